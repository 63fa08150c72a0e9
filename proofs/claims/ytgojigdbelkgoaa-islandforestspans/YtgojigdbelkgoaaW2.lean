/- printed walks -/
import Derived.Test.YtgojigdbelkgoaaW1
namespace Go.Proofs.Ytgojigdbelkgoaa
open Go.Sk Go
set_option maxHeartbeats 4000000
set_option maxRecDepth 4000
set_option linter.unusedSimpArgs false
set_option linter.unusedVariables false
def dA (F:Nat) (fixed0:List Bool) (links0:List A2):Option ((List Int) × (List Int)) :=
 (dt F fixed0 links0).bind fun x_1=>(cC F (fixed0.length:Int) links0 x_1).bind fun x_2=>Option.bind (mk? (0:Int) (fixed0.length:Int) (fixed0.length:Int)) (fun x_3=>Option.bind (mk? (0:Int) (fixed0.length:Int) (fixed0.length:Int)) (fun x_4=>Option.bind (iter F (un6 fun keysf0_7 bridgesf0_8 seenf0_9 visitf0_10 visitf0f0_11 x_12=>if (decide (x_12 < (fixed0.length:Int))) = true then (Option.bind ((aE fixed0 x_12).bind fun x_20=>(dc (!x_20) (aE seenf0_9 x_12)).bind fun x_21=>if ((!x_20) && (decide (x_21 = 0))) = true then (Option.bind (jL F x_12 (-1) visitf0_10 seenf0_9 visitf0f0_11 x_2 bridgesf0_8 keysf0_7) (un5 fun x_22 x_23 x_24 x_25 x_26=>some (x_26,x_25,x_23,x_22,x_24))) else (some (keysf0_7,bridgesf0_8,seenf0_9,visitf0_10,visitf0f0_11))) (un5 fun keysf0_15 bridgesf0_16 seenf0_17 visitf0_18 visitf0f0_19=>some (.inl (keysf0_15,bridgesf0_16,seenf0_17,visitf0_18,visitf0f0_19,IntKind.i64.wrap (x_12 + 1))))) else (some (.inr (keysf0_7,bridgesf0_8)))) ([],[],x_3,0,x_4,0)) (cm fun keysf0_5 bridgesf0_6=>(cz F keysf0_5).bind fun x_27=>(cz F bridgesf0_6).bind fun x_28=>some (x_27,x_28))))
theorem jd {F:Nat} {fixed0:List Bool} {links0:List A2} {r:(List Int) × (List Int)} (h:dA F fixed0 links0 = some r):ay Try.prog [] 39 [] [.one (.sl 1 (fixed0.map eB)),.one (.sl 2 (links0.map (cy .i64)))] (Is [] (.eJ [.one (.sl 1 (r.1.map eI)),.one (.sl 1 (r.2.map eI))])):=by
 unfold dA at h
 refine ay.intro 53 Try.func39 Try.ntmps39 rfl (by simp) fun E=>?_
 show ab _ E ⟨53,[],[],[]⟩ _ ⟨[(0,.b (.one (.sl 1 (fixed0.map eB)))),(1,.b (.one (.sl 2 (links0.map (cy .i64)))))],[]⟩ _
 refine ab.seq (ab.aa ?_)
 refine Oc (bh (k:=101) cA rfl) (Oc (bh (k:=102) cA rfl) ?_)
 refine ae.ag ⟨[(0,.b (.one (.sl 1 (fixed0.map eB)))),(1,.b (.one (.sl 2 (links0.map (cy .i64))))),(4,Pt 101 0),(5,Pt 102 0)],[(101,.box 30 [.nil]),(102,.box 30 [.nil])]⟩ rfl (ab.seq (ab.aa ?_))
 refine Oc om (Oc (aw dC rfl (List.length_map _)) (Oc om (Oc om (Oc om ?_))))
 refine ae.af ⟨[(0,_),(4,_),(5,_),(14,I (fixed0.length:Int)),(15,.b (.one (.sl 2 (links0.map (cy .i64))))),(16,.b (.one (.sl 1 (fixed0.map eB)))),(17,.b (.one (.sl 2 (links0.map (cy .i64)))))],[(101,_),(102,_)]⟩ rfl ?_
 obtain ⟨x_1,e1,h⟩:=aL h
 refine Oc (bo (hX 103 e1) s4 rfl trivial rfl rfl) (ae.bI 103 rfl ?_)
 obtain ⟨x_2,e2,h⟩:=aL h
 refine Oc (aT (fN e2) s8 rfl rfl) (Oc (bh (k:=104) tA rfl) (Oc (gu rj rfl rfl rfl (Nat.le_of_ble_eq_true rfl) rfl) ?_))
 refine ae.ag ⟨[(0,.b (.one (.sl 1 (fixed0.map eB)))),(4,Pt 101 0),(5,Pt 102 0),(6,Pt 104 0)],[(101,.box 30 [.nil]),(102,.box 30 [.nil]),(104,.box 56 [.sl 1 (x_2.map (eL 2 aQ))])]⟩ rfl (ab.seq ?_)
 obtain ⟨x_3,e3,h⟩:=aL h
 obtain ⟨x_4,e4,h⟩:=aL h
 refine ab.nu mixed [false,false,true,false,false,true,true,true,true,true] [.b (.one (.sl 1 (fixed0.map eB))),I (fixed0.length:Int),.b (.row 105),.b (.one (.sl 1 (fixed0.map eB))),I (fixed0.length:Int),.b (.row 106),Pt 107 0,Pt 108 0,B true,B true] [⟨[false,false,false,false,false,false,false,false,false,false],[(0,.b (.one (.sl 1 (fixed0.map eB)))),(4,Pt 101 0),(5,Pt 102 0),(6,Pt 104 0)],[(101,.box 30 [.nil]),(102,.box 30 [.nil]),(104,.box 56 [.sl 1 (x_2.map (eL 2 aQ))])],[true,true,true,true,true,true,true,true,true,true],[],[8,9]⟩,⟨[false,false,true,false,false,false,false,false,false,false],[(0,.b (.one (.sl 1 (fixed0.map eB)))),(4,Pt 101 0),(5,Pt 102 0),(6,Pt 104 0)],[(101,.box 30 [.nil]),(102,.box 30 [.nil]),(104,.box 56 [.sl 1 (x_2.map (eL 2 aQ))]),(105,.row 3 1 (x_3.map eI))],[true,true,true,true,true,true,true,true,true,true],[0,1,2],[8,9]⟩,⟨[false,false,false,false,false,true,false,false,false,false],[(0,.b (.one (.sl 1 (fixed0.map eB)))),(4,Pt 101 0),(5,Pt 102 0),(6,Pt 104 0)],[(101,.box 30 [.nil]),(102,.box 30 [.nil]),(104,.box 56 [.sl 1 (x_2.map (eL 2 aQ))]),(106,.row 3 1 (x_4.map eI))],[true,true,true,true,true,true,true,true,true,true],[3,4,5],[8,9]⟩,⟨[false,false,false,false,false,false,true,false,false,false],[(0,.b (.one (.sl 1 (fixed0.map eB)))),(4,Pt 101 0),(5,Pt 102 0),(6,Pt 104 0)],[(101,.box 30 [.nil]),(102,.box 30 [.nil]),(104,.box 56 [.sl 1 (x_2.map (eL 2 aQ))]),(107,.box 30 [.nil])],[true,true,true,true,true,true,true,true,true,true],[6],[8,9]⟩,⟨[false,false,false,false,false,false,false,true,false,false],[(0,.b (.one (.sl 1 (fixed0.map eB)))),(4,Pt 101 0),(5,Pt 102 0),(6,Pt 104 0)],[(101,.box 30 [.nil]),(102,.box 30 [.nil]),(104,.box 56 [.sl 1 (x_2.map (eL 2 aQ))]),(108,.box 30 [.nil])],[true,true,true,true,true,true,true,true,true,true],[7],[8,9]⟩,⟨[false,false,true,false,false,true,false,false,false,false],[(0,.b (.one (.sl 1 (fixed0.map eB)))),(4,Pt 101 0),(5,Pt 102 0),(6,Pt 104 0)],[(101,.box 30 [.nil]),(102,.box 30 [.nil]),(104,.box 56 [.sl 1 (x_2.map (eL 2 aQ))]),(105,.row 3 1 (x_3.map eI)),(106,.row 3 1 (x_4.map eI))],[true,true,true,true,true,true,true,true,true,true],[0,1,2,3,4,5],[8,9]⟩,⟨[false,false,true,false,false,false,true,false,false,false],[(0,.b (.one (.sl 1 (fixed0.map eB)))),(4,Pt 101 0),(5,Pt 102 0),(6,Pt 104 0)],[(101,.box 30 [.nil]),(102,.box 30 [.nil]),(104,.box 56 [.sl 1 (x_2.map (eL 2 aQ))]),(105,.row 3 1 (x_3.map eI)),(107,.box 30 [.nil])],[true,true,true,true,true,true,true,true,true,true],[0,1,2,6],[8,9]⟩,⟨[false,false,true,false,false,false,false,true,false,false],[(0,.b (.one (.sl 1 (fixed0.map eB)))),(4,Pt 101 0),(5,Pt 102 0),(6,Pt 104 0)],[(101,.box 30 [.nil]),(102,.box 30 [.nil]),(104,.box 56 [.sl 1 (x_2.map (eL 2 aQ))]),(105,.row 3 1 (x_3.map eI)),(108,.box 30 [.nil])],[true,true,true,true,true,true,true,true,true,true],[0,1,2,7],[8,9]⟩,⟨[false,false,false,false,false,true,true,false,false,false],[(0,.b (.one (.sl 1 (fixed0.map eB)))),(4,Pt 101 0),(5,Pt 102 0),(6,Pt 104 0)],[(101,.box 30 [.nil]),(102,.box 30 [.nil]),(104,.box 56 [.sl 1 (x_2.map (eL 2 aQ))]),(106,.row 3 1 (x_4.map eI)),(107,.box 30 [.nil])],[true,true,true,true,true,true,true,true,true,true],[3,4,5,6],[8,9]⟩,⟨[false,false,false,false,false,true,false,true,false,false],[(0,.b (.one (.sl 1 (fixed0.map eB)))),(4,Pt 101 0),(5,Pt 102 0),(6,Pt 104 0)],[(101,.box 30 [.nil]),(102,.box 30 [.nil]),(104,.box 56 [.sl 1 (x_2.map (eL 2 aQ))]),(106,.row 3 1 (x_4.map eI)),(108,.box 30 [.nil])],[true,true,true,true,true,true,true,true,true,true],[3,4,5,7],[8,9]⟩,⟨[false,false,false,false,false,false,true,true,false,false],[(0,.b (.one (.sl 1 (fixed0.map eB)))),(4,Pt 101 0),(5,Pt 102 0),(6,Pt 104 0)],[(101,.box 30 [.nil]),(102,.box 30 [.nil]),(104,.box 56 [.sl 1 (x_2.map (eL 2 aQ))]),(107,.box 30 [.nil]),(108,.box 30 [.nil])],[true,true,true,true,true,true,true,true,true,true],[6,7],[8,9]⟩,⟨[false,false,true,false,false,true,true,false,false,false],[(0,.b (.one (.sl 1 (fixed0.map eB)))),(4,Pt 101 0),(5,Pt 102 0),(6,Pt 104 0)],[(101,.box 30 [.nil]),(102,.box 30 [.nil]),(104,.box 56 [.sl 1 (x_2.map (eL 2 aQ))]),(105,.row 3 1 (x_3.map eI)),(106,.row 3 1 (x_4.map eI)),(107,.box 30 [.nil])],[true,true,true,true,true,true,true,true,true,true],[0,1,2,3,4,5,6],[8,9]⟩,⟨[false,false,true,false,false,true,false,true,false,false],[(0,.b (.one (.sl 1 (fixed0.map eB)))),(4,Pt 101 0),(5,Pt 102 0),(6,Pt 104 0)],[(101,.box 30 [.nil]),(102,.box 30 [.nil]),(104,.box 56 [.sl 1 (x_2.map (eL 2 aQ))]),(105,.row 3 1 (x_3.map eI)),(106,.row 3 1 (x_4.map eI)),(108,.box 30 [.nil])],[true,true,true,true,true,true,true,true,true,true],[0,1,2,3,4,5,7],[8,9]⟩,⟨[false,false,true,false,false,false,true,true,false,false],[(0,.b (.one (.sl 1 (fixed0.map eB)))),(4,Pt 101 0),(5,Pt 102 0),(6,Pt 104 0)],[(101,.box 30 [.nil]),(102,.box 30 [.nil]),(104,.box 56 [.sl 1 (x_2.map (eL 2 aQ))]),(105,.row 3 1 (x_3.map eI)),(107,.box 30 [.nil]),(108,.box 30 [.nil])],[true,true,true,true,true,true,true,true,true,true],[0,1,2,6,7],[9]⟩,⟨[false,false,false,false,false,true,true,true,false,false],[(0,.b (.one (.sl 1 (fixed0.map eB)))),(4,Pt 101 0),(5,Pt 102 0),(6,Pt 104 0)],[(101,.box 30 [.nil]),(102,.box 30 [.nil]),(104,.box 56 [.sl 1 (x_2.map (eL 2 aQ))]),(106,.row 3 1 (x_4.map eI)),(107,.box 30 [.nil]),(108,.box 30 [.nil])],[true,true,true,true,true,true,true,true,true,true],[3,4,5,6,7],[8,9]⟩,⟨[false,false,true,false,false,true,true,true,false,false],[(0,.b (.one (.sl 1 (fixed0.map eB)))),(4,Pt 101 0),(5,Pt 102 0),(6,Pt 104 0)],[(101,.box 30 [.nil]),(102,.box 30 [.nil]),(104,.box 56 [.sl 1 (x_2.map (eL 2 aQ))]),(105,.row 3 1 (x_3.map eI)),(106,.row 3 1 (x_4.map eI)),(107,.box 30 [.nil]),(108,.box 30 [.nil])],[true,true,true,true,true,true,true,true,true,true],[0,1,2,3,4,5,6,7],[9]⟩,⟨[false,false,true,false,false,false,true,true,true,false],[(0,.b (.one (.sl 1 (fixed0.map eB)))),(4,Pt 101 0),(5,Pt 102 0),(6,Pt 104 0)],[(101,.box 30 [.nil]),(102,.box 30 [.nil]),(104,.box 56 [.sl 1 (x_2.map (eL 2 aQ))]),(105,.row 3 1 (x_3.map eI)),(107,.ao 30 [.row 105]),(108,.box 30 [.nil])],[true,true,true,true,true,true,true,true,true,true],[0,1,2,6,7,8],[9]⟩,⟨[false,false,true,false,false,true,true,true,true,false],[(0,.b (.one (.sl 1 (fixed0.map eB)))),(4,Pt 101 0),(5,Pt 102 0),(6,Pt 104 0)],[(101,.box 30 [.nil]),(102,.box 30 [.nil]),(104,.box 56 [.sl 1 (x_2.map (eL 2 aQ))]),(105,.row 3 1 (x_3.map eI)),(106,.row 3 1 (x_4.map eI)),(107,.ao 30 [.row 105]),(108,.box 30 [.nil])],[true,true,true,true,true,true,true,true,true,true],[0,1,2,3,4,5,6,7,8],[]⟩,⟨[false,false,true,false,false,true,true,true,true,true],[(0,.b (.one (.sl 1 (fixed0.map eB)))),(4,Pt 101 0),(5,Pt 102 0),(6,Pt 104 0)],[(101,.box 30 [.nil]),(102,.box 30 [.nil]),(104,.box 56 [.sl 1 (x_2.map (eL 2 aQ))]),(105,.row 3 1 (x_3.map eI)),(106,.row 3 1 (x_4.map eI)),(107,.ao 30 [.row 105]),(108,.ao 30 [.row 106])],[true,true,true,true,true,true,true,true,true,true],[0,1,2,3,4,5,6,7,8,9],[]⟩] rfl (⟨by kernel_rfl,⟨⟨.b (.one (.sl 1 (fixed0.map eB))),fun _=>rfl,fun _=>.p (by exact an rfl)⟩,⟨I (fixed0.length:Int),fun _=>rfl,fun _=>.p (by exact aw dC rfl (List.length_map _))⟩,⟨_,[105],.b (.row 105),rfl,fun _=>rfl,rfl,rfl,fun _=>.fO [101,102,104,105] (by exact .p (by exact bg (k:=105) (enc:=eI) aq e3 (by decide) (.cons .refl .nil) rfl rfl rfl)) (by exact rfl)⟩,⟨.b (.one (.sl 1 (fixed0.map eB))),fun _=>rfl,fun _=>.p (by exact an rfl)⟩,⟨I (fixed0.length:Int),fun _=>rfl,fun _=>.p (by exact aw dC rfl (List.length_map _))⟩,⟨_,[106],.b (.row 106),rfl,fun _=>rfl,rfl,rfl,fun _=>.fO [101,102,104,106] (by exact .p (by exact bg (k:=106) (enc:=eI) aq e4 (by decide) (.cons .refl .nil) rfl rfl rfl)) (by exact rfl)⟩,⟨_,[107],Pt 107 0,rfl,fun _=>rfl,rfl,rfl,fun _=>.fO [101,102,104,107] (by exact .p (by exact bh (k:=107) cA rfl)) (by exact rfl)⟩,⟨_,[108],Pt 108 0,rfl,fun _=>rfl,rfl,rfl,fun _=>.fO [101,102,104,108] (by exact .p (by exact bh (k:=108) cA rfl)) (by exact rfl)⟩,trivial,trivial,trivial⟩,⟨by kernel_rfl,⟨trivial,trivial,trivial,⟨.b (.one (.sl 1 (fixed0.map eB))),fun _=>rfl,fun _=>.p (by exact an rfl)⟩,⟨I (fixed0.length:Int),fun _=>rfl,fun _=>.p (by exact aw dC rfl (List.length_map _))⟩,⟨_,[106],.b (.row 106),rfl,fun _=>rfl,rfl,rfl,fun _=>.fO [101,102,104,105,106] (by exact .p (by exact bg (k:=106) (enc:=eI) aq e4 (by decide) (.cons .refl .nil) rfl rfl rfl)) (by exact rfl)⟩,⟨_,[107],Pt 107 0,rfl,fun _=>rfl,rfl,rfl,fun _=>.fO [101,102,104,105,107] (by exact .p (by exact bh (k:=107) cA rfl)) (by exact rfl)⟩,⟨_,[108],Pt 108 0,rfl,fun _=>rfl,rfl,rfl,fun _=>.fO [101,102,104,105,108] (by exact .p (by exact bh (k:=108) cA rfl)) (by exact rfl)⟩,trivial,trivial,trivial⟩,⟨by kernel_rfl,⟨⟨.b (.one (.sl 1 (fixed0.map eB))),fun _=>rfl,fun _=>.p (by exact an rfl)⟩,⟨I (fixed0.length:Int),fun _=>rfl,fun _=>.p (by exact aw dC rfl (List.length_map _))⟩,⟨_,[105],.b (.row 105),rfl,fun _=>rfl,rfl,rfl,fun _=>.fO [101,102,104,105,106] (by exact .p (by exact bg (k:=105) (enc:=eI) aq e3 (by decide) (.cons .refl .nil) rfl rfl rfl)) (by exact rfl)⟩,trivial,trivial,trivial,⟨_,[107],Pt 107 0,rfl,fun _=>rfl,rfl,rfl,fun _=>.fO [101,102,104,106,107] (by exact .p (by exact bh (k:=107) cA rfl)) (by exact rfl)⟩,⟨_,[108],Pt 108 0,rfl,fun _=>rfl,rfl,rfl,fun _=>.fO [101,102,104,106,108] (by exact .p (by exact bh (k:=108) cA rfl)) (by exact rfl)⟩,trivial,trivial,trivial⟩,⟨by kernel_rfl,⟨⟨.b (.one (.sl 1 (fixed0.map eB))),fun _=>rfl,fun _=>.p (by exact an rfl)⟩,⟨I (fixed0.length:Int),fun _=>rfl,fun _=>.p (by exact aw dC rfl (List.length_map _))⟩,⟨_,[105],.b (.row 105),rfl,fun _=>rfl,rfl,rfl,fun _=>.fO [101,102,104,105,107] (by exact .p (by exact bg (k:=105) (enc:=eI) aq e3 (by decide) (.cons .refl .nil) rfl rfl rfl)) (by exact rfl)⟩,⟨.b (.one (.sl 1 (fixed0.map eB))),fun _=>rfl,fun _=>.p (by exact an rfl)⟩,⟨I (fixed0.length:Int),fun _=>rfl,fun _=>.p (by exact aw dC rfl (List.length_map _))⟩,⟨_,[106],.b (.row 106),rfl,fun _=>rfl,rfl,rfl,fun _=>.fO [101,102,104,106,107] (by exact .p (by exact bg (k:=106) (enc:=eI) aq e4 (by decide) (.cons .refl .nil) rfl rfl rfl)) (by exact rfl)⟩,trivial,⟨_,[108],Pt 108 0,rfl,fun _=>rfl,rfl,rfl,fun _=>.fO [101,102,104,107,108] (by exact .p (by exact bh (k:=108) cA rfl)) (by exact rfl)⟩,trivial,trivial,trivial⟩,⟨by kernel_rfl,⟨⟨.b (.one (.sl 1 (fixed0.map eB))),fun _=>rfl,fun _=>.p (by exact an rfl)⟩,⟨I (fixed0.length:Int),fun _=>rfl,fun _=>.p (by exact aw dC rfl (List.length_map _))⟩,⟨_,[105],.b (.row 105),rfl,fun _=>rfl,rfl,rfl,fun _=>.fO [101,102,104,105,108] (by exact .p (by exact bg (k:=105) (enc:=eI) aq e3 (by decide) (.cons .refl .nil) rfl rfl rfl)) (by exact rfl)⟩,⟨.b (.one (.sl 1 (fixed0.map eB))),fun _=>rfl,fun _=>.p (by exact an rfl)⟩,⟨I (fixed0.length:Int),fun _=>rfl,fun _=>.p (by exact aw dC rfl (List.length_map _))⟩,⟨_,[106],.b (.row 106),rfl,fun _=>rfl,rfl,rfl,fun _=>.fO [101,102,104,106,108] (by exact .p (by exact bg (k:=106) (enc:=eI) aq e4 (by decide) (.cons .refl .nil) rfl rfl rfl)) (by exact rfl)⟩,⟨_,[107],Pt 107 0,rfl,fun _=>rfl,rfl,rfl,fun _=>.fO [101,102,104,107,108] (by exact .p (by exact bh (k:=107) cA rfl)) (by exact rfl)⟩,trivial,trivial,trivial,trivial⟩,⟨by kernel_rfl,⟨trivial,trivial,trivial,trivial,trivial,trivial,⟨_,[107],Pt 107 0,rfl,fun _=>rfl,rfl,rfl,fun _=>.fO [101,102,104,105,106,107] (by exact .p (by exact bh (k:=107) cA rfl)) (by exact rfl)⟩,⟨_,[108],Pt 108 0,rfl,fun _=>rfl,rfl,rfl,fun _=>.fO [101,102,104,105,106,108] (by exact .p (by exact bh (k:=108) cA rfl)) (by exact rfl)⟩,trivial,trivial,trivial⟩,⟨by kernel_rfl,⟨trivial,trivial,trivial,⟨.b (.one (.sl 1 (fixed0.map eB))),fun _=>rfl,fun _=>.p (by exact an rfl)⟩,⟨I (fixed0.length:Int),fun _=>rfl,fun _=>.p (by exact aw dC rfl (List.length_map _))⟩,⟨_,[106],.b (.row 106),rfl,fun _=>rfl,rfl,rfl,fun _=>.fO [101,102,104,105,106,107] (by exact .p (by exact bg (k:=106) (enc:=eI) aq e4 (by decide) (.cons .refl .nil) rfl rfl rfl)) (by exact rfl)⟩,trivial,⟨_,[108],Pt 108 0,rfl,fun _=>rfl,rfl,rfl,fun _=>.fO [101,102,104,105,107,108] (by exact .p (by exact bh (k:=108) cA rfl)) (by exact rfl)⟩,trivial,trivial,trivial⟩,⟨by kernel_rfl,⟨trivial,trivial,trivial,⟨.b (.one (.sl 1 (fixed0.map eB))),fun _=>rfl,fun _=>.p (by exact an rfl)⟩,⟨I (fixed0.length:Int),fun _=>rfl,fun _=>.p (by exact aw dC rfl (List.length_map _))⟩,⟨_,[106],.b (.row 106),rfl,fun _=>rfl,rfl,rfl,fun _=>.fO [101,102,104,105,106,108] (by exact .p (by exact bg (k:=106) (enc:=eI) aq e4 (by decide) (.cons .refl .nil) rfl rfl rfl)) (by exact rfl)⟩,⟨_,[107],Pt 107 0,rfl,fun _=>rfl,rfl,rfl,fun _=>.fO [101,102,104,105,107,108] (by exact .p (by exact bh (k:=107) cA rfl)) (by exact rfl)⟩,trivial,trivial,trivial,trivial⟩,⟨by kernel_rfl,⟨⟨.b (.one (.sl 1 (fixed0.map eB))),fun _=>rfl,fun _=>.p (by exact an rfl)⟩,⟨I (fixed0.length:Int),fun _=>rfl,fun _=>.p (by exact aw dC rfl (List.length_map _))⟩,⟨_,[105],.b (.row 105),rfl,fun _=>rfl,rfl,rfl,fun _=>.fO [101,102,104,105,106,107] (by exact .p (by exact bg (k:=105) (enc:=eI) aq e3 (by decide) (.cons .refl .nil) rfl rfl rfl)) (by exact rfl)⟩,trivial,trivial,trivial,trivial,⟨_,[108],Pt 108 0,rfl,fun _=>rfl,rfl,rfl,fun _=>.fO [101,102,104,106,107,108] (by exact .p (by exact bh (k:=108) cA rfl)) (by exact rfl)⟩,trivial,trivial,trivial⟩,⟨by kernel_rfl,⟨⟨.b (.one (.sl 1 (fixed0.map eB))),fun _=>rfl,fun _=>.p (by exact an rfl)⟩,⟨I (fixed0.length:Int),fun _=>rfl,fun _=>.p (by exact aw dC rfl (List.length_map _))⟩,⟨_,[105],.b (.row 105),rfl,fun _=>rfl,rfl,rfl,fun _=>.fO [101,102,104,105,106,108] (by exact .p (by exact bg (k:=105) (enc:=eI) aq e3 (by decide) (.cons .refl .nil) rfl rfl rfl)) (by exact rfl)⟩,trivial,trivial,trivial,⟨_,[107],Pt 107 0,rfl,fun _=>rfl,rfl,rfl,fun _=>.fO [101,102,104,106,107,108] (by exact .p (by exact bh (k:=107) cA rfl)) (by exact rfl)⟩,trivial,trivial,trivial,trivial⟩,⟨by kernel_rfl,⟨⟨.b (.one (.sl 1 (fixed0.map eB))),fun _=>rfl,fun _=>.p (by exact an rfl)⟩,⟨I (fixed0.length:Int),fun _=>rfl,fun _=>.p (by exact aw dC rfl (List.length_map _))⟩,⟨_,[105],.b (.row 105),rfl,fun _=>rfl,rfl,rfl,fun _=>.fO [101,102,104,105,107,108] (by exact .p (by exact bg (k:=105) (enc:=eI) aq e3 (by decide) (.cons .refl .nil) rfl rfl rfl)) (by exact rfl)⟩,⟨.b (.one (.sl 1 (fixed0.map eB))),fun _=>rfl,fun _=>.p (by exact an rfl)⟩,⟨I (fixed0.length:Int),fun _=>rfl,fun _=>.p (by exact aw dC rfl (List.length_map _))⟩,⟨_,[106],.b (.row 106),rfl,fun _=>rfl,rfl,rfl,fun _=>.fO [101,102,104,106,107,108] (by exact .p (by exact bg (k:=106) (enc:=eI) aq e4 (by decide) (.cons .refl .nil) rfl rfl rfl)) (by exact rfl)⟩,trivial,trivial,trivial,trivial,trivial⟩,⟨by kernel_rfl,⟨trivial,trivial,trivial,trivial,trivial,trivial,trivial,⟨_,[108],Pt 108 0,rfl,fun _=>rfl,rfl,rfl,fun _=>.fO [101,102,104,105,106,107,108] (by exact .p (by exact bh (k:=108) cA rfl)) (by exact rfl)⟩,trivial,trivial,trivial⟩,⟨by kernel_rfl,⟨trivial,trivial,trivial,trivial,trivial,trivial,⟨_,[107],Pt 107 0,rfl,fun _=>rfl,rfl,rfl,fun _=>.fO [101,102,104,105,106,107,108] (by exact .p (by exact bh (k:=107) cA rfl)) (by exact rfl)⟩,trivial,trivial,trivial,trivial⟩,⟨by kernel_rfl,⟨trivial,trivial,trivial,⟨.b (.one (.sl 1 (fixed0.map eB))),fun _=>rfl,fun _=>.p (by exact an rfl)⟩,⟨I (fixed0.length:Int),fun _=>rfl,fun _=>.p (by exact aw dC rfl (List.length_map _))⟩,⟨_,[106],.b (.row 106),rfl,fun _=>rfl,rfl,rfl,fun _=>.fO [101,102,104,105,106,107,108] (by exact .p (by exact bg (k:=106) (enc:=eI) aq e4 (by decide) (.cons .refl .nil) rfl rfl rfl)) (by exact rfl)⟩,trivial,trivial,⟨_,[],.b (.one .any),rfl,(fun e=>by simp at e),rfl,rfl,fun _=>.fO [101,102,104,105,107,108] (by exact .ow 107 rfl (.plain rfl (dM aZ rfl rfl rfl rfl (Nat.le_of_ble_eq_true rfl) rfl))) (by exact rfl)⟩,trivial,trivial⟩,⟨by kernel_rfl,⟨⟨.b (.one (.sl 1 (fixed0.map eB))),fun _=>rfl,fun _=>.p (by exact an rfl)⟩,⟨I (fixed0.length:Int),fun _=>rfl,fun _=>.p (by exact aw dC rfl (List.length_map _))⟩,⟨_,[105],.b (.row 105),rfl,fun _=>rfl,rfl,rfl,fun _=>.fO [101,102,104,105,106,107,108] (by exact .p (by exact bg (k:=105) (enc:=eI) aq e3 (by decide) (.cons .refl .nil) rfl rfl rfl)) (by exact rfl)⟩,trivial,trivial,trivial,trivial,trivial,trivial,trivial,trivial⟩,⟨by kernel_rfl,⟨trivial,trivial,trivial,trivial,trivial,trivial,trivial,trivial,⟨_,[],.b (.one .any),rfl,(fun e=>by simp at e),rfl,rfl,fun _=>.fO [101,102,104,105,106,107,108] (by exact .ow 107 rfl (.plain rfl (dM aZ rfl rfl rfl rfl (Nat.le_of_ble_eq_true rfl) rfl))) (by exact rfl)⟩,trivial,trivial⟩,⟨by kernel_rfl,⟨trivial,trivial,trivial,⟨.b (.one (.sl 1 (fixed0.map eB))),fun _=>rfl,fun _=>.p (by exact an rfl)⟩,⟨I (fixed0.length:Int),fun _=>rfl,fun _=>.p (by exact aw dC rfl (List.length_map _))⟩,⟨_,[106],.b (.row 106),rfl,fun _=>rfl,rfl,rfl,fun _=>.fO [101,102,104,105,106,107,108] (by exact .p (by exact bg (k:=106) (enc:=eI) aq e4 (by decide) (.cons .refl .nil) rfl rfl rfl)) (by exact rfl)⟩,trivial,trivial,trivial,trivial,trivial⟩,⟨by kernel_rfl,⟨trivial,trivial,trivial,trivial,trivial,trivial,trivial,trivial,trivial,⟨_,[],.b (.one .any),rfl,(fun e=>by simp at e),rfl,rfl,fun _=>.fO [101,102,104,105,106,107,108] (by exact .ow 108 rfl (.plain rfl (dM aZ rfl rfl rfl rfl (Nat.le_of_ble_eq_true rfl) rfl))) (by exact rfl)⟩,trivial⟩,⟨by kernel_rfl,⟨trivial,trivial,trivial,trivial,trivial,trivial,trivial,trivial,trivial,trivial,trivial⟩,trivial⟩⟩⟩⟩⟩⟩⟩⟩⟩⟩⟩⟩⟩⟩⟩⟩⟩⟩⟩) rfl rfl rfl [0,4,5,6,7,8] [101,102,104,105,106,107,108] (s':=⟨[(0,.b (.one (.sl 1 (fixed0.map eB)))),(4,Pt 101 0),(5,Pt 102 0),(6,Pt 104 0),(7,Pt 107 0),(8,Pt 108 0)],[(101,.box 30 [.nil]),(102,.box 30 [.nil]),(104,.box 56 [.sl 1 (x_2.map (eL 2 aQ))]),(105,.row 3 1 (x_3.map eI)),(106,.row 3 1 (x_4.map eI)),(107,.ao 30 [.row 105]),(108,.ao 30 [.row 106])]⟩) rfl ?_
 refine ab.seq (ab.aa ?_)
 refine Oc (bh (k:=109) tyZero3 rfl) (Oc (gu az rfl rfl rfl (Nat.le_of_ble_eq_true rfl) rfl) ?_)
 refine ae.ag ⟨[(0,_),(4,_),(5,_),(6,_),(7,_),(8,_),(9,Pt 109 0)],[(101,_),(102,_),(104,_),(105,_),(106,_),(107,_),(108,_),(109,.box 3 [.i 0])]⟩ rfl (ab.seq (ab.aa ?_))
 refine Oc (bh (k:=110) tx rfl) (ae.ag ⟨[(0,_),(4,_),(5,_),(6,_),(7,_),(8,_),(9,_),(10,Pt 110 0)],[(101,_),(102,_),(104,_),(105,_),(106,_),(107,_),(108,_),(109,_),(110,.box 80 [.raw .nilFunc])]⟩ rfl (ab.seq (ab.aa ?_)))
 refine Oc (qo rfl rfl) (ae.ow 110 rfl (Oc (dM pd rfl rfl rfl rfl (Nat.le_of_ble_eq_true rfl) rfl) (ae.ag ⟨[(0,.b (.one (.sl 1 (fixed0.map eB)))),(4,Pt 101 0),(5,Pt 102 0),(7,Pt 107 0),(10,Pt 110 0)],[(101,.box 30 [.nil]),(102,.box 30 [.nil]),(104,.box 56 [.sl 1 (x_2.map (eL 2 aQ))]),(105,.row 3 1 (x_3.map eI)),(106,.row 3 1 (x_4.map eI)),(107,.ao 30 [.row 105]),(108,.ao 30 [.row 106]),(109,.box 3 [.i 0]),(110,.ao 80 [.gK 53 [] [.ptr 109 0,.ptr 107 0,.ptr 108 0,.ptr 104 0,.ptr 110 0,.ptr 102 0,.ptr 101 0]])]⟩ rfl ?_)))
 obtain ⟨v5,h6,h⟩:=aL h
 refine ab.cM (v:=v5) (cm fun (keysf0_5:List Int) (bridgesf0_6:List Int)=>⟨[(4,Pt 101 0),(5,Pt 102 0)],[(101,.ao 30 [.row 112]),(102,.ao 30 [.row 111]),(111,.row 3 1 (bridgesf0_6.map eI)),(112,.row 3 1 (keysf0_5.map eI))]⟩) (fun z=>z) ?_ ?_
 ·refine ab.seq (ab.aa ?_)
  refine Oc om (Oc (aw dC rfl (List.length_map _)) (Oc om ?_))
  refine ae.ag ⟨[(4,Pt 101 0),(5,Pt 102 0),(7,Pt 107 0),(10,Pt 110 0),(27,.b (.one (.sl 1 (fixed0.map eB)))),(28,I (fixed0.length:Int)),(29,I 0)],[(101,.box 30 [.nil]),(102,.box 30 [.nil]),(104,.box 56 [.sl 1 (x_2.map (eL 2 aQ))]),(105,.row 3 1 (x_3.map eI)),(106,.row 3 1 (x_4.map eI)),(107,.ao 30 [.row 105]),(108,.ao 30 [.row 106]),(109,.box 3 [.i 0]),(110,.ao 80 [.gK 53 [] [.ptr 109 0,.ptr 107 0,.ptr 108 0,.ptr 104 0,.ptr 110 0,.ptr 102 0,.ptr 101 0]])]⟩ rfl (ab.block (ab.ow 101 rfl (ab.ir 101 0 112 1 3 rfl rfl (by decide) (by decide) rfl (ab.ow 102 rfl (ab.ir 102 0 111 1 3 rfl rfl (by decide) (by decide) rfl ?_)))))
  refine ab.cE h6 (un6 fun (keysf0_7:List Int) (bridgesf0_8:List Int) (seenf0_9:List Int) (visitf0_10:Int) (visitf0f0_11:List Int) (x_12:Int)=>⟨[(4,Pt 101 0),(5,Pt 102 0),(7,Pt 107 0),(10,Pt 110 0),(27,.b (.one (.sl 1 (fixed0.map eB)))),(28,I (fixed0.length:Int)),(29,I x_12)],[(101,.ao 30 [.row 112]),(102,.ao 30 [.row 111]),(104,.box 56 [.sl 1 (x_2.map (eL 2 aQ))]),(105,.row 3 1 (seenf0_9.map eI)),(106,.row 3 1 (visitf0f0_11.map eI)),(107,.ao 30 [.row 105]),(108,.ao 30 [.row 106]),(109,.box 3 [.i visitf0_10]),(110,.ao 80 [.gK 53 [] [.ptr 109 0,.ptr 107 0,.ptr 108 0,.ptr 104 0,.ptr 110 0,.ptr 102 0,.ptr 101 0]]),(111,.row 3 1 (bridgesf0_8.map eI)),(112,.row 3 1 (keysf0_7.map eI))]⟩) [4,5,7,10,27,28,29] [101,102,104,105,106,107,108,109,110,111,112] rfl ?_
  rintro ⟨keysf0_7,bridgesf0_8,seenf0_9,visitf0_10,visitf0f0_11,x_12⟩ o7 h8 hy9
  refine ab.seq (ab.aa ?_)
  refine Oc (bt rfl rfl) (ae.ag ⟨[(4,_),(5,_),(7,_),(10,_),(27,_),(28,_),(29,_),(30,B (decide (x_12 < (fixed0.length:Int))))],[(101,_),(102,_),(104,_),(105,_),(106,_),(107,_),(108,_),(109,_),(110,_),(111,_),(112,_)]⟩ rfl (ab.seq (ab.ite h8 rfl (fun _ h8=>?_) (fun _ h8=>?_))))
  ·refine ab.skip (Fin.af ⟨[(4,_),(5,_),(7,_),(10,_),(27,_),(28,_),(29,_)],[(101,_),(102,_),(104,_),(105,_),(106,_),(107,_),(108,_),(109,_),(110,_),(111,_),(112,_)]⟩ rfl (Fin.then ?_))
   obtain ⟨v10,h11,h8⟩:=aL h8
   refine ab.cM (v:=v10) (un5 fun (keysf0_15:List Int) (bridgesf0_16:List Int) (seenf0_17:List Int) (visitf0_18:Int) (visitf0f0_19:List Int)=>⟨[(4,Pt 101 0),(5,Pt 102 0),(7,Pt 107 0),(10,Pt 110 0),(27,.b (.one (.sl 1 (fixed0.map eB)))),(28,I (fixed0.length:Int)),(29,I x_12)],[(101,.ao 30 [.row 112]),(102,.ao 30 [.row 111]),(104,.box 56 [.sl 1 (x_2.map (eL 2 aQ))]),(105,.row 3 1 (seenf0_17.map eI)),(106,.row 3 1 (visitf0f0_19.map eI)),(107,.ao 30 [.row 105]),(108,.ao 30 [.row 106]),(109,.box 3 [.i visitf0_18]),(110,.ao 80 [.gK 53 [] [.ptr 109 0,.ptr 107 0,.ptr 108 0,.ptr 104 0,.ptr 110 0,.ptr 102 0,.ptr 101 0]]),(111,.row 3 1 (bridgesf0_16.map eI)),(112,.row 3 1 (keysf0_15.map eI))]⟩) (fun z=>z) ?_ ?_
   ·refine ab.block (ab.seq (ab.aa ?_))
    refine Oc om ?_
    obtain ⟨x_20,e12,h11⟩:=aL h11
    refine Oc (aK gU (aH e12) (aJ (e:=eB) e12) rfl rfl) (Oc (aG jT rfl rfl) (Oc oa (Oc oa ?_)))
    refine ae.ag ⟨[(4,_),(5,_),(7,_),(10,_),(11,I x_12),(12,B x_20),(27,_),(28,_),(29,_)],[(101,_),(102,_),(104,_),(105,_),(106,_),(107,_),(108,_),(109,_),(110,_),(111,_),(112,_)]⟩ rfl (ab.seq (ab.aa ?_))
    refine Oc om (Oc (dO rfl) (Oc om ?_))
    refine eK (!x_20) [] (fun g13=>trivial) (fun g13=>aS aZ rfl rfl rfl) (eK (!x_20) [] (fun g14=>trivial) (fun g14=>om) ?_)
    obtain ⟨x_21,e16,h11⟩:=aL h11
    refine eK (!x_20) [37,38] (fun g15=>⟨g15,g15,trivial⟩) (fun g15=>ar aq (aH (gc e16 g15)) (aW (gc e16 g15)) rfl rfl rfl rfl) (eK (!x_20) [39] (fun g17=>⟨g17,trivial⟩) (fun g17=>aO (i:=(x_12:Int).toNat) (f:=0) az rfl rfl rfl (aJ (e:=eI) (gc e16 g17)) rfl) (eK (!x_20) [40] (fun g18=>⟨g18,trivial⟩) (fun g18=>dP rfl rfl) (Oc (aY (fun e=>e) rfl rfl rfl rfl) (ae.ag ⟨[(4,_),(5,_),(7,_),(10,_),(11,_),(27,_),(28,_),(29,_),(42,B ((!x_20) && (decide (x_21 = 0))))],[(101,_),(102,_),(104,_),(105,_),(106,_),(107,_),(108,_),(109,_),(110,_),(111,_),(112,_)]⟩ rfl (ab.ite h11 rfl (fun _ h11=>?_) (fun _ h11=>?_))))))
    ·refine ab.aa (Oc (aS pd rfl rfl rfl) (Oc om ?_))
     obtain ⟨⟨x_22,x_23,x_24,x_25,x_26⟩,e19,h11⟩:=aL h11
     refine Oc (pV (own_a:=[(109,_),(107,_),(105,_),(108,_),(106,_),(104,_),(110,_),(102,_),(111,_),(101,_),(112,_)]) (ay.cast (own2:=[(109,.box 3 [.i visitf0_10]),(107,.ao 30 [.row 105]),(105,.row 3 1 (seenf0_9.map eI)),(108,.ao 30 [.row 106]),(106,.row 3 1 (visitf0f0_11.map eI)),(104,.box 56 [.sl 1 (x_2.map (eL 2 aQ))]),(110,.ao 80 [.gK 53 [] [.ptr 109 0,.ptr 107 0,.ptr 108 0,.ptr 104 0,.ptr 110 0,.ptr 102 0,.ptr 101 0]]),(102,.ao 30 [.row 111]),(111,.row 3 1 (bridgesf0_8.map eI)),(101,.ao 30 [.row 112]),(112,.row 3 1 (keysf0_7.map eI))]) (args2:=[.one (.i x_12),.one (.i (-1)),.ptr 109 0,.ptr 107 0,.ptr 108 0,.ptr 104 0,.ptr 110 0,.ptr 102 0,.ptr 101 0]) (own2':=[(109,.box 3 [.i x_22]),(107,.ao 30 [.row 105]),(105,.row 3 1 (x_23.map eI)),(108,.ao 30 [.row 106]),(106,.row 3 1 (x_24.map eI)),(104,.box 56 [.sl 1 (x_2.map (eL 2 aQ))]),(110,.ao 80 [.gK 53 [] [.ptr 109 0,.ptr 107 0,.ptr 108 0,.ptr 104 0,.ptr 110 0,.ptr 102 0,.ptr 101 0]]),(102,.ao 30 [.row 111]),(111,.row 3 1 (x_25.map eI)),(101,.ao 30 [.row 112]),(112,.row 3 1 (x_26.map eI))]) (res2:=.eJ []) ((((((((((((ly e19).sw 1 109).sw 2 107).sw 3 105).sw 4 108).sw 5 106).sw 6 104).sw 7 110).sw 8 102).sw 9 111).sw 10 101).sw 11 112) (by kernel_rfl) (by kernel_rfl) (by kernel_rfl) (by kernel_rfl)) sY rfl rfl rfl ⟨rfl,rfl,rfl,rfl,rfl,rfl,rfl,rfl,rfl,rfl,rfl,trivial⟩ rfl rfl) (ae.af ⟨[(4,Pt 101 0),(5,Pt 102 0),(7,Pt 107 0),(10,Pt 110 0),(11,I x_12),(27,.b (.one (.sl 1 (fixed0.map eB)))),(28,I (fixed0.length:Int)),(29,I x_12),(42,B ((!x_20) && (decide (x_21 = 0)))),(43,.b (.gK 53 [] [.ptr 109 0,.ptr 107 0,.ptr 108 0,.ptr 104 0,.ptr 110 0,.ptr 102 0,.ptr 101 0])),(44,I x_12),(45,.eJ [])],[(101,.ao 30 [.row 112]),(102,.ao 30 [.row 111]),(104,.box 56 [.sl 1 (x_2.map (eL 2 aQ))]),(105,.row 3 1 (x_23.map eI)),(106,.row 3 1 (x_24.map eI)),(107,.ao 30 [.row 105]),(108,.ao 30 [.row 106]),(109,.box 3 [.i x_22]),(110,.ao 80 [.gK 53 [] [.ptr 109 0,.ptr 107 0,.ptr 108 0,.ptr 104 0,.ptr 110 0,.ptr 102 0,.ptr 101 0]]),(111,.row 3 1 (x_25.map eI)),(112,.row 3 1 (x_26.map eI))]⟩ (by kernel_rfl) (ae.nil (Fin.ah ?_)))
     exact Fin.join [4,5,7,10,27,28,29] [101,102,104,105,106,107,108,109,110,111,112] (x_26,x_25,x_23,x_22,x_24) (Option.some.inj h11) rfl
    ·refine ab.skip (Fin.ah ?_)
     exact Fin.join [4,5,7,10,27,28,29] [101,102,104,105,106,107,108,109,110,111,112] (keysf0_7,bridgesf0_8,seenf0_9,visitf0_10,visitf0f0_11) (Option.some.inj h11) rfl
   ·rintro ⟨keysf0_15,bridgesf0_16,seenf0_17,visitf0_18,visitf0f0_19⟩ hv
    subst v10
    refine ab.aa (Oc (aU rfl rfl) (Oc om ?_))
    refine ae.nil ?_
    exact Fin.bG [4,5,7,10,27,28,29] [101,102,104,105,106,107,108,109,110,111,112] (keysf0_15,bridgesf0_16,seenf0_17,visitf0_18,visitf0f0_19,IntKind.i64.wrap (x_12 + 1)) (Option.some.inj h8) rfl
  ·refine ab.exit (Fin.ai ?_)
   obtain rfl:=hy9 _ (Option.some.inj h8).symm
   refine Fin.ai (Fin.aB ?_)
   exact Fin.join [4,5] [101,102,111,112] (keysf0_7,bridgesf0_8) rfl rfl
 ·rintro ⟨keysf0_5,bridgesf0_6⟩ hv
  subst v5
  refine ab.seq (ab.aa ?_)
  refine Oc (aS aZ rfl rfl rfl) (ae.kM 112 rfl ?_)
  obtain ⟨x_27,e20,h⟩:=aL h
  refine Oc (bo (own_a:=[(112,_)]) ((eG e20).sw 1 112) pa rfl ⟨rfl,trivial⟩ rfl rfl) (ae.lz 112 rfl (ae.ag ⟨[(4,_),(5,_)],[(101,_),(102,_),(111,_),(112,.row 3 1 (x_27.map eI))]⟩ rfl (ab.seq (ab.aa ?_))))
  refine Oc (aS aZ rfl rfl rfl) (ae.kM 111 rfl ?_)
  obtain ⟨x_28,e21,h⟩:=aL h
  refine Oc (bo (own_a:=[(111,_)]) ((eG e21).sw 1 111) pa rfl ⟨rfl,trivial⟩ rfl rfl) (ae.lz 111 rfl (ae.ag ⟨[(4,_),(5,_)],[(101,_),(102,_),(111,.row 3 1 (x_28.map eI)),(112,_)]⟩ rfl (ab.seq (ab.nu mixed [false,false,true,true] [.b (.row 112),.b (.row 111),B true,B true] [⟨[false,false,false,false],[(4,Pt 101 0),(5,Pt 102 0)],[(101,.ao 30 [.row 112]),(102,.ao 30 [.row 111]),(111,.row 3 1 (x_28.map eI)),(112,.row 3 1 (x_27.map eI))],[true,true,true,true],[],[3]⟩,⟨[false,false,true,false],[(4,Pt 101 0),(5,Pt 102 0)],[(101,.ao 30 [.row 112]),(102,.ao 30 [.row 111]),(111,.row 3 1 (x_28.map eI)),(112,.row 3 1 (x_27.map eI))],[true,true,true,true],[0,2],[]⟩,⟨[false,false,true,true],[(4,Pt 101 0),(5,Pt 102 0)],[(101,.ao 30 [.row 112]),(102,.ao 30 [.row 111]),(111,.row 3 1 (x_28.map eI)),(112,.row 3 1 (x_27.map eI))],[true,true,true,true],[0,1,2,3],[]⟩] rfl (⟨by kernel_rfl,⟨⟨.b (.row 112),fun _=>rfl,fun _=>.p (by exact aS aZ rfl rfl rfl)⟩,⟨.b (.row 111),fun _=>rfl,fun _=>.p (by exact aS aZ rfl rfl rfl)⟩,⟨_,[],.b (.one .any),rfl,(fun e=>by simp at e),rfl,rfl,fun _=>.fO [101,102,111,112] (by exact .p (by exact dM aZ rfl rfl rfl rfl (Nat.le_of_ble_eq_true rfl) rfl)) (by exact rfl)⟩,trivial,trivial⟩,⟨by kernel_rfl,⟨trivial,⟨.b (.row 111),fun _=>rfl,fun _=>.p (by exact aS aZ rfl rfl rfl)⟩,trivial,⟨_,[],.b (.one .any),rfl,(fun e=>by simp at e),rfl,rfl,fun _=>.fO [101,102,111,112] (by exact .p (by exact dM aZ rfl rfl rfl rfl (Nat.le_of_ble_eq_true rfl) rfl)) (by exact rfl)⟩,trivial⟩,⟨by kernel_rfl,⟨trivial,trivial,trivial,trivial,trivial⟩,trivial⟩⟩⟩) rfl rfl rfl [4,5] [101,102,111,112] (s':=⟨[(4,_),(5,_)],[(101,_),(102,_),(111,_),(112,_)]⟩) rfl (ab.ret ?_)))))
  obtain rfl:=Option.some.inj h
  refine Fin.af ⟨[(4,Pt 101 0),(5,Pt 102 0)],[(101,.ao 30 [.row 112]),(102,.ao 30 [.row 111]),(111,.row 3 1 (x_28.map eI)),(112,.row 3 1 (x_27.map eI))]⟩ rfl (Fin.bI 112 rfl (Fin.unX 101 rfl rfl (Fin.bI 111 rfl (Fin.unX 102 rfl rfl (Fin.aV [.one (.sl 1 (x_27.map eI)),.one (.sl 1 (x_28.map eI))] (.inl rfl) rfl (.cons (.one aZ rfl rfl rfl) (.cons (.one aZ rfl rfl rfl) .nil)) ⟨rfl,rfl⟩)))))
def bX (F:Nat) (fixed0:List Bool) (links0:List A2):Option ((List Int) × Int) :=
 (bF F fixed0 links0).bind fun x_1=>if (!x_1) = true then (some ([],1)) else (Option.bind (dA F fixed0 links0) (cm fun x_2 x_3=>some (x_3,0)))
theorem gA {F:Nat} {fixed0:List Bool} {links0:List A2} {r:(List Int) × Int} (h:bX F fixed0 links0 = some r):ay Try.prog [] 22 [] [.one (.sl 1 (fixed0.map eB)),.one (.sl 2 (links0.map (cy .i64)))] (Is [] (.eJ [.one (.sl 1 (r.1.map eI)),.one (.i r.2)])):=by
 unfold bX at h
 refine ay.intro 19 Try.func22 Try.ntmps22 rfl (by simp) fun E=>?_
 show ab _ E ⟨19,[],[],[]⟩ _ ⟨[(0,.b (.one (.sl 1 (fixed0.map eB)))),(1,.b (.one (.sl 2 (links0.map (cy .i64)))))],[]⟩ _
 refine ab.seq (ab.aa ?_)
 refine Oc oa (Oc oa ?_)
 refine ae.ag ⟨[(0,.b (.one (.sl 1 (fixed0.map eB)))),(1,.b (.one (.sl 2 (links0.map (cy .i64)))))],[]⟩ rfl (ab.seq (ab.seq (ab.aa ?_)))
 refine Oc om (Oc om ?_)
 obtain ⟨x_1,e1,h⟩:=aL h
 refine Oc (aT (cD e1) mC rfl rfl) (Oc (dO rfl) ?_)
 refine ae.ag ⟨[(0,_),(1,_),(11,B (!x_1))],[]⟩ rfl (ab.ite h rfl (fun _ h=>?_) (fun _ h=>?_))
 ·refine ab.seq (ab.aa ?_)
  refine Oc oa (Oc oa ?_)
  refine ae.ag ⟨[(4,.b (.one (.nil))),(5,I 1)],[]⟩ rfl (ab.ret (Fin.aN ?_))
  obtain rfl:=Option.some.inj h
  refine Fin.af ⟨[(4,_),(5,_)],[]⟩ rfl (Fin.iR 4 1 rfl (by decide) (Fin.aV [.one (.sl 1 ([].map eI)),.one (.i 1)] (.inl rfl) rfl (.cons (.tmp rfl) (.cons (.tmp rfl) .nil)) ⟨rfl,rfl⟩))
 ·refine ab.skip (Fin.af ⟨[(0,_),(1,_)],[]⟩ rfl (Fin.then (ab.seq (ab.aa ?_))))
  refine Oc om (Oc om ?_)
  obtain ⟨⟨x_2,x_3⟩,e2,h⟩:=aL h
  refine Oc (aT (jd e2) s7 rfl rfl) (Oc om (Oc (au rfl rfl) ?_))
  refine ae.af ⟨[(12,.eJ [.one (.sl 1 (x_2.map eI)),.one (.sl 1 (x_3.map eI))]),(16,.b (.one (.sl 1 (x_2.map eI))))],[]⟩ rfl (Oc (au rfl rfl) (Oc oa (Oc oa ?_)))
  refine ae.ag ⟨[(7,.b (.one (.sl 1 (x_3.map eI))))],[]⟩ rfl (ab.seq (ab.aa ?_))
  refine Oc om (Oc oa (Oc oa ?_))
  refine ae.ag ⟨[(4,.b (.one (.sl 1 (x_3.map eI)))),(5,I 0)],[]⟩ rfl (ab.ret ?_)
  obtain rfl:=Option.some.inj h
  refine Fin.af ⟨[(4,_),(5,_)],[]⟩ rfl (Fin.aV [.one (.sl 1 (x_3.map eI)),.one (.i 0)] (.inl rfl) rfl (.cons (.tmp rfl) (.cons (.tmp rfl) .nil)) ⟨rfl,rfl⟩)
def cP (F:Nat) (fixed0:List Bool) (links0:List A2):Option ((List Int) × Int) :=
 (bF F fixed0 links0).bind fun x_1=>if (!x_1) = true then (some ([],1)) else (Option.bind (dA F fixed0 links0) (cm fun x_2 x_3=>some (x_2,0)))
theorem je {F:Nat} {fixed0:List Bool} {links0:List A2} {r:(List Int) × Int} (h:cP F fixed0 links0 = some r):ay Try.prog [] 21 [] [.one (.sl 1 (fixed0.map eB)),.one (.sl 2 (links0.map (cy .i64)))] (Is [] (.eJ [.one (.sl 1 (r.1.map eI)),.one (.i r.2)])):=by
 unfold cP at h
 refine ay.intro 19 Try.func21 Try.ntmps21 rfl (by simp) fun E=>?_
 show ab _ E ⟨19,[],[],[]⟩ _ ⟨[(0,.b (.one (.sl 1 (fixed0.map eB)))),(1,.b (.one (.sl 2 (links0.map (cy .i64)))))],[]⟩ _
 refine ab.seq (ab.aa ?_)
 refine Oc oa (Oc oa ?_)
 refine ae.ag ⟨[(0,.b (.one (.sl 1 (fixed0.map eB)))),(1,.b (.one (.sl 2 (links0.map (cy .i64)))))],[]⟩ rfl (ab.seq (ab.seq (ab.aa ?_)))
 refine Oc om (Oc om ?_)
 obtain ⟨x_1,e1,h⟩:=aL h
 refine Oc (aT (cD e1) mC rfl rfl) (Oc (dO rfl) ?_)
 refine ae.ag ⟨[(0,_),(1,_),(11,B (!x_1))],[]⟩ rfl (ab.ite h rfl (fun _ h=>?_) (fun _ h=>?_))
 ·refine ab.seq (ab.aa ?_)
  refine Oc oa (Oc oa ?_)
  refine ae.ag ⟨[(4,.b (.one (.nil))),(5,I 1)],[]⟩ rfl (ab.ret (Fin.aN ?_))
  obtain rfl:=Option.some.inj h
  refine Fin.af ⟨[(4,_),(5,_)],[]⟩ rfl (Fin.iR 4 1 rfl (by decide) (Fin.aV [.one (.sl 1 ([].map eI)),.one (.i 1)] (.inl rfl) rfl (.cons (.tmp rfl) (.cons (.tmp rfl) .nil)) ⟨rfl,rfl⟩))
 ·refine ab.skip (Fin.af ⟨[(0,_),(1,_)],[]⟩ rfl (Fin.then (ab.seq (ab.aa ?_))))
  refine Oc om (Oc om ?_)
  obtain ⟨⟨x_2,x_3⟩,e2,h⟩:=aL h
  refine Oc (aT (jd e2) s7 rfl rfl) (Oc om (Oc (au rfl rfl) ?_))
  refine ae.af ⟨[(12,.eJ [.one (.sl 1 (x_2.map eI)),.one (.sl 1 (x_3.map eI))]),(16,.b (.one (.sl 1 (x_2.map eI))))],[]⟩ rfl (Oc (au rfl rfl) (Oc oa (Oc oa ?_)))
  refine ae.ag ⟨[(6,.b (.one (.sl 1 (x_2.map eI))))],[]⟩ rfl (ab.seq (ab.aa ?_))
  refine Oc om (Oc oa (Oc oa ?_))
  refine ae.ag ⟨[(4,.b (.one (.sl 1 (x_2.map eI)))),(5,I 0)],[]⟩ rfl (ab.ret ?_)
  obtain rfl:=Option.some.inj h
  refine Fin.af ⟨[(4,_),(5,_)],[]⟩ rfl (Fin.aV [.one (.sl 1 (x_2.map eI)),.one (.i 0)] (.inl rfl) rfl (.cons (.tmp rfl) (.cons (.tmp rfl) .nil)) ⟨rfl,rfl⟩)
def fK (F:Nat) (lists0:List (List (List Int))):Option (List (List Int)) :=
 Option.bind (iter F (cm fun up_2 x_3=>if (decide (x_3 < (lists0.length:Int))) = true then (Option.bind ((aE lists0 x_3).bind fun x_6=>Option.bind (iter F (cm fun up_7 x_8=>if (decide (x_8 < (x_6.length:Int))) = true then (Option.bind ((aE x_6 x_8).bind fun x_11=>Option.bind (iter F (cm fun up_12 x_13=>if (decide (x_13 < (x_11.length:Int))) = true then ((aE x_11 x_13).bind fun x_15=>(aE x_11 0).bind fun x_16=>Option.bind (bO F x_16 x_15 up_12) (cm fun x_17 x_18=>some (.inl (x_18,IntKind.i64.wrap (x_13 + 1))))) else (some (.inr up_12))) (up_7,0)) (fun up_14=>some up_14)) (fun up_10=>some (.inl (up_10,IntKind.i64.wrap (x_8 + 1))))) else (some (.inr up_7))) (up_2,0)) (fun up_9=>some up_9)) (fun up_5=>some (.inl (up_5,IntKind.i64.wrap (x_3 + 1))))) else (some (.inr up_2))) (([]:a7),0)) (fun up_1=>Option.bind (bB F up_1) (cm fun x_19 x_20=>some x_19))
theorem mj {F:Nat} {lists0:List (List (List Int))} {r:(List (List Int))} (h:fK F lists0 = some r):ay Try.prog [] 27 [] [.one (.sl 1 (lists0.map (eL 1 (eL 1 eI))))] (Is [] (.b (.one (.sl 1 (r.map (eL 1 eI)))))):=by
 unfold fK at h
 refine ay.intro 41 Try.func27 Try.ntmps27 rfl (by simp) fun E=>?_
 show ab _ E ⟨41,[],[],[]⟩ _ ⟨[(0,.b (.one (.sl 1 (lists0.map (eL 1 (eL 1 eI))))))],[]⟩ _
 refine ab.seq (ab.aa ?_)
 refine Oc oa (ae.ag ⟨[(0,.b (.one (.sl 1 (lists0.map (eL 1 (eL 1 eI))))))],[]⟩ rfl (ab.seq (ab.aa ?_)))
 refine Oc (iz (k:=101) mu rfl) (Oc ((nW oG rfl rfl).k6 rfl) (Oc (bh (k:=102) iT rfl) ?_))
 refine ae.ow 102 rfl (Oc (fA cS rfl rfl rfl rfl rfl (Nat.le_of_ble_eq_true rfl) rfl) (ae.ag ⟨[(0,.b (.one (.sl 1 (lists0.map (eL 1 (eL 1 eI)))))),(3,Pt 102 0)],[(101,.mq ([]:a7)),(102,.ao 52 [.row 101])]⟩ rfl ?_))
 obtain ⟨v1,h2,h⟩:=aL h
 refine ab.cM (v:=v1) (fun (up_1:a7)=>⟨[(3,Pt 102 0)],[(101,.mq up_1),(102,.ao 52 [.row 101])]⟩) (fun z=>z) ?_ ?_
 ·refine ab.seq (ab.aa ?_)
  refine Oc om (Oc (aw und41 rfl (List.length_map _)) (Oc om ?_))
  refine ae.ag ⟨[(3,_),(12,.b (.one (.sl 1 (lists0.map (eL 1 (eL 1 eI)))))),(13,I (lists0.length:Int)),(14,I 0)],[(101,_),(102,_)]⟩ rfl (ab.block (ab.cE h2 (cm fun (up_2:a7) (x_3:Int)=>⟨[(3,Pt 102 0),(12,.b (.one (.sl 1 (lists0.map (eL 1 (eL 1 eI)))))),(13,I (lists0.length:Int)),(14,I x_3)],[(101,.mq up_2),(102,.ao 52 [.row 101])]⟩) [3,12,13,14] [101,102] rfl ?_))
  rintro ⟨up_2,x_3⟩ o3 h4 hy5
  refine ab.seq (ab.aa ?_)
  refine Oc (bt rfl rfl) (ae.ag ⟨[(3,_),(12,_),(13,_),(14,_),(15,B (decide (x_3 < (lists0.length:Int))))],[(101,_),(102,_)]⟩ rfl (ab.seq (ab.ite h4 rfl (fun _ h4=>?_) (fun _ h4=>?_))))
  ·refine ab.skip (Fin.af ⟨[(3,_),(12,_),(13,_),(14,_)],[(101,_),(102,_)]⟩ rfl (Fin.then ?_))
   obtain ⟨v6,h7,h4⟩:=aL h4
   refine ab.cM (v:=v6) (fun (up_5:a7)=>⟨[(3,Pt 102 0),(12,.b (.one (.sl 1 (lists0.map (eL 1 (eL 1 eI)))))),(13,I (lists0.length:Int)),(14,I x_3)],[(101,.mq up_5),(102,.ao 52 [.row 101])]⟩) (fun z=>z) ?_ ?_
   ·refine ab.block (ab.seq (ab.aa ?_))
    obtain ⟨x_6,e8,h7⟩:=aL h7
    refine Oc (aK sP (aH e8) (aJ (e:=(eL 1 (eL 1 eI))) e8) rfl rfl) (Oc (aG tyOne26 rfl rfl) (Oc oa ?_))
    refine ae.ag ⟨[(3,_),(5,.b (.one (.sl 1 (x_6.map (eL 1 eI))))),(12,_),(13,_),(14,_)],[(101,_),(102,_)]⟩ rfl (ab.seq (ab.aa ?_))
    refine Oc om (Oc (aw jI rfl (List.length_map _)) (Oc om ?_))
    refine ae.ag ⟨[(3,_),(12,_),(13,_),(14,_),(18,.b (.one (.sl 1 (x_6.map (eL 1 eI))))),(19,I (x_6.length:Int)),(20,I 0)],[(101,_),(102,_)]⟩ rfl (ab.block ?_)
    obtain ⟨v9,h10,h7⟩:=aL h7
    refine ab.cE h10 (cm fun (up_7:a7) (x_8:Int)=>⟨[(3,Pt 102 0),(12,.b (.one (.sl 1 (lists0.map (eL 1 (eL 1 eI)))))),(13,I (lists0.length:Int)),(14,I x_3),(18,.b (.one (.sl 1 (x_6.map (eL 1 eI))))),(19,I (x_6.length:Int)),(20,I x_8)],[(101,.mq up_7),(102,.ao 52 [.row 101])]⟩) [3,12,13,14,18,19,20] [101,102] rfl ?_
    rintro ⟨up_7,x_8⟩ o11 h12 hy13
    refine ab.seq (ab.aa ?_)
    refine Oc (bt rfl rfl) (ae.ag ⟨[(3,_),(12,_),(13,_),(14,_),(18,_),(19,_),(20,_),(21,B (decide (x_8 < (x_6.length:Int))))],[(101,_),(102,_)]⟩ rfl (ab.seq (ab.ite h12 rfl (fun _ h12=>?_) (fun _ h12=>?_))))
    ·refine ab.skip (Fin.af ⟨[(3,_),(12,_),(13,_),(14,_),(18,_),(19,_),(20,_)],[(101,_),(102,_)]⟩ rfl (Fin.then ?_))
     obtain ⟨v14,h15,h12⟩:=aL h12
     refine ab.cM (v:=v14) (fun (up_10:a7)=>⟨[(3,Pt 102 0),(12,.b (.one (.sl 1 (lists0.map (eL 1 (eL 1 eI)))))),(13,I (lists0.length:Int)),(14,I x_3),(18,.b (.one (.sl 1 (x_6.map (eL 1 eI))))),(19,I (x_6.length:Int)),(20,I x_8)],[(101,.mq up_10),(102,.ao 52 [.row 101])]⟩) (fun z=>z) ?_ ?_
     ·refine ab.block (ab.seq (ab.aa ?_))
      obtain ⟨x_11,e16,h15⟩:=aL h15
      refine Oc (aK fe (aH e16) (aJ (e:=(eL 1 eI)) e16) rfl rfl) (Oc (aG aZ rfl rfl) (Oc oa ?_))
      refine ae.ag ⟨[(3,_),(7,.b (.one (.sl 1 (x_11.map eI)))),(12,_),(13,_),(14,_),(18,_),(19,_),(20,_)],[(101,_),(102,_)]⟩ rfl (ab.seq (ab.aa ?_))
      refine Oc om (Oc (aw gm rfl (List.length_map _)) (Oc om ?_))
      refine ae.ag ⟨[(3,_),(7,_),(12,_),(13,_),(14,_),(18,_),(19,_),(20,_),(24,.b (.one (.sl 1 (x_11.map eI)))),(25,I (x_11.length:Int)),(26,I 0)],[(101,_),(102,_)]⟩ rfl (ab.block ?_)
      obtain ⟨v17,h18,h15⟩:=aL h15
      refine ab.cE h18 (cm fun (up_12:a7) (x_13:Int)=>⟨[(3,Pt 102 0),(7,.b (.one (.sl 1 (x_11.map eI)))),(12,.b (.one (.sl 1 (lists0.map (eL 1 (eL 1 eI)))))),(13,I (lists0.length:Int)),(14,I x_3),(18,.b (.one (.sl 1 (x_6.map (eL 1 eI))))),(19,I (x_6.length:Int)),(20,I x_8),(24,.b (.one (.sl 1 (x_11.map eI)))),(25,I (x_11.length:Int)),(26,I x_13)],[(101,.mq up_12),(102,.ao 52 [.row 101])]⟩) [3,7,12,13,14,18,19,20,24,25,26] [101,102] rfl ?_
      rintro ⟨up_12,x_13⟩ o19 h20 hy21
      refine ab.seq (ab.aa ?_)
      refine Oc (bt rfl rfl) (ae.ag ⟨[(3,_),(7,_),(12,_),(13,_),(14,_),(18,_),(19,_),(20,_),(24,_),(25,_),(26,_),(27,B (decide (x_13 < (x_11.length:Int))))],[(101,_),(102,_)]⟩ rfl (ab.seq (ab.ite h20 rfl (fun _ h20=>?_) (fun _ h20=>?_))))
      ·refine ab.skip (Fin.af ⟨[(3,_),(7,_),(12,_),(13,_),(14,_),(18,_),(19,_),(20,_),(24,_),(25,_),(26,_)],[(101,_),(102,_)]⟩ rfl (Fin.then (ab.seq (ab.block (ab.seq (ab.aa ?_))))))
       obtain ⟨x_15,e22,h20⟩:=aL h20
       refine Oc (aK aq (aH e22) (aJ (e:=eI) e22) rfl rfl) (Oc (aG az rfl rfl) (Oc oa ?_))
       refine ae.ag ⟨[(3,_),(7,_),(9,I x_15),(12,_),(13,_),(14,_),(18,_),(19,_),(20,_),(24,_),(25,_),(26,_)],[(101,_),(102,_)]⟩ rfl ?_
       obtain ⟨x_16,e23,h20⟩:=aL h20
       obtain ⟨⟨x_17,x_18⟩,e24,h20⟩:=aL h20
       refine ab.lV mixed 5 [.b (.xa [.row 101]),.b (.one (.sl 1 (x_11.map eI))),.b (.c3 [.i x_16]),I x_16,I x_15] [3,7,12,13,14,18,19,20,24,25,26] [101,102] (s':=⟨[(3,_),(7,_),(12,_),(13,_),(14,_),(18,_),(19,_),(20,_),(24,_),(25,_),(26,_)],[(101,.mq x_18),(102,_)]⟩) rfl ⟨fun _=>.p ((cN cS rfl rfl rfl rfl).k6 rfl),fun _=>.p om,fun _=>.p (aK aq (aH e23) (aJ (e:=eI) e23) rfl rfl),fun _=>.p (aG az rfl rfl),fun _=>.p om,trivial⟩ ⟨_,by exact .p (bo (own_a:=[(101,_)]) ((eZ e24).sw 1 101) s6 rfl ⟨rfl,trivial⟩ rfl rfl),rfl⟩ rfl (Fin.ah (Fin.af ⟨[(3,_),(7,_),(12,_),(13,_),(14,_),(18,_),(19,_),(20,_),(24,_),(25,_),(26,_)],[(101,_),(102,_)]⟩ rfl (Fin.then (ab.aa ?_))))
       refine Oc (aU rfl rfl) (Oc om ?_)
       refine ae.nil ?_
       exact Fin.bG [3,7,12,13,14,18,19,20,24,25,26] [101,102] (x_18,IntKind.i64.wrap (x_13 + 1)) (Option.some.inj h20) rfl
      ·refine ab.exit (Fin.ai ?_)
       obtain rfl:=hy21 _ (Option.some.inj h20).symm
       refine Fin.ai (Fin.aB (Fin.ah ?_))
       exact Fin.join [3,12,13,14,18,19,20] [101,102] up_12 (Option.some.inj h15) rfl
     ·rintro up_10 hv
      subst v14
      refine ab.aa (Oc (aU rfl rfl) (Oc om ?_))
      refine ae.nil ?_
      exact Fin.bG [3,12,13,14,18,19,20] [101,102] (up_10,IntKind.i64.wrap (x_8 + 1)) (Option.some.inj h12) rfl
    ·refine ab.exit (Fin.ai ?_)
     obtain rfl:=hy13 _ (Option.some.inj h12).symm
     refine Fin.ai (Fin.aB (Fin.ah ?_))
     exact Fin.join [3,12,13,14] [101,102] up_7 (Option.some.inj h7) rfl
   ·rintro up_5 hv
    subst v6
    refine ab.aa (Oc (aU rfl rfl) (Oc om ?_))
    refine ae.nil ?_
    exact Fin.bG [3,12,13,14] [101,102] (up_5,IntKind.i64.wrap (x_3 + 1)) (Option.some.inj h4) rfl
  ·refine ab.exit (Fin.ai ?_)
   obtain rfl:=hy5 _ (Option.some.inj h4).symm
   refine Fin.ai (Fin.aB ?_)
   exact Fin.join [3] [101,102] up_2 rfl rfl
 ·rintro up_1 hv
  subst v1
  refine ab.seq (ab.aa ?_)
  refine Oc ((cN cS rfl rfl rfl rfl).k6 rfl) ?_
  obtain ⟨⟨x_19,x_20⟩,e25,h⟩:=aL h
  refine Oc (bo (own_a:=[(101,_)]) ((eY e25).sw 1 101) qI rfl ⟨rfl,trivial⟩ rfl rfl) (Oc oa ?_)
  refine ae.ag ⟨[(2,.b (.one (.sl 1 (x_19.map (eL 1 eI)))))],[]⟩ rfl (ab.ret ?_)
  obtain rfl:=Option.some.inj h
  refine Fin.af ⟨[(2,_)],[]⟩ rfl (Fin.aV [.one (.sl 1 (x_19.map (eL 1 eI)))] (.inl rfl) rfl (.cons (.tmp rfl) .nil) ⟨rfl,rfl⟩)
def bj (F:Nat) (a0:List Int) (b0:List Int):Option Bool :=
 if (decide ((a0.length:Int) ≠ (b0.length:Int))) = true then (some false) else (Option.bind (iter F (fun i_1=>if (decide (i_1 < (a0.length:Int))) = true then ((aE a0 i_1).bind fun x_2=>(aE b0 i_1).bind fun x_3=>if (decide (x_2 ≠ x_3)) = true then (some (.inr (.inr false))) else (some (.inl (IntKind.i64.wrap (i_1 + 1))))) else (some (.inr (.inl ())))) 0) (iE (fun _=>some true) (fun y=>some y)))
theorem bS {F:Nat} {a0:List Int} {b0:List Int} {r:Bool} (h:bj F a0 b0 = some r):ay Try.prog [] 19 [] [.one (.sl 1 (a0.map eI)),.one (.sl 1 (b0.map eI))] (Is [] (.b (.one (.bool r)))):=by
 unfold bj at h
 refine ay.intro 26 Try.func19 Try.ntmps19 rfl (by simp) fun E=>?_
 show ab _ E ⟨26,[],[],[]⟩ _ ⟨[(0,.b (.one (.sl 1 (a0.map eI)))),(1,.b (.one (.sl 1 (b0.map eI))))],[]⟩ _
 refine ab.seq (ab.aa ?_)
 refine Oc oa (ae.ag ⟨[(0,.b (.one (.sl 1 (a0.map eI)))),(1,.b (.one (.sl 1 (b0.map eI))))],[]⟩ rfl (ab.seq (ab.seq (ab.aa ?_))))
 refine Oc om (Oc (aw gm rfl (List.length_map _)) (Oc om (Oc (aw gm rfl (List.length_map _)) (Oc (iG rfl rfl) ?_))))
 refine ae.ag ⟨[(0,_),(1,_),(10,B (decide ((a0.length:Int) ≠ (b0.length:Int))))],[]⟩ rfl (ab.ite h rfl (fun _ h=>?_) (fun _ h=>?_))
 ·refine ab.seq (ab.aa ?_)
  refine Oc oa (ae.ag ⟨[(4,B false)],[]⟩ rfl (ab.ret (Fin.aN ?_)))
  obtain rfl:=Option.some.inj h
  refine Fin.af ⟨[(4,_)],[]⟩ rfl (Fin.aV [.one (.bool false)] (.inl rfl) rfl (.cons (.tmp rfl) .nil) ⟨rfl,rfl⟩)
 ·refine ab.skip (Fin.af ⟨[(0,_),(1,_)],[]⟩ rfl (Fin.then ?_))
  obtain ⟨v1,h2,h⟩:=aL h
  refine ab.cM (v:=v1) (fun (_:Unit)=>⟨[],[]⟩) (fun z=>.inl z) ?_ ?_
  ·refine ab.seq (ab.aa ?_)
   refine Oc oa (ae.ag ⟨[(0,_),(1,_),(5,I 0)],[]⟩ rfl (ab.block (ab.cE h2 (fun (i_1:Int)=>⟨[(0,.b (.one (.sl 1 (a0.map eI)))),(1,.b (.one (.sl 1 (b0.map eI)))),(5,I i_1)],[]⟩) [0,1,5] [] rfl ?_)))
   rintro i_1 o3 h4 hy5
   refine ab.seq (ab.seq (ab.aa ?_))
   refine Oc om (Oc om (Oc (aw gm rfl (List.length_map _)) (Oc (bt rfl rfl) ?_)))
   refine ae.ag ⟨[(0,_),(1,_),(5,_),(14,B (decide (i_1 < (a0.length:Int))))],[]⟩ rfl (ab.ite h4 rfl (fun _ h4=>?_) (fun _ h4=>?_))
   ·refine ab.skip (Fin.af ⟨[(0,_),(1,_),(5,_)],[]⟩ rfl (Fin.then (ab.seq (ab.block (ab.seq ?_)))))
    refine ab.af ⟨[(0,_),(1,_),(5,_)],[]⟩ rfl ?_
    obtain ⟨x_2,e6,h4⟩:=aL h4
    obtain ⟨x_3,e7,h4⟩:=aL h4
    refine ab.eC mixed 9 [.b (.one (.sl 1 (a0.map eI))),I i_1,.b (.c3 [.i x_2]),I x_2,.b (.one (.sl 1 (b0.map eI))),I i_1,.b (.c3 [.i x_3]),I x_3,B (decide (x_2 ≠ x_3))] [0,1,5,25] [] (s':=⟨[(0,_),(1,_),(5,_),(25,B (decide (x_2 ≠ x_3)))],[]⟩) rfl ⟨fun _=>.p om,fun _=>.p om,fun _=>.p (aK aq (aH e6) (aJ (e:=eI) e6) rfl rfl),fun _=>.p (aG az rfl rfl),fun _=>.p om,fun _=>.p om,fun _=>.p (aK aq (aH e7) (aJ (e:=eI) e7) rfl rfl),fun _=>.p (aG az rfl rfl),fun _=>.p (iG rfl rfl),trivial⟩ rfl rfl (ab.ite h4 rfl (fun _ h4=>?_) (fun _ h4=>?_))
    ·refine ab.seq (ab.aa ?_)
     refine Oc oa (ae.ag ⟨[(4,B false)],[]⟩ rfl (ab.ret (Fin.cV (Fin.aN ?_))))
     obtain rfl:=hy5 _ (Option.some.inj h4).symm
     refine Fin.aN (Fin.cV (Fin.aN ?_))
     obtain rfl:=Option.some.inj h
     refine Fin.af ⟨[(4,_)],[]⟩ rfl (Fin.aV [.one (.bool false)] (.inl rfl) rfl (.cons (.tmp rfl) .nil) ⟨rfl,rfl⟩)
    ·refine ab.skip (Fin.ah (Fin.af ⟨[(0,_),(1,_),(5,_)],[]⟩ rfl (Fin.then (ab.aa ?_))))
     refine Oc om (Oc (aU rfl rfl) (Oc oa ?_))
     refine ae.nil ?_
     exact Fin.bG [0,1,5] [] (IntKind.i64.wrap (i_1 + 1)) (Option.some.inj h4) rfl
   ·refine ab.exit (Fin.ai ?_)
    obtain rfl:=hy5 _ (Option.some.inj h4).symm
    refine Fin.ai (Fin.aB ?_)
    exact Fin.join [] [] () rfl rfl
  ·rintro _ hv
   subst v1
   refine ab.seq (ab.aa ?_)
   refine Oc oa (ae.ag ⟨[(4,B true)],[]⟩ rfl (ab.ret ?_))
   obtain rfl:=Option.some.inj h
   refine Fin.af ⟨[(4,_)],[]⟩ rfl (Fin.aV [.one (.bool true)] (.inl rfl) rfl (.cons (.tmp rfl) .nil) ⟨rfl,rfl⟩)
def bx (F:Nat) (a0:List (List Int)) (b0:List (List Int)):Option Bool :=
 if (decide ((a0.length:Int) ≠ (b0.length:Int))) = true then (some false) else (Option.bind (iter F (fun i_1=>if (decide (i_1 < (a0.length:Int))) = true then ((aE a0 i_1).bind fun x_2=>(aE b0 i_1).bind fun x_3=>(bj F x_2 x_3).bind fun x_4=>if (!x_4) = true then (some (.inr (.inr false))) else (some (.inl (IntKind.i64.wrap (i_1 + 1))))) else (some (.inr (.inl ())))) 0) (iE (fun _=>some true) (fun y=>some y)))
theorem c7 {F:Nat} {a0:List (List Int)} {b0:List (List Int)} {r:Bool} (h:bx F a0 b0 = some r):ay Try.prog [] 18 [] [.one (.sl 1 (a0.map (eL 1 eI))),.one (.sl 1 (b0.map (eL 1 eI)))] (Is [] (.b (.one (.bool r)))):=by
 unfold bx at h
 refine ay.intro 27 Try.func18 Try.ntmps18 rfl (by simp) fun E=>?_
 show ab _ E ⟨27,[],[],[]⟩ _ ⟨[(0,.b (.one (.sl 1 (a0.map (eL 1 eI))))),(1,.b (.one (.sl 1 (b0.map (eL 1 eI)))))],[]⟩ _
 refine ab.seq (ab.aa ?_)
 refine Oc oa (ae.ag ⟨[(0,.b (.one (.sl 1 (a0.map (eL 1 eI))))),(1,.b (.one (.sl 1 (b0.map (eL 1 eI)))))],[]⟩ rfl (ab.seq (ab.seq (ab.aa ?_))))
 refine Oc om (Oc (aw jI rfl (List.length_map _)) (Oc om (Oc (aw jI rfl (List.length_map _)) (Oc (iG rfl rfl) ?_))))
 refine ae.ag ⟨[(0,_),(1,_),(10,B (decide ((a0.length:Int) ≠ (b0.length:Int))))],[]⟩ rfl (ab.ite h rfl (fun _ h=>?_) (fun _ h=>?_))
 ·refine ab.seq (ab.aa ?_)
  refine Oc oa (ae.ag ⟨[(4,B false)],[]⟩ rfl (ab.ret (Fin.aN ?_)))
  obtain rfl:=Option.some.inj h
  refine Fin.af ⟨[(4,_)],[]⟩ rfl (Fin.aV [.one (.bool false)] (.inl rfl) rfl (.cons (.tmp rfl) .nil) ⟨rfl,rfl⟩)
 ·refine ab.skip (Fin.af ⟨[(0,_),(1,_)],[]⟩ rfl (Fin.then ?_))
  obtain ⟨v1,h2,h⟩:=aL h
  refine ab.cM (v:=v1) (fun (_:Unit)=>⟨[],[]⟩) (fun z=>.inl z) ?_ ?_
  ·refine ab.seq (ab.aa ?_)
   refine Oc oa (ae.ag ⟨[(0,_),(1,_),(5,I 0)],[]⟩ rfl (ab.block (ab.cE h2 (fun (i_1:Int)=>⟨[(0,.b (.one (.sl 1 (a0.map (eL 1 eI))))),(1,.b (.one (.sl 1 (b0.map (eL 1 eI))))),(5,I i_1)],[]⟩) [0,1,5] [] rfl ?_)))
   rintro i_1 o3 h4 hy5
   refine ab.seq (ab.seq (ab.aa ?_))
   refine Oc om (Oc om (Oc (aw jI rfl (List.length_map _)) (Oc (bt rfl rfl) ?_)))
   refine ae.ag ⟨[(0,_),(1,_),(5,_),(14,B (decide (i_1 < (a0.length:Int))))],[]⟩ rfl (ab.ite h4 rfl (fun _ h4=>?_) (fun _ h4=>?_))
   ·refine ab.skip (Fin.af ⟨[(0,_),(1,_),(5,_)],[]⟩ rfl (Fin.then (ab.seq (ab.block (ab.seq ?_)))))
    refine ab.af ⟨[(0,_),(1,_),(5,_)],[]⟩ rfl ?_
    obtain ⟨x_2,e6,h4⟩:=aL h4
    obtain ⟨x_3,e7,h4⟩:=aL h4
    obtain ⟨x_4,e8,h4⟩:=aL h4
    refine ab.eC mixed 10 [.b (.one (.sl 1 (a0.map (eL 1 eI)))),I i_1,.b (.c3 [.sl 1 (x_2.map eI)]),.b (.one (.sl 1 (x_2.map eI))),.b (.one (.sl 1 (b0.map (eL 1 eI)))),I i_1,.b (.c3 [.sl 1 (x_3.map eI)]),.b (.one (.sl 1 (x_3.map eI))),B x_4,B (!x_4)] [0,1,5,26] [] (s':=⟨[(0,_),(1,_),(5,_),(26,B (!x_4))],[]⟩) rfl ⟨fun _=>.p om,fun _=>.p om,fun _=>.p (aK fe (aH e6) (aJ (e:=(eL 1 eI)) e6) rfl rfl),fun _=>.p (aG aZ rfl rfl),fun _=>.p om,fun _=>.p om,fun _=>.p (aK fe (aH e7) (aJ (e:=(eL 1 eI)) e7) rfl rfl),fun _=>.p (aG aZ rfl rfl),fun _=>.p (aT (bS e8) mD rfl rfl),fun _=>.p (dO rfl),trivial⟩ rfl rfl (ab.ite h4 rfl (fun _ h4=>?_) (fun _ h4=>?_))
    ·refine ab.seq (ab.aa ?_)
     refine Oc oa (ae.ag ⟨[(4,B false)],[]⟩ rfl (ab.ret (Fin.cV (Fin.aN ?_))))
     obtain rfl:=hy5 _ (Option.some.inj h4).symm
     refine Fin.aN (Fin.cV (Fin.aN ?_))
     obtain rfl:=Option.some.inj h
     refine Fin.af ⟨[(4,_)],[]⟩ rfl (Fin.aV [.one (.bool false)] (.inl rfl) rfl (.cons (.tmp rfl) .nil) ⟨rfl,rfl⟩)
    ·refine ab.skip (Fin.ah (Fin.af ⟨[(0,_),(1,_),(5,_)],[]⟩ rfl (Fin.then (ab.aa ?_))))
     refine Oc om (Oc (aU rfl rfl) (Oc oa ?_))
     refine ae.nil ?_
     exact Fin.bG [0,1,5] [] (IntKind.i64.wrap (i_1 + 1)) (Option.some.inj h4) rfl
   ·refine ab.exit (Fin.ai ?_)
    obtain rfl:=hy5 _ (Option.some.inj h4).symm
    refine Fin.ai (Fin.aB ?_)
    exact Fin.join [] [] () rfl rfl
  ·rintro _ hv
   subst v1
   refine ab.seq (ab.aa ?_)
   refine Oc oa (ae.ag ⟨[(4,B true)],[]⟩ rfl (ab.ret ?_))
   obtain rfl:=Option.some.inj h
   refine Fin.af ⟨[(4,_)],[]⟩ rfl (Fin.aV [.one (.bool true)] (.inl rfl) rfl (.cons (.tmp rfl) .nil) ⟨rfl,rfl⟩)
def bJ (F:Nat):Option Bool :=
 Option.bind (cr F [true,false,false,false,false,false,false] [(⟨0,1⟩:A2),(⟨1,2⟩:A2),(⟨2,3⟩:A2),(⟨1,3⟩:A2),(⟨4,5⟩:A2),(⟨0,4⟩:A2)]) (cm fun x_1 x_2=>Option.bind (fb F [true,false,false,false,false,false,false] [(⟨0,1⟩:A2),(⟨1,2⟩:A2),(⟨2,3⟩:A2),(⟨1,3⟩:A2),(⟨4,5⟩:A2),(⟨0,4⟩:A2)]) (cm fun x_3 x_4=>Option.bind (fJ F [true,false,false,false,false,false,false] [(⟨0,1⟩:A2),(⟨1,2⟩:A2),(⟨2,3⟩:A2),(⟨1,3⟩:A2),(⟨4,5⟩:A2),(⟨0,4⟩:A2)]) (cm fun x_5 x_6=>Option.bind (cH F [true,false,false,false,false,false,false] [(⟨0,1⟩:A2),(⟨1,2⟩:A2),(⟨2,3⟩:A2),(⟨1,3⟩:A2),(⟨4,5⟩:A2),(⟨0,4⟩:A2)]) (cm fun x_7 x_8=>Option.bind (bX F [true,false,false,false,false,false,false] [(⟨0,1⟩:A2),(⟨1,2⟩:A2),(⟨2,3⟩:A2),(⟨1,3⟩:A2),(⟨4,5⟩:A2),(⟨0,4⟩:A2)]) (cm fun x_9 x_10=>(c9 [(⟨0,1⟩:A2),(⟨1,2⟩:A2),(⟨2,3⟩:A2),(⟨1,3⟩:A2),(⟨4,5⟩:A2),(⟨0,4⟩:A2)] [(⟨3,6⟩:A2)]).bind fun x_11=>Option.bind (cP F [true,false,false,false,false,false,false] x_11) (cm fun x_12 x_13=>(fK F [[[1,2],[4,5]],[[2,3],[6]]]).bind fun x_14=>eO (((decide (x_2 = 0)) && (decide (x_4 = 0))) && (decide (x_6 = 0))) fun x_15=>eO (((x_15 && (decide (x_8 = 0))) && (decide (x_10 = 0))) && (decide (x_13 = 0))) fun x_16=>(dc x_16 (bx F x_1 [[1,2,3],[4,5],[6]])).bind fun x_17=>(dc (x_16 && x_17) (bj F x_3 [0,1,2,2,1,2,(-1)])).bind fun x_18=>(dc ((x_16 && x_17) && x_18) (bj F x_5 [1,2,3,4,5,6])).bind fun x_19=>(dc (((x_16 && x_17) && x_18) && x_19) (bj F x_7 [1,2,4])).bind fun x_20=>(dc ((((x_16 && x_17) && x_18) && x_19) && x_20) (bj F x_9 [4])).bind fun x_21=>(dc (((((x_16 && x_17) && x_18) && x_19) && x_20) && x_21) (bj F x_12 [3])).bind fun x_22=>eO ((((((x_16 && x_17) && x_18) && x_19) && x_20) && x_21) && x_22) fun x_23=>(dc x_23 (bx F x_14 [[1,2,3],[4,5],[6]])).bind fun x_24=>some (x_23 && x_24)))))))
theorem dq {F:Nat} {r:Bool} (h:bJ F = some r):ay Try.prog [] 11 [] [] (Is [] (.b (.one (.bool r)))):=by
 unfold bJ at h
 refine ay.intro 135 Try.func11 Try.ntmps11 rfl (by simp) fun E=>?_
 show ab _ E ⟨135,[],[],[]⟩ _ ⟨[],[]⟩ _
 refine ab.seq (ab.aa ?_)
 refine Oc oa (ae.ag ⟨[],[]⟩ rfl (ab.seq (ab.aa ?_)))
 refine Oc (kq (es:=[true,false,false,false,false,false,false].map eB) gU rfl rfl (bf fun _=>rfl) rfl (by decide) (by decide)) (Oc oa ?_)
 refine ae.ag ⟨[(1,.b (.one (.slf 1 ([true,false,false,false,false,false,false].map eB))))],[]⟩ rfl (ab.seq (ab.aa ?_))
 refine Oc (fU fS rfl rfl) (Oc (fU fS rfl rfl) (Oc (fU fS rfl rfl) (Oc (fU fS rfl rfl) (Oc (fU fS rfl rfl) (Oc (fU fS rfl rfl) ?_)))))
 refine Oc (kq (es:=[(⟨0,1⟩:A2),(⟨1,2⟩:A2),(⟨2,3⟩:A2),(⟨1,3⟩:A2),(⟨4,5⟩:A2),(⟨0,4⟩:A2)].map (cy .i64)) ee rfl rfl (bf fun _=>rfl) rfl (by decide) (by decide)) (Oc oa ?_)
 refine ae.ag ⟨[(1,_),(2,.b (.one (.slf 2 ([(⟨0,1⟩:A2),(⟨1,2⟩:A2),(⟨2,3⟩:A2),(⟨1,3⟩:A2),(⟨4,5⟩:A2),(⟨0,4⟩:A2)].map (cy .i64)))))],[]⟩ rfl (ab.seq (ab.aa ?_))
 refine Oc om (Oc om ?_)
 refine ae.gR 27 rfl (ae.gR 28 rfl (ae.af ⟨[(1,_),(2,_),(27,.b (.one (.sl 1 ([true,false,false,false,false,false,false].map eB)))),(28,.b (.one (.sl 2 ([(⟨0,1⟩:A2),(⟨1,2⟩:A2),(⟨2,3⟩:A2),(⟨1,3⟩:A2),(⟨4,5⟩:A2),(⟨0,4⟩:A2)].map (cy .i64)))))],[]⟩ rfl ?_))
 obtain ⟨⟨x_1,x_2⟩,e1,h⟩:=aL h
 refine Oc (aT (dJ e1) mE rfl rfl) (Oc om (Oc (au rfl rfl) (Oc (au rfl rfl) (Oc oa (Oc oa ?_)))))
 refine ae.ag ⟨[(1,_),(2,_),(3,.b (.one (.sl 1 (x_1.map (eL 1 eI))))),(4,I x_2)],[]⟩ rfl (ab.seq (ab.aa ?_))
 refine Oc om (Oc om ?_)
 refine ae.gR 33 rfl (ae.gR 34 rfl (ae.af ⟨[(1,_),(2,_),(3,_),(4,_),(33,.b (.one (.sl 1 ([true,false,false,false,false,false,false].map eB)))),(34,.b (.one (.sl 2 ([(⟨0,1⟩:A2),(⟨1,2⟩:A2),(⟨2,3⟩:A2),(⟨1,3⟩:A2),(⟨4,5⟩:A2),(⟨0,4⟩:A2)].map (cy .i64)))))],[]⟩ rfl ?_))
 obtain ⟨⟨x_3,x_4⟩,e2,h⟩:=aL h
 refine Oc (bo (hY 103 e2) tf rfl trivial rfl rfl) (Oc om (Oc (au rfl rfl) (Oc (au rfl rfl) (Oc oa (Oc oa ?_)))))
 refine ae.ag ⟨[(1,_),(2,_),(3,_),(4,_),(5,.b (.row 103)),(6,I x_4)],[(103,.row 3 1 (x_3.map eI))]⟩ rfl (ab.seq (ab.aa ?_))
 refine Oc om (Oc om ?_)
 refine ae.gR 39 rfl (ae.gR 40 rfl (ae.af ⟨[(1,_),(2,_),(3,_),(4,_),(5,_),(6,_),(39,.b (.one (.sl 1 ([true,false,false,false,false,false,false].map eB)))),(40,.b (.one (.sl 2 ([(⟨0,1⟩:A2),(⟨1,2⟩:A2),(⟨2,3⟩:A2),(⟨1,3⟩:A2),(⟨4,5⟩:A2),(⟨0,4⟩:A2)].map (cy .i64)))))],[(103,_)]⟩ rfl ?_))
 obtain ⟨⟨x_5,x_6⟩,e3,h⟩:=aL h
 refine Oc (aT (mi e3) goes14 rfl rfl) (Oc om (Oc (au rfl rfl) (Oc (au rfl rfl) (Oc oa (Oc oa ?_)))))
 refine ae.ag ⟨[(1,_),(2,_),(3,_),(4,_),(5,_),(6,_),(7,.b (.one (.sl 1 (x_5.map eI)))),(8,I x_6)],[(103,_)]⟩ rfl (ab.seq (ab.aa ?_))
 refine Oc om (Oc om ?_)
 refine ae.gR 45 rfl (ae.gR 46 rfl (ae.af ⟨[(1,_),(2,_),(3,_),(4,_),(5,_),(6,_),(7,_),(8,_),(45,.b (.one (.sl 1 ([true,false,false,false,false,false,false].map eB)))),(46,.b (.one (.sl 2 ([(⟨0,1⟩:A2),(⟨1,2⟩:A2),(⟨2,3⟩:A2),(⟨1,3⟩:A2),(⟨4,5⟩:A2),(⟨0,4⟩:A2)].map (cy .i64)))))],[(103,_)]⟩ rfl ?_))
 obtain ⟨⟨x_7,x_8⟩,e4,h⟩:=aL h
 refine Oc (bo (hZ 104 e4) te rfl trivial rfl rfl) (Oc om (Oc (au rfl rfl) (Oc (au rfl rfl) (Oc oa (Oc oa ?_)))))
 refine ae.ag ⟨[(1,_),(2,_),(3,_),(4,_),(5,_),(6,_),(7,_),(8,_),(9,.b (.row 104)),(10,I x_8)],[(103,_),(104,.row 3 1 (x_7.map eI))]⟩ rfl (ab.seq (ab.aa ?_))
 refine Oc om (Oc om ?_)
 refine ae.gR 51 rfl (ae.gR 52 rfl (ae.af ⟨[(1,_),(2,_),(3,_),(4,_),(5,_),(6,_),(7,_),(8,_),(9,_),(10,_),(51,.b (.one (.sl 1 ([true,false,false,false,false,false,false].map eB)))),(52,.b (.one (.sl 2 ([(⟨0,1⟩:A2),(⟨1,2⟩:A2),(⟨2,3⟩:A2),(⟨1,3⟩:A2),(⟨4,5⟩:A2),(⟨0,4⟩:A2)].map (cy .i64)))))],[(103,_),(104,_)]⟩ rfl ?_))
 obtain ⟨⟨x_9,x_10⟩,e5,h⟩:=aL h
 refine Oc (aT (gA e5) s9 rfl rfl) (Oc om (Oc (au rfl rfl) (Oc (au rfl rfl) (Oc oa (Oc oa ?_)))))
 refine ae.ag ⟨[(1,_),(2,_),(3,_),(4,_),(5,_),(6,_),(7,_),(8,_),(9,_),(10,_),(11,.b (.one (.sl 1 (x_9.map eI)))),(12,I x_10)],[(103,_),(104,_)]⟩ rfl (ab.seq (ab.aa ?_))
 refine Oc om (Oc om (Oc (fU fS rfl rfl) (Oc (aF (k:=105) (es:=[(⟨3,6⟩:A2)].map (cy .i64)) ee rfl rfl (bf fun _=>rfl) rfl (by decide) (by decide) rfl) ?_)))
 obtain ⟨x_11,e6,h⟩:=aL h
 refine Oc (qp (k:=106) ee (fp e6) (fo e6) (Nat.le_of_ble_eq_true rfl) rfl rfl rfl (c5 e6) rfl) (ae.gR 57 rfl (ae.bI 106 rfl (ae.af ⟨[(3,.b (.one (.sl 1 (x_1.map (eL 1 eI))))),(4,I x_2),(5,.b (.row 103)),(6,I x_4),(7,.b (.one (.sl 1 (x_5.map eI)))),(8,I x_6),(9,.b (.row 104)),(10,I x_8),(11,.b (.one (.sl 1 (x_9.map eI)))),(12,I x_10),(57,.b (.one (.sl 1 ([true,false,false,false,false,false,false].map eB)))),(60,.b (.row 105)),(61,.b (.one (.sl 2 (x_11.map (cy .i64)))))],[(103,.row 3 1 (x_3.map eI)),(104,.row 3 1 (x_7.map eI)),(105,.row 44 2 ([(⟨3,6⟩:A2)].map (cy .i64)))]⟩ rfl ?_)))
 obtain ⟨⟨x_12,x_13⟩,e7,h⟩:=aL h
 refine Oc (aT (je e7) td rfl rfl) (Oc om (Oc (au rfl rfl) (Oc (au rfl rfl) (Oc oa (Oc oa ?_)))))
 refine ae.ag ⟨[(3,_),(4,_),(5,_),(6,_),(7,_),(8,_),(9,_),(10,_),(11,_),(12,_),(13,.b (.one (.sl 1 (x_12.map eI)))),(14,I x_13)],[(103,_),(104,_)]⟩ rfl (ab.seq (ab.aa ?_))
 refine Oc (aF (k:=107) (es:=[1,2].map eI) aq rfl rfl (bf fun _=>rfl) rfl (by decide) (by decide) rfl) (Oc (aF (k:=108) (es:=[4,5].map eI) aq rfl rfl (bf fun _=>rfl) rfl (by decide) (by decide) rfl) ?_)
 refine ae.bI 107 rfl (ae.bI 108 rfl (ae.af ⟨[(3,.b (.one (.sl 1 (x_1.map (eL 1 eI))))),(4,I x_2),(5,.b (.row 103)),(6,I x_4),(7,.b (.one (.sl 1 (x_5.map eI)))),(8,I x_6),(9,.b (.row 104)),(10,I x_8),(11,.b (.one (.sl 1 (x_9.map eI)))),(12,I x_10),(13,.b (.one (.sl 1 (x_12.map eI)))),(14,I x_13),(65,.b (.one (.sl 1 ([1,2].map eI)))),(66,.b (.one (.sl 1 ([4,5].map eI))))],[(103,.row 3 1 (x_3.map eI)),(104,.row 3 1 (x_7.map eI))]⟩ rfl (Oc (aF (k:=109) (es:=[[1,2],[4,5]].map (eL 1 eI)) fe rfl rfl (bf fun _=>rfl) rfl (by decide) (by decide) rfl) (Oc (aF (k:=110) (es:=[2,3].map eI) aq rfl rfl (bf fun _=>rfl) rfl (by decide) (by decide) rfl) (Oc (aF (k:=111) (es:=[6].map eI) aq rfl rfl (bf fun _=>rfl) rfl (by decide) (by decide) rfl) ?_)))))
 refine ae.bI 110 rfl (ae.bI 111 rfl (ae.af ⟨[(3,.b (.one (.sl 1 (x_1.map (eL 1 eI))))),(4,I x_2),(5,.b (.row 103)),(6,I x_4),(7,.b (.one (.sl 1 (x_5.map eI)))),(8,I x_6),(9,.b (.row 104)),(10,I x_8),(11,.b (.one (.sl 1 (x_9.map eI)))),(12,I x_10),(13,.b (.one (.sl 1 (x_12.map eI)))),(14,I x_13),(67,.b (.row 109)),(68,.b (.one (.sl 1 ([2,3].map eI)))),(69,.b (.one (.sl 1 ([6].map eI))))],[(103,.row 3 1 (x_3.map eI)),(104,.row 3 1 (x_7.map eI)),(109,.row 30 1 ([[1,2],[4,5]].map (eL 1 eI)))]⟩ rfl (Oc (aF (k:=112) (es:=[[2,3],[6]].map (eL 1 eI)) fe rfl rfl (bf fun _=>rfl) rfl (by decide) (by decide) rfl) (ae.bI 109 rfl (ae.bI 112 rfl ?_)))))
 refine Oc (aF (k:=113) (es:=[[[1,2],[4,5]],[[2,3],[6]]].map (eL 1 (eL 1 eI))) sP rfl rfl (bf fun _=>rfl) rfl (by decide) (by decide) rfl) (ae.bI 113 rfl ?_)
 obtain ⟨x_14,e8,h⟩:=aL h
 refine Oc (aT (mj e8) goes27 rfl rfl) (Oc oa ?_)
 refine ae.ag ⟨[(3,.b (.one (.sl 1 (x_1.map (eL 1 eI))))),(4,I x_2),(5,.b (.row 103)),(6,I x_4),(7,.b (.one (.sl 1 (x_5.map eI)))),(8,I x_6),(9,.b (.row 104)),(10,I x_8),(11,.b (.one (.sl 1 (x_9.map eI)))),(12,I x_10),(13,.b (.one (.sl 1 (x_12.map eI)))),(14,I x_13),(15,.b (.one (.sl 1 (x_14.map (eL 1 eI)))))],[(103,.row 3 1 (x_3.map eI)),(104,.row 3 1 (x_7.map eI))]⟩ rfl (ab.seq (ab.aa ?_))
 refine Oc (aF (k:=114) (es:=[1,2,3].map eI) aq rfl rfl (bf fun _=>rfl) rfl (by decide) (by decide) rfl) (Oc (aF (k:=115) (es:=[4,5].map eI) aq rfl rfl (bf fun _=>rfl) rfl (by decide) (by decide) rfl) (Oc (aF (k:=116) (es:=[6].map eI) aq rfl rfl (bf fun _=>rfl) rfl (by decide) (by decide) rfl) ?_))
 refine ae.bI 114 rfl (ae.bI 115 rfl (ae.bI 116 rfl (Oc (aF (k:=117) (es:=[[1,2,3],[4,5],[6]].map (eL 1 eI)) fe rfl rfl (bf fun _=>rfl) rfl (by decide) (by decide) rfl) (Oc oa ?_))))
 refine ae.ag ⟨[(3,.b (.one (.sl 1 (x_1.map (eL 1 eI))))),(4,I x_2),(5,.b (.row 103)),(6,I x_4),(7,.b (.one (.sl 1 (x_5.map eI)))),(8,I x_6),(9,.b (.row 104)),(10,I x_8),(11,.b (.one (.sl 1 (x_9.map eI)))),(12,I x_10),(13,.b (.one (.sl 1 (x_12.map eI)))),(14,I x_13),(15,.b (.one (.sl 1 (x_14.map (eL 1 eI))))),(16,.b (.row 117))],[(103,.row 3 1 (x_3.map eI)),(104,.row 3 1 (x_7.map eI)),(117,.row 30 1 ([[1,2,3],[4,5],[6]].map (eL 1 eI)))]⟩ rfl (ab.seq (ab.aa ?_))
 refine Oc om (Oc (dP rfl rfl) (Oc om ?_))
 refine eK (decide (x_2 = 0)) [] (fun g9=>trivial) (fun g9=>om) (eK (decide (x_2 = 0)) [80] (fun g10=>by exact ⟨g10,trivial⟩) (fun g10=>dP rfl rfl) (Oc (aY (fun e=>e) rfl rfl rfl rfl) (Oc om ?_)))
 refine ae.af ⟨[(3,_),(5,_),(7,_),(8,_),(9,_),(10,_),(11,_),(12,_),(13,_),(14,_),(15,_),(16,_),(83,B ((decide (x_2 = 0)) && (decide (x_4 = 0))))],[(103,_),(104,_),(117,_)]⟩ rfl (eK ((decide (x_2 = 0)) && (decide (x_4 = 0))) [] (fun g11=>trivial) (fun g11=>om) (eK ((decide (x_2 = 0)) && (decide (x_4 = 0))) [84] (fun g12=>by exact ⟨g12,trivial⟩) (fun g12=>dP rfl rfl) (ae.kV h rfl (aY (fun e=>e) rfl rfl rfl rfl) (fun x_15 h=>?_))))
 refine Oc om (eK x_15 [] (fun g13=>by exact trivial) (fun g13=>om) (eK x_15 [88] (fun g14=>by exact ⟨g14,trivial⟩) (fun g14=>dP rfl rfl) (Oc (aY (fun e=>e) rfl rfl rfl rfl) (Oc om ?_))))
 refine ae.af ⟨[(3,_),(5,_),(7,_),(9,_),(11,_),(12,_),(13,_),(14,_),(15,_),(16,_),(91,B (x_15 && (decide (x_8 = 0))))],[(103,_),(104,_),(117,_)]⟩ rfl (eK (x_15 && (decide (x_8 = 0))) [] (fun g15=>trivial) (fun g15=>om) (eK (x_15 && (decide (x_8 = 0))) [92] (fun g16=>by exact ⟨g16,trivial⟩) (fun g16=>dP rfl rfl) (Oc (aY (fun e=>e) rfl rfl rfl rfl) (Oc om ?_))))
 refine eK ((x_15 && (decide (x_8 = 0))) && (decide (x_10 = 0))) [] (fun g17=>trivial) (fun g17=>om) (eK ((x_15 && (decide (x_8 = 0))) && (decide (x_10 = 0))) [96] (fun g18=>by exact ⟨g18,trivial⟩) (fun g18=>dP rfl rfl) (ae.kV h rfl (aY (fun e=>e) rfl rfl rfl rfl) (fun x_16 h=>?_)))
 refine Oc oa (ae.ag ⟨[(3,_),(5,_),(7,_),(9,_),(11,_),(13,_),(15,_),(16,_),(17,B x_16)],[(103,_),(104,_),(117,_)]⟩ rfl (ab.seq (ab.aa ?_)))
 refine Oc om (Oc om ?_)
 refine eK x_16 [] (fun g19=>trivial) (fun g19=>om) (eK x_16 [] (fun g20=>by exact trivial) (fun g20=>om) ?_)
 obtain ⟨x_17,e22,h⟩:=aL h
 refine eK x_16 [101,102] (fun g21=>⟨g21,g21,trivial⟩) (fun g21=>j4 (c7 (gc e22 g21)) qK rfl CP.jb) (ae.af ⟨[(5,_),(7,_),(9,_),(11,_),(13,_),(15,_),(16,_),(100,B x_16),(103,.opt x_16 (.one (.bool x_17)))],[(103,_),(104,_),(117,_)]⟩ rfl (Oc (aY (fun e=>e) rfl rfl rfl rfl) (Oc om ?_)))
 refine eK (x_16 && x_17) [] (fun g23=>trivial) (fun g23=>om) (eK (x_16 && x_17) [] (fun g24=>by exact trivial) (fun g24=>cB (es:=[0,1,2,2,1,2,(-1)].map eI) aq rfl rfl (bf fun _=>rfl) rfl (by decide) (by decide)) ?_)
 obtain ⟨x_18,e26,h⟩:=aL h
 refine eK (x_16 && x_17) [106,107] (fun g25=>⟨g25,g25,trivial⟩) (fun g25=>j4 (bS (gc e26 g25)) mD rfl CP.jb) (ae.af ⟨[(7,_),(9,_),(11,_),(13,_),(15,_),(16,_),(105,B (x_16 && x_17)),(108,.opt (x_16 && x_17) (.one (.bool x_18)))],[(104,_),(117,_)]⟩ rfl (Oc (aY (fun e=>e) rfl rfl rfl rfl) (Oc om ?_)))
 refine eK ((x_16 && x_17) && x_18) [] (fun g27=>trivial) (fun g27=>om) (eK ((x_16 && x_17) && x_18) [] (fun g28=>by exact trivial) (fun g28=>cB (es:=[1,2,3,4,5,6].map eI) aq rfl rfl (bf fun _=>rfl) rfl (by decide) (by decide)) ?_)
 obtain ⟨x_19,e30,h⟩:=aL h
 refine eK ((x_16 && x_17) && x_18) [111,112] (fun g29=>⟨g29,g29,trivial⟩) (fun g29=>aT (bS (gc e30 g29)) mD rfl rfl) (ae.af ⟨[(9,_),(11,_),(13,_),(15,_),(16,_),(110,B ((x_16 && x_17) && x_18)),(113,.opt ((x_16 && x_17) && x_18) (.one (.bool x_19)))],[(104,_),(117,_)]⟩ rfl (Oc (aY (fun e=>e) rfl rfl rfl rfl) (Oc om ?_)))
 refine eK (((x_16 && x_17) && x_18) && x_19) [] (fun g31=>trivial) (fun g31=>om) (eK (((x_16 && x_17) && x_18) && x_19) [] (fun g32=>by exact trivial) (fun g32=>cB (es:=[1,2,4].map eI) aq rfl rfl (bf fun _=>rfl) rfl (by decide) (by decide)) ?_)
 obtain ⟨x_20,e34,h⟩:=aL h
 refine eK (((x_16 && x_17) && x_18) && x_19) [116,117] (fun g33=>⟨g33,g33,trivial⟩) (fun g33=>j4 (bS (gc e34 g33)) mD rfl CP.jb) (ae.af ⟨[(11,_),(13,_),(15,_),(16,_),(115,B (((x_16 && x_17) && x_18) && x_19)),(118,.opt (((x_16 && x_17) && x_18) && x_19) (.one (.bool x_20)))],[(117,_)]⟩ rfl (Oc (aY (fun e=>e) rfl rfl rfl rfl) (Oc om ?_)))
 refine eK ((((x_16 && x_17) && x_18) && x_19) && x_20) [] (fun g35=>trivial) (fun g35=>om) (eK ((((x_16 && x_17) && x_18) && x_19) && x_20) [] (fun g36=>by exact trivial) (fun g36=>cB (es:=[4].map eI) aq rfl rfl (bf fun _=>rfl) rfl (by decide) (by decide)) ?_)
 obtain ⟨x_21,e38,h⟩:=aL h
 refine eK ((((x_16 && x_17) && x_18) && x_19) && x_20) [121,122] (fun g37=>⟨g37,g37,trivial⟩) (fun g37=>aT (bS (gc e38 g37)) mD rfl rfl) (ae.af ⟨[(13,_),(15,_),(16,_),(120,B ((((x_16 && x_17) && x_18) && x_19) && x_20)),(123,.opt ((((x_16 && x_17) && x_18) && x_19) && x_20) (.one (.bool x_21)))],[(117,_)]⟩ rfl (Oc (aY (fun e=>e) rfl rfl rfl rfl) (Oc om ?_)))
 refine eK (((((x_16 && x_17) && x_18) && x_19) && x_20) && x_21) [] (fun g39=>trivial) (fun g39=>om) (eK (((((x_16 && x_17) && x_18) && x_19) && x_20) && x_21) [] (fun g40=>by exact trivial) (fun g40=>cB (es:=[3].map eI) aq rfl rfl (bf fun _=>rfl) rfl (by decide) (by decide)) ?_)
 obtain ⟨x_22,e42,h⟩:=aL h
 refine eK (((((x_16 && x_17) && x_18) && x_19) && x_20) && x_21) [126,127] (fun g41=>⟨g41,g41,trivial⟩) (fun g41=>aT (bS (gc e42 g41)) mD rfl rfl) (ae.af ⟨[(15,_),(16,_),(125,B (((((x_16 && x_17) && x_18) && x_19) && x_20) && x_21)),(128,.opt (((((x_16 && x_17) && x_18) && x_19) && x_20) && x_21) (.one (.bool x_22)))],[(117,_)]⟩ rfl (ae.kV h rfl (aY (fun e=>e) rfl rfl rfl rfl) (fun x_23 h=>?_)))
 refine Oc om (eK x_23 [] (fun g43=>by exact trivial) (fun g43=>om) (eK x_23 [] (fun g44=>by exact trivial) (fun g44=>om) ?_))
 obtain ⟨x_24,e46,h⟩:=aL h
 refine eK x_23 [131,132] (fun g45=>⟨g45,g45,trivial⟩) (fun g45=>j4 (c7 (gc e46 g45)) qK rfl CP.jb) (Oc (aY (fun e=>e) rfl rfl rfl rfl) (Oc oa ?_))
 refine ae.ag ⟨[(0,B (x_23 && x_24))],[]⟩ rfl (ab.ret ?_)
 obtain rfl:=Option.some.inj h
 refine Fin.af ⟨[(0,_)],[]⟩ rfl (Fin.aV [.one (.bool (x_23 && x_24))] (.inl rfl) rfl (.cons (.tmp rfl) .nil) ⟨rfl,rfl⟩)
def cg (F:Nat) (fixed0:List Bool) (links0:List A2):Option Bool :=
 if (decide (401 < (fixed0.length:Int))) = true then (some false) else (Option.bind (iter F (fun i_1=>if (decide (i_1 < (links0.length:Int))) = true then ((aE links0 i_1).bind fun x_2=>(aE links0 i_1).bind fun x_3=>eO (((decide (x_2.a0 < 0)) || (decide (x_3.a1 < 0))) || (decide ((fixed0.length:Int) ≤ x_2.a0))) fun x_4=>eO ((x_4 || (decide ((fixed0.length:Int) ≤ x_3.a1))) || (decide (x_2.a0 = x_3.a1))) fun x_5=>if x_5 = true then (some (.inr (.inr false))) else (some (.inl (IntKind.i64.wrap (i_1 + 1))))) else (some (.inr (.inl ())))) 0) (iE (fun _=>some true) (fun y=>some y)))
def b8 (F:Nat) (l0:List Int) (n0:Int):Option Bool :=
 Option.bind (iter F (fun i_1=>if (decide (i_1 < (l0.length:Int))) = true then ((aE l0 i_1).bind fun x_2=>if (decide (x_2 = n0)) = true then (some (.inr (.inr true))) else (some (.inl (IntKind.i64.wrap (i_1 + 1))))) else (some (.inr (.inl ())))) 0) (iE (fun _=>some false) (fun y=>some y))
theorem jE {F:Nat} {l0:List Int} {n0:Int} {r:Bool} (h:b8 F l0 n0 = some r):ay Try.prog [] 28 [] [.one (.sl 1 (l0.map eI)),.one (.i n0)] (Is [] (.b (.one (.bool r)))):=by
 unfold b8 at h
 refine ay.intro 18 Try.func28 Try.ntmps28 rfl (by simp) fun E=>?_
 show ab _ E ⟨18,[],[],[]⟩ _ ⟨[(0,.b (.one (.sl 1 (l0.map eI)))),(1,I n0)],[]⟩ _
 refine ab.seq (ab.aa ?_)
 refine Oc oa (ae.ag ⟨[(0,.b (.one (.sl 1 (l0.map eI)))),(1,I n0)],[]⟩ rfl ?_)
 obtain ⟨v1,h2,h⟩:=aL h
 refine ab.cM (v:=v1) (fun (_:Unit)=>⟨[],[]⟩) (fun z=>.inl z) ?_ ?_
 ·refine ab.seq (ab.aa ?_)
  refine Oc oa (ae.ag ⟨[(0,_),(1,_),(5,I 0)],[]⟩ rfl (ab.block (ab.cE h2 (fun (i_1:Int)=>⟨[(0,.b (.one (.sl 1 (l0.map eI)))),(1,I n0),(5,I i_1)],[]⟩) [0,1,5] [] rfl ?_)))
  rintro i_1 o3 h4 hy5
  refine ab.seq (ab.seq (ab.aa ?_))
  refine Oc om (Oc om (Oc (aw gm rfl (List.length_map _)) (Oc (bt rfl rfl) ?_)))
  refine ae.ag ⟨[(0,_),(1,_),(5,_),(9,B (decide (i_1 < (l0.length:Int))))],[]⟩ rfl (ab.ite h4 rfl (fun _ h4=>?_) (fun _ h4=>?_))
  ·refine ab.skip (Fin.af ⟨[(0,_),(1,_),(5,_)],[]⟩ rfl (Fin.then (ab.seq (ab.block (ab.seq (ab.aa ?_))))))
   refine Oc om (Oc om ?_)
   obtain ⟨x_2,e6,h4⟩:=aL h4
   refine Oc (aK aq (aH e6) (aJ (e:=eI) e6) rfl rfl) (Oc (aG az rfl rfl) (Oc om (Oc (dP rfl rfl) ?_)))
   refine ae.ag ⟨[(0,_),(1,_),(5,_),(17,B (decide (x_2 = n0)))],[]⟩ rfl (ab.ite h4 rfl (fun _ h4=>?_) (fun _ h4=>?_))
   ·refine ab.seq (ab.aa ?_)
    refine Oc oa (ae.ag ⟨[(4,B true)],[]⟩ rfl (ab.ret (Fin.cV (Fin.aN ?_))))
    obtain rfl:=hy5 _ (Option.some.inj h4).symm
    refine Fin.aN (Fin.cV (Fin.aN ?_))
    obtain rfl:=Option.some.inj h
    refine Fin.af ⟨[(4,_)],[]⟩ rfl (Fin.aV [.one (.bool true)] (.inl rfl) rfl (.cons (.tmp rfl) .nil) ⟨rfl,rfl⟩)
   ·refine ab.skip (Fin.ah (Fin.af ⟨[(0,_),(1,_),(5,_)],[]⟩ rfl (Fin.then (ab.aa ?_))))
    refine Oc om (Oc (aU rfl rfl) (Oc oa ?_))
    refine ae.nil ?_
    exact Fin.bG [0,1,5] [] (IntKind.i64.wrap (i_1 + 1)) (Option.some.inj h4) rfl
  ·refine ab.exit (Fin.ai ?_)
   obtain rfl:=hy5 _ (Option.some.inj h4).symm
   refine Fin.ai (Fin.aB ?_)
   exact Fin.join [] [] () rfl rfl
 ·rintro _ hv
  subst v1
  refine ab.seq (ab.aa ?_)
  refine Oc oa (ae.ag ⟨[(4,B false)],[]⟩ rfl (ab.ret ?_))
  obtain rfl:=Option.some.inj h
  refine Fin.af ⟨[(4,_)],[]⟩ rfl (Fin.aV [.one (.bool false)] (.inl rfl) rfl (.cons (.tmp rfl) .nil) ⟨rfl,rfl⟩)
def dy (F:Nat) (l0:List Int) (n0:Int):Option (List Int) :=
 (b8 F l0 n0).bind fun x_1=>if x_1 = true then (some l0) else (Option.bind (iter F (np fun out_4 placed_5 i_6=>if (decide (i_6 < (l0.length:Int))) = true then (Option.bind (Option.bind ((dc (!placed_5) (aE l0 i_6)).bind fun x_13=>if ((!placed_5) && (decide (n0 < x_13))) = true then ((c9 out_4 [n0]).bind fun x_14=>some (x_14,true)) else (some (out_4,placed_5))) (cm fun out_11 placed_12=>(aE l0 i_6).bind fun x_15=>(c9 out_11 [x_15]).bind fun x_16=>some (x_16,placed_12))) (cm fun out_9 placed_10=>some (.inl (out_9,placed_10,IntKind.i64.wrap (i_6 + 1))))) else (some (.inr (out_4,placed_5)))) ([],false,0)) (cm fun out_2 placed_3=>Option.bind (if (!placed_3) = true then ((c9 out_2 [n0]).bind fun x_18=>some x_18) else (some out_2)) (fun out_17=>some out_17)))
def dk (F:Nat) (a0:List Int) (b0:List Int):Option (List Int) :=
 Option.bind (iter F (cm fun out_2 i_3=>if (decide (i_3 < (b0.length:Int))) = true then ((aE b0 i_3).bind fun x_5=>(dy F out_2 x_5).bind fun x_6=>some (.inl (x_6,IntKind.i64.wrap (i_3 + 1)))) else (some (.inr out_2))) (a0,0)) (fun out_1=>some out_1)
def dZ (F:Nat) (a0:List Int) (b0:List Int):Option Bool :=
 Option.bind (iter F (fun i_1=>if (decide (i_1 < (a0.length:Int))) = true then ((aE a0 i_1).bind fun x_2=>(b8 F b0 x_2).bind fun x_3=>if x_3 = true then (some (.inr (.inr true))) else (some (.inl (IntKind.i64.wrap (i_1 + 1))))) else (some (.inr (.inl ())))) 0) (iE (fun _=>some false) (fun y=>some y))
def eQ (F:Nat) (l0:List (List Int)) (x0:List Int):Option (List (List Int)) :=
 Option.bind (iter F (np fun out_3 placed_4 i_5=>if (decide (i_5 < (l0.length:Int))) = true then (Option.bind (Option.bind ((dc (!placed_4) (aE l0 i_5)).bind fun x_12=>(dc (!placed_4) (aE x_12 0)).bind fun x_13=>(dc (!placed_4) (aE x0 0)).bind fun x_14=>if ((!placed_4) && (decide (x_14 < x_13))) = true then ((c9 out_3 [x0]).bind fun x_15=>some (x_15,true)) else (some (out_3,placed_4))) (cm fun out_10 placed_11=>(aE l0 i_5).bind fun x_16=>(c9 out_10 [x_16]).bind fun x_17=>some (x_17,placed_11))) (cm fun out_8 placed_9=>some (.inl (out_8,placed_9,IntKind.i64.wrap (i_5 + 1))))) else (some (.inr (out_3,placed_4)))) ([],false,0)) (cm fun out_1 placed_2=>Option.bind (if (!placed_2) = true then ((c9 out_1 [x0]).bind fun x_19=>some x_19) else (some out_1)) (fun out_18=>some out_18))
def cL (F:Nat) (l0:List (List Int)):Option (List (List Int)) :=
 Option.bind (iter F (cm fun sets_2 i_3=>if (decide (i_3 < (l0.length:Int))) = true then (Option.bind ((aE l0 i_3).bind fun x_6=>(dk F [] x_6).bind fun x_7=>if (decide ((x_7.length:Int) = 0)) = true then (some sets_2) else (Option.bind (iter F (np fun x_10 rest_11 k_12=>if (decide (k_12 < (sets_2.length:Int))) = true then (Option.bind ((aE sets_2 k_12).bind fun x_17=>(dZ F x_17 x_10).bind fun x_18=>if x_18 = true then ((aE sets_2 k_12).bind fun x_19=>(dk F x_10 x_19).bind fun x_20=>some (x_20,rest_11)) else ((aE sets_2 k_12).bind fun x_21=>(c9 rest_11 [x_21]).bind fun x_22=>some (x_10,x_22))) (cm fun x_15 rest_16=>some (.inl (x_15,rest_16,IntKind.i64.wrap (k_12 + 1))))) else (some (.inr (x_10,rest_11)))) (x_7,[],0)) (cm fun x_8 rest_9=>(c9 rest_9 [x_8]).bind fun x_23=>some x_23))) (fun sets_5=>some (.inl (sets_5,IntKind.i64.wrap (i_3 + 1))))) else (some (.inr sets_2))) ([],0)) (fun sets_1=>Option.bind (iter F (cm fun out_25 i_26=>if (decide (i_26 < (sets_1.length:Int))) = true then ((aE sets_1 i_26).bind fun x_28=>(eQ F out_25 x_28).bind fun x_29=>some (.inl (x_29,IntKind.i64.wrap (i_26 + 1)))) else (some (.inr out_25))) ([],0)) (fun out_24=>some out_24))
def bR (F:Nat) (fixed0:List Bool) (links0:List A2):Option (List (List Int)) :=
 Option.bind (iter F (cm fun l_2 i_3=>if (decide (i_3 < (fixed0.length:Int))) = true then (Option.bind ((aE fixed0 i_3).bind fun x_6=>if (!x_6) = true then ((c9 l_2 [[i_3]]).bind fun x_7=>some x_7) else (some l_2)) (fun l_5=>some (.inl (l_5,IntKind.i64.wrap (i_3 + 1))))) else (some (.inr l_2))) ([],0)) (fun l_1=>Option.bind (iter F (cm fun l_9 i_10=>if (decide (i_10 < (links0.length:Int))) = true then (Option.bind ((aE links0 i_10).bind fun x_13=>(aE fixed0 x_13.a0).bind fun x_14=>(dc (!x_14) (aE links0 i_10)).bind fun x_15=>(dc (!x_14) (aE fixed0 x_15.a1)).bind fun x_16=>if ((!x_14) && (!x_16)) = true then ((aE links0 i_10).bind fun x_17=>(aE links0 i_10).bind fun x_18=>(c9 l_9 [[x_17.a0,x_18.a1]]).bind fun x_19=>some x_19) else (some l_9)) (fun l_12=>some (.inl (l_12,IntKind.i64.wrap (i_10 + 1))))) else (some (.inr l_9))) (l_1,0)) (fun l_8=>(cL F l_8).bind fun x_20=>some x_20))
def fM (F:Nat) (fixed0:List Bool) (links0:List A2):Option lH :=
 (cg F fixed0 links0).bind fun x_1=>if (!x_1) = true then (some (⟨[],1⟩:lH)) else (Option.bind (iter F (cm fun out_3 i_4=>if (decide (i_4 < (links0.length:Int))) = true then (Option.bind ((aE links0 i_4).bind fun x_7=>(aE fixed0 x_7.a0).bind fun x_8=>(dc (!x_8) (aE links0 i_4)).bind fun x_9=>(dc (!x_8) (aE fixed0 x_9.a1)).bind fun x_10=>if (x_8 || x_10) = true then (some out_3) else ((lC links0 (IntKind.i64.wrap (i_4 + 1))).bind fun x_11=>(bR F fixed0 x_11).bind fun x_12=>(lC links0 i_4).bind fun x_13=>(bR F fixed0 x_13).bind fun x_14=>if (decide ((x_12.length:Int) < (x_14.length:Int))) = true then ((c9 out_3 [i_4]).bind fun x_15=>some x_15) else (some out_3))) (fun out_6=>some (.inl (out_6,IntKind.i64.wrap (i_4 + 1))))) else (some (.inr out_3))) ([],0)) (fun out_2=>some (⟨out_2,0⟩:lH)))
def gw (F:Nat) (fixed0:List Bool) (links0:List A2):Option lH :=
 (cg F fixed0 links0).bind fun x_1=>if (!x_1) = true then (some (⟨[],1⟩:lH)) else ((bR F fixed0 links0).bind fun x_2=>Option.bind (iter F (cm fun out_4 i_5=>if (decide (i_5 < (x_2.length:Int))) = true then (Option.bind (Option.bind (iter F (cm fun out_8 k_9=>(aE x_2 i_5).bind fun x_11=>if (decide (k_9 < (x_11.length:Int))) = true then (Option.bind ((aE x_2 i_5).bind fun x_13=>(aE x_13 k_9).bind fun x_14=>(c9 [] fixed0).bind fun x_15=>(aE x_15 x_14).bind fun x_16=>(aE x_2 i_5).bind fun x_17=>(dc (decide (1 < (x_17.length:Int))) (bR F (x_15.set (x_14:Int).toNat true) links0)).bind fun x_18=>eO ((decide (1 < (x_17.length:Int))) && (decide ((x_2.length:Int) < (x_18.length:Int)))) fun x_19=>if x_19 = true then ((dy F out_8 x_14).bind fun x_20=>some x_20) else (some out_8)) (fun out_12=>some (.inl (out_12,IntKind.i64.wrap (k_9 + 1))))) else (some (.inr out_8))) (out_4,0)) (fun out_10=>some out_10)) (fun out_7=>some (.inl (out_7,IntKind.i64.wrap (i_5 + 1))))) else (some (.inr out_4))) ([],0)) (fun out_3=>some (⟨out_3,0⟩:lH)))
def fB (F:Nat) (fixed0:List Bool) (links0:List A2):Option lH :=
 (cg F fixed0 links0).bind fun x_1=>if (!x_1) = true then (some (⟨[],1⟩:lH)) else ((bR F fixed0 links0).bind fun x_2=>Option.bind (iter F (cm fun out_4 i_5=>if (decide (i_5 < (links0.length:Int))) = true then (Option.bind ((lC links0 i_5).bind fun x_8=>(c9 [] x_8).bind fun x_9=>(kU links0 (IntKind.i64.wrap (i_5 + 1))).bind fun x_10=>(c9 x_9 x_10).bind fun x_11=>(bR F fixed0 x_11).bind fun x_12=>if (decide ((x_2.length:Int) < (x_12.length:Int))) = true then ((c9 out_4 [i_5]).bind fun x_13=>some x_13) else (some out_4)) (fun out_7=>some (.inl (out_7,IntKind.i64.wrap (i_5 + 1))))) else (some (.inr out_4))) ([],0)) (fun out_3=>some (⟨out_3,0⟩:lH)))
def bK (F:Nat) (fixed0:List Bool) (links0:List A2):Option Bool :=
 (dF F fixed0 links0).bind fun x_1=>if (!x_1) = true then ((bJ F).bind fun x_2=>some x_2) else (Option.bind (cr F fixed0 links0) (cm fun x_3 x_4=>Option.bind (cH F fixed0 links0) (cm fun x_5 x_6=>Option.bind (bX F fixed0 links0) (cm fun x_7 x_8=>Option.bind (cP F fixed0 links0) (cm fun x_9 x_10=>if (decide (x_4 ≠ 0)) = true then ((bJ F).bind fun x_11=>eO (((x_11 && (decide (x_6 = x_4))) && (decide (x_8 = x_4))) && (decide (x_10 = x_4))) fun x_12=>some x_12) else (Option.bind (iter F (cm fun moving_14 i_15=>if (decide (i_15 < (fixed0.length:Int))) = true then (Option.bind ((aE fixed0 i_15).bind fun x_18=>if (!x_18) = true then (some (IntKind.i64.wrap (moving_14 + 1))) else (some moving_14)) (fun moving_17=>some (.inl (moving_17,IntKind.i64.wrap (i_15 + 1))))) else (some (.inr moving_14))) (0,0)) (fun moving_13=>Option.bind (iter F (cm fun tree_20 i_21=>if (decide (i_21 < (x_5.length:Int))) = true then ((aE x_5 i_21).bind fun x_23=>(aE links0 x_23).bind fun x_24=>(c9 tree_20 [x_24]).bind fun x_25=>some (.inl (x_25,IntKind.i64.wrap (i_21 + 1)))) else (some (.inr tree_20))) ([],0)) (fun tree_19=>Option.bind (cr F fixed0 tree_19) (cm fun x_26 x_27=>eO ((decide (x_27 ≠ 0)) || (decide ((x_5.length:Int) ≠ (IntKind.i64.wrap (moving_13 - (x_3.length:Int)))))) fun x_28=>(dc (!x_28) (bx F x_26 x_3)).bind fun x_29=>if (x_28 || (!x_29)) = true then (some false) else (Option.bind (iter F (fun i_30=>if (decide (i_30 < (x_7.length:Int))) = true then ((aE x_7 i_30).bind fun x_31=>(lC links0 x_31).bind fun x_32=>(c9 [] x_32).bind fun x_33=>(aE x_7 i_30).bind fun x_34=>(kU links0 (IntKind.i64.wrap (x_34 + 1))).bind fun x_35=>(c9 x_33 x_35).bind fun x_36=>Option.bind (cr F fixed0 x_36) (cm fun x_37 x_38=>(aE x_7 i_30).bind fun x_39=>(b8 F x_5 x_39).bind fun x_40=>eO ((!x_40) || (decide ((x_37.length:Int) ≠ (IntKind.i64.wrap ((x_3.length:Int) + 1))))) fun x_41=>if x_41 = true then (some (.inr (.inr false))) else (some (.inl (IntKind.i64.wrap (i_30 + 1)))))) else (some (.inr (.inl ())))) 0) (iE (fun _=>Option.bind (iter F (fun i_42=>if (decide (i_42 < (x_9.length:Int))) = true then ((c9 [] fixed0).bind fun x_43=>(aE x_9 i_42).bind fun x_44=>(aE x_43 x_44).bind fun x_45=>Option.bind (cr F (x_43.set (x_44:Int).toNat true) links0) (cm fun x_46 x_47=>(aE x_9 i_42).bind fun x_48=>(aE fixed0 x_48).bind fun x_49=>if (x_49 || (decide ((x_46.length:Int) ≤ (x_3.length:Int)))) = true then (some (.inr (.inr false))) else (some (.inl (IntKind.i64.wrap (i_42 + 1)))))) else (some (.inr (.inl ())))) 0) (iE (fun _=>(bJ F).bind fun x_50=>some x_50) (fun y=>some y))) (fun y=>some y))))))))))))
theorem eT {F:Nat} {fixed0:List Bool} {links0:List A2} {r:Bool} (h:bK F fixed0 links0 = some r):ay Try.prog [] 8 [] [.one (.sl 1 (fixed0.map eB)),.one (.sl 2 (links0.map (cy .i64)))] (Is [] (.b (.one (.bool r)))):=by
 unfold bK at h
 refine ay.intro 205 Try.func8 Try.ntmps8 rfl (by simp) fun E=>?_
 show ab _ E ⟨205,[],[],[]⟩ _ ⟨[(0,.b (.one (.sl 1 (fixed0.map eB)))),(1,.b (.one (.sl 2 (links0.map (cy .i64)))))],[]⟩ _
 refine ab.seq (ab.aa ?_)
 refine Oc oa (ae.ag ⟨[(0,.b (.one (.sl 1 (fixed0.map eB)))),(1,.b (.one (.sl 2 (links0.map (cy .i64)))))],[]⟩ rfl (ab.seq (ab.seq (ab.aa ?_))))
 refine Oc om (Oc om ?_)
 obtain ⟨x_1,e1,h⟩:=aL h
 refine Oc (aT (jF e1) goes10 rfl rfl) (Oc (dO rfl) ?_)
 refine ae.ag ⟨[(0,_),(1,_),(30,B (!x_1))],[]⟩ rfl (ab.ite h rfl (fun _ h=>?_) (fun _ h=>?_))
 ·refine ab.seq (ab.aa ?_)
  obtain ⟨x_2,e2,h⟩:=aL h
  refine Oc (aT (dq e2) qL rfl rfl) (Oc oa ?_)
  refine ae.ag ⟨[(4,B x_2)],[]⟩ rfl (ab.ret (Fin.aN ?_))
  obtain rfl:=Option.some.inj h
  refine Fin.af ⟨[(4,_)],[]⟩ rfl (Fin.aV [.one (.bool x_2)] (.inl rfl) rfl (.cons (.tmp rfl) .nil) ⟨rfl,rfl⟩)
 ·refine ab.skip (Fin.af ⟨[(0,_),(1,_)],[]⟩ rfl (Fin.then (ab.seq (ab.aa ?_))))
  refine Oc om (Oc om ?_)
  obtain ⟨⟨x_3,x_4⟩,e3,h⟩:=aL h
  refine Oc (aT (dJ e3) mE rfl rfl) (Oc om (Oc (au rfl rfl) ?_))
  refine ae.af ⟨[(0,_),(1,_),(32,.eJ [.one (.sl 1 (x_3.map (eL 1 eI))),.one (.i x_4)]),(36,.b (.one (.sl 1 (x_3.map (eL 1 eI)))))],[]⟩ rfl (Oc (au rfl rfl) (Oc oa (Oc oa ?_)))
  refine ae.ag ⟨[(0,_),(1,_),(5,.b (.one (.sl 1 (x_3.map (eL 1 eI))))),(6,I x_4)],[]⟩ rfl (ab.seq (ab.aa ?_))
  refine Oc om (Oc om ?_)
  obtain ⟨⟨x_5,x_6⟩,e4,h⟩:=aL h
  refine Oc (bo (hZ 101 e4) te rfl trivial rfl rfl) (Oc om (Oc (au rfl rfl) ?_))
  refine ae.af ⟨[(0,_),(1,_),(5,_),(6,_),(38,.eJ [.row 101,.one (.i x_6)]),(42,.b (.row 101))],[(101,.row 3 1 (x_5.map eI))]⟩ rfl (Oc (au rfl rfl) (Oc oa (Oc oa ?_)))
  refine ae.ag ⟨[(0,_),(1,_),(5,_),(6,_),(7,.b (.row 101)),(8,I x_6)],[(101,_)]⟩ rfl (ab.seq (ab.aa ?_))
  refine Oc om (Oc om ?_)
  obtain ⟨⟨x_7,x_8⟩,e5,h⟩:=aL h
  refine Oc (aT (gA e5) s9 rfl rfl) (Oc om (Oc (au rfl rfl) ?_))
  refine ae.af ⟨[(0,_),(1,_),(5,_),(6,_),(7,_),(8,_),(44,.eJ [.one (.sl 1 (x_7.map eI)),.one (.i x_8)]),(48,.b (.one (.sl 1 (x_7.map eI))))],[(101,_)]⟩ rfl (Oc (au rfl rfl) (Oc oa (Oc oa ?_)))
  refine ae.ag ⟨[(0,_),(1,_),(5,_),(6,_),(7,_),(8,_),(9,.b (.one (.sl 1 (x_7.map eI)))),(10,I x_8)],[(101,_)]⟩ rfl (ab.seq (ab.aa ?_))
  refine Oc om (Oc om ?_)
  obtain ⟨⟨x_9,x_10⟩,e6,h⟩:=aL h
  refine Oc (aT (je e6) td rfl rfl) (Oc om (Oc (au rfl rfl) ?_))
  refine ae.af ⟨[(0,_),(1,_),(5,_),(6,_),(7,_),(8,_),(9,_),(10,_),(50,.eJ [.one (.sl 1 (x_9.map eI)),.one (.i x_10)]),(54,.b (.one (.sl 1 (x_9.map eI))))],[(101,_)]⟩ rfl (Oc (au rfl rfl) (Oc oa (Oc oa ?_)))
  refine ae.ag ⟨[(0,_),(1,_),(5,_),(6,_),(7,_),(8,_),(9,_),(10,_),(11,.b (.one (.sl 1 (x_9.map eI)))),(12,I x_10)],[(101,_)]⟩ rfl (ab.seq (ab.seq (ab.aa ?_)))
  refine Oc om (Oc (iG rfl rfl) ?_)
  refine ae.ag ⟨[(0,_),(1,_),(5,_),(6,_),(7,_),(8,_),(9,_),(10,_),(11,_),(12,_),(57,B (decide (x_4 ≠ 0)))],[(101,_)]⟩ rfl (ab.ite h rfl (fun _ h=>?_) (fun _ h=>?_))
  ·refine ab.seq (ab.aa ?_)
   obtain ⟨x_11,e7,h⟩:=aL h
   refine Oc (aT (dq e7) qL rfl rfl) (Oc om ?_)
   refine eK x_11 [] (fun g8=>trivial) (fun g8=>om) (eK x_11 [] (fun g9=>by exact trivial) (fun g9=>om) (eK x_11 [60,61] (fun g10=>by exact ⟨g10,g10,trivial⟩) (fun g10=>dP rfl rfl) (ae.af ⟨[(6,_),(10,_),(12,_),(59,B x_11),(62,.opt x_11 (.one (.bool (decide (x_6 = x_4)))))],[]⟩ rfl (Oc (aY (fun e=>e) rfl rfl rfl rfl) (Oc om ?_)))))
   refine eK (x_11 && (decide (x_6 = x_4))) [] (fun g11=>trivial) (fun g11=>om) (eK (x_11 && (decide (x_6 = x_4))) [] (fun g12=>by exact trivial) (fun g12=>om) (eK (x_11 && (decide (x_6 = x_4))) [65,66] (fun g13=>by exact ⟨g13,g13,trivial⟩) (fun g13=>dP rfl rfl) (Oc (aY (fun e=>e) rfl rfl rfl rfl) (Oc om ?_))))
   refine eK ((x_11 && (decide (x_6 = x_4))) && (decide (x_8 = x_4))) [] (fun g14=>trivial) (fun g14=>om) (ae.af ⟨[(6,_),(69,B ((x_11 && (decide (x_6 = x_4))) && (decide (x_8 = x_4)))),(70,.opt ((x_11 && (decide (x_6 = x_4))) && (decide (x_8 = x_4))) (.one (.i x_10)))],[]⟩ rfl (eK ((x_11 && (decide (x_6 = x_4))) && (decide (x_8 = x_4))) [] (fun g15=>by exact trivial) (fun g15=>om) (eK ((x_11 && (decide (x_6 = x_4))) && (decide (x_8 = x_4))) [70,71] (fun g16=>by exact ⟨g16,g16,trivial⟩) (fun g16=>dP rfl rfl) (ae.kV h rfl (aY (fun e=>e) rfl rfl rfl rfl) (fun x_12 h=>?_)))))
   refine Oc oa (ae.ag ⟨[(4,B x_12)],[]⟩ rfl (ab.ret (Fin.aN ?_)))
   obtain rfl:=Option.some.inj h
   refine Fin.af ⟨[(4,_)],[]⟩ rfl (Fin.aV [.one (.bool x_12)] (.inl rfl) rfl (.cons (.tmp rfl) .nil) ⟨rfl,rfl⟩)
  ·refine ab.skip (Fin.af ⟨[(0,_),(1,_),(5,_),(7,_),(9,_),(11,_)],[(101,_)]⟩ rfl (Fin.then (ab.seq (ab.aa ?_))))
   refine Oc oa (ae.ag ⟨[(0,_),(1,_),(5,_),(7,_),(9,_),(11,_),(13,I 0)],[(101,_)]⟩ rfl ?_)
   obtain ⟨v17,h18,h⟩:=aL h
   refine ab.cM (v:=v17) (fun (moving_13:Int)=>⟨[(0,.b (.one (.sl 1 (fixed0.map eB)))),(1,.b (.one (.sl 2 (links0.map (cy .i64))))),(5,.b (.one (.sl 1 (x_3.map (eL 1 eI))))),(7,.b (.row 101)),(9,.b (.one (.sl 1 (x_7.map eI)))),(11,.b (.one (.sl 1 (x_9.map eI)))),(13,I moving_13)],[(101,.row 3 1 (x_5.map eI))]⟩) (fun z=>z) ?_ ?_
   ·refine ab.seq (ab.aa ?_)
    refine Oc oa (ae.ag ⟨[(0,_),(1,_),(5,_),(7,_),(9,_),(11,_),(13,_),(14,I 0)],[(101,_)]⟩ rfl (ab.block (ab.cE h18 (cm fun (moving_14:Int) (i_15:Int)=>⟨[(0,.b (.one (.sl 1 (fixed0.map eB)))),(1,.b (.one (.sl 2 (links0.map (cy .i64))))),(5,.b (.one (.sl 1 (x_3.map (eL 1 eI))))),(7,.b (.row 101)),(9,.b (.one (.sl 1 (x_7.map eI)))),(11,.b (.one (.sl 1 (x_9.map eI)))),(13,I moving_14),(14,I i_15)],[(101,.row 3 1 (x_5.map eI))]⟩) [0,1,5,7,9,11,13,14] [101] rfl ?_)))
    rintro ⟨moving_14,i_15⟩ o19 h20 hy21
    refine ab.seq (ab.seq (ab.aa ?_))
    refine Oc om (Oc om (Oc (aw dC rfl (List.length_map _)) (Oc (bt rfl rfl) ?_)))
    refine ae.ag ⟨[(0,_),(1,_),(5,_),(7,_),(9,_),(11,_),(13,_),(14,_),(77,B (decide (i_15 < (fixed0.length:Int))))],[(101,_)]⟩ rfl (ab.ite h20 rfl (fun _ h20=>?_) (fun _ h20=>?_))
    ·refine ab.skip (Fin.af ⟨[(0,_),(1,_),(5,_),(7,_),(9,_),(11,_),(13,_),(14,_)],[(101,_)]⟩ rfl (Fin.then ?_))
     obtain ⟨v22,h23,h20⟩:=aL h20
     refine ab.cM (v:=v22) (fun (moving_17:Int)=>⟨[(0,.b (.one (.sl 1 (fixed0.map eB)))),(1,.b (.one (.sl 2 (links0.map (cy .i64))))),(5,.b (.one (.sl 1 (x_3.map (eL 1 eI))))),(7,.b (.row 101)),(9,.b (.one (.sl 1 (x_7.map eI)))),(11,.b (.one (.sl 1 (x_9.map eI)))),(13,I moving_17),(14,I i_15)],[(101,.row 3 1 (x_5.map eI))]⟩) (fun z=>z) ?_ ?_
     ·refine ab.block (ab.seq (ab.aa ?_))
      refine Oc om (Oc om ?_)
      obtain ⟨x_18,e24,h23⟩:=aL h23
      refine Oc (aK gU (aH e24) (aJ (e:=eB) e24) rfl rfl) (Oc (aG jT rfl rfl) (Oc (dO rfl) ?_))
      refine ae.ag ⟨[(0,_),(1,_),(5,_),(7,_),(9,_),(11,_),(13,_),(14,_),(84,B (!x_18))],[(101,_)]⟩ rfl (ab.ite h23 rfl (fun _ h23=>?_) (fun _ h23=>?_))
      ·refine ab.aa (Oc om (Oc (aU rfl rfl) (Oc oa ?_)))
       refine ae.nil (Fin.ah ?_)
       exact Fin.join [0,1,5,7,9,11,13,14] [101] (IntKind.i64.wrap (moving_14 + 1)) (Option.some.inj h23) rfl
      ·refine ab.skip (Fin.ah ?_)
       exact Fin.join [0,1,5,7,9,11,13,14] [101] moving_14 (Option.some.inj h23) rfl
     ·rintro moving_17 hv
      subst v22
      refine ab.aa (Oc om (Oc (aU rfl rfl) (Oc oa ?_)))
      refine ae.nil ?_
      exact Fin.bG [0,1,5,7,9,11,13,14] [101] (moving_17,IntKind.i64.wrap (i_15 + 1)) (Option.some.inj h20) rfl
    ·refine ab.exit (Fin.ai ?_)
     obtain rfl:=hy21 _ (Option.some.inj h20).symm
     refine Fin.ai (Fin.aB ?_)
     exact Fin.join [0,1,5,7,9,11,13] [101] moving_14 rfl rfl
   ·rintro moving_13 hv
    subst v17
    refine ab.seq (ab.aa ?_)
    refine Oc oa (ae.ag ⟨[(0,_),(1,_),(5,_),(7,_),(9,_),(11,_),(13,_),(15,.b (.one (.nil)))],[(101,_)]⟩ rfl ?_)
    obtain ⟨v25,h26,h⟩:=aL h
    refine ab.cM (v:=v25) (fun (tree_19:List A2)=>⟨[(0,.b (.one (.sl 1 (fixed0.map eB)))),(1,.b (.one (.sl 2 (links0.map (cy .i64))))),(5,.b (.one (.sl 1 (x_3.map (eL 1 eI))))),(7,.b (.row 101)),(9,.b (.one (.sl 1 (x_7.map eI)))),(11,.b (.one (.sl 1 (x_9.map eI)))),(13,I moving_13),(15,.b (.row 103))],[(101,.row 3 1 (x_5.map eI)),(103,.row 44 2 (tree_19.map (cy .i64)))]⟩) (fun z=>z) ?_ ?_
    ·refine ab.seq (ab.aa ?_)
     refine Oc oa (ae.ag ⟨[(0,_),(1,_),(5,_),(7,_),(9,_),(11,_),(13,_),(15,_),(16,I 0)],[(101,_)]⟩ rfl (ab.block (ab.dY 15 103 2 44 rfl (by decide) rfl (ab.cE h26 (cm fun (tree_20:List A2) (i_21:Int)=>⟨[(0,.b (.one (.sl 1 (fixed0.map eB)))),(1,.b (.one (.sl 2 (links0.map (cy .i64))))),(5,.b (.one (.sl 1 (x_3.map (eL 1 eI))))),(7,.b (.row 101)),(9,.b (.one (.sl 1 (x_7.map eI)))),(11,.b (.one (.sl 1 (x_9.map eI)))),(13,I moving_13),(15,.b (.row 103)),(16,I i_21)],[(101,.row 3 1 (x_5.map eI)),(103,.row 44 2 (tree_20.map (cy .i64)))]⟩) [0,1,5,7,9,11,13,15,16] [101,103] rfl ?_))))
     rintro ⟨tree_20,i_21⟩ o27 h28 hy29
     refine ab.seq (ab.seq (ab.aa ?_))
     refine Oc om (Oc om (Oc (fT gm rfl rfl (List.length_map _)) (Oc (bt rfl rfl) ?_)))
     refine ae.ag ⟨[(0,_),(1,_),(5,_),(7,_),(9,_),(11,_),(13,_),(15,_),(16,_),(90,B (decide (i_21 < (x_5.length:Int))))],[(101,_),(103,_)]⟩ rfl (ab.ite h28 rfl (fun _ h28=>?_) (fun _ h28=>?_))
     ·refine ab.skip (Fin.af ⟨[(0,_),(1,_),(5,_),(7,_),(9,_),(11,_),(13,_),(15,_),(16,_)],[(101,_),(103,_)]⟩ rfl (Fin.then (ab.seq (ab.block (ab.aa ?_)))))
      refine Oc om (Oc om (Oc om (Oc om ?_)))
      obtain ⟨x_23,e30,h28⟩:=aL h28
      refine Oc (ar aq (aH e30) (aW e30) rfl rfl rfl rfl) (Oc (aO (i:=(i_21:Int).toNat) (f:=0) az rfl rfl rfl (aJ (e:=eI) e30) rfl) ?_)
      obtain ⟨x_24,e31,h28⟩:=aL h28
      refine Oc (aK ee (aH e31) (aJ (e:=(cy .i64)) e31) rfl rfl) (ae.af ⟨[(0,_),(1,_),(5,_),(7,_),(9,_),(11,_),(13,_),(15,_),(16,_),(93,.b (.row 103)),(99,.b (.c3 ((cy .i64) x_24)))],[(101,_),(103,_)]⟩ rfl (Oc (iZ nr rfl rfl rfl) (Oc (aF (k:=104) (es:=[x_24].map (cy .i64)) ee rfl rfl (bf fun _=>rfl) rfl (by decide) (by decide) rfl) ?_)))
      obtain ⟨x_25,e32,h28⟩:=aL h28
      refine Oc (cF ee (fp e32) (fo e32) rfl rfl rfl rfl (c5 e32) rfl) (Oc oa ?_)
      refine ae.nil (Fin.ah (Fin.af ⟨[(0,_),(1,_),(5,_),(7,_),(9,_),(11,_),(13,_),(15,_),(16,_)],[(101,_),(103,.row 44 2 (x_25.map (cy .i64)))]⟩ rfl (Fin.then (ab.aa ?_))))
      refine Oc om (Oc (aU rfl rfl) (Oc oa ?_))
      refine ae.nil ?_
      exact Fin.bG [0,1,5,7,9,11,13,15,16] [101,103] (x_25,IntKind.i64.wrap (i_21 + 1)) (Option.some.inj h28) rfl
     ·refine ab.exit (Fin.ai ?_)
      obtain rfl:=hy29 _ (Option.some.inj h28).symm
      refine Fin.ai (Fin.aB ?_)
      exact Fin.join [0,1,5,7,9,11,13,15] [101,103] tree_20 rfl rfl
    ·rintro tree_19 hv
     subst v25
     refine ab.seq (ab.aa ?_)
     refine Oc om (Oc om ?_)
     refine ae.bI 103 rfl ?_
     obtain ⟨⟨x_26,x_27⟩,e33,h⟩:=aL h
     refine Oc (aT (dJ e33) mE rfl rfl) (ae.af ⟨[(0,.b (.one (.sl 1 (fixed0.map eB)))),(1,.b (.one (.sl 2 (links0.map (cy .i64))))),(5,.b (.one (.sl 1 (x_3.map (eL 1 eI))))),(7,.b (.row 101)),(9,.b (.one (.sl 1 (x_7.map eI)))),(11,.b (.one (.sl 1 (x_9.map eI)))),(13,I moving_13),(106,.eJ [.one (.sl 1 (x_26.map (eL 1 eI))),.one (.i x_27)])],[(101,.row 3 1 (x_5.map eI))]⟩ rfl (Oc om (Oc (au rfl rfl) (Oc (au rfl rfl) (Oc oa (Oc oa ?_))))))
     refine ae.ag ⟨[(0,_),(1,_),(5,_),(7,_),(9,_),(11,_),(13,_),(17,.b (.one (.sl 1 (x_26.map (eL 1 eI))))),(18,I x_27)],[(101,_)]⟩ rfl (ab.seq (ab.seq (ab.aa ?_)))
     refine Oc om (Oc (iG rfl rfl) (Oc om ?_))
     refine jg (!(decide (x_27 ≠ 0))) [] (fun g34=>trivial) (fun g34=>om) (jg (!(decide (x_27 ≠ 0))) [112] (fun g35=>by exact ⟨g35,trivial⟩) (fun g35=>fT gm rfl rfl (List.length_map _)) (jg (!(decide (x_27 ≠ 0))) [] (fun g36=>by exact trivial) (fun g36=>om) (ae.af ⟨[(0,_),(1,_),(5,_),(7,_),(9,_),(11,_),(17,_),(111,B (decide (x_27 ≠ 0))),(113,.opt (!(decide (x_27 ≠ 0))) (.one (.i (x_5.length:Int)))),(114,.opt (!(decide (x_27 ≠ 0))) (.one (.i moving_13)))],[(101,_)]⟩ rfl (jg (!(decide (x_27 ≠ 0))) [] (fun g37=>by exact trivial) (fun g37=>om) (jg (!(decide (x_27 ≠ 0))) [115] (fun g38=>by exact ⟨g38,trivial⟩) (fun g38=>aw jI rfl (List.length_map _)) ?_)))))
     refine jg (!(decide (x_27 ≠ 0))) [114,116] (fun g39=>⟨g39,g39,trivial⟩) (fun g39=>cR rfl rfl) (jg (!(decide (x_27 ≠ 0))) [113,117] (fun g40=>⟨g40,g40,trivial⟩) (fun g40=>iG rfl rfl) (ae.kV h rfl (eo (fun e=>by first | (rw [e]; rfl) | (simp only at e; rw [e]; rfl)) rfl rfl rfl rfl) (fun x_28 h=>?_)))
     refine Oc om (jg (!x_28) [] (fun g41=>by exact trivial) (fun g41=>om) (ae.af ⟨[(0,_),(1,_),(5,_),(7,_),(9,_),(11,_),(120,B x_28),(121,.opt (!x_28) (.one (.sl 1 (x_26.map (eL 1 eI)))))],[(101,_)]⟩ rfl (jg (!x_28) [] (fun g42=>by exact trivial) (fun g42=>om) ?_)))
     obtain ⟨x_29,e44,h⟩:=aL h
     refine jg (!x_28) [121,122] (fun g43=>⟨g43,g43,trivial⟩) (fun g43=>aT (c7 (gc e44 g43)) qK rfl rfl) (jg (!x_28) [123] (fun g45=>⟨g45,trivial⟩) (fun g45=>dO rfl) (Oc (eo (fun e=>by first | (rw [e]; rfl) | (simp only at e; rw [e]; rfl)) rfl rfl rfl rfl) (ae.ag ⟨[(0,_),(1,_),(5,_),(7,_),(9,_),(11,_),(125,B (x_28 || (!x_29)))],[(101,_)]⟩ rfl (ab.ite h rfl (fun _ h=>?_) (fun _ h=>?_)))))
     ·refine ab.seq (ab.aa ?_)
      refine Oc oa (ae.ag ⟨[(4,B false)],[]⟩ rfl (ab.ret (Fin.aN ?_)))
      obtain rfl:=Option.some.inj h
      refine Fin.af ⟨[(4,_)],[]⟩ rfl (Fin.aV [.one (.bool false)] (.inl rfl) rfl (.cons (.tmp rfl) .nil) ⟨rfl,rfl⟩)
     ·refine ab.skip (Fin.af ⟨[(0,_),(1,_),(5,_),(7,_),(9,_),(11,_)],[(101,_)]⟩ rfl (Fin.then ?_))
      obtain ⟨v46,h47,h⟩:=aL h
      refine ab.cM (v:=v46) (fun (_:Unit)=>⟨[(0,.b (.one (.sl 1 (fixed0.map eB)))),(1,.b (.one (.sl 2 (links0.map (cy .i64))))),(5,.b (.one (.sl 1 (x_3.map (eL 1 eI))))),(11,.b (.one (.sl 1 (x_9.map eI))))],[]⟩) (fun z=>.inl z) ?_ ?_
      ·refine ab.seq (ab.aa ?_)
       refine Oc oa (ae.ag ⟨[(0,_),(1,_),(5,_),(7,_),(9,_),(11,_),(19,I 0)],[(101,_)]⟩ rfl (ab.block (ab.cE h47 (fun (i_30:Int)=>⟨[(0,.b (.one (.sl 1 (fixed0.map eB)))),(1,.b (.one (.sl 2 (links0.map (cy .i64))))),(5,.b (.one (.sl 1 (x_3.map (eL 1 eI))))),(7,.b (.row 101)),(9,.b (.one (.sl 1 (x_7.map eI)))),(11,.b (.one (.sl 1 (x_9.map eI)))),(19,I i_30)],[(101,.row 3 1 (x_5.map eI))]⟩) [0,1,5,7,9,11,19] [101] rfl ?_)))
       rintro i_30 o48 h49 hy50
       refine ab.seq (ab.seq (ab.aa ?_))
       refine Oc om (Oc om (Oc (aw gm rfl (List.length_map _)) (Oc (bt rfl rfl) ?_)))
       refine ae.ag ⟨[(0,_),(1,_),(5,_),(7,_),(9,_),(11,_),(19,_),(129,B (decide (i_30 < (x_7.length:Int))))],[(101,_)]⟩ rfl (ab.ite h49 rfl (fun _ h49=>?_) (fun _ h49=>?_))
       ·refine ab.skip (Fin.af ⟨[(0,_),(1,_),(5,_),(7,_),(9,_),(11,_),(19,_)],[(101,_)]⟩ rfl (Fin.then (ab.seq (ab.block (ab.seq (ab.aa ?_))))))
        refine Oc (oI (k:=105) ee rfl) (Oc om (Oc om (Oc om ?_)))
        obtain ⟨x_31,e51,h49⟩:=aL h49
        refine Oc (aK aq (aH e51) (aJ (e:=eI) e51) rfl rfl) (Oc (aG az rfl rfl) ?_)
        refine ae.af ⟨[(0,_),(1,_),(5,_),(7,_),(9,_),(11,_),(19,_),(132,.b (.row 105)),(133,.b (.one (.sl 2 (links0.map (cy .i64))))),(137,I x_31)],[(101,_),(105,.row 44 2 ([].map (cy .i64)))]⟩ rfl ?_
        obtain ⟨x_32,e52,h49⟩:=aL h49
        refine Oc (qn ee e52 rfl rfl) ?_
        obtain ⟨x_33,e53,h49⟩:=aL h49
        refine Oc (mP ee (fp e53) (fo e53) rfl rfl rfl (c5 e53) rfl) (Oc oa ?_)
        refine ae.ag ⟨[(0,_),(1,_),(5,_),(7,_),(9,_),(11,_),(19,_),(20,.b (.row 105))],[(101,_),(105,.row 44 2 (x_33.map (cy .i64)))]⟩ rfl (ab.seq (ab.aa ?_))
        refine Oc om (Oc om (Oc om (Oc om (Oc om ?_))))
        obtain ⟨x_34,e54,h49⟩:=aL h49
        refine Oc (aK aq (aH e54) (aJ (e:=eI) e54) rfl rfl) (Oc (aG az rfl rfl) ?_)
        refine ae.af ⟨[(0,_),(1,_),(5,_),(7,_),(9,_),(11,_),(19,_),(141,.b (.one (.sl 1 (fixed0.map eB)))),(142,.b (.row 105)),(143,.b (.one (.sl 2 (links0.map (cy .i64))))),(147,I x_34)],[(101,_),(105,_)]⟩ rfl (Oc (aU rfl rfl) ?_)
        obtain ⟨x_35,e55,h49⟩:=aL h49
        refine Oc (qm ee e55 rfl rfl) ?_
        obtain ⟨x_36,e56,h49⟩:=aL h49
        refine Oc (mP ee (fp e56) (fo e56) rfl rfl rfl (c5 e56) rfl) (ae.bI 105 rfl (ae.af ⟨[(0,.b (.one (.sl 1 (fixed0.map eB)))),(1,.b (.one (.sl 2 (links0.map (cy .i64))))),(5,.b (.one (.sl 1 (x_3.map (eL 1 eI))))),(7,.b (.row 101)),(9,.b (.one (.sl 1 (x_7.map eI)))),(11,.b (.one (.sl 1 (x_9.map eI)))),(19,I i_30),(141,.b (.one (.sl 1 (fixed0.map eB)))),(150,.b (.one (.sl 2 (x_36.map (cy .i64)))))],[(101,.row 3 1 (x_5.map eI))]⟩ rfl ?_))
        obtain ⟨⟨x_37,x_38⟩,e57,h49⟩:=aL h49
        refine Oc (aT (dJ e57) mE rfl rfl) (Oc om (Oc (au rfl rfl) (Oc (au rfl rfl) (Oc oa (Oc oa ?_)))))
        refine ae.ag ⟨[(0,_),(1,_),(5,_),(7,_),(9,_),(11,_),(19,_),(21,.b (.one (.sl 1 (x_37.map (eL 1 eI)))))],[(101,_)]⟩ rfl (ab.seq (ab.aa ?_))
        refine Oc om (Oc om (Oc om ?_))
        obtain ⟨x_39,e58,h49⟩:=aL h49
        refine Oc (aK aq (aH e58) (aJ (e:=eI) e58) rfl rfl) (Oc (aG az rfl rfl) ?_)
        refine ae.af ⟨[(0,_),(1,_),(5,_),(7,_),(9,_),(11,_),(19,_),(21,_),(154,.b (.row 101)),(158,I x_39)],[(101,_)]⟩ rfl ?_
        obtain ⟨x_40,e59,h49⟩:=aL h49
        refine Oc (j4 (jE e59) goes28 rfl CP.jb) (Oc (dO rfl) (Oc om ?_))
        refine jg (!(!x_40)) [] (fun g60=>trivial) (fun g60=>om) (jg (!(!x_40)) [162] (fun g61=>by exact ⟨g61,trivial⟩) (fun g61=>aw jI rfl (List.length_map _)) (jg (!(!x_40)) [] (fun g62=>by exact trivial) (fun g62=>om) (ae.af ⟨[(0,_),(1,_),(5,_),(7,_),(9,_),(11,_),(19,_),(161,B (!x_40)),(163,.opt (!(!x_40)) (.one (.i (x_37.length:Int)))),(164,.opt (!(!x_40)) (.one (.sl 1 (x_3.map (eL 1 eI)))))],[(101,_)]⟩ rfl (jg (!(!x_40)) [164] (fun g63=>by exact ⟨g63,trivial⟩) (fun g63=>aw jI rfl (List.length_map _)) (jg (!(!x_40)) [165] (fun g64=>by exact ⟨g64,trivial⟩) (fun g64=>aU rfl rfl) ?_)))))
        refine jg (!(!x_40)) [163,166] (fun g65=>⟨g65,g65,trivial⟩) (fun g65=>iG rfl rfl) (ae.kV h49 rfl (eo (fun e=>by first | (rw [e]; rfl) | (simp only at e; rw [e]; rfl)) rfl rfl rfl rfl) (fun x_41 h49=>?_))
        refine ae.ag ⟨[(0,_),(1,_),(5,_),(7,_),(9,_),(11,_),(19,_),(168,B x_41)],[(101,_)]⟩ rfl (ab.ite h49 rfl (fun _ h49=>?_) (fun _ h49=>?_))
        ·refine ab.seq (ab.aa ?_)
         refine Oc oa (ae.ag ⟨[(4,B false)],[]⟩ rfl (ab.ret (Fin.cV (Fin.aN ?_))))
         obtain rfl:=hy50 _ (Option.some.inj h49).symm
         refine Fin.aN (Fin.cV (Fin.aN ?_))
         obtain rfl:=Option.some.inj h
         refine Fin.af ⟨[(4,_)],[]⟩ rfl (Fin.aV [.one (.bool false)] (.inl rfl) rfl (.cons (.tmp rfl) .nil) ⟨rfl,rfl⟩)
        ·refine ab.skip (Fin.ah (Fin.af ⟨[(0,_),(1,_),(5,_),(7,_),(9,_),(11,_),(19,_)],[(101,_)]⟩ rfl (Fin.then (ab.aa ?_))))
         refine Oc om (Oc (aU rfl rfl) (Oc oa ?_))
         refine ae.nil ?_
         exact Fin.bG [0,1,5,7,9,11,19] [101] (IntKind.i64.wrap (i_30 + 1)) (Option.some.inj h49) rfl
       ·refine ab.exit (Fin.ai ?_)
        obtain rfl:=hy50 _ (Option.some.inj h49).symm
        refine Fin.ai (Fin.aB ?_)
        exact Fin.join [0,1,5,11] [] () rfl rfl
      ·rintro _ hv
       subst v46
       obtain ⟨v66,h67,h⟩:=aL h
       refine ab.cM (v:=v66) (fun (_:Unit)=>⟨[],[]⟩) (fun z=>.inl z) ?_ ?_
       ·refine ab.seq (ab.aa ?_)
        refine Oc oa (ae.ag ⟨[(0,_),(1,_),(5,_),(11,_),(23,I 0)],[]⟩ rfl (ab.block (ab.cE h67 (fun (i_42:Int)=>⟨[(0,.b (.one (.sl 1 (fixed0.map eB)))),(1,.b (.one (.sl 2 (links0.map (cy .i64))))),(5,.b (.one (.sl 1 (x_3.map (eL 1 eI))))),(11,.b (.one (.sl 1 (x_9.map eI)))),(23,I i_42)],[]⟩) [0,1,5,11,23] [] rfl ?_)))
        rintro i_42 o68 h69 hy70
        refine ab.seq (ab.seq (ab.aa ?_))
        refine Oc om (Oc om (Oc (aw gm rfl (List.length_map _)) (Oc (bt rfl rfl) ?_)))
        refine ae.ag ⟨[(0,_),(1,_),(5,_),(11,_),(23,_),(172,B (decide (i_42 < (x_9.length:Int))))],[]⟩ rfl (ab.ite h69 rfl (fun _ h69=>?_) (fun _ h69=>?_))
        ·refine ab.skip (Fin.af ⟨[(0,_),(1,_),(5,_),(11,_),(23,_)],[]⟩ rfl (Fin.then (ab.seq (ab.block (ab.seq (ab.aa ?_))))))
         refine Oc (oI (k:=106) gU rfl) (Oc om ?_)
         obtain ⟨x_43,e71,h69⟩:=aL h69
         refine Oc (mP gU (fp e71) (fo e71) rfl rfl rfl (c5 e71) rfl) (Oc oa ?_)
         refine ae.ag ⟨[(0,_),(1,_),(5,_),(11,_),(23,_),(24,.b (.row 106))],[(106,.row 4 1 (x_43.map eB))]⟩ rfl (ab.seq (ab.aa ?_))
         refine Oc om (Oc om (Oc om ?_))
         obtain ⟨x_44,e72,h69⟩:=aL h69
         refine Oc (aK aq (aH e72) (aJ (e:=eI) e72) rfl rfl) (Oc (aG az rfl rfl) ?_)
         obtain ⟨x_45,e73,h69⟩:=aL h69
         refine Oc (ar gU (aH e73) (aW e73) rfl rfl rfl rfl) (Oc (bM (i:=(x_44:Int).toNat) jT rfl rfl rfl rfl (fl e73) (map_set _ _ _ _)) ?_)
         refine ae.ag ⟨[(0,_),(1,_),(5,_),(11,_),(23,_),(24,_)],[(106,.row 4 1 ((x_43.set (x_44:Int).toNat true).map eB))]⟩ rfl (ab.seq (ab.aa ?_))
         refine Oc om (Oc om ?_)
         refine ae.bI 106 rfl ?_
         obtain ⟨⟨x_46,x_47⟩,e74,h69⟩:=aL h69
         refine Oc (aT (dJ e74) mE rfl rfl) (ae.af ⟨[(0,.b (.one (.sl 1 (fixed0.map eB)))),(1,.b (.one (.sl 2 (links0.map (cy .i64))))),(5,.b (.one (.sl 1 (x_3.map (eL 1 eI))))),(11,.b (.one (.sl 1 (x_9.map eI)))),(23,I i_42),(187,.eJ [.one (.sl 1 (x_46.map (eL 1 eI))),.one (.i x_47)])],[]⟩ rfl (Oc om (Oc (au rfl rfl) (Oc (au rfl rfl) (Oc oa (Oc oa ?_))))))
         refine ae.ag ⟨[(0,_),(1,_),(5,_),(11,_),(23,_),(25,.b (.one (.sl 1 (x_46.map (eL 1 eI)))))],[]⟩ rfl (ab.seq (ab.aa ?_))
         refine Oc om (Oc om (Oc om ?_))
         obtain ⟨x_48,e75,h69⟩:=aL h69
         refine Oc (aK aq (aH e75) (aJ (e:=eI) e75) rfl rfl) (Oc (aG az rfl rfl) ?_)
         obtain ⟨x_49,e76,h69⟩:=aL h69
         refine Oc (aK gU (aH e76) (aJ (e:=eB) e76) rfl rfl) (Oc (aG jT rfl rfl) ?_)
         refine ae.af ⟨[(0,_),(1,_),(5,_),(11,_),(23,_),(25,_),(196,B x_49)],[]⟩ rfl (Oc om (jg (!x_49) [] (fun g77=>by exact trivial) (fun g77=>om) (jg (!x_49) [198] (fun g78=>by exact ⟨g78,trivial⟩) (fun g78=>aw jI rfl (List.length_map _)) (jg (!x_49) [] (fun g79=>by exact trivial) (fun g79=>om) (jg (!x_49) [200] (fun g80=>by exact ⟨g80,trivial⟩) (fun g80=>aw jI rfl (List.length_map _)) ?_)))))
         refine jg (!x_49) [199,201] (fun g81=>⟨g81,g81,trivial⟩) (fun g81=>lg rfl rfl) (Oc (eo (fun e=>by first | (rw [e]; rfl) | (simp only at e; rw [e]; rfl)) rfl rfl rfl rfl) (ae.ag ⟨[(0,_),(1,_),(5,_),(11,_),(23,_),(203,B (x_49 || (decide ((x_46.length:Int) ≤ (x_3.length:Int)))))],[]⟩ rfl (ab.ite h69 rfl (fun _ h69=>?_) (fun _ h69=>?_))))
         ·refine ab.seq (ab.aa ?_)
          refine Oc oa (ae.ag ⟨[(4,B false)],[]⟩ rfl (ab.ret (Fin.cV (Fin.aN ?_))))
          obtain rfl:=hy70 _ (Option.some.inj h69).symm
          refine Fin.aN (Fin.cV (Fin.aN ?_))
          obtain rfl:=Option.some.inj h
          refine Fin.af ⟨[(4,_)],[]⟩ rfl (Fin.aV [.one (.bool false)] (.inl rfl) rfl (.cons (.tmp rfl) .nil) ⟨rfl,rfl⟩)
         ·refine ab.skip (Fin.ah (Fin.af ⟨[(0,_),(1,_),(5,_),(11,_),(23,_)],[]⟩ rfl (Fin.then (ab.aa ?_))))
          refine Oc om (Oc (aU rfl rfl) (Oc oa ?_))
          refine ae.nil ?_
          exact Fin.bG [0,1,5,11,23] [] (IntKind.i64.wrap (i_42 + 1)) (Option.some.inj h69) rfl
        ·refine ab.exit (Fin.ai ?_)
         obtain rfl:=hy70 _ (Option.some.inj h69).symm
         refine Fin.ai (Fin.aB ?_)
         exact Fin.join [] [] () rfl rfl
       ·rintro _ hv
        subst v66
        refine ab.seq (ab.aa ?_)
        obtain ⟨x_50,e82,h⟩:=aL h
        refine Oc (aT (dq e82) qL rfl rfl) (Oc oa ?_)
        refine ae.ag ⟨[(4,B x_50)],[]⟩ rfl (ab.ret ?_)
        obtain rfl:=Option.some.inj h
        refine Fin.af ⟨[(4,_)],[]⟩ rfl (Fin.aV [.one (.bool x_50)] (.inl rfl) rfl (.cons (.tmp rfl) .nil) ⟨rfl,rfl⟩)
end Go.Proofs.Ytgojigdbelkgoaa

