/- printed walks -/
import Derived.Test.YtgojigdbelkgoaaW1
namespace Go.Proofs.Ytgojigdbelkgoaa
open Go.Sk Go
set_option maxHeartbeats 4000000
set_option maxRecDepth 4000
set_option linter.unusedSimpArgs false
set_option linter.unusedVariables false
def eF (F:Nat) (fixed0:List Bool) (links0:List A2):Option ((List Int) × (List Int)) :=
 (dg F fixed0 links0).bind fun x_1=>(cu F (fixed0.length:Int) links0 x_1).bind fun x_2=>Option.bind (mk? (0:Int) (fixed0.length:Int) (fixed0.length:Int)) (fun x_3=>Option.bind (mk? (0:Int) (fixed0.length:Int) (fixed0.length:Int)) (fun x_4=>Option.bind (iter F (un6 fun keysf0_7 bridgesf0_8 seenf0_9 visitf0_10 visitf0f0_11 x_12=>if (decide (x_12 < (fixed0.length:Int))) = true then (Option.bind ((av fixed0 x_12).bind fun x_20=>(bx (!x_20) (av seenf0_9 x_12)).bind fun x_21=>if ((!x_20) && (decide (x_21 = 0))) = true then (Option.bind (jo F x_12 (-1) visitf0_10 seenf0_9 visitf0f0_11 x_2 bridgesf0_8 keysf0_7) (un5 fun x_22 x_23 x_24 x_25 x_26=>some (x_26,x_25,x_23,x_22,x_24))) else (some (keysf0_7,bridgesf0_8,seenf0_9,visitf0_10,visitf0f0_11))) (un5 fun keysf0_15 bridgesf0_16 seenf0_17 visitf0_18 visitf0f0_19=>some (.inl (keysf0_15,bridgesf0_16,seenf0_17,visitf0_18,visitf0f0_19,IntKind.i64.wrap (x_12 + 1))))) else (some (.inr (keysf0_7,bridgesf0_8)))) ([],[],x_3,0,x_4,0)) (bL fun keysf0_5 bridgesf0_6=>(cW F keysf0_5).bind fun x_27=>(cW F bridgesf0_6).bind fun x_28=>some (x_27,x_28))))
theorem iM {F:Nat} {fixed0:List Bool} {links0:List A2} {r:(List Int) × (List Int)} (h:eF F fixed0 links0 = some r):aA Try.prog [] 39 [] [.one (.sl 1 (fixed0.map eB)),.one (.sl 2 (links0.map (cR .i64)))] (Is [] (.ez [.one (.sl 1 (r.1.map eI)),.one (.sl 1 (r.2.map eI))])):=by
 unfold eF at h
 refine aA.intro 53 Try.func39 Try.ntmps39 rfl (by simp) fun E=>?_
 show ab _ E ⟨53,[],[],[]⟩ _ ⟨[(0,.b (.one (.sl 1 (fixed0.map eB)))),(1,.b (.one (.sl 2 (links0.map (cR .i64)))))],[]⟩ _
 refine ab.seq (ab.aa ?_)
 refine Oc (bh (k:=101) ck rfl) (Oc (bh (k:=102) ck rfl) ?_)
 refine ae.ah ⟨[(0,.b (.one (.sl 1 (fixed0.map eB)))),(1,.b (.one (.sl 2 (links0.map (cR .i64))))),(4,Pt 101 0),(5,Pt 102 0)],[(101,.box 30 [.nil]),(102,.box 30 [.nil])]⟩ rfl (ab.seq (ab.aa ?_))
 refine Oc om (Oc (ay cY rfl (List.length_map _)) (Oc om (Oc om (Oc om ?_))))
 refine ae.ag ⟨[(0,_),(4,_),(5,_),(14,I (fixed0.length:Int)),(15,.b (.one (.sl 2 (links0.map (cR .i64))))),(16,.b (.one (.sl 1 (fixed0.map eB)))),(17,.b (.one (.sl 2 (links0.map (cR .i64)))))],[(101,_),(102,_)]⟩ rfl ?_
 obtain ⟨x_1,e1,h⟩:=aN h
 refine Oc (bm (gZ 103 e1) sd rfl trivial rfl rfl) (ae.bO 103 rfl ?_)
 obtain ⟨x_2,e2,h⟩:=aN h
 refine Oc (a6 (fB e2) si rfl rfl) (Oc (bh (k:=104) sE rfl) (Oc (gb qD rfl rfl rfl (Nat.le_of_ble_eq_true rfl) rfl) ?_))
 refine ae.ah ⟨[(0,.b (.one (.sl 1 (fixed0.map eB)))),(4,Pt 101 0),(5,Pt 102 0),(6,Pt 104 0)],[(101,.box 30 [.nil]),(102,.box 30 [.nil]),(104,.box 56 [.sl 1 (x_2.map (eL 2 aT))])]⟩ rfl (ab.seq ?_)
 obtain ⟨x_3,e3,h⟩:=aN h
 obtain ⟨x_4,e4,h⟩:=aN h
 refine ab.mP mixed [false,false,true,false,false,true,true,true,true,true] [.b (.one (.sl 1 (fixed0.map eB))),I (fixed0.length:Int),.b (.row 105),.b (.one (.sl 1 (fixed0.map eB))),I (fixed0.length:Int),.b (.row 106),Pt 107 0,Pt 108 0,B true,B true] [⟨[false,false,false,false,false,false,false,false,false,false],[(0,.b (.one (.sl 1 (fixed0.map eB)))),(4,Pt 101 0),(5,Pt 102 0),(6,Pt 104 0)],[(101,.box 30 [.nil]),(102,.box 30 [.nil]),(104,.box 56 [.sl 1 (x_2.map (eL 2 aT))])],[true,true,true,true,true,true,true,true,true,true],[],[8,9]⟩,⟨[false,false,true,false,false,false,false,false,false,false],[(0,.b (.one (.sl 1 (fixed0.map eB)))),(4,Pt 101 0),(5,Pt 102 0),(6,Pt 104 0)],[(101,.box 30 [.nil]),(102,.box 30 [.nil]),(104,.box 56 [.sl 1 (x_2.map (eL 2 aT))]),(105,.row 3 1 (x_3.map eI))],[true,true,true,true,true,true,true,true,true,true],[0,1,2],[8,9]⟩,⟨[false,false,false,false,false,true,false,false,false,false],[(0,.b (.one (.sl 1 (fixed0.map eB)))),(4,Pt 101 0),(5,Pt 102 0),(6,Pt 104 0)],[(101,.box 30 [.nil]),(102,.box 30 [.nil]),(104,.box 56 [.sl 1 (x_2.map (eL 2 aT))]),(106,.row 3 1 (x_4.map eI))],[true,true,true,true,true,true,true,true,true,true],[3,4,5],[8,9]⟩,⟨[false,false,false,false,false,false,true,false,false,false],[(0,.b (.one (.sl 1 (fixed0.map eB)))),(4,Pt 101 0),(5,Pt 102 0),(6,Pt 104 0)],[(101,.box 30 [.nil]),(102,.box 30 [.nil]),(104,.box 56 [.sl 1 (x_2.map (eL 2 aT))]),(107,.box 30 [.nil])],[true,true,true,true,true,true,true,true,true,true],[6],[8,9]⟩,⟨[false,false,false,false,false,false,false,true,false,false],[(0,.b (.one (.sl 1 (fixed0.map eB)))),(4,Pt 101 0),(5,Pt 102 0),(6,Pt 104 0)],[(101,.box 30 [.nil]),(102,.box 30 [.nil]),(104,.box 56 [.sl 1 (x_2.map (eL 2 aT))]),(108,.box 30 [.nil])],[true,true,true,true,true,true,true,true,true,true],[7],[8,9]⟩,⟨[false,false,true,false,false,true,false,false,false,false],[(0,.b (.one (.sl 1 (fixed0.map eB)))),(4,Pt 101 0),(5,Pt 102 0),(6,Pt 104 0)],[(101,.box 30 [.nil]),(102,.box 30 [.nil]),(104,.box 56 [.sl 1 (x_2.map (eL 2 aT))]),(105,.row 3 1 (x_3.map eI)),(106,.row 3 1 (x_4.map eI))],[true,true,true,true,true,true,true,true,true,true],[0,1,2,3,4,5],[8,9]⟩,⟨[false,false,true,false,false,false,true,false,false,false],[(0,.b (.one (.sl 1 (fixed0.map eB)))),(4,Pt 101 0),(5,Pt 102 0),(6,Pt 104 0)],[(101,.box 30 [.nil]),(102,.box 30 [.nil]),(104,.box 56 [.sl 1 (x_2.map (eL 2 aT))]),(105,.row 3 1 (x_3.map eI)),(107,.box 30 [.nil])],[true,true,true,true,true,true,true,true,true,true],[0,1,2,6],[8,9]⟩,⟨[false,false,true,false,false,false,false,true,false,false],[(0,.b (.one (.sl 1 (fixed0.map eB)))),(4,Pt 101 0),(5,Pt 102 0),(6,Pt 104 0)],[(101,.box 30 [.nil]),(102,.box 30 [.nil]),(104,.box 56 [.sl 1 (x_2.map (eL 2 aT))]),(105,.row 3 1 (x_3.map eI)),(108,.box 30 [.nil])],[true,true,true,true,true,true,true,true,true,true],[0,1,2,7],[8,9]⟩,⟨[false,false,false,false,false,true,true,false,false,false],[(0,.b (.one (.sl 1 (fixed0.map eB)))),(4,Pt 101 0),(5,Pt 102 0),(6,Pt 104 0)],[(101,.box 30 [.nil]),(102,.box 30 [.nil]),(104,.box 56 [.sl 1 (x_2.map (eL 2 aT))]),(106,.row 3 1 (x_4.map eI)),(107,.box 30 [.nil])],[true,true,true,true,true,true,true,true,true,true],[3,4,5,6],[8,9]⟩,⟨[false,false,false,false,false,true,false,true,false,false],[(0,.b (.one (.sl 1 (fixed0.map eB)))),(4,Pt 101 0),(5,Pt 102 0),(6,Pt 104 0)],[(101,.box 30 [.nil]),(102,.box 30 [.nil]),(104,.box 56 [.sl 1 (x_2.map (eL 2 aT))]),(106,.row 3 1 (x_4.map eI)),(108,.box 30 [.nil])],[true,true,true,true,true,true,true,true,true,true],[3,4,5,7],[8,9]⟩,⟨[false,false,false,false,false,false,true,true,false,false],[(0,.b (.one (.sl 1 (fixed0.map eB)))),(4,Pt 101 0),(5,Pt 102 0),(6,Pt 104 0)],[(101,.box 30 [.nil]),(102,.box 30 [.nil]),(104,.box 56 [.sl 1 (x_2.map (eL 2 aT))]),(107,.box 30 [.nil]),(108,.box 30 [.nil])],[true,true,true,true,true,true,true,true,true,true],[6,7],[8,9]⟩,⟨[false,false,true,false,false,true,true,false,false,false],[(0,.b (.one (.sl 1 (fixed0.map eB)))),(4,Pt 101 0),(5,Pt 102 0),(6,Pt 104 0)],[(101,.box 30 [.nil]),(102,.box 30 [.nil]),(104,.box 56 [.sl 1 (x_2.map (eL 2 aT))]),(105,.row 3 1 (x_3.map eI)),(106,.row 3 1 (x_4.map eI)),(107,.box 30 [.nil])],[true,true,true,true,true,true,true,true,true,true],[0,1,2,3,4,5,6],[8,9]⟩,⟨[false,false,true,false,false,true,false,true,false,false],[(0,.b (.one (.sl 1 (fixed0.map eB)))),(4,Pt 101 0),(5,Pt 102 0),(6,Pt 104 0)],[(101,.box 30 [.nil]),(102,.box 30 [.nil]),(104,.box 56 [.sl 1 (x_2.map (eL 2 aT))]),(105,.row 3 1 (x_3.map eI)),(106,.row 3 1 (x_4.map eI)),(108,.box 30 [.nil])],[true,true,true,true,true,true,true,true,true,true],[0,1,2,3,4,5,7],[8,9]⟩,⟨[false,false,true,false,false,false,true,true,false,false],[(0,.b (.one (.sl 1 (fixed0.map eB)))),(4,Pt 101 0),(5,Pt 102 0),(6,Pt 104 0)],[(101,.box 30 [.nil]),(102,.box 30 [.nil]),(104,.box 56 [.sl 1 (x_2.map (eL 2 aT))]),(105,.row 3 1 (x_3.map eI)),(107,.box 30 [.nil]),(108,.box 30 [.nil])],[true,true,true,true,true,true,true,true,true,true],[0,1,2,6,7],[9]⟩,⟨[false,false,false,false,false,true,true,true,false,false],[(0,.b (.one (.sl 1 (fixed0.map eB)))),(4,Pt 101 0),(5,Pt 102 0),(6,Pt 104 0)],[(101,.box 30 [.nil]),(102,.box 30 [.nil]),(104,.box 56 [.sl 1 (x_2.map (eL 2 aT))]),(106,.row 3 1 (x_4.map eI)),(107,.box 30 [.nil]),(108,.box 30 [.nil])],[true,true,true,true,true,true,true,true,true,true],[3,4,5,6,7],[8,9]⟩,⟨[false,false,true,false,false,true,true,true,false,false],[(0,.b (.one (.sl 1 (fixed0.map eB)))),(4,Pt 101 0),(5,Pt 102 0),(6,Pt 104 0)],[(101,.box 30 [.nil]),(102,.box 30 [.nil]),(104,.box 56 [.sl 1 (x_2.map (eL 2 aT))]),(105,.row 3 1 (x_3.map eI)),(106,.row 3 1 (x_4.map eI)),(107,.box 30 [.nil]),(108,.box 30 [.nil])],[true,true,true,true,true,true,true,true,true,true],[0,1,2,3,4,5,6,7],[9]⟩,⟨[false,false,true,false,false,false,true,true,true,false],[(0,.b (.one (.sl 1 (fixed0.map eB)))),(4,Pt 101 0),(5,Pt 102 0),(6,Pt 104 0)],[(101,.box 30 [.nil]),(102,.box 30 [.nil]),(104,.box 56 [.sl 1 (x_2.map (eL 2 aT))]),(105,.row 3 1 (x_3.map eI)),(107,.ar 30 [.row 105]),(108,.box 30 [.nil])],[true,true,true,true,true,true,true,true,true,true],[0,1,2,6,7,8],[9]⟩,⟨[false,false,true,false,false,true,true,true,true,false],[(0,.b (.one (.sl 1 (fixed0.map eB)))),(4,Pt 101 0),(5,Pt 102 0),(6,Pt 104 0)],[(101,.box 30 [.nil]),(102,.box 30 [.nil]),(104,.box 56 [.sl 1 (x_2.map (eL 2 aT))]),(105,.row 3 1 (x_3.map eI)),(106,.row 3 1 (x_4.map eI)),(107,.ar 30 [.row 105]),(108,.box 30 [.nil])],[true,true,true,true,true,true,true,true,true,true],[0,1,2,3,4,5,6,7,8],[]⟩,⟨[false,false,true,false,false,true,true,true,true,true],[(0,.b (.one (.sl 1 (fixed0.map eB)))),(4,Pt 101 0),(5,Pt 102 0),(6,Pt 104 0)],[(101,.box 30 [.nil]),(102,.box 30 [.nil]),(104,.box 56 [.sl 1 (x_2.map (eL 2 aT))]),(105,.row 3 1 (x_3.map eI)),(106,.row 3 1 (x_4.map eI)),(107,.ar 30 [.row 105]),(108,.ar 30 [.row 106])],[true,true,true,true,true,true,true,true,true,true],[0,1,2,3,4,5,6,7,8,9],[]⟩] rfl (⟨by kernel_rfl,⟨⟨.b (.one (.sl 1 (fixed0.map eB))),fun _=>rfl,fun _=>.p (by exact aq rfl)⟩,⟨I (fixed0.length:Int),fun _=>rfl,fun _=>.p (by exact ay cY rfl (List.length_map _))⟩,⟨_,[105],.b (.row 105),rfl,fun _=>rfl,rfl,rfl,fun _=>.fC [101,102,104,105] (by exact .p (by exact bc (k:=105) (enc:=eI) ak e3 (by decide) (.cons .refl .nil) rfl rfl rfl)) (by exact rfl)⟩,⟨.b (.one (.sl 1 (fixed0.map eB))),fun _=>rfl,fun _=>.p (by exact aq rfl)⟩,⟨I (fixed0.length:Int),fun _=>rfl,fun _=>.p (by exact ay cY rfl (List.length_map _))⟩,⟨_,[106],.b (.row 106),rfl,fun _=>rfl,rfl,rfl,fun _=>.fC [101,102,104,106] (by exact .p (by exact bc (k:=106) (enc:=eI) ak e4 (by decide) (.cons .refl .nil) rfl rfl rfl)) (by exact rfl)⟩,⟨_,[107],Pt 107 0,rfl,fun _=>rfl,rfl,rfl,fun _=>.fC [101,102,104,107] (by exact .p (by exact bh (k:=107) ck rfl)) (by exact rfl)⟩,⟨_,[108],Pt 108 0,rfl,fun _=>rfl,rfl,rfl,fun _=>.fC [101,102,104,108] (by exact .p (by exact bh (k:=108) ck rfl)) (by exact rfl)⟩,trivial,trivial,trivial⟩,⟨by kernel_rfl,⟨trivial,trivial,trivial,⟨.b (.one (.sl 1 (fixed0.map eB))),fun _=>rfl,fun _=>.p (by exact aq rfl)⟩,⟨I (fixed0.length:Int),fun _=>rfl,fun _=>.p (by exact ay cY rfl (List.length_map _))⟩,⟨_,[106],.b (.row 106),rfl,fun _=>rfl,rfl,rfl,fun _=>.fC [101,102,104,105,106] (by exact .p (by exact bc (k:=106) (enc:=eI) ak e4 (by decide) (.cons .refl .nil) rfl rfl rfl)) (by exact rfl)⟩,⟨_,[107],Pt 107 0,rfl,fun _=>rfl,rfl,rfl,fun _=>.fC [101,102,104,105,107] (by exact .p (by exact bh (k:=107) ck rfl)) (by exact rfl)⟩,⟨_,[108],Pt 108 0,rfl,fun _=>rfl,rfl,rfl,fun _=>.fC [101,102,104,105,108] (by exact .p (by exact bh (k:=108) ck rfl)) (by exact rfl)⟩,trivial,trivial,trivial⟩,⟨by kernel_rfl,⟨⟨.b (.one (.sl 1 (fixed0.map eB))),fun _=>rfl,fun _=>.p (by exact aq rfl)⟩,⟨I (fixed0.length:Int),fun _=>rfl,fun _=>.p (by exact ay cY rfl (List.length_map _))⟩,⟨_,[105],.b (.row 105),rfl,fun _=>rfl,rfl,rfl,fun _=>.fC [101,102,104,105,106] (by exact .p (by exact bc (k:=105) (enc:=eI) ak e3 (by decide) (.cons .refl .nil) rfl rfl rfl)) (by exact rfl)⟩,trivial,trivial,trivial,⟨_,[107],Pt 107 0,rfl,fun _=>rfl,rfl,rfl,fun _=>.fC [101,102,104,106,107] (by exact .p (by exact bh (k:=107) ck rfl)) (by exact rfl)⟩,⟨_,[108],Pt 108 0,rfl,fun _=>rfl,rfl,rfl,fun _=>.fC [101,102,104,106,108] (by exact .p (by exact bh (k:=108) ck rfl)) (by exact rfl)⟩,trivial,trivial,trivial⟩,⟨by kernel_rfl,⟨⟨.b (.one (.sl 1 (fixed0.map eB))),fun _=>rfl,fun _=>.p (by exact aq rfl)⟩,⟨I (fixed0.length:Int),fun _=>rfl,fun _=>.p (by exact ay cY rfl (List.length_map _))⟩,⟨_,[105],.b (.row 105),rfl,fun _=>rfl,rfl,rfl,fun _=>.fC [101,102,104,105,107] (by exact .p (by exact bc (k:=105) (enc:=eI) ak e3 (by decide) (.cons .refl .nil) rfl rfl rfl)) (by exact rfl)⟩,⟨.b (.one (.sl 1 (fixed0.map eB))),fun _=>rfl,fun _=>.p (by exact aq rfl)⟩,⟨I (fixed0.length:Int),fun _=>rfl,fun _=>.p (by exact ay cY rfl (List.length_map _))⟩,⟨_,[106],.b (.row 106),rfl,fun _=>rfl,rfl,rfl,fun _=>.fC [101,102,104,106,107] (by exact .p (by exact bc (k:=106) (enc:=eI) ak e4 (by decide) (.cons .refl .nil) rfl rfl rfl)) (by exact rfl)⟩,trivial,⟨_,[108],Pt 108 0,rfl,fun _=>rfl,rfl,rfl,fun _=>.fC [101,102,104,107,108] (by exact .p (by exact bh (k:=108) ck rfl)) (by exact rfl)⟩,trivial,trivial,trivial⟩,⟨by kernel_rfl,⟨⟨.b (.one (.sl 1 (fixed0.map eB))),fun _=>rfl,fun _=>.p (by exact aq rfl)⟩,⟨I (fixed0.length:Int),fun _=>rfl,fun _=>.p (by exact ay cY rfl (List.length_map _))⟩,⟨_,[105],.b (.row 105),rfl,fun _=>rfl,rfl,rfl,fun _=>.fC [101,102,104,105,108] (by exact .p (by exact bc (k:=105) (enc:=eI) ak e3 (by decide) (.cons .refl .nil) rfl rfl rfl)) (by exact rfl)⟩,⟨.b (.one (.sl 1 (fixed0.map eB))),fun _=>rfl,fun _=>.p (by exact aq rfl)⟩,⟨I (fixed0.length:Int),fun _=>rfl,fun _=>.p (by exact ay cY rfl (List.length_map _))⟩,⟨_,[106],.b (.row 106),rfl,fun _=>rfl,rfl,rfl,fun _=>.fC [101,102,104,106,108] (by exact .p (by exact bc (k:=106) (enc:=eI) ak e4 (by decide) (.cons .refl .nil) rfl rfl rfl)) (by exact rfl)⟩,⟨_,[107],Pt 107 0,rfl,fun _=>rfl,rfl,rfl,fun _=>.fC [101,102,104,107,108] (by exact .p (by exact bh (k:=107) ck rfl)) (by exact rfl)⟩,trivial,trivial,trivial,trivial⟩,⟨by kernel_rfl,⟨trivial,trivial,trivial,trivial,trivial,trivial,⟨_,[107],Pt 107 0,rfl,fun _=>rfl,rfl,rfl,fun _=>.fC [101,102,104,105,106,107] (by exact .p (by exact bh (k:=107) ck rfl)) (by exact rfl)⟩,⟨_,[108],Pt 108 0,rfl,fun _=>rfl,rfl,rfl,fun _=>.fC [101,102,104,105,106,108] (by exact .p (by exact bh (k:=108) ck rfl)) (by exact rfl)⟩,trivial,trivial,trivial⟩,⟨by kernel_rfl,⟨trivial,trivial,trivial,⟨.b (.one (.sl 1 (fixed0.map eB))),fun _=>rfl,fun _=>.p (by exact aq rfl)⟩,⟨I (fixed0.length:Int),fun _=>rfl,fun _=>.p (by exact ay cY rfl (List.length_map _))⟩,⟨_,[106],.b (.row 106),rfl,fun _=>rfl,rfl,rfl,fun _=>.fC [101,102,104,105,106,107] (by exact .p (by exact bc (k:=106) (enc:=eI) ak e4 (by decide) (.cons .refl .nil) rfl rfl rfl)) (by exact rfl)⟩,trivial,⟨_,[108],Pt 108 0,rfl,fun _=>rfl,rfl,rfl,fun _=>.fC [101,102,104,105,107,108] (by exact .p (by exact bh (k:=108) ck rfl)) (by exact rfl)⟩,trivial,trivial,trivial⟩,⟨by kernel_rfl,⟨trivial,trivial,trivial,⟨.b (.one (.sl 1 (fixed0.map eB))),fun _=>rfl,fun _=>.p (by exact aq rfl)⟩,⟨I (fixed0.length:Int),fun _=>rfl,fun _=>.p (by exact ay cY rfl (List.length_map _))⟩,⟨_,[106],.b (.row 106),rfl,fun _=>rfl,rfl,rfl,fun _=>.fC [101,102,104,105,106,108] (by exact .p (by exact bc (k:=106) (enc:=eI) ak e4 (by decide) (.cons .refl .nil) rfl rfl rfl)) (by exact rfl)⟩,⟨_,[107],Pt 107 0,rfl,fun _=>rfl,rfl,rfl,fun _=>.fC [101,102,104,105,107,108] (by exact .p (by exact bh (k:=107) ck rfl)) (by exact rfl)⟩,trivial,trivial,trivial,trivial⟩,⟨by kernel_rfl,⟨⟨.b (.one (.sl 1 (fixed0.map eB))),fun _=>rfl,fun _=>.p (by exact aq rfl)⟩,⟨I (fixed0.length:Int),fun _=>rfl,fun _=>.p (by exact ay cY rfl (List.length_map _))⟩,⟨_,[105],.b (.row 105),rfl,fun _=>rfl,rfl,rfl,fun _=>.fC [101,102,104,105,106,107] (by exact .p (by exact bc (k:=105) (enc:=eI) ak e3 (by decide) (.cons .refl .nil) rfl rfl rfl)) (by exact rfl)⟩,trivial,trivial,trivial,trivial,⟨_,[108],Pt 108 0,rfl,fun _=>rfl,rfl,rfl,fun _=>.fC [101,102,104,106,107,108] (by exact .p (by exact bh (k:=108) ck rfl)) (by exact rfl)⟩,trivial,trivial,trivial⟩,⟨by kernel_rfl,⟨⟨.b (.one (.sl 1 (fixed0.map eB))),fun _=>rfl,fun _=>.p (by exact aq rfl)⟩,⟨I (fixed0.length:Int),fun _=>rfl,fun _=>.p (by exact ay cY rfl (List.length_map _))⟩,⟨_,[105],.b (.row 105),rfl,fun _=>rfl,rfl,rfl,fun _=>.fC [101,102,104,105,106,108] (by exact .p (by exact bc (k:=105) (enc:=eI) ak e3 (by decide) (.cons .refl .nil) rfl rfl rfl)) (by exact rfl)⟩,trivial,trivial,trivial,⟨_,[107],Pt 107 0,rfl,fun _=>rfl,rfl,rfl,fun _=>.fC [101,102,104,106,107,108] (by exact .p (by exact bh (k:=107) ck rfl)) (by exact rfl)⟩,trivial,trivial,trivial,trivial⟩,⟨by kernel_rfl,⟨⟨.b (.one (.sl 1 (fixed0.map eB))),fun _=>rfl,fun _=>.p (by exact aq rfl)⟩,⟨I (fixed0.length:Int),fun _=>rfl,fun _=>.p (by exact ay cY rfl (List.length_map _))⟩,⟨_,[105],.b (.row 105),rfl,fun _=>rfl,rfl,rfl,fun _=>.fC [101,102,104,105,107,108] (by exact .p (by exact bc (k:=105) (enc:=eI) ak e3 (by decide) (.cons .refl .nil) rfl rfl rfl)) (by exact rfl)⟩,⟨.b (.one (.sl 1 (fixed0.map eB))),fun _=>rfl,fun _=>.p (by exact aq rfl)⟩,⟨I (fixed0.length:Int),fun _=>rfl,fun _=>.p (by exact ay cY rfl (List.length_map _))⟩,⟨_,[106],.b (.row 106),rfl,fun _=>rfl,rfl,rfl,fun _=>.fC [101,102,104,106,107,108] (by exact .p (by exact bc (k:=106) (enc:=eI) ak e4 (by decide) (.cons .refl .nil) rfl rfl rfl)) (by exact rfl)⟩,trivial,trivial,trivial,trivial,trivial⟩,⟨by kernel_rfl,⟨trivial,trivial,trivial,trivial,trivial,trivial,trivial,⟨_,[108],Pt 108 0,rfl,fun _=>rfl,rfl,rfl,fun _=>.fC [101,102,104,105,106,107,108] (by exact .p (by exact bh (k:=108) ck rfl)) (by exact rfl)⟩,trivial,trivial,trivial⟩,⟨by kernel_rfl,⟨trivial,trivial,trivial,trivial,trivial,trivial,⟨_,[107],Pt 107 0,rfl,fun _=>rfl,rfl,rfl,fun _=>.fC [101,102,104,105,106,107,108] (by exact .p (by exact bh (k:=107) ck rfl)) (by exact rfl)⟩,trivial,trivial,trivial,trivial⟩,⟨by kernel_rfl,⟨trivial,trivial,trivial,⟨.b (.one (.sl 1 (fixed0.map eB))),fun _=>rfl,fun _=>.p (by exact aq rfl)⟩,⟨I (fixed0.length:Int),fun _=>rfl,fun _=>.p (by exact ay cY rfl (List.length_map _))⟩,⟨_,[106],.b (.row 106),rfl,fun _=>rfl,rfl,rfl,fun _=>.fC [101,102,104,105,106,107,108] (by exact .p (by exact bc (k:=106) (enc:=eI) ak e4 (by decide) (.cons .refl .nil) rfl rfl rfl)) (by exact rfl)⟩,trivial,trivial,⟨_,[],.b (.one .any),rfl,(fun e=>by simp at e),rfl,rfl,fun _=>.fC [101,102,104,105,107,108] (by exact .nG 107 rfl (.plain rfl (dC aZ rfl rfl rfl rfl (Nat.le_of_ble_eq_true rfl) rfl))) (by exact rfl)⟩,trivial,trivial⟩,⟨by kernel_rfl,⟨⟨.b (.one (.sl 1 (fixed0.map eB))),fun _=>rfl,fun _=>.p (by exact aq rfl)⟩,⟨I (fixed0.length:Int),fun _=>rfl,fun _=>.p (by exact ay cY rfl (List.length_map _))⟩,⟨_,[105],.b (.row 105),rfl,fun _=>rfl,rfl,rfl,fun _=>.fC [101,102,104,105,106,107,108] (by exact .p (by exact bc (k:=105) (enc:=eI) ak e3 (by decide) (.cons .refl .nil) rfl rfl rfl)) (by exact rfl)⟩,trivial,trivial,trivial,trivial,trivial,trivial,trivial,trivial⟩,⟨by kernel_rfl,⟨trivial,trivial,trivial,trivial,trivial,trivial,trivial,trivial,⟨_,[],.b (.one .any),rfl,(fun e=>by simp at e),rfl,rfl,fun _=>.fC [101,102,104,105,106,107,108] (by exact .nG 107 rfl (.plain rfl (dC aZ rfl rfl rfl rfl (Nat.le_of_ble_eq_true rfl) rfl))) (by exact rfl)⟩,trivial,trivial⟩,⟨by kernel_rfl,⟨trivial,trivial,trivial,⟨.b (.one (.sl 1 (fixed0.map eB))),fun _=>rfl,fun _=>.p (by exact aq rfl)⟩,⟨I (fixed0.length:Int),fun _=>rfl,fun _=>.p (by exact ay cY rfl (List.length_map _))⟩,⟨_,[106],.b (.row 106),rfl,fun _=>rfl,rfl,rfl,fun _=>.fC [101,102,104,105,106,107,108] (by exact .p (by exact bc (k:=106) (enc:=eI) ak e4 (by decide) (.cons .refl .nil) rfl rfl rfl)) (by exact rfl)⟩,trivial,trivial,trivial,trivial,trivial⟩,⟨by kernel_rfl,⟨trivial,trivial,trivial,trivial,trivial,trivial,trivial,trivial,trivial,⟨_,[],.b (.one .any),rfl,(fun e=>by simp at e),rfl,rfl,fun _=>.fC [101,102,104,105,106,107,108] (by exact .nG 108 rfl (.plain rfl (dC aZ rfl rfl rfl rfl (Nat.le_of_ble_eq_true rfl) rfl))) (by exact rfl)⟩,trivial⟩,⟨by kernel_rfl,⟨trivial,trivial,trivial,trivial,trivial,trivial,trivial,trivial,trivial,trivial,trivial⟩,trivial⟩⟩⟩⟩⟩⟩⟩⟩⟩⟩⟩⟩⟩⟩⟩⟩⟩⟩⟩) rfl rfl rfl [0,4,5,6,7,8] [101,102,104,105,106,107,108] (s':=⟨[(0,.b (.one (.sl 1 (fixed0.map eB)))),(4,Pt 101 0),(5,Pt 102 0),(6,Pt 104 0),(7,Pt 107 0),(8,Pt 108 0)],[(101,.box 30 [.nil]),(102,.box 30 [.nil]),(104,.box 56 [.sl 1 (x_2.map (eL 2 aT))]),(105,.row 3 1 (x_3.map eI)),(106,.row 3 1 (x_4.map eI)),(107,.ar 30 [.row 105]),(108,.ar 30 [.row 106])]⟩) rfl ?_
 refine ab.seq (ab.aa ?_)
 refine Oc (bh (k:=109) tyZero3 rfl) (Oc (gb au rfl rfl rfl (Nat.le_of_ble_eq_true rfl) rfl) ?_)
 refine ae.ah ⟨[(0,_),(4,_),(5,_),(6,_),(7,_),(8,_),(9,Pt 109 0)],[(101,_),(102,_),(104,_),(105,_),(106,_),(107,_),(108,_),(109,.box 3 [.i 0])]⟩ rfl (ab.seq (ab.aa ?_))
 refine Oc (bh (k:=110) sC rfl) (ae.ah ⟨[(0,_),(4,_),(5,_),(6,_),(7,_),(8,_),(9,_),(10,Pt 110 0)],[(101,_),(102,_),(104,_),(105,_),(106,_),(107,_),(108,_),(109,_),(110,.box 80 [.raw .nilFunc])]⟩ rfl (ab.seq (ab.aa ?_)))
 refine Oc (pM rfl rfl) (ae.nG 110 rfl (Oc (dC ov rfl rfl rfl rfl (Nat.le_of_ble_eq_true rfl) rfl) (ae.ah ⟨[(0,.b (.one (.sl 1 (fixed0.map eB)))),(4,Pt 101 0),(5,Pt 102 0),(7,Pt 107 0),(10,Pt 110 0)],[(101,.box 30 [.nil]),(102,.box 30 [.nil]),(104,.box 56 [.sl 1 (x_2.map (eL 2 aT))]),(105,.row 3 1 (x_3.map eI)),(106,.row 3 1 (x_4.map eI)),(107,.ar 30 [.row 105]),(108,.ar 30 [.row 106]),(109,.box 3 [.i 0]),(110,.ar 80 [.gC 53 [] [.ptr 109 0,.ptr 107 0,.ptr 108 0,.ptr 104 0,.ptr 110 0,.ptr 102 0,.ptr 101 0]])]⟩ rfl ?_)))
 obtain ⟨v5,h6,h⟩:=aN h
 refine ab.cA (v:=v5) (bL fun (keysf0_5:List Int) (bridgesf0_6:List Int)=>⟨[(4,Pt 101 0),(5,Pt 102 0)],[(101,.ar 30 [.row 112]),(102,.ar 30 [.row 111]),(111,.row 3 1 (bridgesf0_6.map eI)),(112,.row 3 1 (keysf0_5.map eI))]⟩) (fun z=>z) ?_ ?_
 ·refine ab.seq (ab.aa ?_)
  refine Oc om (Oc (ay cY rfl (List.length_map _)) (Oc om ?_))
  refine ae.ah ⟨[(4,Pt 101 0),(5,Pt 102 0),(7,Pt 107 0),(10,Pt 110 0),(27,.b (.one (.sl 1 (fixed0.map eB)))),(28,I (fixed0.length:Int)),(29,I 0)],[(101,.box 30 [.nil]),(102,.box 30 [.nil]),(104,.box 56 [.sl 1 (x_2.map (eL 2 aT))]),(105,.row 3 1 (x_3.map eI)),(106,.row 3 1 (x_4.map eI)),(107,.ar 30 [.row 105]),(108,.ar 30 [.row 106]),(109,.box 3 [.i 0]),(110,.ar 80 [.gC 53 [] [.ptr 109 0,.ptr 107 0,.ptr 108 0,.ptr 104 0,.ptr 110 0,.ptr 102 0,.ptr 101 0]])]⟩ rfl (ab.block (ab.nG 101 rfl (ab.ig 101 0 112 1 3 rfl rfl (by decide) (by decide) rfl (ab.nG 102 rfl (ab.ig 102 0 111 1 3 rfl rfl (by decide) (by decide) rfl ?_)))))
  refine ab.cy h6 (un6 fun (keysf0_7:List Int) (bridgesf0_8:List Int) (seenf0_9:List Int) (visitf0_10:Int) (visitf0f0_11:List Int) (x_12:Int)=>⟨[(4,Pt 101 0),(5,Pt 102 0),(7,Pt 107 0),(10,Pt 110 0),(27,.b (.one (.sl 1 (fixed0.map eB)))),(28,I (fixed0.length:Int)),(29,I x_12)],[(101,.ar 30 [.row 112]),(102,.ar 30 [.row 111]),(104,.box 56 [.sl 1 (x_2.map (eL 2 aT))]),(105,.row 3 1 (seenf0_9.map eI)),(106,.row 3 1 (visitf0f0_11.map eI)),(107,.ar 30 [.row 105]),(108,.ar 30 [.row 106]),(109,.box 3 [.i visitf0_10]),(110,.ar 80 [.gC 53 [] [.ptr 109 0,.ptr 107 0,.ptr 108 0,.ptr 104 0,.ptr 110 0,.ptr 102 0,.ptr 101 0]]),(111,.row 3 1 (bridgesf0_8.map eI)),(112,.row 3 1 (keysf0_7.map eI))]⟩) [4,5,7,10,27,28,29] [101,102,104,105,106,107,108,109,110,111,112] rfl ?_
  rintro ⟨keysf0_7,bridgesf0_8,seenf0_9,visitf0_10,visitf0f0_11,x_12⟩ o7 h8 hy9
  refine ab.seq (ab.aa ?_)
  refine Oc (bf rfl rfl) (ae.ah ⟨[(4,_),(5,_),(7,_),(10,_),(27,_),(28,_),(29,_),(30,B (decide (x_12 < (fixed0.length:Int))))],[(101,_),(102,_),(104,_),(105,_),(106,_),(107,_),(108,_),(109,_),(110,_),(111,_),(112,_)]⟩ rfl (ab.seq (ab.ite h8 rfl (fun _ h8=>?_) (fun _ h8=>?_))))
  ·refine ab.skip (Fin.ag ⟨[(4,_),(5,_),(7,_),(10,_),(27,_),(28,_),(29,_)],[(101,_),(102,_),(104,_),(105,_),(106,_),(107,_),(108,_),(109,_),(110,_),(111,_),(112,_)]⟩ rfl (Fin.then ?_))
   obtain ⟨v10,h11,h8⟩:=aN h8
   refine ab.cA (v:=v10) (un5 fun (keysf0_15:List Int) (bridgesf0_16:List Int) (seenf0_17:List Int) (visitf0_18:Int) (visitf0f0_19:List Int)=>⟨[(4,Pt 101 0),(5,Pt 102 0),(7,Pt 107 0),(10,Pt 110 0),(27,.b (.one (.sl 1 (fixed0.map eB)))),(28,I (fixed0.length:Int)),(29,I x_12)],[(101,.ar 30 [.row 112]),(102,.ar 30 [.row 111]),(104,.box 56 [.sl 1 (x_2.map (eL 2 aT))]),(105,.row 3 1 (seenf0_17.map eI)),(106,.row 3 1 (visitf0f0_19.map eI)),(107,.ar 30 [.row 105]),(108,.ar 30 [.row 106]),(109,.box 3 [.i visitf0_18]),(110,.ar 80 [.gC 53 [] [.ptr 109 0,.ptr 107 0,.ptr 108 0,.ptr 104 0,.ptr 110 0,.ptr 102 0,.ptr 101 0]]),(111,.row 3 1 (bridgesf0_16.map eI)),(112,.row 3 1 (keysf0_15.map eI))]⟩) (fun z=>z) ?_ ?_
   ·refine ab.block (ab.seq (ab.aa ?_))
    refine Oc om ?_
    obtain ⟨x_20,e12,h11⟩:=aN h11
    refine Oc (aI fI (aC e12) (az (e:=eB) e12) rfl rfl) (Oc (aE gP rfl rfl) (Oc oa (Oc oa ?_)))
    refine ae.ah ⟨[(4,_),(5,_),(7,_),(10,_),(11,I x_12),(12,B x_20),(27,_),(28,_),(29,_)],[(101,_),(102,_),(104,_),(105,_),(106,_),(107,_),(108,_),(109,_),(110,_),(111,_),(112,_)]⟩ rfl (ab.seq (ab.aa ?_))
    refine Oc om (Oc (dM rfl) (Oc om ?_))
    refine er (!x_20) [] (fun g13=>trivial) (fun g13=>aV aZ rfl rfl rfl) (er (!x_20) [] (fun g14=>trivial) (fun g14=>om) ?_)
    obtain ⟨x_21,e16,h11⟩:=aN h11
    refine er (!x_20) [37,38] (fun g15=>⟨g15,g15,trivial⟩) (fun g15=>an ak (aC (gc e16 g15)) (aL (gc e16 g15)) rfl rfl rfl rfl) (er (!x_20) [39] (fun g17=>⟨g17,trivial⟩) (fun g17=>ax (i:=(x_12:Int).toNat) (f:=0) au rfl rfl rfl (az (e:=eI) (gc e16 g17)) rfl) (er (!x_20) [40] (fun g18=>⟨g18,trivial⟩) (fun g18=>cT rfl rfl) (Oc (aR (fun e=>e) rfl rfl rfl rfl) (ae.ah ⟨[(4,_),(5,_),(7,_),(10,_),(11,_),(27,_),(28,_),(29,_),(42,B ((!x_20) && (decide (x_21 = 0))))],[(101,_),(102,_),(104,_),(105,_),(106,_),(107,_),(108,_),(109,_),(110,_),(111,_),(112,_)]⟩ rfl (ab.ite h11 rfl (fun _ h11=>?_) (fun _ h11=>?_))))))
    ·refine ab.aa (Oc (aV ov rfl rfl rfl) (Oc om ?_))
     obtain ⟨⟨x_22,x_23,x_24,x_25,x_26⟩,e19,h11⟩:=aN h11
     refine Oc (ph (own_a:=[(109,_),(107,_),(105,_),(108,_),(106,_),(104,_),(110,_),(102,_),(111,_),(101,_),(112,_)]) (aA.cast (own2:=[(109,.box 3 [.i visitf0_10]),(107,.ar 30 [.row 105]),(105,.row 3 1 (seenf0_9.map eI)),(108,.ar 30 [.row 106]),(106,.row 3 1 (visitf0f0_11.map eI)),(104,.box 56 [.sl 1 (x_2.map (eL 2 aT))]),(110,.ar 80 [.gC 53 [] [.ptr 109 0,.ptr 107 0,.ptr 108 0,.ptr 104 0,.ptr 110 0,.ptr 102 0,.ptr 101 0]]),(102,.ar 30 [.row 111]),(111,.row 3 1 (bridgesf0_8.map eI)),(101,.ar 30 [.row 112]),(112,.row 3 1 (keysf0_7.map eI))]) (args2:=[.one (.i x_12),.one (.i (-1)),.ptr 109 0,.ptr 107 0,.ptr 108 0,.ptr 104 0,.ptr 110 0,.ptr 102 0,.ptr 101 0]) (own2':=[(109,.box 3 [.i x_22]),(107,.ar 30 [.row 105]),(105,.row 3 1 (x_23.map eI)),(108,.ar 30 [.row 106]),(106,.row 3 1 (x_24.map eI)),(104,.box 56 [.sl 1 (x_2.map (eL 2 aT))]),(110,.ar 80 [.gC 53 [] [.ptr 109 0,.ptr 107 0,.ptr 108 0,.ptr 104 0,.ptr 110 0,.ptr 102 0,.ptr 101 0]]),(102,.ar 30 [.row 111]),(111,.row 3 1 (x_25.map eI)),(101,.ar 30 [.row 112]),(112,.row 3 1 (x_26.map eI))]) (res2:=.ez []) ((((((((((((kV e19).sw 1 109).sw 2 107).sw 3 105).sw 4 108).sw 5 106).sw 6 104).sw 7 110).sw 8 102).sw 9 111).sw 10 101).sw 11 112) (by kernel_rfl) (by kernel_rfl) (by kernel_rfl) (by kernel_rfl)) sb rfl rfl rfl ⟨rfl,rfl,rfl,rfl,rfl,rfl,rfl,rfl,rfl,rfl,rfl,trivial⟩ rfl rfl) (ae.ag ⟨[(4,Pt 101 0),(5,Pt 102 0),(7,Pt 107 0),(10,Pt 110 0),(11,I x_12),(27,.b (.one (.sl 1 (fixed0.map eB)))),(28,I (fixed0.length:Int)),(29,I x_12),(42,B ((!x_20) && (decide (x_21 = 0)))),(43,.b (.gC 53 [] [.ptr 109 0,.ptr 107 0,.ptr 108 0,.ptr 104 0,.ptr 110 0,.ptr 102 0,.ptr 101 0])),(44,I x_12),(45,.ez [])],[(101,.ar 30 [.row 112]),(102,.ar 30 [.row 111]),(104,.box 56 [.sl 1 (x_2.map (eL 2 aT))]),(105,.row 3 1 (x_23.map eI)),(106,.row 3 1 (x_24.map eI)),(107,.ar 30 [.row 105]),(108,.ar 30 [.row 106]),(109,.box 3 [.i x_22]),(110,.ar 80 [.gC 53 [] [.ptr 109 0,.ptr 107 0,.ptr 108 0,.ptr 104 0,.ptr 110 0,.ptr 102 0,.ptr 101 0]]),(111,.row 3 1 (x_25.map eI)),(112,.row 3 1 (x_26.map eI))]⟩ (by kernel_rfl) (ae.nil (Fin.ai ?_)))
     exact Fin.join [4,5,7,10,27,28,29] [101,102,104,105,106,107,108,109,110,111,112] (x_26,x_25,x_23,x_22,x_24) (Option.some.inj h11) rfl
    ·refine ab.skip (Fin.ai ?_)
     exact Fin.join [4,5,7,10,27,28,29] [101,102,104,105,106,107,108,109,110,111,112] (keysf0_7,bridgesf0_8,seenf0_9,visitf0_10,visitf0f0_11) (Option.some.inj h11) rfl
   ·rintro ⟨keysf0_15,bridgesf0_16,seenf0_17,visitf0_18,visitf0f0_19⟩ hv
    subst v10
    refine ab.aa (Oc (aX rfl rfl) (Oc om ?_))
    refine ae.nil ?_
    exact Fin.bz [4,5,7,10,27,28,29] [101,102,104,105,106,107,108,109,110,111,112] (keysf0_15,bridgesf0_16,seenf0_17,visitf0_18,visitf0f0_19,IntKind.i64.wrap (x_12 + 1)) (Option.some.inj h8) rfl
  ·refine ab.exit (Fin.aj ?_)
   obtain rfl:=hy9 _ (Option.some.inj h8).symm
   refine Fin.aj (Fin.aG ?_)
   exact Fin.join [4,5] [101,102,111,112] (keysf0_7,bridgesf0_8) rfl rfl
 ·rintro ⟨keysf0_5,bridgesf0_6⟩ hv
  subst v5
  refine ab.seq (ab.aa ?_)
  refine Oc (aV aZ rfl rfl rfl) (ae.kj 112 rfl ?_)
  obtain ⟨x_27,e20,h⟩:=aN h
  refine Oc (bm (own_a:=[(112,_)]) ((eo e20).sw 1 112) oq rfl ⟨rfl,trivial⟩ rfl rfl) (ae.kX 112 rfl (ae.ah ⟨[(4,_),(5,_)],[(101,_),(102,_),(111,_),(112,.row 3 1 (x_27.map eI))]⟩ rfl (ab.seq (ab.aa ?_))))
  refine Oc (aV aZ rfl rfl rfl) (ae.kj 111 rfl ?_)
  obtain ⟨x_28,e21,h⟩:=aN h
  refine Oc (bm (own_a:=[(111,_)]) ((eo e21).sw 1 111) oq rfl ⟨rfl,trivial⟩ rfl rfl) (ae.kX 111 rfl (ae.ah ⟨[(4,_),(5,_)],[(101,_),(102,_),(111,.row 3 1 (x_28.map eI)),(112,_)]⟩ rfl (ab.seq (ab.mP mixed [false,false,true,true] [.b (.row 112),.b (.row 111),B true,B true] [⟨[false,false,false,false],[(4,Pt 101 0),(5,Pt 102 0)],[(101,.ar 30 [.row 112]),(102,.ar 30 [.row 111]),(111,.row 3 1 (x_28.map eI)),(112,.row 3 1 (x_27.map eI))],[true,true,true,true],[],[3]⟩,⟨[false,false,true,false],[(4,Pt 101 0),(5,Pt 102 0)],[(101,.ar 30 [.row 112]),(102,.ar 30 [.row 111]),(111,.row 3 1 (x_28.map eI)),(112,.row 3 1 (x_27.map eI))],[true,true,true,true],[0,2],[]⟩,⟨[false,false,true,true],[(4,Pt 101 0),(5,Pt 102 0)],[(101,.ar 30 [.row 112]),(102,.ar 30 [.row 111]),(111,.row 3 1 (x_28.map eI)),(112,.row 3 1 (x_27.map eI))],[true,true,true,true],[0,1,2,3],[]⟩] rfl (⟨by kernel_rfl,⟨⟨.b (.row 112),fun _=>rfl,fun _=>.p (by exact aV aZ rfl rfl rfl)⟩,⟨.b (.row 111),fun _=>rfl,fun _=>.p (by exact aV aZ rfl rfl rfl)⟩,⟨_,[],.b (.one .any),rfl,(fun e=>by simp at e),rfl,rfl,fun _=>.fC [101,102,111,112] (by exact .p (by exact dC aZ rfl rfl rfl rfl (Nat.le_of_ble_eq_true rfl) rfl)) (by exact rfl)⟩,trivial,trivial⟩,⟨by kernel_rfl,⟨trivial,⟨.b (.row 111),fun _=>rfl,fun _=>.p (by exact aV aZ rfl rfl rfl)⟩,trivial,⟨_,[],.b (.one .any),rfl,(fun e=>by simp at e),rfl,rfl,fun _=>.fC [101,102,111,112] (by exact .p (by exact dC aZ rfl rfl rfl rfl (Nat.le_of_ble_eq_true rfl) rfl)) (by exact rfl)⟩,trivial⟩,⟨by kernel_rfl,⟨trivial,trivial,trivial,trivial,trivial⟩,trivial⟩⟩⟩) rfl rfl rfl [4,5] [101,102,111,112] (s':=⟨[(4,_),(5,_)],[(101,_),(102,_),(111,_),(112,_)]⟩) rfl (ab.ret ?_)))))
  obtain rfl:=Option.some.inj h
  refine Fin.ag ⟨[(4,Pt 101 0),(5,Pt 102 0)],[(101,.ar 30 [.row 112]),(102,.ar 30 [.row 111]),(111,.row 3 1 (x_28.map eI)),(112,.row 3 1 (x_27.map eI))]⟩ rfl (Fin.bO 112 rfl (Fin.unX 101 rfl rfl (Fin.bO 111 rfl (Fin.unX 102 rfl rfl (Fin.aW [.one (.sl 1 (x_27.map eI)),.one (.sl 1 (x_28.map eI))] (.inl rfl) rfl (.cons (.one aZ rfl rfl rfl) (.cons (.one aZ rfl rfl rfl) .nil)) ⟨rfl,rfl⟩)))))
def ep (F:Nat) (fixed0:List Bool) (links0:List A2):Option ((List Int) × Int) :=
 (bG F fixed0 links0).bind fun x_1=>if (!x_1) = true then (some ([],1)) else (Option.bind (eF F fixed0 links0) (bL fun x_2 x_3=>some (x_3,0)))
theorem kq {F:Nat} {fixed0:List Bool} {links0:List A2} {r:(List Int) × Int} (h:ep F fixed0 links0 = some r):aA Try.prog [] 22 [] [.one (.sl 1 (fixed0.map eB)),.one (.sl 2 (links0.map (cR .i64)))] (Is [] (.ez [.one (.sl 1 (r.1.map eI)),.one (.i r.2)])):=by
 unfold ep at h
 refine aA.intro 19 Try.func22 Try.ntmps22 rfl (by simp) fun E=>?_
 show ab _ E ⟨19,[],[],[]⟩ _ ⟨[(0,.b (.one (.sl 1 (fixed0.map eB)))),(1,.b (.one (.sl 2 (links0.map (cR .i64)))))],[]⟩ _
 refine ab.seq (ab.aa ?_)
 refine Oc oa (Oc oa ?_)
 refine ae.ah ⟨[(0,.b (.one (.sl 1 (fixed0.map eB)))),(1,.b (.one (.sl 2 (links0.map (cR .i64)))))],[]⟩ rfl (ab.seq (ab.seq (ab.aa ?_)))
 refine Oc om (Oc om ?_)
 obtain ⟨x_1,e1,h⟩:=aN h
 refine Oc (a6 (cw e1) lQ rfl rfl) (Oc (dM rfl) ?_)
 refine ae.ah ⟨[(0,_),(1,_),(11,B (!x_1))],[]⟩ rfl (ab.ite h rfl (fun _ h=>?_) (fun _ h=>?_))
 ·refine ab.seq (ab.aa ?_)
  refine Oc oa (Oc oa ?_)
  refine ae.ah ⟨[(4,.b (.one (.nil))),(5,I 1)],[]⟩ rfl (ab.ret (Fin.aD ?_))
  obtain rfl:=Option.some.inj h
  refine Fin.ag ⟨[(4,_),(5,_)],[]⟩ rfl (Fin.iD 4 1 rfl (by decide) (Fin.aW [.one (.sl 1 ([].map eI)),.one (.i 1)] (.inl rfl) rfl (.cons (.tmp rfl) (.cons (.tmp rfl) .nil)) ⟨rfl,rfl⟩))
 ·refine ab.skip (Fin.ag ⟨[(0,_),(1,_)],[]⟩ rfl (Fin.then (ab.seq (ab.aa ?_))))
  refine Oc om (Oc om ?_)
  obtain ⟨⟨x_2,x_3⟩,e2,h⟩:=aN h
  refine Oc (a6 (iM e2) sg rfl rfl) (Oc om (Oc (aF rfl rfl) ?_))
  refine ae.ag ⟨[(12,.ez [.one (.sl 1 (x_2.map eI)),.one (.sl 1 (x_3.map eI))]),(16,.b (.one (.sl 1 (x_2.map eI))))],[]⟩ rfl (Oc (aF rfl rfl) (Oc oa (Oc oa ?_)))
  refine ae.ah ⟨[(7,.b (.one (.sl 1 (x_3.map eI))))],[]⟩ rfl (ab.seq (ab.aa ?_))
  refine Oc om (Oc oa (Oc oa ?_))
  refine ae.ah ⟨[(4,.b (.one (.sl 1 (x_3.map eI)))),(5,I 0)],[]⟩ rfl (ab.ret ?_)
  obtain rfl:=Option.some.inj h
  refine Fin.ag ⟨[(4,_),(5,_)],[]⟩ rfl (Fin.aW [.one (.sl 1 (x_3.map eI)),.one (.i 0)] (.inl rfl) rfl (.cons (.tmp rfl) (.cons (.tmp rfl) .nil)) ⟨rfl,rfl⟩)
def fU (F:Nat) (fixed0:List Bool) (links0:List A2):Option ((List Int) × Int) :=
 (bG F fixed0 links0).bind fun x_1=>if (!x_1) = true then (some ([],1)) else (Option.bind (eF F fixed0 links0) (bL fun x_2 x_3=>some (x_2,0)))
theorem mj {F:Nat} {fixed0:List Bool} {links0:List A2} {r:(List Int) × Int} (h:fU F fixed0 links0 = some r):aA Try.prog [] 21 [] [.one (.sl 1 (fixed0.map eB)),.one (.sl 2 (links0.map (cR .i64)))] (Is [] (.ez [.one (.sl 1 (r.1.map eI)),.one (.i r.2)])):=by
 unfold fU at h
 refine aA.intro 19 Try.func21 Try.ntmps21 rfl (by simp) fun E=>?_
 show ab _ E ⟨19,[],[],[]⟩ _ ⟨[(0,.b (.one (.sl 1 (fixed0.map eB)))),(1,.b (.one (.sl 2 (links0.map (cR .i64)))))],[]⟩ _
 refine ab.seq (ab.aa ?_)
 refine Oc oa (Oc oa ?_)
 refine ae.ah ⟨[(0,.b (.one (.sl 1 (fixed0.map eB)))),(1,.b (.one (.sl 2 (links0.map (cR .i64)))))],[]⟩ rfl (ab.seq (ab.seq (ab.aa ?_)))
 refine Oc om (Oc om ?_)
 obtain ⟨x_1,e1,h⟩:=aN h
 refine Oc (a6 (cw e1) lQ rfl rfl) (Oc (dM rfl) ?_)
 refine ae.ah ⟨[(0,_),(1,_),(11,B (!x_1))],[]⟩ rfl (ab.ite h rfl (fun _ h=>?_) (fun _ h=>?_))
 ·refine ab.seq (ab.aa ?_)
  refine Oc oa (Oc oa ?_)
  refine ae.ah ⟨[(4,.b (.one (.nil))),(5,I 1)],[]⟩ rfl (ab.ret (Fin.aD ?_))
  obtain rfl:=Option.some.inj h
  refine Fin.ag ⟨[(4,_),(5,_)],[]⟩ rfl (Fin.iD 4 1 rfl (by decide) (Fin.aW [.one (.sl 1 ([].map eI)),.one (.i 1)] (.inl rfl) rfl (.cons (.tmp rfl) (.cons (.tmp rfl) .nil)) ⟨rfl,rfl⟩))
 ·refine ab.skip (Fin.ag ⟨[(0,_),(1,_)],[]⟩ rfl (Fin.then (ab.seq (ab.aa ?_))))
  refine Oc om (Oc om ?_)
  obtain ⟨⟨x_2,x_3⟩,e2,h⟩:=aN h
  refine Oc (a6 (iM e2) sg rfl rfl) (Oc om (Oc (aF rfl rfl) ?_))
  refine ae.ag ⟨[(12,.ez [.one (.sl 1 (x_2.map eI)),.one (.sl 1 (x_3.map eI))]),(16,.b (.one (.sl 1 (x_2.map eI))))],[]⟩ rfl (Oc (aF rfl rfl) (Oc oa (Oc oa ?_)))
  refine ae.ah ⟨[(6,.b (.one (.sl 1 (x_2.map eI))))],[]⟩ rfl (ab.seq (ab.aa ?_))
  refine Oc om (Oc oa (Oc oa ?_))
  refine ae.ah ⟨[(4,.b (.one (.sl 1 (x_2.map eI)))),(5,I 0)],[]⟩ rfl (ab.ret ?_)
  obtain rfl:=Option.some.inj h
  refine Fin.ag ⟨[(4,_),(5,_)],[]⟩ rfl (Fin.aW [.one (.sl 1 (x_2.map eI)),.one (.i 0)] (.inl rfl) rfl (.cons (.tmp rfl) (.cons (.tmp rfl) .nil)) ⟨rfl,rfl⟩)
def fy (F:Nat) (lists0:List (List (List Int))):Option (List (List Int)) :=
 Option.bind (iter F (bL fun up_2 x_3=>if (decide (x_3 < (lists0.length:Int))) = true then (Option.bind ((av lists0 x_3).bind fun x_6=>Option.bind (iter F (bL fun up_7 x_8=>if (decide (x_8 < (x_6.length:Int))) = true then (Option.bind ((av x_6 x_8).bind fun x_11=>Option.bind (iter F (bL fun up_12 x_13=>if (decide (x_13 < (x_11.length:Int))) = true then ((av x_11 x_13).bind fun x_15=>(av x_11 0).bind fun x_16=>Option.bind (bI F x_16 x_15 up_12) (bL fun x_17 x_18=>some (.inl (x_18,IntKind.i64.wrap (x_13 + 1))))) else (some (.inr up_12))) (up_7,0)) (fun up_14=>some up_14)) (fun up_10=>some (.inl (up_10,IntKind.i64.wrap (x_8 + 1))))) else (some (.inr up_7))) (up_2,0)) (fun up_9=>some up_9)) (fun up_5=>some (.inl (up_5,IntKind.i64.wrap (x_3 + 1))))) else (some (.inr up_2))) (([]:ba),0)) (fun up_1=>Option.bind (bt F up_1) (bL fun x_19 x_20=>some x_19))
theorem lD {F:Nat} {lists0:List (List (List Int))} {r:(List (List Int))} (h:fy F lists0 = some r):aA Try.prog [] 27 [] [.one (.sl 1 (lists0.map (eL 1 (eL 1 eI))))] (Is [] (.b (.one (.sl 1 (r.map (eL 1 eI)))))):=by
 unfold fy at h
 refine aA.intro 41 Try.func27 Try.ntmps27 rfl (by simp) fun E=>?_
 show ab _ E ⟨41,[],[],[]⟩ _ ⟨[(0,.b (.one (.sl 1 (lists0.map (eL 1 (eL 1 eI))))))],[]⟩ _
 refine ab.seq (ab.aa ?_)
 refine Oc oa (ae.ah ⟨[(0,.b (.one (.sl 1 (lists0.map (eL 1 (eL 1 eI))))))],[]⟩ rfl (ab.seq (ab.aa ?_)))
 refine Oc (iq (k:=101) lH rfl) (Oc ((ni nS rfl rfl).kH rfl) (Oc (bh (k:=102) iE rfl) ?_))
 refine ae.nG 102 rfl (Oc (fi cN rfl rfl rfl rfl rfl (Nat.le_of_ble_eq_true rfl) rfl) (ae.ah ⟨[(0,.b (.one (.sl 1 (lists0.map (eL 1 (eL 1 eI)))))),(3,Pt 102 0)],[(101,.mq ([]:ba)),(102,.ar 52 [.row 101])]⟩ rfl ?_))
 obtain ⟨v1,h2,h⟩:=aN h
 refine ab.cA (v:=v1) (fun (up_1:ba)=>⟨[(3,Pt 102 0)],[(101,.mq up_1),(102,.ar 52 [.row 101])]⟩) (fun z=>z) ?_ ?_
 ·refine ab.seq (ab.aa ?_)
  refine Oc om (Oc (ay und41 rfl (List.length_map _)) (Oc om ?_))
  refine ae.ah ⟨[(3,_),(12,.b (.one (.sl 1 (lists0.map (eL 1 (eL 1 eI)))))),(13,I (lists0.length:Int)),(14,I 0)],[(101,_),(102,_)]⟩ rfl (ab.block (ab.cy h2 (bL fun (up_2:ba) (x_3:Int)=>⟨[(3,Pt 102 0),(12,.b (.one (.sl 1 (lists0.map (eL 1 (eL 1 eI)))))),(13,I (lists0.length:Int)),(14,I x_3)],[(101,.mq up_2),(102,.ar 52 [.row 101])]⟩) [3,12,13,14] [101,102] rfl ?_))
  rintro ⟨up_2,x_3⟩ o3 h4 hy5
  refine ab.seq (ab.aa ?_)
  refine Oc (bf rfl rfl) (ae.ah ⟨[(3,_),(12,_),(13,_),(14,_),(15,B (decide (x_3 < (lists0.length:Int))))],[(101,_),(102,_)]⟩ rfl (ab.seq (ab.ite h4 rfl (fun _ h4=>?_) (fun _ h4=>?_))))
  ·refine ab.skip (Fin.ag ⟨[(3,_),(12,_),(13,_),(14,_)],[(101,_),(102,_)]⟩ rfl (Fin.then ?_))
   obtain ⟨v6,h7,h4⟩:=aN h4
   refine ab.cA (v:=v6) (fun (up_5:ba)=>⟨[(3,Pt 102 0),(12,.b (.one (.sl 1 (lists0.map (eL 1 (eL 1 eI)))))),(13,I (lists0.length:Int)),(14,I x_3)],[(101,.mq up_5),(102,.ar 52 [.row 101])]⟩) (fun z=>z) ?_ ?_
   ·refine ab.block (ab.seq (ab.aa ?_))
    obtain ⟨x_6,e8,h7⟩:=aN h7
    refine Oc (aI rX (aC e8) (az (e:=(eL 1 (eL 1 eI))) e8) rfl rfl) (Oc (aE tyOne26 rfl rfl) (Oc oa ?_))
    refine ae.ah ⟨[(3,_),(5,.b (.one (.sl 1 (x_6.map (eL 1 eI))))),(12,_),(13,_),(14,_)],[(101,_),(102,_)]⟩ rfl (ab.seq (ab.aa ?_))
    refine Oc om (Oc (ay mo rfl (List.length_map _)) (Oc om ?_))
    refine ae.ah ⟨[(3,_),(12,_),(13,_),(14,_),(18,.b (.one (.sl 1 (x_6.map (eL 1 eI))))),(19,I (x_6.length:Int)),(20,I 0)],[(101,_),(102,_)]⟩ rfl (ab.block ?_)
    obtain ⟨v9,h10,h7⟩:=aN h7
    refine ab.cy h10 (bL fun (up_7:ba) (x_8:Int)=>⟨[(3,Pt 102 0),(12,.b (.one (.sl 1 (lists0.map (eL 1 (eL 1 eI)))))),(13,I (lists0.length:Int)),(14,I x_3),(18,.b (.one (.sl 1 (x_6.map (eL 1 eI))))),(19,I (x_6.length:Int)),(20,I x_8)],[(101,.mq up_7),(102,.ar 52 [.row 101])]⟩) [3,12,13,14,18,19,20] [101,102] rfl ?_
    rintro ⟨up_7,x_8⟩ o11 h12 hy13
    refine ab.seq (ab.aa ?_)
    refine Oc (bf rfl rfl) (ae.ah ⟨[(3,_),(12,_),(13,_),(14,_),(18,_),(19,_),(20,_),(21,B (decide (x_8 < (x_6.length:Int))))],[(101,_),(102,_)]⟩ rfl (ab.seq (ab.ite h12 rfl (fun _ h12=>?_) (fun _ h12=>?_))))
    ·refine ab.skip (Fin.ag ⟨[(3,_),(12,_),(13,_),(14,_),(18,_),(19,_),(20,_)],[(101,_),(102,_)]⟩ rfl (Fin.then ?_))
     obtain ⟨v14,h15,h12⟩:=aN h12
     refine ab.cA (v:=v14) (fun (up_10:ba)=>⟨[(3,Pt 102 0),(12,.b (.one (.sl 1 (lists0.map (eL 1 (eL 1 eI)))))),(13,I (lists0.length:Int)),(14,I x_3),(18,.b (.one (.sl 1 (x_6.map (eL 1 eI))))),(19,I (x_6.length:Int)),(20,I x_8)],[(101,.mq up_10),(102,.ar 52 [.row 101])]⟩) (fun z=>z) ?_ ?_
     ·refine ab.block (ab.seq (ab.aa ?_))
      obtain ⟨x_11,e16,h15⟩:=aN h15
      refine Oc (aI dR (aC e16) (az (e:=(eL 1 eI)) e16) rfl rfl) (Oc (aE aZ rfl rfl) (Oc oa ?_))
      refine ae.ah ⟨[(3,_),(7,.b (.one (.sl 1 (x_11.map eI)))),(12,_),(13,_),(14,_),(18,_),(19,_),(20,_)],[(101,_),(102,_)]⟩ rfl (ab.seq (ab.aa ?_))
      refine Oc om (Oc (ay fX rfl (List.length_map _)) (Oc om ?_))
      refine ae.ah ⟨[(3,_),(7,_),(12,_),(13,_),(14,_),(18,_),(19,_),(20,_),(24,.b (.one (.sl 1 (x_11.map eI)))),(25,I (x_11.length:Int)),(26,I 0)],[(101,_),(102,_)]⟩ rfl (ab.block ?_)
      obtain ⟨v17,h18,h15⟩:=aN h15
      refine ab.cy h18 (bL fun (up_12:ba) (x_13:Int)=>⟨[(3,Pt 102 0),(7,.b (.one (.sl 1 (x_11.map eI)))),(12,.b (.one (.sl 1 (lists0.map (eL 1 (eL 1 eI)))))),(13,I (lists0.length:Int)),(14,I x_3),(18,.b (.one (.sl 1 (x_6.map (eL 1 eI))))),(19,I (x_6.length:Int)),(20,I x_8),(24,.b (.one (.sl 1 (x_11.map eI)))),(25,I (x_11.length:Int)),(26,I x_13)],[(101,.mq up_12),(102,.ar 52 [.row 101])]⟩) [3,7,12,13,14,18,19,20,24,25,26] [101,102] rfl ?_
      rintro ⟨up_12,x_13⟩ o19 h20 hy21
      refine ab.seq (ab.aa ?_)
      refine Oc (bf rfl rfl) (ae.ah ⟨[(3,_),(7,_),(12,_),(13,_),(14,_),(18,_),(19,_),(20,_),(24,_),(25,_),(26,_),(27,B (decide (x_13 < (x_11.length:Int))))],[(101,_),(102,_)]⟩ rfl (ab.seq (ab.ite h20 rfl (fun _ h20=>?_) (fun _ h20=>?_))))
      ·refine ab.skip (Fin.ag ⟨[(3,_),(7,_),(12,_),(13,_),(14,_),(18,_),(19,_),(20,_),(24,_),(25,_),(26,_)],[(101,_),(102,_)]⟩ rfl (Fin.then (ab.seq (ab.block (ab.seq (ab.aa ?_))))))
       obtain ⟨x_15,e22,h20⟩:=aN h20
       refine Oc (aI ak (aC e22) (az (e:=eI) e22) rfl rfl) (Oc (aE au rfl rfl) (Oc oa ?_))
       refine ae.ah ⟨[(3,_),(7,_),(9,I x_15),(12,_),(13,_),(14,_),(18,_),(19,_),(20,_),(24,_),(25,_),(26,_)],[(101,_),(102,_)]⟩ rfl ?_
       obtain ⟨x_16,e23,h20⟩:=aN h20
       obtain ⟨⟨x_17,x_18⟩,e24,h20⟩:=aN h20
       refine ab.jH mixed 5 [.b (.xa [.row 101]),.b (.one (.sl 1 (x_11.map eI))),.b (.cC [.i x_16]),I x_16,I x_15] [3,7,12,13,14,18,19,20,24,25,26] [101,102] (s':=⟨[(3,_),(7,_),(12,_),(13,_),(14,_),(18,_),(19,_),(20,_),(24,_),(25,_),(26,_)],[(101,.mq x_18),(102,_)]⟩) rfl ⟨fun _=>.p ((cG cN rfl rfl rfl rfl).kH rfl),fun _=>.p om,fun _=>.p (aI ak (aC e23) (az (e:=eI) e23) rfl rfl),fun _=>.p (aE au rfl rfl),fun _=>.p om,trivial⟩ ⟨_,by exact .p (bm (own_a:=[(101,_)]) ((eJ e24).sw 1 101) sf rfl ⟨rfl,trivial⟩ rfl rfl),rfl⟩ rfl (Fin.ai (Fin.ag ⟨[(3,_),(7,_),(12,_),(13,_),(14,_),(18,_),(19,_),(20,_),(24,_),(25,_),(26,_)],[(101,_),(102,_)]⟩ rfl (Fin.then (ab.aa ?_))))
       refine Oc (aX rfl rfl) (Oc om ?_)
       refine ae.nil ?_
       exact Fin.bz [3,7,12,13,14,18,19,20,24,25,26] [101,102] (x_18,IntKind.i64.wrap (x_13 + 1)) (Option.some.inj h20) rfl
      ·refine ab.exit (Fin.aj ?_)
       obtain rfl:=hy21 _ (Option.some.inj h20).symm
       refine Fin.aj (Fin.aG (Fin.ai ?_))
       exact Fin.join [3,12,13,14,18,19,20] [101,102] up_12 (Option.some.inj h15) rfl
     ·rintro up_10 hv
      subst v14
      refine ab.aa (Oc (aX rfl rfl) (Oc om ?_))
      refine ae.nil ?_
      exact Fin.bz [3,12,13,14,18,19,20] [101,102] (up_10,IntKind.i64.wrap (x_8 + 1)) (Option.some.inj h12) rfl
    ·refine ab.exit (Fin.aj ?_)
     obtain rfl:=hy13 _ (Option.some.inj h12).symm
     refine Fin.aj (Fin.aG (Fin.ai ?_))
     exact Fin.join [3,12,13,14] [101,102] up_7 (Option.some.inj h7) rfl
   ·rintro up_5 hv
    subst v6
    refine ab.aa (Oc (aX rfl rfl) (Oc om ?_))
    refine ae.nil ?_
    exact Fin.bz [3,12,13,14] [101,102] (up_5,IntKind.i64.wrap (x_3 + 1)) (Option.some.inj h4) rfl
  ·refine ab.exit (Fin.aj ?_)
   obtain rfl:=hy5 _ (Option.some.inj h4).symm
   refine Fin.aj (Fin.aG ?_)
   exact Fin.join [3] [101,102] up_2 rfl rfl
 ·rintro up_1 hv
  subst v1
  refine ab.seq (ab.aa ?_)
  refine Oc ((cG cN rfl rfl rfl rfl).kH rfl) ?_
  obtain ⟨⟨x_19,x_20⟩,e25,h⟩:=aN h
  refine Oc (bm (own_a:=[(101,_)]) ((eH e25).sw 1 101) p8 rfl ⟨rfl,trivial⟩ rfl rfl) (Oc oa ?_)
  refine ae.ah ⟨[(2,.b (.one (.sl 1 (x_19.map (eL 1 eI)))))],[]⟩ rfl (ab.ret ?_)
  obtain rfl:=Option.some.inj h
  refine Fin.ag ⟨[(2,_)],[]⟩ rfl (Fin.aW [.one (.sl 1 (x_19.map (eL 1 eI)))] (.inl rfl) rfl (.cons (.tmp rfl) .nil) ⟨rfl,rfl⟩)
def bB (F:Nat) (a0:List Int) (b0:List Int):Option Bool :=
 if (decide ((a0.length:Int) ≠ (b0.length:Int))) = true then (some false) else (Option.bind (iter F (fun i_1=>if (decide (i_1 < (a0.length:Int))) = true then ((av a0 i_1).bind fun x_2=>(av b0 i_1).bind fun x_3=>if (decide (x_2 ≠ x_3)) = true then (some (.inr (.inr false))) else (some (.inl (IntKind.i64.wrap (i_1 + 1))))) else (some (.inr (.inl ())))) 0) (fH (fun _=>some true) (fun y=>some y)))
theorem bN {F:Nat} {a0:List Int} {b0:List Int} {r:Bool} (h:bB F a0 b0 = some r):aA Try.prog [] 19 [] [.one (.sl 1 (a0.map eI)),.one (.sl 1 (b0.map eI))] (Is [] (.b (.one (.bool r)))):=by
 unfold bB at h
 refine aA.intro 26 Try.func19 Try.ntmps19 rfl (by simp) fun E=>?_
 show ab _ E ⟨26,[],[],[]⟩ _ ⟨[(0,.b (.one (.sl 1 (a0.map eI)))),(1,.b (.one (.sl 1 (b0.map eI))))],[]⟩ _
 refine ab.seq (ab.aa ?_)
 refine Oc oa (ae.ah ⟨[(0,.b (.one (.sl 1 (a0.map eI)))),(1,.b (.one (.sl 1 (b0.map eI))))],[]⟩ rfl (ab.seq (ab.seq (ab.aa ?_))))
 refine Oc om (Oc (ay fX rfl (List.length_map _)) (Oc om (Oc (ay fX rfl (List.length_map _)) (Oc (iR rfl rfl) ?_))))
 refine ae.ah ⟨[(0,_),(1,_),(10,B (decide ((a0.length:Int) ≠ (b0.length:Int))))],[]⟩ rfl (ab.ite h rfl (fun _ h=>?_) (fun _ h=>?_))
 ·refine ab.seq (ab.aa ?_)
  refine Oc oa (ae.ah ⟨[(4,B false)],[]⟩ rfl (ab.ret (Fin.aD ?_)))
  obtain rfl:=Option.some.inj h
  refine Fin.ag ⟨[(4,_)],[]⟩ rfl (Fin.aW [.one (.bool false)] (.inl rfl) rfl (.cons (.tmp rfl) .nil) ⟨rfl,rfl⟩)
 ·refine ab.skip (Fin.ag ⟨[(0,_),(1,_)],[]⟩ rfl (Fin.then ?_))
  obtain ⟨v1,h2,h⟩:=aN h
  refine ab.cA (v:=v1) (fun (_:Unit)=>⟨[],[]⟩) (fun z=>.inl z) ?_ ?_
  ·refine ab.seq (ab.aa ?_)
   refine Oc oa (ae.ah ⟨[(0,_),(1,_),(5,I 0)],[]⟩ rfl (ab.block (ab.cy h2 (fun (i_1:Int)=>⟨[(0,.b (.one (.sl 1 (a0.map eI)))),(1,.b (.one (.sl 1 (b0.map eI)))),(5,I i_1)],[]⟩) [0,1,5] [] rfl ?_)))
   rintro i_1 o3 h4 hy5
   refine ab.seq (ab.seq (ab.aa ?_))
   refine Oc om (Oc om (Oc (ay fX rfl (List.length_map _)) (Oc (bf rfl rfl) ?_)))
   refine ae.ah ⟨[(0,_),(1,_),(5,_),(14,B (decide (i_1 < (a0.length:Int))))],[]⟩ rfl (ab.ite h4 rfl (fun _ h4=>?_) (fun _ h4=>?_))
   ·refine ab.skip (Fin.ag ⟨[(0,_),(1,_),(5,_)],[]⟩ rfl (Fin.then (ab.seq (ab.block (ab.seq ?_)))))
    refine ab.ag ⟨[(0,_),(1,_),(5,_)],[]⟩ rfl ?_
    obtain ⟨x_2,e6,h4⟩:=aN h4
    obtain ⟨x_3,e7,h4⟩:=aN h4
    refine ab.c8 mixed 9 [.b (.one (.sl 1 (a0.map eI))),I i_1,.b (.cC [.i x_2]),I x_2,.b (.one (.sl 1 (b0.map eI))),I i_1,.b (.cC [.i x_3]),I x_3,B (decide (x_2 ≠ x_3))] [0,1,5,25] [] (s':=⟨[(0,_),(1,_),(5,_),(25,B (decide (x_2 ≠ x_3)))],[]⟩) rfl ⟨fun _=>.p om,fun _=>.p om,fun _=>.p (aI ak (aC e6) (az (e:=eI) e6) rfl rfl),fun _=>.p (aE au rfl rfl),fun _=>.p om,fun _=>.p om,fun _=>.p (aI ak (aC e7) (az (e:=eI) e7) rfl rfl),fun _=>.p (aE au rfl rfl),fun _=>.p (iR rfl rfl),trivial⟩ rfl rfl (ab.ite h4 rfl (fun _ h4=>?_) (fun _ h4=>?_))
    ·refine ab.seq (ab.aa ?_)
     refine Oc oa (ae.ah ⟨[(4,B false)],[]⟩ rfl (ab.ret (Fin.bC (Fin.aD ?_))))
     obtain rfl:=hy5 _ (Option.some.inj h4).symm
     refine Fin.aD (Fin.bC (Fin.aD ?_))
     obtain rfl:=Option.some.inj h
     refine Fin.ag ⟨[(4,_)],[]⟩ rfl (Fin.aW [.one (.bool false)] (.inl rfl) rfl (.cons (.tmp rfl) .nil) ⟨rfl,rfl⟩)
    ·refine ab.skip (Fin.ai (Fin.ag ⟨[(0,_),(1,_),(5,_)],[]⟩ rfl (Fin.then (ab.aa ?_))))
     refine Oc om (Oc (aX rfl rfl) (Oc oa ?_))
     refine ae.nil ?_
     exact Fin.bz [0,1,5] [] (IntKind.i64.wrap (i_1 + 1)) (Option.some.inj h4) rfl
   ·refine ab.exit (Fin.aj ?_)
    obtain rfl:=hy5 _ (Option.some.inj h4).symm
    refine Fin.aj (Fin.aG ?_)
    exact Fin.join [] [] () rfl rfl
  ·rintro _ hv
   subst v1
   refine ab.seq (ab.aa ?_)
   refine Oc oa (ae.ah ⟨[(4,B true)],[]⟩ rfl (ab.ret ?_))
   obtain rfl:=Option.some.inj h
   refine Fin.ag ⟨[(4,_)],[]⟩ rfl (Fin.aW [.one (.bool true)] (.inl rfl) rfl (.cons (.tmp rfl) .nil) ⟨rfl,rfl⟩)
def cK (F:Nat) (a0:List (List Int)) (b0:List (List Int)):Option Bool :=
 if (decide ((a0.length:Int) ≠ (b0.length:Int))) = true then (some false) else (Option.bind (iter F (fun i_1=>if (decide (i_1 < (a0.length:Int))) = true then ((av a0 i_1).bind fun x_2=>(av b0 i_1).bind fun x_3=>(bB F x_2 x_3).bind fun x_4=>if (!x_4) = true then (some (.inr (.inr false))) else (some (.inl (IntKind.i64.wrap (i_1 + 1))))) else (some (.inr (.inl ())))) 0) (fH (fun _=>some true) (fun y=>some y)))
theorem dQ {F:Nat} {a0:List (List Int)} {b0:List (List Int)} {r:Bool} (h:cK F a0 b0 = some r):aA Try.prog [] 18 [] [.one (.sl 1 (a0.map (eL 1 eI))),.one (.sl 1 (b0.map (eL 1 eI)))] (Is [] (.b (.one (.bool r)))):=by
 unfold cK at h
 refine aA.intro 27 Try.func18 Try.ntmps18 rfl (by simp) fun E=>?_
 show ab _ E ⟨27,[],[],[]⟩ _ ⟨[(0,.b (.one (.sl 1 (a0.map (eL 1 eI))))),(1,.b (.one (.sl 1 (b0.map (eL 1 eI)))))],[]⟩ _
 refine ab.seq (ab.aa ?_)
 refine Oc oa (ae.ah ⟨[(0,.b (.one (.sl 1 (a0.map (eL 1 eI))))),(1,.b (.one (.sl 1 (b0.map (eL 1 eI)))))],[]⟩ rfl (ab.seq (ab.seq (ab.aa ?_))))
 refine Oc om (Oc (ay mo rfl (List.length_map _)) (Oc om (Oc (ay mo rfl (List.length_map _)) (Oc (iR rfl rfl) ?_))))
 refine ae.ah ⟨[(0,_),(1,_),(10,B (decide ((a0.length:Int) ≠ (b0.length:Int))))],[]⟩ rfl (ab.ite h rfl (fun _ h=>?_) (fun _ h=>?_))
 ·refine ab.seq (ab.aa ?_)
  refine Oc oa (ae.ah ⟨[(4,B false)],[]⟩ rfl (ab.ret (Fin.aD ?_)))
  obtain rfl:=Option.some.inj h
  refine Fin.ag ⟨[(4,_)],[]⟩ rfl (Fin.aW [.one (.bool false)] (.inl rfl) rfl (.cons (.tmp rfl) .nil) ⟨rfl,rfl⟩)
 ·refine ab.skip (Fin.ag ⟨[(0,_),(1,_)],[]⟩ rfl (Fin.then ?_))
  obtain ⟨v1,h2,h⟩:=aN h
  refine ab.cA (v:=v1) (fun (_:Unit)=>⟨[],[]⟩) (fun z=>.inl z) ?_ ?_
  ·refine ab.seq (ab.aa ?_)
   refine Oc oa (ae.ah ⟨[(0,_),(1,_),(5,I 0)],[]⟩ rfl (ab.block (ab.cy h2 (fun (i_1:Int)=>⟨[(0,.b (.one (.sl 1 (a0.map (eL 1 eI))))),(1,.b (.one (.sl 1 (b0.map (eL 1 eI))))),(5,I i_1)],[]⟩) [0,1,5] [] rfl ?_)))
   rintro i_1 o3 h4 hy5
   refine ab.seq (ab.seq (ab.aa ?_))
   refine Oc om (Oc om (Oc (ay mo rfl (List.length_map _)) (Oc (bf rfl rfl) ?_)))
   refine ae.ah ⟨[(0,_),(1,_),(5,_),(14,B (decide (i_1 < (a0.length:Int))))],[]⟩ rfl (ab.ite h4 rfl (fun _ h4=>?_) (fun _ h4=>?_))
   ·refine ab.skip (Fin.ag ⟨[(0,_),(1,_),(5,_)],[]⟩ rfl (Fin.then (ab.seq (ab.block (ab.seq ?_)))))
    refine ab.ag ⟨[(0,_),(1,_),(5,_)],[]⟩ rfl ?_
    obtain ⟨x_2,e6,h4⟩:=aN h4
    obtain ⟨x_3,e7,h4⟩:=aN h4
    obtain ⟨x_4,e8,h4⟩:=aN h4
    refine ab.c8 mixed 10 [.b (.one (.sl 1 (a0.map (eL 1 eI)))),I i_1,.b (.cC [.sl 1 (x_2.map eI)]),.b (.one (.sl 1 (x_2.map eI))),.b (.one (.sl 1 (b0.map (eL 1 eI)))),I i_1,.b (.cC [.sl 1 (x_3.map eI)]),.b (.one (.sl 1 (x_3.map eI))),B x_4,B (!x_4)] [0,1,5,26] [] (s':=⟨[(0,_),(1,_),(5,_),(26,B (!x_4))],[]⟩) rfl ⟨fun _=>.p om,fun _=>.p om,fun _=>.p (aI dR (aC e6) (az (e:=(eL 1 eI)) e6) rfl rfl),fun _=>.p (aE aZ rfl rfl),fun _=>.p om,fun _=>.p om,fun _=>.p (aI dR (aC e7) (az (e:=(eL 1 eI)) e7) rfl rfl),fun _=>.p (aE aZ rfl rfl),fun _=>.p (a6 (bN e8) lS rfl rfl),fun _=>.p (dM rfl),trivial⟩ rfl rfl (ab.ite h4 rfl (fun _ h4=>?_) (fun _ h4=>?_))
    ·refine ab.seq (ab.aa ?_)
     refine Oc oa (ae.ah ⟨[(4,B false)],[]⟩ rfl (ab.ret (Fin.bC (Fin.aD ?_))))
     obtain rfl:=hy5 _ (Option.some.inj h4).symm
     refine Fin.aD (Fin.bC (Fin.aD ?_))
     obtain rfl:=Option.some.inj h
     refine Fin.ag ⟨[(4,_)],[]⟩ rfl (Fin.aW [.one (.bool false)] (.inl rfl) rfl (.cons (.tmp rfl) .nil) ⟨rfl,rfl⟩)
    ·refine ab.skip (Fin.ai (Fin.ag ⟨[(0,_),(1,_),(5,_)],[]⟩ rfl (Fin.then (ab.aa ?_))))
     refine Oc om (Oc (aX rfl rfl) (Oc oa ?_))
     refine ae.nil ?_
     exact Fin.bz [0,1,5] [] (IntKind.i64.wrap (i_1 + 1)) (Option.some.inj h4) rfl
   ·refine ab.exit (Fin.aj ?_)
    obtain rfl:=hy5 _ (Option.some.inj h4).symm
    refine Fin.aj (Fin.aG ?_)
    exact Fin.join [] [] () rfl rfl
  ·rintro _ hv
   subst v1
   refine ab.seq (ab.aa ?_)
   refine Oc oa (ae.ah ⟨[(4,B true)],[]⟩ rfl (ab.ret ?_))
   obtain rfl:=Option.some.inj h
   refine Fin.ag ⟨[(4,_)],[]⟩ rfl (Fin.aW [.one (.bool true)] (.inl rfl) rfl (.cons (.tmp rfl) .nil) ⟨rfl,rfl⟩)
def bE (F:Nat):Option Bool :=
 Option.bind (cI F [true,false,false,false,false,false,false] [(⟨0,1⟩:A2),(⟨1,2⟩:A2),(⟨2,3⟩:A2),(⟨1,3⟩:A2),(⟨4,5⟩:A2),(⟨0,4⟩:A2)]) (bL fun x_1 x_2=>Option.bind (bF F [true,false,false,false,false,false,false] [(⟨0,1⟩:A2),(⟨1,2⟩:A2),(⟨2,3⟩:A2),(⟨1,3⟩:A2),(⟨4,5⟩:A2),(⟨0,4⟩:A2)]) (bL fun x_3 x_4=>Option.bind (cq F [true,false,false,false,false,false,false] [(⟨0,1⟩:A2),(⟨1,2⟩:A2),(⟨2,3⟩:A2),(⟨1,3⟩:A2),(⟨4,5⟩:A2),(⟨0,4⟩:A2)]) (bL fun x_5 x_6=>Option.bind (gi F [true,false,false,false,false,false,false] [(⟨0,1⟩:A2),(⟨1,2⟩:A2),(⟨2,3⟩:A2),(⟨1,3⟩:A2),(⟨4,5⟩:A2),(⟨0,4⟩:A2)]) (bL fun x_7 x_8=>Option.bind (ep F [true,false,false,false,false,false,false] [(⟨0,1⟩:A2),(⟨1,2⟩:A2),(⟨2,3⟩:A2),(⟨1,3⟩:A2),(⟨4,5⟩:A2),(⟨0,4⟩:A2)]) (bL fun x_9 x_10=>(dw [(⟨0,1⟩:A2),(⟨1,2⟩:A2),(⟨2,3⟩:A2),(⟨1,3⟩:A2),(⟨4,5⟩:A2),(⟨0,4⟩:A2)] [(⟨3,6⟩:A2)]).bind fun x_11=>Option.bind (fU F [true,false,false,false,false,false,false] x_11) (bL fun x_12 x_13=>(fy F [[[1,2],[4,5]],[[2,3],[6]]]).bind fun x_14=>dq (((decide (x_2 = 0)) && (decide (x_4 = 0))) && (decide (x_6 = 0))) fun x_15=>dq (((x_15 && (decide (x_8 = 0))) && (decide (x_10 = 0))) && (decide (x_13 = 0))) fun x_16=>(bx x_16 (cK F x_1 [[1,2,3],[4,5],[6]])).bind fun x_17=>(bx (x_16 && x_17) (bB F x_3 [0,1,2,2,1,2,(-1)])).bind fun x_18=>(bx ((x_16 && x_17) && x_18) (bB F x_5 [1,2,3,4,5,6])).bind fun x_19=>(bx (((x_16 && x_17) && x_18) && x_19) (bB F x_7 [1,2,4])).bind fun x_20=>(bx ((((x_16 && x_17) && x_18) && x_19) && x_20) (bB F x_9 [4])).bind fun x_21=>(bx (((((x_16 && x_17) && x_18) && x_19) && x_20) && x_21) (bB F x_12 [3])).bind fun x_22=>dq ((((((x_16 && x_17) && x_18) && x_19) && x_20) && x_21) && x_22) fun x_23=>(bx x_23 (cK F x_14 [[1,2,3],[4,5],[6]])).bind fun x_24=>some (x_23 && x_24)))))))
theorem de {F:Nat} {r:Bool} (h:bE F = some r):aA Try.prog [] 11 [] [] (Is [] (.b (.one (.bool r)))):=by
 unfold bE at h
 refine aA.intro 135 Try.func11 Try.ntmps11 rfl (by simp) fun E=>?_
 show ab _ E ⟨135,[],[],[]⟩ _ ⟨[],[]⟩ _
 refine ab.seq (ab.aa ?_)
 refine Oc oa (ae.ah ⟨[],[]⟩ rfl (ab.seq (ab.aa ?_)))
 refine Oc (jS (es:=[true,false,false,false,false,false,false].map eB) fI rfl rfl (bl fun _=>rfl) rfl (by decide) (by decide)) (Oc oa ?_)
 refine ae.ah ⟨[(1,.b (.one (.slf 1 ([true,false,false,false,false,false,false].map eB))))],[]⟩ rfl (ab.seq (ab.aa ?_))
 refine Oc (fK fJ rfl rfl) (Oc (fK fJ rfl rfl) (Oc (fK fJ rfl rfl) (Oc (fK fJ rfl rfl) (Oc (fK fJ rfl rfl) (Oc (fK fJ rfl rfl) ?_)))))
 refine Oc (jS (es:=[(⟨0,1⟩:A2),(⟨1,2⟩:A2),(⟨2,3⟩:A2),(⟨1,3⟩:A2),(⟨4,5⟩:A2),(⟨0,4⟩:A2)].map (cR .i64)) gO rfl rfl (bl fun _=>rfl) rfl (by decide) (by decide)) (Oc oa ?_)
 refine ae.ah ⟨[(1,_),(2,.b (.one (.slf 2 ([(⟨0,1⟩:A2),(⟨1,2⟩:A2),(⟨2,3⟩:A2),(⟨1,3⟩:A2),(⟨4,5⟩:A2),(⟨0,4⟩:A2)].map (cR .i64)))))],[]⟩ rfl (ab.seq (ab.aa ?_))
 refine Oc om (Oc om ?_)
 refine ae.gJ 27 rfl (ae.gJ 28 rfl (ae.ag ⟨[(1,_),(2,_),(27,.b (.one (.sl 1 ([true,false,false,false,false,false,false].map eB)))),(28,.b (.one (.sl 2 ([(⟨0,1⟩:A2),(⟨1,2⟩:A2),(⟨2,3⟩:A2),(⟨1,3⟩:A2),(⟨4,5⟩:A2),(⟨0,4⟩:A2)].map (cR .i64)))))],[]⟩ rfl ?_))
 obtain ⟨⟨x_1,x_2⟩,e1,h⟩:=aN h
 refine Oc (a6 (iN e1) qb rfl rfl) (Oc om (Oc (aF rfl rfl) (Oc (aF rfl rfl) (Oc oa (Oc oa ?_)))))
 refine ae.ah ⟨[(1,_),(2,_),(3,.b (.one (.sl 1 (x_1.map (eL 1 eI))))),(4,I x_2)],[]⟩ rfl (ab.seq (ab.aa ?_))
 refine Oc om (Oc om ?_)
 refine ae.gJ 33 rfl (ae.gJ 34 rfl (ae.ag ⟨[(1,_),(2,_),(3,_),(4,_),(33,.b (.one (.sl 1 ([true,false,false,false,false,false,false].map eB)))),(34,.b (.one (.sl 2 ([(⟨0,1⟩:A2),(⟨1,2⟩:A2),(⟨2,3⟩:A2),(⟨1,3⟩:A2),(⟨4,5⟩:A2),(⟨0,4⟩:A2)].map (cR .i64)))))],[]⟩ rfl ?_))
 obtain ⟨⟨x_3,x_4⟩,e2,h⟩:=aN h
 refine Oc (bm (fc 103 e2) qa rfl trivial rfl rfl) (Oc om (Oc (aF rfl rfl) (Oc (aF rfl rfl) (Oc oa (Oc oa ?_)))))
 refine ae.ah ⟨[(1,_),(2,_),(3,_),(4,_),(5,.b (.row 103)),(6,I x_4)],[(103,.row 3 1 (x_3.map eI))]⟩ rfl (ab.seq (ab.aa ?_))
 refine Oc om (Oc om ?_)
 refine ae.gJ 39 rfl (ae.gJ 40 rfl (ae.ag ⟨[(1,_),(2,_),(3,_),(4,_),(5,_),(6,_),(39,.b (.one (.sl 1 ([true,false,false,false,false,false,false].map eB)))),(40,.b (.one (.sl 2 ([(⟨0,1⟩:A2),(⟨1,2⟩:A2),(⟨2,3⟩:A2),(⟨1,3⟩:A2),(⟨4,5⟩:A2),(⟨0,4⟩:A2)].map (cR .i64)))))],[(103,_)]⟩ rfl ?_))
 obtain ⟨⟨x_5,x_6⟩,e3,h⟩:=aN h
 refine Oc (a6 (iv e3) sm rfl rfl) (Oc om (Oc (aF rfl rfl) (Oc (aF rfl rfl) (Oc oa (Oc oa ?_)))))
 refine ae.ah ⟨[(1,_),(2,_),(3,_),(4,_),(5,_),(6,_),(7,.b (.one (.sl 1 (x_5.map eI)))),(8,I x_6)],[(103,_)]⟩ rfl (ab.seq (ab.aa ?_))
 refine Oc om (Oc om ?_)
 refine ae.gJ 45 rfl (ae.gJ 46 rfl (ae.ag ⟨[(1,_),(2,_),(3,_),(4,_),(5,_),(6,_),(7,_),(8,_),(45,.b (.one (.sl 1 ([true,false,false,false,false,false,false].map eB)))),(46,.b (.one (.sl 2 ([(⟨0,1⟩:A2),(⟨1,2⟩:A2),(⟨2,3⟩:A2),(⟨1,3⟩:A2),(⟨4,5⟩:A2),(⟨0,4⟩:A2)].map (cR .i64)))))],[(103,_)]⟩ rfl ?_))
 obtain ⟨⟨x_7,x_8⟩,e4,h⟩:=aN h
 refine Oc (bm (kW 104 e4) goes20 rfl trivial rfl rfl) (Oc om (Oc (aF rfl rfl) (Oc (aF rfl rfl) (Oc oa (Oc oa ?_)))))
 refine ae.ah ⟨[(1,_),(2,_),(3,_),(4,_),(5,_),(6,_),(7,_),(8,_),(9,.b (.row 104)),(10,I x_8)],[(103,_),(104,.row 3 1 (x_7.map eI))]⟩ rfl (ab.seq (ab.aa ?_))
 refine Oc om (Oc om ?_)
 refine ae.gJ 51 rfl (ae.gJ 52 rfl (ae.ag ⟨[(1,_),(2,_),(3,_),(4,_),(5,_),(6,_),(7,_),(8,_),(9,_),(10,_),(51,.b (.one (.sl 1 ([true,false,false,false,false,false,false].map eB)))),(52,.b (.one (.sl 2 ([(⟨0,1⟩:A2),(⟨1,2⟩:A2),(⟨2,3⟩:A2),(⟨1,3⟩:A2),(⟨4,5⟩:A2),(⟨0,4⟩:A2)].map (cR .i64)))))],[(103,_),(104,_)]⟩ rfl ?_))
 obtain ⟨⟨x_9,x_10⟩,e5,h⟩:=aN h
 refine Oc (a6 (kq e5) goes22 rfl rfl) (Oc om (Oc (aF rfl rfl) (Oc (aF rfl rfl) (Oc oa (Oc oa ?_)))))
 refine ae.ah ⟨[(1,_),(2,_),(3,_),(4,_),(5,_),(6,_),(7,_),(8,_),(9,_),(10,_),(11,.b (.one (.sl 1 (x_9.map eI)))),(12,I x_10)],[(103,_),(104,_)]⟩ rfl (ab.seq (ab.aa ?_))
 refine Oc om (Oc om (Oc (fK fJ rfl rfl) (Oc (aO (k:=105) (es:=[(⟨3,6⟩:A2)].map (cR .i64)) gO rfl rfl (bl fun _=>rfl) rfl (by decide) (by decide) rfl) ?_)))
 obtain ⟨x_11,e6,h⟩:=aN h
 refine Oc (pN (k:=106) gO (gn e6) (gm e6) (Nat.le_of_ble_eq_true rfl) rfl rfl rfl (dG e6) rfl) (ae.gJ 57 rfl (ae.bO 106 rfl (ae.ag ⟨[(3,.b (.one (.sl 1 (x_1.map (eL 1 eI))))),(4,I x_2),(5,.b (.row 103)),(6,I x_4),(7,.b (.one (.sl 1 (x_5.map eI)))),(8,I x_6),(9,.b (.row 104)),(10,I x_8),(11,.b (.one (.sl 1 (x_9.map eI)))),(12,I x_10),(57,.b (.one (.sl 1 ([true,false,false,false,false,false,false].map eB)))),(60,.b (.row 105)),(61,.b (.one (.sl 2 (x_11.map (cR .i64)))))],[(103,.row 3 1 (x_3.map eI)),(104,.row 3 1 (x_7.map eI)),(105,.row 44 2 ([(⟨3,6⟩:A2)].map (cR .i64)))]⟩ rfl ?_)))
 obtain ⟨⟨x_12,x_13⟩,e7,h⟩:=aN h
 refine Oc (a6 (mj e7) goes21 rfl rfl) (Oc om (Oc (aF rfl rfl) (Oc (aF rfl rfl) (Oc oa (Oc oa ?_)))))
 refine ae.ah ⟨[(3,_),(4,_),(5,_),(6,_),(7,_),(8,_),(9,_),(10,_),(11,_),(12,_),(13,.b (.one (.sl 1 (x_12.map eI)))),(14,I x_13)],[(103,_),(104,_)]⟩ rfl (ab.seq (ab.aa ?_))
 refine Oc (aO (k:=107) (es:=[1,2].map eI) ak rfl rfl (bl fun _=>rfl) rfl (by decide) (by decide) rfl) (Oc (aO (k:=108) (es:=[4,5].map eI) ak rfl rfl (bl fun _=>rfl) rfl (by decide) (by decide) rfl) ?_)
 refine ae.bO 107 rfl (ae.bO 108 rfl (ae.ag ⟨[(3,.b (.one (.sl 1 (x_1.map (eL 1 eI))))),(4,I x_2),(5,.b (.row 103)),(6,I x_4),(7,.b (.one (.sl 1 (x_5.map eI)))),(8,I x_6),(9,.b (.row 104)),(10,I x_8),(11,.b (.one (.sl 1 (x_9.map eI)))),(12,I x_10),(13,.b (.one (.sl 1 (x_12.map eI)))),(14,I x_13),(65,.b (.one (.sl 1 ([1,2].map eI)))),(66,.b (.one (.sl 1 ([4,5].map eI))))],[(103,.row 3 1 (x_3.map eI)),(104,.row 3 1 (x_7.map eI))]⟩ rfl (Oc (aO (k:=109) (es:=[[1,2],[4,5]].map (eL 1 eI)) dR rfl rfl (bl fun _=>rfl) rfl (by decide) (by decide) rfl) (Oc (aO (k:=110) (es:=[2,3].map eI) ak rfl rfl (bl fun _=>rfl) rfl (by decide) (by decide) rfl) (Oc (aO (k:=111) (es:=[6].map eI) ak rfl rfl (bl fun _=>rfl) rfl (by decide) (by decide) rfl) ?_)))))
 refine ae.bO 110 rfl (ae.bO 111 rfl (ae.ag ⟨[(3,.b (.one (.sl 1 (x_1.map (eL 1 eI))))),(4,I x_2),(5,.b (.row 103)),(6,I x_4),(7,.b (.one (.sl 1 (x_5.map eI)))),(8,I x_6),(9,.b (.row 104)),(10,I x_8),(11,.b (.one (.sl 1 (x_9.map eI)))),(12,I x_10),(13,.b (.one (.sl 1 (x_12.map eI)))),(14,I x_13),(67,.b (.row 109)),(68,.b (.one (.sl 1 ([2,3].map eI)))),(69,.b (.one (.sl 1 ([6].map eI))))],[(103,.row 3 1 (x_3.map eI)),(104,.row 3 1 (x_7.map eI)),(109,.row 30 1 ([[1,2],[4,5]].map (eL 1 eI)))]⟩ rfl (Oc (aO (k:=112) (es:=[[2,3],[6]].map (eL 1 eI)) dR rfl rfl (bl fun _=>rfl) rfl (by decide) (by decide) rfl) (ae.bO 109 rfl (ae.bO 112 rfl ?_)))))
 refine Oc (aO (k:=113) (es:=[[[1,2],[4,5]],[[2,3],[6]]].map (eL 1 (eL 1 eI))) rX rfl rfl (bl fun _=>rfl) rfl (by decide) (by decide) rfl) (ae.bO 113 rfl ?_)
 obtain ⟨x_14,e8,h⟩:=aN h
 refine Oc (a6 (lD e8) goes27 rfl rfl) (Oc oa ?_)
 refine ae.ah ⟨[(3,.b (.one (.sl 1 (x_1.map (eL 1 eI))))),(4,I x_2),(5,.b (.row 103)),(6,I x_4),(7,.b (.one (.sl 1 (x_5.map eI)))),(8,I x_6),(9,.b (.row 104)),(10,I x_8),(11,.b (.one (.sl 1 (x_9.map eI)))),(12,I x_10),(13,.b (.one (.sl 1 (x_12.map eI)))),(14,I x_13),(15,.b (.one (.sl 1 (x_14.map (eL 1 eI)))))],[(103,.row 3 1 (x_3.map eI)),(104,.row 3 1 (x_7.map eI))]⟩ rfl (ab.seq (ab.aa ?_))
 refine Oc (aO (k:=114) (es:=[1,2,3].map eI) ak rfl rfl (bl fun _=>rfl) rfl (by decide) (by decide) rfl) (Oc (aO (k:=115) (es:=[4,5].map eI) ak rfl rfl (bl fun _=>rfl) rfl (by decide) (by decide) rfl) (Oc (aO (k:=116) (es:=[6].map eI) ak rfl rfl (bl fun _=>rfl) rfl (by decide) (by decide) rfl) ?_))
 refine ae.bO 114 rfl (ae.bO 115 rfl (ae.bO 116 rfl (Oc (aO (k:=117) (es:=[[1,2,3],[4,5],[6]].map (eL 1 eI)) dR rfl rfl (bl fun _=>rfl) rfl (by decide) (by decide) rfl) (Oc oa ?_))))
 refine ae.ah ⟨[(3,.b (.one (.sl 1 (x_1.map (eL 1 eI))))),(4,I x_2),(5,.b (.row 103)),(6,I x_4),(7,.b (.one (.sl 1 (x_5.map eI)))),(8,I x_6),(9,.b (.row 104)),(10,I x_8),(11,.b (.one (.sl 1 (x_9.map eI)))),(12,I x_10),(13,.b (.one (.sl 1 (x_12.map eI)))),(14,I x_13),(15,.b (.one (.sl 1 (x_14.map (eL 1 eI))))),(16,.b (.row 117))],[(103,.row 3 1 (x_3.map eI)),(104,.row 3 1 (x_7.map eI)),(117,.row 30 1 ([[1,2,3],[4,5],[6]].map (eL 1 eI)))]⟩ rfl (ab.seq (ab.aa ?_))
 refine Oc om (Oc (cT rfl rfl) (Oc om ?_))
 refine er (decide (x_2 = 0)) [] (fun g9=>trivial) (fun g9=>om) (er (decide (x_2 = 0)) [80] (fun g10=>by exact ⟨g10,trivial⟩) (fun g10=>cT rfl rfl) (Oc (aR (fun e=>e) rfl rfl rfl rfl) (Oc om ?_)))
 refine ae.ag ⟨[(3,_),(5,_),(7,_),(8,_),(9,_),(10,_),(11,_),(12,_),(13,_),(14,_),(15,_),(16,_),(83,B ((decide (x_2 = 0)) && (decide (x_4 = 0))))],[(103,_),(104,_),(117,_)]⟩ rfl (er ((decide (x_2 = 0)) && (decide (x_4 = 0))) [] (fun g11=>trivial) (fun g11=>om) (er ((decide (x_2 = 0)) && (decide (x_4 = 0))) [84] (fun g12=>by exact ⟨g12,trivial⟩) (fun g12=>cT rfl rfl) (ae.mw h rfl (aR (fun e=>e) rfl rfl rfl rfl) (fun x_15 h=>?_))))
 refine Oc om (er x_15 [] (fun g13=>by exact trivial) (fun g13=>om) (er x_15 [88] (fun g14=>by exact ⟨g14,trivial⟩) (fun g14=>cT rfl rfl) (Oc (aR (fun e=>e) rfl rfl rfl rfl) (Oc om ?_))))
 refine ae.ag ⟨[(3,_),(5,_),(7,_),(9,_),(11,_),(12,_),(13,_),(14,_),(15,_),(16,_),(91,B (x_15 && (decide (x_8 = 0))))],[(103,_),(104,_),(117,_)]⟩ rfl (er (x_15 && (decide (x_8 = 0))) [] (fun g15=>trivial) (fun g15=>om) (er (x_15 && (decide (x_8 = 0))) [92] (fun g16=>by exact ⟨g16,trivial⟩) (fun g16=>cT rfl rfl) (Oc (aR (fun e=>e) rfl rfl rfl rfl) (Oc om ?_))))
 refine er ((x_15 && (decide (x_8 = 0))) && (decide (x_10 = 0))) [] (fun g17=>trivial) (fun g17=>om) (er ((x_15 && (decide (x_8 = 0))) && (decide (x_10 = 0))) [96] (fun g18=>by exact ⟨g18,trivial⟩) (fun g18=>cT rfl rfl) (ae.mw h rfl (aR (fun e=>e) rfl rfl rfl rfl) (fun x_16 h=>?_)))
 refine Oc oa (ae.ah ⟨[(3,_),(5,_),(7,_),(9,_),(11,_),(13,_),(15,_),(16,_),(17,B x_16)],[(103,_),(104,_),(117,_)]⟩ rfl (ab.seq (ab.aa ?_)))
 refine Oc om (Oc om ?_)
 refine er x_16 [] (fun g19=>trivial) (fun g19=>om) (er x_16 [] (fun g20=>by exact trivial) (fun g20=>om) ?_)
 obtain ⟨x_17,e22,h⟩:=aN h
 refine er x_16 [101,102] (fun g21=>⟨g21,g21,trivial⟩) (fun g21=>ll (dQ (gc e22 g21)) sj rfl CP.kg) (ae.ag ⟨[(5,_),(7,_),(9,_),(11,_),(13,_),(15,_),(16,_),(100,B x_16),(103,.opt x_16 (.one (.bool x_17)))],[(103,_),(104,_),(117,_)]⟩ rfl (Oc (aR (fun e=>e) rfl rfl rfl rfl) (Oc om ?_)))
 refine er (x_16 && x_17) [] (fun g23=>trivial) (fun g23=>om) (er (x_16 && x_17) [] (fun g24=>by exact trivial) (fun g24=>cn (es:=[0,1,2,2,1,2,(-1)].map eI) ak rfl rfl (bl fun _=>rfl) rfl (by decide) (by decide)) ?_)
 obtain ⟨x_18,e26,h⟩:=aN h
 refine er (x_16 && x_17) [106,107] (fun g25=>⟨g25,g25,trivial⟩) (fun g25=>ll (bN (gc e26 g25)) lS rfl CP.kg) (ae.ag ⟨[(7,_),(9,_),(11,_),(13,_),(15,_),(16,_),(105,B (x_16 && x_17)),(108,.opt (x_16 && x_17) (.one (.bool x_18)))],[(104,_),(117,_)]⟩ rfl (Oc (aR (fun e=>e) rfl rfl rfl rfl) (Oc om ?_)))
 refine er ((x_16 && x_17) && x_18) [] (fun g27=>trivial) (fun g27=>om) (er ((x_16 && x_17) && x_18) [] (fun g28=>by exact trivial) (fun g28=>cn (es:=[1,2,3,4,5,6].map eI) ak rfl rfl (bl fun _=>rfl) rfl (by decide) (by decide)) ?_)
 obtain ⟨x_19,e30,h⟩:=aN h
 refine er ((x_16 && x_17) && x_18) [111,112] (fun g29=>⟨g29,g29,trivial⟩) (fun g29=>a6 (bN (gc e30 g29)) lS rfl rfl) (ae.ag ⟨[(9,_),(11,_),(13,_),(15,_),(16,_),(110,B ((x_16 && x_17) && x_18)),(113,.opt ((x_16 && x_17) && x_18) (.one (.bool x_19)))],[(104,_),(117,_)]⟩ rfl (Oc (aR (fun e=>e) rfl rfl rfl rfl) (Oc om ?_)))
 refine er (((x_16 && x_17) && x_18) && x_19) [] (fun g31=>trivial) (fun g31=>om) (er (((x_16 && x_17) && x_18) && x_19) [] (fun g32=>by exact trivial) (fun g32=>cn (es:=[1,2,4].map eI) ak rfl rfl (bl fun _=>rfl) rfl (by decide) (by decide)) ?_)
 obtain ⟨x_20,e34,h⟩:=aN h
 refine er (((x_16 && x_17) && x_18) && x_19) [116,117] (fun g33=>⟨g33,g33,trivial⟩) (fun g33=>ll (bN (gc e34 g33)) lS rfl CP.kg) (ae.ag ⟨[(11,_),(13,_),(15,_),(16,_),(115,B (((x_16 && x_17) && x_18) && x_19)),(118,.opt (((x_16 && x_17) && x_18) && x_19) (.one (.bool x_20)))],[(117,_)]⟩ rfl (Oc (aR (fun e=>e) rfl rfl rfl rfl) (Oc om ?_)))
 refine er ((((x_16 && x_17) && x_18) && x_19) && x_20) [] (fun g35=>trivial) (fun g35=>om) (er ((((x_16 && x_17) && x_18) && x_19) && x_20) [] (fun g36=>by exact trivial) (fun g36=>cn (es:=[4].map eI) ak rfl rfl (bl fun _=>rfl) rfl (by decide) (by decide)) ?_)
 obtain ⟨x_21,e38,h⟩:=aN h
 refine er ((((x_16 && x_17) && x_18) && x_19) && x_20) [121,122] (fun g37=>⟨g37,g37,trivial⟩) (fun g37=>a6 (bN (gc e38 g37)) lS rfl rfl) (ae.ag ⟨[(13,_),(15,_),(16,_),(120,B ((((x_16 && x_17) && x_18) && x_19) && x_20)),(123,.opt ((((x_16 && x_17) && x_18) && x_19) && x_20) (.one (.bool x_21)))],[(117,_)]⟩ rfl (Oc (aR (fun e=>e) rfl rfl rfl rfl) (Oc om ?_)))
 refine er (((((x_16 && x_17) && x_18) && x_19) && x_20) && x_21) [] (fun g39=>trivial) (fun g39=>om) (er (((((x_16 && x_17) && x_18) && x_19) && x_20) && x_21) [] (fun g40=>by exact trivial) (fun g40=>cn (es:=[3].map eI) ak rfl rfl (bl fun _=>rfl) rfl (by decide) (by decide)) ?_)
 obtain ⟨x_22,e42,h⟩:=aN h
 refine er (((((x_16 && x_17) && x_18) && x_19) && x_20) && x_21) [126,127] (fun g41=>⟨g41,g41,trivial⟩) (fun g41=>a6 (bN (gc e42 g41)) lS rfl rfl) (ae.ag ⟨[(15,_),(16,_),(125,B (((((x_16 && x_17) && x_18) && x_19) && x_20) && x_21)),(128,.opt (((((x_16 && x_17) && x_18) && x_19) && x_20) && x_21) (.one (.bool x_22)))],[(117,_)]⟩ rfl (ae.mw h rfl (aR (fun e=>e) rfl rfl rfl rfl) (fun x_23 h=>?_)))
 refine Oc om (er x_23 [] (fun g43=>by exact trivial) (fun g43=>om) (er x_23 [] (fun g44=>by exact trivial) (fun g44=>om) ?_))
 obtain ⟨x_24,e46,h⟩:=aN h
 refine er x_23 [131,132] (fun g45=>⟨g45,g45,trivial⟩) (fun g45=>ll (dQ (gc e46 g45)) sj rfl CP.kg) (Oc (aR (fun e=>e) rfl rfl rfl rfl) (Oc oa ?_))
 refine ae.ah ⟨[(0,B (x_23 && x_24))],[]⟩ rfl (ab.ret ?_)
 obtain rfl:=Option.some.inj h
 refine Fin.ag ⟨[(0,_)],[]⟩ rfl (Fin.aW [.one (.bool (x_23 && x_24))] (.inl rfl) rfl (.cons (.tmp rfl) .nil) ⟨rfl,rfl⟩)
def cE (F:Nat) (fixed0:List Bool) (links0:List A2):Option Bool :=
 if (decide (401 < (fixed0.length:Int))) = true then (some false) else (Option.bind (iter F (fun i_1=>if (decide (i_1 < (links0.length:Int))) = true then ((av links0 i_1).bind fun x_2=>(av links0 i_1).bind fun x_3=>dq (((decide (x_2.a0 < 0)) || (decide (x_3.a1 < 0))) || (decide ((fixed0.length:Int) ≤ x_2.a0))) fun x_4=>dq ((x_4 || (decide ((fixed0.length:Int) ≤ x_3.a1))) || (decide (x_2.a0 = x_3.a1))) fun x_5=>if x_5 = true then (some (.inr (.inr false))) else (some (.inl (IntKind.i64.wrap (i_1 + 1))))) else (some (.inr (.inl ())))) 0) (fH (fun _=>some true) (fun y=>some y)))
def bZ (F:Nat) (l0:List Int) (n0:Int):Option Bool :=
 Option.bind (iter F (fun i_1=>if (decide (i_1 < (l0.length:Int))) = true then ((av l0 i_1).bind fun x_2=>if (decide (x_2 = n0)) = true then (some (.inr (.inr true))) else (some (.inl (IntKind.i64.wrap (i_1 + 1))))) else (some (.inr (.inl ())))) 0) (fH (fun _=>some false) (fun y=>some y))
theorem ji {F:Nat} {l0:List Int} {n0:Int} {r:Bool} (h:bZ F l0 n0 = some r):aA Try.prog [] 28 [] [.one (.sl 1 (l0.map eI)),.one (.i n0)] (Is [] (.b (.one (.bool r)))):=by
 unfold bZ at h
 refine aA.intro 18 Try.func28 Try.ntmps28 rfl (by simp) fun E=>?_
 show ab _ E ⟨18,[],[],[]⟩ _ ⟨[(0,.b (.one (.sl 1 (l0.map eI)))),(1,I n0)],[]⟩ _
 refine ab.seq (ab.aa ?_)
 refine Oc oa (ae.ah ⟨[(0,.b (.one (.sl 1 (l0.map eI)))),(1,I n0)],[]⟩ rfl ?_)
 obtain ⟨v1,h2,h⟩:=aN h
 refine ab.cA (v:=v1) (fun (_:Unit)=>⟨[],[]⟩) (fun z=>.inl z) ?_ ?_
 ·refine ab.seq (ab.aa ?_)
  refine Oc oa (ae.ah ⟨[(0,_),(1,_),(5,I 0)],[]⟩ rfl (ab.block (ab.cy h2 (fun (i_1:Int)=>⟨[(0,.b (.one (.sl 1 (l0.map eI)))),(1,I n0),(5,I i_1)],[]⟩) [0,1,5] [] rfl ?_)))
  rintro i_1 o3 h4 hy5
  refine ab.seq (ab.seq (ab.aa ?_))
  refine Oc om (Oc om (Oc (ay fX rfl (List.length_map _)) (Oc (bf rfl rfl) ?_)))
  refine ae.ah ⟨[(0,_),(1,_),(5,_),(9,B (decide (i_1 < (l0.length:Int))))],[]⟩ rfl (ab.ite h4 rfl (fun _ h4=>?_) (fun _ h4=>?_))
  ·refine ab.skip (Fin.ag ⟨[(0,_),(1,_),(5,_)],[]⟩ rfl (Fin.then (ab.seq (ab.block (ab.seq (ab.aa ?_))))))
   refine Oc om (Oc om ?_)
   obtain ⟨x_2,e6,h4⟩:=aN h4
   refine Oc (aI ak (aC e6) (az (e:=eI) e6) rfl rfl) (Oc (aE au rfl rfl) (Oc om (Oc (cT rfl rfl) ?_)))
   refine ae.ah ⟨[(0,_),(1,_),(5,_),(17,B (decide (x_2 = n0)))],[]⟩ rfl (ab.ite h4 rfl (fun _ h4=>?_) (fun _ h4=>?_))
   ·refine ab.seq (ab.aa ?_)
    refine Oc oa (ae.ah ⟨[(4,B true)],[]⟩ rfl (ab.ret (Fin.bC (Fin.aD ?_))))
    obtain rfl:=hy5 _ (Option.some.inj h4).symm
    refine Fin.aD (Fin.bC (Fin.aD ?_))
    obtain rfl:=Option.some.inj h
    refine Fin.ag ⟨[(4,_)],[]⟩ rfl (Fin.aW [.one (.bool true)] (.inl rfl) rfl (.cons (.tmp rfl) .nil) ⟨rfl,rfl⟩)
   ·refine ab.skip (Fin.ai (Fin.ag ⟨[(0,_),(1,_),(5,_)],[]⟩ rfl (Fin.then (ab.aa ?_))))
    refine Oc om (Oc (aX rfl rfl) (Oc oa ?_))
    refine ae.nil ?_
    exact Fin.bz [0,1,5] [] (IntKind.i64.wrap (i_1 + 1)) (Option.some.inj h4) rfl
  ·refine ab.exit (Fin.aj ?_)
   obtain rfl:=hy5 _ (Option.some.inj h4).symm
   refine Fin.aj (Fin.aG ?_)
   exact Fin.join [] [] () rfl rfl
 ·rintro _ hv
  subst v1
  refine ab.seq (ab.aa ?_)
  refine Oc oa (ae.ah ⟨[(4,B false)],[]⟩ rfl (ab.ret ?_))
  obtain rfl:=Option.some.inj h
  refine Fin.ag ⟨[(4,_)],[]⟩ rfl (Fin.aW [.one (.bool false)] (.inl rfl) rfl (.cons (.tmp rfl) .nil) ⟨rfl,rfl⟩)
def dZ (F:Nat) (l0:List Int) (n0:Int):Option (List Int) :=
 (bZ F l0 n0).bind fun x_1=>if x_1 = true then (some l0) else (Option.bind (iter F (ku fun out_4 placed_5 i_6=>if (decide (i_6 < (l0.length:Int))) = true then (Option.bind (Option.bind ((bx (!placed_5) (av l0 i_6)).bind fun x_13=>if ((!placed_5) && (decide (n0 < x_13))) = true then ((dw out_4 [n0]).bind fun x_14=>some (x_14,true)) else (some (out_4,placed_5))) (bL fun out_11 placed_12=>(av l0 i_6).bind fun x_15=>(dw out_11 [x_15]).bind fun x_16=>some (x_16,placed_12))) (bL fun out_9 placed_10=>some (.inl (out_9,placed_10,IntKind.i64.wrap (i_6 + 1))))) else (some (.inr (out_4,placed_5)))) ([],false,0)) (bL fun out_2 placed_3=>Option.bind (if (!placed_3) = true then ((dw out_2 [n0]).bind fun x_18=>some x_18) else (some out_2)) (fun out_17=>some out_17)))
def dc (F:Nat) (a0:List Int) (b0:List Int):Option (List Int) :=
 Option.bind (iter F (bL fun out_2 i_3=>if (decide (i_3 < (b0.length:Int))) = true then ((av b0 i_3).bind fun x_5=>(dZ F out_2 x_5).bind fun x_6=>some (.inl (x_6,IntKind.i64.wrap (i_3 + 1)))) else (some (.inr out_2))) (a0,0)) (fun out_1=>some out_1)
def dN (F:Nat) (a0:List Int) (b0:List Int):Option Bool :=
 Option.bind (iter F (fun i_1=>if (decide (i_1 < (a0.length:Int))) = true then ((av a0 i_1).bind fun x_2=>(bZ F b0 x_2).bind fun x_3=>if x_3 = true then (some (.inr (.inr true))) else (some (.inl (IntKind.i64.wrap (i_1 + 1))))) else (some (.inr (.inl ())))) 0) (fH (fun _=>some false) (fun y=>some y))
def ey (F:Nat) (l0:List (List Int)) (x0:List Int):Option (List (List Int)) :=
 Option.bind (iter F (ku fun out_3 placed_4 i_5=>if (decide (i_5 < (l0.length:Int))) = true then (Option.bind (Option.bind ((bx (!placed_4) (av l0 i_5)).bind fun x_12=>(bx (!placed_4) (av x_12 0)).bind fun x_13=>(bx (!placed_4) (av x0 0)).bind fun x_14=>if ((!placed_4) && (decide (x_14 < x_13))) = true then ((dw out_3 [x0]).bind fun x_15=>some (x_15,true)) else (some (out_3,placed_4))) (bL fun out_10 placed_11=>(av l0 i_5).bind fun x_16=>(dw out_10 [x_16]).bind fun x_17=>some (x_17,placed_11))) (bL fun out_8 placed_9=>some (.inl (out_8,placed_9,IntKind.i64.wrap (i_5 + 1))))) else (some (.inr (out_3,placed_4)))) ([],false,0)) (bL fun out_1 placed_2=>Option.bind (if (!placed_2) = true then ((dw out_1 [x0]).bind fun x_19=>some x_19) else (some out_1)) (fun out_18=>some out_18))
def cF (F:Nat) (l0:List (List Int)):Option (List (List Int)) :=
 Option.bind (iter F (bL fun sets_2 i_3=>if (decide (i_3 < (l0.length:Int))) = true then (Option.bind ((av l0 i_3).bind fun x_6=>(dc F [] x_6).bind fun x_7=>if (decide ((x_7.length:Int) = 0)) = true then (some sets_2) else (Option.bind (iter F (ku fun x_10 rest_11 k_12=>if (decide (k_12 < (sets_2.length:Int))) = true then (Option.bind ((av sets_2 k_12).bind fun x_17=>(dN F x_17 x_10).bind fun x_18=>if x_18 = true then ((av sets_2 k_12).bind fun x_19=>(dc F x_10 x_19).bind fun x_20=>some (x_20,rest_11)) else ((av sets_2 k_12).bind fun x_21=>(dw rest_11 [x_21]).bind fun x_22=>some (x_10,x_22))) (bL fun x_15 rest_16=>some (.inl (x_15,rest_16,IntKind.i64.wrap (k_12 + 1))))) else (some (.inr (x_10,rest_11)))) (x_7,[],0)) (bL fun x_8 rest_9=>(dw rest_9 [x_8]).bind fun x_23=>some x_23))) (fun sets_5=>some (.inl (sets_5,IntKind.i64.wrap (i_3 + 1))))) else (some (.inr sets_2))) ([],0)) (fun sets_1=>Option.bind (iter F (bL fun out_25 i_26=>if (decide (i_26 < (sets_1.length:Int))) = true then ((av sets_1 i_26).bind fun x_28=>(ey F out_25 x_28).bind fun x_29=>some (.inl (x_29,IntKind.i64.wrap (i_26 + 1)))) else (some (.inr out_25))) ([],0)) (fun out_24=>some out_24))
def iQ (F:Nat) (fixed0:List Bool) (links0:List A2):Option (List (List Int)) :=
 Option.bind (iter F (bL fun l_2 i_3=>if (decide (i_3 < (fixed0.length:Int))) = true then (Option.bind ((av fixed0 i_3).bind fun x_6=>if (!x_6) = true then ((dw l_2 [[i_3]]).bind fun x_7=>some x_7) else (some l_2)) (fun l_5=>some (.inl (l_5,IntKind.i64.wrap (i_3 + 1))))) else (some (.inr l_2))) ([],0)) (fun l_1=>Option.bind (iter F (bL fun l_9 i_10=>if (decide (i_10 < (links0.length:Int))) = true then (Option.bind ((av links0 i_10).bind fun x_13=>(av fixed0 x_13.a0).bind fun x_14=>(bx (!x_14) (av links0 i_10)).bind fun x_15=>(bx (!x_14) (av fixed0 x_15.a1)).bind fun x_16=>if ((!x_14) && (!x_16)) = true then ((av links0 i_10).bind fun x_17=>(av links0 i_10).bind fun x_18=>(dw l_9 [[x_17.a0,x_18.a1]]).bind fun x_19=>some x_19) else (some l_9)) (fun l_12=>some (.inl (l_12,IntKind.i64.wrap (i_10 + 1))))) else (some (.inr l_9))) (l_1,0)) (fun l_8=>(cF F l_8).bind fun x_20=>some x_20))
def ct (F:Nat) (fixed0:List Bool) (links0:List A2):Option (List Int) :=
 Option.bind (iter F (bL fun out_2 i_3=>if (decide (i_3 < (fixed0.length:Int))) = true then (Option.bind ((dw out_2 [(-1)]).bind fun x_6=>(av fixed0 i_3).bind fun x_7=>if x_7 = true then ((av x_6 i_3).bind fun x_8=>some (x_6.set (i_3:Int).toNat 0)) else (some x_6)) (fun out_5=>some (.inl (out_5,IntKind.i64.wrap (i_3 + 1))))) else (some (.inr out_2))) ([],0)) (fun out_1=>Option.bind (iter F (bL fun out_10 k_11=>if (decide (k_11 ≤ (fixed0.length:Int))) = true then (Option.bind ((dw [] out_10).bind fun x_14=>Option.bind (iter F (bL fun next_16 i_17=>if (decide (i_17 < (links0.length:Int))) = true then (Option.bind ((av links0 i_17).bind fun x_20=>(av links0 i_17).bind fun x_21=>Option.bind ((av out_10 x_20.a0).bind fun x_23=>(bx (decide (x_23 = (IntKind.i64.wrap (k_11 - 1)))) (av out_10 x_21.a1)).bind fun x_24=>dq ((decide (x_23 = (IntKind.i64.wrap (k_11 - 1)))) && (decide (x_24 < 0))) fun x_25=>if x_25 = true then ((av next_16 x_21.a1).bind fun x_26=>some (next_16.set (x_21.a1:Int).toNat k_11)) else (some next_16)) (fun next_22=>(av out_10 x_21.a1).bind fun x_27=>(bx (decide (x_27 = (IntKind.i64.wrap (k_11 - 1)))) (av out_10 x_20.a0)).bind fun x_28=>dq ((decide (x_27 = (IntKind.i64.wrap (k_11 - 1)))) && (decide (x_28 < 0))) fun x_29=>if x_29 = true then ((av next_22 x_20.a0).bind fun x_30=>some (next_22.set (x_20.a0:Int).toNat k_11)) else (some next_22))) (fun next_19=>some (.inl (next_19,IntKind.i64.wrap (i_17 + 1))))) else (some (.inr next_16))) (x_14,0)) (fun next_15=>some next_15)) (fun out_13=>some (.inl (out_13,IntKind.i64.wrap (k_11 + 1))))) else (some (.inr out_10))) (out_1,1)) (fun out_9=>some out_9))
def fA (F:Nat) (fixed0:List Bool) (links0:List A2):Option nP :=
 (cE F fixed0 links0).bind fun x_1=>if (!x_1) = true then (some (⟨[],1⟩:nP)) else ((ct F fixed0 links0).bind fun x_2=>some (⟨x_2,0⟩:nP))
def fF (F:Nat) (fixed0:List Bool) (links0:List A2):Option nP :=
 (cE F fixed0 links0).bind fun x_1=>if (!x_1) = true then (some (⟨[],1⟩:nP)) else ((iQ F fixed0 links0).bind fun x_2=>(ct F fixed0 links0).bind fun x_3=>Option.bind (iter F (bL fun out_5 i_6=>if (decide (i_6 < (x_2.length:Int))) = true then (Option.bind (Option.bind (iter F (bL fun out_9 k_10=>dq (IntKind.i64.wrap ((fixed0.length:Int) + 1)) fun x_12=>if (decide (k_10 ≤ x_12)) = true then (Option.bind (Option.bind (if (decide ((fixed0.length:Int) < k_10)) = true then (some (-1)) else (some k_10)) (fun want_14=>Option.bind (iter F (bL fun out_15 n_16=>(av x_2 i_6).bind fun x_18=>if (decide (n_16 < (x_18.length:Int))) = true then (Option.bind ((av x_2 i_6).bind fun x_20=>(av x_20 n_16).bind fun x_21=>(av x_3 x_21).bind fun x_22=>if (decide (x_22 = want_14)) = true then ((av x_2 i_6).bind fun x_23=>(av x_23 n_16).bind fun x_24=>(dw out_15 [x_24]).bind fun x_25=>some x_25) else (some out_15)) (fun out_19=>some (.inl (out_19,IntKind.i64.wrap (n_16 + 1))))) else (some (.inr out_15))) (out_9,0)) (fun out_17=>some out_17))) (fun out_13=>some (.inl (out_13,IntKind.i64.wrap (k_10 + 1))))) else (some (.inr out_9))) (out_5,1)) (fun out_11=>some out_11)) (fun out_8=>some (.inl (out_8,IntKind.i64.wrap (i_6 + 1))))) else (some (.inr out_5))) ([],0)) (fun out_4=>some (⟨out_4,0⟩:nP)))
def bK (F:Nat) (fixed0:List Bool) (links0:List A2):Option Bool :=
 (du F fixed0 links0).bind fun x_1=>if (!x_1) = true then ((bE F).bind fun x_2=>some x_2) else (Option.bind (bF F fixed0 links0) (bL fun x_3 x_4=>Option.bind (cq F fixed0 links0) (bL fun x_5 x_6=>Option.bind (cI F fixed0 links0) (bL fun x_7 x_8=>dq (((decide (x_4 ≠ 0)) || (decide (x_6 ≠ 0))) || (decide ((x_3.length:Int) ≠ (fixed0.length:Int)))) fun x_9=>if x_9 = true then ((bE F).bind fun x_10=>some ((x_10 && (decide (x_4 = x_6))) && (decide (x_4 = 1)))) else (Option.bind (mk? (false:Bool) (fixed0.length:Int) (fixed0.length:Int)) (fun x_11=>Option.bind (iter F (bL fun below_13 i_14=>if (decide (i_14 < (links0.length:Int))) = true then ((av links0 i_14).bind fun x_16=>(av links0 i_14).bind fun x_17=>(av x_3 x_16.a0).bind fun x_18=>(av x_3 x_17.a1).bind fun x_19=>(bx (!((decide (x_18 < 0)) != (decide (x_19 < 0)))) (av x_3 x_16.a0)).bind fun x_20=>(bx (!((decide (x_18 < 0)) != (decide (x_19 < 0)))) (av x_3 x_17.a1)).bind fun x_21=>(bx (!(((decide (x_18 < 0)) != (decide (x_19 < 0))) || (decide (1 < (IntKind.i64.wrap (x_20 - x_21)))))) (av x_3 x_17.a1)).bind fun x_22=>(bx (!(((decide (x_18 < 0)) != (decide (x_19 < 0))) || (decide (1 < (IntKind.i64.wrap (x_20 - x_21)))))) (av x_3 x_16.a0)).bind fun x_23=>if ((((decide (x_18 < 0)) != (decide (x_19 < 0))) || (decide (1 < (IntKind.i64.wrap (x_20 - x_21))))) || (decide (1 < (IntKind.i64.wrap (x_22 - x_23))))) = true then (some (.inr (.inr false))) else ((av below_13 x_16.a0).bind fun x_24=>(bx (!x_24) (av x_3 x_17.a1)).bind fun x_25=>(bx (!x_24) (av x_3 x_16.a0)).bind fun x_26=>(av below_13 x_16.a0).bind fun x_27=>(av (below_13.set (x_16.a0:Int).toNat (x_24 || (decide (x_25 = (IntKind.i64.wrap (x_26 - 1)))))) x_17.a1).bind fun x_28=>(bx (!x_28) (av x_3 x_16.a0)).bind fun x_29=>(bx (!x_28) (av x_3 x_17.a1)).bind fun x_30=>(av (below_13.set (x_16.a0:Int).toNat (x_24 || (decide (x_25 = (IntKind.i64.wrap (x_26 - 1)))))) x_17.a1).bind fun x_31=>some (.inl ((below_13.set (x_16.a0:Int).toNat (x_24 || (decide (x_25 = (IntKind.i64.wrap (x_26 - 1)))))).set (x_17.a1:Int).toNat (x_28 || (decide (x_29 = (IntKind.i64.wrap (x_30 - 1))))),IntKind.i64.wrap (i_14 + 1))))) else (some (.inr (.inl below_13)))) (x_11,0)) (fH (fun below_12=>Option.bind (iter F (fun n_32=>if (decide (n_32 < (fixed0.length:Int))) = true then ((av fixed0 n_32).bind fun x_33=>(av x_3 n_32).bind fun x_34=>(bx (!(x_33 != (decide (x_34 = 0)))) (av x_3 n_32)).bind fun x_35=>(bx ((!(x_33 != (decide (x_34 = 0)))) && (decide (0 < x_35))) (av below_12 n_32)).bind fun x_36=>if ((x_33 != (decide (x_34 = 0))) || ((decide (0 < x_35)) && (!x_36))) = true then (some (.inr (.inr false))) else (some (.inl (IntKind.i64.wrap (n_32 + 1))))) else (some (.inr (.inl ())))) 0) (fH (fun _=>Option.bind (iter F (bL fun at_38 i_39=>if (decide (i_39 < (x_7.length:Int))) = true then (Option.bind (Option.bind (iter F (ku fun at_42 last_43 k_44=>(av x_7 i_39).bind fun x_46=>if (decide (k_44 < (x_46.length:Int))) = true then (Option.bind ((bx (!(decide ((x_5.length:Int) ≤ at_42))) (av x_7 i_39)).bind fun x_48=>(bx (!(decide ((x_5.length:Int) ≤ at_42))) (av x_5 at_42)).bind fun x_49=>(bx (!(decide ((x_5.length:Int) ≤ at_42))) (bZ F x_48 x_49)).bind fun x_50=>(bx ((!((decide ((x_5.length:Int) ≤ at_42)) || (!x_50))) && (decide (0 < k_44))) (av x_5 at_42)).bind fun x_51=>(bx ((!((decide ((x_5.length:Int) ≤ at_42)) || (!x_50))) && (decide (0 < k_44))) (av x_5 (IntKind.i64.wrap (at_42 - 1)))).bind fun x_52=>if (((decide ((x_5.length:Int) ≤ at_42)) || (!x_50)) || ((decide (0 < k_44)) && (decide (x_51 = x_52)))) = true then (some (.inr false)) else ((av x_5 at_42).bind fun x_53=>(av x_3 x_53).bind fun x_54=>Option.bind (if (decide (x_54 < 0)) = true then (dq (IntKind.i64.wrap ((fixed0.length:Int) + 1)) fun x_56=>some x_56) else (some x_54)) (fun now_55=>(bx ((!(decide (now_55 < last_43))) && ((decide (0 < k_44)) && (decide (now_55 = last_43)))) (av x_5 at_42)).bind fun x_57=>(bx ((!(decide (now_55 < last_43))) && ((decide (0 < k_44)) && (decide (now_55 = last_43)))) (av x_5 (IntKind.i64.wrap (at_42 - 1)))).bind fun x_58=>if ((decide (now_55 < last_43)) || (((decide (0 < k_44)) && (decide (now_55 = last_43))) && (decide (x_57 < x_58)))) = true then (some (.inr false)) else (some (.inl now_55))))) (fH (fun last_47=>some (.inl (IntKind.i64.wrap (at_42 + 1),last_47,IntKind.i64.wrap (k_44 + 1)))) (fun y=>some (.inr (.inr y))))) else (some (.inr (.inl at_42)))) (at_38,0,0)) (fH (fun at_45=>some (.inl at_45)) (fun y=>some (.inr y)))) (fH (fun at_41=>some (.inl (at_41,IntKind.i64.wrap (i_39 + 1)))) (fun y=>some (.inr (.inr y))))) else (some (.inr (.inl at_38)))) (0,0)) (fH (fun at_37=>(bE F).bind fun x_59=>some (x_59 && (decide (at_37 = (x_5.length:Int))))) (fun y=>some y))) (fun y=>some y))) (fun y=>some y))))))))
theorem eK {F:Nat} {fixed0:List Bool} {links0:List A2} {r:Bool} (h:bK F fixed0 links0 = some r):aA Try.prog [] 9 [] [.one (.sl 1 (fixed0.map eB)),.one (.sl 2 (links0.map (cR .i64)))] (Is [] (.b (.one (.bool r)))):=by
 unfold bK at h
 refine aA.intro 282 Try.func9 Try.ntmps9 rfl (by simp) fun E=>?_
 show ab _ E ⟨282,[],[],[]⟩ _ ⟨[(0,.b (.one (.sl 1 (fixed0.map eB)))),(1,.b (.one (.sl 2 (links0.map (cR .i64)))))],[]⟩ _
 refine ab.seq (ab.aa ?_)
 refine Oc oa (ae.ah ⟨[(0,.b (.one (.sl 1 (fixed0.map eB)))),(1,.b (.one (.sl 2 (links0.map (cR .i64)))))],[]⟩ rfl (ab.seq (ab.seq (ab.aa ?_))))
 refine Oc om (Oc om ?_)
 obtain ⟨x_1,e1,h⟩:=aN h
 refine Oc (a6 (jj e1) goes10 rfl rfl) (Oc (dM rfl) ?_)
 refine ae.ah ⟨[(0,_),(1,_),(24,B (!x_1))],[]⟩ rfl (ab.ite h rfl (fun _ h=>?_) (fun _ h=>?_))
 ·refine ab.seq (ab.aa ?_)
  obtain ⟨x_2,e2,h⟩:=aN h
  refine Oc (a6 (de e2) qc rfl rfl) (Oc oa ?_)
  refine ae.ah ⟨[(4,B x_2)],[]⟩ rfl (ab.ret (Fin.aD ?_))
  obtain rfl:=Option.some.inj h
  refine Fin.ag ⟨[(4,_)],[]⟩ rfl (Fin.aW [.one (.bool x_2)] (.inl rfl) rfl (.cons (.tmp rfl) .nil) ⟨rfl,rfl⟩)
 ·refine ab.skip (Fin.ag ⟨[(0,_),(1,_)],[]⟩ rfl (Fin.then (ab.seq (ab.aa ?_))))
  refine Oc om (Oc om ?_)
  obtain ⟨⟨x_3,x_4⟩,e3,h⟩:=aN h
  refine Oc (bm (fc 101 e3) qa rfl trivial rfl rfl) (Oc om (Oc (aF rfl rfl) ?_))
  refine ae.ag ⟨[(0,_),(1,_),(26,.ez [.row 101,.one (.i x_4)]),(30,.b (.row 101))],[(101,.row 3 1 (x_3.map eI))]⟩ rfl (Oc (aF rfl rfl) (Oc oa (Oc oa ?_)))
  refine ae.ah ⟨[(0,_),(1,_),(5,.b (.row 101)),(6,I x_4)],[(101,_)]⟩ rfl (ab.seq (ab.aa ?_))
  refine Oc om (Oc om ?_)
  obtain ⟨⟨x_5,x_6⟩,e4,h⟩:=aN h
  refine Oc (a6 (iv e4) sm rfl rfl) (Oc om (Oc (aF rfl rfl) ?_))
  refine ae.ag ⟨[(0,_),(1,_),(5,_),(6,_),(32,.ez [.one (.sl 1 (x_5.map eI)),.one (.i x_6)]),(36,.b (.one (.sl 1 (x_5.map eI))))],[(101,_)]⟩ rfl (Oc (aF rfl rfl) (Oc oa (Oc oa ?_)))
  refine ae.ah ⟨[(0,_),(1,_),(5,_),(6,_),(7,.b (.one (.sl 1 (x_5.map eI)))),(8,I x_6)],[(101,_)]⟩ rfl (ab.seq (ab.aa ?_))
  refine Oc om (Oc om ?_)
  obtain ⟨⟨x_7,x_8⟩,e5,h⟩:=aN h
  refine Oc (a6 (iN e5) qb rfl rfl) (Oc om (Oc (aF rfl rfl) ?_))
  refine ae.ag ⟨[(0,_),(1,_),(5,_),(6,_),(7,_),(8,_),(38,.ez [.one (.sl 1 (x_7.map (eL 1 eI))),.one (.i x_8)]),(42,.b (.one (.sl 1 (x_7.map (eL 1 eI)))))],[(101,_)]⟩ rfl (Oc (aF rfl rfl) (Oc oa (Oc oa ?_)))
  refine ae.ah ⟨[(0,_),(1,_),(5,_),(6,_),(7,_),(8,_),(9,.b (.one (.sl 1 (x_7.map (eL 1 eI)))))],[(101,_)]⟩ rfl (ab.seq (ab.seq (ab.aa ?_)))
  refine Oc om (Oc (iR rfl rfl) (Oc om ?_))
  refine mK (!(decide (x_4 ≠ 0))) [] (fun g6=>trivial) (fun g6=>om) (mK (!(decide (x_4 ≠ 0))) [47] (fun g7=>by exact ⟨g7,trivial⟩) (fun g7=>iR rfl rfl) (Oc (cm (fun e=>by first | (rw [e]; rfl) | (simp only at e; rw [e]; rfl)) rfl rfl rfl rfl) (Oc om ?_)))
  refine ae.ag ⟨[(0,_),(1,_),(5,_),(6,_),(7,_),(8,_),(9,_),(50,B ((decide (x_4 ≠ 0)) || (decide (x_6 ≠ 0))))],[(101,_)]⟩ rfl (mK (!((decide (x_4 ≠ 0)) || (decide (x_6 ≠ 0)))) [] (fun g8=>trivial) (fun g8=>om) (mK (!((decide (x_4 ≠ 0)) || (decide (x_6 ≠ 0)))) [51] (fun g9=>by exact ⟨g9,trivial⟩) (fun g9=>gE fX rfl rfl (List.length_map _)) (mK (!((decide (x_4 ≠ 0)) || (decide (x_6 ≠ 0)))) [] (fun g10=>by exact trivial) (fun g10=>om) (mK (!((decide (x_4 ≠ 0)) || (decide (x_6 ≠ 0)))) [53] (fun g11=>by exact ⟨g11,trivial⟩) (fun g11=>ay cY rfl (List.length_map _)) (mK (!((decide (x_4 ≠ 0)) || (decide (x_6 ≠ 0)))) [52,54] (fun g12=>by exact ⟨g12,g12,trivial⟩) (fun g12=>iR rfl rfl) ?_)))))
  refine ae.mw h rfl (cm (fun e=>by first | (rw [e]; rfl) | (simp only at e; rw [e]; rfl)) rfl rfl rfl rfl) (fun x_9 h=>?_)
  refine ae.ah ⟨[(0,_),(1,_),(5,_),(6,_),(7,_),(8,_),(9,_),(56,B x_9)],[(101,_)]⟩ rfl (ab.ite h rfl (fun _ h=>?_) (fun _ h=>?_))
  ·refine ab.seq (ab.aa ?_)
   obtain ⟨x_10,e13,h⟩:=aN h
   refine Oc (a6 (de e13) qc rfl rfl) (Oc om ?_)
   refine er x_10 [] (fun g14=>trivial) (fun g14=>om) (er x_10 [] (fun g15=>by exact trivial) (fun g15=>om) (er x_10 [59,60] (fun g16=>by exact ⟨g16,g16,trivial⟩) (fun g16=>cT rfl rfl) (ae.ag ⟨[(6,_),(58,B x_10),(61,.opt x_10 (.one (.bool (decide (x_4 = x_6)))))],[]⟩ rfl (Oc (aR (fun e=>e) rfl rfl rfl rfl) (Oc om ?_)))))
   refine er (x_10 && (decide (x_4 = x_6))) [] (fun g17=>trivial) (fun g17=>om) (er (x_10 && (decide (x_4 = x_6))) [64] (fun g18=>by exact ⟨g18,trivial⟩) (fun g18=>cT rfl rfl) (Oc (aR (fun e=>e) rfl rfl rfl rfl) (Oc oa ?_)))
   refine ae.ah ⟨[(4,B ((x_10 && (decide (x_4 = x_6))) && (decide (x_4 = 1))))],[]⟩ rfl (ab.ret (Fin.aD ?_))
   obtain rfl:=Option.some.inj h
   refine Fin.ag ⟨[(4,_)],[]⟩ rfl (Fin.aW [.one (.bool ((x_10 && (decide (x_4 = x_6))) && (decide (x_4 = 1))))] (.inl rfl) rfl (.cons (.tmp rfl) .nil) ⟨rfl,rfl⟩)
  ·refine ab.skip (Fin.ag ⟨[(0,_),(1,_),(5,_),(7,_),(9,_)],[(101,_)]⟩ rfl (Fin.then (ab.seq (ab.aa ?_))))
   refine Oc om (Oc (ay cY rfl (List.length_map _)) ?_)
   obtain ⟨x_11,e19,h⟩:=aN h
   refine Oc (bc (k:=102) (enc:=eB) fI e19 (by decide) (.cons .refl .nil) rfl rfl rfl) (Oc oa ?_)
   refine ae.ah ⟨[(0,_),(1,_),(5,_),(7,_),(9,_),(11,.b (.row 102))],[(101,_),(102,.row 4 1 (x_11.map eB))]⟩ rfl ?_
   obtain ⟨v20,h21,h⟩:=aN h
   refine ab.cA (v:=v20) (fun (below_12:List Bool)=>⟨[(0,.b (.one (.sl 1 (fixed0.map eB)))),(5,.b (.row 101)),(7,.b (.one (.sl 1 (x_5.map eI)))),(9,.b (.one (.sl 1 (x_7.map (eL 1 eI))))),(11,.b (.row 102))],[(101,.row 3 1 (x_3.map eI)),(102,.row 4 1 (below_12.map eB))]⟩) (fun z=>.inl z) ?_ ?_
   ·refine ab.seq (ab.aa ?_)
    refine Oc oa (ae.ah ⟨[(0,_),(1,_),(5,_),(7,_),(9,_),(11,_),(12,I 0)],[(101,_),(102,_)]⟩ rfl (ab.block (ab.cy h21 (bL fun (below_13:List Bool) (i_14:Int)=>⟨[(0,.b (.one (.sl 1 (fixed0.map eB)))),(1,.b (.one (.sl 2 (links0.map (cR .i64))))),(5,.b (.row 101)),(7,.b (.one (.sl 1 (x_5.map eI)))),(9,.b (.one (.sl 1 (x_7.map (eL 1 eI))))),(11,.b (.row 102)),(12,I i_14)],[(101,.row 3 1 (x_3.map eI)),(102,.row 4 1 (below_13.map eB))]⟩) [0,1,5,7,9,11,12] [101,102] rfl ?_)))
    rintro ⟨below_13,i_14⟩ o22 h23 hy24
    refine ab.seq (ab.seq (ab.aa ?_))
    refine Oc om (Oc om (Oc (ay oW rfl (List.length_map _)) (Oc (bf rfl rfl) ?_)))
    refine ae.ah ⟨[(0,_),(1,_),(5,_),(7,_),(9,_),(11,_),(12,_),(73,B (decide (i_14 < (links0.length:Int))))],[(101,_),(102,_)]⟩ rfl (ab.ite h23 rfl (fun _ h23=>?_) (fun _ h23=>?_))
    ·refine ab.skip (Fin.ag ⟨[(0,_),(1,_),(5,_),(7,_),(9,_),(11,_),(12,_)],[(101,_),(102,_)]⟩ rfl (Fin.then (ab.seq (ab.block (ab.seq (ab.aa ?_))))))
     refine Oc om (Oc om ?_)
     obtain ⟨x_16,e25,h23⟩:=aN h23
     refine Oc (aI gO (aC e25) (az (e:=(cR .i64)) e25) rfl rfl) (Oc (fj eQ (by decide) (by decide) rfl rfl rfl) (Oc (aE au rfl rfl) (Oc oa ?_)))
     refine ae.ah ⟨[(0,_),(1,_),(5,_),(7,_),(9,_),(11,_),(12,_),(13,I x_16.a0)],[(101,_),(102,_)]⟩ rfl (ab.seq (ab.aa ?_))
     refine Oc om (Oc om ?_)
     obtain ⟨x_17,e26,h23⟩:=aN h23
     refine Oc (aI gO (aC e26) (az (e:=(cR .i64)) e26) rfl rfl) (Oc (fj eQ (by decide) (by decide) rfl rfl rfl) (Oc (aE au rfl rfl) (Oc oa ?_)))
     refine ae.ah ⟨[(0,_),(1,_),(5,_),(7,_),(9,_),(11,_),(12,_),(13,_),(14,I x_17.a1)],[(101,_),(102,_)]⟩ rfl (ab.seq (ab.seq ?_))
     refine ab.ag ⟨[(0,_),(1,_),(5,_),(7,_),(9,_),(11,_),(12,_),(13,_),(14,_)],[(101,_),(102,_)]⟩ rfl ?_
     obtain ⟨x_18,e27,h23⟩:=aN h23
     obtain ⟨x_19,e28,h23⟩:=aN h23
     obtain ⟨x_20,e32,h23⟩:=aN h23
     obtain ⟨x_21,e37,h23⟩:=aN h23
     obtain ⟨x_22,e44,h23⟩:=aN h23
     obtain ⟨x_23,e49,h23⟩:=aN h23
     refine ab.c8 mixed 35 [.b (.row 101),I x_16.a0,.b (.a7 101 ((x_16.a0:Int).toNat * 1)),I x_18,B (decide (x_18 < 0)),.b (.row 101),I x_17.a1,.b (.a7 101 ((x_17.a1:Int).toNat * 1)),I x_19,B (decide (x_19 < 0)),B ((decide (x_18 < 0)) != (decide (x_19 < 0))),B ((decide (x_18 < 0)) != (decide (x_19 < 0))),.opt (!((decide (x_18 < 0)) != (decide (x_19 < 0)))) (.row 101),.opt (!((decide (x_18 < 0)) != (decide (x_19 < 0)))) (.one (.i x_16.a0)),.opt (!((decide (x_18 < 0)) != (decide (x_19 < 0)))) (.a7 101 ((x_16.a0:Int).toNat * 1)),.opt (!((decide (x_18 < 0)) != (decide (x_19 < 0)))) (.one (.i x_20)),.opt (!((decide (x_18 < 0)) != (decide (x_19 < 0)))) (.row 101),.opt (!((decide (x_18 < 0)) != (decide (x_19 < 0)))) (.one (.i x_17.a1)),.opt (!((decide (x_18 < 0)) != (decide (x_19 < 0)))) (.a7 101 ((x_17.a1:Int).toNat * 1)),.opt (!((decide (x_18 < 0)) != (decide (x_19 < 0)))) (.one (.i x_21)),.opt (!((decide (x_18 < 0)) != (decide (x_19 < 0)))) (.one (.i (IntKind.i64.wrap (x_20 - x_21)))),.opt (!((decide (x_18 < 0)) != (decide (x_19 < 0)))) (.one (.bool (decide (1 < (IntKind.i64.wrap (x_20 - x_21)))))),B (((decide (x_18 < 0)) != (decide (x_19 < 0))) || (decide (1 < (IntKind.i64.wrap (x_20 - x_21))))),B (((decide (x_18 < 0)) != (decide (x_19 < 0))) || (decide (1 < (IntKind.i64.wrap (x_20 - x_21))))),.opt (!(((decide (x_18 < 0)) != (decide (x_19 < 0))) || (decide (1 < (IntKind.i64.wrap (x_20 - x_21)))))) (.row 101),.opt (!(((decide (x_18 < 0)) != (decide (x_19 < 0))) || (decide (1 < (IntKind.i64.wrap (x_20 - x_21)))))) (.one (.i x_17.a1)),.opt (!(((decide (x_18 < 0)) != (decide (x_19 < 0))) || (decide (1 < (IntKind.i64.wrap (x_20 - x_21)))))) (.a7 101 ((x_17.a1:Int).toNat * 1)),.opt (!(((decide (x_18 < 0)) != (decide (x_19 < 0))) || (decide (1 < (IntKind.i64.wrap (x_20 - x_21)))))) (.one (.i x_22)),.opt (!(((decide (x_18 < 0)) != (decide (x_19 < 0))) || (decide (1 < (IntKind.i64.wrap (x_20 - x_21)))))) (.row 101),.opt (!(((decide (x_18 < 0)) != (decide (x_19 < 0))) || (decide (1 < (IntKind.i64.wrap (x_20 - x_21)))))) (.one (.i x_16.a0)),.opt (!(((decide (x_18 < 0)) != (decide (x_19 < 0))) || (decide (1 < (IntKind.i64.wrap (x_20 - x_21)))))) (.a7 101 ((x_16.a0:Int).toNat * 1)),.opt (!(((decide (x_18 < 0)) != (decide (x_19 < 0))) || (decide (1 < (IntKind.i64.wrap (x_20 - x_21)))))) (.one (.i x_23)),.opt (!(((decide (x_18 < 0)) != (decide (x_19 < 0))) || (decide (1 < (IntKind.i64.wrap (x_20 - x_21)))))) (.one (.i (IntKind.i64.wrap (x_22 - x_23)))),.opt (!(((decide (x_18 < 0)) != (decide (x_19 < 0))) || (decide (1 < (IntKind.i64.wrap (x_20 - x_21)))))) (.one (.bool (decide (1 < (IntKind.i64.wrap (x_22 - x_23)))))),B ((((decide (x_18 < 0)) != (decide (x_19 < 0))) || (decide (1 < (IntKind.i64.wrap (x_20 - x_21))))) || (decide (1 < (IntKind.i64.wrap (x_22 - x_23)))))] [0,1,5,7,9,11,12,13,14,120] [101,102] (s':=⟨[(0,_),(1,_),(5,_),(7,_),(9,_),(11,_),(12,_),(13,_),(14,_),(120,B ((((decide (x_18 < 0)) != (decide (x_19 < 0))) || (decide (1 < (IntKind.i64.wrap (x_20 - x_21))))) || (decide (1 < (IntKind.i64.wrap (x_22 - x_23))))))],[(101,_),(102,_)]⟩) rfl ⟨fun _=>.p om,fun _=>.p om,fun _=>.p (an ak (aC e27) (aL e27) rfl rfl rfl rfl),fun _=>.p (ax (i:=(x_16.a0:Int).toNat) (f:=0) au rfl rfl rfl (az (e:=eI) e27) rfl),fun _=>.p (bf rfl rfl),fun _=>.p om,fun _=>.p om,fun _=>.p (an ak (aC e28) (aL e28) rfl rfl rfl rfl),fun _=>.p (ax (i:=(x_17.a1:Int).toNat) (f:=0) au rfl rfl rfl (az (e:=eI) e28) rfl),fun _=>.p (bf rfl rfl),fun _=>.p (mA und4 rfl rfl),fun _=>.p om,fun _=>by exact .guard (!((decide (x_18 < 0)) != (decide (x_19 < 0)))) 1 [] (.plain rfl) (bU _) rfl rfl (fun g29=>trivial) (fun g29=>om),fun _=>by exact .guard (!((decide (x_18 < 0)) != (decide (x_19 < 0)))) 1 [] (.plain rfl) (bU _) rfl rfl (fun g30=>trivial) (fun g30=>om),fun _=>by exact .guard (!((decide (x_18 < 0)) != (decide (x_19 < 0)))) 3 [98,99] (.plain rfl) (bU _) rfl rfl (fun g31=>⟨g31,g31,trivial⟩) (fun g31=>an ak (aC (gc e32 g31)) (aL (gc e32 g31)) rfl rfl rfl rfl),fun _=>by exact .guard (!((decide (x_18 < 0)) != (decide (x_19 < 0)))) 2 [100] (.plain rfl) (bU _) rfl rfl (fun g33=>⟨g33,trivial⟩) (fun g33=>ax (i:=(x_16.a0:Int).toNat) (f:=0) au rfl rfl rfl (az (e:=eI) (gc e32 g33)) rfl),fun _=>by exact .guard (!((decide (x_18 < 0)) != (decide (x_19 < 0)))) 1 [] (.plain rfl) (bU _) rfl rfl (fun g34=>trivial) (fun g34=>om),fun _=>by exact .guard (!((decide (x_18 < 0)) != (decide (x_19 < 0)))) 1 [] (.plain rfl) (bU _) rfl rfl (fun g35=>trivial) (fun g35=>om),fun _=>by exact .guard (!((decide (x_18 < 0)) != (decide (x_19 < 0)))) 3 [102,103] (.plain rfl) (bU _) rfl rfl (fun g36=>⟨g36,g36,trivial⟩) (fun g36=>an ak (aC (gc e37 g36)) (aL (gc e37 g36)) rfl rfl rfl rfl),fun _=>by exact .guard (!((decide (x_18 < 0)) != (decide (x_19 < 0)))) 2 [104] (.plain rfl) (bU _) rfl rfl (fun g38=>⟨g38,trivial⟩) (fun g38=>ax (i:=(x_17.a1:Int).toNat) (f:=0) au rfl rfl rfl (az (e:=eI) (gc e37 g38)) rfl),fun _=>by exact .guard (!((decide (x_18 < 0)) != (decide (x_19 < 0)))) 3 [101,105] (.plain rfl) (bU _) rfl rfl (fun g39=>⟨g39,g39,trivial⟩) (fun g39=>cf rfl rfl),fun _=>by exact .guard (!((decide (x_18 < 0)) != (decide (x_19 < 0)))) 2 [106] (.plain rfl) (bU _) rfl rfl (fun g40=>⟨g40,trivial⟩) (fun g40=>eW rfl rfl),fun _=>.p (cm (fun e=>by first | (rw [e]; rfl) | (simp only at e; rw [e]; rfl)) rfl rfl rfl rfl),fun _=>.p om,fun _=>by exact .guard (!(((decide (x_18 < 0)) != (decide (x_19 < 0))) || (decide (1 < (IntKind.i64.wrap (x_20 - x_21)))))) 1 [] (.plain rfl) (bU _) rfl rfl (fun g41=>trivial) (fun g41=>om),fun _=>by exact .guard (!(((decide (x_18 < 0)) != (decide (x_19 < 0))) || (decide (1 < (IntKind.i64.wrap (x_20 - x_21)))))) 1 [] (.plain rfl) (bU _) rfl rfl (fun g42=>trivial) (fun g42=>om),fun _=>by exact .guard (!(((decide (x_18 < 0)) != (decide (x_19 < 0))) || (decide (1 < (IntKind.i64.wrap (x_20 - x_21)))))) 3 [110,111] (.plain rfl) (bU _) rfl rfl (fun g43=>⟨g43,g43,trivial⟩) (fun g43=>an ak (aC (gc e44 g43)) (aL (gc e44 g43)) rfl rfl rfl rfl),fun _=>by exact .guard (!(((decide (x_18 < 0)) != (decide (x_19 < 0))) || (decide (1 < (IntKind.i64.wrap (x_20 - x_21)))))) 2 [112] (.plain rfl) (bU _) rfl rfl (fun g45=>⟨g45,trivial⟩) (fun g45=>ax (i:=(x_17.a1:Int).toNat) (f:=0) au rfl rfl rfl (az (e:=eI) (gc e44 g45)) rfl),fun _=>by exact .guard (!(((decide (x_18 < 0)) != (decide (x_19 < 0))) || (decide (1 < (IntKind.i64.wrap (x_20 - x_21)))))) 1 [] (.plain rfl) (bU _) rfl rfl (fun g46=>trivial) (fun g46=>om),fun _=>by exact .guard (!(((decide (x_18 < 0)) != (decide (x_19 < 0))) || (decide (1 < (IntKind.i64.wrap (x_20 - x_21)))))) 1 [] (.plain rfl) (bU _) rfl rfl (fun g47=>trivial) (fun g47=>om),fun _=>by exact .guard (!(((decide (x_18 < 0)) != (decide (x_19 < 0))) || (decide (1 < (IntKind.i64.wrap (x_20 - x_21)))))) 3 [114,115] (.plain rfl) (bU _) rfl rfl (fun g48=>⟨g48,g48,trivial⟩) (fun g48=>an ak (aC (gc e49 g48)) (aL (gc e49 g48)) rfl rfl rfl rfl),fun _=>by exact .guard (!(((decide (x_18 < 0)) != (decide (x_19 < 0))) || (decide (1 < (IntKind.i64.wrap (x_20 - x_21)))))) 2 [116] (.plain rfl) (bU _) rfl rfl (fun g50=>⟨g50,trivial⟩) (fun g50=>ax (i:=(x_16.a0:Int).toNat) (f:=0) au rfl rfl rfl (az (e:=eI) (gc e49 g50)) rfl),fun _=>by exact .guard (!(((decide (x_18 < 0)) != (decide (x_19 < 0))) || (decide (1 < (IntKind.i64.wrap (x_20 - x_21)))))) 3 [113,117] (.plain rfl) (bU _) rfl rfl (fun g51=>⟨g51,g51,trivial⟩) (fun g51=>cf rfl rfl),fun _=>by exact .guard (!(((decide (x_18 < 0)) != (decide (x_19 < 0))) || (decide (1 < (IntKind.i64.wrap (x_20 - x_21)))))) 2 [118] (.plain rfl) (bU _) rfl rfl (fun g52=>⟨g52,trivial⟩) (fun g52=>eW rfl rfl),fun _=>.p (cm (fun e=>by first | (rw [e]; rfl) | (simp only at e; rw [e]; rfl)) rfl rfl rfl rfl),trivial⟩ rfl rfl ?_
     refine ab.ite h23 rfl (fun _ h23=>?_) (fun _ h23=>?_)
     ·refine ab.seq (ab.aa ?_)
      refine Oc oa (ae.ah ⟨[(4,B false)],[]⟩ rfl (ab.ret (Fin.aD (Fin.bC (Fin.aD ?_)))))
      obtain rfl:=hy24 _ (Option.some.inj h23).symm
      refine Fin.aD (Fin.bC (Fin.aD ?_))
      obtain rfl:=Option.some.inj h
      refine Fin.ag ⟨[(4,_)],[]⟩ rfl (Fin.aW [.one (.bool false)] (.inl rfl) rfl (.cons (.tmp rfl) .nil) ⟨rfl,rfl⟩)
     ·refine ab.skip (Fin.ag ⟨[(0,_),(1,_),(5,_),(7,_),(9,_),(11,_),(12,_),(13,_),(14,_)],[(101,_),(102,_)]⟩ rfl (Fin.then (ab.seq ?_)))
      refine ab.ag ⟨[(0,_),(1,_),(5,_),(7,_),(9,_),(11,_),(12,_),(13,_),(14,_)],[(101,_),(102,_)]⟩ rfl ?_
      obtain ⟨x_24,e53,h23⟩:=aN h23
      obtain ⟨x_25,e57,h23⟩:=aN h23
      obtain ⟨x_26,e62,h23⟩:=aN h23
      obtain ⟨x_27,e66,h23⟩:=aN h23
      refine ab.c8 mixed 19 [.b (.row 102),I x_16.a0,.b (.row 102),I x_16.a0,.b (.a7 102 ((x_16.a0:Int).toNat * 1)),B x_24,B x_24,.opt (!x_24) (.row 101),.opt (!x_24) (.one (.i x_17.a1)),.opt (!x_24) (.a7 101 ((x_17.a1:Int).toNat * 1)),.opt (!x_24) (.one (.i x_25)),.opt (!x_24) (.row 101),.opt (!x_24) (.one (.i x_16.a0)),.opt (!x_24) (.a7 101 ((x_16.a0:Int).toNat * 1)),.opt (!x_24) (.one (.i x_26)),.opt (!x_24) (.one (.i (IntKind.i64.wrap (x_26 - 1)))),.opt (!x_24) (.one (.bool (decide (x_25 = (IntKind.i64.wrap (x_26 - 1)))))),B (x_24 || (decide (x_25 = (IntKind.i64.wrap (x_26 - 1))))),.b (.a7 102 ((x_16.a0:Int).toNat * 1))] [0,1,5,7,9,11,12,13,14] [101,102] (s':=⟨[(0,_),(1,_),(5,_),(7,_),(9,_),(11,_),(12,_),(13,_),(14,_)],[(101,_),(102,.row 4 1 ((below_13.set (x_16.a0:Int).toNat (x_24 || (decide (x_25 = (IntKind.i64.wrap (x_26 - 1)))))).map eB))]⟩) rfl ⟨fun _=>.p om,fun _=>.p om,fun _=>.p om,fun _=>.p om,fun _=>.p (an fI (aC e53) (aL e53) rfl rfl rfl rfl),fun _=>.p (ax (i:=(x_16.a0:Int).toNat) (f:=0) gP rfl rfl rfl (az (e:=eB) e53) rfl),fun _=>.p om,fun _=>by exact .guard (!x_24) 1 [] (.plain rfl) (bU _) rfl rfl (fun g54=>trivial) (fun g54=>om),fun _=>by exact .guard (!x_24) 1 [] (.plain rfl) (bU _) rfl rfl (fun g55=>trivial) (fun g55=>om),fun _=>by exact .guard (!x_24) 3 [128,129] (.plain rfl) (bU _) rfl rfl (fun g56=>⟨g56,g56,trivial⟩) (fun g56=>an ak (aC (gc e57 g56)) (aL (gc e57 g56)) rfl rfl rfl rfl),fun _=>by exact .guard (!x_24) 2 [130] (.plain rfl) (bU _) rfl rfl (fun g58=>⟨g58,trivial⟩) (fun g58=>ax (i:=(x_17.a1:Int).toNat) (f:=0) au rfl rfl rfl (az (e:=eI) (gc e57 g58)) rfl),fun _=>by exact .guard (!x_24) 1 [] (.plain rfl) (bU _) rfl rfl (fun g59=>trivial) (fun g59=>om),fun _=>by exact .guard (!x_24) 1 [] (.plain rfl) (bU _) rfl rfl (fun g60=>trivial) (fun g60=>om),fun _=>by exact .guard (!x_24) 3 [132,133] (.plain rfl) (bU _) rfl rfl (fun g61=>⟨g61,g61,trivial⟩) (fun g61=>an ak (aC (gc e62 g61)) (aL (gc e62 g61)) rfl rfl rfl rfl),fun _=>by exact .guard (!x_24) 2 [134] (.plain rfl) (bU _) rfl rfl (fun g63=>⟨g63,trivial⟩) (fun g63=>ax (i:=(x_16.a0:Int).toNat) (f:=0) au rfl rfl rfl (az (e:=eI) (gc e62 g63)) rfl),fun _=>by exact .guard (!x_24) 2 [135] (.plain rfl) (bU _) rfl rfl (fun g64=>⟨g64,trivial⟩) (fun g64=>cf rfl rfl),fun _=>by exact .guard (!x_24) 3 [131,136] (.plain rfl) (bU _) rfl rfl (fun g65=>⟨g65,g65,trivial⟩) (fun g65=>cT rfl rfl),fun _=>.p (cm (fun e=>by first | (rw [e]; rfl) | (simp only at e; rw [e]; rfl)) rfl rfl rfl rfl),fun _=>.p (an fI (aC e66) (aL e66) rfl rfl rfl rfl),trivial⟩ ⟨_,by exact .p (bA (i:=(x_16.a0:Int).toNat) gP rfl rfl rfl rfl (eE e66) (map_set _ _ _ _)),rfl⟩ rfl ?_
      refine ab.ag ⟨[(0,_),(1,_),(5,_),(7,_),(9,_),(11,_),(12,_),(13,_),(14,_)],[(101,_),(102,_)]⟩ rfl ?_
      obtain ⟨x_28,e67,h23⟩:=aN h23
      obtain ⟨x_29,e71,h23⟩:=aN h23
      obtain ⟨x_30,e76,h23⟩:=aN h23
      obtain ⟨x_31,e80,h23⟩:=aN h23
      refine ab.jH mixed 19 [.b (.row 102),I x_17.a1,.b (.row 102),I x_17.a1,.b (.a7 102 ((x_17.a1:Int).toNat * 1)),B x_28,B x_28,.opt (!x_28) (.row 101),.opt (!x_28) (.one (.i x_16.a0)),.opt (!x_28) (.a7 101 ((x_16.a0:Int).toNat * 1)),.opt (!x_28) (.one (.i x_29)),.opt (!x_28) (.row 101),.opt (!x_28) (.one (.i x_17.a1)),.opt (!x_28) (.a7 101 ((x_17.a1:Int).toNat * 1)),.opt (!x_28) (.one (.i x_30)),.opt (!x_28) (.one (.i (IntKind.i64.wrap (x_30 - 1)))),.opt (!x_28) (.one (.bool (decide (x_29 = (IntKind.i64.wrap (x_30 - 1)))))),B (x_28 || (decide (x_29 = (IntKind.i64.wrap (x_30 - 1))))),.b (.a7 102 ((x_17.a1:Int).toNat * 1))] [0,1,5,7,9,11,12] [101,102] (s':=⟨[(0,_),(1,_),(5,_),(7,_),(9,_),(11,_),(12,_)],[(101,_),(102,.row 4 1 (((below_13.set (x_16.a0:Int).toNat (x_24 || (decide (x_25 = (IntKind.i64.wrap (x_26 - 1)))))).set (x_17.a1:Int).toNat (x_28 || (decide (x_29 = (IntKind.i64.wrap (x_30 - 1)))))).map eB))]⟩) rfl ⟨fun _=>.p om,fun _=>.p om,fun _=>.p om,fun _=>.p om,fun _=>.p (an fI (aC e67) (aL e67) rfl rfl rfl rfl),fun _=>.p (ax (i:=(x_17.a1:Int).toNat) (f:=0) gP rfl rfl rfl (az (e:=eB) e67) rfl),fun _=>.p om,fun _=>by exact .guard (!x_28) 1 [] (.plain rfl) (bU _) rfl rfl (fun g68=>trivial) (fun g68=>om),fun _=>by exact .guard (!x_28) 1 [] (.plain rfl) (bU _) rfl rfl (fun g69=>trivial) (fun g69=>om),fun _=>by exact .guard (!x_28) 3 [147,148] (.plain rfl) (bU _) rfl rfl (fun g70=>⟨g70,g70,trivial⟩) (fun g70=>an ak (aC (gc e71 g70)) (aL (gc e71 g70)) rfl rfl rfl rfl),fun _=>by exact .guard (!x_28) 2 [149] (.plain rfl) (bU _) rfl rfl (fun g72=>⟨g72,trivial⟩) (fun g72=>ax (i:=(x_16.a0:Int).toNat) (f:=0) au rfl rfl rfl (az (e:=eI) (gc e71 g72)) rfl),fun _=>by exact .guard (!x_28) 1 [] (.plain rfl) (bU _) rfl rfl (fun g73=>trivial) (fun g73=>om),fun _=>by exact .guard (!x_28) 1 [] (.plain rfl) (bU _) rfl rfl (fun g74=>trivial) (fun g74=>om),fun _=>by exact .guard (!x_28) 3 [151,152] (.plain rfl) (bU _) rfl rfl (fun g75=>⟨g75,g75,trivial⟩) (fun g75=>an ak (aC (gc e76 g75)) (aL (gc e76 g75)) rfl rfl rfl rfl),fun _=>by exact .guard (!x_28) 2 [153] (.plain rfl) (bU _) rfl rfl (fun g77=>⟨g77,trivial⟩) (fun g77=>ax (i:=(x_17.a1:Int).toNat) (f:=0) au rfl rfl rfl (az (e:=eI) (gc e76 g77)) rfl),fun _=>by exact .guard (!x_28) 2 [154] (.plain rfl) (bU _) rfl rfl (fun g78=>⟨g78,trivial⟩) (fun g78=>cf rfl rfl),fun _=>by exact .guard (!x_28) 3 [150,155] (.plain rfl) (bU _) rfl rfl (fun g79=>⟨g79,g79,trivial⟩) (fun g79=>cT rfl rfl),fun _=>.p (cm (fun e=>by first | (rw [e]; rfl) | (simp only at e; rw [e]; rfl)) rfl rfl rfl rfl),fun _=>.p (an fI (aC e80) (aL e80) rfl rfl rfl rfl),trivial⟩ ⟨_,by exact .p (bA (i:=(x_17.a1:Int).toNat) gP rfl rfl rfl rfl (eE e80) (map_set _ _ _ _)),rfl⟩ rfl ?_
      refine Fin.ai (Fin.ag ⟨[(0,_),(1,_),(5,_),(7,_),(9,_),(11,_),(12,_)],[(101,_),(102,_)]⟩ rfl (Fin.then (ab.aa ?_)))
      refine Oc om (Oc (aX rfl rfl) (Oc oa ?_))
      refine ae.nil ?_
      exact Fin.bz [0,1,5,7,9,11,12] [101,102] ((below_13.set (x_16.a0:Int).toNat (x_24 || (decide (x_25 = (IntKind.i64.wrap (x_26 - 1)))))).set (x_17.a1:Int).toNat (x_28 || (decide (x_29 = (IntKind.i64.wrap (x_30 - 1))))),IntKind.i64.wrap (i_14 + 1)) (Option.some.inj h23) rfl
    ·refine ab.exit (Fin.aj ?_)
     obtain rfl:=hy24 _ (Option.some.inj h23).symm
     refine Fin.aj (Fin.aG ?_)
     exact Fin.join [0,5,7,9,11] [101,102] below_13 rfl rfl
   ·rintro below_12 hv
    subst v20
    obtain ⟨v81,h82,h⟩:=aN h
    refine ab.cA (v:=v81) (fun (_:Unit)=>⟨[(0,.b (.one (.sl 1 (fixed0.map eB)))),(5,.b (.row 101)),(7,.b (.one (.sl 1 (x_5.map eI)))),(9,.b (.one (.sl 1 (x_7.map (eL 1 eI)))))],[(101,.row 3 1 (x_3.map eI))]⟩) (fun z=>.inl z) ?_ ?_
    ·refine ab.seq (ab.aa ?_)
     refine Oc oa (ae.ah ⟨[(0,_),(5,_),(7,_),(9,_),(11,_),(15,I 0)],[(101,_),(102,_)]⟩ rfl (ab.block (ab.cy h82 (fun (n_32:Int)=>⟨[(0,.b (.one (.sl 1 (fixed0.map eB)))),(5,.b (.row 101)),(7,.b (.one (.sl 1 (x_5.map eI)))),(9,.b (.one (.sl 1 (x_7.map (eL 1 eI))))),(11,.b (.row 102)),(15,I n_32)],[(101,.row 3 1 (x_3.map eI)),(102,.row 4 1 (below_12.map eB))]⟩) [0,5,7,9,11,15] [101,102] rfl ?_)))
     rintro n_32 o83 h84 hy85
     refine ab.seq (ab.seq (ab.aa ?_))
     refine Oc om (Oc om (Oc (ay cY rfl (List.length_map _)) (Oc (bf rfl rfl) ?_)))
     refine ae.ah ⟨[(0,_),(5,_),(7,_),(9,_),(11,_),(15,_),(162,B (decide (n_32 < (fixed0.length:Int))))],[(101,_),(102,_)]⟩ rfl (ab.ite h84 rfl (fun _ h84=>?_) (fun _ h84=>?_))
     ·refine ab.skip (Fin.ag ⟨[(0,_),(5,_),(7,_),(9,_),(11,_),(15,_)],[(101,_),(102,_)]⟩ rfl (Fin.then (ab.seq (ab.block (ab.seq ?_)))))
      refine ab.ag ⟨[(0,_),(5,_),(7,_),(9,_),(11,_),(15,_)],[(101,_),(102,_)]⟩ rfl ?_
      obtain ⟨x_33,e86,h84⟩:=aN h84
      obtain ⟨x_34,e87,h84⟩:=aN h84
      obtain ⟨x_35,e91,h84⟩:=aN h84
      obtain ⟨x_36,e98,h84⟩:=aN h84
      refine ab.c8 mixed 24 [.b (.one (.sl 1 (fixed0.map eB))),I n_32,.b (.cC [.bool x_33]),B x_33,.b (.row 101),I n_32,.b (.a7 101 ((n_32:Int).toNat * 1)),I x_34,B (decide (x_34 = 0)),B (x_33 != (decide (x_34 = 0))),B (x_33 != (decide (x_34 = 0))),.opt (!(x_33 != (decide (x_34 = 0)))) (.row 101),.opt (!(x_33 != (decide (x_34 = 0)))) (.one (.i n_32)),.opt (!(x_33 != (decide (x_34 = 0)))) (.a7 101 ((n_32:Int).toNat * 1)),.opt (!(x_33 != (decide (x_34 = 0)))) (.one (.i x_35)),.opt (!(x_33 != (decide (x_34 = 0)))) (.one (.bool (decide (0 < x_35)))),.opt (!(x_33 != (decide (x_34 = 0)))) (.one (.bool (decide (0 < x_35)))),.opt ((!(x_33 != (decide (x_34 = 0)))) && (decide (0 < x_35))) (.row 102),.opt ((!(x_33 != (decide (x_34 = 0)))) && (decide (0 < x_35))) (.one (.i n_32)),.opt ((!(x_33 != (decide (x_34 = 0)))) && (decide (0 < x_35))) (.a7 102 ((n_32:Int).toNat * 1)),.opt ((!(x_33 != (decide (x_34 = 0)))) && (decide (0 < x_35))) (.one (.bool x_36)),.opt ((!(x_33 != (decide (x_34 = 0)))) && (decide (0 < x_35))) (.one (.bool (!x_36))),.opt (!(x_33 != (decide (x_34 = 0)))) (.one (.bool ((decide (0 < x_35)) && (!x_36)))),B ((x_33 != (decide (x_34 = 0))) || ((decide (0 < x_35)) && (!x_36)))] [0,5,7,9,11,15,188] [101,102] (s':=⟨[(0,_),(5,_),(7,_),(9,_),(11,_),(15,_),(188,B ((x_33 != (decide (x_34 = 0))) || ((decide (0 < x_35)) && (!x_36))))],[(101,_),(102,_)]⟩) rfl ⟨fun _=>.p om,fun _=>.p om,fun _=>.p (aI fI (aC e86) (az (e:=eB) e86) rfl rfl),fun _=>.p (aE gP rfl rfl),fun _=>.p om,fun _=>.p om,fun _=>.p (an ak (aC e87) (aL e87) rfl rfl rfl rfl),fun _=>.p (ax (i:=(n_32:Int).toNat) (f:=0) au rfl rfl rfl (az (e:=eI) e87) rfl),fun _=>.p (cT rfl rfl),fun _=>.p (mA und4 rfl rfl),fun _=>.p om,fun _=>by exact .guard (!(x_33 != (decide (x_34 = 0)))) 1 [] (.plain rfl) (bU _) rfl rfl (fun g88=>trivial) (fun g88=>om),fun _=>by exact .guard (!(x_33 != (decide (x_34 = 0)))) 1 [] (.plain rfl) (bU _) rfl rfl (fun g89=>trivial) (fun g89=>om),fun _=>by exact .guard (!(x_33 != (decide (x_34 = 0)))) 3 [176,177] (.plain rfl) (bU _) rfl rfl (fun g90=>⟨g90,g90,trivial⟩) (fun g90=>an ak (aC (gc e91 g90)) (aL (gc e91 g90)) rfl rfl rfl rfl),fun _=>by exact .guard (!(x_33 != (decide (x_34 = 0)))) 2 [178] (.plain rfl) (bU _) rfl rfl (fun g92=>⟨g92,trivial⟩) (fun g92=>ax (i:=(n_32:Int).toNat) (f:=0) au rfl rfl rfl (az (e:=eI) (gc e91 g92)) rfl),fun _=>by exact .guard (!(x_33 != (decide (x_34 = 0)))) 2 [179] (.plain rfl) (bU _) rfl rfl (fun g93=>⟨g93,trivial⟩) (fun g93=>eW rfl rfl),fun _=>by exact .guard (!(x_33 != (decide (x_34 = 0)))) 3 [180] (.plain rfl) (bU _) rfl rfl (fun g94=>⟨g94,trivial⟩) (fun g94=>om),fun _=>by exact .guard ((!(x_33 != (decide (x_34 = 0)))) && (decide (0 < x_35))) 1 [] (.under rfl) (cZ _ _) rfl rfl (fun g95=>trivial) (fun g95=>om),fun _=>by exact .guard ((!(x_33 != (decide (x_34 = 0)))) && (decide (0 < x_35))) 1 [] (.under rfl) (cZ _ _) rfl rfl (fun g96=>trivial) (fun g96=>om),fun _=>by exact .guard ((!(x_33 != (decide (x_34 = 0)))) && (decide (0 < x_35))) 3 [182,183] (.under rfl) (cZ _ _) rfl rfl (fun g97=>⟨g97,g97,trivial⟩) (fun g97=>an fI (aC (gc e98 g97)) (aL (gc e98 g97)) rfl rfl rfl rfl),fun _=>by exact .guard ((!(x_33 != (decide (x_34 = 0)))) && (decide (0 < x_35))) 2 [184] (.under rfl) (cZ _ _) rfl rfl (fun g99=>⟨g99,trivial⟩) (fun g99=>ax (i:=(n_32:Int).toNat) (f:=0) gP rfl rfl rfl (az (e:=eB) (gc e98 g99)) rfl),fun _=>by exact .guard ((!(x_33 != (decide (x_34 = 0)))) && (decide (0 < x_35))) 2 [185] (.under rfl) (cZ _ _) rfl rfl (fun g100=>⟨g100,trivial⟩) (fun g100=>dM rfl),fun _=>by exact .guard (!(x_33 != (decide (x_34 = 0)))) 3 [181] (.plain rfl) (bU _) rfl rfl (fun g101=>⟨g101,trivial⟩) (fun g101=>aR (fun e=>by rw [g101,e]; rfl) rfl rfl rfl rfl),fun _=>.p (cm (fun e=>by first | (rw [e]; rfl) | (simp only at e; rw [e]; rfl)) rfl rfl rfl rfl),trivial⟩ rfl rfl ?_
      refine ab.ite h84 rfl (fun _ h84=>?_) (fun _ h84=>?_)
      ·refine ab.seq (ab.aa ?_)
       refine Oc oa (ae.ah ⟨[(4,B false)],[]⟩ rfl (ab.ret (Fin.bC (Fin.aD ?_))))
       obtain rfl:=hy85 _ (Option.some.inj h84).symm
       refine Fin.aD (Fin.bC (Fin.aD ?_))
       obtain rfl:=Option.some.inj h
       refine Fin.ag ⟨[(4,_)],[]⟩ rfl (Fin.aW [.one (.bool false)] (.inl rfl) rfl (.cons (.tmp rfl) .nil) ⟨rfl,rfl⟩)
      ·refine ab.skip (Fin.ai (Fin.ag ⟨[(0,_),(5,_),(7,_),(9,_),(11,_),(15,_)],[(101,_),(102,_)]⟩ rfl (Fin.then (ab.aa ?_))))
       refine Oc om (Oc (aX rfl rfl) (Oc oa ?_))
       refine ae.nil ?_
       exact Fin.bz [0,5,7,9,11,15] [101,102] (IntKind.i64.wrap (n_32 + 1)) (Option.some.inj h84) rfl
     ·refine ab.exit (Fin.aj ?_)
      obtain rfl:=hy85 _ (Option.some.inj h84).symm
      refine Fin.aj (Fin.aG ?_)
      exact Fin.join [0,5,7,9] [101] () rfl rfl
    ·rintro _ hv
     subst v81
     refine ab.seq (ab.aa ?_)
     refine Oc oa (ae.ah ⟨[(0,_),(5,_),(7,_),(9,_),(16,I 0)],[(101,_)]⟩ rfl ?_)
     obtain ⟨v102,h103,h⟩:=aN h
     refine ab.cA (v:=v102) (fun (at_37:Int)=>⟨[(7,.b (.one (.sl 1 (x_5.map eI)))),(16,I at_37)],[]⟩) (fun z=>.inl z) ?_ ?_
     ·refine ab.seq (ab.aa ?_)
      refine Oc oa (ae.ah ⟨[(0,_),(5,_),(7,_),(9,_),(16,_),(17,I 0)],[(101,_)]⟩ rfl (ab.block (ab.cy h103 (bL fun (at_38:Int) (i_39:Int)=>⟨[(0,.b (.one (.sl 1 (fixed0.map eB)))),(5,.b (.row 101)),(7,.b (.one (.sl 1 (x_5.map eI)))),(9,.b (.one (.sl 1 (x_7.map (eL 1 eI))))),(16,I at_38),(17,I i_39)],[(101,.row 3 1 (x_3.map eI))]⟩) [0,5,7,9,16,17] [101] rfl ?_)))
      rintro ⟨at_38,i_39⟩ o104 h105 hy106
      refine ab.seq (ab.seq (ab.aa ?_))
      refine Oc om (Oc om (Oc (ay mo rfl (List.length_map _)) (Oc (bf rfl rfl) ?_)))
      refine ae.ah ⟨[(0,_),(5,_),(7,_),(9,_),(16,_),(17,_),(192,B (decide (i_39 < (x_7.length:Int))))],[(101,_)]⟩ rfl (ab.ite h105 rfl (fun _ h105=>?_) (fun _ h105=>?_))
      ·refine ab.skip (Fin.ag ⟨[(0,_),(5,_),(7,_),(9,_),(16,_),(17,_)],[(101,_)]⟩ rfl (Fin.then ?_))
       obtain ⟨v107,h108,h105⟩:=aN h105
       refine ab.cA (v:=v107) (fun (at_41:Int)=>⟨[(0,.b (.one (.sl 1 (fixed0.map eB)))),(5,.b (.row 101)),(7,.b (.one (.sl 1 (x_5.map eI)))),(9,.b (.one (.sl 1 (x_7.map (eL 1 eI))))),(16,I at_41),(17,I i_39)],[(101,.row 3 1 (x_3.map eI))]⟩) (fun z=>.inl z) ?_ ?_
       ·refine ab.block (ab.seq (ab.aa ?_))
        refine Oc oa (ae.ah ⟨[(0,_),(5,_),(7,_),(9,_),(16,_),(17,_),(18,I 0)],[(101,_)]⟩ rfl (ab.seq (ab.aa ?_)))
        refine Oc oa (ae.ah ⟨[(0,_),(5,_),(7,_),(9,_),(16,_),(17,_),(18,_),(19,I 0)],[(101,_)]⟩ rfl (ab.block ?_))
        obtain ⟨v109,h110,h108⟩:=aN h108
        refine ab.cy h110 (ku fun (at_42:Int) (last_43:Int) (k_44:Int)=>⟨[(0,.b (.one (.sl 1 (fixed0.map eB)))),(5,.b (.row 101)),(7,.b (.one (.sl 1 (x_5.map eI)))),(9,.b (.one (.sl 1 (x_7.map (eL 1 eI))))),(16,I at_42),(17,I i_39),(18,I last_43),(19,I k_44)],[(101,.row 3 1 (x_3.map eI))]⟩) [0,5,7,9,16,17,18,19] [101] rfl ?_
        rintro ⟨at_42,last_43,k_44⟩ o111 h112 hy113
        refine ab.seq (ab.seq (ab.aa ?_))
        refine Oc om (Oc om (Oc om ?_))
        obtain ⟨x_46,e114,h112⟩:=aN h112
        refine Oc (aI dR (aC e114) (az (e:=(eL 1 eI)) e114) rfl rfl) (Oc (aE aZ rfl rfl) (Oc (ay fX rfl (List.length_map _)) (Oc (bf rfl rfl) ?_)))
        refine ae.ah ⟨[(0,_),(5,_),(7,_),(9,_),(16,_),(17,_),(18,_),(19,_),(201,B (decide (k_44 < (x_46.length:Int))))],[(101,_)]⟩ rfl (ab.ite h112 rfl (fun _ h112=>?_) (fun _ h112=>?_))
        ·refine ab.skip (Fin.ag ⟨[(0,_),(5,_),(7,_),(9,_),(16,_),(17,_),(18,_),(19,_)],[(101,_)]⟩ rfl (Fin.then ?_))
         obtain ⟨v115,h116,h112⟩:=aN h112
         refine ab.cA (v:=v115) (fun (last_47:Int)=>⟨[(0,.b (.one (.sl 1 (fixed0.map eB)))),(5,.b (.row 101)),(7,.b (.one (.sl 1 (x_5.map eI)))),(9,.b (.one (.sl 1 (x_7.map (eL 1 eI))))),(16,I (IntKind.i64.wrap (at_42 + 1))),(17,I i_39),(18,I last_47),(19,I k_44)],[(101,.row 3 1 (x_3.map eI))]⟩) (fun z=>.inl z) ?_ ?_
         ·refine ab.block (ab.seq (ab.seq ?_))
          refine ab.ag ⟨[(0,_),(5,_),(7,_),(9,_),(16,_),(17,_),(18,_),(19,_)],[(101,_)]⟩ rfl ?_
          obtain ⟨x_48,e120,h116⟩:=aN h116
          obtain ⟨x_49,e125,h116⟩:=aN h116
          obtain ⟨x_50,e128,h116⟩:=aN h116
          obtain ⟨x_51,e136,h116⟩:=aN h116
          obtain ⟨x_52,e142,h116⟩:=aN h116
          refine ab.c8 mixed 32 [I at_42,.b (.one (.sl 1 (x_5.map eI))),I (x_5.length:Int),B (decide ((x_5.length:Int) ≤ at_42)),B (decide ((x_5.length:Int) ≤ at_42)),.opt (!(decide ((x_5.length:Int) ≤ at_42))) (.one (.sl 1 (x_7.map (eL 1 eI)))),.opt (!(decide ((x_5.length:Int) ≤ at_42))) (.one (.i i_39)),.opt (!(decide ((x_5.length:Int) ≤ at_42))) (.cC [.sl 1 (x_48.map eI)]),.opt (!(decide ((x_5.length:Int) ≤ at_42))) (.one (.sl 1 (x_48.map eI))),.opt (!(decide ((x_5.length:Int) ≤ at_42))) (.one (.sl 1 (x_5.map eI))),.opt (!(decide ((x_5.length:Int) ≤ at_42))) (.one (.i at_42)),.opt (!(decide ((x_5.length:Int) ≤ at_42))) (.cC [.i x_49]),.opt (!(decide ((x_5.length:Int) ≤ at_42))) (.one (.i x_49)),.opt (!(decide ((x_5.length:Int) ≤ at_42))) (.one (.bool x_50)),.opt (!(decide ((x_5.length:Int) ≤ at_42))) (.one (.bool (!x_50))),B ((decide ((x_5.length:Int) ≤ at_42)) || (!x_50)),B ((decide ((x_5.length:Int) ≤ at_42)) || (!x_50)),.opt (!((decide ((x_5.length:Int) ≤ at_42)) || (!x_50))) (.one (.i k_44)),.opt (!((decide ((x_5.length:Int) ≤ at_42)) || (!x_50))) (.one (.bool (decide (0 < k_44)))),.opt (!((decide ((x_5.length:Int) ≤ at_42)) || (!x_50))) (.one (.bool (decide (0 < k_44)))),.opt ((!((decide ((x_5.length:Int) ≤ at_42)) || (!x_50))) && (decide (0 < k_44))) (.one (.sl 1 (x_5.map eI))),.opt ((!((decide ((x_5.length:Int) ≤ at_42)) || (!x_50))) && (decide (0 < k_44))) (.one (.i at_42)),.opt ((!((decide ((x_5.length:Int) ≤ at_42)) || (!x_50))) && (decide (0 < k_44))) (.cC [.i x_51]),.opt ((!((decide ((x_5.length:Int) ≤ at_42)) || (!x_50))) && (decide (0 < k_44))) (.one (.i x_51)),.opt ((!((decide ((x_5.length:Int) ≤ at_42)) || (!x_50))) && (decide (0 < k_44))) (.one (.sl 1 (x_5.map eI))),.opt ((!((decide ((x_5.length:Int) ≤ at_42)) || (!x_50))) && (decide (0 < k_44))) (.one (.i at_42)),.opt ((!((decide ((x_5.length:Int) ≤ at_42)) || (!x_50))) && (decide (0 < k_44))) (.one (.i (IntKind.i64.wrap (at_42 - 1)))),.opt ((!((decide ((x_5.length:Int) ≤ at_42)) || (!x_50))) && (decide (0 < k_44))) (.cC [.i x_52]),.opt ((!((decide ((x_5.length:Int) ≤ at_42)) || (!x_50))) && (decide (0 < k_44))) (.one (.i x_52)),.opt ((!((decide ((x_5.length:Int) ≤ at_42)) || (!x_50))) && (decide (0 < k_44))) (.one (.bool (decide (x_51 = x_52)))),.opt (!((decide ((x_5.length:Int) ≤ at_42)) || (!x_50))) (.one (.bool ((decide (0 < k_44)) && (decide (x_51 = x_52))))),B (((decide ((x_5.length:Int) ≤ at_42)) || (!x_50)) || ((decide (0 < k_44)) && (decide (x_51 = x_52))))] [0,5,7,9,16,17,18,19,235] [101] (s':=⟨[(0,_),(5,_),(7,_),(9,_),(16,_),(17,_),(18,_),(19,_),(235,B (((decide ((x_5.length:Int) ≤ at_42)) || (!x_50)) || ((decide (0 < k_44)) && (decide (x_51 = x_52)))))],[(101,_)]⟩) rfl ⟨fun _=>.p om,fun _=>.p om,fun _=>.p (ay fX rfl (List.length_map _)),fun _=>.p (jA rfl rfl),fun _=>.p om,fun _=>by exact .guard (!(decide ((x_5.length:Int) ≤ at_42))) 1 [] (.plain rfl) (bU _) rfl rfl (fun g117=>trivial) (fun g117=>om),fun _=>by exact .guard (!(decide ((x_5.length:Int) ≤ at_42))) 1 [] (.plain rfl) (bU _) rfl rfl (fun g118=>trivial) (fun g118=>om),fun _=>by exact .guard (!(decide ((x_5.length:Int) ≤ at_42))) 3 [209,210] (.plain rfl) (bU _) rfl rfl (fun g119=>⟨g119,g119,trivial⟩) (fun g119=>aI dR (aC (gc e120 g119)) (az (e:=(eL 1 eI)) (gc e120 g119)) rfl rfl),fun _=>by exact .guard (!(decide ((x_5.length:Int) ≤ at_42))) 2 [211] (.plain rfl) (bU _) rfl rfl (fun g121=>⟨g121,trivial⟩) (fun g121=>aE aZ rfl rfl),fun _=>by exact .guard (!(decide ((x_5.length:Int) ≤ at_42))) 1 [] (.plain rfl) (bU _) rfl rfl (fun g122=>trivial) (fun g122=>om),fun _=>by exact .guard (!(decide ((x_5.length:Int) ≤ at_42))) 1 [] (.plain rfl) (bU _) rfl rfl (fun g123=>trivial) (fun g123=>om),fun _=>by exact .guard (!(decide ((x_5.length:Int) ≤ at_42))) 3 [213,214] (.plain rfl) (bU _) rfl rfl (fun g124=>⟨g124,g124,trivial⟩) (fun g124=>aI ak (aC (gc e125 g124)) (az (e:=eI) (gc e125 g124)) rfl rfl),fun _=>by exact .guard (!(decide ((x_5.length:Int) ≤ at_42))) 2 [215] (.plain rfl) (bU _) rfl rfl (fun g126=>⟨g126,trivial⟩) (fun g126=>aE au rfl rfl),fun _=>by exact .guard (!(decide ((x_5.length:Int) ≤ at_42))) 4 [212,216] (.plain rfl) (bU _) rfl rfl (fun g127=>⟨g127,g127,trivial⟩) (fun g127=>a6 (ji (gc e128 g127)) goes28 rfl rfl),fun _=>by exact .guard (!(decide ((x_5.length:Int) ≤ at_42))) 2 [217] (.plain rfl) (bU _) rfl rfl (fun g129=>⟨g129,trivial⟩) (fun g129=>dM rfl),fun _=>.p (cm (fun e=>by first | (rw [e]; rfl) | (simp only at e; rw [e]; rfl)) rfl rfl rfl rfl),fun _=>.p om,fun _=>by exact .guard (!((decide ((x_5.length:Int) ≤ at_42)) || (!x_50))) 1 [] (.plain rfl) (bU _) rfl rfl (fun g130=>trivial) (fun g130=>om),fun _=>by exact .guard (!((decide ((x_5.length:Int) ≤ at_42)) || (!x_50))) 2 [221] (.plain rfl) (bU _) rfl rfl (fun g131=>⟨g131,trivial⟩) (fun g131=>eW rfl rfl),fun _=>by exact .guard (!((decide ((x_5.length:Int) ≤ at_42)) || (!x_50))) 3 [222] (.plain rfl) (bU _) rfl rfl (fun g132=>⟨g132,trivial⟩) (fun g132=>om),fun _=>by exact .guard ((!((decide ((x_5.length:Int) ≤ at_42)) || (!x_50))) && (decide (0 < k_44))) 1 [] (.under rfl) (cZ _ _) rfl rfl (fun g133=>trivial) (fun g133=>om),fun _=>by exact .guard ((!((decide ((x_5.length:Int) ≤ at_42)) || (!x_50))) && (decide (0 < k_44))) 1 [] (.under rfl) (cZ _ _) rfl rfl (fun g134=>trivial) (fun g134=>om),fun _=>by exact .guard ((!((decide ((x_5.length:Int) ≤ at_42)) || (!x_50))) && (decide (0 < k_44))) 3 [224,225] (.under rfl) (cZ _ _) rfl rfl (fun g135=>⟨g135,g135,trivial⟩) (fun g135=>aI ak (aC (gc e136 g135)) (az (e:=eI) (gc e136 g135)) rfl rfl),fun _=>by exact .guard ((!((decide ((x_5.length:Int) ≤ at_42)) || (!x_50))) && (decide (0 < k_44))) 2 [226] (.under rfl) (cZ _ _) rfl rfl (fun g137=>⟨g137,trivial⟩) (fun g137=>aE au rfl rfl),fun _=>by exact .guard ((!((decide ((x_5.length:Int) ≤ at_42)) || (!x_50))) && (decide (0 < k_44))) 1 [] (.under rfl) (cZ _ _) rfl rfl (fun g138=>trivial) (fun g138=>om),fun _=>by exact .guard ((!((decide ((x_5.length:Int) ≤ at_42)) || (!x_50))) && (decide (0 < k_44))) 1 [] (.under rfl) (cZ _ _) rfl rfl (fun g139=>trivial) (fun g139=>om),fun _=>by exact .guard ((!((decide ((x_5.length:Int) ≤ at_42)) || (!x_50))) && (decide (0 < k_44))) 2 [229] (.under rfl) (cZ _ _) rfl rfl (fun g140=>⟨g140,trivial⟩) (fun g140=>cf rfl rfl),fun _=>by exact .guard ((!((decide ((x_5.length:Int) ≤ at_42)) || (!x_50))) && (decide (0 < k_44))) 3 [228,230] (.under rfl) (cZ _ _) rfl rfl (fun g141=>⟨g141,g141,trivial⟩) (fun g141=>aI ak (aC (gc e142 g141)) (az (e:=eI) (gc e142 g141)) rfl rfl),fun _=>by exact .guard ((!((decide ((x_5.length:Int) ≤ at_42)) || (!x_50))) && (decide (0 < k_44))) 2 [231] (.under rfl) (cZ _ _) rfl rfl (fun g143=>⟨g143,trivial⟩) (fun g143=>aE au rfl rfl),fun _=>by exact .guard ((!((decide ((x_5.length:Int) ≤ at_42)) || (!x_50))) && (decide (0 < k_44))) 3 [227,232] (.under rfl) (cZ _ _) rfl rfl (fun g144=>⟨g144,g144,trivial⟩) (fun g144=>cT rfl rfl),fun _=>by exact .guard (!((decide ((x_5.length:Int) ≤ at_42)) || (!x_50))) 3 [223] (.plain rfl) (bU _) rfl rfl (fun g145=>⟨g145,trivial⟩) (fun g145=>aR (fun e=>by rw [g145,e]; rfl) rfl rfl rfl rfl),fun _=>.p (cm (fun e=>by first | (rw [e]; rfl) | (simp only at e; rw [e]; rfl)) rfl rfl rfl rfl),trivial⟩ rfl rfl ?_
          refine ab.ite h116 rfl (fun _ h116=>?_) (fun _ h116=>?_)
          ·refine ab.seq (ab.aa ?_)
           refine Oc oa (ae.ah ⟨[(4,B false)],[]⟩ rfl (ab.ret (Fin.aD (Fin.bC ?_))))
           obtain rfl:=Option.some.inj h116
           refine Fin.aD ?_
           obtain rfl:=hy113 _ (Option.some.inj h112).symm
           refine Fin.aD (Fin.bC (Fin.bC ?_))
           obtain rfl:=Option.some.inj h108
           refine Fin.aD ?_
           obtain rfl:=hy106 _ (Option.some.inj h105).symm
           refine Fin.aD (Fin.bC (Fin.aD ?_))
           obtain rfl:=Option.some.inj h
           refine Fin.ag ⟨[(4,_)],[]⟩ rfl (Fin.aW [.one (.bool false)] (.inl rfl) rfl (.cons (.tmp rfl) .nil) ⟨rfl,rfl⟩)
          ·refine ab.skip (Fin.ag ⟨[(0,_),(5,_),(7,_),(9,_),(16,_),(17,_),(18,_),(19,_)],[(101,_)]⟩ rfl (Fin.then (ab.seq (ab.aa ?_))))
           refine Oc om (Oc om (Oc om ?_))
           obtain ⟨x_53,e146,h116⟩:=aN h116
           refine Oc (aI ak (aC e146) (az (e:=eI) e146) rfl rfl) (Oc (aE au rfl rfl) ?_)
           obtain ⟨x_54,e147,h116⟩:=aN h116
           refine Oc (an ak (aC e147) (aL e147) rfl rfl rfl rfl) (Oc (ax (i:=(x_53:Int).toNat) (f:=0) au rfl rfl rfl (az (e:=eI) e147) rfl) (Oc oa ?_))
           refine ae.ah ⟨[(0,_),(5,_),(7,_),(9,_),(16,_),(17,_),(18,_),(19,_),(20,I x_54)],[(101,_)]⟩ rfl ?_
           obtain ⟨v148,h149,h116⟩:=aN h116
           refine ab.cA (v:=v148) (fun (now_55:Int)=>⟨[(0,.b (.one (.sl 1 (fixed0.map eB)))),(5,.b (.row 101)),(7,.b (.one (.sl 1 (x_5.map eI)))),(9,.b (.one (.sl 1 (x_7.map (eL 1 eI))))),(16,I at_42),(17,I i_39),(18,I last_43),(19,I k_44),(20,I now_55)],[(101,.row 3 1 (x_3.map eI))]⟩) (fun z=>z) ?_ ?_
           ·refine ab.seq (ab.aa ?_)
            refine Oc om (Oc (bf rfl rfl) ?_)
            refine ae.ah ⟨[(0,_),(5,_),(7,_),(9,_),(16,_),(17,_),(18,_),(19,_),(20,_),(244,B (decide (x_54 < 0)))],[(101,_)]⟩ rfl (ab.ite h149 rfl (fun _ h149=>?_) (fun _ h149=>?_))
            ·refine ab.aa (Oc om (Oc (ay cY rfl (List.length_map _)) ?_))
             refine ae.ic .i64 h149 rfl (aX rfl rfl) (fun x_56 h149=>?_)
             refine Oc oa (ae.nil ?_)
             exact Fin.join [0,5,7,9,16,17,18,19,20] [101] x_56 (Option.some.inj h149) rfl
            ·refine ab.skip ?_
             exact Fin.join [0,5,7,9,16,17,18,19,20] [101] x_54 (Option.some.inj h149) rfl
           ·rintro now_55 hv
            subst v148
            refine ab.seq (ab.seq ?_)
            refine ab.ag ⟨[(0,_),(5,_),(7,_),(9,_),(16,_),(17,_),(18,_),(19,_),(20,_)],[(101,_)]⟩ rfl ?_
            obtain ⟨x_57,e161,h116⟩:=aN h116
            obtain ⟨x_58,e167,h116⟩:=aN h116
            refine ab.c8 mixed 24 [I now_55,I last_43,B (decide (now_55 < last_43)),B (decide (now_55 < last_43)),.opt (!(decide (now_55 < last_43))) (.one (.i k_44)),.opt (!(decide (now_55 < last_43))) (.one (.bool (decide (0 < k_44)))),.opt (!(decide (now_55 < last_43))) (.one (.bool (decide (0 < k_44)))),.opt ((!(decide (now_55 < last_43))) && (decide (0 < k_44))) (.one (.i now_55)),.opt ((!(decide (now_55 < last_43))) && (decide (0 < k_44))) (.one (.i last_43)),.opt ((!(decide (now_55 < last_43))) && (decide (0 < k_44))) (.one (.bool (decide (now_55 = last_43)))),.opt (!(decide (now_55 < last_43))) (.one (.bool ((decide (0 < k_44)) && (decide (now_55 = last_43))))),.opt (!(decide (now_55 < last_43))) (.one (.bool ((decide (0 < k_44)) && (decide (now_55 = last_43))))),.opt ((!(decide (now_55 < last_43))) && ((decide (0 < k_44)) && (decide (now_55 = last_43)))) (.one (.sl 1 (x_5.map eI))),.opt ((!(decide (now_55 < last_43))) && ((decide (0 < k_44)) && (decide (now_55 = last_43)))) (.one (.i at_42)),.opt ((!(decide (now_55 < last_43))) && ((decide (0 < k_44)) && (decide (now_55 = last_43)))) (.cC [.i x_57]),.opt ((!(decide (now_55 < last_43))) && ((decide (0 < k_44)) && (decide (now_55 = last_43)))) (.one (.i x_57)),.opt ((!(decide (now_55 < last_43))) && ((decide (0 < k_44)) && (decide (now_55 = last_43)))) (.one (.sl 1 (x_5.map eI))),.opt ((!(decide (now_55 < last_43))) && ((decide (0 < k_44)) && (decide (now_55 = last_43)))) (.one (.i at_42)),.opt ((!(decide (now_55 < last_43))) && ((decide (0 < k_44)) && (decide (now_55 = last_43)))) (.one (.i (IntKind.i64.wrap (at_42 - 1)))),.opt ((!(decide (now_55 < last_43))) && ((decide (0 < k_44)) && (decide (now_55 = last_43)))) (.cC [.i x_58]),.opt ((!(decide (now_55 < last_43))) && ((decide (0 < k_44)) && (decide (now_55 = last_43)))) (.one (.i x_58)),.opt ((!(decide (now_55 < last_43))) && ((decide (0 < k_44)) && (decide (now_55 = last_43)))) (.one (.bool (decide (x_57 < x_58)))),.opt (!(decide (now_55 < last_43))) (.one (.bool (((decide (0 < k_44)) && (decide (now_55 = last_43))) && (decide (x_57 < x_58))))),B ((decide (now_55 < last_43)) || (((decide (0 < k_44)) && (decide (now_55 = last_43))) && (decide (x_57 < x_58))))] [0,5,7,9,16,17,19,20,271] [101] (s':=⟨[(0,_),(5,_),(7,_),(9,_),(16,_),(17,_),(19,_),(20,_),(271,B ((decide (now_55 < last_43)) || (((decide (0 < k_44)) && (decide (now_55 = last_43))) && (decide (x_57 < x_58)))))],[(101,_)]⟩) rfl ⟨fun _=>.p om,fun _=>.p om,fun _=>.p (bf rfl rfl),fun _=>.p om,fun _=>by exact .guard (!(decide (now_55 < last_43))) 1 [] (.plain rfl) (bU _) rfl rfl (fun g150=>trivial) (fun g150=>om),fun _=>by exact .guard (!(decide (now_55 < last_43))) 2 [252] (.plain rfl) (bU _) rfl rfl (fun g151=>⟨g151,trivial⟩) (fun g151=>eW rfl rfl),fun _=>by exact .guard (!(decide (now_55 < last_43))) 3 [253] (.plain rfl) (bU _) rfl rfl (fun g152=>⟨g152,trivial⟩) (fun g152=>om),fun _=>by exact .guard ((!(decide (now_55 < last_43))) && (decide (0 < k_44))) 1 [] (.under rfl) (cZ _ _) rfl rfl (fun g153=>trivial) (fun g153=>om),fun _=>by exact .guard ((!(decide (now_55 < last_43))) && (decide (0 < k_44))) 1 [] (.under rfl) (cZ _ _) rfl rfl (fun g154=>trivial) (fun g154=>om),fun _=>by exact .guard ((!(decide (now_55 < last_43))) && (decide (0 < k_44))) 3 [255,256] (.under rfl) (cZ _ _) rfl rfl (fun g155=>⟨g155,g155,trivial⟩) (fun g155=>cT rfl rfl),fun _=>by exact .guard (!(decide (now_55 < last_43))) 3 [254] (.plain rfl) (bU _) rfl rfl (fun g156=>⟨g156,trivial⟩) (fun g156=>aR (fun e=>by rw [g156,e]; rfl) rfl rfl rfl rfl),fun _=>by exact .guard (!(decide (now_55 < last_43))) 3 [258] (.plain rfl) (bU _) rfl rfl (fun g157=>⟨g157,trivial⟩) (fun g157=>om),fun _=>by exact .guard ((!(decide (now_55 < last_43))) && ((decide (0 < k_44)) && (decide (now_55 = last_43)))) 1 [] (.under rfl) (cZ _ _) rfl rfl (fun g158=>trivial) (fun g158=>om),fun _=>by exact .guard ((!(decide (now_55 < last_43))) && ((decide (0 < k_44)) && (decide (now_55 = last_43)))) 1 [] (.under rfl) (cZ _ _) rfl rfl (fun g159=>trivial) (fun g159=>om),fun _=>by exact .guard ((!(decide (now_55 < last_43))) && ((decide (0 < k_44)) && (decide (now_55 = last_43)))) 3 [260,261] (.under rfl) (cZ _ _) rfl rfl (fun g160=>⟨g160,g160,trivial⟩) (fun g160=>aI ak (aC (gc e161 g160)) (az (e:=eI) (gc e161 g160)) rfl rfl),fun _=>by exact .guard ((!(decide (now_55 < last_43))) && ((decide (0 < k_44)) && (decide (now_55 = last_43)))) 2 [262] (.under rfl) (cZ _ _) rfl rfl (fun g162=>⟨g162,trivial⟩) (fun g162=>aE au rfl rfl),fun _=>by exact .guard ((!(decide (now_55 < last_43))) && ((decide (0 < k_44)) && (decide (now_55 = last_43)))) 1 [] (.under rfl) (cZ _ _) rfl rfl (fun g163=>trivial) (fun g163=>om),fun _=>by exact .guard ((!(decide (now_55 < last_43))) && ((decide (0 < k_44)) && (decide (now_55 = last_43)))) 1 [] (.under rfl) (cZ _ _) rfl rfl (fun g164=>trivial) (fun g164=>om),fun _=>by exact .guard ((!(decide (now_55 < last_43))) && ((decide (0 < k_44)) && (decide (now_55 = last_43)))) 2 [265] (.under rfl) (cZ _ _) rfl rfl (fun g165=>⟨g165,trivial⟩) (fun g165=>cf rfl rfl),fun _=>by exact .guard ((!(decide (now_55 < last_43))) && ((decide (0 < k_44)) && (decide (now_55 = last_43)))) 3 [264,266] (.under rfl) (cZ _ _) rfl rfl (fun g166=>⟨g166,g166,trivial⟩) (fun g166=>aI ak (aC (gc e167 g166)) (az (e:=eI) (gc e167 g166)) rfl rfl),fun _=>by exact .guard ((!(decide (now_55 < last_43))) && ((decide (0 < k_44)) && (decide (now_55 = last_43)))) 2 [267] (.under rfl) (cZ _ _) rfl rfl (fun g168=>⟨g168,trivial⟩) (fun g168=>aE au rfl rfl),fun _=>by exact .guard ((!(decide (now_55 < last_43))) && ((decide (0 < k_44)) && (decide (now_55 = last_43)))) 3 [263,268] (.under rfl) (cZ _ _) rfl rfl (fun g169=>⟨g169,g169,trivial⟩) (fun g169=>bf rfl rfl),fun _=>by exact .guard (!(decide (now_55 < last_43))) 3 [259] (.plain rfl) (bU _) rfl rfl (fun g170=>⟨g170,trivial⟩) (fun g170=>aR (fun e=>by rw [g170,e]; rfl) rfl rfl rfl rfl),fun _=>.p (cm (fun e=>by first | (rw [e]; rfl) | (simp only at e; rw [e]; rfl)) rfl rfl rfl rfl),trivial⟩ rfl rfl ?_
            refine ab.ite h116 rfl (fun _ h116=>?_) (fun _ h116=>?_)
            ·refine ab.seq (ab.aa ?_)
             refine Oc oa (ae.ah ⟨[(4,B false)],[]⟩ rfl (ab.ret (Fin.aD (Fin.bC ?_))))
             obtain rfl:=Option.some.inj h116
             refine Fin.aD ?_
             obtain rfl:=hy113 _ (Option.some.inj h112).symm
             refine Fin.aD (Fin.bC (Fin.bC ?_))
             obtain rfl:=Option.some.inj h108
             refine Fin.aD ?_
             obtain rfl:=hy106 _ (Option.some.inj h105).symm
             refine Fin.aD (Fin.bC (Fin.aD ?_))
             obtain rfl:=Option.some.inj h
             refine Fin.ag ⟨[(4,_)],[]⟩ rfl (Fin.aW [.one (.bool false)] (.inl rfl) rfl (.cons (.tmp rfl) .nil) ⟨rfl,rfl⟩)
            ·refine ab.skip (Fin.ag ⟨[(0,_),(5,_),(7,_),(9,_),(16,_),(17,_),(19,_),(20,_)],[(101,_)]⟩ rfl (Fin.then (ab.seq (ab.aa ?_))))
             refine Oc om (Oc oa ?_)
             refine ae.ah ⟨[(0,_),(5,_),(7,_),(9,_),(16,_),(17,_),(18,I now_55),(19,_)],[(101,_)]⟩ rfl (ab.aa (Oc om (Oc (aX rfl rfl) (Oc oa ?_))))
             refine ae.nil (Fin.ai ?_)
             exact Fin.join [0,5,7,9,16,17,18,19] [101] now_55 (Option.some.inj h116) rfl
         ·rintro last_47 hv
          subst v115
          refine ab.aa (Oc om (Oc (aX rfl rfl) (Oc oa ?_)))
          refine ae.nil ?_
          exact Fin.bz [0,5,7,9,16,17,18,19] [101] (IntKind.i64.wrap (at_42 + 1),last_47,IntKind.i64.wrap (k_44 + 1)) (Option.some.inj h112) rfl
        ·refine ab.exit (Fin.aj ?_)
         obtain rfl:=hy113 _ (Option.some.inj h112).symm
         refine Fin.aj (Fin.aG (Fin.ai ?_))
         exact Fin.join [0,5,7,9,16,17] [101] at_42 (Option.some.inj h108) rfl
       ·rintro at_41 hv
        subst v107
        refine ab.aa (Oc om (Oc (aX rfl rfl) (Oc oa ?_)))
        refine ae.nil ?_
        exact Fin.bz [0,5,7,9,16,17] [101] (at_41,IntKind.i64.wrap (i_39 + 1)) (Option.some.inj h105) rfl
      ·refine ab.exit (Fin.aj ?_)
       obtain rfl:=hy106 _ (Option.some.inj h105).symm
       refine Fin.aj (Fin.aG ?_)
       exact Fin.join [7,16] [] at_38 rfl rfl
     ·rintro at_37 hv
      subst v102
      refine ab.seq (ab.aa ?_)
      obtain ⟨x_59,e171,h⟩:=aN h
      refine Oc (a6 (de e171) qc rfl rfl) (Oc om ?_)
      refine er x_59 [] (fun g172=>trivial) (fun g172=>om) (er x_59 [] (fun g173=>by exact trivial) (fun g173=>om) (ae.ag ⟨[(276,B x_59),(277,.opt x_59 (.one (.i at_37))),(278,.opt x_59 (.one (.sl 1 (x_5.map eI))))],[]⟩ rfl (er x_59 [278] (fun g174=>by exact ⟨g174,trivial⟩) (fun g174=>ay fX rfl (List.length_map _)) (er x_59 [277,279] (fun g175=>by exact ⟨g175,g175,trivial⟩) (fun g175=>cT rfl rfl) (Oc (aR (fun e=>e) rfl rfl rfl rfl) (Oc oa ?_))))))
      refine ae.ah ⟨[(4,B (x_59 && (decide (at_37 = (x_5.length:Int)))))],[]⟩ rfl (ab.ret ?_)
      obtain rfl:=Option.some.inj h
      refine Fin.ag ⟨[(4,_)],[]⟩ rfl (Fin.aW [.one (.bool (x_59 && (decide (at_37 = (x_5.length:Int)))))] (.inl rfl) rfl (.cons (.tmp rfl) .nil) ⟨rfl,rfl⟩)
end Go.Proofs.Ytgojigdbelkgoaa

