/- printed walks -/
import Derived.Test.YtgojigdbelkgoaaW1
namespace Go.Proofs.Ytgojigdbelkgoaa
open Go.Sk Go
set_option maxHeartbeats 4000000
set_option maxRecDepth 4000
set_option linter.unusedSimpArgs false
set_option linter.unusedVariables false
def eC (F:Nat) (fixed0:List Bool) (links0:List A2):Option ((List Int) × (List Int)) :=
 (de F fixed0 links0).bind fun x_1=>(du F (fixed0.length:Int) links0 x_1).bind fun x_2=>Option.bind (mk? (0:Int) (fixed0.length:Int) (fixed0.length:Int)) (fun x_3=>Option.bind (mk? (0:Int) (fixed0.length:Int) (fixed0.length:Int)) (fun x_4=>Option.bind (iter F (un6 fun keysf0_7 bridgesf0_8 seenf0_9 visitf0_10 visitf0f0_11 x_12=>if (decide (x_12 < (fixed0.length:Int))) = true then (Option.bind ((aO fixed0 x_12).bind fun x_20=>(dx (!x_20) (aO seenf0_9 x_12)).bind fun x_21=>if ((!x_20) && (decide (x_21 = 0))) = true then (Option.bind (iX F x_12 (-1) visitf0_10 seenf0_9 visitf0f0_11 x_2 bridgesf0_8 keysf0_7) (un5 fun x_22 x_23 x_24 x_25 x_26=>some (x_26,x_25,x_23,x_22,x_24))) else (some (keysf0_7,bridgesf0_8,seenf0_9,visitf0_10,visitf0f0_11))) (un5 fun keysf0_15 bridgesf0_16 seenf0_17 visitf0_18 visitf0f0_19=>some (.inl (keysf0_15,bridgesf0_16,seenf0_17,visitf0_18,visitf0f0_19,IntKind.i64.wrap (x_12 + 1))))) else (some (.inr (keysf0_7,bridgesf0_8)))) ([],[],x_3,0,x_4,0)) (cA fun keysf0_5 bridgesf0_6=>(cV F keysf0_5).bind fun x_27=>(cV F bridgesf0_6).bind fun x_28=>some (x_27,x_28))))
theorem iA {F:Nat} {fixed0:List Bool} {links0:List A2} {r:(List Int) × (List Int)} (h:eC F fixed0 links0 = some r):aC Try.prog [] 39 [] [.one (.sl 1 (fixed0.map eB)),.one (.sl 2 (links0.map (ah .i64)))] (Is [] (.eP [.one (.sl 1 (r.1.map eI)),.one (.sl 1 (r.2.map eI))])):=by
 unfold eC at h
 refine aC.intro 53 Try.func39 Try.ntmps39 rfl (by simp) fun E=>?_
 show ab _ E ⟨53,[],[],[]⟩ _ ⟨[(0,.b (.one (.sl 1 (fixed0.map eB)))),(1,.b (.one (.sl 2 (links0.map (ah .i64)))))],[]⟩ _
 refine ab.seq (ab.aa ?_)
 refine Oc (bp (k:=101) cu rfl) (Oc (bp (k:=102) cu rfl) ?_)
 refine ae.ak ⟨[(0,.b (.one (.sl 1 (fixed0.map eB)))),(1,.b (.one (.sl 2 (links0.map (ah .i64))))),(4,Pt 101 0),(5,Pt 102 0)],[(101,.box 30 [.nil]),(102,.box 30 [.nil])]⟩ rfl (ab.seq (ab.aa ?_))
 refine Oc om (Oc (aF dw rfl (List.length_map _)) (Oc om (Oc om (Oc om ?_))))
 refine ae.ag ⟨[(0,_),(4,_),(5,_),(14,I (fixed0.length:Int)),(15,.b (.one (.sl 2 (links0.map (ah .i64))))),(16,.b (.one (.sl 1 (fixed0.map eB)))),(17,.b (.one (.sl 2 (links0.map (ah .i64)))))],[(101,_),(102,_)]⟩ rfl ?_
 obtain ⟨x_1,e1,h⟩:=aL h
 refine Oc (bw (gF 103 e1) rk rfl trivial rfl rfl) (ae.bJ 103 rfl ?_)
 obtain ⟨x_2,e2,h⟩:=aL h
 refine Oc (a8 (fo e2) rq rfl rfl) (Oc (bp (k:=104) rO rfl) (Oc (dg pT rfl rfl rfl (Nat.le_of_ble_eq_true rfl) rfl) ?_))
 refine ae.ak ⟨[(0,.b (.one (.sl 1 (fixed0.map eB)))),(4,Pt 101 0),(5,Pt 102 0),(6,Pt 104 0)],[(101,.box 30 [.nil]),(102,.box 30 [.nil]),(104,.box 56 [.sl 1 (x_2.map (eL 2 aW))])]⟩ rfl (ab.seq ?_)
 obtain ⟨x_3,e3,h⟩:=aL h
 obtain ⟨x_4,e4,h⟩:=aL h
 refine ab.gQ mixed [false,false,true,false,false,true,true,true,true,true] [.b (.one (.sl 1 (fixed0.map eB))),I (fixed0.length:Int),.b (.row 105),.b (.one (.sl 1 (fixed0.map eB))),I (fixed0.length:Int),.b (.row 106),Pt 107 0,Pt 108 0,B true,B true] [⟨[false,false,false,false,false,false,false,false,false,false],[(0,.b (.one (.sl 1 (fixed0.map eB)))),(4,Pt 101 0),(5,Pt 102 0),(6,Pt 104 0)],[(101,.box 30 [.nil]),(102,.box 30 [.nil]),(104,.box 56 [.sl 1 (x_2.map (eL 2 aW))])],[true,true,true,true,true,true,true,true,true,true],[],[8,9]⟩,⟨[false,false,true,false,false,false,false,false,false,false],[(0,.b (.one (.sl 1 (fixed0.map eB)))),(4,Pt 101 0),(5,Pt 102 0),(6,Pt 104 0)],[(101,.box 30 [.nil]),(102,.box 30 [.nil]),(104,.box 56 [.sl 1 (x_2.map (eL 2 aW))]),(105,.row 3 1 (x_3.map eI))],[true,true,true,true,true,true,true,true,true,true],[0,1,2],[8,9]⟩,⟨[false,false,false,false,false,true,false,false,false,false],[(0,.b (.one (.sl 1 (fixed0.map eB)))),(4,Pt 101 0),(5,Pt 102 0),(6,Pt 104 0)],[(101,.box 30 [.nil]),(102,.box 30 [.nil]),(104,.box 56 [.sl 1 (x_2.map (eL 2 aW))]),(106,.row 3 1 (x_4.map eI))],[true,true,true,true,true,true,true,true,true,true],[3,4,5],[8,9]⟩,⟨[false,false,false,false,false,false,true,false,false,false],[(0,.b (.one (.sl 1 (fixed0.map eB)))),(4,Pt 101 0),(5,Pt 102 0),(6,Pt 104 0)],[(101,.box 30 [.nil]),(102,.box 30 [.nil]),(104,.box 56 [.sl 1 (x_2.map (eL 2 aW))]),(107,.box 30 [.nil])],[true,true,true,true,true,true,true,true,true,true],[6],[8,9]⟩,⟨[false,false,false,false,false,false,false,true,false,false],[(0,.b (.one (.sl 1 (fixed0.map eB)))),(4,Pt 101 0),(5,Pt 102 0),(6,Pt 104 0)],[(101,.box 30 [.nil]),(102,.box 30 [.nil]),(104,.box 56 [.sl 1 (x_2.map (eL 2 aW))]),(108,.box 30 [.nil])],[true,true,true,true,true,true,true,true,true,true],[7],[8,9]⟩,⟨[false,false,true,false,false,true,false,false,false,false],[(0,.b (.one (.sl 1 (fixed0.map eB)))),(4,Pt 101 0),(5,Pt 102 0),(6,Pt 104 0)],[(101,.box 30 [.nil]),(102,.box 30 [.nil]),(104,.box 56 [.sl 1 (x_2.map (eL 2 aW))]),(105,.row 3 1 (x_3.map eI)),(106,.row 3 1 (x_4.map eI))],[true,true,true,true,true,true,true,true,true,true],[0,1,2,3,4,5],[8,9]⟩,⟨[false,false,true,false,false,false,true,false,false,false],[(0,.b (.one (.sl 1 (fixed0.map eB)))),(4,Pt 101 0),(5,Pt 102 0),(6,Pt 104 0)],[(101,.box 30 [.nil]),(102,.box 30 [.nil]),(104,.box 56 [.sl 1 (x_2.map (eL 2 aW))]),(105,.row 3 1 (x_3.map eI)),(107,.box 30 [.nil])],[true,true,true,true,true,true,true,true,true,true],[0,1,2,6],[8,9]⟩,⟨[false,false,true,false,false,false,false,true,false,false],[(0,.b (.one (.sl 1 (fixed0.map eB)))),(4,Pt 101 0),(5,Pt 102 0),(6,Pt 104 0)],[(101,.box 30 [.nil]),(102,.box 30 [.nil]),(104,.box 56 [.sl 1 (x_2.map (eL 2 aW))]),(105,.row 3 1 (x_3.map eI)),(108,.box 30 [.nil])],[true,true,true,true,true,true,true,true,true,true],[0,1,2,7],[8,9]⟩,⟨[false,false,false,false,false,true,true,false,false,false],[(0,.b (.one (.sl 1 (fixed0.map eB)))),(4,Pt 101 0),(5,Pt 102 0),(6,Pt 104 0)],[(101,.box 30 [.nil]),(102,.box 30 [.nil]),(104,.box 56 [.sl 1 (x_2.map (eL 2 aW))]),(106,.row 3 1 (x_4.map eI)),(107,.box 30 [.nil])],[true,true,true,true,true,true,true,true,true,true],[3,4,5,6],[8,9]⟩,⟨[false,false,false,false,false,true,false,true,false,false],[(0,.b (.one (.sl 1 (fixed0.map eB)))),(4,Pt 101 0),(5,Pt 102 0),(6,Pt 104 0)],[(101,.box 30 [.nil]),(102,.box 30 [.nil]),(104,.box 56 [.sl 1 (x_2.map (eL 2 aW))]),(106,.row 3 1 (x_4.map eI)),(108,.box 30 [.nil])],[true,true,true,true,true,true,true,true,true,true],[3,4,5,7],[8,9]⟩,⟨[false,false,false,false,false,false,true,true,false,false],[(0,.b (.one (.sl 1 (fixed0.map eB)))),(4,Pt 101 0),(5,Pt 102 0),(6,Pt 104 0)],[(101,.box 30 [.nil]),(102,.box 30 [.nil]),(104,.box 56 [.sl 1 (x_2.map (eL 2 aW))]),(107,.box 30 [.nil]),(108,.box 30 [.nil])],[true,true,true,true,true,true,true,true,true,true],[6,7],[8,9]⟩,⟨[false,false,true,false,false,true,true,false,false,false],[(0,.b (.one (.sl 1 (fixed0.map eB)))),(4,Pt 101 0),(5,Pt 102 0),(6,Pt 104 0)],[(101,.box 30 [.nil]),(102,.box 30 [.nil]),(104,.box 56 [.sl 1 (x_2.map (eL 2 aW))]),(105,.row 3 1 (x_3.map eI)),(106,.row 3 1 (x_4.map eI)),(107,.box 30 [.nil])],[true,true,true,true,true,true,true,true,true,true],[0,1,2,3,4,5,6],[8,9]⟩,⟨[false,false,true,false,false,true,false,true,false,false],[(0,.b (.one (.sl 1 (fixed0.map eB)))),(4,Pt 101 0),(5,Pt 102 0),(6,Pt 104 0)],[(101,.box 30 [.nil]),(102,.box 30 [.nil]),(104,.box 56 [.sl 1 (x_2.map (eL 2 aW))]),(105,.row 3 1 (x_3.map eI)),(106,.row 3 1 (x_4.map eI)),(108,.box 30 [.nil])],[true,true,true,true,true,true,true,true,true,true],[0,1,2,3,4,5,7],[8,9]⟩,⟨[false,false,true,false,false,false,true,true,false,false],[(0,.b (.one (.sl 1 (fixed0.map eB)))),(4,Pt 101 0),(5,Pt 102 0),(6,Pt 104 0)],[(101,.box 30 [.nil]),(102,.box 30 [.nil]),(104,.box 56 [.sl 1 (x_2.map (eL 2 aW))]),(105,.row 3 1 (x_3.map eI)),(107,.box 30 [.nil]),(108,.box 30 [.nil])],[true,true,true,true,true,true,true,true,true,true],[0,1,2,6,7],[9]⟩,⟨[false,false,false,false,false,true,true,true,false,false],[(0,.b (.one (.sl 1 (fixed0.map eB)))),(4,Pt 101 0),(5,Pt 102 0),(6,Pt 104 0)],[(101,.box 30 [.nil]),(102,.box 30 [.nil]),(104,.box 56 [.sl 1 (x_2.map (eL 2 aW))]),(106,.row 3 1 (x_4.map eI)),(107,.box 30 [.nil]),(108,.box 30 [.nil])],[true,true,true,true,true,true,true,true,true,true],[3,4,5,6,7],[8,9]⟩,⟨[false,false,true,false,false,true,true,true,false,false],[(0,.b (.one (.sl 1 (fixed0.map eB)))),(4,Pt 101 0),(5,Pt 102 0),(6,Pt 104 0)],[(101,.box 30 [.nil]),(102,.box 30 [.nil]),(104,.box 56 [.sl 1 (x_2.map (eL 2 aW))]),(105,.row 3 1 (x_3.map eI)),(106,.row 3 1 (x_4.map eI)),(107,.box 30 [.nil]),(108,.box 30 [.nil])],[true,true,true,true,true,true,true,true,true,true],[0,1,2,3,4,5,6,7],[9]⟩,⟨[false,false,true,false,false,false,true,true,true,false],[(0,.b (.one (.sl 1 (fixed0.map eB)))),(4,Pt 101 0),(5,Pt 102 0),(6,Pt 104 0)],[(101,.box 30 [.nil]),(102,.box 30 [.nil]),(104,.box 56 [.sl 1 (x_2.map (eL 2 aW))]),(105,.row 3 1 (x_3.map eI)),(107,.aj 30 [.row 105]),(108,.box 30 [.nil])],[true,true,true,true,true,true,true,true,true,true],[0,1,2,6,7,8],[9]⟩,⟨[false,false,true,false,false,true,true,true,true,false],[(0,.b (.one (.sl 1 (fixed0.map eB)))),(4,Pt 101 0),(5,Pt 102 0),(6,Pt 104 0)],[(101,.box 30 [.nil]),(102,.box 30 [.nil]),(104,.box 56 [.sl 1 (x_2.map (eL 2 aW))]),(105,.row 3 1 (x_3.map eI)),(106,.row 3 1 (x_4.map eI)),(107,.aj 30 [.row 105]),(108,.box 30 [.nil])],[true,true,true,true,true,true,true,true,true,true],[0,1,2,3,4,5,6,7,8],[]⟩,⟨[false,false,true,false,false,true,true,true,true,true],[(0,.b (.one (.sl 1 (fixed0.map eB)))),(4,Pt 101 0),(5,Pt 102 0),(6,Pt 104 0)],[(101,.box 30 [.nil]),(102,.box 30 [.nil]),(104,.box 56 [.sl 1 (x_2.map (eL 2 aW))]),(105,.row 3 1 (x_3.map eI)),(106,.row 3 1 (x_4.map eI)),(107,.aj 30 [.row 105]),(108,.aj 30 [.row 106])],[true,true,true,true,true,true,true,true,true,true],[0,1,2,3,4,5,6,7,8,9],[]⟩] rfl (⟨by kernel_rfl,⟨⟨.b (.one (.sl 1 (fixed0.map eB))),fun _=>rfl,fun _=>.p (by exact af rfl)⟩,⟨I (fixed0.length:Int),fun _=>rfl,fun _=>.p (by exact aF dw rfl (List.length_map _))⟩,⟨_,[105],.b (.row 105),rfl,fun _=>rfl,rfl,rfl,fun _=>.cW [101,102,104,105] (by exact .p (by exact bt (k:=105) (enc:=eI) ar e3 (by decide) (.cons .refl .nil) rfl rfl rfl)) (by exact rfl)⟩,⟨.b (.one (.sl 1 (fixed0.map eB))),fun _=>rfl,fun _=>.p (by exact af rfl)⟩,⟨I (fixed0.length:Int),fun _=>rfl,fun _=>.p (by exact aF dw rfl (List.length_map _))⟩,⟨_,[106],.b (.row 106),rfl,fun _=>rfl,rfl,rfl,fun _=>.cW [101,102,104,106] (by exact .p (by exact bt (k:=106) (enc:=eI) ar e4 (by decide) (.cons .refl .nil) rfl rfl rfl)) (by exact rfl)⟩,⟨_,[107],Pt 107 0,rfl,fun _=>rfl,rfl,rfl,fun _=>.cW [101,102,104,107] (by exact .p (by exact bp (k:=107) cu rfl)) (by exact rfl)⟩,⟨_,[108],Pt 108 0,rfl,fun _=>rfl,rfl,rfl,fun _=>.cW [101,102,104,108] (by exact .p (by exact bp (k:=108) cu rfl)) (by exact rfl)⟩,trivial,trivial,trivial⟩,⟨by kernel_rfl,⟨trivial,trivial,trivial,⟨.b (.one (.sl 1 (fixed0.map eB))),fun _=>rfl,fun _=>.p (by exact af rfl)⟩,⟨I (fixed0.length:Int),fun _=>rfl,fun _=>.p (by exact aF dw rfl (List.length_map _))⟩,⟨_,[106],.b (.row 106),rfl,fun _=>rfl,rfl,rfl,fun _=>.cW [101,102,104,105,106] (by exact .p (by exact bt (k:=106) (enc:=eI) ar e4 (by decide) (.cons .refl .nil) rfl rfl rfl)) (by exact rfl)⟩,⟨_,[107],Pt 107 0,rfl,fun _=>rfl,rfl,rfl,fun _=>.cW [101,102,104,105,107] (by exact .p (by exact bp (k:=107) cu rfl)) (by exact rfl)⟩,⟨_,[108],Pt 108 0,rfl,fun _=>rfl,rfl,rfl,fun _=>.cW [101,102,104,105,108] (by exact .p (by exact bp (k:=108) cu rfl)) (by exact rfl)⟩,trivial,trivial,trivial⟩,⟨by kernel_rfl,⟨⟨.b (.one (.sl 1 (fixed0.map eB))),fun _=>rfl,fun _=>.p (by exact af rfl)⟩,⟨I (fixed0.length:Int),fun _=>rfl,fun _=>.p (by exact aF dw rfl (List.length_map _))⟩,⟨_,[105],.b (.row 105),rfl,fun _=>rfl,rfl,rfl,fun _=>.cW [101,102,104,105,106] (by exact .p (by exact bt (k:=105) (enc:=eI) ar e3 (by decide) (.cons .refl .nil) rfl rfl rfl)) (by exact rfl)⟩,trivial,trivial,trivial,⟨_,[107],Pt 107 0,rfl,fun _=>rfl,rfl,rfl,fun _=>.cW [101,102,104,106,107] (by exact .p (by exact bp (k:=107) cu rfl)) (by exact rfl)⟩,⟨_,[108],Pt 108 0,rfl,fun _=>rfl,rfl,rfl,fun _=>.cW [101,102,104,106,108] (by exact .p (by exact bp (k:=108) cu rfl)) (by exact rfl)⟩,trivial,trivial,trivial⟩,⟨by kernel_rfl,⟨⟨.b (.one (.sl 1 (fixed0.map eB))),fun _=>rfl,fun _=>.p (by exact af rfl)⟩,⟨I (fixed0.length:Int),fun _=>rfl,fun _=>.p (by exact aF dw rfl (List.length_map _))⟩,⟨_,[105],.b (.row 105),rfl,fun _=>rfl,rfl,rfl,fun _=>.cW [101,102,104,105,107] (by exact .p (by exact bt (k:=105) (enc:=eI) ar e3 (by decide) (.cons .refl .nil) rfl rfl rfl)) (by exact rfl)⟩,⟨.b (.one (.sl 1 (fixed0.map eB))),fun _=>rfl,fun _=>.p (by exact af rfl)⟩,⟨I (fixed0.length:Int),fun _=>rfl,fun _=>.p (by exact aF dw rfl (List.length_map _))⟩,⟨_,[106],.b (.row 106),rfl,fun _=>rfl,rfl,rfl,fun _=>.cW [101,102,104,106,107] (by exact .p (by exact bt (k:=106) (enc:=eI) ar e4 (by decide) (.cons .refl .nil) rfl rfl rfl)) (by exact rfl)⟩,trivial,⟨_,[108],Pt 108 0,rfl,fun _=>rfl,rfl,rfl,fun _=>.cW [101,102,104,107,108] (by exact .p (by exact bp (k:=108) cu rfl)) (by exact rfl)⟩,trivial,trivial,trivial⟩,⟨by kernel_rfl,⟨⟨.b (.one (.sl 1 (fixed0.map eB))),fun _=>rfl,fun _=>.p (by exact af rfl)⟩,⟨I (fixed0.length:Int),fun _=>rfl,fun _=>.p (by exact aF dw rfl (List.length_map _))⟩,⟨_,[105],.b (.row 105),rfl,fun _=>rfl,rfl,rfl,fun _=>.cW [101,102,104,105,108] (by exact .p (by exact bt (k:=105) (enc:=eI) ar e3 (by decide) (.cons .refl .nil) rfl rfl rfl)) (by exact rfl)⟩,⟨.b (.one (.sl 1 (fixed0.map eB))),fun _=>rfl,fun _=>.p (by exact af rfl)⟩,⟨I (fixed0.length:Int),fun _=>rfl,fun _=>.p (by exact aF dw rfl (List.length_map _))⟩,⟨_,[106],.b (.row 106),rfl,fun _=>rfl,rfl,rfl,fun _=>.cW [101,102,104,106,108] (by exact .p (by exact bt (k:=106) (enc:=eI) ar e4 (by decide) (.cons .refl .nil) rfl rfl rfl)) (by exact rfl)⟩,⟨_,[107],Pt 107 0,rfl,fun _=>rfl,rfl,rfl,fun _=>.cW [101,102,104,107,108] (by exact .p (by exact bp (k:=107) cu rfl)) (by exact rfl)⟩,trivial,trivial,trivial,trivial⟩,⟨by kernel_rfl,⟨trivial,trivial,trivial,trivial,trivial,trivial,⟨_,[107],Pt 107 0,rfl,fun _=>rfl,rfl,rfl,fun _=>.cW [101,102,104,105,106,107] (by exact .p (by exact bp (k:=107) cu rfl)) (by exact rfl)⟩,⟨_,[108],Pt 108 0,rfl,fun _=>rfl,rfl,rfl,fun _=>.cW [101,102,104,105,106,108] (by exact .p (by exact bp (k:=108) cu rfl)) (by exact rfl)⟩,trivial,trivial,trivial⟩,⟨by kernel_rfl,⟨trivial,trivial,trivial,⟨.b (.one (.sl 1 (fixed0.map eB))),fun _=>rfl,fun _=>.p (by exact af rfl)⟩,⟨I (fixed0.length:Int),fun _=>rfl,fun _=>.p (by exact aF dw rfl (List.length_map _))⟩,⟨_,[106],.b (.row 106),rfl,fun _=>rfl,rfl,rfl,fun _=>.cW [101,102,104,105,106,107] (by exact .p (by exact bt (k:=106) (enc:=eI) ar e4 (by decide) (.cons .refl .nil) rfl rfl rfl)) (by exact rfl)⟩,trivial,⟨_,[108],Pt 108 0,rfl,fun _=>rfl,rfl,rfl,fun _=>.cW [101,102,104,105,107,108] (by exact .p (by exact bp (k:=108) cu rfl)) (by exact rfl)⟩,trivial,trivial,trivial⟩,⟨by kernel_rfl,⟨trivial,trivial,trivial,⟨.b (.one (.sl 1 (fixed0.map eB))),fun _=>rfl,fun _=>.p (by exact af rfl)⟩,⟨I (fixed0.length:Int),fun _=>rfl,fun _=>.p (by exact aF dw rfl (List.length_map _))⟩,⟨_,[106],.b (.row 106),rfl,fun _=>rfl,rfl,rfl,fun _=>.cW [101,102,104,105,106,108] (by exact .p (by exact bt (k:=106) (enc:=eI) ar e4 (by decide) (.cons .refl .nil) rfl rfl rfl)) (by exact rfl)⟩,⟨_,[107],Pt 107 0,rfl,fun _=>rfl,rfl,rfl,fun _=>.cW [101,102,104,105,107,108] (by exact .p (by exact bp (k:=107) cu rfl)) (by exact rfl)⟩,trivial,trivial,trivial,trivial⟩,⟨by kernel_rfl,⟨⟨.b (.one (.sl 1 (fixed0.map eB))),fun _=>rfl,fun _=>.p (by exact af rfl)⟩,⟨I (fixed0.length:Int),fun _=>rfl,fun _=>.p (by exact aF dw rfl (List.length_map _))⟩,⟨_,[105],.b (.row 105),rfl,fun _=>rfl,rfl,rfl,fun _=>.cW [101,102,104,105,106,107] (by exact .p (by exact bt (k:=105) (enc:=eI) ar e3 (by decide) (.cons .refl .nil) rfl rfl rfl)) (by exact rfl)⟩,trivial,trivial,trivial,trivial,⟨_,[108],Pt 108 0,rfl,fun _=>rfl,rfl,rfl,fun _=>.cW [101,102,104,106,107,108] (by exact .p (by exact bp (k:=108) cu rfl)) (by exact rfl)⟩,trivial,trivial,trivial⟩,⟨by kernel_rfl,⟨⟨.b (.one (.sl 1 (fixed0.map eB))),fun _=>rfl,fun _=>.p (by exact af rfl)⟩,⟨I (fixed0.length:Int),fun _=>rfl,fun _=>.p (by exact aF dw rfl (List.length_map _))⟩,⟨_,[105],.b (.row 105),rfl,fun _=>rfl,rfl,rfl,fun _=>.cW [101,102,104,105,106,108] (by exact .p (by exact bt (k:=105) (enc:=eI) ar e3 (by decide) (.cons .refl .nil) rfl rfl rfl)) (by exact rfl)⟩,trivial,trivial,trivial,⟨_,[107],Pt 107 0,rfl,fun _=>rfl,rfl,rfl,fun _=>.cW [101,102,104,106,107,108] (by exact .p (by exact bp (k:=107) cu rfl)) (by exact rfl)⟩,trivial,trivial,trivial,trivial⟩,⟨by kernel_rfl,⟨⟨.b (.one (.sl 1 (fixed0.map eB))),fun _=>rfl,fun _=>.p (by exact af rfl)⟩,⟨I (fixed0.length:Int),fun _=>rfl,fun _=>.p (by exact aF dw rfl (List.length_map _))⟩,⟨_,[105],.b (.row 105),rfl,fun _=>rfl,rfl,rfl,fun _=>.cW [101,102,104,105,107,108] (by exact .p (by exact bt (k:=105) (enc:=eI) ar e3 (by decide) (.cons .refl .nil) rfl rfl rfl)) (by exact rfl)⟩,⟨.b (.one (.sl 1 (fixed0.map eB))),fun _=>rfl,fun _=>.p (by exact af rfl)⟩,⟨I (fixed0.length:Int),fun _=>rfl,fun _=>.p (by exact aF dw rfl (List.length_map _))⟩,⟨_,[106],.b (.row 106),rfl,fun _=>rfl,rfl,rfl,fun _=>.cW [101,102,104,106,107,108] (by exact .p (by exact bt (k:=106) (enc:=eI) ar e4 (by decide) (.cons .refl .nil) rfl rfl rfl)) (by exact rfl)⟩,trivial,trivial,trivial,trivial,trivial⟩,⟨by kernel_rfl,⟨trivial,trivial,trivial,trivial,trivial,trivial,trivial,⟨_,[108],Pt 108 0,rfl,fun _=>rfl,rfl,rfl,fun _=>.cW [101,102,104,105,106,107,108] (by exact .p (by exact bp (k:=108) cu rfl)) (by exact rfl)⟩,trivial,trivial,trivial⟩,⟨by kernel_rfl,⟨trivial,trivial,trivial,trivial,trivial,trivial,⟨_,[107],Pt 107 0,rfl,fun _=>rfl,rfl,rfl,fun _=>.cW [101,102,104,105,106,107,108] (by exact .p (by exact bp (k:=107) cu rfl)) (by exact rfl)⟩,trivial,trivial,trivial,trivial⟩,⟨by kernel_rfl,⟨trivial,trivial,trivial,⟨.b (.one (.sl 1 (fixed0.map eB))),fun _=>rfl,fun _=>.p (by exact af rfl)⟩,⟨I (fixed0.length:Int),fun _=>rfl,fun _=>.p (by exact aF dw rfl (List.length_map _))⟩,⟨_,[106],.b (.row 106),rfl,fun _=>rfl,rfl,rfl,fun _=>.cW [101,102,104,105,106,107,108] (by exact .p (by exact bt (k:=106) (enc:=eI) ar e4 (by decide) (.cons .refl .nil) rfl rfl rfl)) (by exact rfl)⟩,trivial,trivial,⟨_,[],.b (.one .any),rfl,(fun e=>by simp at e),rfl,rfl,fun _=>.cW [101,102,104,105,107,108] (by exact .mV 107 rfl (.plain rfl (aU bl rfl rfl rfl rfl (Nat.le_of_ble_eq_true rfl) rfl))) (by exact rfl)⟩,trivial,trivial⟩,⟨by kernel_rfl,⟨⟨.b (.one (.sl 1 (fixed0.map eB))),fun _=>rfl,fun _=>.p (by exact af rfl)⟩,⟨I (fixed0.length:Int),fun _=>rfl,fun _=>.p (by exact aF dw rfl (List.length_map _))⟩,⟨_,[105],.b (.row 105),rfl,fun _=>rfl,rfl,rfl,fun _=>.cW [101,102,104,105,106,107,108] (by exact .p (by exact bt (k:=105) (enc:=eI) ar e3 (by decide) (.cons .refl .nil) rfl rfl rfl)) (by exact rfl)⟩,trivial,trivial,trivial,trivial,trivial,trivial,trivial,trivial⟩,⟨by kernel_rfl,⟨trivial,trivial,trivial,trivial,trivial,trivial,trivial,trivial,⟨_,[],.b (.one .any),rfl,(fun e=>by simp at e),rfl,rfl,fun _=>.cW [101,102,104,105,106,107,108] (by exact .mV 107 rfl (.plain rfl (aU bl rfl rfl rfl rfl (Nat.le_of_ble_eq_true rfl) rfl))) (by exact rfl)⟩,trivial,trivial⟩,⟨by kernel_rfl,⟨trivial,trivial,trivial,⟨.b (.one (.sl 1 (fixed0.map eB))),fun _=>rfl,fun _=>.p (by exact af rfl)⟩,⟨I (fixed0.length:Int),fun _=>rfl,fun _=>.p (by exact aF dw rfl (List.length_map _))⟩,⟨_,[106],.b (.row 106),rfl,fun _=>rfl,rfl,rfl,fun _=>.cW [101,102,104,105,106,107,108] (by exact .p (by exact bt (k:=106) (enc:=eI) ar e4 (by decide) (.cons .refl .nil) rfl rfl rfl)) (by exact rfl)⟩,trivial,trivial,trivial,trivial,trivial⟩,⟨by kernel_rfl,⟨trivial,trivial,trivial,trivial,trivial,trivial,trivial,trivial,trivial,⟨_,[],.b (.one .any),rfl,(fun e=>by simp at e),rfl,rfl,fun _=>.cW [101,102,104,105,106,107,108] (by exact .mV 108 rfl (.plain rfl (aU bl rfl rfl rfl rfl (Nat.le_of_ble_eq_true rfl) rfl))) (by exact rfl)⟩,trivial⟩,⟨by kernel_rfl,⟨trivial,trivial,trivial,trivial,trivial,trivial,trivial,trivial,trivial,trivial,trivial⟩,trivial⟩⟩⟩⟩⟩⟩⟩⟩⟩⟩⟩⟩⟩⟩⟩⟩⟩⟩⟩) rfl rfl rfl [0,4,5,6,7,8] [101,102,104,105,106,107,108] (s':=⟨[(0,.b (.one (.sl 1 (fixed0.map eB)))),(4,Pt 101 0),(5,Pt 102 0),(6,Pt 104 0),(7,Pt 107 0),(8,Pt 108 0)],[(101,.box 30 [.nil]),(102,.box 30 [.nil]),(104,.box 56 [.sl 1 (x_2.map (eL 2 aW))]),(105,.row 3 1 (x_3.map eI)),(106,.row 3 1 (x_4.map eI)),(107,.aj 30 [.row 105]),(108,.aj 30 [.row 106])]⟩) rfl ?_
 refine ab.seq (ab.aa ?_)
 refine Oc (bp (k:=109) tyZero3 rfl) (Oc (dg aE rfl rfl rfl (Nat.le_of_ble_eq_true rfl) rfl) ?_)
 refine ae.ak ⟨[(0,_),(4,_),(5,_),(6,_),(7,_),(8,_),(9,Pt 109 0)],[(101,_),(102,_),(104,_),(105,_),(106,_),(107,_),(108,_),(109,.box 3 [.i 0])]⟩ rfl (ab.seq (ab.aa ?_))
 refine Oc (bp (k:=110) rK rfl) (ae.ak ⟨[(0,_),(4,_),(5,_),(6,_),(7,_),(8,_),(9,_),(10,Pt 110 0)],[(101,_),(102,_),(104,_),(105,_),(106,_),(107,_),(108,_),(109,_),(110,.box 80 [.raw .nilFunc])]⟩ rfl (ab.seq (ab.aa ?_)))
 refine Oc (oS rfl rfl) (ae.mV 110 rfl (Oc (aU nM rfl rfl rfl rfl (Nat.le_of_ble_eq_true rfl) rfl) (ae.ak ⟨[(0,.b (.one (.sl 1 (fixed0.map eB)))),(4,Pt 101 0),(5,Pt 102 0),(7,Pt 107 0),(10,Pt 110 0)],[(101,.box 30 [.nil]),(102,.box 30 [.nil]),(104,.box 56 [.sl 1 (x_2.map (eL 2 aW))]),(105,.row 3 1 (x_3.map eI)),(106,.row 3 1 (x_4.map eI)),(107,.aj 30 [.row 105]),(108,.aj 30 [.row 106]),(109,.box 3 [.i 0]),(110,.aj 80 [.gh 53 [] [.ptr 109 0,.ptr 107 0,.ptr 108 0,.ptr 104 0,.ptr 110 0,.ptr 102 0,.ptr 101 0]])]⟩ rfl ?_)))
 obtain ⟨v5,h6,h⟩:=aL h
 refine ab.cO (v:=v5) (cA fun (keysf0_5:List Int) (bridgesf0_6:List Int)=>⟨[(4,Pt 101 0),(5,Pt 102 0)],[(101,.aj 30 [.row 112]),(102,.aj 30 [.row 111]),(111,.row 3 1 (bridgesf0_6.map eI)),(112,.row 3 1 (keysf0_5.map eI))]⟩) (fun z=>z) ?_ ?_
 ·refine ab.seq (ab.aa ?_)
  refine Oc om (Oc (aF dw rfl (List.length_map _)) (Oc om ?_))
  refine ae.ak ⟨[(4,Pt 101 0),(5,Pt 102 0),(7,Pt 107 0),(10,Pt 110 0),(27,.b (.one (.sl 1 (fixed0.map eB)))),(28,I (fixed0.length:Int)),(29,I 0)],[(101,.box 30 [.nil]),(102,.box 30 [.nil]),(104,.box 56 [.sl 1 (x_2.map (eL 2 aW))]),(105,.row 3 1 (x_3.map eI)),(106,.row 3 1 (x_4.map eI)),(107,.aj 30 [.row 105]),(108,.aj 30 [.row 106]),(109,.box 3 [.i 0]),(110,.aj 80 [.gh 53 [] [.ptr 109 0,.ptr 107 0,.ptr 108 0,.ptr 104 0,.ptr 110 0,.ptr 102 0,.ptr 101 0]])]⟩ rfl (ab.block (ab.mV 101 rfl (ab.eG 101 0 112 1 3 rfl rfl (by decide) (by decide) rfl (ab.mV 102 rfl (ab.eG 102 0 111 1 3 rfl rfl (by decide) (by decide) rfl ?_)))))
  refine ab.cK h6 (un6 fun (keysf0_7:List Int) (bridgesf0_8:List Int) (seenf0_9:List Int) (visitf0_10:Int) (visitf0f0_11:List Int) (x_12:Int)=>⟨[(4,Pt 101 0),(5,Pt 102 0),(7,Pt 107 0),(10,Pt 110 0),(27,.b (.one (.sl 1 (fixed0.map eB)))),(28,I (fixed0.length:Int)),(29,I x_12)],[(101,.aj 30 [.row 112]),(102,.aj 30 [.row 111]),(104,.box 56 [.sl 1 (x_2.map (eL 2 aW))]),(105,.row 3 1 (seenf0_9.map eI)),(106,.row 3 1 (visitf0f0_11.map eI)),(107,.aj 30 [.row 105]),(108,.aj 30 [.row 106]),(109,.box 3 [.i visitf0_10]),(110,.aj 80 [.gh 53 [] [.ptr 109 0,.ptr 107 0,.ptr 108 0,.ptr 104 0,.ptr 110 0,.ptr 102 0,.ptr 101 0]]),(111,.row 3 1 (bridgesf0_8.map eI)),(112,.row 3 1 (keysf0_7.map eI))]⟩) [4,5,7,10,27,28,29] [101,102,104,105,106,107,108,109,110,111,112] rfl ?_
  rintro ⟨keysf0_7,bridgesf0_8,seenf0_9,visitf0_10,visitf0f0_11,x_12⟩ o7 h8 hy9
  refine ab.seq (ab.aa ?_)
  refine Oc (bD rfl rfl) (ae.ak ⟨[(4,_),(5,_),(7,_),(10,_),(27,_),(28,_),(29,_),(30,B (decide (x_12 < (fixed0.length:Int))))],[(101,_),(102,_),(104,_),(105,_),(106,_),(107,_),(108,_),(109,_),(110,_),(111,_),(112,_)]⟩ rfl (ab.seq (ab.ite h8 rfl (fun _ h8=>?_) (fun _ h8=>?_))))
  ·refine ab.skip (Fin.ag ⟨[(4,_),(5,_),(7,_),(10,_),(27,_),(28,_),(29,_)],[(101,_),(102,_),(104,_),(105,_),(106,_),(107,_),(108,_),(109,_),(110,_),(111,_),(112,_)]⟩ rfl (Fin.then ?_))
   obtain ⟨v10,h11,h8⟩:=aL h8
   refine ab.cO (v:=v10) (un5 fun (keysf0_15:List Int) (bridgesf0_16:List Int) (seenf0_17:List Int) (visitf0_18:Int) (visitf0f0_19:List Int)=>⟨[(4,Pt 101 0),(5,Pt 102 0),(7,Pt 107 0),(10,Pt 110 0),(27,.b (.one (.sl 1 (fixed0.map eB)))),(28,I (fixed0.length:Int)),(29,I x_12)],[(101,.aj 30 [.row 112]),(102,.aj 30 [.row 111]),(104,.box 56 [.sl 1 (x_2.map (eL 2 aW))]),(105,.row 3 1 (seenf0_17.map eI)),(106,.row 3 1 (visitf0f0_19.map eI)),(107,.aj 30 [.row 105]),(108,.aj 30 [.row 106]),(109,.box 3 [.i visitf0_18]),(110,.aj 80 [.gh 53 [] [.ptr 109 0,.ptr 107 0,.ptr 108 0,.ptr 104 0,.ptr 110 0,.ptr 102 0,.ptr 101 0]]),(111,.row 3 1 (bridgesf0_16.map eI)),(112,.row 3 1 (keysf0_15.map eI))]⟩) (fun z=>z) ?_ ?_
   ·refine ab.block (ab.seq (ab.aa ?_))
    refine Oc om ?_
    obtain ⟨x_20,e12,h11⟩:=aL h11
    refine Oc (ax lj (aH e12) (aD (e:=eB) e12) rfl rfl) (Oc (ba mu rfl rfl) (Oc oa (Oc oa ?_)))
    refine ae.ak ⟨[(4,_),(5,_),(7,_),(10,_),(11,I x_12),(12,B x_20),(27,_),(28,_),(29,_)],[(101,_),(102,_),(104,_),(105,_),(106,_),(107,_),(108,_),(109,_),(110,_),(111,_),(112,_)]⟩ rfl (ab.seq (ab.aa ?_))
    refine Oc om (Oc (ep rfl) (Oc om ?_))
    refine dW (!x_20) [] (fun g13=>trivial) (fun g13=>aw bl rfl rfl rfl) (dW (!x_20) [] (fun g14=>trivial) (fun g14=>om) ?_)
    obtain ⟨x_21,e16,h11⟩:=aL h11
    refine dW (!x_20) [37,38] (fun g15=>⟨g15,g15,trivial⟩) (fun g15=>ay ar (aH (gc e16 g15)) (bh (gc e16 g15)) rfl rfl rfl rfl) (dW (!x_20) [39] (fun g17=>⟨g17,trivial⟩) (fun g17=>aX (i:=(x_12:Int).toNat) (f:=0) aE rfl rfl rfl (aD (e:=eI) (gc e16 g17)) rfl) (dW (!x_20) [40] (fun g18=>⟨g18,trivial⟩) (fun g18=>er rfl rfl) (Oc (bq (fun e=>e) rfl rfl rfl rfl) (ae.ak ⟨[(4,_),(5,_),(7,_),(10,_),(11,_),(27,_),(28,_),(29,_),(42,B ((!x_20) && (decide (x_21 = 0))))],[(101,_),(102,_),(104,_),(105,_),(106,_),(107,_),(108,_),(109,_),(110,_),(111,_),(112,_)]⟩ rfl (ab.ite h11 rfl (fun _ h11=>?_) (fun _ h11=>?_))))))
    ·refine ab.aa (Oc (aw nM rfl rfl rfl) (Oc om ?_))
     obtain ⟨⟨x_22,x_23,x_24,x_25,x_26⟩,e19,h11⟩:=aL h11
     refine Oc (oy (own_a:=[(109,_),(107,_),(105,_),(108,_),(106,_),(104,_),(110,_),(102,_),(111,_),(101,_),(112,_)]) (aC.cast (own2:=[(109,.box 3 [.i visitf0_10]),(107,.aj 30 [.row 105]),(105,.row 3 1 (seenf0_9.map eI)),(108,.aj 30 [.row 106]),(106,.row 3 1 (visitf0f0_11.map eI)),(104,.box 56 [.sl 1 (x_2.map (eL 2 aW))]),(110,.aj 80 [.gh 53 [] [.ptr 109 0,.ptr 107 0,.ptr 108 0,.ptr 104 0,.ptr 110 0,.ptr 102 0,.ptr 101 0]]),(102,.aj 30 [.row 111]),(111,.row 3 1 (bridgesf0_8.map eI)),(101,.aj 30 [.row 112]),(112,.row 3 1 (keysf0_7.map eI))]) (args2:=[.one (.i x_12),.one (.i (-1)),.ptr 109 0,.ptr 107 0,.ptr 108 0,.ptr 104 0,.ptr 110 0,.ptr 102 0,.ptr 101 0]) (own2':=[(109,.box 3 [.i x_22]),(107,.aj 30 [.row 105]),(105,.row 3 1 (x_23.map eI)),(108,.aj 30 [.row 106]),(106,.row 3 1 (x_24.map eI)),(104,.box 56 [.sl 1 (x_2.map (eL 2 aW))]),(110,.aj 80 [.gh 53 [] [.ptr 109 0,.ptr 107 0,.ptr 108 0,.ptr 104 0,.ptr 110 0,.ptr 102 0,.ptr 101 0]]),(102,.aj 30 [.row 111]),(111,.row 3 1 (x_25.map eI)),(101,.aj 30 [.row 112]),(112,.row 3 1 (x_26.map eI))]) (res2:=.eP []) ((((((((((((kz e19).sw 1 109).sw 2 107).sw 3 105).sw 4 108).sw 5 106).sw 6 104).sw 7 110).sw 8 102).sw 9 111).sw 10 101).sw 11 112) (by kernel_rfl) (by kernel_rfl) (by kernel_rfl) (by kernel_rfl)) ri rfl rfl rfl ⟨rfl,rfl,rfl,rfl,rfl,rfl,rfl,rfl,rfl,rfl,rfl,trivial⟩ rfl rfl) (ae.ag ⟨[(4,Pt 101 0),(5,Pt 102 0),(7,Pt 107 0),(10,Pt 110 0),(11,I x_12),(27,.b (.one (.sl 1 (fixed0.map eB)))),(28,I (fixed0.length:Int)),(29,I x_12),(42,B ((!x_20) && (decide (x_21 = 0)))),(43,.b (.gh 53 [] [.ptr 109 0,.ptr 107 0,.ptr 108 0,.ptr 104 0,.ptr 110 0,.ptr 102 0,.ptr 101 0])),(44,I x_12),(45,.eP [])],[(101,.aj 30 [.row 112]),(102,.aj 30 [.row 111]),(104,.box 56 [.sl 1 (x_2.map (eL 2 aW))]),(105,.row 3 1 (x_23.map eI)),(106,.row 3 1 (x_24.map eI)),(107,.aj 30 [.row 105]),(108,.aj 30 [.row 106]),(109,.box 3 [.i x_22]),(110,.aj 80 [.gh 53 [] [.ptr 109 0,.ptr 107 0,.ptr 108 0,.ptr 104 0,.ptr 110 0,.ptr 102 0,.ptr 101 0]]),(111,.row 3 1 (x_25.map eI)),(112,.row 3 1 (x_26.map eI))]⟩ (by kernel_rfl) (ae.nil (Fin.ai ?_)))
     exact Fin.join [4,5,7,10,27,28,29] [101,102,104,105,106,107,108,109,110,111,112] (x_26,x_25,x_23,x_22,x_24) (Option.some.inj h11) rfl
    ·refine ab.skip (Fin.ai ?_)
     exact Fin.join [4,5,7,10,27,28,29] [101,102,104,105,106,107,108,109,110,111,112] (keysf0_7,bridgesf0_8,seenf0_9,visitf0_10,visitf0f0_11) (Option.some.inj h11) rfl
   ·rintro ⟨keysf0_15,bridgesf0_16,seenf0_17,visitf0_18,visitf0f0_19⟩ hv
    subst v10
    refine ab.aa (Oc (aQ rfl rfl) (Oc om ?_))
    refine ae.nil ?_
    exact Fin.bj [4,5,7,10,27,28,29] [101,102,104,105,106,107,108,109,110,111,112] (keysf0_15,bridgesf0_16,seenf0_17,visitf0_18,visitf0f0_19,IntKind.i64.wrap (x_12 + 1)) (Option.some.inj h8) rfl
  ·refine ab.exit (Fin.an ?_)
   obtain rfl:=hy9 _ (Option.some.inj h8).symm
   refine Fin.an (Fin.aM ?_)
   exact Fin.join [4,5] [101,102,111,112] (keysf0_7,bridgesf0_8) rfl rfl
 ·rintro ⟨keysf0_5,bridgesf0_6⟩ hv
  subst v5
  refine ab.seq (ab.aa ?_)
  refine Oc (aw bl rfl rfl rfl) (ae.jO 112 rfl ?_)
  obtain ⟨x_27,e20,h⟩:=aL h
  refine Oc (bw (own_a:=[(112,_)]) ((ef e20).sw 1 112) nJ rfl ⟨rfl,trivial⟩ rfl rfl) (ae.kB 112 rfl (ae.ak ⟨[(4,_),(5,_)],[(101,_),(102,_),(111,_),(112,.row 3 1 (x_27.map eI))]⟩ rfl (ab.seq (ab.aa ?_))))
  refine Oc (aw bl rfl rfl rfl) (ae.jO 111 rfl ?_)
  obtain ⟨x_28,e21,h⟩:=aL h
  refine Oc (bw (own_a:=[(111,_)]) ((ef e21).sw 1 111) nJ rfl ⟨rfl,trivial⟩ rfl rfl) (ae.kB 111 rfl (ae.ak ⟨[(4,_),(5,_)],[(101,_),(102,_),(111,.row 3 1 (x_28.map eI)),(112,_)]⟩ rfl (ab.seq (ab.gQ mixed [false,false,true,true] [.b (.row 112),.b (.row 111),B true,B true] [⟨[false,false,false,false],[(4,Pt 101 0),(5,Pt 102 0)],[(101,.aj 30 [.row 112]),(102,.aj 30 [.row 111]),(111,.row 3 1 (x_28.map eI)),(112,.row 3 1 (x_27.map eI))],[true,true,true,true],[],[3]⟩,⟨[false,false,true,false],[(4,Pt 101 0),(5,Pt 102 0)],[(101,.aj 30 [.row 112]),(102,.aj 30 [.row 111]),(111,.row 3 1 (x_28.map eI)),(112,.row 3 1 (x_27.map eI))],[true,true,true,true],[0,2],[]⟩,⟨[false,false,true,true],[(4,Pt 101 0),(5,Pt 102 0)],[(101,.aj 30 [.row 112]),(102,.aj 30 [.row 111]),(111,.row 3 1 (x_28.map eI)),(112,.row 3 1 (x_27.map eI))],[true,true,true,true],[0,1,2,3],[]⟩] rfl (⟨by kernel_rfl,⟨⟨.b (.row 112),fun _=>rfl,fun _=>.p (by exact aw bl rfl rfl rfl)⟩,⟨.b (.row 111),fun _=>rfl,fun _=>.p (by exact aw bl rfl rfl rfl)⟩,⟨_,[],.b (.one .any),rfl,(fun e=>by simp at e),rfl,rfl,fun _=>.cW [101,102,111,112] (by exact .p (by exact aU bl rfl rfl rfl rfl (Nat.le_of_ble_eq_true rfl) rfl)) (by exact rfl)⟩,trivial,trivial⟩,⟨by kernel_rfl,⟨trivial,⟨.b (.row 111),fun _=>rfl,fun _=>.p (by exact aw bl rfl rfl rfl)⟩,trivial,⟨_,[],.b (.one .any),rfl,(fun e=>by simp at e),rfl,rfl,fun _=>.cW [101,102,111,112] (by exact .p (by exact aU bl rfl rfl rfl rfl (Nat.le_of_ble_eq_true rfl) rfl)) (by exact rfl)⟩,trivial⟩,⟨by kernel_rfl,⟨trivial,trivial,trivial,trivial,trivial⟩,trivial⟩⟩⟩) rfl rfl rfl [4,5] [101,102,111,112] (s':=⟨[(4,_),(5,_)],[(101,_),(102,_),(111,_),(112,_)]⟩) rfl (ab.ret ?_)))))
  obtain rfl:=Option.some.inj h
  refine Fin.ag ⟨[(4,Pt 101 0),(5,Pt 102 0)],[(101,.aj 30 [.row 112]),(102,.aj 30 [.row 111]),(111,.row 3 1 (x_28.map eI)),(112,.row 3 1 (x_27.map eI))]⟩ rfl (Fin.bJ 112 rfl (Fin.qM 101 rfl rfl (Fin.bJ 111 rfl (Fin.qM 102 rfl rfl (Fin.bc [.one (.sl 1 (x_27.map eI)),.one (.sl 1 (x_28.map eI))] (.inl rfl) rfl (.cons (.one bl rfl rfl rfl) (.cons (.one bl rfl rfl rfl) .nil)) ⟨rfl,rfl⟩)))))
def en (F:Nat) (fixed0:List Bool) (links0:List A2):Option ((List Int) × Int) :=
 (bO F fixed0 links0).bind fun x_1=>if (!x_1) = true then (some ([],1)) else (Option.bind (eC F fixed0 links0) (cA fun x_2 x_3=>some (x_3,0)))
theorem jS {F:Nat} {fixed0:List Bool} {links0:List A2} {r:(List Int) × Int} (h:en F fixed0 links0 = some r):aC Try.prog [] 22 [] [.one (.sl 1 (fixed0.map eB)),.one (.sl 2 (links0.map (ah .i64)))] (Is [] (.eP [.one (.sl 1 (r.1.map eI)),.one (.i r.2)])):=by
 unfold en at h
 refine aC.intro 19 Try.func22 Try.ntmps22 rfl (by simp) fun E=>?_
 show ab _ E ⟨19,[],[],[]⟩ _ ⟨[(0,.b (.one (.sl 1 (fixed0.map eB)))),(1,.b (.one (.sl 2 (links0.map (ah .i64)))))],[]⟩ _
 refine ab.seq (ab.aa ?_)
 refine Oc oa (Oc oa ?_)
 refine ae.ak ⟨[(0,.b (.one (.sl 1 (fixed0.map eB)))),(1,.b (.one (.sl 2 (links0.map (ah .i64)))))],[]⟩ rfl (ab.seq (ab.seq (ab.aa ?_)))
 refine Oc om (Oc om ?_)
 obtain ⟨x_1,e1,h⟩:=aL h
 refine Oc (a8 (cy e1) lr rfl rfl) (Oc (ep rfl) ?_)
 refine ae.ak ⟨[(0,_),(1,_),(11,B (!x_1))],[]⟩ rfl (ab.ite h rfl (fun _ h=>?_) (fun _ h=>?_))
 ·refine ab.seq (ab.aa ?_)
  refine Oc oa (Oc oa ?_)
  refine ae.ak ⟨[(4,.b (.one (.nil))),(5,I 1)],[]⟩ rfl (ab.ret (Fin.aS ?_))
  obtain rfl:=Option.some.inj h
  refine Fin.ag ⟨[(4,_),(5,_)],[]⟩ rfl (Fin.ik 4 1 rfl (by decide) (Fin.bc [.one (.sl 1 ([].map eI)),.one (.i 1)] (.inl rfl) rfl (.cons (.tmp rfl) (.cons (.tmp rfl) .nil)) ⟨rfl,rfl⟩))
 ·refine ab.skip (Fin.ag ⟨[(0,_),(1,_)],[]⟩ rfl (Fin.then (ab.seq (ab.aa ?_))))
  refine Oc om (Oc om ?_)
  obtain ⟨⟨x_2,x_3⟩,e2,h⟩:=aL h
  refine Oc (a8 (iA e2) rn rfl rfl) (Oc om (Oc (aA rfl rfl) ?_))
  refine ae.ag ⟨[(12,.eP [.one (.sl 1 (x_2.map eI)),.one (.sl 1 (x_3.map eI))]),(16,.b (.one (.sl 1 (x_2.map eI))))],[]⟩ rfl (Oc (aA rfl rfl) (Oc oa (Oc oa ?_)))
  refine ae.ak ⟨[(7,.b (.one (.sl 1 (x_3.map eI))))],[]⟩ rfl (ab.seq (ab.aa ?_))
  refine Oc om (Oc oa (Oc oa ?_))
  refine ae.ak ⟨[(4,.b (.one (.sl 1 (x_3.map eI)))),(5,I 0)],[]⟩ rfl (ab.ret ?_)
  obtain rfl:=Option.some.inj h
  refine Fin.ag ⟨[(4,_),(5,_)],[]⟩ rfl (Fin.bc [.one (.sl 1 (x_3.map eI)),.one (.i 0)] (.inl rfl) rfl (.cons (.tmp rfl) (.cons (.tmp rfl) .nil)) ⟨rfl,rfl⟩)
def fK (F:Nat) (fixed0:List Bool) (links0:List A2):Option ((List Int) × Int) :=
 (bO F fixed0 links0).bind fun x_1=>if (!x_1) = true then (some ([],1)) else (Option.bind (eC F fixed0 links0) (cA fun x_2 x_3=>some (x_2,0)))
theorem lO {F:Nat} {fixed0:List Bool} {links0:List A2} {r:(List Int) × Int} (h:fK F fixed0 links0 = some r):aC Try.prog [] 21 [] [.one (.sl 1 (fixed0.map eB)),.one (.sl 2 (links0.map (ah .i64)))] (Is [] (.eP [.one (.sl 1 (r.1.map eI)),.one (.i r.2)])):=by
 unfold fK at h
 refine aC.intro 19 Try.func21 Try.ntmps21 rfl (by simp) fun E=>?_
 show ab _ E ⟨19,[],[],[]⟩ _ ⟨[(0,.b (.one (.sl 1 (fixed0.map eB)))),(1,.b (.one (.sl 2 (links0.map (ah .i64)))))],[]⟩ _
 refine ab.seq (ab.aa ?_)
 refine Oc oa (Oc oa ?_)
 refine ae.ak ⟨[(0,.b (.one (.sl 1 (fixed0.map eB)))),(1,.b (.one (.sl 2 (links0.map (ah .i64)))))],[]⟩ rfl (ab.seq (ab.seq (ab.aa ?_)))
 refine Oc om (Oc om ?_)
 obtain ⟨x_1,e1,h⟩:=aL h
 refine Oc (a8 (cy e1) lr rfl rfl) (Oc (ep rfl) ?_)
 refine ae.ak ⟨[(0,_),(1,_),(11,B (!x_1))],[]⟩ rfl (ab.ite h rfl (fun _ h=>?_) (fun _ h=>?_))
 ·refine ab.seq (ab.aa ?_)
  refine Oc oa (Oc oa ?_)
  refine ae.ak ⟨[(4,.b (.one (.nil))),(5,I 1)],[]⟩ rfl (ab.ret (Fin.aS ?_))
  obtain rfl:=Option.some.inj h
  refine Fin.ag ⟨[(4,_),(5,_)],[]⟩ rfl (Fin.ik 4 1 rfl (by decide) (Fin.bc [.one (.sl 1 ([].map eI)),.one (.i 1)] (.inl rfl) rfl (.cons (.tmp rfl) (.cons (.tmp rfl) .nil)) ⟨rfl,rfl⟩))
 ·refine ab.skip (Fin.ag ⟨[(0,_),(1,_)],[]⟩ rfl (Fin.then (ab.seq (ab.aa ?_))))
  refine Oc om (Oc om ?_)
  obtain ⟨⟨x_2,x_3⟩,e2,h⟩:=aL h
  refine Oc (a8 (iA e2) rn rfl rfl) (Oc om (Oc (aA rfl rfl) ?_))
  refine ae.ag ⟨[(12,.eP [.one (.sl 1 (x_2.map eI)),.one (.sl 1 (x_3.map eI))]),(16,.b (.one (.sl 1 (x_2.map eI))))],[]⟩ rfl (Oc (aA rfl rfl) (Oc oa (Oc oa ?_)))
  refine ae.ak ⟨[(6,.b (.one (.sl 1 (x_2.map eI))))],[]⟩ rfl (ab.seq (ab.aa ?_))
  refine Oc om (Oc oa (Oc oa ?_))
  refine ae.ak ⟨[(4,.b (.one (.sl 1 (x_2.map eI)))),(5,I 0)],[]⟩ rfl (ab.ret ?_)
  obtain rfl:=Option.some.inj h
  refine Fin.ag ⟨[(4,_),(5,_)],[]⟩ rfl (Fin.bc [.one (.sl 1 (x_2.map eI)),.one (.i 0)] (.inl rfl) rfl (.cons (.tmp rfl) (.cons (.tmp rfl) .nil)) ⟨rfl,rfl⟩)
def cw (F:Nat) (lists0:List (List (List Int))):Option (List (List Int)) :=
 Option.bind (iter F (cA fun up_2 x_3=>if (decide (x_3 < (lists0.length:Int))) = true then (Option.bind ((aO lists0 x_3).bind fun x_6=>Option.bind (iter F (cA fun up_7 x_8=>if (decide (x_8 < (x_6.length:Int))) = true then (Option.bind ((aO x_6 x_8).bind fun x_11=>Option.bind (iter F (cA fun up_12 x_13=>if (decide (x_13 < (x_11.length:Int))) = true then ((aO x_11 x_13).bind fun x_15=>(aO x_11 0).bind fun x_16=>Option.bind (bR F x_16 x_15 up_12) (cA fun x_17 x_18=>some (.inl (x_18,IntKind.i64.wrap (x_13 + 1))))) else (some (.inr up_12))) (up_7,0)) (fun up_14=>some up_14)) (fun up_10=>some (.inl (up_10,IntKind.i64.wrap (x_8 + 1))))) else (some (.inr up_7))) (up_2,0)) (fun up_9=>some up_9)) (fun up_5=>some (.inl (up_5,IntKind.i64.wrap (x_3 + 1))))) else (some (.inr up_2))) (([]:bo),0)) (fun up_1=>Option.bind (bG F up_1) (cA fun x_19 x_20=>some x_19))
theorem hC {F:Nat} {lists0:List (List (List Int))} {r:(List (List Int))} (h:cw F lists0 = some r):aC Try.prog [] 27 [] [.one (.sl 1 (lists0.map (eL 1 (eL 1 eI))))] (Is [] (.b (.one (.sl 1 (r.map (eL 1 eI)))))):=by
 unfold cw at h
 refine aC.intro 41 Try.func27 Try.ntmps27 rfl (by simp) fun E=>?_
 show ab _ E ⟨41,[],[],[]⟩ _ ⟨[(0,.b (.one (.sl 1 (lists0.map (eL 1 (eL 1 eI))))))],[]⟩ _
 refine ab.seq (ab.aa ?_)
 refine Oc oa (ae.ak ⟨[(0,.b (.one (.sl 1 (lists0.map (eL 1 (eL 1 eI))))))],[]⟩ rfl (ab.seq (ab.aa ?_)))
 refine Oc (gV (k:=101) lg rfl) (Oc ((mJ nk rfl rfl).j7 rfl) (Oc (bp (k:=102) im rfl) ?_))
 refine ae.mV 102 rfl (Oc (fb cM rfl rfl rfl rfl rfl (Nat.le_of_ble_eq_true rfl) rfl) (ae.ak ⟨[(0,.b (.one (.sl 1 (lists0.map (eL 1 (eL 1 eI)))))),(3,Pt 102 0)],[(101,.mq ([]:bo)),(102,.aj 52 [.row 101])]⟩ rfl ?_))
 obtain ⟨v1,h2,h⟩:=aL h
 refine ab.cO (v:=v1) (fun (up_1:bo)=>⟨[(3,Pt 102 0)],[(101,.mq up_1),(102,.aj 52 [.row 101])]⟩) (fun z=>z) ?_ ?_
 ·refine ab.seq (ab.aa ?_)
  refine Oc om (Oc (aF und41 rfl (List.length_map _)) (Oc om ?_))
  refine ae.ak ⟨[(3,_),(12,.b (.one (.sl 1 (lists0.map (eL 1 (eL 1 eI)))))),(13,I (lists0.length:Int)),(14,I 0)],[(101,_),(102,_)]⟩ rfl (ab.block (ab.cK h2 (cA fun (up_2:bo) (x_3:Int)=>⟨[(3,Pt 102 0),(12,.b (.one (.sl 1 (lists0.map (eL 1 (eL 1 eI)))))),(13,I (lists0.length:Int)),(14,I x_3)],[(101,.mq up_2),(102,.aj 52 [.row 101])]⟩) [3,12,13,14] [101,102] rfl ?_))
  rintro ⟨up_2,x_3⟩ o3 h4 hy5
  refine ab.seq (ab.aa ?_)
  refine Oc (bD rfl rfl) (ae.ak ⟨[(3,_),(12,_),(13,_),(14,_),(15,B (decide (x_3 < (lists0.length:Int))))],[(101,_),(102,_)]⟩ rfl (ab.seq (ab.ite h4 rfl (fun _ h4=>?_) (fun _ h4=>?_))))
  ·refine ab.skip (Fin.ag ⟨[(3,_),(12,_),(13,_),(14,_)],[(101,_),(102,_)]⟩ rfl (Fin.then ?_))
   obtain ⟨v6,h7,h4⟩:=aL h4
   refine ab.cO (v:=v6) (fun (up_5:bo)=>⟨[(3,Pt 102 0),(12,.b (.one (.sl 1 (lists0.map (eL 1 (eL 1 eI)))))),(13,I (lists0.length:Int)),(14,I x_3)],[(101,.mq up_5),(102,.aj 52 [.row 101])]⟩) (fun z=>z) ?_ ?_
   ·refine ab.block (ab.seq (ab.aa ?_))
    obtain ⟨x_6,e8,h7⟩:=aL h7
    refine Oc (ax pb (aH e8) (aD (e:=(eL 1 (eL 1 eI))) e8) rfl rfl) (Oc (ba fW rfl rfl) (Oc oa ?_))
    refine ae.ak ⟨[(3,_),(5,.b (.one (.sl 1 (x_6.map (eL 1 eI))))),(12,_),(13,_),(14,_)],[(101,_),(102,_)]⟩ rfl (ab.seq (ab.aa ?_))
    refine Oc om (Oc (aF ml rfl (List.length_map _)) (Oc om ?_))
    refine ae.ak ⟨[(3,_),(12,_),(13,_),(14,_),(18,.b (.one (.sl 1 (x_6.map (eL 1 eI))))),(19,I (x_6.length:Int)),(20,I 0)],[(101,_),(102,_)]⟩ rfl (ab.block ?_)
    obtain ⟨v9,h10,h7⟩:=aL h7
    refine ab.cK h10 (cA fun (up_7:bo) (x_8:Int)=>⟨[(3,Pt 102 0),(12,.b (.one (.sl 1 (lists0.map (eL 1 (eL 1 eI)))))),(13,I (lists0.length:Int)),(14,I x_3),(18,.b (.one (.sl 1 (x_6.map (eL 1 eI))))),(19,I (x_6.length:Int)),(20,I x_8)],[(101,.mq up_7),(102,.aj 52 [.row 101])]⟩) [3,12,13,14,18,19,20] [101,102] rfl ?_
    rintro ⟨up_7,x_8⟩ o11 h12 hy13
    refine ab.seq (ab.aa ?_)
    refine Oc (bD rfl rfl) (ae.ak ⟨[(3,_),(12,_),(13,_),(14,_),(18,_),(19,_),(20,_),(21,B (decide (x_8 < (x_6.length:Int))))],[(101,_),(102,_)]⟩ rfl (ab.seq (ab.ite h12 rfl (fun _ h12=>?_) (fun _ h12=>?_))))
    ·refine ab.skip (Fin.ag ⟨[(3,_),(12,_),(13,_),(14,_),(18,_),(19,_),(20,_)],[(101,_),(102,_)]⟩ rfl (Fin.then ?_))
     obtain ⟨v14,h15,h12⟩:=aL h12
     refine ab.cO (v:=v14) (fun (up_10:bo)=>⟨[(3,Pt 102 0),(12,.b (.one (.sl 1 (lists0.map (eL 1 (eL 1 eI)))))),(13,I (lists0.length:Int)),(14,I x_3),(18,.b (.one (.sl 1 (x_6.map (eL 1 eI))))),(19,I (x_6.length:Int)),(20,I x_8)],[(101,.mq up_10),(102,.aj 52 [.row 101])]⟩) (fun z=>z) ?_ ?_
     ·refine ab.block (ab.seq (ab.aa ?_))
      obtain ⟨x_11,e16,h15⟩:=aL h15
      refine Oc (ax eT (aH e16) (aD (e:=(eL 1 eI)) e16) rfl rfl) (Oc (ba bl rfl rfl) (Oc oa ?_))
      refine ae.ak ⟨[(3,_),(7,.b (.one (.sl 1 (x_11.map eI)))),(12,_),(13,_),(14,_),(18,_),(19,_),(20,_)],[(101,_),(102,_)]⟩ rfl (ab.seq (ab.aa ?_))
      refine Oc om (Oc (aF iU rfl (List.length_map _)) (Oc om ?_))
      refine ae.ak ⟨[(3,_),(7,_),(12,_),(13,_),(14,_),(18,_),(19,_),(20,_),(24,.b (.one (.sl 1 (x_11.map eI)))),(25,I (x_11.length:Int)),(26,I 0)],[(101,_),(102,_)]⟩ rfl (ab.block ?_)
      obtain ⟨v17,h18,h15⟩:=aL h15
      refine ab.cK h18 (cA fun (up_12:bo) (x_13:Int)=>⟨[(3,Pt 102 0),(7,.b (.one (.sl 1 (x_11.map eI)))),(12,.b (.one (.sl 1 (lists0.map (eL 1 (eL 1 eI)))))),(13,I (lists0.length:Int)),(14,I x_3),(18,.b (.one (.sl 1 (x_6.map (eL 1 eI))))),(19,I (x_6.length:Int)),(20,I x_8),(24,.b (.one (.sl 1 (x_11.map eI)))),(25,I (x_11.length:Int)),(26,I x_13)],[(101,.mq up_12),(102,.aj 52 [.row 101])]⟩) [3,7,12,13,14,18,19,20,24,25,26] [101,102] rfl ?_
      rintro ⟨up_12,x_13⟩ o19 h20 hy21
      refine ab.seq (ab.aa ?_)
      refine Oc (bD rfl rfl) (ae.ak ⟨[(3,_),(7,_),(12,_),(13,_),(14,_),(18,_),(19,_),(20,_),(24,_),(25,_),(26,_),(27,B (decide (x_13 < (x_11.length:Int))))],[(101,_),(102,_)]⟩ rfl (ab.seq (ab.ite h20 rfl (fun _ h20=>?_) (fun _ h20=>?_))))
      ·refine ab.skip (Fin.ag ⟨[(3,_),(7,_),(12,_),(13,_),(14,_),(18,_),(19,_),(20,_),(24,_),(25,_),(26,_)],[(101,_),(102,_)]⟩ rfl (Fin.then (ab.seq (ab.block (ab.seq (ab.aa ?_))))))
       obtain ⟨x_15,e22,h20⟩:=aL h20
       refine Oc (ax ar (aH e22) (aD (e:=eI) e22) rfl rfl) (Oc (ba aE rfl rfl) (Oc oa ?_))
       refine ae.ak ⟨[(3,_),(7,_),(9,I x_15),(12,_),(13,_),(14,_),(18,_),(19,_),(20,_),(24,_),(25,_),(26,_)],[(101,_),(102,_)]⟩ rfl ?_
       obtain ⟨x_16,e23,h20⟩:=aL h20
       obtain ⟨⟨x_17,x_18⟩,e24,h20⟩:=aL h20
       refine ab.kU mixed 5 [.b (.xa [.row 101]),.b (.one (.sl 1 (x_11.map eI))),.b (.bA [.i x_16]),I x_16,I x_15] [3,7,12,13,14,18,19,20,24,25,26] [101,102] (s':=⟨[(3,_),(7,_),(12,_),(13,_),(14,_),(18,_),(19,_),(20,_),(24,_),(25,_),(26,_)],[(101,.mq x_18),(102,_)]⟩) rfl ⟨fun _=>.p ((cE cM rfl rfl rfl rfl).j7 rfl),fun _=>.p om,fun _=>.p (ax ar (aH e23) (aD (e:=eI) e23) rfl rfl),fun _=>.p (ba aE rfl rfl),fun _=>.p om,trivial⟩ ⟨_,by exact .p (bw (own_a:=[(101,_)]) ((eF e24).sw 1 101) rm rfl ⟨rfl,trivial⟩ rfl rfl),rfl⟩ rfl (Fin.ai (Fin.ag ⟨[(3,_),(7,_),(12,_),(13,_),(14,_),(18,_),(19,_),(20,_),(24,_),(25,_),(26,_)],[(101,_),(102,_)]⟩ rfl (Fin.then (ab.aa ?_))))
       refine Oc (aQ rfl rfl) (Oc om ?_)
       refine ae.nil ?_
       exact Fin.bj [3,7,12,13,14,18,19,20,24,25,26] [101,102] (x_18,IntKind.i64.wrap (x_13 + 1)) (Option.some.inj h20) rfl
      ·refine ab.exit (Fin.an ?_)
       obtain rfl:=hy21 _ (Option.some.inj h20).symm
       refine Fin.an (Fin.aM (Fin.ai ?_))
       exact Fin.join [3,12,13,14,18,19,20] [101,102] up_12 (Option.some.inj h15) rfl
     ·rintro up_10 hv
      subst v14
      refine ab.aa (Oc (aQ rfl rfl) (Oc om ?_))
      refine ae.nil ?_
      exact Fin.bj [3,12,13,14,18,19,20] [101,102] (up_10,IntKind.i64.wrap (x_8 + 1)) (Option.some.inj h12) rfl
    ·refine ab.exit (Fin.an ?_)
     obtain rfl:=hy13 _ (Option.some.inj h12).symm
     refine Fin.an (Fin.aM (Fin.ai ?_))
     exact Fin.join [3,12,13,14] [101,102] up_7 (Option.some.inj h7) rfl
   ·rintro up_5 hv
    subst v6
    refine ab.aa (Oc (aQ rfl rfl) (Oc om ?_))
    refine ae.nil ?_
    exact Fin.bj [3,12,13,14] [101,102] (up_5,IntKind.i64.wrap (x_3 + 1)) (Option.some.inj h4) rfl
  ·refine ab.exit (Fin.an ?_)
   obtain rfl:=hy5 _ (Option.some.inj h4).symm
   refine Fin.an (Fin.aM ?_)
   exact Fin.join [3] [101,102] up_2 rfl rfl
 ·rintro up_1 hv
  subst v1
  refine ab.seq (ab.aa ?_)
  refine Oc ((cE cM rfl rfl rfl rfl).j7 rfl) ?_
  obtain ⟨⟨x_19,x_20⟩,e25,h⟩:=aL h
  refine Oc (bw (own_a:=[(101,_)]) ((eE e25).sw 1 101) pn rfl ⟨rfl,trivial⟩ rfl rfl) (Oc oa ?_)
  refine ae.ak ⟨[(2,.b (.one (.sl 1 (x_19.map (eL 1 eI)))))],[]⟩ rfl (ab.ret ?_)
  obtain rfl:=Option.some.inj h
  refine Fin.ag ⟨[(2,_)],[]⟩ rfl (Fin.bc [.one (.sl 1 (x_19.map (eL 1 eI)))] (.inl rfl) rfl (.cons (.tmp rfl) .nil) ⟨rfl,rfl⟩)
def bu (F:Nat) (a0:List Int) (b0:List Int):Option Bool :=
 if (decide ((a0.length:Int) ≠ (b0.length:Int))) = true then (some false) else (Option.bind (iter F (fun i_1=>if (decide (i_1 < (a0.length:Int))) = true then ((aO a0 i_1).bind fun x_2=>(aO b0 i_1).bind fun x_3=>if (decide (x_2 ≠ x_3)) = true then (some (.inr (.inr false))) else (some (.inl (IntKind.i64.wrap (i_1 + 1))))) else (some (.inr (.inl ())))) 0) (iC (fun _=>some true) (fun y=>some y)))
theorem bX {F:Nat} {a0:List Int} {b0:List Int} {r:Bool} (h:bu F a0 b0 = some r):aC Try.prog [] 19 [] [.one (.sl 1 (a0.map eI)),.one (.sl 1 (b0.map eI))] (Is [] (.b (.one (.bool r)))):=by
 unfold bu at h
 refine aC.intro 26 Try.func19 Try.ntmps19 rfl (by simp) fun E=>?_
 show ab _ E ⟨26,[],[],[]⟩ _ ⟨[(0,.b (.one (.sl 1 (a0.map eI)))),(1,.b (.one (.sl 1 (b0.map eI))))],[]⟩ _
 refine ab.seq (ab.aa ?_)
 refine Oc oa (ae.ak ⟨[(0,.b (.one (.sl 1 (a0.map eI)))),(1,.b (.one (.sl 1 (b0.map eI))))],[]⟩ rfl (ab.seq (ab.seq (ab.aa ?_))))
 refine Oc om (Oc (aF iU rfl (List.length_map _)) (Oc om (Oc (aF iU rfl (List.length_map _)) (Oc (gr rfl rfl) ?_))))
 refine ae.ak ⟨[(0,_),(1,_),(10,B (decide ((a0.length:Int) ≠ (b0.length:Int))))],[]⟩ rfl (ab.ite h rfl (fun _ h=>?_) (fun _ h=>?_))
 ·refine ab.seq (ab.aa ?_)
  refine Oc oa (ae.ak ⟨[(4,B false)],[]⟩ rfl (ab.ret (Fin.aS ?_)))
  obtain rfl:=Option.some.inj h
  refine Fin.ag ⟨[(4,_)],[]⟩ rfl (Fin.bc [.one (.bool false)] (.inl rfl) rfl (.cons (.tmp rfl) .nil) ⟨rfl,rfl⟩)
 ·refine ab.skip (Fin.ag ⟨[(0,_),(1,_)],[]⟩ rfl (Fin.then ?_))
  obtain ⟨v1,h2,h⟩:=aL h
  refine ab.cO (v:=v1) (fun (_:Unit)=>⟨[],[]⟩) (fun z=>.inl z) ?_ ?_
  ·refine ab.seq (ab.aa ?_)
   refine Oc oa (ae.ak ⟨[(0,_),(1,_),(5,I 0)],[]⟩ rfl (ab.block (ab.cK h2 (fun (i_1:Int)=>⟨[(0,.b (.one (.sl 1 (a0.map eI)))),(1,.b (.one (.sl 1 (b0.map eI)))),(5,I i_1)],[]⟩) [0,1,5] [] rfl ?_)))
   rintro i_1 o3 h4 hy5
   refine ab.seq (ab.seq (ab.aa ?_))
   refine Oc om (Oc om (Oc (aF iU rfl (List.length_map _)) (Oc (bD rfl rfl) ?_)))
   refine ae.ak ⟨[(0,_),(1,_),(5,_),(14,B (decide (i_1 < (a0.length:Int))))],[]⟩ rfl (ab.ite h4 rfl (fun _ h4=>?_) (fun _ h4=>?_))
   ·refine ab.skip (Fin.ag ⟨[(0,_),(1,_),(5,_)],[]⟩ rfl (Fin.then (ab.seq (ab.block (ab.seq ?_)))))
    refine ab.ag ⟨[(0,_),(1,_),(5,_)],[]⟩ rfl ?_
    obtain ⟨x_2,e6,h4⟩:=aL h4
    obtain ⟨x_3,e7,h4⟩:=aL h4
    refine ab.dZ mixed 9 [.b (.one (.sl 1 (a0.map eI))),I i_1,.b (.bA [.i x_2]),I x_2,.b (.one (.sl 1 (b0.map eI))),I i_1,.b (.bA [.i x_3]),I x_3,B (decide (x_2 ≠ x_3))] [0,1,5,25] [] (s':=⟨[(0,_),(1,_),(5,_),(25,B (decide (x_2 ≠ x_3)))],[]⟩) rfl ⟨fun _=>.p om,fun _=>.p om,fun _=>.p (ax ar (aH e6) (aD (e:=eI) e6) rfl rfl),fun _=>.p (ba aE rfl rfl),fun _=>.p om,fun _=>.p om,fun _=>.p (ax ar (aH e7) (aD (e:=eI) e7) rfl rfl),fun _=>.p (ba aE rfl rfl),fun _=>.p (gr rfl rfl),trivial⟩ rfl rfl (ab.ite h4 rfl (fun _ h4=>?_) (fun _ h4=>?_))
    ·refine ab.seq (ab.aa ?_)
     refine Oc oa (ae.ak ⟨[(4,B false)],[]⟩ rfl (ab.ret (Fin.cx (Fin.aS ?_))))
     obtain rfl:=hy5 _ (Option.some.inj h4).symm
     refine Fin.aS (Fin.cx (Fin.aS ?_))
     obtain rfl:=Option.some.inj h
     refine Fin.ag ⟨[(4,_)],[]⟩ rfl (Fin.bc [.one (.bool false)] (.inl rfl) rfl (.cons (.tmp rfl) .nil) ⟨rfl,rfl⟩)
    ·refine ab.skip (Fin.ai (Fin.ag ⟨[(0,_),(1,_),(5,_)],[]⟩ rfl (Fin.then (ab.aa ?_))))
     refine Oc om (Oc (aQ rfl rfl) (Oc oa ?_))
     refine ae.nil ?_
     exact Fin.bj [0,1,5] [] (IntKind.i64.wrap (i_1 + 1)) (Option.some.inj h4) rfl
   ·refine ab.exit (Fin.an ?_)
    obtain rfl:=hy5 _ (Option.some.inj h4).symm
    refine Fin.an (Fin.aM ?_)
    exact Fin.join [] [] () rfl rfl
  ·rintro _ hv
   subst v1
   refine ab.seq (ab.aa ?_)
   refine Oc oa (ae.ak ⟨[(4,B true)],[]⟩ rfl (ab.ret ?_))
   obtain rfl:=Option.some.inj h
   refine Fin.ag ⟨[(4,_)],[]⟩ rfl (Fin.bc [.one (.bool true)] (.inl rfl) rfl (.cons (.tmp rfl) .nil) ⟨rfl,rfl⟩)
def bE (F:Nat) (a0:List (List Int)) (b0:List (List Int)):Option Bool :=
 if (decide ((a0.length:Int) ≠ (b0.length:Int))) = true then (some false) else (Option.bind (iter F (fun i_1=>if (decide (i_1 < (a0.length:Int))) = true then ((aO a0 i_1).bind fun x_2=>(aO b0 i_1).bind fun x_3=>(bu F x_2 x_3).bind fun x_4=>if (!x_4) = true then (some (.inr (.inr false))) else (some (.inl (IntKind.i64.wrap (i_1 + 1))))) else (some (.inr (.inl ())))) 0) (iC (fun _=>some true) (fun y=>some y)))
theorem cU {F:Nat} {a0:List (List Int)} {b0:List (List Int)} {r:Bool} (h:bE F a0 b0 = some r):aC Try.prog [] 18 [] [.one (.sl 1 (a0.map (eL 1 eI))),.one (.sl 1 (b0.map (eL 1 eI)))] (Is [] (.b (.one (.bool r)))):=by
 unfold bE at h
 refine aC.intro 27 Try.func18 Try.ntmps18 rfl (by simp) fun E=>?_
 show ab _ E ⟨27,[],[],[]⟩ _ ⟨[(0,.b (.one (.sl 1 (a0.map (eL 1 eI))))),(1,.b (.one (.sl 1 (b0.map (eL 1 eI)))))],[]⟩ _
 refine ab.seq (ab.aa ?_)
 refine Oc oa (ae.ak ⟨[(0,.b (.one (.sl 1 (a0.map (eL 1 eI))))),(1,.b (.one (.sl 1 (b0.map (eL 1 eI)))))],[]⟩ rfl (ab.seq (ab.seq (ab.aa ?_))))
 refine Oc om (Oc (aF ml rfl (List.length_map _)) (Oc om (Oc (aF ml rfl (List.length_map _)) (Oc (gr rfl rfl) ?_))))
 refine ae.ak ⟨[(0,_),(1,_),(10,B (decide ((a0.length:Int) ≠ (b0.length:Int))))],[]⟩ rfl (ab.ite h rfl (fun _ h=>?_) (fun _ h=>?_))
 ·refine ab.seq (ab.aa ?_)
  refine Oc oa (ae.ak ⟨[(4,B false)],[]⟩ rfl (ab.ret (Fin.aS ?_)))
  obtain rfl:=Option.some.inj h
  refine Fin.ag ⟨[(4,_)],[]⟩ rfl (Fin.bc [.one (.bool false)] (.inl rfl) rfl (.cons (.tmp rfl) .nil) ⟨rfl,rfl⟩)
 ·refine ab.skip (Fin.ag ⟨[(0,_),(1,_)],[]⟩ rfl (Fin.then ?_))
  obtain ⟨v1,h2,h⟩:=aL h
  refine ab.cO (v:=v1) (fun (_:Unit)=>⟨[],[]⟩) (fun z=>.inl z) ?_ ?_
  ·refine ab.seq (ab.aa ?_)
   refine Oc oa (ae.ak ⟨[(0,_),(1,_),(5,I 0)],[]⟩ rfl (ab.block (ab.cK h2 (fun (i_1:Int)=>⟨[(0,.b (.one (.sl 1 (a0.map (eL 1 eI))))),(1,.b (.one (.sl 1 (b0.map (eL 1 eI))))),(5,I i_1)],[]⟩) [0,1,5] [] rfl ?_)))
   rintro i_1 o3 h4 hy5
   refine ab.seq (ab.seq (ab.aa ?_))
   refine Oc om (Oc om (Oc (aF ml rfl (List.length_map _)) (Oc (bD rfl rfl) ?_)))
   refine ae.ak ⟨[(0,_),(1,_),(5,_),(14,B (decide (i_1 < (a0.length:Int))))],[]⟩ rfl (ab.ite h4 rfl (fun _ h4=>?_) (fun _ h4=>?_))
   ·refine ab.skip (Fin.ag ⟨[(0,_),(1,_),(5,_)],[]⟩ rfl (Fin.then (ab.seq (ab.block (ab.seq ?_)))))
    refine ab.ag ⟨[(0,_),(1,_),(5,_)],[]⟩ rfl ?_
    obtain ⟨x_2,e6,h4⟩:=aL h4
    obtain ⟨x_3,e7,h4⟩:=aL h4
    obtain ⟨x_4,e8,h4⟩:=aL h4
    refine ab.dZ mixed 10 [.b (.one (.sl 1 (a0.map (eL 1 eI)))),I i_1,.b (.bA [.sl 1 (x_2.map eI)]),.b (.one (.sl 1 (x_2.map eI))),.b (.one (.sl 1 (b0.map (eL 1 eI)))),I i_1,.b (.bA [.sl 1 (x_3.map eI)]),.b (.one (.sl 1 (x_3.map eI))),B x_4,B (!x_4)] [0,1,5,26] [] (s':=⟨[(0,_),(1,_),(5,_),(26,B (!x_4))],[]⟩) rfl ⟨fun _=>.p om,fun _=>.p om,fun _=>.p (ax eT (aH e6) (aD (e:=(eL 1 eI)) e6) rfl rfl),fun _=>.p (ba bl rfl rfl),fun _=>.p om,fun _=>.p om,fun _=>.p (ax eT (aH e7) (aD (e:=(eL 1 eI)) e7) rfl rfl),fun _=>.p (ba bl rfl rfl),fun _=>.p (a8 (bX e8) lu rfl rfl),fun _=>.p (ep rfl),trivial⟩ rfl rfl (ab.ite h4 rfl (fun _ h4=>?_) (fun _ h4=>?_))
    ·refine ab.seq (ab.aa ?_)
     refine Oc oa (ae.ak ⟨[(4,B false)],[]⟩ rfl (ab.ret (Fin.cx (Fin.aS ?_))))
     obtain rfl:=hy5 _ (Option.some.inj h4).symm
     refine Fin.aS (Fin.cx (Fin.aS ?_))
     obtain rfl:=Option.some.inj h
     refine Fin.ag ⟨[(4,_)],[]⟩ rfl (Fin.bc [.one (.bool false)] (.inl rfl) rfl (.cons (.tmp rfl) .nil) ⟨rfl,rfl⟩)
    ·refine ab.skip (Fin.ai (Fin.ag ⟨[(0,_),(1,_),(5,_)],[]⟩ rfl (Fin.then (ab.aa ?_))))
     refine Oc om (Oc (aQ rfl rfl) (Oc oa ?_))
     refine ae.nil ?_
     exact Fin.bj [0,1,5] [] (IntKind.i64.wrap (i_1 + 1)) (Option.some.inj h4) rfl
   ·refine ab.exit (Fin.an ?_)
    obtain rfl:=hy5 _ (Option.some.inj h4).symm
    refine Fin.an (Fin.aM ?_)
    exact Fin.join [] [] () rfl rfl
  ·rintro _ hv
   subst v1
   refine ab.seq (ab.aa ?_)
   refine Oc oa (ae.ak ⟨[(4,B true)],[]⟩ rfl (ab.ret ?_))
   obtain rfl:=Option.some.inj h
   refine Fin.ag ⟨[(4,_)],[]⟩ rfl (Fin.bc [.one (.bool true)] (.inl rfl) rfl (.cons (.tmp rfl) .nil) ⟨rfl,rfl⟩)
def bL (F:Nat):Option Bool :=
 Option.bind (bN F [true,false,false,false,false,false,false] [(⟨0,1⟩:A2),(⟨1,2⟩:A2),(⟨2,3⟩:A2),(⟨1,3⟩:A2),(⟨4,5⟩:A2),(⟨0,4⟩:A2)]) (cA fun x_1 x_2=>Option.bind (eJ F [true,false,false,false,false,false,false] [(⟨0,1⟩:A2),(⟨1,2⟩:A2),(⟨2,3⟩:A2),(⟨1,3⟩:A2),(⟨4,5⟩:A2),(⟨0,4⟩:A2)]) (cA fun x_3 x_4=>Option.bind (fm F [true,false,false,false,false,false,false] [(⟨0,1⟩:A2),(⟨1,2⟩:A2),(⟨2,3⟩:A2),(⟨1,3⟩:A2),(⟨4,5⟩:A2),(⟨0,4⟩:A2)]) (cA fun x_5 x_6=>Option.bind (fR F [true,false,false,false,false,false,false] [(⟨0,1⟩:A2),(⟨1,2⟩:A2),(⟨2,3⟩:A2),(⟨1,3⟩:A2),(⟨4,5⟩:A2),(⟨0,4⟩:A2)]) (cA fun x_7 x_8=>Option.bind (en F [true,false,false,false,false,false,false] [(⟨0,1⟩:A2),(⟨1,2⟩:A2),(⟨2,3⟩:A2),(⟨1,3⟩:A2),(⟨4,5⟩:A2),(⟨0,4⟩:A2)]) (cA fun x_9 x_10=>(cC [(⟨0,1⟩:A2),(⟨1,2⟩:A2),(⟨2,3⟩:A2),(⟨1,3⟩:A2),(⟨4,5⟩:A2),(⟨0,4⟩:A2)] [(⟨3,6⟩:A2)]).bind fun x_11=>Option.bind (fK F [true,false,false,false,false,false,false] x_11) (cA fun x_12 x_13=>(cw F [[[1,2],[4,5]],[[2,3],[6]]]).bind fun x_14=>fQ (((decide (x_2 = 0)) && (decide (x_4 = 0))) && (decide (x_6 = 0))) fun x_15=>fQ (((x_15 && (decide (x_8 = 0))) && (decide (x_10 = 0))) && (decide (x_13 = 0))) fun x_16=>(dx x_16 (bE F x_1 [[1,2,3],[4,5],[6]])).bind fun x_17=>(dx (x_16 && x_17) (bu F x_3 [0,1,2,2,1,2,(-1)])).bind fun x_18=>(dx ((x_16 && x_17) && x_18) (bu F x_5 [1,2,3,4,5,6])).bind fun x_19=>(dx (((x_16 && x_17) && x_18) && x_19) (bu F x_7 [1,2,4])).bind fun x_20=>(dx ((((x_16 && x_17) && x_18) && x_19) && x_20) (bu F x_9 [4])).bind fun x_21=>(dx (((((x_16 && x_17) && x_18) && x_19) && x_20) && x_21) (bu F x_12 [3])).bind fun x_22=>fQ ((((((x_16 && x_17) && x_18) && x_19) && x_20) && x_21) && x_22) fun x_23=>(dx x_23 (bE F x_14 [[1,2,3],[4,5],[6]])).bind fun x_24=>some (x_23 && x_24)))))))
theorem dc {F:Nat} {r:Bool} (h:bL F = some r):aC Try.prog [] 11 [] [] (Is [] (.b (.one (.bool r)))):=by
 unfold bL at h
 refine aC.intro 135 Try.func11 Try.ntmps11 rfl (by simp) fun E=>?_
 show ab _ E ⟨135,[],[],[]⟩ _ ⟨[],[]⟩ _
 refine ab.seq (ab.aa ?_)
 refine Oc oa (ae.ak ⟨[],[]⟩ rfl (ab.seq (ab.aa ?_)))
 refine Oc (jy (es:=[true,false,false,false,false,false,false].map eB) lj rfl rfl (aK fun _=>rfl) rfl (by decide) (by decide)) (Oc oa ?_)
 refine ae.ak ⟨[(1,.b (.one (.slf 1 ([true,false,false,false,false,false,false].map eB))))],[]⟩ rfl (ab.seq (ab.aa ?_))
 refine Oc (fA fy rfl rfl) (Oc (fA fy rfl rfl) (Oc (fA fy rfl rfl) (Oc (fA fy rfl rfl) (Oc (fA fy rfl rfl) (Oc (fA fy rfl rfl) ?_)))))
 refine Oc (jy (es:=[(⟨0,1⟩:A2),(⟨1,2⟩:A2),(⟨2,3⟩:A2),(⟨1,3⟩:A2),(⟨4,5⟩:A2),(⟨0,4⟩:A2)].map (ah .i64)) aR rfl rfl (aK fun _=>rfl) rfl (by decide) (by decide)) (Oc oa ?_)
 refine ae.ak ⟨[(1,_),(2,.b (.one (.slf 2 ([(⟨0,1⟩:A2),(⟨1,2⟩:A2),(⟨2,3⟩:A2),(⟨1,3⟩:A2),(⟨4,5⟩:A2),(⟨0,4⟩:A2)].map (ah .i64)))))],[]⟩ rfl (ab.seq (ab.aa ?_))
 refine Oc om (Oc om ?_)
 refine ae.gn 27 rfl (ae.gn 28 rfl (ae.ag ⟨[(1,_),(2,_),(27,.b (.one (.sl 1 ([true,false,false,false,false,false,false].map eB)))),(28,.b (.one (.sl 2 ([(⟨0,1⟩:A2),(⟨1,2⟩:A2),(⟨2,3⟩:A2),(⟨1,3⟩:A2),(⟨4,5⟩:A2),(⟨0,4⟩:A2)].map (ah .i64)))))],[]⟩ rfl ?_))
 obtain ⟨⟨x_1,x_2⟩,e1,h⟩:=aL h
 refine Oc (a8 (cY e1) kn rfl rfl) (Oc om (Oc (aA rfl rfl) (Oc (aA rfl rfl) (Oc oa (Oc oa ?_)))))
 refine ae.ak ⟨[(1,_),(2,_),(3,.b (.one (.sl 1 (x_1.map (eL 1 eI))))),(4,I x_2)],[]⟩ rfl (ab.seq (ab.aa ?_))
 refine Oc om (Oc om ?_)
 refine ae.gn 33 rfl (ae.gn 34 rfl (ae.ag ⟨[(1,_),(2,_),(3,_),(4,_),(33,.b (.one (.sl 1 ([true,false,false,false,false,false,false].map eB)))),(34,.b (.one (.sl 2 ([(⟨0,1⟩:A2),(⟨1,2⟩:A2),(⟨2,3⟩:A2),(⟨1,3⟩:A2),(⟨4,5⟩:A2),(⟨0,4⟩:A2)].map (ah .i64)))))],[]⟩ rfl ?_))
 obtain ⟨⟨x_3,x_4⟩,e2,h⟩:=aL h
 refine Oc (bw (gG 103 e2) ry rfl trivial rfl rfl) (Oc om (Oc (aA rfl rfl) (Oc (aA rfl rfl) (Oc oa (Oc oa ?_)))))
 refine ae.ak ⟨[(1,_),(2,_),(3,_),(4,_),(5,.b (.row 103)),(6,I x_4)],[(103,.row 3 1 (x_3.map eI))]⟩ rfl (ab.seq (ab.aa ?_))
 refine Oc om (Oc om ?_)
 refine ae.gn 39 rfl (ae.gn 40 rfl (ae.ag ⟨[(1,_),(2,_),(3,_),(4,_),(5,_),(6,_),(39,.b (.one (.sl 1 ([true,false,false,false,false,false,false].map eB)))),(40,.b (.one (.sl 2 ([(⟨0,1⟩:A2),(⟨1,2⟩:A2),(⟨2,3⟩:A2),(⟨1,3⟩:A2),(⟨4,5⟩:A2),(⟨0,4⟩:A2)].map (ah .i64)))))],[(103,_)]⟩ rfl ?_))
 obtain ⟨⟨x_5,x_6⟩,e3,h⟩:=aL h
 refine Oc (a8 (la e3) goes14 rfl rfl) (Oc om (Oc (aA rfl rfl) (Oc (aA rfl rfl) (Oc oa (Oc oa ?_)))))
 refine ae.ak ⟨[(1,_),(2,_),(3,_),(4,_),(5,_),(6,_),(7,.b (.one (.sl 1 (x_5.map eI)))),(8,I x_6)],[(103,_)]⟩ rfl (ab.seq (ab.aa ?_))
 refine Oc om (Oc om ?_)
 refine ae.gn 45 rfl (ae.gn 46 rfl (ae.ag ⟨[(1,_),(2,_),(3,_),(4,_),(5,_),(6,_),(7,_),(8,_),(45,.b (.one (.sl 1 ([true,false,false,false,false,false,false].map eB)))),(46,.b (.one (.sl 2 ([(⟨0,1⟩:A2),(⟨1,2⟩:A2),(⟨2,3⟩:A2),(⟨1,3⟩:A2),(⟨4,5⟩:A2),(⟨0,4⟩:A2)].map (ah .i64)))))],[(103,_)]⟩ rfl ?_))
 obtain ⟨⟨x_7,x_8⟩,e4,h⟩:=aL h
 refine Oc (bw (kA 104 e4) goes20 rfl trivial rfl rfl) (Oc om (Oc (aA rfl rfl) (Oc (aA rfl rfl) (Oc oa (Oc oa ?_)))))
 refine ae.ak ⟨[(1,_),(2,_),(3,_),(4,_),(5,_),(6,_),(7,_),(8,_),(9,.b (.row 104)),(10,I x_8)],[(103,_),(104,.row 3 1 (x_7.map eI))]⟩ rfl (ab.seq (ab.aa ?_))
 refine Oc om (Oc om ?_)
 refine ae.gn 51 rfl (ae.gn 52 rfl (ae.ag ⟨[(1,_),(2,_),(3,_),(4,_),(5,_),(6,_),(7,_),(8,_),(9,_),(10,_),(51,.b (.one (.sl 1 ([true,false,false,false,false,false,false].map eB)))),(52,.b (.one (.sl 2 ([(⟨0,1⟩:A2),(⟨1,2⟩:A2),(⟨2,3⟩:A2),(⟨1,3⟩:A2),(⟨4,5⟩:A2),(⟨0,4⟩:A2)].map (ah .i64)))))],[(103,_),(104,_)]⟩ rfl ?_))
 obtain ⟨⟨x_9,x_10⟩,e5,h⟩:=aL h
 refine Oc (a8 (jS e5) goes22 rfl rfl) (Oc om (Oc (aA rfl rfl) (Oc (aA rfl rfl) (Oc oa (Oc oa ?_)))))
 refine ae.ak ⟨[(1,_),(2,_),(3,_),(4,_),(5,_),(6,_),(7,_),(8,_),(9,_),(10,_),(11,.b (.one (.sl 1 (x_9.map eI)))),(12,I x_10)],[(103,_),(104,_)]⟩ rfl (ab.seq (ab.aa ?_))
 refine Oc om (Oc om (Oc (fA fy rfl rfl) (Oc (aP (k:=105) (es:=[(⟨3,6⟩:A2)].map (ah .i64)) aR rfl rfl (aK fun _=>rfl) rfl (by decide) (by decide) rfl) ?_)))
 obtain ⟨x_11,e6,h⟩:=aL h
 refine Oc (oT (k:=106) aR (cG e6) (cF e6) (Nat.le_of_ble_eq_true rfl) rfl rfl rfl (bC e6) rfl) (ae.gn 57 rfl (ae.bJ 106 rfl (ae.ag ⟨[(3,.b (.one (.sl 1 (x_1.map (eL 1 eI))))),(4,I x_2),(5,.b (.row 103)),(6,I x_4),(7,.b (.one (.sl 1 (x_5.map eI)))),(8,I x_6),(9,.b (.row 104)),(10,I x_8),(11,.b (.one (.sl 1 (x_9.map eI)))),(12,I x_10),(57,.b (.one (.sl 1 ([true,false,false,false,false,false,false].map eB)))),(60,.b (.row 105)),(61,.b (.one (.sl 2 (x_11.map (ah .i64)))))],[(103,.row 3 1 (x_3.map eI)),(104,.row 3 1 (x_7.map eI)),(105,.row 44 2 ([(⟨3,6⟩:A2)].map (ah .i64)))]⟩ rfl ?_)))
 obtain ⟨⟨x_12,x_13⟩,e7,h⟩:=aL h
 refine Oc (a8 (lO e7) goes21 rfl rfl) (Oc om (Oc (aA rfl rfl) (Oc (aA rfl rfl) (Oc oa (Oc oa ?_)))))
 refine ae.ak ⟨[(3,_),(4,_),(5,_),(6,_),(7,_),(8,_),(9,_),(10,_),(11,_),(12,_),(13,.b (.one (.sl 1 (x_12.map eI)))),(14,I x_13)],[(103,_),(104,_)]⟩ rfl (ab.seq (ab.aa ?_))
 refine Oc (aP (k:=107) (es:=[1,2].map eI) ar rfl rfl (aK fun _=>rfl) rfl (by decide) (by decide) rfl) (Oc (aP (k:=108) (es:=[4,5].map eI) ar rfl rfl (aK fun _=>rfl) rfl (by decide) (by decide) rfl) ?_)
 refine ae.bJ 107 rfl (ae.bJ 108 rfl (ae.ag ⟨[(3,.b (.one (.sl 1 (x_1.map (eL 1 eI))))),(4,I x_2),(5,.b (.row 103)),(6,I x_4),(7,.b (.one (.sl 1 (x_5.map eI)))),(8,I x_6),(9,.b (.row 104)),(10,I x_8),(11,.b (.one (.sl 1 (x_9.map eI)))),(12,I x_10),(13,.b (.one (.sl 1 (x_12.map eI)))),(14,I x_13),(65,.b (.one (.sl 1 ([1,2].map eI)))),(66,.b (.one (.sl 1 ([4,5].map eI))))],[(103,.row 3 1 (x_3.map eI)),(104,.row 3 1 (x_7.map eI))]⟩ rfl (Oc (aP (k:=109) (es:=[[1,2],[4,5]].map (eL 1 eI)) eT rfl rfl (aK fun _=>rfl) rfl (by decide) (by decide) rfl) (Oc (aP (k:=110) (es:=[2,3].map eI) ar rfl rfl (aK fun _=>rfl) rfl (by decide) (by decide) rfl) (Oc (aP (k:=111) (es:=[6].map eI) ar rfl rfl (aK fun _=>rfl) rfl (by decide) (by decide) rfl) ?_)))))
 refine ae.bJ 110 rfl (ae.bJ 111 rfl (ae.ag ⟨[(3,.b (.one (.sl 1 (x_1.map (eL 1 eI))))),(4,I x_2),(5,.b (.row 103)),(6,I x_4),(7,.b (.one (.sl 1 (x_5.map eI)))),(8,I x_6),(9,.b (.row 104)),(10,I x_8),(11,.b (.one (.sl 1 (x_9.map eI)))),(12,I x_10),(13,.b (.one (.sl 1 (x_12.map eI)))),(14,I x_13),(67,.b (.row 109)),(68,.b (.one (.sl 1 ([2,3].map eI)))),(69,.b (.one (.sl 1 ([6].map eI))))],[(103,.row 3 1 (x_3.map eI)),(104,.row 3 1 (x_7.map eI)),(109,.row 30 1 ([[1,2],[4,5]].map (eL 1 eI)))]⟩ rfl (Oc (aP (k:=112) (es:=[[2,3],[6]].map (eL 1 eI)) eT rfl rfl (aK fun _=>rfl) rfl (by decide) (by decide) rfl) (ae.bJ 109 rfl (ae.bJ 112 rfl ?_)))))
 refine Oc (aP (k:=113) (es:=[[[1,2],[4,5]],[[2,3],[6]]].map (eL 1 (eL 1 eI))) pb rfl rfl (aK fun _=>rfl) rfl (by decide) (by decide) rfl) (ae.bJ 113 rfl ?_)
 obtain ⟨x_14,e8,h⟩:=aL h
 refine Oc (a8 (hC e8) ru rfl rfl) (Oc oa ?_)
 refine ae.ak ⟨[(3,.b (.one (.sl 1 (x_1.map (eL 1 eI))))),(4,I x_2),(5,.b (.row 103)),(6,I x_4),(7,.b (.one (.sl 1 (x_5.map eI)))),(8,I x_6),(9,.b (.row 104)),(10,I x_8),(11,.b (.one (.sl 1 (x_9.map eI)))),(12,I x_10),(13,.b (.one (.sl 1 (x_12.map eI)))),(14,I x_13),(15,.b (.one (.sl 1 (x_14.map (eL 1 eI)))))],[(103,.row 3 1 (x_3.map eI)),(104,.row 3 1 (x_7.map eI))]⟩ rfl (ab.seq (ab.aa ?_))
 refine Oc (aP (k:=114) (es:=[1,2,3].map eI) ar rfl rfl (aK fun _=>rfl) rfl (by decide) (by decide) rfl) (Oc (aP (k:=115) (es:=[4,5].map eI) ar rfl rfl (aK fun _=>rfl) rfl (by decide) (by decide) rfl) (Oc (aP (k:=116) (es:=[6].map eI) ar rfl rfl (aK fun _=>rfl) rfl (by decide) (by decide) rfl) ?_))
 refine ae.bJ 114 rfl (ae.bJ 115 rfl (ae.bJ 116 rfl (Oc (aP (k:=117) (es:=[[1,2,3],[4,5],[6]].map (eL 1 eI)) eT rfl rfl (aK fun _=>rfl) rfl (by decide) (by decide) rfl) (Oc oa ?_))))
 refine ae.ak ⟨[(3,.b (.one (.sl 1 (x_1.map (eL 1 eI))))),(4,I x_2),(5,.b (.row 103)),(6,I x_4),(7,.b (.one (.sl 1 (x_5.map eI)))),(8,I x_6),(9,.b (.row 104)),(10,I x_8),(11,.b (.one (.sl 1 (x_9.map eI)))),(12,I x_10),(13,.b (.one (.sl 1 (x_12.map eI)))),(14,I x_13),(15,.b (.one (.sl 1 (x_14.map (eL 1 eI))))),(16,.b (.row 117))],[(103,.row 3 1 (x_3.map eI)),(104,.row 3 1 (x_7.map eI)),(117,.row 30 1 ([[1,2,3],[4,5],[6]].map (eL 1 eI)))]⟩ rfl (ab.seq (ab.aa ?_))
 refine Oc om (Oc (er rfl rfl) (Oc om ?_))
 refine dW (decide (x_2 = 0)) [] (fun g9=>trivial) (fun g9=>om) (dW (decide (x_2 = 0)) [80] (fun g10=>by exact ⟨g10,trivial⟩) (fun g10=>er rfl rfl) (Oc (bq (fun e=>e) rfl rfl rfl rfl) (Oc om ?_)))
 refine ae.ag ⟨[(3,_),(5,_),(7,_),(8,_),(9,_),(10,_),(11,_),(12,_),(13,_),(14,_),(15,_),(16,_),(83,B ((decide (x_2 = 0)) && (decide (x_4 = 0))))],[(103,_),(104,_),(117,_)]⟩ rfl (dW ((decide (x_2 = 0)) && (decide (x_4 = 0))) [] (fun g11=>trivial) (fun g11=>om) (dW ((decide (x_2 = 0)) && (decide (x_4 = 0))) [84] (fun g12=>by exact ⟨g12,trivial⟩) (fun g12=>er rfl rfl) (ae.mr h rfl (bq (fun e=>e) rfl rfl rfl rfl) (fun x_15 h=>?_))))
 refine Oc om (dW x_15 [] (fun g13=>by exact trivial) (fun g13=>om) (dW x_15 [88] (fun g14=>by exact ⟨g14,trivial⟩) (fun g14=>er rfl rfl) (Oc (bq (fun e=>e) rfl rfl rfl rfl) (Oc om ?_))))
 refine ae.ag ⟨[(3,_),(5,_),(7,_),(9,_),(11,_),(12,_),(13,_),(14,_),(15,_),(16,_),(91,B (x_15 && (decide (x_8 = 0))))],[(103,_),(104,_),(117,_)]⟩ rfl (dW (x_15 && (decide (x_8 = 0))) [] (fun g15=>trivial) (fun g15=>om) (dW (x_15 && (decide (x_8 = 0))) [92] (fun g16=>by exact ⟨g16,trivial⟩) (fun g16=>er rfl rfl) (Oc (bq (fun e=>e) rfl rfl rfl rfl) (Oc om ?_))))
 refine dW ((x_15 && (decide (x_8 = 0))) && (decide (x_10 = 0))) [] (fun g17=>trivial) (fun g17=>om) (dW ((x_15 && (decide (x_8 = 0))) && (decide (x_10 = 0))) [96] (fun g18=>by exact ⟨g18,trivial⟩) (fun g18=>er rfl rfl) (ae.mr h rfl (bq (fun e=>e) rfl rfl rfl rfl) (fun x_16 h=>?_)))
 refine Oc oa (ae.ak ⟨[(3,_),(5,_),(7,_),(9,_),(11,_),(13,_),(15,_),(16,_),(17,B x_16)],[(103,_),(104,_),(117,_)]⟩ rfl (ab.seq (ab.aa ?_)))
 refine Oc om (Oc om ?_)
 refine dW x_16 [] (fun g19=>trivial) (fun g19=>om) (dW x_16 [] (fun g20=>by exact trivial) (fun g20=>om) ?_)
 obtain ⟨x_17,e22,h⟩:=aL h
 refine dW x_16 [101,102] (fun g21=>⟨g21,g21,trivial⟩) (fun g21=>kV (cU (gc e22 g21)) pq rfl CP.jN) (ae.ag ⟨[(5,_),(7,_),(9,_),(11,_),(13,_),(15,_),(16,_),(100,B x_16),(103,.opt x_16 (.one (.bool x_17)))],[(103,_),(104,_),(117,_)]⟩ rfl (Oc (bq (fun e=>e) rfl rfl rfl rfl) (Oc om ?_)))
 refine dW (x_16 && x_17) [] (fun g23=>trivial) (fun g23=>om) (dW (x_16 && x_17) [] (fun g24=>by exact trivial) (fun g24=>az (es:=[0,1,2,2,1,2,(-1)].map eI) ar rfl rfl (aK fun _=>rfl) rfl (by decide) (by decide)) ?_)
 obtain ⟨x_18,e26,h⟩:=aL h
 refine dW (x_16 && x_17) [106,107] (fun g25=>⟨g25,g25,trivial⟩) (fun g25=>kV (bX (gc e26 g25)) lu rfl CP.jN) (ae.ag ⟨[(7,_),(9,_),(11,_),(13,_),(15,_),(16,_),(105,B (x_16 && x_17)),(108,.opt (x_16 && x_17) (.one (.bool x_18)))],[(104,_),(117,_)]⟩ rfl (Oc (bq (fun e=>e) rfl rfl rfl rfl) (Oc om ?_)))
 refine dW ((x_16 && x_17) && x_18) [] (fun g27=>trivial) (fun g27=>om) (dW ((x_16 && x_17) && x_18) [] (fun g28=>by exact trivial) (fun g28=>az (es:=[1,2,3,4,5,6].map eI) ar rfl rfl (aK fun _=>rfl) rfl (by decide) (by decide)) ?_)
 obtain ⟨x_19,e30,h⟩:=aL h
 refine dW ((x_16 && x_17) && x_18) [111,112] (fun g29=>⟨g29,g29,trivial⟩) (fun g29=>a8 (bX (gc e30 g29)) lu rfl rfl) (ae.ag ⟨[(9,_),(11,_),(13,_),(15,_),(16,_),(110,B ((x_16 && x_17) && x_18)),(113,.opt ((x_16 && x_17) && x_18) (.one (.bool x_19)))],[(104,_),(117,_)]⟩ rfl (Oc (bq (fun e=>e) rfl rfl rfl rfl) (Oc om ?_)))
 refine dW (((x_16 && x_17) && x_18) && x_19) [] (fun g31=>trivial) (fun g31=>om) (dW (((x_16 && x_17) && x_18) && x_19) [] (fun g32=>by exact trivial) (fun g32=>az (es:=[1,2,4].map eI) ar rfl rfl (aK fun _=>rfl) rfl (by decide) (by decide)) ?_)
 obtain ⟨x_20,e34,h⟩:=aL h
 refine dW (((x_16 && x_17) && x_18) && x_19) [116,117] (fun g33=>⟨g33,g33,trivial⟩) (fun g33=>kV (bX (gc e34 g33)) lu rfl CP.jN) (ae.ag ⟨[(11,_),(13,_),(15,_),(16,_),(115,B (((x_16 && x_17) && x_18) && x_19)),(118,.opt (((x_16 && x_17) && x_18) && x_19) (.one (.bool x_20)))],[(117,_)]⟩ rfl (Oc (bq (fun e=>e) rfl rfl rfl rfl) (Oc om ?_)))
 refine dW ((((x_16 && x_17) && x_18) && x_19) && x_20) [] (fun g35=>trivial) (fun g35=>om) (dW ((((x_16 && x_17) && x_18) && x_19) && x_20) [] (fun g36=>by exact trivial) (fun g36=>az (es:=[4].map eI) ar rfl rfl (aK fun _=>rfl) rfl (by decide) (by decide)) ?_)
 obtain ⟨x_21,e38,h⟩:=aL h
 refine dW ((((x_16 && x_17) && x_18) && x_19) && x_20) [121,122] (fun g37=>⟨g37,g37,trivial⟩) (fun g37=>a8 (bX (gc e38 g37)) lu rfl rfl) (ae.ag ⟨[(13,_),(15,_),(16,_),(120,B ((((x_16 && x_17) && x_18) && x_19) && x_20)),(123,.opt ((((x_16 && x_17) && x_18) && x_19) && x_20) (.one (.bool x_21)))],[(117,_)]⟩ rfl (Oc (bq (fun e=>e) rfl rfl rfl rfl) (Oc om ?_)))
 refine dW (((((x_16 && x_17) && x_18) && x_19) && x_20) && x_21) [] (fun g39=>trivial) (fun g39=>om) (dW (((((x_16 && x_17) && x_18) && x_19) && x_20) && x_21) [] (fun g40=>by exact trivial) (fun g40=>az (es:=[3].map eI) ar rfl rfl (aK fun _=>rfl) rfl (by decide) (by decide)) ?_)
 obtain ⟨x_22,e42,h⟩:=aL h
 refine dW (((((x_16 && x_17) && x_18) && x_19) && x_20) && x_21) [126,127] (fun g41=>⟨g41,g41,trivial⟩) (fun g41=>a8 (bX (gc e42 g41)) lu rfl rfl) (ae.ag ⟨[(15,_),(16,_),(125,B (((((x_16 && x_17) && x_18) && x_19) && x_20) && x_21)),(128,.opt (((((x_16 && x_17) && x_18) && x_19) && x_20) && x_21) (.one (.bool x_22)))],[(117,_)]⟩ rfl (ae.mr h rfl (bq (fun e=>e) rfl rfl rfl rfl) (fun x_23 h=>?_)))
 refine Oc om (dW x_23 [] (fun g43=>by exact trivial) (fun g43=>om) (dW x_23 [] (fun g44=>by exact trivial) (fun g44=>om) ?_))
 obtain ⟨x_24,e46,h⟩:=aL h
 refine dW x_23 [131,132] (fun g45=>⟨g45,g45,trivial⟩) (fun g45=>kV (cU (gc e46 g45)) pq rfl CP.jN) (Oc (bq (fun e=>e) rfl rfl rfl rfl) (Oc oa ?_))
 refine ae.ak ⟨[(0,B (x_23 && x_24))],[]⟩ rfl (ab.ret ?_)
 obtain rfl:=Option.some.inj h
 refine Fin.ag ⟨[(0,_)],[]⟩ rfl (Fin.bc [.one (.bool (x_23 && x_24))] (.inl rfl) rfl (.cons (.tmp rfl) .nil) ⟨rfl,rfl⟩)
def dr (F:Nat) (l0:List Int) (n0:Int):Option Bool :=
 Option.bind (iter F (fun i_1=>if (decide (i_1 < (l0.length:Int))) = true then ((aO l0 i_1).bind fun x_2=>if (decide (x_2 = n0)) = true then (some (.inr (.inr true))) else (some (.inl (IntKind.i64.wrap (i_1 + 1))))) else (some (.inr (.inl ())))) 0) (iC (fun _=>some false) (fun y=>some y))
def dV (F:Nat) (l0:List Int) (n0:Int):Option (List Int) :=
 (dr F l0 n0).bind fun x_1=>if x_1 = true then (some l0) else (Option.bind (iter F (ma fun out_4 placed_5 i_6=>if (decide (i_6 < (l0.length:Int))) = true then (Option.bind (Option.bind ((dx (!placed_5) (aO l0 i_6)).bind fun x_13=>if ((!placed_5) && (decide (n0 < x_13))) = true then ((cC out_4 [n0]).bind fun x_14=>some (x_14,true)) else (some (out_4,placed_5))) (cA fun out_11 placed_12=>(aO l0 i_6).bind fun x_15=>(cC out_11 [x_15]).bind fun x_16=>some (x_16,placed_12))) (cA fun out_9 placed_10=>some (.inl (out_9,placed_10,IntKind.i64.wrap (i_6 + 1))))) else (some (.inr (out_4,placed_5)))) ([],false,0)) (cA fun out_2 placed_3=>Option.bind (if (!placed_3) = true then ((cC out_2 [n0]).bind fun x_18=>some x_18) else (some out_2)) (fun out_17=>some out_17)))
def c8 (F:Nat) (a0:List Int) (b0:List Int):Option (List Int) :=
 Option.bind (iter F (cA fun out_2 i_3=>if (decide (i_3 < (b0.length:Int))) = true then ((aO b0 i_3).bind fun x_5=>(dV F out_2 x_5).bind fun x_6=>some (.inl (x_6,IntKind.i64.wrap (i_3 + 1)))) else (some (.inr out_2))) (a0,0)) (fun out_1=>some out_1)
def dK (F:Nat) (a0:List Int) (b0:List Int):Option Bool :=
 Option.bind (iter F (fun i_1=>if (decide (i_1 < (a0.length:Int))) = true then ((aO a0 i_1).bind fun x_2=>(dr F b0 x_2).bind fun x_3=>if x_3 = true then (some (.inr (.inr true))) else (some (.inl (IntKind.i64.wrap (i_1 + 1))))) else (some (.inr (.inl ())))) 0) (iC (fun _=>some false) (fun y=>some y))
def ew (F:Nat) (l0:List (List Int)) (x0:List Int):Option (List (List Int)) :=
 Option.bind (iter F (ma fun out_3 placed_4 i_5=>if (decide (i_5 < (l0.length:Int))) = true then (Option.bind (Option.bind ((dx (!placed_4) (aO l0 i_5)).bind fun x_12=>(dx (!placed_4) (aO x_12 0)).bind fun x_13=>(dx (!placed_4) (aO x0 0)).bind fun x_14=>if ((!placed_4) && (decide (x_14 < x_13))) = true then ((cC out_3 [x0]).bind fun x_15=>some (x_15,true)) else (some (out_3,placed_4))) (cA fun out_10 placed_11=>(aO l0 i_5).bind fun x_16=>(cC out_10 [x_16]).bind fun x_17=>some (x_17,placed_11))) (cA fun out_8 placed_9=>some (.inl (out_8,placed_9,IntKind.i64.wrap (i_5 + 1))))) else (some (.inr (out_3,placed_4)))) ([],false,0)) (cA fun out_1 placed_2=>Option.bind (if (!placed_2) = true then ((cC out_1 [x0]).bind fun x_19=>some x_19) else (some out_1)) (fun out_18=>some out_18))
def cD (F:Nat) (l0:List (List Int)):Option (List (List Int)) :=
 Option.bind (iter F (cA fun sets_2 i_3=>if (decide (i_3 < (l0.length:Int))) = true then (Option.bind ((aO l0 i_3).bind fun x_6=>(c8 F [] x_6).bind fun x_7=>if (decide ((x_7.length:Int) = 0)) = true then (some sets_2) else (Option.bind (iter F (ma fun x_10 rest_11 k_12=>if (decide (k_12 < (sets_2.length:Int))) = true then (Option.bind ((aO sets_2 k_12).bind fun x_17=>(dK F x_17 x_10).bind fun x_18=>if x_18 = true then ((aO sets_2 k_12).bind fun x_19=>(c8 F x_10 x_19).bind fun x_20=>some (x_20,rest_11)) else ((aO sets_2 k_12).bind fun x_21=>(cC rest_11 [x_21]).bind fun x_22=>some (x_10,x_22))) (cA fun x_15 rest_16=>some (.inl (x_15,rest_16,IntKind.i64.wrap (k_12 + 1))))) else (some (.inr (x_10,rest_11)))) (x_7,[],0)) (cA fun x_8 rest_9=>(cC rest_9 [x_8]).bind fun x_23=>some x_23))) (fun sets_5=>some (.inl (sets_5,IntKind.i64.wrap (i_3 + 1))))) else (some (.inr sets_2))) ([],0)) (fun sets_1=>Option.bind (iter F (cA fun out_25 i_26=>if (decide (i_26 < (sets_1.length:Int))) = true then ((aO sets_1 i_26).bind fun x_28=>(ew F out_25 x_28).bind fun x_29=>some (.inl (x_29,IntKind.i64.wrap (i_26 + 1)))) else (some (.inr out_25))) ([],0)) (fun out_24=>some out_24))
end Go.Proofs.Ytgojigdbelkgoaa

