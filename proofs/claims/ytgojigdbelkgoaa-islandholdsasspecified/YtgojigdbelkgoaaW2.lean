/- printed walks -/
import Derived.Test.YtgojigdbelkgoaaW1
namespace Go.Proofs.Ytgojigdbelkgoaa
open Go.Sk Go
set_option maxHeartbeats 4000000
set_option maxRecDepth 4000
set_option linter.unusedSimpArgs false
set_option linter.unusedVariables false
def dO (F:Nat) (fixed0:List Bool) (links0:List A2):Option ((List Int) × (List Int)) :=
 (dH F fixed0 links0).bind fun x_1=>(cL F (fixed0.length:Int) links0 x_1).bind fun x_2=>Option.bind (mk? (0:Int) (fixed0.length:Int) (fixed0.length:Int)) (fun x_3=>Option.bind (mk? (0:Int) (fixed0.length:Int) (fixed0.length:Int)) (fun x_4=>Option.bind (iter F (un6 fun keysf0_7 bridgesf0_8 seenf0_9 visitf0_10 visitf0f0_11 x_12=>if (decide (x_12 < (fixed0.length:Int))) = true then (Option.bind ((aM fixed0 x_12).bind fun x_20=>(c3 (!x_20) (aM seenf0_9 x_12)).bind fun x_21=>if ((!x_20) && (decide (x_21 = 0))) = true then (Option.bind (jX F x_12 (-1) visitf0_10 seenf0_9 visitf0f0_11 x_2 bridgesf0_8 keysf0_7) (un5 fun x_22 x_23 x_24 x_25 x_26=>some (x_26,x_25,x_23,x_22,x_24))) else (some (keysf0_7,bridgesf0_8,seenf0_9,visitf0_10,visitf0f0_11))) (un5 fun keysf0_15 bridgesf0_16 seenf0_17 visitf0_18 visitf0f0_19=>some (.inl (keysf0_15,bridgesf0_16,seenf0_17,visitf0_18,visitf0f0_19,IntKind.i64.wrap (x_12 + 1))))) else (some (.inr (keysf0_7,bridgesf0_8)))) ([],[],x_3,0,x_4,0)) (cr fun keysf0_5 bridgesf0_6=>(cW F keysf0_5).bind fun x_27=>(cW F bridgesf0_6).bind fun x_28=>some (x_27,x_28))))
theorem js {F:Nat} {fixed0:List Bool} {links0:List A2} {r:(List Int) × (List Int)} (h:dO F fixed0 links0 = some r):ar Try.prog [] 39 [] [.one (.sl 1 (fixed0.map eB)),.one (.sl 2 (links0.map (bX .i64)))] (Is [] (.fi [.one (.sl 1 (r.1.map eI)),.one (.sl 1 (r.2.map eI))])):=by
 unfold dO at h
 refine ar.intro 53 Try.func39 Try.ntmps39 rfl (by simp) fun E=>?_
 show ab _ E ⟨53,[],[],[]⟩ _ ⟨[(0,.b (.one (.sl 1 (fixed0.map eB)))),(1,.b (.one (.sl 2 (links0.map (bX .i64)))))],[]⟩ _
 refine ab.seq (ab.aa ?_)
 refine Oc (bf (k:=101) cJ rfl) (Oc (bf (k:=102) cJ rfl) ?_)
 refine ae.af ⟨[(0,.b (.one (.sl 1 (fixed0.map eB)))),(1,.b (.one (.sl 2 (links0.map (bX .i64))))),(4,Pt 101 0),(5,Pt 102 0)],[(101,.box 30 [.nil]),(102,.box 30 [.nil])]⟩ rfl (ab.seq (ab.aa ?_))
 refine Oc om (Oc (aq dw rfl (List.length_map _)) (Oc om (Oc om (Oc om ?_))))
 refine ae.ag ⟨[(0,_),(4,_),(5,_),(14,I (fixed0.length:Int)),(15,.b (.one (.sl 2 (links0.map (bX .i64))))),(16,.b (.one (.sl 1 (fixed0.map eB)))),(17,.b (.one (.sl 2 (links0.map (bX .i64)))))],[(101,_),(102,_)]⟩ rfl ?_
 obtain ⟨x_1,e1,h⟩:=aF h
 refine Oc (bh (iv 103 e1) tm rfl trivial rfl rfl) (ae.bE 103 rfl ?_)
 obtain ⟨x_2,e2,h⟩:=aF h
 refine Oc (aJ (ga e2) tu rfl rfl) (Oc (bf (k:=104) tT rfl) (Oc (gE rA rfl rfl rfl (Nat.le_of_ble_eq_true rfl) rfl) ?_))
 refine ae.af ⟨[(0,.b (.one (.sl 1 (fixed0.map eB)))),(4,Pt 101 0),(5,Pt 102 0),(6,Pt 104 0)],[(101,.box 30 [.nil]),(102,.box 30 [.nil]),(104,.box 56 [.sl 1 (x_2.map (eL 2 aX))])]⟩ rfl (ab.seq ?_)
 obtain ⟨x_3,e3,h⟩:=aF h
 obtain ⟨x_4,e4,h⟩:=aF h
 refine ab.nH mixed [false,false,true,false,false,true,true,true,true,true] [.b (.one (.sl 1 (fixed0.map eB))),I (fixed0.length:Int),.b (.row 105),.b (.one (.sl 1 (fixed0.map eB))),I (fixed0.length:Int),.b (.row 106),Pt 107 0,Pt 108 0,B true,B true] [⟨[false,false,false,false,false,false,false,false,false,false],[(0,.b (.one (.sl 1 (fixed0.map eB)))),(4,Pt 101 0),(5,Pt 102 0),(6,Pt 104 0)],[(101,.box 30 [.nil]),(102,.box 30 [.nil]),(104,.box 56 [.sl 1 (x_2.map (eL 2 aX))])],[true,true,true,true,true,true,true,true,true,true],[],[8,9]⟩,⟨[false,false,true,false,false,false,false,false,false,false],[(0,.b (.one (.sl 1 (fixed0.map eB)))),(4,Pt 101 0),(5,Pt 102 0),(6,Pt 104 0)],[(101,.box 30 [.nil]),(102,.box 30 [.nil]),(104,.box 56 [.sl 1 (x_2.map (eL 2 aX))]),(105,.row 3 1 (x_3.map eI))],[true,true,true,true,true,true,true,true,true,true],[0,1,2],[8,9]⟩,⟨[false,false,false,false,false,true,false,false,false,false],[(0,.b (.one (.sl 1 (fixed0.map eB)))),(4,Pt 101 0),(5,Pt 102 0),(6,Pt 104 0)],[(101,.box 30 [.nil]),(102,.box 30 [.nil]),(104,.box 56 [.sl 1 (x_2.map (eL 2 aX))]),(106,.row 3 1 (x_4.map eI))],[true,true,true,true,true,true,true,true,true,true],[3,4,5],[8,9]⟩,⟨[false,false,false,false,false,false,true,false,false,false],[(0,.b (.one (.sl 1 (fixed0.map eB)))),(4,Pt 101 0),(5,Pt 102 0),(6,Pt 104 0)],[(101,.box 30 [.nil]),(102,.box 30 [.nil]),(104,.box 56 [.sl 1 (x_2.map (eL 2 aX))]),(107,.box 30 [.nil])],[true,true,true,true,true,true,true,true,true,true],[6],[8,9]⟩,⟨[false,false,false,false,false,false,false,true,false,false],[(0,.b (.one (.sl 1 (fixed0.map eB)))),(4,Pt 101 0),(5,Pt 102 0),(6,Pt 104 0)],[(101,.box 30 [.nil]),(102,.box 30 [.nil]),(104,.box 56 [.sl 1 (x_2.map (eL 2 aX))]),(108,.box 30 [.nil])],[true,true,true,true,true,true,true,true,true,true],[7],[8,9]⟩,⟨[false,false,true,false,false,true,false,false,false,false],[(0,.b (.one (.sl 1 (fixed0.map eB)))),(4,Pt 101 0),(5,Pt 102 0),(6,Pt 104 0)],[(101,.box 30 [.nil]),(102,.box 30 [.nil]),(104,.box 56 [.sl 1 (x_2.map (eL 2 aX))]),(105,.row 3 1 (x_3.map eI)),(106,.row 3 1 (x_4.map eI))],[true,true,true,true,true,true,true,true,true,true],[0,1,2,3,4,5],[8,9]⟩,⟨[false,false,true,false,false,false,true,false,false,false],[(0,.b (.one (.sl 1 (fixed0.map eB)))),(4,Pt 101 0),(5,Pt 102 0),(6,Pt 104 0)],[(101,.box 30 [.nil]),(102,.box 30 [.nil]),(104,.box 56 [.sl 1 (x_2.map (eL 2 aX))]),(105,.row 3 1 (x_3.map eI)),(107,.box 30 [.nil])],[true,true,true,true,true,true,true,true,true,true],[0,1,2,6],[8,9]⟩,⟨[false,false,true,false,false,false,false,true,false,false],[(0,.b (.one (.sl 1 (fixed0.map eB)))),(4,Pt 101 0),(5,Pt 102 0),(6,Pt 104 0)],[(101,.box 30 [.nil]),(102,.box 30 [.nil]),(104,.box 56 [.sl 1 (x_2.map (eL 2 aX))]),(105,.row 3 1 (x_3.map eI)),(108,.box 30 [.nil])],[true,true,true,true,true,true,true,true,true,true],[0,1,2,7],[8,9]⟩,⟨[false,false,false,false,false,true,true,false,false,false],[(0,.b (.one (.sl 1 (fixed0.map eB)))),(4,Pt 101 0),(5,Pt 102 0),(6,Pt 104 0)],[(101,.box 30 [.nil]),(102,.box 30 [.nil]),(104,.box 56 [.sl 1 (x_2.map (eL 2 aX))]),(106,.row 3 1 (x_4.map eI)),(107,.box 30 [.nil])],[true,true,true,true,true,true,true,true,true,true],[3,4,5,6],[8,9]⟩,⟨[false,false,false,false,false,true,false,true,false,false],[(0,.b (.one (.sl 1 (fixed0.map eB)))),(4,Pt 101 0),(5,Pt 102 0),(6,Pt 104 0)],[(101,.box 30 [.nil]),(102,.box 30 [.nil]),(104,.box 56 [.sl 1 (x_2.map (eL 2 aX))]),(106,.row 3 1 (x_4.map eI)),(108,.box 30 [.nil])],[true,true,true,true,true,true,true,true,true,true],[3,4,5,7],[8,9]⟩,⟨[false,false,false,false,false,false,true,true,false,false],[(0,.b (.one (.sl 1 (fixed0.map eB)))),(4,Pt 101 0),(5,Pt 102 0),(6,Pt 104 0)],[(101,.box 30 [.nil]),(102,.box 30 [.nil]),(104,.box 56 [.sl 1 (x_2.map (eL 2 aX))]),(107,.box 30 [.nil]),(108,.box 30 [.nil])],[true,true,true,true,true,true,true,true,true,true],[6,7],[8,9]⟩,⟨[false,false,true,false,false,true,true,false,false,false],[(0,.b (.one (.sl 1 (fixed0.map eB)))),(4,Pt 101 0),(5,Pt 102 0),(6,Pt 104 0)],[(101,.box 30 [.nil]),(102,.box 30 [.nil]),(104,.box 56 [.sl 1 (x_2.map (eL 2 aX))]),(105,.row 3 1 (x_3.map eI)),(106,.row 3 1 (x_4.map eI)),(107,.box 30 [.nil])],[true,true,true,true,true,true,true,true,true,true],[0,1,2,3,4,5,6],[8,9]⟩,⟨[false,false,true,false,false,true,false,true,false,false],[(0,.b (.one (.sl 1 (fixed0.map eB)))),(4,Pt 101 0),(5,Pt 102 0),(6,Pt 104 0)],[(101,.box 30 [.nil]),(102,.box 30 [.nil]),(104,.box 56 [.sl 1 (x_2.map (eL 2 aX))]),(105,.row 3 1 (x_3.map eI)),(106,.row 3 1 (x_4.map eI)),(108,.box 30 [.nil])],[true,true,true,true,true,true,true,true,true,true],[0,1,2,3,4,5,7],[8,9]⟩,⟨[false,false,true,false,false,false,true,true,false,false],[(0,.b (.one (.sl 1 (fixed0.map eB)))),(4,Pt 101 0),(5,Pt 102 0),(6,Pt 104 0)],[(101,.box 30 [.nil]),(102,.box 30 [.nil]),(104,.box 56 [.sl 1 (x_2.map (eL 2 aX))]),(105,.row 3 1 (x_3.map eI)),(107,.box 30 [.nil]),(108,.box 30 [.nil])],[true,true,true,true,true,true,true,true,true,true],[0,1,2,6,7],[9]⟩,⟨[false,false,false,false,false,true,true,true,false,false],[(0,.b (.one (.sl 1 (fixed0.map eB)))),(4,Pt 101 0),(5,Pt 102 0),(6,Pt 104 0)],[(101,.box 30 [.nil]),(102,.box 30 [.nil]),(104,.box 56 [.sl 1 (x_2.map (eL 2 aX))]),(106,.row 3 1 (x_4.map eI)),(107,.box 30 [.nil]),(108,.box 30 [.nil])],[true,true,true,true,true,true,true,true,true,true],[3,4,5,6,7],[8,9]⟩,⟨[false,false,true,false,false,true,true,true,false,false],[(0,.b (.one (.sl 1 (fixed0.map eB)))),(4,Pt 101 0),(5,Pt 102 0),(6,Pt 104 0)],[(101,.box 30 [.nil]),(102,.box 30 [.nil]),(104,.box 56 [.sl 1 (x_2.map (eL 2 aX))]),(105,.row 3 1 (x_3.map eI)),(106,.row 3 1 (x_4.map eI)),(107,.box 30 [.nil]),(108,.box 30 [.nil])],[true,true,true,true,true,true,true,true,true,true],[0,1,2,3,4,5,6,7],[9]⟩,⟨[false,false,true,false,false,false,true,true,true,false],[(0,.b (.one (.sl 1 (fixed0.map eB)))),(4,Pt 101 0),(5,Pt 102 0),(6,Pt 104 0)],[(101,.box 30 [.nil]),(102,.box 30 [.nil]),(104,.box 56 [.sl 1 (x_2.map (eL 2 aX))]),(105,.row 3 1 (x_3.map eI)),(107,.ao 30 [.row 105]),(108,.box 30 [.nil])],[true,true,true,true,true,true,true,true,true,true],[0,1,2,6,7,8],[9]⟩,⟨[false,false,true,false,false,true,true,true,true,false],[(0,.b (.one (.sl 1 (fixed0.map eB)))),(4,Pt 101 0),(5,Pt 102 0),(6,Pt 104 0)],[(101,.box 30 [.nil]),(102,.box 30 [.nil]),(104,.box 56 [.sl 1 (x_2.map (eL 2 aX))]),(105,.row 3 1 (x_3.map eI)),(106,.row 3 1 (x_4.map eI)),(107,.ao 30 [.row 105]),(108,.box 30 [.nil])],[true,true,true,true,true,true,true,true,true,true],[0,1,2,3,4,5,6,7,8],[]⟩,⟨[false,false,true,false,false,true,true,true,true,true],[(0,.b (.one (.sl 1 (fixed0.map eB)))),(4,Pt 101 0),(5,Pt 102 0),(6,Pt 104 0)],[(101,.box 30 [.nil]),(102,.box 30 [.nil]),(104,.box 56 [.sl 1 (x_2.map (eL 2 aX))]),(105,.row 3 1 (x_3.map eI)),(106,.row 3 1 (x_4.map eI)),(107,.ao 30 [.row 105]),(108,.ao 30 [.row 106])],[true,true,true,true,true,true,true,true,true,true],[0,1,2,3,4,5,6,7,8,9],[]⟩] rfl (⟨by kernel_rfl,⟨⟨.b (.one (.sl 1 (fixed0.map eB))),fun _=>rfl,fun _=>.p (by exact an rfl)⟩,⟨I (fixed0.length:Int),fun _=>rfl,fun _=>.p (by exact aq dw rfl (List.length_map _))⟩,⟨_,[105],.b (.row 105),rfl,fun _=>rfl,rfl,rfl,fun _=>.gf [101,102,104,105] (by exact .p (by exact bB (k:=105) (enc:=eI) ak e3 (by decide) (.cons .refl .nil) rfl rfl rfl)) (by exact rfl)⟩,⟨.b (.one (.sl 1 (fixed0.map eB))),fun _=>rfl,fun _=>.p (by exact an rfl)⟩,⟨I (fixed0.length:Int),fun _=>rfl,fun _=>.p (by exact aq dw rfl (List.length_map _))⟩,⟨_,[106],.b (.row 106),rfl,fun _=>rfl,rfl,rfl,fun _=>.gf [101,102,104,106] (by exact .p (by exact bB (k:=106) (enc:=eI) ak e4 (by decide) (.cons .refl .nil) rfl rfl rfl)) (by exact rfl)⟩,⟨_,[107],Pt 107 0,rfl,fun _=>rfl,rfl,rfl,fun _=>.gf [101,102,104,107] (by exact .p (by exact bf (k:=107) cJ rfl)) (by exact rfl)⟩,⟨_,[108],Pt 108 0,rfl,fun _=>rfl,rfl,rfl,fun _=>.gf [101,102,104,108] (by exact .p (by exact bf (k:=108) cJ rfl)) (by exact rfl)⟩,trivial,trivial,trivial⟩,⟨by kernel_rfl,⟨trivial,trivial,trivial,⟨.b (.one (.sl 1 (fixed0.map eB))),fun _=>rfl,fun _=>.p (by exact an rfl)⟩,⟨I (fixed0.length:Int),fun _=>rfl,fun _=>.p (by exact aq dw rfl (List.length_map _))⟩,⟨_,[106],.b (.row 106),rfl,fun _=>rfl,rfl,rfl,fun _=>.gf [101,102,104,105,106] (by exact .p (by exact bB (k:=106) (enc:=eI) ak e4 (by decide) (.cons .refl .nil) rfl rfl rfl)) (by exact rfl)⟩,⟨_,[107],Pt 107 0,rfl,fun _=>rfl,rfl,rfl,fun _=>.gf [101,102,104,105,107] (by exact .p (by exact bf (k:=107) cJ rfl)) (by exact rfl)⟩,⟨_,[108],Pt 108 0,rfl,fun _=>rfl,rfl,rfl,fun _=>.gf [101,102,104,105,108] (by exact .p (by exact bf (k:=108) cJ rfl)) (by exact rfl)⟩,trivial,trivial,trivial⟩,⟨by kernel_rfl,⟨⟨.b (.one (.sl 1 (fixed0.map eB))),fun _=>rfl,fun _=>.p (by exact an rfl)⟩,⟨I (fixed0.length:Int),fun _=>rfl,fun _=>.p (by exact aq dw rfl (List.length_map _))⟩,⟨_,[105],.b (.row 105),rfl,fun _=>rfl,rfl,rfl,fun _=>.gf [101,102,104,105,106] (by exact .p (by exact bB (k:=105) (enc:=eI) ak e3 (by decide) (.cons .refl .nil) rfl rfl rfl)) (by exact rfl)⟩,trivial,trivial,trivial,⟨_,[107],Pt 107 0,rfl,fun _=>rfl,rfl,rfl,fun _=>.gf [101,102,104,106,107] (by exact .p (by exact bf (k:=107) cJ rfl)) (by exact rfl)⟩,⟨_,[108],Pt 108 0,rfl,fun _=>rfl,rfl,rfl,fun _=>.gf [101,102,104,106,108] (by exact .p (by exact bf (k:=108) cJ rfl)) (by exact rfl)⟩,trivial,trivial,trivial⟩,⟨by kernel_rfl,⟨⟨.b (.one (.sl 1 (fixed0.map eB))),fun _=>rfl,fun _=>.p (by exact an rfl)⟩,⟨I (fixed0.length:Int),fun _=>rfl,fun _=>.p (by exact aq dw rfl (List.length_map _))⟩,⟨_,[105],.b (.row 105),rfl,fun _=>rfl,rfl,rfl,fun _=>.gf [101,102,104,105,107] (by exact .p (by exact bB (k:=105) (enc:=eI) ak e3 (by decide) (.cons .refl .nil) rfl rfl rfl)) (by exact rfl)⟩,⟨.b (.one (.sl 1 (fixed0.map eB))),fun _=>rfl,fun _=>.p (by exact an rfl)⟩,⟨I (fixed0.length:Int),fun _=>rfl,fun _=>.p (by exact aq dw rfl (List.length_map _))⟩,⟨_,[106],.b (.row 106),rfl,fun _=>rfl,rfl,rfl,fun _=>.gf [101,102,104,106,107] (by exact .p (by exact bB (k:=106) (enc:=eI) ak e4 (by decide) (.cons .refl .nil) rfl rfl rfl)) (by exact rfl)⟩,trivial,⟨_,[108],Pt 108 0,rfl,fun _=>rfl,rfl,rfl,fun _=>.gf [101,102,104,107,108] (by exact .p (by exact bf (k:=108) cJ rfl)) (by exact rfl)⟩,trivial,trivial,trivial⟩,⟨by kernel_rfl,⟨⟨.b (.one (.sl 1 (fixed0.map eB))),fun _=>rfl,fun _=>.p (by exact an rfl)⟩,⟨I (fixed0.length:Int),fun _=>rfl,fun _=>.p (by exact aq dw rfl (List.length_map _))⟩,⟨_,[105],.b (.row 105),rfl,fun _=>rfl,rfl,rfl,fun _=>.gf [101,102,104,105,108] (by exact .p (by exact bB (k:=105) (enc:=eI) ak e3 (by decide) (.cons .refl .nil) rfl rfl rfl)) (by exact rfl)⟩,⟨.b (.one (.sl 1 (fixed0.map eB))),fun _=>rfl,fun _=>.p (by exact an rfl)⟩,⟨I (fixed0.length:Int),fun _=>rfl,fun _=>.p (by exact aq dw rfl (List.length_map _))⟩,⟨_,[106],.b (.row 106),rfl,fun _=>rfl,rfl,rfl,fun _=>.gf [101,102,104,106,108] (by exact .p (by exact bB (k:=106) (enc:=eI) ak e4 (by decide) (.cons .refl .nil) rfl rfl rfl)) (by exact rfl)⟩,⟨_,[107],Pt 107 0,rfl,fun _=>rfl,rfl,rfl,fun _=>.gf [101,102,104,107,108] (by exact .p (by exact bf (k:=107) cJ rfl)) (by exact rfl)⟩,trivial,trivial,trivial,trivial⟩,⟨by kernel_rfl,⟨trivial,trivial,trivial,trivial,trivial,trivial,⟨_,[107],Pt 107 0,rfl,fun _=>rfl,rfl,rfl,fun _=>.gf [101,102,104,105,106,107] (by exact .p (by exact bf (k:=107) cJ rfl)) (by exact rfl)⟩,⟨_,[108],Pt 108 0,rfl,fun _=>rfl,rfl,rfl,fun _=>.gf [101,102,104,105,106,108] (by exact .p (by exact bf (k:=108) cJ rfl)) (by exact rfl)⟩,trivial,trivial,trivial⟩,⟨by kernel_rfl,⟨trivial,trivial,trivial,⟨.b (.one (.sl 1 (fixed0.map eB))),fun _=>rfl,fun _=>.p (by exact an rfl)⟩,⟨I (fixed0.length:Int),fun _=>rfl,fun _=>.p (by exact aq dw rfl (List.length_map _))⟩,⟨_,[106],.b (.row 106),rfl,fun _=>rfl,rfl,rfl,fun _=>.gf [101,102,104,105,106,107] (by exact .p (by exact bB (k:=106) (enc:=eI) ak e4 (by decide) (.cons .refl .nil) rfl rfl rfl)) (by exact rfl)⟩,trivial,⟨_,[108],Pt 108 0,rfl,fun _=>rfl,rfl,rfl,fun _=>.gf [101,102,104,105,107,108] (by exact .p (by exact bf (k:=108) cJ rfl)) (by exact rfl)⟩,trivial,trivial,trivial⟩,⟨by kernel_rfl,⟨trivial,trivial,trivial,⟨.b (.one (.sl 1 (fixed0.map eB))),fun _=>rfl,fun _=>.p (by exact an rfl)⟩,⟨I (fixed0.length:Int),fun _=>rfl,fun _=>.p (by exact aq dw rfl (List.length_map _))⟩,⟨_,[106],.b (.row 106),rfl,fun _=>rfl,rfl,rfl,fun _=>.gf [101,102,104,105,106,108] (by exact .p (by exact bB (k:=106) (enc:=eI) ak e4 (by decide) (.cons .refl .nil) rfl rfl rfl)) (by exact rfl)⟩,⟨_,[107],Pt 107 0,rfl,fun _=>rfl,rfl,rfl,fun _=>.gf [101,102,104,105,107,108] (by exact .p (by exact bf (k:=107) cJ rfl)) (by exact rfl)⟩,trivial,trivial,trivial,trivial⟩,⟨by kernel_rfl,⟨⟨.b (.one (.sl 1 (fixed0.map eB))),fun _=>rfl,fun _=>.p (by exact an rfl)⟩,⟨I (fixed0.length:Int),fun _=>rfl,fun _=>.p (by exact aq dw rfl (List.length_map _))⟩,⟨_,[105],.b (.row 105),rfl,fun _=>rfl,rfl,rfl,fun _=>.gf [101,102,104,105,106,107] (by exact .p (by exact bB (k:=105) (enc:=eI) ak e3 (by decide) (.cons .refl .nil) rfl rfl rfl)) (by exact rfl)⟩,trivial,trivial,trivial,trivial,⟨_,[108],Pt 108 0,rfl,fun _=>rfl,rfl,rfl,fun _=>.gf [101,102,104,106,107,108] (by exact .p (by exact bf (k:=108) cJ rfl)) (by exact rfl)⟩,trivial,trivial,trivial⟩,⟨by kernel_rfl,⟨⟨.b (.one (.sl 1 (fixed0.map eB))),fun _=>rfl,fun _=>.p (by exact an rfl)⟩,⟨I (fixed0.length:Int),fun _=>rfl,fun _=>.p (by exact aq dw rfl (List.length_map _))⟩,⟨_,[105],.b (.row 105),rfl,fun _=>rfl,rfl,rfl,fun _=>.gf [101,102,104,105,106,108] (by exact .p (by exact bB (k:=105) (enc:=eI) ak e3 (by decide) (.cons .refl .nil) rfl rfl rfl)) (by exact rfl)⟩,trivial,trivial,trivial,⟨_,[107],Pt 107 0,rfl,fun _=>rfl,rfl,rfl,fun _=>.gf [101,102,104,106,107,108] (by exact .p (by exact bf (k:=107) cJ rfl)) (by exact rfl)⟩,trivial,trivial,trivial,trivial⟩,⟨by kernel_rfl,⟨⟨.b (.one (.sl 1 (fixed0.map eB))),fun _=>rfl,fun _=>.p (by exact an rfl)⟩,⟨I (fixed0.length:Int),fun _=>rfl,fun _=>.p (by exact aq dw rfl (List.length_map _))⟩,⟨_,[105],.b (.row 105),rfl,fun _=>rfl,rfl,rfl,fun _=>.gf [101,102,104,105,107,108] (by exact .p (by exact bB (k:=105) (enc:=eI) ak e3 (by decide) (.cons .refl .nil) rfl rfl rfl)) (by exact rfl)⟩,⟨.b (.one (.sl 1 (fixed0.map eB))),fun _=>rfl,fun _=>.p (by exact an rfl)⟩,⟨I (fixed0.length:Int),fun _=>rfl,fun _=>.p (by exact aq dw rfl (List.length_map _))⟩,⟨_,[106],.b (.row 106),rfl,fun _=>rfl,rfl,rfl,fun _=>.gf [101,102,104,106,107,108] (by exact .p (by exact bB (k:=106) (enc:=eI) ak e4 (by decide) (.cons .refl .nil) rfl rfl rfl)) (by exact rfl)⟩,trivial,trivial,trivial,trivial,trivial⟩,⟨by kernel_rfl,⟨trivial,trivial,trivial,trivial,trivial,trivial,trivial,⟨_,[108],Pt 108 0,rfl,fun _=>rfl,rfl,rfl,fun _=>.gf [101,102,104,105,106,107,108] (by exact .p (by exact bf (k:=108) cJ rfl)) (by exact rfl)⟩,trivial,trivial,trivial⟩,⟨by kernel_rfl,⟨trivial,trivial,trivial,trivial,trivial,trivial,⟨_,[107],Pt 107 0,rfl,fun _=>rfl,rfl,rfl,fun _=>.gf [101,102,104,105,106,107,108] (by exact .p (by exact bf (k:=107) cJ rfl)) (by exact rfl)⟩,trivial,trivial,trivial,trivial⟩,⟨by kernel_rfl,⟨trivial,trivial,trivial,⟨.b (.one (.sl 1 (fixed0.map eB))),fun _=>rfl,fun _=>.p (by exact an rfl)⟩,⟨I (fixed0.length:Int),fun _=>rfl,fun _=>.p (by exact aq dw rfl (List.length_map _))⟩,⟨_,[106],.b (.row 106),rfl,fun _=>rfl,rfl,rfl,fun _=>.gf [101,102,104,105,106,107,108] (by exact .p (by exact bB (k:=106) (enc:=eI) ak e4 (by decide) (.cons .refl .nil) rfl rfl rfl)) (by exact rfl)⟩,trivial,trivial,⟨_,[],.b (.one .any),rfl,(fun e=>by simp at e),rfl,rfl,fun _=>.gf [101,102,104,105,107,108] (by exact .oF 107 rfl (.plain rfl (ed aS rfl rfl rfl rfl (Nat.le_of_ble_eq_true rfl) rfl))) (by exact rfl)⟩,trivial,trivial⟩,⟨by kernel_rfl,⟨⟨.b (.one (.sl 1 (fixed0.map eB))),fun _=>rfl,fun _=>.p (by exact an rfl)⟩,⟨I (fixed0.length:Int),fun _=>rfl,fun _=>.p (by exact aq dw rfl (List.length_map _))⟩,⟨_,[105],.b (.row 105),rfl,fun _=>rfl,rfl,rfl,fun _=>.gf [101,102,104,105,106,107,108] (by exact .p (by exact bB (k:=105) (enc:=eI) ak e3 (by decide) (.cons .refl .nil) rfl rfl rfl)) (by exact rfl)⟩,trivial,trivial,trivial,trivial,trivial,trivial,trivial,trivial⟩,⟨by kernel_rfl,⟨trivial,trivial,trivial,trivial,trivial,trivial,trivial,trivial,⟨_,[],.b (.one .any),rfl,(fun e=>by simp at e),rfl,rfl,fun _=>.gf [101,102,104,105,106,107,108] (by exact .oF 107 rfl (.plain rfl (ed aS rfl rfl rfl rfl (Nat.le_of_ble_eq_true rfl) rfl))) (by exact rfl)⟩,trivial,trivial⟩,⟨by kernel_rfl,⟨trivial,trivial,trivial,⟨.b (.one (.sl 1 (fixed0.map eB))),fun _=>rfl,fun _=>.p (by exact an rfl)⟩,⟨I (fixed0.length:Int),fun _=>rfl,fun _=>.p (by exact aq dw rfl (List.length_map _))⟩,⟨_,[106],.b (.row 106),rfl,fun _=>rfl,rfl,rfl,fun _=>.gf [101,102,104,105,106,107,108] (by exact .p (by exact bB (k:=106) (enc:=eI) ak e4 (by decide) (.cons .refl .nil) rfl rfl rfl)) (by exact rfl)⟩,trivial,trivial,trivial,trivial,trivial⟩,⟨by kernel_rfl,⟨trivial,trivial,trivial,trivial,trivial,trivial,trivial,trivial,trivial,⟨_,[],.b (.one .any),rfl,(fun e=>by simp at e),rfl,rfl,fun _=>.gf [101,102,104,105,106,107,108] (by exact .oF 108 rfl (.plain rfl (ed aS rfl rfl rfl rfl (Nat.le_of_ble_eq_true rfl) rfl))) (by exact rfl)⟩,trivial⟩,⟨by kernel_rfl,⟨trivial,trivial,trivial,trivial,trivial,trivial,trivial,trivial,trivial,trivial,trivial⟩,trivial⟩⟩⟩⟩⟩⟩⟩⟩⟩⟩⟩⟩⟩⟩⟩⟩⟩⟩⟩) rfl rfl rfl [0,4,5,6,7,8] [101,102,104,105,106,107,108] (s':=⟨[(0,.b (.one (.sl 1 (fixed0.map eB)))),(4,Pt 101 0),(5,Pt 102 0),(6,Pt 104 0),(7,Pt 107 0),(8,Pt 108 0)],[(101,.box 30 [.nil]),(102,.box 30 [.nil]),(104,.box 56 [.sl 1 (x_2.map (eL 2 aX))]),(105,.row 3 1 (x_3.map eI)),(106,.row 3 1 (x_4.map eI)),(107,.ao 30 [.row 105]),(108,.ao 30 [.row 106])]⟩) rfl ?_
 refine ab.seq (ab.aa ?_)
 refine Oc (bf (k:=109) tyZero3 rfl) (Oc (gE aA rfl rfl rfl (Nat.le_of_ble_eq_true rfl) rfl) ?_)
 refine ae.af ⟨[(0,_),(4,_),(5,_),(6,_),(7,_),(8,_),(9,Pt 109 0)],[(101,_),(102,_),(104,_),(105,_),(106,_),(107,_),(108,_),(109,.box 3 [.i 0])]⟩ rfl (ab.seq (ab.aa ?_))
 refine Oc (bf (k:=110) tR rfl) (ae.af ⟨[(0,_),(4,_),(5,_),(6,_),(7,_),(8,_),(9,_),(10,Pt 110 0)],[(101,_),(102,_),(104,_),(105,_),(106,_),(107,_),(108,_),(109,_),(110,.box 80 [.raw .nilFunc])]⟩ rfl (ab.seq (ab.aa ?_)))
 refine Oc (qB rfl rfl) (ae.oF 110 rfl (Oc (ed px rfl rfl rfl rfl (Nat.le_of_ble_eq_true rfl) rfl) (ae.af ⟨[(0,.b (.one (.sl 1 (fixed0.map eB)))),(4,Pt 101 0),(5,Pt 102 0),(7,Pt 107 0),(10,Pt 110 0)],[(101,.box 30 [.nil]),(102,.box 30 [.nil]),(104,.box 56 [.sl 1 (x_2.map (eL 2 aX))]),(105,.row 3 1 (x_3.map eI)),(106,.row 3 1 (x_4.map eI)),(107,.ao 30 [.row 105]),(108,.ao 30 [.row 106]),(109,.box 3 [.i 0]),(110,.ao 80 [.gX 53 [] [.ptr 109 0,.ptr 107 0,.ptr 108 0,.ptr 104 0,.ptr 110 0,.ptr 102 0,.ptr 101 0]])]⟩ rfl ?_)))
 obtain ⟨v5,h6,h⟩:=aF h
 refine ab.bS (v:=v5) (cr fun (keysf0_5:List Int) (bridgesf0_6:List Int)=>⟨[(4,Pt 101 0),(5,Pt 102 0)],[(101,.ao 30 [.row 112]),(102,.ao 30 [.row 111]),(111,.row 3 1 (bridgesf0_6.map eI)),(112,.row 3 1 (keysf0_5.map eI))]⟩) (fun z=>z) ?_ ?_
 ·refine ab.seq (ab.aa ?_)
  refine Oc om (Oc (aq dw rfl (List.length_map _)) (Oc om ?_))
  refine ae.af ⟨[(4,Pt 101 0),(5,Pt 102 0),(7,Pt 107 0),(10,Pt 110 0),(27,.b (.one (.sl 1 (fixed0.map eB)))),(28,I (fixed0.length:Int)),(29,I 0)],[(101,.box 30 [.nil]),(102,.box 30 [.nil]),(104,.box 56 [.sl 1 (x_2.map (eL 2 aX))]),(105,.row 3 1 (x_3.map eI)),(106,.row 3 1 (x_4.map eI)),(107,.ao 30 [.row 105]),(108,.ao 30 [.row 106]),(109,.box 3 [.i 0]),(110,.ao 80 [.gX 53 [] [.ptr 109 0,.ptr 107 0,.ptr 108 0,.ptr 104 0,.ptr 110 0,.ptr 102 0,.ptr 101 0]])]⟩ rfl (ab.block (ab.oF 101 rfl (ab.iJ 101 0 112 1 3 rfl rfl (by decide) (by decide) rfl (ab.oF 102 rfl (ab.iJ 102 0 111 1 3 rfl rfl (by decide) (by decide) rfl ?_)))))
  refine ab.bZ h6 (un6 fun (keysf0_7:List Int) (bridgesf0_8:List Int) (seenf0_9:List Int) (visitf0_10:Int) (visitf0f0_11:List Int) (x_12:Int)=>⟨[(4,Pt 101 0),(5,Pt 102 0),(7,Pt 107 0),(10,Pt 110 0),(27,.b (.one (.sl 1 (fixed0.map eB)))),(28,I (fixed0.length:Int)),(29,I x_12)],[(101,.ao 30 [.row 112]),(102,.ao 30 [.row 111]),(104,.box 56 [.sl 1 (x_2.map (eL 2 aX))]),(105,.row 3 1 (seenf0_9.map eI)),(106,.row 3 1 (visitf0f0_11.map eI)),(107,.ao 30 [.row 105]),(108,.ao 30 [.row 106]),(109,.box 3 [.i visitf0_10]),(110,.ao 80 [.gX 53 [] [.ptr 109 0,.ptr 107 0,.ptr 108 0,.ptr 104 0,.ptr 110 0,.ptr 102 0,.ptr 101 0]]),(111,.row 3 1 (bridgesf0_8.map eI)),(112,.row 3 1 (keysf0_7.map eI))]⟩) [4,5,7,10,27,28,29] [101,102,104,105,106,107,108,109,110,111,112] rfl ?_
  rintro ⟨keysf0_7,bridgesf0_8,seenf0_9,visitf0_10,visitf0f0_11,x_12⟩ o7 h8 hy9
  refine ab.seq (ab.aa ?_)
  refine Oc (a8 rfl rfl) (ae.af ⟨[(4,_),(5,_),(7,_),(10,_),(27,_),(28,_),(29,_),(30,B (decide (x_12 < (fixed0.length:Int))))],[(101,_),(102,_),(104,_),(105,_),(106,_),(107,_),(108,_),(109,_),(110,_),(111,_),(112,_)]⟩ rfl (ab.seq (ab.ite h8 rfl (fun _ h8=>?_) (fun _ h8=>?_))))
  ·refine ab.skip (Fin.ag ⟨[(4,_),(5,_),(7,_),(10,_),(27,_),(28,_),(29,_)],[(101,_),(102,_),(104,_),(105,_),(106,_),(107,_),(108,_),(109,_),(110,_),(111,_),(112,_)]⟩ rfl (Fin.then ?_))
   obtain ⟨v10,h11,h8⟩:=aF h8
   refine ab.bS (v:=v10) (un5 fun (keysf0_15:List Int) (bridgesf0_16:List Int) (seenf0_17:List Int) (visitf0_18:Int) (visitf0f0_19:List Int)=>⟨[(4,Pt 101 0),(5,Pt 102 0),(7,Pt 107 0),(10,Pt 110 0),(27,.b (.one (.sl 1 (fixed0.map eB)))),(28,I (fixed0.length:Int)),(29,I x_12)],[(101,.ao 30 [.row 112]),(102,.ao 30 [.row 111]),(104,.box 56 [.sl 1 (x_2.map (eL 2 aX))]),(105,.row 3 1 (seenf0_17.map eI)),(106,.row 3 1 (visitf0f0_19.map eI)),(107,.ao 30 [.row 105]),(108,.ao 30 [.row 106]),(109,.box 3 [.i visitf0_18]),(110,.ao 80 [.gX 53 [] [.ptr 109 0,.ptr 107 0,.ptr 108 0,.ptr 104 0,.ptr 110 0,.ptr 102 0,.ptr 101 0]]),(111,.row 3 1 (bridgesf0_16.map eI)),(112,.row 3 1 (keysf0_15.map eI))]⟩) (fun z=>z) ?_ ?_
   ·refine ab.block (ab.seq (ab.aa ?_))
    refine Oc om ?_
    obtain ⟨x_20,e12,h11⟩:=aF h11
    refine Oc (az fR (aE e12) (aC (e:=eB) e12) rfl rfl) (Oc (aw hZ rfl rfl) (Oc oa (Oc oa ?_)))
    refine ae.af ⟨[(4,_),(5,_),(7,_),(10,_),(11,I x_12),(12,B x_20),(27,_),(28,_),(29,_)],[(101,_),(102,_),(104,_),(105,_),(106,_),(107,_),(108,_),(109,_),(110,_),(111,_),(112,_)]⟩ rfl (ab.seq (ab.aa ?_))
    refine Oc om (Oc (c4 rfl) (Oc om ?_))
    refine c6 (!x_20) [] (fun g13=>trivial) (fun g13=>a7 aS rfl rfl rfl) (c6 (!x_20) [] (fun g14=>trivial) (fun g14=>om) ?_)
    obtain ⟨x_21,e16,h11⟩:=aF h11
    refine c6 (!x_20) [37,38] (fun g15=>⟨g15,g15,trivial⟩) (fun g15=>au ak (aE (gc e16 g15)) (aY (gc e16 g15)) rfl rfl rfl rfl) (c6 (!x_20) [39] (fun g17=>⟨g17,trivial⟩) (fun g17=>aK (i:=(x_12:Int).toNat) (f:=0) aA rfl rfl rfl (aC (e:=eI) (gc e16 g17)) rfl) (c6 (!x_20) [40] (fun g18=>⟨g18,trivial⟩) (fun g18=>dN rfl rfl) (Oc (aO (fun e=>e) rfl rfl rfl rfl) (ae.af ⟨[(4,_),(5,_),(7,_),(10,_),(11,_),(27,_),(28,_),(29,_),(42,B ((!x_20) && (decide (x_21 = 0))))],[(101,_),(102,_),(104,_),(105,_),(106,_),(107,_),(108,_),(109,_),(110,_),(111,_),(112,_)]⟩ rfl (ab.ite h11 rfl (fun _ h11=>?_) (fun _ h11=>?_))))))
    ·refine ab.aa (Oc (a7 px rfl rfl rfl) (Oc om ?_))
     obtain ⟨⟨x_22,x_23,x_24,x_25,x_26⟩,e19,h11⟩:=aF h11
     refine Oc (qd (own_a:=[(109,_),(107,_),(105,_),(108,_),(106,_),(104,_),(110,_),(102,_),(111,_),(101,_),(112,_)]) (ar.cast (own2:=[(109,.box 3 [.i visitf0_10]),(107,.ao 30 [.row 105]),(105,.row 3 1 (seenf0_9.map eI)),(108,.ao 30 [.row 106]),(106,.row 3 1 (visitf0f0_11.map eI)),(104,.box 56 [.sl 1 (x_2.map (eL 2 aX))]),(110,.ao 80 [.gX 53 [] [.ptr 109 0,.ptr 107 0,.ptr 108 0,.ptr 104 0,.ptr 110 0,.ptr 102 0,.ptr 101 0]]),(102,.ao 30 [.row 111]),(111,.row 3 1 (bridgesf0_8.map eI)),(101,.ao 30 [.row 112]),(112,.row 3 1 (keysf0_7.map eI))]) (args2:=[.one (.i x_12),.one (.i (-1)),.ptr 109 0,.ptr 107 0,.ptr 108 0,.ptr 104 0,.ptr 110 0,.ptr 102 0,.ptr 101 0]) (own2':=[(109,.box 3 [.i x_22]),(107,.ao 30 [.row 105]),(105,.row 3 1 (x_23.map eI)),(108,.ao 30 [.row 106]),(106,.row 3 1 (x_24.map eI)),(104,.box 56 [.sl 1 (x_2.map (eL 2 aX))]),(110,.ao 80 [.gX 53 [] [.ptr 109 0,.ptr 107 0,.ptr 108 0,.ptr 104 0,.ptr 110 0,.ptr 102 0,.ptr 101 0]]),(102,.ao 30 [.row 111]),(111,.row 3 1 (x_25.map eI)),(101,.ao 30 [.row 112]),(112,.row 3 1 (x_26.map eI))]) (res2:=.fi []) ((((((((((((lN e19).sw 1 109).sw 2 107).sw 3 105).sw 4 108).sw 5 106).sw 6 104).sw 7 110).sw 8 102).sw 9 111).sw 10 101).sw 11 112) (by kernel_rfl) (by kernel_rfl) (by kernel_rfl) (by kernel_rfl)) tj rfl rfl rfl ⟨rfl,rfl,rfl,rfl,rfl,rfl,rfl,rfl,rfl,rfl,rfl,trivial⟩ rfl rfl) (ae.ag ⟨[(4,Pt 101 0),(5,Pt 102 0),(7,Pt 107 0),(10,Pt 110 0),(11,I x_12),(27,.b (.one (.sl 1 (fixed0.map eB)))),(28,I (fixed0.length:Int)),(29,I x_12),(42,B ((!x_20) && (decide (x_21 = 0)))),(43,.b (.gX 53 [] [.ptr 109 0,.ptr 107 0,.ptr 108 0,.ptr 104 0,.ptr 110 0,.ptr 102 0,.ptr 101 0])),(44,I x_12),(45,.fi [])],[(101,.ao 30 [.row 112]),(102,.ao 30 [.row 111]),(104,.box 56 [.sl 1 (x_2.map (eL 2 aX))]),(105,.row 3 1 (x_23.map eI)),(106,.row 3 1 (x_24.map eI)),(107,.ao 30 [.row 105]),(108,.ao 30 [.row 106]),(109,.box 3 [.i x_22]),(110,.ao 80 [.gX 53 [] [.ptr 109 0,.ptr 107 0,.ptr 108 0,.ptr 104 0,.ptr 110 0,.ptr 102 0,.ptr 101 0]]),(111,.row 3 1 (x_25.map eI)),(112,.row 3 1 (x_26.map eI))]⟩ (by kernel_rfl) (ae.nil (Fin.ah ?_)))
     exact Fin.join [4,5,7,10,27,28,29] [101,102,104,105,106,107,108,109,110,111,112] (x_26,x_25,x_23,x_22,x_24) (Option.some.inj h11) rfl
    ·refine ab.skip (Fin.ah ?_)
     exact Fin.join [4,5,7,10,27,28,29] [101,102,104,105,106,107,108,109,110,111,112] (keysf0_7,bridgesf0_8,seenf0_9,visitf0_10,visitf0f0_11) (Option.some.inj h11) rfl
   ·rintro ⟨keysf0_15,bridgesf0_16,seenf0_17,visitf0_18,visitf0f0_19⟩ hv
    subst v10
    refine ab.aa (Oc (aV rfl rfl) (Oc om ?_))
    refine ae.nil ?_
    exact Fin.bx [4,5,7,10,27,28,29] [101,102,104,105,106,107,108,109,110,111,112] (keysf0_15,bridgesf0_16,seenf0_17,visitf0_18,visitf0f0_19,IntKind.i64.wrap (x_12 + 1)) (Option.some.inj h8) rfl
  ·refine ab.exit (Fin.ai ?_)
   obtain rfl:=hy9 _ (Option.some.inj h8).symm
   refine Fin.ai (Fin.ay ?_)
   exact Fin.join [4,5] [101,102,111,112] (keysf0_7,bridgesf0_8) rfl rfl
 ·rintro ⟨keysf0_5,bridgesf0_6⟩ hv
  subst v5
  refine ab.seq (ab.aa ?_)
  refine Oc (a7 aS rfl rfl rfl) (ae.k9 112 rfl ?_)
  obtain ⟨x_27,e20,h⟩:=aF h
  refine Oc (bh (own_a:=[(112,_)]) ((fc e20).sw 1 112) pq rfl ⟨rfl,trivial⟩ rfl rfl) (ae.lO 112 rfl (ae.af ⟨[(4,_),(5,_)],[(101,_),(102,_),(111,_),(112,.row 3 1 (x_27.map eI))]⟩ rfl (ab.seq (ab.aa ?_))))
  refine Oc (a7 aS rfl rfl rfl) (ae.k9 111 rfl ?_)
  obtain ⟨x_28,e21,h⟩:=aF h
  refine Oc (bh (own_a:=[(111,_)]) ((fc e21).sw 1 111) pq rfl ⟨rfl,trivial⟩ rfl rfl) (ae.lO 111 rfl (ae.af ⟨[(4,_),(5,_)],[(101,_),(102,_),(111,.row 3 1 (x_28.map eI)),(112,_)]⟩ rfl (ab.seq (ab.nH mixed [false,false,true,true] [.b (.row 112),.b (.row 111),B true,B true] [⟨[false,false,false,false],[(4,Pt 101 0),(5,Pt 102 0)],[(101,.ao 30 [.row 112]),(102,.ao 30 [.row 111]),(111,.row 3 1 (x_28.map eI)),(112,.row 3 1 (x_27.map eI))],[true,true,true,true],[],[3]⟩,⟨[false,false,true,false],[(4,Pt 101 0),(5,Pt 102 0)],[(101,.ao 30 [.row 112]),(102,.ao 30 [.row 111]),(111,.row 3 1 (x_28.map eI)),(112,.row 3 1 (x_27.map eI))],[true,true,true,true],[0,2],[]⟩,⟨[false,false,true,true],[(4,Pt 101 0),(5,Pt 102 0)],[(101,.ao 30 [.row 112]),(102,.ao 30 [.row 111]),(111,.row 3 1 (x_28.map eI)),(112,.row 3 1 (x_27.map eI))],[true,true,true,true],[0,1,2,3],[]⟩] rfl (⟨by kernel_rfl,⟨⟨.b (.row 112),fun _=>rfl,fun _=>.p (by exact a7 aS rfl rfl rfl)⟩,⟨.b (.row 111),fun _=>rfl,fun _=>.p (by exact a7 aS rfl rfl rfl)⟩,⟨_,[],.b (.one .any),rfl,(fun e=>by simp at e),rfl,rfl,fun _=>.gf [101,102,111,112] (by exact .p (by exact ed aS rfl rfl rfl rfl (Nat.le_of_ble_eq_true rfl) rfl)) (by exact rfl)⟩,trivial,trivial⟩,⟨by kernel_rfl,⟨trivial,⟨.b (.row 111),fun _=>rfl,fun _=>.p (by exact a7 aS rfl rfl rfl)⟩,trivial,⟨_,[],.b (.one .any),rfl,(fun e=>by simp at e),rfl,rfl,fun _=>.gf [101,102,111,112] (by exact .p (by exact ed aS rfl rfl rfl rfl (Nat.le_of_ble_eq_true rfl) rfl)) (by exact rfl)⟩,trivial⟩,⟨by kernel_rfl,⟨trivial,trivial,trivial,trivial,trivial⟩,trivial⟩⟩⟩) rfl rfl rfl [4,5] [101,102,111,112] (s':=⟨[(4,_),(5,_)],[(101,_),(102,_),(111,_),(112,_)]⟩) rfl (ab.ret ?_)))))
  obtain rfl:=Option.some.inj h
  refine Fin.ag ⟨[(4,Pt 101 0),(5,Pt 102 0)],[(101,.ao 30 [.row 112]),(102,.ao 30 [.row 111]),(111,.row 3 1 (x_28.map eI)),(112,.row 3 1 (x_27.map eI))]⟩ rfl (Fin.bE 112 rfl (Fin.unX 101 rfl rfl (Fin.bE 111 rfl (Fin.unX 102 rfl rfl (Fin.aP [.one (.sl 1 (x_27.map eI)),.one (.sl 1 (x_28.map eI))] (.inl rfl) rfl (.cons (.one aS rfl rfl rfl) (.cons (.one aS rfl rfl rfl) .nil)) ⟨rfl,rfl⟩)))))
def cm (F:Nat) (fixed0:List Bool) (links0:List A2):Option ((List Int) × Int) :=
 (bM F fixed0 links0).bind fun x_1=>if (!x_1) = true then (some ([],1)) else (Option.bind (dO F fixed0 links0) (cr fun x_2 x_3=>some (x_3,0)))
theorem gK {F:Nat} {fixed0:List Bool} {links0:List A2} {r:(List Int) × Int} (h:cm F fixed0 links0 = some r):ar Try.prog [] 22 [] [.one (.sl 1 (fixed0.map eB)),.one (.sl 2 (links0.map (bX .i64)))] (Is [] (.fi [.one (.sl 1 (r.1.map eI)),.one (.i r.2)])):=by
 unfold cm at h
 refine ar.intro 19 Try.func22 Try.ntmps22 rfl (by simp) fun E=>?_
 show ab _ E ⟨19,[],[],[]⟩ _ ⟨[(0,.b (.one (.sl 1 (fixed0.map eB)))),(1,.b (.one (.sl 2 (links0.map (bX .i64)))))],[]⟩ _
 refine ab.seq (ab.aa ?_)
 refine Oc oa (Oc oa ?_)
 refine ae.af ⟨[(0,.b (.one (.sl 1 (fixed0.map eB)))),(1,.b (.one (.sl 2 (links0.map (bX .i64)))))],[]⟩ rfl (ab.seq (ab.seq (ab.aa ?_)))
 refine Oc om (Oc om ?_)
 obtain ⟨x_1,e1,h⟩:=aF h
 refine Oc (aJ (cM e1) mR rfl rfl) (Oc (c4 rfl) ?_)
 refine ae.af ⟨[(0,_),(1,_),(11,B (!x_1))],[]⟩ rfl (ab.ite h rfl (fun _ h=>?_) (fun _ h=>?_))
 ·refine ab.seq (ab.aa ?_)
  refine Oc oa (Oc oa ?_)
  refine ae.af ⟨[(4,.b (.one (.nil))),(5,I 1)],[]⟩ rfl (ab.ret (Fin.aR ?_))
  obtain rfl:=Option.some.inj h
  refine Fin.ag ⟨[(4,_),(5,_)],[]⟩ rfl (Fin.iH 4 1 rfl (by decide) (Fin.aP [.one (.sl 1 ([].map eI)),.one (.i 1)] (.inl rfl) rfl (.cons (.tmp rfl) (.cons (.tmp rfl) .nil)) ⟨rfl,rfl⟩))
 ·refine ab.skip (Fin.ag ⟨[(0,_),(1,_)],[]⟩ rfl (Fin.then (ab.seq (ab.aa ?_))))
  refine Oc om (Oc om ?_)
  obtain ⟨⟨x_2,x_3⟩,e2,h⟩:=aF h
  refine Oc (aJ (js e2) tt rfl rfl) (Oc om (Oc (aG rfl rfl) ?_))
  refine ae.ag ⟨[(12,.fi [.one (.sl 1 (x_2.map eI)),.one (.sl 1 (x_3.map eI))]),(16,.b (.one (.sl 1 (x_2.map eI))))],[]⟩ rfl (Oc (aG rfl rfl) (Oc oa (Oc oa ?_)))
  refine ae.af ⟨[(7,.b (.one (.sl 1 (x_3.map eI))))],[]⟩ rfl (ab.seq (ab.aa ?_))
  refine Oc om (Oc oa (Oc oa ?_))
  refine ae.af ⟨[(4,.b (.one (.sl 1 (x_3.map eI)))),(5,I 0)],[]⟩ rfl (ab.ret ?_)
  obtain rfl:=Option.some.inj h
  refine Fin.ag ⟨[(4,_),(5,_)],[]⟩ rfl (Fin.aP [.one (.sl 1 (x_3.map eI)),.one (.i 0)] (.inl rfl) rfl (.cons (.tmp rfl) (.cons (.tmp rfl) .nil)) ⟨rfl,rfl⟩)
def cX (F:Nat) (fixed0:List Bool) (links0:List A2):Option ((List Int) × Int) :=
 (bM F fixed0 links0).bind fun x_1=>if (!x_1) = true then (some ([],1)) else (Option.bind (dO F fixed0 links0) (cr fun x_2 x_3=>some (x_2,0)))
theorem jt {F:Nat} {fixed0:List Bool} {links0:List A2} {r:(List Int) × Int} (h:cX F fixed0 links0 = some r):ar Try.prog [] 21 [] [.one (.sl 1 (fixed0.map eB)),.one (.sl 2 (links0.map (bX .i64)))] (Is [] (.fi [.one (.sl 1 (r.1.map eI)),.one (.i r.2)])):=by
 unfold cX at h
 refine ar.intro 19 Try.func21 Try.ntmps21 rfl (by simp) fun E=>?_
 show ab _ E ⟨19,[],[],[]⟩ _ ⟨[(0,.b (.one (.sl 1 (fixed0.map eB)))),(1,.b (.one (.sl 2 (links0.map (bX .i64)))))],[]⟩ _
 refine ab.seq (ab.aa ?_)
 refine Oc oa (Oc oa ?_)
 refine ae.af ⟨[(0,.b (.one (.sl 1 (fixed0.map eB)))),(1,.b (.one (.sl 2 (links0.map (bX .i64)))))],[]⟩ rfl (ab.seq (ab.seq (ab.aa ?_)))
 refine Oc om (Oc om ?_)
 obtain ⟨x_1,e1,h⟩:=aF h
 refine Oc (aJ (cM e1) mR rfl rfl) (Oc (c4 rfl) ?_)
 refine ae.af ⟨[(0,_),(1,_),(11,B (!x_1))],[]⟩ rfl (ab.ite h rfl (fun _ h=>?_) (fun _ h=>?_))
 ·refine ab.seq (ab.aa ?_)
  refine Oc oa (Oc oa ?_)
  refine ae.af ⟨[(4,.b (.one (.nil))),(5,I 1)],[]⟩ rfl (ab.ret (Fin.aR ?_))
  obtain rfl:=Option.some.inj h
  refine Fin.ag ⟨[(4,_),(5,_)],[]⟩ rfl (Fin.iH 4 1 rfl (by decide) (Fin.aP [.one (.sl 1 ([].map eI)),.one (.i 1)] (.inl rfl) rfl (.cons (.tmp rfl) (.cons (.tmp rfl) .nil)) ⟨rfl,rfl⟩))
 ·refine ab.skip (Fin.ag ⟨[(0,_),(1,_)],[]⟩ rfl (Fin.then (ab.seq (ab.aa ?_))))
  refine Oc om (Oc om ?_)
  obtain ⟨⟨x_2,x_3⟩,e2,h⟩:=aF h
  refine Oc (aJ (js e2) tt rfl rfl) (Oc om (Oc (aG rfl rfl) ?_))
  refine ae.ag ⟨[(12,.fi [.one (.sl 1 (x_2.map eI)),.one (.sl 1 (x_3.map eI))]),(16,.b (.one (.sl 1 (x_2.map eI))))],[]⟩ rfl (Oc (aG rfl rfl) (Oc oa (Oc oa ?_)))
  refine ae.af ⟨[(6,.b (.one (.sl 1 (x_2.map eI))))],[]⟩ rfl (ab.seq (ab.aa ?_))
  refine Oc om (Oc oa (Oc oa ?_))
  refine ae.af ⟨[(4,.b (.one (.sl 1 (x_2.map eI)))),(5,I 0)],[]⟩ rfl (ab.ret ?_)
  obtain rfl:=Option.some.inj h
  refine Fin.ag ⟨[(4,_),(5,_)],[]⟩ rfl (Fin.aP [.one (.sl 1 (x_2.map eI)),.one (.i 0)] (.inl rfl) rfl (.cons (.tmp rfl) (.cons (.tmp rfl) .nil)) ⟨rfl,rfl⟩)
def fY (F:Nat) (lists0:List (List (List Int))):Option (List (List Int)) :=
 Option.bind (iter F (cr fun up_2 x_3=>if (decide (x_3 < (lists0.length:Int))) = true then (Option.bind ((aM lists0 x_3).bind fun x_6=>Option.bind (iter F (cr fun up_7 x_8=>if (decide (x_8 < (x_6.length:Int))) = true then (Option.bind ((aM x_6 x_8).bind fun x_11=>Option.bind (iter F (cr fun up_12 x_13=>if (decide (x_13 < (x_11.length:Int))) = true then ((aM x_11 x_13).bind fun x_15=>(aM x_11 0).bind fun x_16=>Option.bind (bW F x_16 x_15 up_12) (cr fun x_17 x_18=>some (.inl (x_18,IntKind.i64.wrap (x_13 + 1))))) else (some (.inr up_12))) (up_7,0)) (fun up_14=>some up_14)) (fun up_10=>some (.inl (up_10,IntKind.i64.wrap (x_8 + 1))))) else (some (.inr up_7))) (up_2,0)) (fun up_9=>some up_9)) (fun up_5=>some (.inl (up_5,IntKind.i64.wrap (x_3 + 1))))) else (some (.inr up_2))) (([]:bC),0)) (fun up_1=>Option.bind (cU F up_1) (cr fun x_19 x_20=>some x_19))
theorem mD {F:Nat} {lists0:List (List (List Int))} {r:(List (List Int))} (h:fY F lists0 = some r):ar Try.prog [] 27 [] [.one (.sl 1 (lists0.map (eL 1 (eL 1 eI))))] (Is [] (.b (.one (.sl 1 (r.map (eL 1 eI)))))):=by
 unfold fY at h
 refine ar.intro 41 Try.func27 Try.ntmps27 rfl (by simp) fun E=>?_
 show ab _ E ⟨41,[],[],[]⟩ _ ⟨[(0,.b (.one (.sl 1 (lists0.map (eL 1 (eL 1 eI))))))],[]⟩ _
 refine ab.seq (ab.aa ?_)
 refine Oc oa (ae.af ⟨[(0,.b (.one (.sl 1 (lists0.map (eL 1 (eL 1 eI))))))],[]⟩ rfl (ab.seq (ab.aa ?_)))
 refine Oc (iO (k:=101) mG rfl) (Oc ((n9 oQ rfl rfl).lA rfl) (Oc (bf (k:=102) je rfl) ?_))
 refine ae.oF 102 rfl (Oc (fK c7 rfl rfl rfl rfl rfl (Nat.le_of_ble_eq_true rfl) rfl) (ae.af ⟨[(0,.b (.one (.sl 1 (lists0.map (eL 1 (eL 1 eI)))))),(3,Pt 102 0)],[(101,.mq ([]:bC)),(102,.ao 52 [.row 101])]⟩ rfl ?_))
 obtain ⟨v1,h2,h⟩:=aF h
 refine ab.bS (v:=v1) (fun (up_1:bC)=>⟨[(3,Pt 102 0)],[(101,.mq up_1),(102,.ao 52 [.row 101])]⟩) (fun z=>z) ?_ ?_
 ·refine ab.seq (ab.aa ?_)
  refine Oc om (Oc (aq und41 rfl (List.length_map _)) (Oc om ?_))
  refine ae.af ⟨[(3,_),(12,.b (.one (.sl 1 (lists0.map (eL 1 (eL 1 eI)))))),(13,I (lists0.length:Int)),(14,I 0)],[(101,_),(102,_)]⟩ rfl (ab.block (ab.bZ h2 (cr fun (up_2:bC) (x_3:Int)=>⟨[(3,Pt 102 0),(12,.b (.one (.sl 1 (lists0.map (eL 1 (eL 1 eI)))))),(13,I (lists0.length:Int)),(14,I x_3)],[(101,.mq up_2),(102,.ao 52 [.row 101])]⟩) [3,12,13,14] [101,102] rfl ?_))
  rintro ⟨up_2,x_3⟩ o3 h4 hy5
  refine ab.seq (ab.aa ?_)
  refine Oc (a8 rfl rfl) (ae.af ⟨[(3,_),(12,_),(13,_),(14,_),(15,B (decide (x_3 < (lists0.length:Int))))],[(101,_),(102,_)]⟩ rfl (ab.seq (ab.ite h4 rfl (fun _ h4=>?_) (fun _ h4=>?_))))
  ·refine ab.skip (Fin.ag ⟨[(3,_),(12,_),(13,_),(14,_)],[(101,_),(102,_)]⟩ rfl (Fin.then ?_))
   obtain ⟨v6,h7,h4⟩:=aF h4
   refine ab.bS (v:=v6) (fun (up_5:bC)=>⟨[(3,Pt 102 0),(12,.b (.one (.sl 1 (lists0.map (eL 1 (eL 1 eI)))))),(13,I (lists0.length:Int)),(14,I x_3)],[(101,.mq up_5),(102,.ao 52 [.row 101])]⟩) (fun z=>z) ?_ ?_
   ·refine ab.block (ab.seq (ab.aa ?_))
    obtain ⟨x_6,e8,h7⟩:=aF h7
    refine Oc (az s7 (aE e8) (aC (e:=(eL 1 (eL 1 eI))) e8) rfl rfl) (Oc (aw tyOne26 rfl rfl) (Oc oa ?_))
    refine ae.af ⟨[(3,_),(5,.b (.one (.sl 1 (x_6.map (eL 1 eI))))),(12,_),(13,_),(14,_)],[(101,_),(102,_)]⟩ rfl (ab.seq (ab.aa ?_))
    refine Oc om (Oc (aq gg rfl (List.length_map _)) (Oc om ?_))
    refine ae.af ⟨[(3,_),(12,_),(13,_),(14,_),(18,.b (.one (.sl 1 (x_6.map (eL 1 eI))))),(19,I (x_6.length:Int)),(20,I 0)],[(101,_),(102,_)]⟩ rfl (ab.block ?_)
    obtain ⟨v9,h10,h7⟩:=aF h7
    refine ab.bZ h10 (cr fun (up_7:bC) (x_8:Int)=>⟨[(3,Pt 102 0),(12,.b (.one (.sl 1 (lists0.map (eL 1 (eL 1 eI)))))),(13,I (lists0.length:Int)),(14,I x_3),(18,.b (.one (.sl 1 (x_6.map (eL 1 eI))))),(19,I (x_6.length:Int)),(20,I x_8)],[(101,.mq up_7),(102,.ao 52 [.row 101])]⟩) [3,12,13,14,18,19,20] [101,102] rfl ?_
    rintro ⟨up_7,x_8⟩ o11 h12 hy13
    refine ab.seq (ab.aa ?_)
    refine Oc (a8 rfl rfl) (ae.af ⟨[(3,_),(12,_),(13,_),(14,_),(18,_),(19,_),(20,_),(21,B (decide (x_8 < (x_6.length:Int))))],[(101,_),(102,_)]⟩ rfl (ab.seq (ab.ite h12 rfl (fun _ h12=>?_) (fun _ h12=>?_))))
    ·refine ab.skip (Fin.ag ⟨[(3,_),(12,_),(13,_),(14,_),(18,_),(19,_),(20,_)],[(101,_),(102,_)]⟩ rfl (Fin.then ?_))
     obtain ⟨v14,h15,h12⟩:=aF h12
     refine ab.bS (v:=v14) (fun (up_10:bC)=>⟨[(3,Pt 102 0),(12,.b (.one (.sl 1 (lists0.map (eL 1 (eL 1 eI)))))),(13,I (lists0.length:Int)),(14,I x_3),(18,.b (.one (.sl 1 (x_6.map (eL 1 eI))))),(19,I (x_6.length:Int)),(20,I x_8)],[(101,.mq up_10),(102,.ao 52 [.row 101])]⟩) (fun z=>z) ?_ ?_
     ·refine ab.block (ab.seq (ab.aa ?_))
      obtain ⟨x_11,e16,h15⟩:=aF h15
      refine Oc (az bP (aE e16) (aC (e:=(eL 1 eI)) e16) rfl rfl) (Oc (aw aS rfl rfl) (Oc oa ?_))
      refine ae.af ⟨[(3,_),(7,.b (.one (.sl 1 (x_11.map eI)))),(12,_),(13,_),(14,_),(18,_),(19,_),(20,_)],[(101,_),(102,_)]⟩ rfl (ab.seq (ab.aa ?_))
      refine Oc om (Oc (aq fO rfl (List.length_map _)) (Oc om ?_))
      refine ae.af ⟨[(3,_),(7,_),(12,_),(13,_),(14,_),(18,_),(19,_),(20,_),(24,.b (.one (.sl 1 (x_11.map eI)))),(25,I (x_11.length:Int)),(26,I 0)],[(101,_),(102,_)]⟩ rfl (ab.block ?_)
      obtain ⟨v17,h18,h15⟩:=aF h15
      refine ab.bZ h18 (cr fun (up_12:bC) (x_13:Int)=>⟨[(3,Pt 102 0),(7,.b (.one (.sl 1 (x_11.map eI)))),(12,.b (.one (.sl 1 (lists0.map (eL 1 (eL 1 eI)))))),(13,I (lists0.length:Int)),(14,I x_3),(18,.b (.one (.sl 1 (x_6.map (eL 1 eI))))),(19,I (x_6.length:Int)),(20,I x_8),(24,.b (.one (.sl 1 (x_11.map eI)))),(25,I (x_11.length:Int)),(26,I x_13)],[(101,.mq up_12),(102,.ao 52 [.row 101])]⟩) [3,7,12,13,14,18,19,20,24,25,26] [101,102] rfl ?_
      rintro ⟨up_12,x_13⟩ o19 h20 hy21
      refine ab.seq (ab.aa ?_)
      refine Oc (a8 rfl rfl) (ae.af ⟨[(3,_),(7,_),(12,_),(13,_),(14,_),(18,_),(19,_),(20,_),(24,_),(25,_),(26,_),(27,B (decide (x_13 < (x_11.length:Int))))],[(101,_),(102,_)]⟩ rfl (ab.seq (ab.ite h20 rfl (fun _ h20=>?_) (fun _ h20=>?_))))
      ·refine ab.skip (Fin.ag ⟨[(3,_),(7,_),(12,_),(13,_),(14,_),(18,_),(19,_),(20,_),(24,_),(25,_),(26,_)],[(101,_),(102,_)]⟩ rfl (Fin.then (ab.seq (ab.block (ab.seq (ab.aa ?_))))))
       obtain ⟨x_15,e22,h20⟩:=aF h20
       refine Oc (az ak (aE e22) (aC (e:=eI) e22) rfl rfl) (Oc (aw aA rfl rfl) (Oc oa ?_))
       refine ae.af ⟨[(3,_),(7,_),(9,I x_15),(12,_),(13,_),(14,_),(18,_),(19,_),(20,_),(24,_),(25,_),(26,_)],[(101,_),(102,_)]⟩ rfl ?_
       obtain ⟨x_16,e23,h20⟩:=aF h20
       obtain ⟨⟨x_17,x_18⟩,e24,h20⟩:=aF h20
       refine ab.ky mixed 5 [.b (.xa [.row 101]),.b (.one (.sl 1 (x_11.map eI))),.b (.cI [.i x_16]),I x_16,I x_15] [3,7,12,13,14,18,19,20,24,25,26] [101,102] (s':=⟨[(3,_),(7,_),(12,_),(13,_),(14,_),(18,_),(19,_),(20,_),(24,_),(25,_),(26,_)],[(101,.mq x_18),(102,_)]⟩) rfl ⟨fun _=>.p ((cV c7 rfl rfl rfl rfl).lA rfl),fun _=>.p om,fun _=>.p (az ak (aE e23) (aC (e:=eI) e23) rfl rfl),fun _=>.p (aw aA rfl rfl),fun _=>.p om,trivial⟩ ⟨_,by exact .p (bh (own_a:=[(101,_)]) ((fp e24).sw 1 101) tp rfl ⟨rfl,trivial⟩ rfl rfl),rfl⟩ rfl (Fin.ah (Fin.ag ⟨[(3,_),(7,_),(12,_),(13,_),(14,_),(18,_),(19,_),(20,_),(24,_),(25,_),(26,_)],[(101,_),(102,_)]⟩ rfl (Fin.then (ab.aa ?_))))
       refine Oc (aV rfl rfl) (Oc om ?_)
       refine ae.nil ?_
       exact Fin.bx [3,7,12,13,14,18,19,20,24,25,26] [101,102] (x_18,IntKind.i64.wrap (x_13 + 1)) (Option.some.inj h20) rfl
      ·refine ab.exit (Fin.ai ?_)
       obtain rfl:=hy21 _ (Option.some.inj h20).symm
       refine Fin.ai (Fin.ay (Fin.ah ?_))
       exact Fin.join [3,12,13,14,18,19,20] [101,102] up_12 (Option.some.inj h15) rfl
     ·rintro up_10 hv
      subst v14
      refine ab.aa (Oc (aV rfl rfl) (Oc om ?_))
      refine ae.nil ?_
      exact Fin.bx [3,12,13,14,18,19,20] [101,102] (up_10,IntKind.i64.wrap (x_8 + 1)) (Option.some.inj h12) rfl
    ·refine ab.exit (Fin.ai ?_)
     obtain rfl:=hy13 _ (Option.some.inj h12).symm
     refine Fin.ai (Fin.ay (Fin.ah ?_))
     exact Fin.join [3,12,13,14] [101,102] up_7 (Option.some.inj h7) rfl
   ·rintro up_5 hv
    subst v6
    refine ab.aa (Oc (aV rfl rfl) (Oc om ?_))
    refine ae.nil ?_
    exact Fin.bx [3,12,13,14] [101,102] (up_5,IntKind.i64.wrap (x_3 + 1)) (Option.some.inj h4) rfl
  ·refine ab.exit (Fin.ai ?_)
   obtain rfl:=hy5 _ (Option.some.inj h4).symm
   refine Fin.ai (Fin.ay ?_)
   exact Fin.join [3] [101,102] up_2 rfl rfl
 ·rintro up_1 hv
  subst v1
  refine ab.seq (ab.aa ?_)
  refine Oc ((cV c7 rfl rfl rfl rfl).lA rfl) ?_
  obtain ⟨⟨x_19,x_20⟩,e25,h⟩:=aF h
  refine Oc (bh (own_a:=[(101,_)]) ((fo e25).sw 1 101) qX rfl ⟨rfl,trivial⟩ rfl rfl) (Oc oa ?_)
  refine ae.af ⟨[(2,.b (.one (.sl 1 (x_19.map (eL 1 eI)))))],[]⟩ rfl (ab.ret ?_)
  obtain rfl:=Option.some.inj h
  refine Fin.ag ⟨[(2,_)],[]⟩ rfl (Fin.aP [.one (.sl 1 (x_19.map (eL 1 eI)))] (.inl rfl) rfl (.cons (.tmp rfl) .nil) ⟨rfl,rfl⟩)
def a6 (F:Nat) (a0:List Int) (b0:List Int):Option Bool :=
 if (decide ((a0.length:Int) ≠ (b0.length:Int))) = true then (some false) else (Option.bind (iter F (fun i_1=>if (decide (i_1 < (a0.length:Int))) = true then ((aM a0 i_1).bind fun x_2=>(aM b0 i_1).bind fun x_3=>if (decide (x_2 ≠ x_3)) = true then (some (.inr (.inr false))) else (some (.inl (IntKind.i64.wrap (i_1 + 1))))) else (some (.inr (.inl ())))) 0) (j8 (fun _=>some true) (fun y=>some y)))
theorem bp {F:Nat} {a0:List Int} {b0:List Int} {r:Bool} (h:a6 F a0 b0 = some r):ar Try.prog [] 19 [] [.one (.sl 1 (a0.map eI)),.one (.sl 1 (b0.map eI))] (Is [] (.b (.one (.bool r)))):=by
 unfold a6 at h
 refine ar.intro 26 Try.func19 Try.ntmps19 rfl (by simp) fun E=>?_
 show ab _ E ⟨26,[],[],[]⟩ _ ⟨[(0,.b (.one (.sl 1 (a0.map eI)))),(1,.b (.one (.sl 1 (b0.map eI))))],[]⟩ _
 refine ab.seq (ab.aa ?_)
 refine Oc oa (ae.af ⟨[(0,.b (.one (.sl 1 (a0.map eI)))),(1,.b (.one (.sl 1 (b0.map eI))))],[]⟩ rfl (ab.seq (ab.seq (ab.aa ?_))))
 refine Oc om (Oc (aq fO rfl (List.length_map _)) (Oc om (Oc (aq fO rfl (List.length_map _)) (Oc (mJ rfl rfl) ?_))))
 refine ae.af ⟨[(0,_),(1,_),(10,B (decide ((a0.length:Int) ≠ (b0.length:Int))))],[]⟩ rfl (ab.ite h rfl (fun _ h=>?_) (fun _ h=>?_))
 ·refine ab.seq (ab.aa ?_)
  refine Oc oa (ae.af ⟨[(4,B false)],[]⟩ rfl (ab.ret (Fin.aR ?_)))
  obtain rfl:=Option.some.inj h
  refine Fin.ag ⟨[(4,_)],[]⟩ rfl (Fin.aP [.one (.bool false)] (.inl rfl) rfl (.cons (.tmp rfl) .nil) ⟨rfl,rfl⟩)
 ·refine ab.skip (Fin.ag ⟨[(0,_),(1,_)],[]⟩ rfl (Fin.then ?_))
  obtain ⟨v1,h2,h⟩:=aF h
  refine ab.bS (v:=v1) (fun (_:Unit)=>⟨[],[]⟩) (fun z=>.inl z) ?_ ?_
  ·refine ab.seq (ab.aa ?_)
   refine Oc oa (ae.af ⟨[(0,_),(1,_),(5,I 0)],[]⟩ rfl (ab.block (ab.bZ h2 (fun (i_1:Int)=>⟨[(0,.b (.one (.sl 1 (a0.map eI)))),(1,.b (.one (.sl 1 (b0.map eI)))),(5,I i_1)],[]⟩) [0,1,5] [] rfl ?_)))
   rintro i_1 o3 h4 hy5
   refine ab.seq (ab.seq (ab.aa ?_))
   refine Oc om (Oc om (Oc (aq fO rfl (List.length_map _)) (Oc (a8 rfl rfl) ?_)))
   refine ae.af ⟨[(0,_),(1,_),(5,_),(14,B (decide (i_1 < (a0.length:Int))))],[]⟩ rfl (ab.ite h4 rfl (fun _ h4=>?_) (fun _ h4=>?_))
   ·refine ab.skip (Fin.ag ⟨[(0,_),(1,_),(5,_)],[]⟩ rfl (Fin.then (ab.seq (ab.block (ab.seq ?_)))))
    refine ab.ag ⟨[(0,_),(1,_),(5,_)],[]⟩ rfl ?_
    obtain ⟨x_2,e6,h4⟩:=aF h4
    obtain ⟨x_3,e7,h4⟩:=aF h4
    refine ab.en mixed 9 [.b (.one (.sl 1 (a0.map eI))),I i_1,.b (.cI [.i x_2]),I x_2,.b (.one (.sl 1 (b0.map eI))),I i_1,.b (.cI [.i x_3]),I x_3,B (decide (x_2 ≠ x_3))] [0,1,5,25] [] (s':=⟨[(0,_),(1,_),(5,_),(25,B (decide (x_2 ≠ x_3)))],[]⟩) rfl ⟨fun _=>.p om,fun _=>.p om,fun _=>.p (az ak (aE e6) (aC (e:=eI) e6) rfl rfl),fun _=>.p (aw aA rfl rfl),fun _=>.p om,fun _=>.p om,fun _=>.p (az ak (aE e7) (aC (e:=eI) e7) rfl rfl),fun _=>.p (aw aA rfl rfl),fun _=>.p (mJ rfl rfl),trivial⟩ rfl rfl (ab.ite h4 rfl (fun _ h4=>?_) (fun _ h4=>?_))
    ·refine ab.seq (ab.aa ?_)
     refine Oc oa (ae.af ⟨[(4,B false)],[]⟩ rfl (ab.ret (Fin.dc (Fin.aR ?_))))
     obtain rfl:=hy5 _ (Option.some.inj h4).symm
     refine Fin.aR (Fin.dc (Fin.aR ?_))
     obtain rfl:=Option.some.inj h
     refine Fin.ag ⟨[(4,_)],[]⟩ rfl (Fin.aP [.one (.bool false)] (.inl rfl) rfl (.cons (.tmp rfl) .nil) ⟨rfl,rfl⟩)
    ·refine ab.skip (Fin.ah (Fin.ag ⟨[(0,_),(1,_),(5,_)],[]⟩ rfl (Fin.then (ab.aa ?_))))
     refine Oc om (Oc (aV rfl rfl) (Oc oa ?_))
     refine ae.nil ?_
     exact Fin.bx [0,1,5] [] (IntKind.i64.wrap (i_1 + 1)) (Option.some.inj h4) rfl
   ·refine ab.exit (Fin.ai ?_)
    obtain rfl:=hy5 _ (Option.some.inj h4).symm
    refine Fin.ai (Fin.ay ?_)
    exact Fin.join [] [] () rfl rfl
  ·rintro _ hv
   subst v1
   refine ab.seq (ab.aa ?_)
   refine Oc oa (ae.af ⟨[(4,B true)],[]⟩ rfl (ab.ret ?_))
   obtain rfl:=Option.some.inj h
   refine Fin.ag ⟨[(4,_)],[]⟩ rfl (Fin.aP [.one (.bool true)] (.inl rfl) rfl (.cons (.tmp rfl) .nil) ⟨rfl,rfl⟩)
def cY (F:Nat) (a0:List (List Int)) (b0:List (List Int)):Option Bool :=
 if (decide ((a0.length:Int) ≠ (b0.length:Int))) = true then (some false) else (Option.bind (iter F (fun i_1=>if (decide (i_1 < (a0.length:Int))) = true then ((aM a0 i_1).bind fun x_2=>(aM b0 i_1).bind fun x_3=>(a6 F x_2 x_3).bind fun x_4=>if (!x_4) = true then (some (.inr (.inr false))) else (some (.inl (IntKind.i64.wrap (i_1 + 1))))) else (some (.inr (.inl ())))) 0) (j8 (fun _=>some true) (fun y=>some y)))
theorem eJ {F:Nat} {a0:List (List Int)} {b0:List (List Int)} {r:Bool} (h:cY F a0 b0 = some r):ar Try.prog [] 18 [] [.one (.sl 1 (a0.map (eL 1 eI))),.one (.sl 1 (b0.map (eL 1 eI)))] (Is [] (.b (.one (.bool r)))):=by
 unfold cY at h
 refine ar.intro 27 Try.func18 Try.ntmps18 rfl (by simp) fun E=>?_
 show ab _ E ⟨27,[],[],[]⟩ _ ⟨[(0,.b (.one (.sl 1 (a0.map (eL 1 eI))))),(1,.b (.one (.sl 1 (b0.map (eL 1 eI)))))],[]⟩ _
 refine ab.seq (ab.aa ?_)
 refine Oc oa (ae.af ⟨[(0,.b (.one (.sl 1 (a0.map (eL 1 eI))))),(1,.b (.one (.sl 1 (b0.map (eL 1 eI)))))],[]⟩ rfl (ab.seq (ab.seq (ab.aa ?_))))
 refine Oc om (Oc (aq gg rfl (List.length_map _)) (Oc om (Oc (aq gg rfl (List.length_map _)) (Oc (mJ rfl rfl) ?_))))
 refine ae.af ⟨[(0,_),(1,_),(10,B (decide ((a0.length:Int) ≠ (b0.length:Int))))],[]⟩ rfl (ab.ite h rfl (fun _ h=>?_) (fun _ h=>?_))
 ·refine ab.seq (ab.aa ?_)
  refine Oc oa (ae.af ⟨[(4,B false)],[]⟩ rfl (ab.ret (Fin.aR ?_)))
  obtain rfl:=Option.some.inj h
  refine Fin.ag ⟨[(4,_)],[]⟩ rfl (Fin.aP [.one (.bool false)] (.inl rfl) rfl (.cons (.tmp rfl) .nil) ⟨rfl,rfl⟩)
 ·refine ab.skip (Fin.ag ⟨[(0,_),(1,_)],[]⟩ rfl (Fin.then ?_))
  obtain ⟨v1,h2,h⟩:=aF h
  refine ab.bS (v:=v1) (fun (_:Unit)=>⟨[],[]⟩) (fun z=>.inl z) ?_ ?_
  ·refine ab.seq (ab.aa ?_)
   refine Oc oa (ae.af ⟨[(0,_),(1,_),(5,I 0)],[]⟩ rfl (ab.block (ab.bZ h2 (fun (i_1:Int)=>⟨[(0,.b (.one (.sl 1 (a0.map (eL 1 eI))))),(1,.b (.one (.sl 1 (b0.map (eL 1 eI))))),(5,I i_1)],[]⟩) [0,1,5] [] rfl ?_)))
   rintro i_1 o3 h4 hy5
   refine ab.seq (ab.seq (ab.aa ?_))
   refine Oc om (Oc om (Oc (aq gg rfl (List.length_map _)) (Oc (a8 rfl rfl) ?_)))
   refine ae.af ⟨[(0,_),(1,_),(5,_),(14,B (decide (i_1 < (a0.length:Int))))],[]⟩ rfl (ab.ite h4 rfl (fun _ h4=>?_) (fun _ h4=>?_))
   ·refine ab.skip (Fin.ag ⟨[(0,_),(1,_),(5,_)],[]⟩ rfl (Fin.then (ab.seq (ab.block (ab.seq ?_)))))
    refine ab.ag ⟨[(0,_),(1,_),(5,_)],[]⟩ rfl ?_
    obtain ⟨x_2,e6,h4⟩:=aF h4
    obtain ⟨x_3,e7,h4⟩:=aF h4
    obtain ⟨x_4,e8,h4⟩:=aF h4
    refine ab.en mixed 10 [.b (.one (.sl 1 (a0.map (eL 1 eI)))),I i_1,.b (.cI [.sl 1 (x_2.map eI)]),.b (.one (.sl 1 (x_2.map eI))),.b (.one (.sl 1 (b0.map (eL 1 eI)))),I i_1,.b (.cI [.sl 1 (x_3.map eI)]),.b (.one (.sl 1 (x_3.map eI))),B x_4,B (!x_4)] [0,1,5,26] [] (s':=⟨[(0,_),(1,_),(5,_),(26,B (!x_4))],[]⟩) rfl ⟨fun _=>.p om,fun _=>.p om,fun _=>.p (az bP (aE e6) (aC (e:=(eL 1 eI)) e6) rfl rfl),fun _=>.p (aw aS rfl rfl),fun _=>.p om,fun _=>.p om,fun _=>.p (az bP (aE e7) (aC (e:=(eL 1 eI)) e7) rfl rfl),fun _=>.p (aw aS rfl rfl),fun _=>.p (aJ (bp e8) jC rfl rfl),fun _=>.p (c4 rfl),trivial⟩ rfl rfl (ab.ite h4 rfl (fun _ h4=>?_) (fun _ h4=>?_))
    ·refine ab.seq (ab.aa ?_)
     refine Oc oa (ae.af ⟨[(4,B false)],[]⟩ rfl (ab.ret (Fin.dc (Fin.aR ?_))))
     obtain rfl:=hy5 _ (Option.some.inj h4).symm
     refine Fin.aR (Fin.dc (Fin.aR ?_))
     obtain rfl:=Option.some.inj h
     refine Fin.ag ⟨[(4,_)],[]⟩ rfl (Fin.aP [.one (.bool false)] (.inl rfl) rfl (.cons (.tmp rfl) .nil) ⟨rfl,rfl⟩)
    ·refine ab.skip (Fin.ah (Fin.ag ⟨[(0,_),(1,_),(5,_)],[]⟩ rfl (Fin.then (ab.aa ?_))))
     refine Oc om (Oc (aV rfl rfl) (Oc oa ?_))
     refine ae.nil ?_
     exact Fin.bx [0,1,5] [] (IntKind.i64.wrap (i_1 + 1)) (Option.some.inj h4) rfl
   ·refine ab.exit (Fin.ai ?_)
    obtain rfl:=hy5 _ (Option.some.inj h4).symm
    refine Fin.ai (Fin.ay ?_)
    exact Fin.join [] [] () rfl rfl
  ·rintro _ hv
   subst v1
   refine ab.seq (ab.aa ?_)
   refine Oc oa (ae.af ⟨[(4,B true)],[]⟩ rfl (ab.ret ?_))
   obtain rfl:=Option.some.inj h
   refine Fin.ag ⟨[(4,_)],[]⟩ rfl (Fin.aP [.one (.bool true)] (.inl rfl) rfl (.cons (.tmp rfl) .nil) ⟨rfl,rfl⟩)
def cq (F:Nat):Option Bool :=
 Option.bind (gy F [true,false,false,false,false,false,false] [(⟨0,1⟩:A2),(⟨1,2⟩:A2),(⟨2,3⟩:A2),(⟨1,3⟩:A2),(⟨4,5⟩:A2),(⟨0,4⟩:A2)]) (cr fun x_1 x_2=>Option.bind (fv F [true,false,false,false,false,false,false] [(⟨0,1⟩:A2),(⟨1,2⟩:A2),(⟨2,3⟩:A2),(⟨1,3⟩:A2),(⟨4,5⟩:A2),(⟨0,4⟩:A2)]) (cr fun x_3 x_4=>Option.bind (fX F [true,false,false,false,false,false,false] [(⟨0,1⟩:A2),(⟨1,2⟩:A2),(⟨2,3⟩:A2),(⟨1,3⟩:A2),(⟨4,5⟩:A2),(⟨0,4⟩:A2)]) (cr fun x_5 x_6=>Option.bind (cQ F [true,false,false,false,false,false,false] [(⟨0,1⟩:A2),(⟨1,2⟩:A2),(⟨2,3⟩:A2),(⟨1,3⟩:A2),(⟨4,5⟩:A2),(⟨0,4⟩:A2)]) (cr fun x_7 x_8=>Option.bind (cm F [true,false,false,false,false,false,false] [(⟨0,1⟩:A2),(⟨1,2⟩:A2),(⟨2,3⟩:A2),(⟨1,3⟩:A2),(⟨4,5⟩:A2),(⟨0,4⟩:A2)]) (cr fun x_9 x_10=>(dF [(⟨0,1⟩:A2),(⟨1,2⟩:A2),(⟨2,3⟩:A2),(⟨1,3⟩:A2),(⟨4,5⟩:A2),(⟨0,4⟩:A2)] [(⟨3,6⟩:A2)]).bind fun x_11=>Option.bind (cX F [true,false,false,false,false,false,false] x_11) (cr fun x_12 x_13=>(fY F [[[1,2],[4,5]],[[2,3],[6]]]).bind fun x_14=>fM (((decide (x_2 = 0)) && (decide (x_4 = 0))) && (decide (x_6 = 0))) fun x_15=>fM (((x_15 && (decide (x_8 = 0))) && (decide (x_10 = 0))) && (decide (x_13 = 0))) fun x_16=>(c3 x_16 (cY F x_1 [[1,2,3],[4,5],[6]])).bind fun x_17=>(c3 (x_16 && x_17) (a6 F x_3 [0,1,2,2,1,2,(-1)])).bind fun x_18=>(c3 ((x_16 && x_17) && x_18) (a6 F x_5 [1,2,3,4,5,6])).bind fun x_19=>(c3 (((x_16 && x_17) && x_18) && x_19) (a6 F x_7 [1,2,4])).bind fun x_20=>(c3 ((((x_16 && x_17) && x_18) && x_19) && x_20) (a6 F x_9 [4])).bind fun x_21=>(c3 (((((x_16 && x_17) && x_18) && x_19) && x_20) && x_21) (a6 F x_12 [3])).bind fun x_22=>fM ((((((x_16 && x_17) && x_18) && x_19) && x_20) && x_21) && x_22) fun x_23=>(c3 x_23 (cY F x_14 [[1,2,3],[4,5],[6]])).bind fun x_24=>some (x_23 && x_24)))))))
theorem ff {F:Nat} {r:Bool} (h:cq F = some r):ar Try.prog [] 11 [] [] (Is [] (.b (.one (.bool r)))):=by
 unfold cq at h
 refine ar.intro 135 Try.func11 Try.ntmps11 rfl (by simp) fun E=>?_
 show ab _ E ⟨135,[],[],[]⟩ _ ⟨[],[]⟩ _
 refine ab.seq (ab.aa ?_)
 refine Oc oa (ae.af ⟨[],[]⟩ rfl (ab.seq (ab.aa ?_)))
 refine Oc (kM (es:=[true,false,false,false,false,false,false].map eB) fR rfl rfl (aW fun _=>rfl) rfl (by decide) (by decide)) (Oc oa ?_)
 refine ae.af ⟨[(1,.b (.one (.slf 1 ([true,false,false,false,false,false,false].map eB))))],[]⟩ rfl (ab.seq (ab.aa ?_))
 refine Oc (gk gj rfl rfl) (Oc (gk gj rfl rfl) (Oc (gk gj rfl rfl) (Oc (gk gj rfl rfl) (Oc (gk gj rfl rfl) (Oc (gk gj rfl rfl) ?_)))))
 refine Oc (kM (es:=[(⟨0,1⟩:A2),(⟨1,2⟩:A2),(⟨2,3⟩:A2),(⟨1,3⟩:A2),(⟨4,5⟩:A2),(⟨0,4⟩:A2)].map (bX .i64)) dq rfl rfl (aW fun _=>rfl) rfl (by decide) (by decide)) (Oc oa ?_)
 refine ae.af ⟨[(1,_),(2,.b (.one (.slf 2 ([(⟨0,1⟩:A2),(⟨1,2⟩:A2),(⟨2,3⟩:A2),(⟨1,3⟩:A2),(⟨4,5⟩:A2),(⟨0,4⟩:A2)].map (bX .i64)))))],[]⟩ rfl (ab.seq (ab.aa ?_))
 refine Oc om (Oc om ?_)
 refine ae.hX 27 rfl (ae.hX 28 rfl (ae.ag ⟨[(1,_),(2,_),(27,.b (.one (.sl 1 ([true,false,false,false,false,false,false].map eB)))),(28,.b (.one (.sl 2 ([(⟨0,1⟩:A2),(⟨1,2⟩:A2),(⟨2,3⟩:A2),(⟨1,3⟩:A2),(⟨4,5⟩:A2),(⟨0,4⟩:A2)].map (bX .i64)))))],[]⟩ rfl ?_))
 obtain ⟨⟨x_1,x_2⟩,e1,h⟩:=aF h
 refine Oc (aJ (nj e1) tC rfl rfl) (Oc om (Oc (aG rfl rfl) (Oc (aG rfl rfl) (Oc oa (Oc oa ?_)))))
 refine ae.af ⟨[(1,_),(2,_),(3,.b (.one (.sl 1 (x_1.map (eL 1 eI))))),(4,I x_2)],[]⟩ rfl (ab.seq (ab.aa ?_))
 refine Oc om (Oc om ?_)
 refine ae.hX 33 rfl (ae.hX 34 rfl (ae.ag ⟨[(1,_),(2,_),(3,_),(4,_),(33,.b (.one (.sl 1 ([true,false,false,false,false,false,false].map eB)))),(34,.b (.one (.sl 2 ([(⟨0,1⟩:A2),(⟨1,2⟩:A2),(⟨2,3⟩:A2),(⟨1,3⟩:A2),(⟨4,5⟩:A2),(⟨0,4⟩:A2)].map (bX .i64)))))],[]⟩ rfl ?_))
 obtain ⟨⟨x_3,x_4⟩,e2,h⟩:=aF h
 refine Oc (bh (iw 103 e2) tB rfl trivial rfl rfl) (Oc om (Oc (aG rfl rfl) (Oc (aG rfl rfl) (Oc oa (Oc oa ?_)))))
 refine ae.af ⟨[(1,_),(2,_),(3,_),(4,_),(5,.b (.row 103)),(6,I x_4)],[(103,.row 3 1 (x_3.map eI))]⟩ rfl (ab.seq (ab.aa ?_))
 refine Oc om (Oc om ?_)
 refine ae.hX 39 rfl (ae.hX 40 rfl (ae.ag ⟨[(1,_),(2,_),(3,_),(4,_),(5,_),(6,_),(39,.b (.one (.sl 1 ([true,false,false,false,false,false,false].map eB)))),(40,.b (.one (.sl 2 ([(⟨0,1⟩:A2),(⟨1,2⟩:A2),(⟨2,3⟩:A2),(⟨1,3⟩:A2),(⟨4,5⟩:A2),(⟨0,4⟩:A2)].map (bX .i64)))))],[(103,_)]⟩ rfl ?_))
 obtain ⟨⟨x_5,x_6⟩,e3,h⟩:=aF h
 refine Oc (aJ (mC e3) goes14 rfl rfl) (Oc om (Oc (aG rfl rfl) (Oc (aG rfl rfl) (Oc oa (Oc oa ?_)))))
 refine ae.af ⟨[(1,_),(2,_),(3,_),(4,_),(5,_),(6,_),(7,.b (.one (.sl 1 (x_5.map eI)))),(8,I x_6)],[(103,_)]⟩ rfl (ab.seq (ab.aa ?_))
 refine Oc om (Oc om ?_)
 refine ae.hX 45 rfl (ae.hX 46 rfl (ae.ag ⟨[(1,_),(2,_),(3,_),(4,_),(5,_),(6,_),(7,_),(8,_),(45,.b (.one (.sl 1 ([true,false,false,false,false,false,false].map eB)))),(46,.b (.one (.sl 2 ([(⟨0,1⟩:A2),(⟨1,2⟩:A2),(⟨2,3⟩:A2),(⟨1,3⟩:A2),(⟨4,5⟩:A2),(⟨0,4⟩:A2)].map (bX .i64)))))],[(103,_)]⟩ rfl ?_))
 obtain ⟨⟨x_7,x_8⟩,e4,h⟩:=aF h
 refine Oc (bh (ix 104 e4) tz rfl trivial rfl rfl) (Oc om (Oc (aG rfl rfl) (Oc (aG rfl rfl) (Oc oa (Oc oa ?_)))))
 refine ae.af ⟨[(1,_),(2,_),(3,_),(4,_),(5,_),(6,_),(7,_),(8,_),(9,.b (.row 104)),(10,I x_8)],[(103,_),(104,.row 3 1 (x_7.map eI))]⟩ rfl (ab.seq (ab.aa ?_))
 refine Oc om (Oc om ?_)
 refine ae.hX 51 rfl (ae.hX 52 rfl (ae.ag ⟨[(1,_),(2,_),(3,_),(4,_),(5,_),(6,_),(7,_),(8,_),(9,_),(10,_),(51,.b (.one (.sl 1 ([true,false,false,false,false,false,false].map eB)))),(52,.b (.one (.sl 2 ([(⟨0,1⟩:A2),(⟨1,2⟩:A2),(⟨2,3⟩:A2),(⟨1,3⟩:A2),(⟨4,5⟩:A2),(⟨0,4⟩:A2)].map (bX .i64)))))],[(103,_),(104,_)]⟩ rfl ?_))
 obtain ⟨⟨x_9,x_10⟩,e5,h⟩:=aF h
 refine Oc (aJ (gK e5) tw rfl rfl) (Oc om (Oc (aG rfl rfl) (Oc (aG rfl rfl) (Oc oa (Oc oa ?_)))))
 refine ae.af ⟨[(1,_),(2,_),(3,_),(4,_),(5,_),(6,_),(7,_),(8,_),(9,_),(10,_),(11,.b (.one (.sl 1 (x_9.map eI)))),(12,I x_10)],[(103,_),(104,_)]⟩ rfl (ab.seq (ab.aa ?_))
 refine Oc om (Oc om (Oc (gk gj rfl rfl) (Oc (ax (k:=105) (es:=[(⟨3,6⟩:A2)].map (bX .i64)) dq rfl rfl (aW fun _=>rfl) rfl (by decide) (by decide) rfl) ?_)))
 obtain ⟨x_11,e6,h⟩:=aF h
 refine Oc (qC (k:=106) dq (dy e6) (dx e6) (Nat.le_of_ble_eq_true rfl) rfl rfl rfl (bT e6) rfl) (ae.hX 57 rfl (ae.bE 106 rfl (ae.ag ⟨[(3,.b (.one (.sl 1 (x_1.map (eL 1 eI))))),(4,I x_2),(5,.b (.row 103)),(6,I x_4),(7,.b (.one (.sl 1 (x_5.map eI)))),(8,I x_6),(9,.b (.row 104)),(10,I x_8),(11,.b (.one (.sl 1 (x_9.map eI)))),(12,I x_10),(57,.b (.one (.sl 1 ([true,false,false,false,false,false,false].map eB)))),(60,.b (.row 105)),(61,.b (.one (.sl 2 (x_11.map (bX .i64)))))],[(103,.row 3 1 (x_3.map eI)),(104,.row 3 1 (x_7.map eI)),(105,.row 44 2 ([(⟨3,6⟩:A2)].map (bX .i64)))]⟩ rfl ?_)))
 obtain ⟨⟨x_12,x_13⟩,e7,h⟩:=aF h
 refine Oc (aJ (jt e7) tx rfl rfl) (Oc om (Oc (aG rfl rfl) (Oc (aG rfl rfl) (Oc oa (Oc oa ?_)))))
 refine ae.af ⟨[(3,_),(4,_),(5,_),(6,_),(7,_),(8,_),(9,_),(10,_),(11,_),(12,_),(13,.b (.one (.sl 1 (x_12.map eI)))),(14,I x_13)],[(103,_),(104,_)]⟩ rfl (ab.seq (ab.aa ?_))
 refine Oc (ax (k:=107) (es:=[1,2].map eI) ak rfl rfl (aW fun _=>rfl) rfl (by decide) (by decide) rfl) (Oc (ax (k:=108) (es:=[4,5].map eI) ak rfl rfl (aW fun _=>rfl) rfl (by decide) (by decide) rfl) ?_)
 refine ae.bE 107 rfl (ae.bE 108 rfl (ae.ag ⟨[(3,.b (.one (.sl 1 (x_1.map (eL 1 eI))))),(4,I x_2),(5,.b (.row 103)),(6,I x_4),(7,.b (.one (.sl 1 (x_5.map eI)))),(8,I x_6),(9,.b (.row 104)),(10,I x_8),(11,.b (.one (.sl 1 (x_9.map eI)))),(12,I x_10),(13,.b (.one (.sl 1 (x_12.map eI)))),(14,I x_13),(65,.b (.one (.sl 1 ([1,2].map eI)))),(66,.b (.one (.sl 1 ([4,5].map eI))))],[(103,.row 3 1 (x_3.map eI)),(104,.row 3 1 (x_7.map eI))]⟩ rfl (Oc (ax (k:=109) (es:=[[1,2],[4,5]].map (eL 1 eI)) bP rfl rfl (aW fun _=>rfl) rfl (by decide) (by decide) rfl) (Oc (ax (k:=110) (es:=[2,3].map eI) ak rfl rfl (aW fun _=>rfl) rfl (by decide) (by decide) rfl) (Oc (ax (k:=111) (es:=[6].map eI) ak rfl rfl (aW fun _=>rfl) rfl (by decide) (by decide) rfl) ?_)))))
 refine ae.bE 110 rfl (ae.bE 111 rfl (ae.ag ⟨[(3,.b (.one (.sl 1 (x_1.map (eL 1 eI))))),(4,I x_2),(5,.b (.row 103)),(6,I x_4),(7,.b (.one (.sl 1 (x_5.map eI)))),(8,I x_6),(9,.b (.row 104)),(10,I x_8),(11,.b (.one (.sl 1 (x_9.map eI)))),(12,I x_10),(13,.b (.one (.sl 1 (x_12.map eI)))),(14,I x_13),(67,.b (.row 109)),(68,.b (.one (.sl 1 ([2,3].map eI)))),(69,.b (.one (.sl 1 ([6].map eI))))],[(103,.row 3 1 (x_3.map eI)),(104,.row 3 1 (x_7.map eI)),(109,.row 30 1 ([[1,2],[4,5]].map (eL 1 eI)))]⟩ rfl (Oc (ax (k:=112) (es:=[[2,3],[6]].map (eL 1 eI)) bP rfl rfl (aW fun _=>rfl) rfl (by decide) (by decide) rfl) (ae.bE 109 rfl (ae.bE 112 rfl ?_)))))
 refine Oc (ax (k:=113) (es:=[[[1,2],[4,5]],[[2,3],[6]]].map (eL 1 (eL 1 eI))) s7 rfl rfl (aW fun _=>rfl) rfl (by decide) (by decide) rfl) (ae.bE 113 rfl ?_)
 obtain ⟨x_14,e8,h⟩:=aF h
 refine Oc (aJ (mD e8) goes27 rfl rfl) (Oc oa ?_)
 refine ae.af ⟨[(3,.b (.one (.sl 1 (x_1.map (eL 1 eI))))),(4,I x_2),(5,.b (.row 103)),(6,I x_4),(7,.b (.one (.sl 1 (x_5.map eI)))),(8,I x_6),(9,.b (.row 104)),(10,I x_8),(11,.b (.one (.sl 1 (x_9.map eI)))),(12,I x_10),(13,.b (.one (.sl 1 (x_12.map eI)))),(14,I x_13),(15,.b (.one (.sl 1 (x_14.map (eL 1 eI)))))],[(103,.row 3 1 (x_3.map eI)),(104,.row 3 1 (x_7.map eI))]⟩ rfl (ab.seq (ab.aa ?_))
 refine Oc (ax (k:=114) (es:=[1,2,3].map eI) ak rfl rfl (aW fun _=>rfl) rfl (by decide) (by decide) rfl) (Oc (ax (k:=115) (es:=[4,5].map eI) ak rfl rfl (aW fun _=>rfl) rfl (by decide) (by decide) rfl) (Oc (ax (k:=116) (es:=[6].map eI) ak rfl rfl (aW fun _=>rfl) rfl (by decide) (by decide) rfl) ?_))
 refine ae.bE 114 rfl (ae.bE 115 rfl (ae.bE 116 rfl (Oc (ax (k:=117) (es:=[[1,2,3],[4,5],[6]].map (eL 1 eI)) bP rfl rfl (aW fun _=>rfl) rfl (by decide) (by decide) rfl) (Oc oa ?_))))
 refine ae.af ⟨[(3,.b (.one (.sl 1 (x_1.map (eL 1 eI))))),(4,I x_2),(5,.b (.row 103)),(6,I x_4),(7,.b (.one (.sl 1 (x_5.map eI)))),(8,I x_6),(9,.b (.row 104)),(10,I x_8),(11,.b (.one (.sl 1 (x_9.map eI)))),(12,I x_10),(13,.b (.one (.sl 1 (x_12.map eI)))),(14,I x_13),(15,.b (.one (.sl 1 (x_14.map (eL 1 eI))))),(16,.b (.row 117))],[(103,.row 3 1 (x_3.map eI)),(104,.row 3 1 (x_7.map eI)),(117,.row 30 1 ([[1,2,3],[4,5],[6]].map (eL 1 eI)))]⟩ rfl (ab.seq (ab.aa ?_))
 refine Oc om (Oc (dN rfl rfl) (Oc om ?_))
 refine c6 (decide (x_2 = 0)) [] (fun g9=>trivial) (fun g9=>om) (c6 (decide (x_2 = 0)) [80] (fun g10=>by exact ⟨g10,trivial⟩) (fun g10=>dN rfl rfl) (Oc (aO (fun e=>e) rfl rfl rfl rfl) (Oc om ?_)))
 refine ae.ag ⟨[(3,_),(5,_),(7,_),(8,_),(9,_),(10,_),(11,_),(12,_),(13,_),(14,_),(15,_),(16,_),(83,B ((decide (x_2 = 0)) && (decide (x_4 = 0))))],[(103,_),(104,_),(117,_)]⟩ rfl (c6 ((decide (x_2 = 0)) && (decide (x_4 = 0))) [] (fun g11=>trivial) (fun g11=>om) (c6 ((decide (x_2 = 0)) && (decide (x_4 = 0))) [84] (fun g12=>by exact ⟨g12,trivial⟩) (fun g12=>dN rfl rfl) (ae.kg h rfl (aO (fun e=>e) rfl rfl rfl rfl) (fun x_15 h=>?_))))
 refine Oc om (c6 x_15 [] (fun g13=>by exact trivial) (fun g13=>om) (c6 x_15 [88] (fun g14=>by exact ⟨g14,trivial⟩) (fun g14=>dN rfl rfl) (Oc (aO (fun e=>e) rfl rfl rfl rfl) (Oc om ?_))))
 refine ae.ag ⟨[(3,_),(5,_),(7,_),(9,_),(11,_),(12,_),(13,_),(14,_),(15,_),(16,_),(91,B (x_15 && (decide (x_8 = 0))))],[(103,_),(104,_),(117,_)]⟩ rfl (c6 (x_15 && (decide (x_8 = 0))) [] (fun g15=>trivial) (fun g15=>om) (c6 (x_15 && (decide (x_8 = 0))) [92] (fun g16=>by exact ⟨g16,trivial⟩) (fun g16=>dN rfl rfl) (Oc (aO (fun e=>e) rfl rfl rfl rfl) (Oc om ?_))))
 refine c6 ((x_15 && (decide (x_8 = 0))) && (decide (x_10 = 0))) [] (fun g17=>trivial) (fun g17=>om) (c6 ((x_15 && (decide (x_8 = 0))) && (decide (x_10 = 0))) [96] (fun g18=>by exact ⟨g18,trivial⟩) (fun g18=>dN rfl rfl) (ae.kg h rfl (aO (fun e=>e) rfl rfl rfl rfl) (fun x_16 h=>?_)))
 refine Oc oa (ae.af ⟨[(3,_),(5,_),(7,_),(9,_),(11,_),(13,_),(15,_),(16,_),(17,B x_16)],[(103,_),(104,_),(117,_)]⟩ rfl (ab.seq (ab.aa ?_)))
 refine Oc om (Oc om ?_)
 refine c6 x_16 [] (fun g19=>trivial) (fun g19=>om) (c6 x_16 [] (fun g20=>by exact trivial) (fun g20=>om) ?_)
 obtain ⟨x_17,e22,h⟩:=aF h
 refine c6 x_16 [101,102] (fun g21=>⟨g21,g21,trivial⟩) (fun g21=>kB (eJ (gc e22 g21)) tA rfl CP.jq) (ae.ag ⟨[(5,_),(7,_),(9,_),(11,_),(13,_),(15,_),(16,_),(100,B x_16),(103,.opt x_16 (.one (.bool x_17)))],[(103,_),(104,_),(117,_)]⟩ rfl (Oc (aO (fun e=>e) rfl rfl rfl rfl) (Oc om ?_)))
 refine c6 (x_16 && x_17) [] (fun g23=>trivial) (fun g23=>om) (c6 (x_16 && x_17) [] (fun g24=>by exact trivial) (fun g24=>cf (es:=[0,1,2,2,1,2,(-1)].map eI) ak rfl rfl (aW fun _=>rfl) rfl (by decide) (by decide)) ?_)
 obtain ⟨x_18,e26,h⟩:=aF h
 refine c6 (x_16 && x_17) [106,107] (fun g25=>⟨g25,g25,trivial⟩) (fun g25=>kB (bp (gc e26 g25)) jC rfl CP.jq) (ae.ag ⟨[(7,_),(9,_),(11,_),(13,_),(15,_),(16,_),(105,B (x_16 && x_17)),(108,.opt (x_16 && x_17) (.one (.bool x_18)))],[(104,_),(117,_)]⟩ rfl (Oc (aO (fun e=>e) rfl rfl rfl rfl) (Oc om ?_)))
 refine c6 ((x_16 && x_17) && x_18) [] (fun g27=>trivial) (fun g27=>om) (c6 ((x_16 && x_17) && x_18) [] (fun g28=>by exact trivial) (fun g28=>cf (es:=[1,2,3,4,5,6].map eI) ak rfl rfl (aW fun _=>rfl) rfl (by decide) (by decide)) ?_)
 obtain ⟨x_19,e30,h⟩:=aF h
 refine c6 ((x_16 && x_17) && x_18) [111,112] (fun g29=>⟨g29,g29,trivial⟩) (fun g29=>aJ (bp (gc e30 g29)) jC rfl rfl) (ae.ag ⟨[(9,_),(11,_),(13,_),(15,_),(16,_),(110,B ((x_16 && x_17) && x_18)),(113,.opt ((x_16 && x_17) && x_18) (.one (.bool x_19)))],[(104,_),(117,_)]⟩ rfl (Oc (aO (fun e=>e) rfl rfl rfl rfl) (Oc om ?_)))
 refine c6 (((x_16 && x_17) && x_18) && x_19) [] (fun g31=>trivial) (fun g31=>om) (c6 (((x_16 && x_17) && x_18) && x_19) [] (fun g32=>by exact trivial) (fun g32=>cf (es:=[1,2,4].map eI) ak rfl rfl (aW fun _=>rfl) rfl (by decide) (by decide)) ?_)
 obtain ⟨x_20,e34,h⟩:=aF h
 refine c6 (((x_16 && x_17) && x_18) && x_19) [116,117] (fun g33=>⟨g33,g33,trivial⟩) (fun g33=>kB (bp (gc e34 g33)) jC rfl CP.jq) (ae.ag ⟨[(11,_),(13,_),(15,_),(16,_),(115,B (((x_16 && x_17) && x_18) && x_19)),(118,.opt (((x_16 && x_17) && x_18) && x_19) (.one (.bool x_20)))],[(117,_)]⟩ rfl (Oc (aO (fun e=>e) rfl rfl rfl rfl) (Oc om ?_)))
 refine c6 ((((x_16 && x_17) && x_18) && x_19) && x_20) [] (fun g35=>trivial) (fun g35=>om) (c6 ((((x_16 && x_17) && x_18) && x_19) && x_20) [] (fun g36=>by exact trivial) (fun g36=>cf (es:=[4].map eI) ak rfl rfl (aW fun _=>rfl) rfl (by decide) (by decide)) ?_)
 obtain ⟨x_21,e38,h⟩:=aF h
 refine c6 ((((x_16 && x_17) && x_18) && x_19) && x_20) [121,122] (fun g37=>⟨g37,g37,trivial⟩) (fun g37=>aJ (bp (gc e38 g37)) jC rfl rfl) (ae.ag ⟨[(13,_),(15,_),(16,_),(120,B ((((x_16 && x_17) && x_18) && x_19) && x_20)),(123,.opt ((((x_16 && x_17) && x_18) && x_19) && x_20) (.one (.bool x_21)))],[(117,_)]⟩ rfl (Oc (aO (fun e=>e) rfl rfl rfl rfl) (Oc om ?_)))
 refine c6 (((((x_16 && x_17) && x_18) && x_19) && x_20) && x_21) [] (fun g39=>trivial) (fun g39=>om) (c6 (((((x_16 && x_17) && x_18) && x_19) && x_20) && x_21) [] (fun g40=>by exact trivial) (fun g40=>cf (es:=[3].map eI) ak rfl rfl (aW fun _=>rfl) rfl (by decide) (by decide)) ?_)
 obtain ⟨x_22,e42,h⟩:=aF h
 refine c6 (((((x_16 && x_17) && x_18) && x_19) && x_20) && x_21) [126,127] (fun g41=>⟨g41,g41,trivial⟩) (fun g41=>aJ (bp (gc e42 g41)) jC rfl rfl) (ae.ag ⟨[(15,_),(16,_),(125,B (((((x_16 && x_17) && x_18) && x_19) && x_20) && x_21)),(128,.opt (((((x_16 && x_17) && x_18) && x_19) && x_20) && x_21) (.one (.bool x_22)))],[(117,_)]⟩ rfl (ae.kg h rfl (aO (fun e=>e) rfl rfl rfl rfl) (fun x_23 h=>?_)))
 refine Oc om (c6 x_23 [] (fun g43=>by exact trivial) (fun g43=>om) (c6 x_23 [] (fun g44=>by exact trivial) (fun g44=>om) ?_))
 obtain ⟨x_24,e46,h⟩:=aF h
 refine c6 x_23 [131,132] (fun g45=>⟨g45,g45,trivial⟩) (fun g45=>kB (eJ (gc e46 g45)) tA rfl CP.jq) (Oc (aO (fun e=>e) rfl rfl rfl rfl) (Oc oa ?_))
 refine ae.af ⟨[(0,B (x_23 && x_24))],[]⟩ rfl (ab.ret ?_)
 obtain rfl:=Option.some.inj h
 refine Fin.ag ⟨[(0,_)],[]⟩ rfl (Fin.aP [.one (.bool (x_23 && x_24))] (.inl rfl) rfl (.cons (.tmp rfl) .nil) ⟨rfl,rfl⟩)
def bI (F:Nat) (fixed0:List Bool) (links0:List A2):Option Bool :=
 if (decide (401 < (fixed0.length:Int))) = true then (some false) else (Option.bind (iter F (fun i_1=>if (decide (i_1 < (links0.length:Int))) = true then ((aM links0 i_1).bind fun x_2=>(aM links0 i_1).bind fun x_3=>fM (((decide (x_2.a0 < 0)) || (decide (x_3.a1 < 0))) || (decide ((fixed0.length:Int) ≤ x_2.a0))) fun x_4=>fM ((x_4 || (decide ((fixed0.length:Int) ≤ x_3.a1))) || (decide (x_2.a0 = x_3.a1))) fun x_5=>if x_5 = true then (some (.inr (.inr false))) else (some (.inl (IntKind.i64.wrap (i_1 + 1))))) else (some (.inr (.inl ())))) 0) (j8 (fun _=>some true) (fun y=>some y)))
theorem dQ {F:Nat} {fixed0:List Bool} {links0:List A2} {r:Bool} (h:bI F fixed0 links0 = some r):ar Try.prog [] 36 [] [.one (.sl 1 (fixed0.map eB)),.one (.sl 2 (links0.map (bX .i64)))] (Is [] (.b (.one (.bool r)))):=by
 unfold bI at h
 refine ar.intro 50 Try.func36 Try.ntmps36 rfl (by simp) fun E=>?_
 show ab _ E ⟨50,[],[],[]⟩ _ ⟨[(0,.b (.one (.sl 1 (fixed0.map eB)))),(1,.b (.one (.sl 2 (links0.map (bX .i64)))))],[]⟩ _
 refine ab.seq (ab.aa ?_)
 refine Oc oa (ae.af ⟨[(0,.b (.one (.sl 1 (fixed0.map eB)))),(1,.b (.one (.sl 2 (links0.map (bX .i64)))))],[]⟩ rfl (ab.seq (ab.seq (ab.aa ?_))))
 refine Oc om (Oc (aq dw rfl (List.length_map _)) (Oc (fg rfl rfl) ?_))
 refine ae.af ⟨[(0,_),(1,_),(10,B (decide (401 < (fixed0.length:Int))))],[]⟩ rfl (ab.ite h rfl (fun _ h=>?_) (fun _ h=>?_))
 ·refine ab.seq (ab.aa ?_)
  refine Oc oa (ae.af ⟨[(4,B false)],[]⟩ rfl (ab.ret (Fin.aR ?_)))
  obtain rfl:=Option.some.inj h
  refine Fin.ag ⟨[(4,_)],[]⟩ rfl (Fin.aP [.one (.bool false)] (.inl rfl) rfl (.cons (.tmp rfl) .nil) ⟨rfl,rfl⟩)
 ·refine ab.skip (Fin.ag ⟨[(0,_),(1,_)],[]⟩ rfl (Fin.then ?_))
  obtain ⟨v1,h2,h⟩:=aF h
  refine ab.bS (v:=v1) (fun (_:Unit)=>⟨[],[]⟩) (fun z=>.inl z) ?_ ?_
  ·refine ab.seq (ab.aa ?_)
   refine Oc oa (ae.af ⟨[(0,_),(1,_),(5,I 0)],[]⟩ rfl (ab.block (ab.bZ h2 (fun (i_1:Int)=>⟨[(0,.b (.one (.sl 1 (fixed0.map eB)))),(1,.b (.one (.sl 2 (links0.map (bX .i64))))),(5,I i_1)],[]⟩) [0,1,5] [] rfl ?_)))
   rintro i_1 o3 h4 hy5
   refine ab.seq (ab.seq (ab.aa ?_))
   refine Oc om (Oc om (Oc (aq nn rfl (List.length_map _)) (Oc (a8 rfl rfl) ?_)))
   refine ae.af ⟨[(0,_),(1,_),(5,_),(14,B (decide (i_1 < (links0.length:Int))))],[]⟩ rfl (ab.ite h4 rfl (fun _ h4=>?_) (fun _ h4=>?_))
   ·refine ab.skip (Fin.ag ⟨[(0,_),(1,_),(5,_)],[]⟩ rfl (Fin.then (ab.seq (ab.block (ab.seq (ab.aa ?_))))))
    refine Oc om (Oc om ?_)
    obtain ⟨x_2,e6,h4⟩:=aF h4
    refine Oc (az dq (aE e6) (aC (e:=(bX .i64)) e6) rfl rfl) (Oc (cO dD (by decide) (by decide) rfl rfl rfl) (Oc (aw aA rfl rfl) (Oc oa ?_)))
    refine ae.af ⟨[(0,_),(1,_),(5,_),(6,I x_2.a0)],[]⟩ rfl (ab.seq (ab.aa ?_))
    refine Oc om (Oc om ?_)
    obtain ⟨x_3,e7,h4⟩:=aF h4
    refine Oc (az dq (aE e7) (aC (e:=(bX .i64)) e7) rfl rfl) (Oc (cO dD (by decide) (by decide) rfl rfl rfl) (Oc (aw aA rfl rfl) (Oc oa ?_)))
    refine ae.af ⟨[(0,_),(1,_),(5,_),(6,_),(7,I x_3.a1)],[]⟩ rfl (ab.seq (ab.aa ?_))
    refine Oc om (Oc (a8 rfl rfl) (Oc om ?_))
    refine jx (!(decide (x_2.a0 < 0))) [] (fun g8=>trivial) (fun g8=>om) (jx (!(decide (x_2.a0 < 0))) [30] (fun g9=>by exact ⟨g9,trivial⟩) (fun g9=>a8 rfl rfl) (Oc (er (fun e=>by first | (rw [e]; rfl) | (simp only at e; rw [e]; rfl)) rfl rfl rfl rfl) (Oc om ?_)))
    refine ae.ag ⟨[(0,_),(1,_),(5,_),(6,_),(7,_),(33,B ((decide (x_2.a0 < 0)) || (decide (x_3.a1 < 0))))],[]⟩ rfl (jx (!((decide (x_2.a0 < 0)) || (decide (x_3.a1 < 0)))) [] (fun g10=>trivial) (fun g10=>om) (jx (!((decide (x_2.a0 < 0)) || (decide (x_3.a1 < 0)))) [] (fun g11=>by exact trivial) (fun g11=>om) (jx (!((decide (x_2.a0 < 0)) || (decide (x_3.a1 < 0)))) [35] (fun g12=>by exact ⟨g12,trivial⟩) (fun g12=>aq dw rfl (List.length_map _)) (jx (!((decide (x_2.a0 < 0)) || (decide (x_3.a1 < 0)))) [34,36] (fun g13=>by exact ⟨g13,g13,trivial⟩) (fun g13=>jA rfl rfl) (ae.kg h4 rfl (er (fun e=>by first | (rw [e]; rfl) | (simp only at e; rw [e]; rfl)) rfl rfl rfl rfl) (fun x_4 h4=>?_))))))
    refine Oc om (jx (!x_4) [] (fun g14=>by exact trivial) (fun g14=>om) (ae.ag ⟨[(0,_),(1,_),(5,_),(6,_),(7,_),(39,B x_4),(40,.opt (!x_4) (.one (.i x_3.a1)))],[]⟩ rfl (jx (!x_4) [] (fun g15=>by exact trivial) (fun g15=>om) (jx (!x_4) [41] (fun g16=>by exact ⟨g16,trivial⟩) (fun g16=>aq dw rfl (List.length_map _)) (jx (!x_4) [40,42] (fun g17=>by exact ⟨g17,g17,trivial⟩) (fun g17=>jA rfl rfl) ?_)))))
    refine Oc (er (fun e=>by first | (rw [e]; rfl) | (simp only at e; rw [e]; rfl)) rfl rfl rfl rfl) (Oc om ?_)
    refine jx (!(x_4 || (decide ((fixed0.length:Int) ≤ x_3.a1)))) [] (fun g18=>trivial) (fun g18=>om) (jx (!(x_4 || (decide ((fixed0.length:Int) ≤ x_3.a1)))) [] (fun g19=>by exact trivial) (fun g19=>om) (jx (!(x_4 || (decide ((fixed0.length:Int) ≤ x_3.a1)))) [46,47] (fun g20=>by exact ⟨g20,g20,trivial⟩) (fun g20=>dN rfl rfl) (ae.kg h4 rfl (er (fun e=>by first | (rw [e]; rfl) | (simp only at e; rw [e]; rfl)) rfl rfl rfl rfl) (fun x_5 h4=>?_))))
    refine ae.af ⟨[(0,_),(1,_),(5,_),(49,B x_5)],[]⟩ rfl (ab.ite h4 rfl (fun _ h4=>?_) (fun _ h4=>?_))
    ·refine ab.seq (ab.aa ?_)
     refine Oc oa (ae.af ⟨[(4,B false)],[]⟩ rfl (ab.ret (Fin.dc (Fin.aR ?_))))
     obtain rfl:=hy5 _ (Option.some.inj h4).symm
     refine Fin.aR (Fin.dc (Fin.aR ?_))
     obtain rfl:=Option.some.inj h
     refine Fin.ag ⟨[(4,_)],[]⟩ rfl (Fin.aP [.one (.bool false)] (.inl rfl) rfl (.cons (.tmp rfl) .nil) ⟨rfl,rfl⟩)
    ·refine ab.skip (Fin.ah (Fin.ag ⟨[(0,_),(1,_),(5,_)],[]⟩ rfl (Fin.then (ab.aa ?_))))
     refine Oc om (Oc (aV rfl rfl) (Oc oa ?_))
     refine ae.nil ?_
     exact Fin.bx [0,1,5] [] (IntKind.i64.wrap (i_1 + 1)) (Option.some.inj h4) rfl
   ·refine ab.exit (Fin.ai ?_)
    obtain rfl:=hy5 _ (Option.some.inj h4).symm
    refine Fin.ai (Fin.ay ?_)
    exact Fin.join [] [] () rfl rfl
  ·rintro _ hv
   subst v1
   refine ab.seq (ab.aa ?_)
   refine Oc oa (ae.af ⟨[(4,B true)],[]⟩ rfl (ab.ret ?_))
   obtain rfl:=Option.some.inj h
   refine Fin.ag ⟨[(4,_)],[]⟩ rfl (Fin.aP [.one (.bool true)] (.inl rfl) rfl (.cons (.tmp rfl) .nil) ⟨rfl,rfl⟩)
def cK (F:Nat) (l0:List Int) (n0:Int):Option Bool :=
 Option.bind (iter F (fun i_1=>if (decide (i_1 < (l0.length:Int))) = true then ((aM l0 i_1).bind fun x_2=>if (decide (x_2 = n0)) = true then (some (.inr (.inr true))) else (some (.inl (IntKind.i64.wrap (i_1 + 1))))) else (some (.inr (.inl ())))) 0) (j8 (fun _=>some false) (fun y=>some y))
theorem fZ {F:Nat} {l0:List Int} {n0:Int} {r:Bool} (h:cK F l0 n0 = some r):ar Try.prog [] 28 [] [.one (.sl 1 (l0.map eI)),.one (.i n0)] (Is [] (.b (.one (.bool r)))):=by
 unfold cK at h
 refine ar.intro 18 Try.func28 Try.ntmps28 rfl (by simp) fun E=>?_
 show ab _ E ⟨18,[],[],[]⟩ _ ⟨[(0,.b (.one (.sl 1 (l0.map eI)))),(1,I n0)],[]⟩ _
 refine ab.seq (ab.aa ?_)
 refine Oc oa (ae.af ⟨[(0,.b (.one (.sl 1 (l0.map eI)))),(1,I n0)],[]⟩ rfl ?_)
 obtain ⟨v1,h2,h⟩:=aF h
 refine ab.bS (v:=v1) (fun (_:Unit)=>⟨[],[]⟩) (fun z=>.inl z) ?_ ?_
 ·refine ab.seq (ab.aa ?_)
  refine Oc oa (ae.af ⟨[(0,_),(1,_),(5,I 0)],[]⟩ rfl (ab.block (ab.bZ h2 (fun (i_1:Int)=>⟨[(0,.b (.one (.sl 1 (l0.map eI)))),(1,I n0),(5,I i_1)],[]⟩) [0,1,5] [] rfl ?_)))
  rintro i_1 o3 h4 hy5
  refine ab.seq (ab.seq (ab.aa ?_))
  refine Oc om (Oc om (Oc (aq fO rfl (List.length_map _)) (Oc (a8 rfl rfl) ?_)))
  refine ae.af ⟨[(0,_),(1,_),(5,_),(9,B (decide (i_1 < (l0.length:Int))))],[]⟩ rfl (ab.ite h4 rfl (fun _ h4=>?_) (fun _ h4=>?_))
  ·refine ab.skip (Fin.ag ⟨[(0,_),(1,_),(5,_)],[]⟩ rfl (Fin.then (ab.seq (ab.block (ab.seq (ab.aa ?_))))))
   refine Oc om (Oc om ?_)
   obtain ⟨x_2,e6,h4⟩:=aF h4
   refine Oc (az ak (aE e6) (aC (e:=eI) e6) rfl rfl) (Oc (aw aA rfl rfl) (Oc om (Oc (dN rfl rfl) ?_)))
   refine ae.af ⟨[(0,_),(1,_),(5,_),(17,B (decide (x_2 = n0)))],[]⟩ rfl (ab.ite h4 rfl (fun _ h4=>?_) (fun _ h4=>?_))
   ·refine ab.seq (ab.aa ?_)
    refine Oc oa (ae.af ⟨[(4,B true)],[]⟩ rfl (ab.ret (Fin.dc (Fin.aR ?_))))
    obtain rfl:=hy5 _ (Option.some.inj h4).symm
    refine Fin.aR (Fin.dc (Fin.aR ?_))
    obtain rfl:=Option.some.inj h
    refine Fin.ag ⟨[(4,_)],[]⟩ rfl (Fin.aP [.one (.bool true)] (.inl rfl) rfl (.cons (.tmp rfl) .nil) ⟨rfl,rfl⟩)
   ·refine ab.skip (Fin.ah (Fin.ag ⟨[(0,_),(1,_),(5,_)],[]⟩ rfl (Fin.then (ab.aa ?_))))
    refine Oc om (Oc (aV rfl rfl) (Oc oa ?_))
    refine ae.nil ?_
    exact Fin.bx [0,1,5] [] (IntKind.i64.wrap (i_1 + 1)) (Option.some.inj h4) rfl
  ·refine ab.exit (Fin.ai ?_)
   obtain rfl:=hy5 _ (Option.some.inj h4).symm
   refine Fin.ai (Fin.ay ?_)
   exact Fin.join [] [] () rfl rfl
 ·rintro _ hv
  subst v1
  refine ab.seq (ab.aa ?_)
  refine Oc oa (ae.af ⟨[(4,B false)],[]⟩ rfl (ab.ret ?_))
  obtain rfl:=Option.some.inj h
  refine Fin.ag ⟨[(4,_)],[]⟩ rfl (Fin.aP [.one (.bool false)] (.inl rfl) rfl (.cons (.tmp rfl) .nil) ⟨rfl,rfl⟩)
def cG (F:Nat) (l0:List Int) (n0:Int):Option (List Int) :=
 (cK F l0 n0).bind fun x_1=>if x_1 = true then (some l0) else (Option.bind (iter F (mE fun out_4 placed_5 i_6=>if (decide (i_6 < (l0.length:Int))) = true then (Option.bind (Option.bind ((c3 (!placed_5) (aM l0 i_6)).bind fun x_13=>if ((!placed_5) && (decide (n0 < x_13))) = true then ((dF out_4 [n0]).bind fun x_14=>some (x_14,true)) else (some (out_4,placed_5))) (cr fun out_11 placed_12=>(aM l0 i_6).bind fun x_15=>(dF out_11 [x_15]).bind fun x_16=>some (x_16,placed_12))) (cr fun out_9 placed_10=>some (.inl (out_9,placed_10,IntKind.i64.wrap (i_6 + 1))))) else (some (.inr (out_4,placed_5)))) ([],false,0)) (cr fun out_2 placed_3=>Option.bind (if (!placed_3) = true then ((dF out_2 [n0]).bind fun x_18=>some x_18) else (some out_2)) (fun out_17=>some out_17)))
theorem fL {F:Nat} {l0:List Int} {n0:Int} {r:(List Int)} (h:cG F l0 n0 = some r):ar Try.prog [] 40 [] [.one (.sl 1 (l0.map eI)),.one (.i n0)] (Is [] (.b (.one (.sl 1 (r.map eI))))):=by
 unfold cG at h
 refine ar.intro 46 Try.func40 Try.ntmps40 rfl (by simp) fun E=>?_
 show ab _ E ⟨46,[],[],[]⟩ _ ⟨[(0,.b (.one (.sl 1 (l0.map eI)))),(1,I n0)],[]⟩ _
 refine ab.seq (ab.aa ?_)
 refine Oc oa (ae.af ⟨[(0,.b (.one (.sl 1 (l0.map eI)))),(1,I n0)],[]⟩ rfl (ab.seq (ab.seq (ab.aa ?_))))
 refine Oc om (Oc om ?_)
 obtain ⟨x_1,e1,h⟩:=aF h
 refine Oc (aJ (fZ e1) tv rfl rfl) (ae.af ⟨[(0,_),(1,_),(10,B x_1)],[]⟩ rfl (ab.ite h rfl (fun _ h=>?_) (fun _ h=>?_)))
 ·refine ab.seq (ab.aa ?_)
  refine Oc om (Oc oa ?_)
  refine ae.af ⟨[(4,.b (.one (.sl 1 (l0.map eI))))],[]⟩ rfl (ab.ret (Fin.aR ?_))
  obtain rfl:=Option.some.inj h
  refine Fin.ag ⟨[(4,_)],[]⟩ rfl (Fin.aP [.one (.sl 1 (l0.map eI))] (.inl rfl) rfl (.cons (.tmp rfl) .nil) ⟨rfl,rfl⟩)
 ·refine ab.skip (Fin.ag ⟨[(0,_),(1,_)],[]⟩ rfl (Fin.then (ab.seq (ab.aa ?_))))
  refine Oc oa (ae.af ⟨[(0,_),(1,_),(5,.b (.one (.nil)))],[]⟩ rfl (ab.seq (ab.aa ?_)))
  refine Oc oa (ae.af ⟨[(0,_),(1,_),(5,_),(6,B false)],[]⟩ rfl ?_)
  obtain ⟨v2,h3,h⟩:=aF h
  refine ab.bS (v:=v2) (cr fun (out_2:List Int) (placed_3:Bool)=>⟨[(1,I n0),(5,.b (.row 102)),(6,B placed_3)],[(102,.row 3 1 (out_2.map eI))]⟩) (fun z=>z) ?_ ?_
  ·refine ab.seq (ab.aa ?_)
   refine Oc oa (ae.af ⟨[(0,_),(1,_),(5,_),(6,_),(7,I 0)],[]⟩ rfl (ab.block (ab.de 5 102 1 3 rfl (by decide) rfl (ab.bZ h3 (mE fun (out_4:List Int) (placed_5:Bool) (i_6:Int)=>⟨[(0,.b (.one (.sl 1 (l0.map eI)))),(1,I n0),(5,.b (.row 102)),(6,B placed_5),(7,I i_6)],[(102,.row 3 1 (out_4.map eI))]⟩) [0,1,5,6,7] [102] rfl ?_))))
   rintro ⟨out_4,placed_5,i_6⟩ o4 h5 hy6
   refine ab.seq (ab.seq (ab.aa ?_))
   refine Oc om (Oc om (Oc (aq fO rfl (List.length_map _)) (Oc (a8 rfl rfl) ?_)))
   refine ae.af ⟨[(0,_),(1,_),(5,_),(6,_),(7,_),(15,B (decide (i_6 < (l0.length:Int))))],[(102,_)]⟩ rfl (ab.ite h5 rfl (fun _ h5=>?_) (fun _ h5=>?_))
   ·refine ab.skip (Fin.ag ⟨[(0,_),(1,_),(5,_),(6,_),(7,_)],[(102,_)]⟩ rfl (Fin.then ?_))
    obtain ⟨v7,h8,h5⟩:=aF h5
    refine ab.bS (v:=v7) (cr fun (out_9:List Int) (placed_10:Bool)=>⟨[(0,.b (.one (.sl 1 (l0.map eI)))),(1,I n0),(5,.b (.row 102)),(6,B placed_10),(7,I i_6)],[(102,.row 3 1 (out_9.map eI))]⟩) (fun z=>z) ?_ ?_
    ·refine ab.block ?_
     obtain ⟨v9,h10,h8⟩:=aF h8
     refine ab.bS (v:=v9) (cr fun (out_11:List Int) (placed_12:Bool)=>⟨[(0,.b (.one (.sl 1 (l0.map eI)))),(1,I n0),(5,.b (.row 102)),(6,B placed_12),(7,I i_6)],[(102,.row 3 1 (out_11.map eI))]⟩) (fun z=>z) ?_ ?_
     ·refine ab.seq (ab.aa ?_)
      refine Oc om (Oc (c4 rfl) (Oc om ?_))
      refine c6 (!placed_5) [] (fun g11=>trivial) (fun g11=>om) (c6 (!placed_5) [] (fun g12=>by exact trivial) (fun g12=>om) ?_)
      obtain ⟨x_13,e14,h10⟩:=aF h10
      refine c6 (!placed_5) [21,22] (fun g13=>⟨g13,g13,trivial⟩) (fun g13=>az ak (aE (gc e14 g13)) (aC (e:=eI) (gc e14 g13)) rfl rfl) (c6 (!placed_5) [23] (fun g15=>⟨g15,trivial⟩) (fun g15=>aw aA rfl rfl) (ae.ag ⟨[(0,_),(1,_),(5,_),(6,_),(7,_),(20,B (!placed_5)),(24,.opt (!placed_5) (.one (.i x_13)))],[(102,_)]⟩ rfl (c6 (!placed_5) [] (fun g16=>trivial) (fun g16=>om) (c6 (!placed_5) [24,25] (fun g17=>by exact ⟨g17,g17,trivial⟩) (fun g17=>fg rfl rfl) (Oc (aO (fun e=>e) rfl rfl rfl rfl) ?_)))))
      refine ae.af ⟨[(0,_),(1,_),(5,_),(6,_),(7,_),(27,B ((!placed_5) && (decide (n0 < x_13))))],[(102,_)]⟩ rfl (ab.ite h10 rfl (fun _ h10=>?_) (fun _ h10=>?_))
      ·refine ab.seq (ab.aa ?_)
       refine Oc om (Oc om (Oc (ax (k:=103) (es:=[n0].map eI) ak rfl rfl (aW fun _=>rfl) rfl (by decide) (by decide) rfl) ?_))
       obtain ⟨x_14,e18,h10⟩:=aF h10
       refine Oc (bu ak (dy e18) (dx e18) rfl rfl rfl rfl (bT e18) rfl) (Oc oa ?_)
       refine ae.af ⟨[(0,_),(1,_),(5,_),(7,_)],[(102,.row 3 1 (x_14.map eI))]⟩ rfl (ab.aa (Oc oa (ae.nil ?_)))
       exact Fin.join [0,1,5,6,7] [102] (x_14,true) (Option.some.inj h10) rfl
      ·refine ab.skip ?_
       exact Fin.join [0,1,5,6,7] [102] (out_4,placed_5) (Option.some.inj h10) rfl
     ·rintro ⟨out_11,placed_12⟩ hv
      subst v9
      refine ab.aa (Oc om (Oc om (Oc om ?_)))
      obtain ⟨x_15,e19,h8⟩:=aF h8
      refine Oc (az ak (aE e19) (aC (e:=eI) e19) rfl rfl) (Oc (aw aA rfl rfl) (Oc (ax (k:=104) (es:=[x_15].map eI) ak rfl rfl (aW fun _=>rfl) rfl (by decide) (by decide) rfl) ?_))
      obtain ⟨x_16,e20,h8⟩:=aF h8
      refine Oc (bu ak (dy e20) (dx e20) rfl rfl rfl rfl (bT e20) rfl) (Oc oa ?_)
      refine ae.nil (Fin.ah ?_)
      exact Fin.join [0,1,5,6,7] [102] (x_16,placed_12) (Option.some.inj h8) rfl
    ·rintro ⟨out_9,placed_10⟩ hv
     subst v7
     refine ab.aa (Oc om (Oc (aV rfl rfl) (Oc oa ?_)))
     refine ae.nil ?_
     exact Fin.bx [0,1,5,6,7] [102] (out_9,placed_10,IntKind.i64.wrap (i_6 + 1)) (Option.some.inj h5) rfl
   ·refine ab.exit (Fin.ai ?_)
    obtain rfl:=hy6 _ (Option.some.inj h5).symm
    refine Fin.ai (Fin.ay ?_)
    exact Fin.join [1,5,6] [102] (out_4,placed_5) rfl rfl
  ·rintro ⟨out_2,placed_3⟩ hv
   subst v2
   obtain ⟨v21,h22,h⟩:=aF h
   refine ab.bS (v:=v21) (fun (out_17:List Int)=>⟨[(5,.b (.row 102))],[(102,.row 3 1 (out_17.map eI))]⟩) (fun z=>z) ?_ ?_
   ·refine ab.seq (ab.aa ?_)
    refine Oc om (Oc (c4 rfl) ?_)
    refine ae.af ⟨[(1,_),(5,_),(40,B (!placed_3))],[(102,_)]⟩ rfl (ab.ite h22 rfl (fun _ h22=>?_) (fun _ h22=>?_))
    ·refine ab.aa (Oc om (Oc om (Oc (ax (k:=105) (es:=[n0].map eI) ak rfl rfl (aW fun _=>rfl) rfl (by decide) (by decide) rfl) ?_)))
     obtain ⟨x_18,e23,h22⟩:=aF h22
     refine Oc (bu ak (dy e23) (dx e23) rfl rfl rfl rfl (bT e23) rfl) (Oc oa ?_)
     refine ae.nil ?_
     exact Fin.join [5] [102] x_18 (Option.some.inj h22) rfl
    ·refine ab.skip ?_
     exact Fin.join [5] [102] out_2 (Option.some.inj h22) rfl
   ·rintro out_17 hv
    subst v21
    refine ab.seq (ab.aa ?_)
    refine Oc om (Oc oa ?_)
    refine ae.af ⟨[(4,.b (.row 102))],[(102,_)]⟩ rfl (ab.ret ?_)
    obtain rfl:=Option.some.inj h
    refine Fin.ag ⟨[(4,.b (.row 102))],[(102,.row 3 1 (out_17.map eI))]⟩ rfl (Fin.bE 102 rfl (Fin.aP [.one (.sl 1 (out_17.map eI))] (.inl rfl) rfl (.cons (.tmp rfl) .nil) ⟨rfl,rfl⟩))
def cA (F:Nat) (a0:List Int) (b0:List Int):Option (List Int) :=
 Option.bind (iter F (cr fun out_2 i_3=>if (decide (i_3 < (b0.length:Int))) = true then ((aM b0 i_3).bind fun x_5=>(cG F out_2 x_5).bind fun x_6=>some (.inl (x_6,IntKind.i64.wrap (i_3 + 1)))) else (some (.inr out_2))) (a0,0)) (fun out_1=>some out_1)
theorem fm {F:Nat} {a0:List Int} {b0:List Int} {r:(List Int)} (h:cA F a0 b0 = some r):ar Try.prog [] 41 [] [.one (.sl 1 (a0.map eI)),.one (.sl 1 (b0.map eI))] (Is [] (.b (.one (.sl 1 (r.map eI))))):=by
 unfold cA at h
 refine ar.intro 21 Try.func41 Try.ntmps41 rfl (by simp) fun E=>?_
 show ab _ E ⟨21,[],[],[]⟩ _ ⟨[(0,.b (.one (.sl 1 (a0.map eI)))),(1,.b (.one (.sl 1 (b0.map eI))))],[]⟩ _
 refine ab.seq (ab.aa ?_)
 refine Oc oa (ae.af ⟨[(0,.b (.one (.sl 1 (a0.map eI)))),(1,.b (.one (.sl 1 (b0.map eI))))],[]⟩ rfl (ab.seq (ab.aa ?_)))
 refine Oc om (Oc oa ?_)
 refine ae.af ⟨[(1,_),(5,.b (.one (.sl 1 (a0.map eI))))],[]⟩ rfl ?_
 obtain ⟨v1,h2,h⟩:=aF h
 refine ab.bS (v:=v1) (fun (out_1:List Int)=>⟨[(5,.b (.one (.sl 1 (out_1.map eI))))],[]⟩) (fun z=>z) ?_ ?_
 ·refine ab.seq (ab.aa ?_)
  refine Oc oa (ae.af ⟨[(1,_),(5,_),(6,I 0)],[]⟩ rfl (ab.block (ab.bZ h2 (cr fun (out_2:List Int) (i_3:Int)=>⟨[(1,.b (.one (.sl 1 (b0.map eI)))),(5,.b (.one (.sl 1 (out_2.map eI)))),(6,I i_3)],[]⟩) [1,5,6] [] rfl ?_)))
  rintro ⟨out_2,i_3⟩ o3 h4 hy5
  refine ab.seq (ab.seq (ab.aa ?_))
  refine Oc om (Oc om (Oc (aq fO rfl (List.length_map _)) (Oc (a8 rfl rfl) ?_)))
  refine ae.af ⟨[(1,_),(5,_),(6,_),(11,B (decide (i_3 < (b0.length:Int))))],[]⟩ rfl (ab.ite h4 rfl (fun _ h4=>?_) (fun _ h4=>?_))
  ·refine ab.skip (Fin.ag ⟨[(1,_),(5,_),(6,_)],[]⟩ rfl (Fin.then (ab.seq (ab.block (ab.aa ?_)))))
   refine Oc om (Oc om (Oc om ?_))
   obtain ⟨x_5,e6,h4⟩:=aF h4
   refine Oc (az ak (aE e6) (aC (e:=eI) e6) rfl rfl) (Oc (aw aA rfl rfl) ?_)
   obtain ⟨x_6,e7,h4⟩:=aF h4
   refine Oc (aJ (fL e7) tr rfl rfl) (Oc oa ?_)
   refine ae.nil (Fin.ah (Fin.ag ⟨[(1,_),(5,.b (.one (.sl 1 (x_6.map eI)))),(6,_)],[]⟩ rfl (Fin.then (ab.aa ?_))))
   refine Oc om (Oc (aV rfl rfl) (Oc oa ?_))
   refine ae.nil ?_
   exact Fin.bx [1,5,6] [] (x_6,IntKind.i64.wrap (i_3 + 1)) (Option.some.inj h4) rfl
  ·refine ab.exit (Fin.ai ?_)
   obtain rfl:=hy5 _ (Option.some.inj h4).symm
   refine Fin.ai (Fin.ay ?_)
   exact Fin.join [5] [] out_2 rfl rfl
 ·rintro out_1 hv
  subst v1
  refine ab.seq (ab.aa ?_)
  refine Oc om (Oc oa ?_)
  refine ae.af ⟨[(4,.b (.one (.sl 1 (out_1.map eI))))],[]⟩ rfl (ab.ret ?_)
  obtain rfl:=Option.some.inj h
  refine Fin.ag ⟨[(4,_)],[]⟩ rfl (Fin.aP [.one (.sl 1 (out_1.map eI))] (.inl rfl) rfl (.cons (.tmp rfl) .nil) ⟨rfl,rfl⟩)
def cT (F:Nat) (a0:List Int) (b0:List Int):Option Bool :=
 Option.bind (iter F (fun i_1=>if (decide (i_1 < (a0.length:Int))) = true then ((aM a0 i_1).bind fun x_2=>(cK F b0 x_2).bind fun x_3=>if x_3 = true then (some (.inr (.inr true))) else (some (.inl (IntKind.i64.wrap (i_1 + 1))))) else (some (.inr (.inl ())))) 0) (j8 (fun _=>some false) (fun y=>some y))
theorem iZ {F:Nat} {a0:List Int} {b0:List Int} {r:Bool} (h:cT F a0 b0 = some r):ar Try.prog [] 42 [] [.one (.sl 1 (a0.map eI)),.one (.sl 1 (b0.map eI))] (Is [] (.b (.one (.bool r)))):=by
 unfold cT at h
 refine ar.intro 18 Try.func42 Try.ntmps42 rfl (by simp) fun E=>?_
 show ab _ E ⟨18,[],[],[]⟩ _ ⟨[(0,.b (.one (.sl 1 (a0.map eI)))),(1,.b (.one (.sl 1 (b0.map eI))))],[]⟩ _
 refine ab.seq (ab.aa ?_)
 refine Oc oa (ae.af ⟨[(0,.b (.one (.sl 1 (a0.map eI)))),(1,.b (.one (.sl 1 (b0.map eI))))],[]⟩ rfl ?_)
 obtain ⟨v1,h2,h⟩:=aF h
 refine ab.bS (v:=v1) (fun (_:Unit)=>⟨[],[]⟩) (fun z=>.inl z) ?_ ?_
 ·refine ab.seq (ab.aa ?_)
  refine Oc oa (ae.af ⟨[(0,_),(1,_),(5,I 0)],[]⟩ rfl (ab.block (ab.bZ h2 (fun (i_1:Int)=>⟨[(0,.b (.one (.sl 1 (a0.map eI)))),(1,.b (.one (.sl 1 (b0.map eI)))),(5,I i_1)],[]⟩) [0,1,5] [] rfl ?_)))
  rintro i_1 o3 h4 hy5
  refine ab.seq (ab.seq (ab.aa ?_))
  refine Oc om (Oc om (Oc (aq fO rfl (List.length_map _)) (Oc (a8 rfl rfl) ?_)))
  refine ae.af ⟨[(0,_),(1,_),(5,_),(9,B (decide (i_1 < (a0.length:Int))))],[]⟩ rfl (ab.ite h4 rfl (fun _ h4=>?_) (fun _ h4=>?_))
  ·refine ab.skip (Fin.ag ⟨[(0,_),(1,_),(5,_)],[]⟩ rfl (Fin.then (ab.seq (ab.block (ab.seq (ab.aa ?_))))))
   refine Oc om (Oc om (Oc om ?_))
   obtain ⟨x_2,e6,h4⟩:=aF h4
   refine Oc (az ak (aE e6) (aC (e:=eI) e6) rfl rfl) (Oc (aw aA rfl rfl) ?_)
   obtain ⟨x_3,e7,h4⟩:=aF h4
   refine Oc (aJ (fZ e7) tv rfl rfl) (ae.af ⟨[(0,_),(1,_),(5,_),(17,B x_3)],[]⟩ rfl (ab.ite h4 rfl (fun _ h4=>?_) (fun _ h4=>?_)))
   ·refine ab.seq (ab.aa ?_)
    refine Oc oa (ae.af ⟨[(4,B true)],[]⟩ rfl (ab.ret (Fin.dc (Fin.aR ?_))))
    obtain rfl:=hy5 _ (Option.some.inj h4).symm
    refine Fin.aR (Fin.dc (Fin.aR ?_))
    obtain rfl:=Option.some.inj h
    refine Fin.ag ⟨[(4,_)],[]⟩ rfl (Fin.aP [.one (.bool true)] (.inl rfl) rfl (.cons (.tmp rfl) .nil) ⟨rfl,rfl⟩)
   ·refine ab.skip (Fin.ah (Fin.ag ⟨[(0,_),(1,_),(5,_)],[]⟩ rfl (Fin.then (ab.aa ?_))))
    refine Oc om (Oc (aV rfl rfl) (Oc oa ?_))
    refine ae.nil ?_
    exact Fin.bx [0,1,5] [] (IntKind.i64.wrap (i_1 + 1)) (Option.some.inj h4) rfl
  ·refine ab.exit (Fin.ai ?_)
   obtain rfl:=hy5 _ (Option.some.inj h4).symm
   refine Fin.ai (Fin.ay ?_)
   exact Fin.join [] [] () rfl rfl
 ·rintro _ hv
  subst v1
  refine ab.seq (ab.aa ?_)
  refine Oc oa (ae.af ⟨[(4,B false)],[]⟩ rfl (ab.ret ?_))
  obtain rfl:=Option.some.inj h
  refine Fin.ag ⟨[(4,_)],[]⟩ rfl (Fin.aP [.one (.bool false)] (.inl rfl) rfl (.cons (.tmp rfl) .nil) ⟨rfl,rfl⟩)
def dp (F:Nat) (l0:List (List Int)) (x0:List Int):Option (List (List Int)) :=
 Option.bind (iter F (mE fun out_3 placed_4 i_5=>if (decide (i_5 < (l0.length:Int))) = true then (Option.bind (Option.bind ((c3 (!placed_4) (aM l0 i_5)).bind fun x_12=>(c3 (!placed_4) (aM x_12 0)).bind fun x_13=>(c3 (!placed_4) (aM x0 0)).bind fun x_14=>if ((!placed_4) && (decide (x_14 < x_13))) = true then ((dF out_3 [x0]).bind fun x_15=>some (x_15,true)) else (some (out_3,placed_4))) (cr fun out_10 placed_11=>(aM l0 i_5).bind fun x_16=>(dF out_10 [x_16]).bind fun x_17=>some (x_17,placed_11))) (cr fun out_8 placed_9=>some (.inl (out_8,placed_9,IntKind.i64.wrap (i_5 + 1))))) else (some (.inr (out_3,placed_4)))) ([],false,0)) (cr fun out_1 placed_2=>Option.bind (if (!placed_2) = true then ((dF out_1 [x0]).bind fun x_19=>some x_19) else (some out_1)) (fun out_18=>some out_18))
theorem jS (kr0:Nat) {F:Nat} {l0:List (List Int)} {x0:List Int} {r:(List (List Int))} (h:dp F l0 x0 = some r):ar Try.prog [] 43 [] [.one (.sl 1 (l0.map (eL 1 eI))),.one (.sl 1 (x0.map eI))] (Is [(kr0,.row 30 1 (r.map (eL 1 eI)))] (.b (.row kr0))):=by
 unfold dp at h
 refine ar.intro 46 Try.func43 Try.ntmps43 rfl (by simp) fun E=>?_
 show ab _ E ⟨46,[],[],[]⟩ _ ⟨[(0,.b (.one (.sl 1 (l0.map (eL 1 eI))))),(1,.b (.one (.sl 1 (x0.map eI))))],[]⟩ _
 refine ab.seq (ab.aa ?_)
 refine Oc oa (ae.af ⟨[(0,.b (.one (.sl 1 (l0.map (eL 1 eI))))),(1,.b (.one (.sl 1 (x0.map eI))))],[]⟩ rfl (ab.seq (ab.aa ?_)))
 refine Oc oa (ae.af ⟨[(0,_),(1,_),(5,.b (.one (.nil)))],[]⟩ rfl (ab.seq (ab.aa ?_)))
 refine Oc oa (ae.af ⟨[(0,_),(1,_),(5,_),(6,B false)],[]⟩ rfl ?_)
 obtain ⟨v1,h2,h⟩:=aF h
 refine ab.bS (v:=v1) (cr fun (out_1:List (List Int)) (placed_2:Bool)=>⟨[(1,.b (.one (.sl 1 (x0.map eI)))),(5,.b (.row 102)),(6,B placed_2)],[(102,.row 30 1 (out_1.map (eL 1 eI)))]⟩) (fun z=>z) ?_ ?_
 ·refine ab.seq (ab.aa ?_)
  refine Oc oa (ae.af ⟨[(0,_),(1,_),(5,_),(6,_),(7,I 0)],[]⟩ rfl (ab.block (ab.de 5 102 1 30 rfl (by decide) rfl (ab.bZ h2 (mE fun (out_3:List (List Int)) (placed_4:Bool) (i_5:Int)=>⟨[(0,.b (.one (.sl 1 (l0.map (eL 1 eI))))),(1,.b (.one (.sl 1 (x0.map eI)))),(5,.b (.row 102)),(6,B placed_4),(7,I i_5)],[(102,.row 30 1 (out_3.map (eL 1 eI)))]⟩) [0,1,5,6,7] [102] rfl ?_))))
  rintro ⟨out_3,placed_4,i_5⟩ o3 h4 hy5
  refine ab.seq (ab.seq (ab.aa ?_))
  refine Oc om (Oc om (Oc (aq gg rfl (List.length_map _)) (Oc (a8 rfl rfl) ?_)))
  refine ae.af ⟨[(0,_),(1,_),(5,_),(6,_),(7,_),(11,B (decide (i_5 < (l0.length:Int))))],[(102,_)]⟩ rfl (ab.ite h4 rfl (fun _ h4=>?_) (fun _ h4=>?_))
  ·refine ab.skip (Fin.ag ⟨[(0,_),(1,_),(5,_),(6,_),(7,_)],[(102,_)]⟩ rfl (Fin.then ?_))
   obtain ⟨v6,h7,h4⟩:=aF h4
   refine ab.bS (v:=v6) (cr fun (out_8:List (List Int)) (placed_9:Bool)=>⟨[(0,.b (.one (.sl 1 (l0.map (eL 1 eI))))),(1,.b (.one (.sl 1 (x0.map eI)))),(5,.b (.row 102)),(6,B placed_9),(7,I i_5)],[(102,.row 30 1 (out_8.map (eL 1 eI)))]⟩) (fun z=>z) ?_ ?_
   ·refine ab.block ?_
    obtain ⟨v8,h9,h7⟩:=aF h7
    refine ab.bS (v:=v8) (cr fun (out_10:List (List Int)) (placed_11:Bool)=>⟨[(0,.b (.one (.sl 1 (l0.map (eL 1 eI))))),(1,.b (.one (.sl 1 (x0.map eI)))),(5,.b (.row 102)),(6,B placed_11),(7,I i_5)],[(102,.row 30 1 (out_10.map (eL 1 eI)))]⟩) (fun z=>z) ?_ ?_
    ·refine ab.seq (ab.ag ⟨[(0,_),(1,_),(5,_),(6,_),(7,_)],[(102,_)]⟩ rfl ?_)
     obtain ⟨x_12,e13,h9⟩:=aF h9
     obtain ⟨x_13,e16,h9⟩:=aF h9
     obtain ⟨x_14,e20,h9⟩:=aF h9
     refine ab.en mixed 14 [B placed_4,B (!placed_4),B (!placed_4),.opt (!placed_4) (.one (.sl 1 (l0.map (eL 1 eI)))),.opt (!placed_4) (.one (.i i_5)),.opt (!placed_4) (.cI [.sl 1 (x_12.map eI)]),.opt (!placed_4) (.one (.sl 1 (x_12.map eI))),.opt (!placed_4) (.cI [.i x_13]),.opt (!placed_4) (.one (.i x_13)),.opt (!placed_4) (.one (.sl 1 (x0.map eI))),.opt (!placed_4) (.cI [.i x_14]),.opt (!placed_4) (.one (.i x_14)),.opt (!placed_4) (.one (.bool (decide (x_14 < x_13)))),B ((!placed_4) && (decide (x_14 < x_13)))] [0,1,5,6,7,27] [102] (s':=⟨[(0,_),(1,_),(5,_),(6,_),(7,_),(27,B ((!placed_4) && (decide (x_14 < x_13))))],[(102,_)]⟩) rfl ⟨fun _=>.p om,fun _=>.p (c4 rfl),fun _=>.p om,fun _=>by exact .guard (!placed_4) 1 [] (.plain rfl) (hO _) rfl rfl (fun g10=>trivial) (fun g10=>om),fun _=>by exact .guard (!placed_4) 1 [] (.plain rfl) (hO _) rfl rfl (fun g11=>trivial) (fun g11=>om),fun _=>by exact .guard (!placed_4) 3 [17,18] (.plain rfl) (hO _) rfl rfl (fun g12=>⟨g12,g12,trivial⟩) (fun g12=>az bP (aE (gc e13 g12)) (aC (e:=(eL 1 eI)) (gc e13 g12)) rfl rfl),fun _=>by exact .guard (!placed_4) 2 [19] (.plain rfl) (hO _) rfl rfl (fun g14=>⟨g14,trivial⟩) (fun g14=>aw aS rfl rfl),fun _=>by exact .guard (!placed_4) 2 [20] (.plain rfl) (hO _) rfl rfl (fun g15=>⟨g15,trivial⟩) (fun g15=>az ak (aE (gc e16 g15)) (aC (e:=eI) (gc e16 g15)) rfl rfl),fun _=>by exact .guard (!placed_4) 2 [21] (.plain rfl) (hO _) rfl rfl (fun g17=>⟨g17,trivial⟩) (fun g17=>aw aA rfl rfl),fun _=>by exact .guard (!placed_4) 1 [] (.plain rfl) (hO _) rfl rfl (fun g18=>trivial) (fun g18=>om),fun _=>by exact .guard (!placed_4) 2 [23] (.plain rfl) (hO _) rfl rfl (fun g19=>⟨g19,trivial⟩) (fun g19=>az ak (aE (gc e20 g19)) (aC (e:=eI) (gc e20 g19)) rfl rfl),fun _=>by exact .guard (!placed_4) 2 [24] (.plain rfl) (hO _) rfl rfl (fun g21=>⟨g21,trivial⟩) (fun g21=>aw aA rfl rfl),fun _=>by exact .guard (!placed_4) 3 [22,25] (.plain rfl) (hO _) rfl rfl (fun g22=>⟨g22,g22,trivial⟩) (fun g22=>fg rfl rfl),fun _=>.p (aO (fun e=>e) rfl rfl rfl rfl),trivial⟩ rfl rfl (ab.ite h9 rfl (fun _ h9=>?_) (fun _ h9=>?_))
     ·refine ab.seq (ab.aa ?_)
      refine Oc om (Oc om (Oc (ax (k:=103) (es:=[x0].map (eL 1 eI)) bP rfl rfl (aW fun _=>rfl) rfl (by decide) (by decide) rfl) ?_))
      obtain ⟨x_15,e23,h9⟩:=aF h9
      refine Oc (bu bP (dy e23) (dx e23) rfl rfl rfl rfl (bT e23) rfl) (Oc oa ?_)
      refine ae.af ⟨[(0,_),(1,_),(5,_),(7,_)],[(102,.row 30 1 (x_15.map (eL 1 eI)))]⟩ rfl (ab.aa (Oc oa (ae.nil ?_)))
      exact Fin.join [0,1,5,6,7] [102] (x_15,true) (Option.some.inj h9) rfl
     ·refine ab.skip ?_
      exact Fin.join [0,1,5,6,7] [102] (out_3,placed_4) (Option.some.inj h9) rfl
    ·rintro ⟨out_10,placed_11⟩ hv
     subst v8
     refine ab.aa (Oc om (Oc om (Oc om ?_)))
     obtain ⟨x_16,e24,h7⟩:=aF h7
     refine Oc (az bP (aE e24) (aC (e:=(eL 1 eI)) e24) rfl rfl) (Oc (aw aS rfl rfl) (Oc (ax (k:=104) (es:=[x_16].map (eL 1 eI)) bP rfl rfl (aW fun _=>rfl) rfl (by decide) (by decide) rfl) ?_))
     obtain ⟨x_17,e25,h7⟩:=aF h7
     refine Oc (bu bP (dy e25) (dx e25) rfl rfl rfl rfl (bT e25) rfl) (Oc oa ?_)
     refine ae.nil (Fin.ah ?_)
     exact Fin.join [0,1,5,6,7] [102] (x_17,placed_11) (Option.some.inj h7) rfl
   ·rintro ⟨out_8,placed_9⟩ hv
    subst v6
    refine ab.aa (Oc om (Oc (aV rfl rfl) (Oc oa ?_)))
    refine ae.nil ?_
    exact Fin.bx [0,1,5,6,7] [102] (out_8,placed_9,IntKind.i64.wrap (i_5 + 1)) (Option.some.inj h4) rfl
  ·refine ab.exit (Fin.ai ?_)
   obtain rfl:=hy5 _ (Option.some.inj h4).symm
   refine Fin.ai (Fin.ay ?_)
   exact Fin.join [1,5,6] [102] (out_3,placed_4) rfl rfl
 ·rintro ⟨out_1,placed_2⟩ hv
  subst v1
  obtain ⟨v26,h27,h⟩:=aF h
  refine ab.bS (v:=v26) (fun (out_18:List (List Int))=>⟨[(5,.b (.row 102))],[(102,.row 30 1 (out_18.map (eL 1 eI)))]⟩) (fun z=>z) ?_ ?_
  ·refine ab.seq (ab.aa ?_)
   refine Oc om (Oc (c4 rfl) ?_)
   refine ae.af ⟨[(1,_),(5,_),(40,B (!placed_2))],[(102,_)]⟩ rfl (ab.ite h27 rfl (fun _ h27=>?_) (fun _ h27=>?_))
   ·refine ab.aa (Oc om (Oc om (Oc (ax (k:=105) (es:=[x0].map (eL 1 eI)) bP rfl rfl (aW fun _=>rfl) rfl (by decide) (by decide) rfl) ?_)))
    obtain ⟨x_19,e28,h27⟩:=aF h27
    refine Oc (bu bP (dy e28) (dx e28) rfl rfl rfl rfl (bT e28) rfl) (Oc oa ?_)
    refine ae.nil ?_
    exact Fin.join [5] [102] x_19 (Option.some.inj h27) rfl
   ·refine ab.skip ?_
    exact Fin.join [5] [102] out_1 (Option.some.inj h27) rfl
  ·rintro out_18 hv
   subst v26
   refine ab.seq (ab.aa ?_)
   refine Oc om (Oc oa ?_)
   refine ae.af ⟨[(4,.b (.row 102))],[(102,_)]⟩ rfl (ab.ret ?_)
   obtain rfl:=Option.some.inj h
   refine Fin.ag ⟨[(4,_)],[(102,_)]⟩ rfl (Fin.iI 102 kr0 [.row 102] (.inl rfl) rfl (.cons (.tmp rfl) .nil) rfl rfl rfl rfl ⟨rfl,rfl⟩)
def bq (F:Nat) (l0:List (List Int)):Option (List (List Int)) :=
 Option.bind (iter F (cr fun sets_2 i_3=>if (decide (i_3 < (l0.length:Int))) = true then (Option.bind ((aM l0 i_3).bind fun x_6=>(cA F [] x_6).bind fun x_7=>if (decide ((x_7.length:Int) = 0)) = true then (some sets_2) else (Option.bind (iter F (mE fun x_10 rest_11 k_12=>if (decide (k_12 < (sets_2.length:Int))) = true then (Option.bind ((aM sets_2 k_12).bind fun x_17=>(cT F x_17 x_10).bind fun x_18=>if x_18 = true then ((aM sets_2 k_12).bind fun x_19=>(cA F x_10 x_19).bind fun x_20=>some (x_20,rest_11)) else ((aM sets_2 k_12).bind fun x_21=>(dF rest_11 [x_21]).bind fun x_22=>some (x_10,x_22))) (cr fun x_15 rest_16=>some (.inl (x_15,rest_16,IntKind.i64.wrap (k_12 + 1))))) else (some (.inr (x_10,rest_11)))) (x_7,[],0)) (cr fun x_8 rest_9=>(dF rest_9 [x_8]).bind fun x_23=>some x_23))) (fun sets_5=>some (.inl (sets_5,IntKind.i64.wrap (i_3 + 1))))) else (some (.inr sets_2))) ([],0)) (fun sets_1=>Option.bind (iter F (cr fun out_25 i_26=>if (decide (i_26 < (sets_1.length:Int))) = true then ((aM sets_1 i_26).bind fun x_28=>(dp F out_25 x_28).bind fun x_29=>some (.inl (x_29,IntKind.i64.wrap (i_26 + 1)))) else (some (.inr out_25))) ([],0)) (fun out_24=>some out_24))
theorem ja (kr0:Nat) {F:Nat} {l0:List (List Int)} {r:(List (List Int))} (h:bq F l0 = some r):ar Try.prog [] 26 [] [.one (.sl 1 (l0.map (eL 1 eI)))] (Is [(kr0,.row 30 1 (r.map (eL 1 eI)))] (.b (.row kr0))):=by
 unfold bq at h
 refine ar.intro 66 Try.func26 Try.ntmps26 rfl (by simp) fun E=>?_
 show ab _ E ⟨66,[],[],[]⟩ _ ⟨[(0,.b (.one (.sl 1 (l0.map (eL 1 eI)))))],[]⟩ _
 refine ab.seq (ab.aa ?_)
 refine Oc oa (ae.af ⟨[(0,.b (.one (.sl 1 (l0.map (eL 1 eI)))))],[]⟩ rfl (ab.seq (ab.aa ?_)))
 refine Oc oa (ae.af ⟨[(0,_),(3,.b (.one (.nil)))],[]⟩ rfl ?_)
 obtain ⟨v1,h2,h⟩:=aF h
 refine ab.bS (v:=v1) (fun (sets_1:List (List Int))=>⟨[(3,.b (.row 102))],[(102,.row 30 1 (sets_1.map (eL 1 eI)))]⟩) (fun z=>z) ?_ ?_
 ·refine ab.seq (ab.aa ?_)
  refine Oc oa (ae.af ⟨[(0,_),(3,_),(4,I 0)],[]⟩ rfl (ab.block (ab.de 3 102 1 30 rfl (by decide) rfl (ab.bZ h2 (cr fun (sets_2:List (List Int)) (i_3:Int)=>⟨[(0,.b (.one (.sl 1 (l0.map (eL 1 eI))))),(3,.b (.row 102)),(4,I i_3)],[(102,.row 30 1 (sets_2.map (eL 1 eI)))]⟩) [0,3,4] [102] rfl ?_))))
  rintro ⟨sets_2,i_3⟩ o3 h4 hy5
  refine ab.seq (ab.seq (ab.aa ?_))
  refine Oc om (Oc om (Oc (aq gg rfl (List.length_map _)) (Oc (a8 rfl rfl) ?_)))
  refine ae.af ⟨[(0,_),(3,_),(4,_),(13,B (decide (i_3 < (l0.length:Int))))],[(102,_)]⟩ rfl (ab.ite h4 rfl (fun _ h4=>?_) (fun _ h4=>?_))
  ·refine ab.skip (Fin.ag ⟨[(0,_),(3,_),(4,_)],[(102,_)]⟩ rfl (Fin.then ?_))
   obtain ⟨v6,h7,h4⟩:=aF h4
   refine ab.bS (v:=v6) (fun (sets_5:List (List Int))=>⟨[(0,.b (.one (.sl 1 (l0.map (eL 1 eI))))),(3,.b (.row 102)),(4,I i_3)],[(102,.row 30 1 (sets_5.map (eL 1 eI)))]⟩) (fun z=>z) ?_ ?_
   ·refine ab.block (ab.seq (ab.aa ?_))
    refine Oc om (Oc om ?_)
    obtain ⟨x_6,e8,h7⟩:=aF h7
    refine Oc (az bP (aE e8) (aC (e:=(eL 1 eI)) e8) rfl rfl) (Oc (aw aS rfl rfl) ?_)
    obtain ⟨x_7,e9,h7⟩:=aF h7
    refine Oc (aJ (ar.sL 0 (by decide) (fm e9) rfl) tq rfl rfl) (Oc oa ?_)
    refine ae.af ⟨[(0,_),(3,_),(4,_),(5,.b (.one (.sl 1 (x_7.map eI))))],[(102,_)]⟩ rfl (ab.seq (ab.seq (ab.aa ?_)))
    refine Oc om (Oc (aq fO rfl (List.length_map _)) (Oc (dN rfl rfl) ?_))
    refine ae.af ⟨[(0,_),(3,_),(4,_),(5,_),(23,B (decide ((x_7.length:Int) = 0)))],[(102,_)]⟩ rfl (ab.ite h7 rfl (fun _ h7=>?_) (fun _ h7=>?_))
    ·refine ab.exit (Fin.ai (Fin.ay ?_))
     exact Fin.join [0,3,4] [102] sets_2 (Option.some.inj h7) rfl
    ·refine ab.skip (Fin.ag ⟨[(0,_),(3,_),(4,_),(5,_)],[(102,_)]⟩ rfl (Fin.then (ab.seq (ab.aa ?_))))
     refine Oc oa (ae.af ⟨[(0,_),(3,_),(4,_),(5,_),(6,.b (.one (.nil)))],[(102,_)]⟩ rfl ?_)
     obtain ⟨v10,h11,h7⟩:=aF h7
     refine ab.bS (v:=v10) (cr fun (x_8:List Int) (rest_9:List (List Int))=>⟨[(0,.b (.one (.sl 1 (l0.map (eL 1 eI))))),(4,I i_3),(5,.b (.one (.sl 1 (x_8.map eI)))),(6,.b (.row 104))],[(104,.row 30 1 (rest_9.map (eL 1 eI)))]⟩) (fun z=>z) ?_ ?_
     ·refine ab.seq (ab.aa ?_)
      refine Oc oa (ae.af ⟨[(0,_),(3,_),(4,_),(5,_),(6,_),(7,I 0)],[(102,_)]⟩ rfl (ab.block (ab.de 6 104 1 30 rfl (by decide) rfl (ab.bZ h11 (mE fun (x_10:List Int) (rest_11:List (List Int)) (k_12:Int)=>⟨[(0,.b (.one (.sl 1 (l0.map (eL 1 eI))))),(3,.b (.row 102)),(4,I i_3),(5,.b (.one (.sl 1 (x_10.map eI)))),(6,.b (.row 104)),(7,I k_12)],[(102,.row 30 1 (sets_2.map (eL 1 eI))),(104,.row 30 1 (rest_11.map (eL 1 eI)))]⟩) [0,3,4,5,6,7] [102,104] rfl ?_))))
      rintro ⟨x_10,rest_11,k_12⟩ o12 h13 hy14
      refine ab.seq (ab.seq (ab.aa ?_))
      refine Oc om (Oc om (Oc (dX gg rfl rfl (List.length_map _)) (Oc (a8 rfl rfl) ?_)))
      refine ae.af ⟨[(0,_),(3,_),(4,_),(5,_),(6,_),(7,_),(27,B (decide (k_12 < (sets_2.length:Int))))],[(102,_),(104,_)]⟩ rfl (ab.ite h13 rfl (fun _ h13=>?_) (fun _ h13=>?_))
      ·refine ab.skip (Fin.ag ⟨[(0,_),(3,_),(4,_),(5,_),(6,_),(7,_)],[(102,_),(104,_)]⟩ rfl (Fin.then ?_))
       obtain ⟨v15,h16,h13⟩:=aF h13
       refine ab.bS (v:=v15) (cr fun (x_15:List Int) (rest_16:List (List Int))=>⟨[(0,.b (.one (.sl 1 (l0.map (eL 1 eI))))),(3,.b (.row 102)),(4,I i_3),(5,.b (.one (.sl 1 (x_15.map eI)))),(6,.b (.row 104)),(7,I k_12)],[(102,.row 30 1 (sets_2.map (eL 1 eI))),(104,.row 30 1 (rest_16.map (eL 1 eI)))]⟩) (fun z=>z) ?_ ?_
       ·refine ab.block (ab.seq (ab.aa ?_))
        refine Oc om (Oc om ?_)
        obtain ⟨x_17,e17,h16⟩:=aF h16
        refine Oc (au bP (aE e17) (aY e17) rfl rfl rfl rfl) (Oc (aK (i:=(k_12:Int).toNat) (f:=0) aS rfl rfl rfl (aC (e:=(eL 1 eI)) e17) rfl) (Oc om ?_))
        obtain ⟨x_18,e18,h16⟩:=aF h16
        refine Oc (aJ (iZ e18) goes42 rfl rfl) (ae.af ⟨[(0,_),(3,_),(4,_),(5,_),(6,_),(7,_),(35,B x_18)],[(102,_),(104,_)]⟩ rfl (ab.ite h16 rfl (fun _ h16=>?_) (fun _ h16=>?_)))
        ·refine ab.aa (Oc om (Oc om (Oc om ?_)))
         obtain ⟨x_19,e19,h16⟩:=aF h16
         refine Oc (au bP (aE e19) (aY e19) rfl rfl rfl rfl) (Oc (aK (i:=(k_12:Int).toNat) (f:=0) aS rfl rfl rfl (aC (e:=(eL 1 eI)) e19) rfl) ?_)
         obtain ⟨x_20,e20,h16⟩:=aF h16
         refine Oc (aJ (fm e20) tq rfl rfl) (Oc oa ?_)
         refine ae.nil (Fin.ah ?_)
         exact Fin.join [0,3,4,5,6,7] [102,104] (x_20,rest_11) (Option.some.inj h16) rfl
        ·refine ab.aa (Oc om (Oc om (Oc om ?_)))
         obtain ⟨x_21,e21,h16⟩:=aF h16
         refine Oc (au bP (aE e21) (aY e21) rfl rfl rfl rfl) (Oc (aK (i:=(k_12:Int).toNat) (f:=0) aS rfl rfl rfl (aC (e:=(eL 1 eI)) e21) rfl) (Oc (ax (k:=105) (es:=[x_21].map (eL 1 eI)) bP rfl rfl (aW fun _=>rfl) rfl (by decide) (by decide) rfl) ?_))
         obtain ⟨x_22,e22,h16⟩:=aF h16
         refine Oc (bu bP (dy e22) (dx e22) rfl rfl rfl rfl (bT e22) rfl) (Oc oa ?_)
         refine ae.nil (Fin.ah ?_)
         exact Fin.join [0,3,4,5,6,7] [102,104] (x_10,x_22) (Option.some.inj h16) rfl
       ·rintro ⟨x_15,rest_16⟩ hv
        subst v15
        refine ab.aa (Oc om (Oc (aV rfl rfl) (Oc oa ?_)))
        refine ae.nil ?_
        exact Fin.bx [0,3,4,5,6,7] [102,104] (x_15,rest_16,IntKind.i64.wrap (k_12 + 1)) (Option.some.inj h13) rfl
      ·refine ab.exit (Fin.ai ?_)
       obtain rfl:=hy14 _ (Option.some.inj h13).symm
       refine Fin.ai (Fin.ay ?_)
       exact Fin.join [0,4,5,6] [104] (x_10,rest_11) rfl rfl
     ·rintro ⟨x_8,rest_9⟩ hv
      subst v10
      refine ab.aa (Oc om (Oc om (Oc (ax (k:=106) (es:=[x_8].map (eL 1 eI)) bP rfl rfl (aW fun _=>rfl) rfl (by decide) (by decide) rfl) ?_)))
      obtain ⟨x_23,e23,h7⟩:=aF h7
      refine Oc (bu bP (dy e23) (dx e23) rfl rfl rfl rfl (bT e23) rfl) (Oc oa ?_)
      refine ae.nil (Fin.ah (Fin.ag ⟨[(0,.b (.one (.sl 1 (l0.map (eL 1 eI))))),(3,.b (.row 104)),(4,I i_3)],[(104,.row 30 1 (x_23.map (eL 1 eI)))]⟩ rfl (Fin.rename 104 102 rfl (by decide) rfl ?_)))
      exact Fin.join [0,3,4] [102] x_23 (Option.some.inj h7) rfl
   ·rintro sets_5 hv
    subst v6
    refine ab.aa (Oc om (Oc (aV rfl rfl) (Oc oa ?_)))
    refine ae.nil ?_
    exact Fin.bx [0,3,4] [102] (sets_5,IntKind.i64.wrap (i_3 + 1)) (Option.some.inj h4) rfl
  ·refine ab.exit (Fin.ai ?_)
   obtain rfl:=hy5 _ (Option.some.inj h4).symm
   refine Fin.ai (Fin.ay ?_)
   exact Fin.join [3] [102] sets_2 rfl rfl
 ·rintro sets_1 hv
  subst v1
  refine ab.seq (ab.aa ?_)
  refine Oc oa (ae.af ⟨[(3,_),(8,.b (.one (.nil)))],[(102,_)]⟩ rfl ?_)
  obtain ⟨v24,h25,h⟩:=aF h
  refine ab.bS (v:=v24) (fun (out_24:List (List Int))=>⟨[(8,.b (.row 107))],[(107,.row 30 1 (out_24.map (eL 1 eI)))]⟩) (fun z=>z) ?_ ?_
  ·refine ab.seq (ab.aa ?_)
   refine Oc oa (ae.af ⟨[(3,_),(8,_),(9,I 0)],[(102,_)]⟩ rfl (ab.block (ab.de 8 107 1 30 rfl (by decide) rfl (ab.bZ h25 (cr fun (out_25:List (List Int)) (i_26:Int)=>⟨[(3,.b (.row 102)),(8,.b (.row 107)),(9,I i_26)],[(102,.row 30 1 (sets_1.map (eL 1 eI))),(107,.row 30 1 (out_25.map (eL 1 eI)))]⟩) [3,8,9] [102,107] rfl ?_))))
   rintro ⟨out_25,i_26⟩ o26 h27 hy28
   refine ab.seq (ab.seq (ab.aa ?_))
   refine Oc om (Oc om (Oc (dX gg rfl rfl (List.length_map _)) (Oc (a8 rfl rfl) ?_)))
   refine ae.af ⟨[(3,_),(8,_),(9,_),(56,B (decide (i_26 < (sets_1.length:Int))))],[(102,_),(107,_)]⟩ rfl (ab.ite h27 rfl (fun _ h27=>?_) (fun _ h27=>?_))
   ·refine ab.skip (Fin.ag ⟨[(3,_),(8,_),(9,_)],[(102,_),(107,_)]⟩ rfl (Fin.then (ab.seq (ab.block (ab.aa ?_)))))
    refine Oc om (Oc om (Oc om ?_))
    obtain ⟨x_28,e29,h27⟩:=aF h27
    refine Oc (au bP (aE e29) (aY e29) rfl rfl rfl rfl) (Oc (aK (i:=(i_26:Int).toNat) (f:=0) aS rfl rfl rfl (aC (e:=(eL 1 eI)) e29) rfl) ?_)
    refine ae.bE 107 rfl ?_
    obtain ⟨x_29,e30,h27⟩:=aF h27
    refine Oc (bh (jS 108 e30) goes43 rfl trivial rfl rfl) (Oc oa ?_)
    refine ae.nil (Fin.ah (Fin.ag ⟨[(3,.b (.row 102)),(8,.b (.row 108)),(9,I i_26)],[(102,.row 30 1 (sets_1.map (eL 1 eI))),(108,.row 30 1 (x_29.map (eL 1 eI)))]⟩ rfl (Fin.then (ab.aa ?_))))
    refine Oc om (Oc (aV rfl rfl) (Oc oa ?_))
    refine ae.nil (Fin.ag ⟨[(3,.b (.row 102)),(8,.b (.row 108)),(9,I (IntKind.i64.wrap (i_26 + 1)))],[(102,.row 30 1 (sets_1.map (eL 1 eI))),(108,.row 30 1 (x_29.map (eL 1 eI)))]⟩ rfl (Fin.rename 108 107 rfl (by decide) rfl ?_))
    exact Fin.bx [3,8,9] [102,107] (x_29,IntKind.i64.wrap (i_26 + 1)) (Option.some.inj h27) rfl
   ·refine ab.exit (Fin.ai ?_)
    obtain rfl:=hy28 _ (Option.some.inj h27).symm
    refine Fin.ai (Fin.ay ?_)
    exact Fin.join [8] [107] out_25 rfl rfl
  ·rintro out_24 hv
   subst v24
   refine ab.seq (ab.aa ?_)
   refine Oc om (Oc oa ?_)
   refine ae.af ⟨[(2,.b (.row 107))],[(107,_)]⟩ rfl (ab.ret ?_)
   obtain rfl:=Option.some.inj h
   refine Fin.ag ⟨[(2,_)],[(107,_)]⟩ rfl (Fin.iI 107 kr0 [.row 107] (.inl rfl) rfl (.cons (.tmp rfl) .nil) rfl rfl rfl rfl ⟨rfl,rfl⟩)
def aU (F:Nat) (fixed0:List Bool) (links0:List A2):Option (List (List Int)) :=
 Option.bind (iter F (cr fun l_2 i_3=>if (decide (i_3 < (fixed0.length:Int))) = true then (Option.bind ((aM fixed0 i_3).bind fun x_6=>if (!x_6) = true then ((dF l_2 [[i_3]]).bind fun x_7=>some x_7) else (some l_2)) (fun l_5=>some (.inl (l_5,IntKind.i64.wrap (i_3 + 1))))) else (some (.inr l_2))) ([],0)) (fun l_1=>Option.bind (iter F (cr fun l_9 i_10=>if (decide (i_10 < (links0.length:Int))) = true then (Option.bind ((aM links0 i_10).bind fun x_13=>(aM fixed0 x_13.a0).bind fun x_14=>(c3 (!x_14) (aM links0 i_10)).bind fun x_15=>(c3 (!x_14) (aM fixed0 x_15.a1)).bind fun x_16=>if ((!x_14) && (!x_16)) = true then ((aM links0 i_10).bind fun x_17=>(aM links0 i_10).bind fun x_18=>(dF l_9 [[x_17.a0,x_18.a1]]).bind fun x_19=>some x_19) else (some l_9)) (fun l_12=>some (.inl (l_12,IntKind.i64.wrap (i_10 + 1))))) else (some (.inr l_9))) (l_1,0)) (fun l_8=>(bq F l_8).bind fun x_20=>some x_20))
theorem bO (kr0:Nat) {F:Nat} {fixed0:List Bool} {links0:List A2} {r:(List (List Int))} (h:aU F fixed0 links0 = some r):ar Try.prog [] 37 [] [.one (.sl 1 (fixed0.map eB)),.one (.sl 2 (links0.map (bX .i64)))] (Is [(kr0,.row 30 1 (r.map (eL 1 eI)))] (.b (.row kr0))):=by
 unfold aU at h
 refine ar.intro 66 Try.func37 Try.ntmps37 rfl (by simp) fun E=>?_
 show ab _ E ⟨66,[],[],[]⟩ _ ⟨[(0,.b (.one (.sl 1 (fixed0.map eB)))),(1,.b (.one (.sl 2 (links0.map (bX .i64)))))],[]⟩ _
 refine ab.seq (ab.aa ?_)
 refine Oc oa (ae.af ⟨[(0,.b (.one (.sl 1 (fixed0.map eB)))),(1,.b (.one (.sl 2 (links0.map (bX .i64)))))],[]⟩ rfl (ab.seq (ab.aa ?_)))
 refine Oc oa (ae.af ⟨[(0,_),(1,_),(5,.b (.one (.nil)))],[]⟩ rfl ?_)
 obtain ⟨v1,h2,h⟩:=aF h
 refine ab.bS (v:=v1) (fun (l_1:List (List Int))=>⟨[(0,.b (.one (.sl 1 (fixed0.map eB)))),(1,.b (.one (.sl 2 (links0.map (bX .i64))))),(5,.b (.row 103))],[(103,.row 30 1 (l_1.map (eL 1 eI)))]⟩) (fun z=>z) ?_ ?_
 ·refine ab.seq (ab.aa ?_)
  refine Oc oa (ae.af ⟨[(0,_),(1,_),(5,_),(6,I 0)],[]⟩ rfl (ab.block (ab.de 5 103 1 30 rfl (by decide) rfl (ab.bZ h2 (cr fun (l_2:List (List Int)) (i_3:Int)=>⟨[(0,.b (.one (.sl 1 (fixed0.map eB)))),(1,.b (.one (.sl 2 (links0.map (bX .i64))))),(5,.b (.row 103)),(6,I i_3)],[(103,.row 30 1 (l_2.map (eL 1 eI)))]⟩) [0,1,5,6] [103] rfl ?_))))
  rintro ⟨l_2,i_3⟩ o3 h4 hy5
  refine ab.seq (ab.seq (ab.aa ?_))
  refine Oc om (Oc om (Oc (aq dw rfl (List.length_map _)) (Oc (a8 rfl rfl) ?_)))
  refine ae.af ⟨[(0,_),(1,_),(5,_),(6,_),(11,B (decide (i_3 < (fixed0.length:Int))))],[(103,_)]⟩ rfl (ab.ite h4 rfl (fun _ h4=>?_) (fun _ h4=>?_))
  ·refine ab.skip (Fin.ag ⟨[(0,_),(1,_),(5,_),(6,_)],[(103,_)]⟩ rfl (Fin.then ?_))
   obtain ⟨v6,h7,h4⟩:=aF h4
   refine ab.bS (v:=v6) (fun (l_5:List (List Int))=>⟨[(0,.b (.one (.sl 1 (fixed0.map eB)))),(1,.b (.one (.sl 2 (links0.map (bX .i64))))),(5,.b (.row 103)),(6,I i_3)],[(103,.row 30 1 (l_5.map (eL 1 eI)))]⟩) (fun z=>z) ?_ ?_
   ·refine ab.block (ab.seq (ab.aa ?_))
    refine Oc om (Oc om ?_)
    obtain ⟨x_6,e8,h7⟩:=aF h7
    refine Oc (az fR (aE e8) (aC (e:=eB) e8) rfl rfl) (Oc (aw hZ rfl rfl) (Oc (c4 rfl) ?_))
    refine ae.af ⟨[(0,_),(1,_),(5,_),(6,_),(18,B (!x_6))],[(103,_)]⟩ rfl (ab.ite h7 rfl (fun _ h7=>?_) (fun _ h7=>?_))
    ·refine ab.aa (Oc om (Oc om (Oc (ax (k:=104) (es:=[i_3].map eI) ak rfl rfl (aW fun _=>rfl) rfl (by decide) (by decide) rfl) ?_)))
     refine ae.bE 104 rfl (ae.ag ⟨[(0,.b (.one (.sl 1 (fixed0.map eB)))),(1,.b (.one (.sl 2 (links0.map (bX .i64))))),(5,.b (.row 103)),(6,I i_3),(19,.b (.row 103)),(21,.b (.one (.sl 1 ([i_3].map eI))))],[(103,.row 30 1 (l_2.map (eL 1 eI)))]⟩ rfl (Oc (ax (k:=105) (es:=[[i_3]].map (eL 1 eI)) bP rfl rfl (aW fun _=>rfl) rfl (by decide) (by decide) rfl) ?_))
     obtain ⟨x_7,e9,h7⟩:=aF h7
     refine Oc (bu bP (dy e9) (dx e9) rfl rfl rfl rfl (bT e9) rfl) (Oc oa ?_)
     refine ae.nil (Fin.ah ?_)
     exact Fin.join [0,1,5,6] [103] x_7 (Option.some.inj h7) rfl
    ·refine ab.skip (Fin.ah ?_)
     exact Fin.join [0,1,5,6] [103] l_2 (Option.some.inj h7) rfl
   ·rintro l_5 hv
    subst v6
    refine ab.aa (Oc om (Oc (aV rfl rfl) (Oc oa ?_)))
    refine ae.nil ?_
    exact Fin.bx [0,1,5,6] [103] (l_5,IntKind.i64.wrap (i_3 + 1)) (Option.some.inj h4) rfl
  ·refine ab.exit (Fin.ai ?_)
   obtain rfl:=hy5 _ (Option.some.inj h4).symm
   refine Fin.ai (Fin.ay ?_)
   exact Fin.join [0,1,5] [103] l_2 rfl rfl
 ·rintro l_1 hv
  subst v1
  obtain ⟨v10,h11,h⟩:=aF h
  refine ab.bS (v:=v10) (fun (l_8:List (List Int))=>⟨[(5,.b (.row 103))],[(103,.row 30 1 (l_8.map (eL 1 eI)))]⟩) (fun z=>z) ?_ ?_
  ·refine ab.seq (ab.aa ?_)
   refine Oc oa (ae.af ⟨[(0,_),(1,_),(5,_),(7,I 0)],[(103,_)]⟩ rfl (ab.block (ab.bZ h11 (cr fun (l_9:List (List Int)) (i_10:Int)=>⟨[(0,.b (.one (.sl 1 (fixed0.map eB)))),(1,.b (.one (.sl 2 (links0.map (bX .i64))))),(5,.b (.row 103)),(7,I i_10)],[(103,.row 30 1 (l_9.map (eL 1 eI)))]⟩) [0,1,5,7] [103] rfl ?_)))
   rintro ⟨l_9,i_10⟩ o12 h13 hy14
   refine ab.seq (ab.seq (ab.aa ?_))
   refine Oc om (Oc om (Oc (aq nn rfl (List.length_map _)) (Oc (a8 rfl rfl) ?_)))
   refine ae.af ⟨[(0,_),(1,_),(5,_),(7,_),(27,B (decide (i_10 < (links0.length:Int))))],[(103,_)]⟩ rfl (ab.ite h13 rfl (fun _ h13=>?_) (fun _ h13=>?_))
   ·refine ab.skip (Fin.ag ⟨[(0,_),(1,_),(5,_),(7,_)],[(103,_)]⟩ rfl (Fin.then ?_))
    obtain ⟨v15,h16,h13⟩:=aF h13
    refine ab.bS (v:=v15) (fun (l_12:List (List Int))=>⟨[(0,.b (.one (.sl 1 (fixed0.map eB)))),(1,.b (.one (.sl 2 (links0.map (bX .i64))))),(5,.b (.row 103)),(7,I i_10)],[(103,.row 30 1 (l_12.map (eL 1 eI)))]⟩) (fun z=>z) ?_ ?_
    ·refine ab.block (ab.seq (ab.aa ?_))
     refine Oc om (Oc om (Oc om ?_))
     obtain ⟨x_13,e17,h16⟩:=aF h16
     refine Oc (az dq (aE e17) (aC (e:=(bX .i64)) e17) rfl rfl) (Oc (cO dD (by decide) (by decide) rfl rfl rfl) (Oc (aw aA rfl rfl) ?_))
     obtain ⟨x_14,e18,h16⟩:=aF h16
     refine Oc (az fR (aE e18) (aC (e:=eB) e18) rfl rfl) (ae.ag ⟨[(0,_),(1,_),(5,_),(7,_),(36,.b (.cI [.bool x_14]))],[(103,_)]⟩ rfl (Oc (aw hZ rfl rfl) (Oc (c4 rfl) (Oc om ?_))))
     refine c6 (!x_14) [] (fun g19=>trivial) (fun g19=>om) (c6 (!x_14) [] (fun g20=>by exact trivial) (fun g20=>om) (c6 (!x_14) [] (fun g21=>by exact trivial) (fun g21=>om) ?_))
     obtain ⟨x_15,e23,h16⟩:=aF h16
     refine c6 (!x_14) [41,42] (fun g22=>⟨g22,g22,trivial⟩) (fun g22=>az dq (aE (gc e23 g22)) (aC (e:=(bX .i64)) (gc e23 g22)) rfl rfl) (c6 (!x_14) [43] (fun g24=>⟨g24,trivial⟩) (fun g24=>cO dD (by decide) (by decide) rfl rfl rfl) (ae.ag ⟨[(0,_),(1,_),(5,_),(7,_),(39,B (!x_14)),(40,.opt (!x_14) (.one (.sl 1 (fixed0.map eB)))),(44,.opt (!x_14) (.cI [.i x_15.a1]))],[(103,_)]⟩ rfl (c6 (!x_14) [44] (fun g25=>⟨g25,trivial⟩) (fun g25=>aw aA rfl rfl) ?_)))
     obtain ⟨x_16,e27,h16⟩:=aF h16
     refine c6 (!x_14) [40,45] (fun g26=>⟨g26,g26,trivial⟩) (fun g26=>az fR (aE (gc e27 g26)) (aC (e:=eB) (gc e27 g26)) rfl rfl) (c6 (!x_14) [46] (fun g28=>⟨g28,trivial⟩) (fun g28=>aw hZ rfl rfl) (c6 (!x_14) [47] (fun g29=>⟨g29,trivial⟩) (fun g29=>c4 rfl) (Oc (aO (fun e=>e) rfl rfl rfl rfl) (ae.af ⟨[(0,_),(1,_),(5,_),(7,_),(49,B ((!x_14) && (!x_16)))],[(103,_)]⟩ rfl (ab.ite h16 rfl (fun _ h16=>?_) (fun _ h16=>?_))))))
     ·refine ab.ag ⟨[(0,_),(1,_),(5,_),(7,_)],[(103,_)]⟩ rfl ?_
      obtain ⟨x_17,e30,h16⟩:=aF h16
      obtain ⟨x_18,e31,h16⟩:=aF h16
      obtain ⟨x_19,e32,h16⟩:=aF h16
      refine ab.ky mixed 13 [.b (.row 103),.b (.one (.sl 2 (links0.map (bX .i64)))),I i_10,.b (.cI ((bX .i64) x_17)),.b (.cI [.i x_17.a0]),I x_17.a0,.b (.one (.sl 2 (links0.map (bX .i64)))),I i_10,.b (.cI ((bX .i64) x_18)),.b (.cI [.i x_18.a1]),I x_18.a1,.b (.one (.sl 1 ([x_17.a0,x_18.a1].map eI))),.b (.one (.sl 1 ([[x_17.a0,x_18.a1]].map (eL 1 eI))))] [0,1,5,7] [103] (s':=⟨[(0,_),(1,_),(5,_),(7,_)],[(103,.row 30 1 (x_19.map (eL 1 eI)))]⟩) rfl ⟨fun _=>.p om,fun _=>.p om,fun _=>.p om,fun _=>.p (az dq (aE e30) (aC (e:=(bX .i64)) e30) rfl rfl),fun _=>.p (cO dD (by decide) (by decide) rfl rfl rfl),fun _=>.p (aw aA rfl rfl),fun _=>.p om,fun _=>.p om,fun _=>.p (az dq (aE e31) (aC (e:=(bX .i64)) e31) rfl rfl),fun _=>.p (cO dD (by decide) (by decide) rfl rfl rfl),fun _=>.p (aw aA rfl rfl),fun _=>.p (cf (es:=[x_17.a0,x_18.a1].map eI) ak rfl rfl (aW fun _=>rfl) rfl (by decide) (by decide)),fun _=>.p (cf (es:=[[x_17.a0,x_18.a1]].map (eL 1 eI)) bP rfl rfl (aW fun _=>rfl) rfl (by decide) (by decide)),trivial⟩ ⟨_,by exact .p (k7 bP (dy e32) (dx e32) rfl rfl rfl (bT e32) rfl),⟨_,by exact .p oa,rfl⟩⟩ rfl (Fin.ah ?_)
      exact Fin.join [0,1,5,7] [103] x_19 (Option.some.inj h16) rfl
     ·refine ab.skip (Fin.ah ?_)
      exact Fin.join [0,1,5,7] [103] l_9 (Option.some.inj h16) rfl
    ·rintro l_12 hv
     subst v15
     refine ab.aa (Oc om (Oc (aV rfl rfl) (Oc oa ?_)))
     refine ae.nil ?_
     exact Fin.bx [0,1,5,7] [103] (l_12,IntKind.i64.wrap (i_10 + 1)) (Option.some.inj h13) rfl
   ·refine ab.exit (Fin.ai ?_)
    obtain rfl:=hy14 _ (Option.some.inj h13).symm
    refine Fin.ai (Fin.ay ?_)
    exact Fin.join [5] [103] l_9 rfl rfl
  ·rintro l_8 hv
   subst v10
   refine ab.seq (ab.aa ?_)
   refine Oc om (ae.bE 103 rfl ?_)
   obtain ⟨x_20,e33,h⟩:=aF h
   refine Oc (bh (ja 108 e33) goes26 rfl trivial rfl rfl) (Oc oa ?_)
   refine ae.af ⟨[(4,.b (.row 108))],[(108,.row 30 1 (x_20.map (eL 1 eI)))]⟩ rfl (ab.ret ?_)
   obtain rfl:=Option.some.inj h
   refine Fin.ag ⟨[(4,_)],[(108,_)]⟩ rfl (Fin.iI 108 kr0 [.row 108] (.inl rfl) rfl (.cons (.tmp rfl) .nil) rfl rfl rfl rfl ⟨rfl,rfl⟩)
def bR (F:Nat) (fixed0:List Bool) (links0:List A2):Option jd :=
 (bI F fixed0 links0).bind fun x_1=>if (!x_1) = true then (some (⟨[],1⟩:jd)) else (Option.bind (iter F (cr fun out_3 i_4=>if (decide (i_4 < (links0.length:Int))) = true then (Option.bind ((aM links0 i_4).bind fun x_7=>(aM fixed0 x_7.a0).bind fun x_8=>(c3 (!x_8) (aM links0 i_4)).bind fun x_9=>(c3 (!x_8) (aM fixed0 x_9.a1)).bind fun x_10=>if (x_8 || x_10) = true then (some out_3) else ((np links0 (IntKind.i64.wrap (i_4 + 1))).bind fun x_11=>(aU F fixed0 x_11).bind fun x_12=>(np links0 i_4).bind fun x_13=>(aU F fixed0 x_13).bind fun x_14=>if (decide ((x_12.length:Int) < (x_14.length:Int))) = true then ((dF out_3 [i_4]).bind fun x_15=>some x_15) else (some out_3))) (fun out_6=>some (.inl (out_6,IntKind.i64.wrap (i_4 + 1))))) else (some (.inr out_3))) ([],0)) (fun out_2=>some (⟨out_2,0⟩:jd)))
theorem iE {F:Nat} {fixed0:List Bool} {links0:List A2} {r:jd} (h:bR F fixed0 links0 = some r):ar Try.prog [] 23 [] [.one (.sl 1 (fixed0.map eB)),.one (.sl 2 (links0.map (bX .i64)))] (Is [] (.b (.agg (mS r)))):=by
 unfold bR at h
 refine ar.intro 58 Try.func23 Try.ntmps23 rfl (by simp) fun E=>?_
 show ab _ E ⟨58,[],[],[]⟩ _ ⟨[(0,.b (.one (.sl 1 (fixed0.map eB)))),(1,.b (.one (.sl 2 (links0.map (bX .i64)))))],[]⟩ _
 refine ab.seq (ab.aa ?_)
 refine Oc (bf (k:=101) jf rfl) (ae.af ⟨[(0,.b (.one (.sl 1 (fixed0.map eB)))),(1,.b (.one (.sl 2 (links0.map (bX .i64))))),(4,Pt 101 0)],[(101,.box 37 [.nil,.i 0])]⟩ rfl (ab.seq (ab.aa ?_)))
 refine Oc om (Oc om ?_)
 obtain ⟨x_1,e1,h⟩:=aF h
 refine Oc (aJ (dQ e1) qW rfl rfl) (Oc oa ?_)
 refine ae.af ⟨[(0,_),(1,_),(4,_),(5,B x_1)],[(101,_)]⟩ rfl (ab.seq (ab.seq (ab.aa ?_)))
 refine Oc om (Oc (c4 rfl) ?_)
 refine ae.af ⟨[(0,_),(1,_),(4,_),(12,B (!x_1))],[(101,_)]⟩ rfl (ab.ite h rfl (fun _ h=>?_) (fun _ h=>?_))
 ·refine ab.seq (ab.aa ?_)
  refine Oc (bD.sL (.sl (size:=1) (by decide) (.same (.nil))) (gC gZ rfl rfl)) (Oc (df eh rfl rfl rfl rfl (Nat.le_of_ble_eq_true rfl) rfl) ?_)
  refine ae.af ⟨[(4,_)],[(101,.box 37 [.sl 1 ([].map eI),.i 1])]⟩ rfl (ab.ret (Fin.aR ?_))
  obtain rfl:=Option.some.inj h
  refine Fin.ag ⟨[(4,_)],[(101,_)]⟩ rfl (Fin.aP [.agg [.sl 1 ([].map eI),.i 1]] (.inl rfl) rfl (.cons (.agg eh rfl rfl rfl rfl) .nil) ⟨rfl,rfl⟩)
 ·refine ab.skip (Fin.ag ⟨[(0,_),(1,_),(4,_)],[(101,_)]⟩ rfl (Fin.then (ab.seq (ab.aa ?_))))
  refine Oc oa (ae.af ⟨[(0,_),(1,_),(4,_),(6,.b (.one (.nil)))],[(101,_)]⟩ rfl ?_)
  obtain ⟨v2,h3,h⟩:=aF h
  refine ab.bS (v:=v2) (fun (out_2:List Int)=>⟨[(4,Pt 101 0),(6,.b (.row 105))],[(101,.box 37 [.nil,.i 0]),(105,.row 3 1 (out_2.map eI))]⟩) (fun z=>z) ?_ ?_
  ·refine ab.seq (ab.aa ?_)
   refine Oc oa (ae.af ⟨[(0,_),(1,_),(4,_),(6,_),(7,I 0)],[(101,_)]⟩ rfl (ab.block (ab.de 6 105 1 3 rfl (by decide) rfl (ab.bZ h3 (cr fun (out_3:List Int) (i_4:Int)=>⟨[(0,.b (.one (.sl 1 (fixed0.map eB)))),(1,.b (.one (.sl 2 (links0.map (bX .i64))))),(4,Pt 101 0),(6,.b (.row 105)),(7,I i_4)],[(101,.box 37 [.nil,.i 0]),(105,.row 3 1 (out_3.map eI))]⟩) [0,1,4,6,7] [101,105] rfl ?_))))
   rintro ⟨out_3,i_4⟩ o4 h5 hy6
   refine ab.seq (ab.seq (ab.aa ?_))
   refine Oc om (Oc om (Oc (aq nn rfl (List.length_map _)) (Oc (a8 rfl rfl) ?_)))
   refine ae.af ⟨[(0,_),(1,_),(4,_),(6,_),(7,_),(17,B (decide (i_4 < (links0.length:Int))))],[(101,_),(105,_)]⟩ rfl (ab.ite h5 rfl (fun _ h5=>?_) (fun _ h5=>?_))
   ·refine ab.skip (Fin.ag ⟨[(0,_),(1,_),(4,_),(6,_),(7,_)],[(101,_),(105,_)]⟩ rfl (Fin.then ?_))
    obtain ⟨v7,h8,h5⟩:=aF h5
    refine ab.bS (v:=v7) (fun (out_6:List Int)=>⟨[(0,.b (.one (.sl 1 (fixed0.map eB)))),(1,.b (.one (.sl 2 (links0.map (bX .i64))))),(4,Pt 101 0),(6,.b (.row 105)),(7,I i_4)],[(101,.box 37 [.nil,.i 0]),(105,.row 3 1 (out_6.map eI))]⟩) (fun z=>z) ?_ ?_
    ·refine ab.block (ab.seq (ab.seq (ab.aa ?_)))
     refine Oc om (Oc om (Oc om ?_))
     obtain ⟨x_7,e9,h8⟩:=aF h8
     refine Oc (az dq (aE e9) (aC (e:=(bX .i64)) e9) rfl rfl) (Oc (cO dD (by decide) (by decide) rfl rfl rfl) (Oc (aw aA rfl rfl) ?_))
     obtain ⟨x_8,e10,h8⟩:=aF h8
     refine Oc (az fR (aE e10) (aC (e:=eB) e10) rfl rfl) (ae.ag ⟨[(0,_),(1,_),(4,_),(6,_),(7,_),(26,.b (.cI [.bool x_8]))],[(101,_),(105,_)]⟩ rfl (Oc (aw hZ rfl rfl) (Oc om ?_)))
     refine jx (!x_8) [] (fun g11=>trivial) (fun g11=>om) (jx (!x_8) [] (fun g12=>by exact trivial) (fun g12=>om) (jx (!x_8) [] (fun g13=>by exact trivial) (fun g13=>om) ?_))
     obtain ⟨x_9,e15,h8⟩:=aF h8
     refine jx (!x_8) [30,31] (fun g14=>⟨g14,g14,trivial⟩) (fun g14=>az dq (aE (gc e15 g14)) (aC (e:=(bX .i64)) (gc e15 g14)) rfl rfl) (jx (!x_8) [32] (fun g16=>⟨g16,trivial⟩) (fun g16=>cO dD (by decide) (by decide) rfl rfl rfl) (jx (!x_8) [33] (fun g17=>⟨g17,trivial⟩) (fun g17=>aw aA rfl rfl) (ae.ag ⟨[(0,_),(1,_),(4,_),(6,_),(7,_),(28,B x_8),(29,.opt (!x_8) (.one (.sl 1 (fixed0.map eB)))),(34,.opt (!x_8) (.one (.i x_9.a1)))],[(101,_),(105,_)]⟩ rfl ?_)))
     obtain ⟨x_10,e19,h8⟩:=aF h8
     refine jx (!x_8) [29,34] (fun g18=>⟨g18,g18,trivial⟩) (fun g18=>az fR (aE (gc e19 g18)) (aC (e:=eB) (gc e19 g18)) rfl rfl) (jx (!x_8) [35] (fun g20=>⟨g20,trivial⟩) (fun g20=>aw hZ rfl rfl) (Oc (er (fun e=>by first | (rw [e]; rfl) | (simp only at e; rw [e]; rfl)) rfl rfl rfl rfl) (ae.af ⟨[(0,_),(1,_),(4,_),(6,_),(7,_),(37,B (x_8 || x_10))],[(101,_),(105,_)]⟩ rfl (ab.ite h8 rfl (fun _ h8=>?_) (fun _ h8=>?_)))))
     ·refine ab.exit (Fin.ai (Fin.ay ?_))
      exact Fin.join [0,1,4,6,7] [101,105] out_3 (Option.some.inj h8) rfl
     ·refine ab.skip (Fin.ag ⟨[(0,_),(1,_),(4,_),(6,_),(7,_)],[(101,_),(105,_)]⟩ rfl (Fin.then (ab.seq ?_)))
      refine ab.ag ⟨[(0,_),(1,_),(4,_),(6,_),(7,_)],[(101,_),(105,_)]⟩ rfl ?_
      obtain ⟨x_11,e21,h8⟩:=aF h8
      obtain ⟨x_12,e22,h8⟩:=aF h8
      obtain ⟨x_13,e23,h8⟩:=aF h8
      obtain ⟨x_14,e24,h8⟩:=aF h8
      refine ab.en mixed 14 [.b (.one (.sl 1 (fixed0.map eB))),.b (.one (.sl 2 (links0.map (bX .i64)))),I i_4,I (IntKind.i64.wrap (i_4 + 1)),.b (.one (.sl 2 (x_11.map (bX .i64)))),.b (.one (.sl 1 (x_12.map (eL 1 eI)))),I (x_12.length:Int),.b (.one (.sl 1 (fixed0.map eB))),.b (.one (.sl 2 (links0.map (bX .i64)))),I i_4,.b (.one (.sl 2 (x_13.map (bX .i64)))),.b (.one (.sl 1 (x_14.map (eL 1 eI)))),I (x_14.length:Int),B (decide ((x_12.length:Int) < (x_14.length:Int)))] [0,1,4,6,7,51] [101,105] (s':=⟨[(0,_),(1,_),(4,_),(6,_),(7,_),(51,B (decide ((x_12.length:Int) < (x_14.length:Int))))],[(101,_),(105,_)]⟩) rfl ⟨fun _=>.p om,fun _=>.p om,fun _=>.p om,fun _=>.p (aV rfl rfl),fun _=>.p (kG dq e21 rfl rfl),fun _=>.p (aJ (bO 0 e22).sP mQ rfl rfl),fun _=>.p (aq gg rfl (List.length_map _)),fun _=>.p om,fun _=>.p om,fun _=>.p om,fun _=>.p (kG dq e23 rfl rfl),fun _=>.p (aJ (bO 0 e24).sP mQ rfl rfl),fun _=>.p (aq gg rfl (List.length_map _)),fun _=>.p (a8 rfl rfl),trivial⟩ rfl rfl (ab.ite h8 rfl (fun _ h8=>?_) (fun _ h8=>?_))
      ·refine ab.aa (Oc om (Oc om (Oc (ax (k:=108) (es:=[i_4].map eI) ak rfl rfl (aW fun _=>rfl) rfl (by decide) (by decide) rfl) ?_)))
       obtain ⟨x_15,e25,h8⟩:=aF h8
       refine Oc (bu ak (dy e25) (dx e25) rfl rfl rfl rfl (bT e25) rfl) (Oc oa ?_)
       refine ae.nil (Fin.ah ?_)
       exact Fin.join [0,1,4,6,7] [101,105] x_15 (Option.some.inj h8) rfl
      ·refine ab.skip (Fin.ah ?_)
       exact Fin.join [0,1,4,6,7] [101,105] out_3 (Option.some.inj h8) rfl
    ·rintro out_6 hv
     subst v7
     refine ab.aa (Oc om (Oc (aV rfl rfl) (Oc oa ?_)))
     refine ae.nil ?_
     exact Fin.bx [0,1,4,6,7] [101,105] (out_6,IntKind.i64.wrap (i_4 + 1)) (Option.some.inj h5) rfl
   ·refine ab.exit (Fin.ai ?_)
    obtain rfl:=hy6 _ (Option.some.inj h5).symm
    refine Fin.ai (Fin.ay ?_)
    exact Fin.join [4,6] [101,105] out_3 rfl rfl
  ·rintro out_2 hv
   subst v2
   refine ab.seq (ab.aa ?_)
   refine Oc om (ae.bE 105 rfl (Oc (gC gZ rfl rfl) (Oc (df eh rfl rfl rfl rfl (Nat.le_of_ble_eq_true rfl) rfl) ?_)))
   refine ae.af ⟨[(4,Pt 101 0)],[(101,.box 37 [.sl 1 (out_2.map eI),.i 0])]⟩ rfl (ab.ret ?_)
   obtain rfl:=Option.some.inj h
   refine Fin.ag ⟨[(4,_)],[(101,_)]⟩ rfl (Fin.aP [.agg [.sl 1 (out_2.map eI),.i 0]] (.inl rfl) rfl (.cons (.agg eh rfl rfl rfl rfl) .nil) ⟨rfl,rfl⟩)
def cg (F:Nat) (fixed0:List Bool) (links0:List A2):Option jd :=
 (bI F fixed0 links0).bind fun x_1=>if (!x_1) = true then (some (⟨[],1⟩:jd)) else ((aU F fixed0 links0).bind fun x_2=>Option.bind (iter F (cr fun out_4 i_5=>if (decide (i_5 < (x_2.length:Int))) = true then (Option.bind (Option.bind (iter F (cr fun out_8 k_9=>(aM x_2 i_5).bind fun x_11=>if (decide (k_9 < (x_11.length:Int))) = true then (Option.bind ((aM x_2 i_5).bind fun x_13=>(aM x_13 k_9).bind fun x_14=>(dF [] fixed0).bind fun x_15=>(aM x_15 x_14).bind fun x_16=>(aM x_2 i_5).bind fun x_17=>(c3 (decide (1 < (x_17.length:Int))) (aU F (x_15.set (x_14:Int).toNat true) links0)).bind fun x_18=>fM ((decide (1 < (x_17.length:Int))) && (decide ((x_2.length:Int) < (x_18.length:Int)))) fun x_19=>if x_19 = true then ((cG F out_8 x_14).bind fun x_20=>some x_20) else (some out_8)) (fun out_12=>some (.inl (out_12,IntKind.i64.wrap (k_9 + 1))))) else (some (.inr out_8))) (out_4,0)) (fun out_10=>some out_10)) (fun out_7=>some (.inl (out_7,IntKind.i64.wrap (i_5 + 1))))) else (some (.inr out_4))) ([],0)) (fun out_3=>some (⟨out_3,0⟩:jd)))
theorem jv {F:Nat} {fixed0:List Bool} {links0:List A2} {r:jd} (h:cg F fixed0 links0 = some r):ar Try.prog [] 24 [] [.one (.sl 1 (fixed0.map eB)),.one (.sl 2 (links0.map (bX .i64)))] (Is [] (.b (.agg (mS r)))):=by
 unfold cg at h
 refine ar.intro 69 Try.func24 Try.ntmps24 rfl (by simp) fun E=>?_
 show ab _ E ⟨69,[],[],[]⟩ _ ⟨[(0,.b (.one (.sl 1 (fixed0.map eB)))),(1,.b (.one (.sl 2 (links0.map (bX .i64)))))],[]⟩ _
 refine ab.seq (ab.aa ?_)
 refine Oc (bf (k:=101) jf rfl) (ae.af ⟨[(0,.b (.one (.sl 1 (fixed0.map eB)))),(1,.b (.one (.sl 2 (links0.map (bX .i64))))),(4,Pt 101 0)],[(101,.box 37 [.nil,.i 0])]⟩ rfl (ab.seq (ab.aa ?_)))
 refine Oc om (Oc om ?_)
 obtain ⟨x_1,e1,h⟩:=aF h
 refine Oc (aJ (dQ e1) qW rfl rfl) (Oc oa ?_)
 refine ae.af ⟨[(0,_),(1,_),(4,_),(5,B x_1)],[(101,_)]⟩ rfl (ab.seq (ab.seq (ab.aa ?_)))
 refine Oc om (Oc (c4 rfl) ?_)
 refine ae.af ⟨[(0,_),(1,_),(4,_),(16,B (!x_1))],[(101,_)]⟩ rfl (ab.ite h rfl (fun _ h=>?_) (fun _ h=>?_))
 ·refine ab.seq (ab.aa ?_)
  refine Oc (bD.sL (.sl (size:=1) (by decide) (.same (.nil))) (gC gZ rfl rfl)) (Oc (df eh rfl rfl rfl rfl (Nat.le_of_ble_eq_true rfl) rfl) ?_)
  refine ae.af ⟨[(4,_)],[(101,.box 37 [.sl 1 ([].map eI),.i 1])]⟩ rfl (ab.ret (Fin.aR ?_))
  obtain rfl:=Option.some.inj h
  refine Fin.ag ⟨[(4,_)],[(101,_)]⟩ rfl (Fin.aP [.agg [.sl 1 ([].map eI),.i 1]] (.inl rfl) rfl (.cons (.agg eh rfl rfl rfl rfl) .nil) ⟨rfl,rfl⟩)
 ·refine ab.skip (Fin.ag ⟨[(0,_),(1,_),(4,_)],[(101,_)]⟩ rfl (Fin.then (ab.seq (ab.aa ?_))))
  refine Oc om (Oc om ?_)
  obtain ⟨x_2,e2,h⟩:=aF h
  refine Oc (bh (bO 102 e2) mQ rfl trivial rfl rfl) (Oc oa ?_)
  refine ae.af ⟨[(0,_),(1,_),(4,_),(6,.b (.row 102))],[(101,_),(102,.row 30 1 (x_2.map (eL 1 eI)))]⟩ rfl (ab.seq (ab.aa ?_))
  refine Oc oa (ae.af ⟨[(0,_),(1,_),(4,_),(6,_),(7,.b (.one (.nil)))],[(101,_),(102,_)]⟩ rfl ?_)
  obtain ⟨v3,h4,h⟩:=aF h
  refine ab.bS (v:=v3) (fun (out_3:List Int)=>⟨[(4,Pt 101 0),(7,.b (.one (.sl 1 (out_3.map eI))))],[(101,.box 37 [.nil,.i 0])]⟩) (fun z=>z) ?_ ?_
  ·refine ab.seq (ab.aa ?_)
   refine Oc oa (ae.af ⟨[(0,_),(1,_),(4,_),(6,_),(7,_),(8,I 0)],[(101,_),(102,_)]⟩ rfl (ab.block (ab.iH 7 1 rfl (by decide) (ab.bZ h4 (cr fun (out_4:List Int) (i_5:Int)=>⟨[(0,.b (.one (.sl 1 (fixed0.map eB)))),(1,.b (.one (.sl 2 (links0.map (bX .i64))))),(4,Pt 101 0),(6,.b (.row 102)),(7,.b (.one (.sl 1 (out_4.map eI)))),(8,I i_5)],[(101,.box 37 [.nil,.i 0]),(102,.row 30 1 (x_2.map (eL 1 eI)))]⟩) [0,1,4,6,7,8] [101,102] rfl ?_))))
   rintro ⟨out_4,i_5⟩ o5 h6 hy7
   refine ab.seq (ab.seq (ab.aa ?_))
   refine Oc om (Oc om (Oc (dX gg rfl rfl (List.length_map _)) (Oc (a8 rfl rfl) ?_)))
   refine ae.af ⟨[(0,_),(1,_),(4,_),(6,_),(7,_),(8,_),(24,B (decide (i_5 < (x_2.length:Int))))],[(101,_),(102,_)]⟩ rfl (ab.ite h6 rfl (fun _ h6=>?_) (fun _ h6=>?_))
   ·refine ab.skip (Fin.ag ⟨[(0,_),(1,_),(4,_),(6,_),(7,_),(8,_)],[(101,_),(102,_)]⟩ rfl (Fin.then ?_))
    obtain ⟨v8,h9,h6⟩:=aF h6
    refine ab.bS (v:=v8) (fun (out_7:List Int)=>⟨[(0,.b (.one (.sl 1 (fixed0.map eB)))),(1,.b (.one (.sl 2 (links0.map (bX .i64))))),(4,Pt 101 0),(6,.b (.row 102)),(7,.b (.one (.sl 1 (out_7.map eI)))),(8,I i_5)],[(101,.box 37 [.nil,.i 0]),(102,.row 30 1 (x_2.map (eL 1 eI)))]⟩) (fun z=>z) ?_ ?_
    ·refine ab.block (ab.seq (ab.aa ?_))
     refine Oc oa (ae.af ⟨[(0,_),(1,_),(4,_),(6,_),(7,_),(8,_),(9,I 0)],[(101,_),(102,_)]⟩ rfl (ab.block ?_))
     obtain ⟨v10,h11,h9⟩:=aF h9
     refine ab.bZ h11 (cr fun (out_8:List Int) (k_9:Int)=>⟨[(0,.b (.one (.sl 1 (fixed0.map eB)))),(1,.b (.one (.sl 2 (links0.map (bX .i64))))),(4,Pt 101 0),(6,.b (.row 102)),(7,.b (.one (.sl 1 (out_8.map eI)))),(8,I i_5),(9,I k_9)],[(101,.box 37 [.nil,.i 0]),(102,.row 30 1 (x_2.map (eL 1 eI)))]⟩) [0,1,4,6,7,8,9] [101,102] rfl ?_
     rintro ⟨out_8,k_9⟩ o12 h13 hy14
     refine ab.seq (ab.seq (ab.aa ?_))
     refine Oc om (Oc om (Oc om ?_))
     obtain ⟨x_11,e15,h13⟩:=aF h13
     refine Oc (au bP (aE e15) (aY e15) rfl rfl rfl rfl) (Oc (aK (i:=(i_5:Int).toNat) (f:=0) aS rfl rfl rfl (aC (e:=(eL 1 eI)) e15) rfl) (Oc (aq fO rfl (List.length_map _)) (Oc (a8 rfl rfl) ?_)))
     refine ae.af ⟨[(0,_),(1,_),(4,_),(6,_),(7,_),(8,_),(9,_),(33,B (decide (k_9 < (x_11.length:Int))))],[(101,_),(102,_)]⟩ rfl (ab.ite h13 rfl (fun _ h13=>?_) (fun _ h13=>?_))
     ·refine ab.skip (Fin.ag ⟨[(0,_),(1,_),(4,_),(6,_),(7,_),(8,_),(9,_)],[(101,_),(102,_)]⟩ rfl (Fin.then ?_))
      obtain ⟨v16,h17,h13⟩:=aF h13
      refine ab.bS (v:=v16) (fun (out_12:List Int)=>⟨[(0,.b (.one (.sl 1 (fixed0.map eB)))),(1,.b (.one (.sl 2 (links0.map (bX .i64))))),(4,Pt 101 0),(6,.b (.row 102)),(7,.b (.one (.sl 1 (out_12.map eI)))),(8,I i_5),(9,I k_9)],[(101,.box 37 [.nil,.i 0]),(102,.row 30 1 (x_2.map (eL 1 eI)))]⟩) (fun z=>z) ?_ ?_
      ·refine ab.block (ab.seq (ab.aa ?_))
       refine Oc om (Oc om ?_)
       obtain ⟨x_13,e18,h17⟩:=aF h17
       refine Oc (au bP (aE e18) (aY e18) rfl rfl rfl rfl) (Oc (aK (i:=(i_5:Int).toNat) (f:=0) aS rfl rfl rfl (aC (e:=(eL 1 eI)) e18) rfl) (Oc om ?_))
       obtain ⟨x_14,e19,h17⟩:=aF h17
       refine Oc (az ak (aE e19) (aC (e:=eI) e19) rfl rfl) (Oc (aw aA rfl rfl) (Oc oa ?_))
       refine ae.af ⟨[(0,_),(1,_),(4,_),(6,_),(7,_),(8,_),(9,_),(10,I x_14)],[(101,_),(102,_)]⟩ rfl (ab.seq (ab.aa ?_))
       refine Oc (oS (k:=103) fR rfl) (Oc om ?_)
       obtain ⟨x_15,e20,h17⟩:=aF h17
       refine Oc (k7 fR (dy e20) (dx e20) rfl rfl rfl (bT e20) rfl) (Oc oa ?_)
       refine ae.af ⟨[(0,_),(1,_),(4,_),(6,_),(7,_),(8,_),(9,_),(10,_),(11,.b (.row 103))],[(101,_),(102,_),(103,.row 4 1 (x_15.map eB))]⟩ rfl (ab.seq (ab.aa ?_))
       refine Oc om (Oc om ?_)
       obtain ⟨x_16,e21,h17⟩:=aF h17
       refine Oc (au fR (aE e21) (aY e21) rfl rfl rfl rfl) (Oc (bV (i:=(x_14:Int).toNat) hZ rfl rfl rfl rfl (fE e21) (map_set _ _ _ _)) ?_)
       refine ae.af ⟨[(0,_),(1,_),(4,_),(6,_),(7,_),(8,_),(9,_),(10,_),(11,_)],[(101,_),(102,_),(103,.row 4 1 ((x_15.set (x_14:Int).toNat true).map eB))]⟩ rfl (ab.seq (ab.aa ?_))
       refine ae.bE 103 rfl (Oc om (Oc om ?_))
       obtain ⟨x_17,e22,h17⟩:=aF h17
       refine Oc (au bP (aE e22) (aY e22) rfl rfl rfl rfl) (Oc (aK (i:=(i_5:Int).toNat) (f:=0) aS rfl rfl rfl (aC (e:=(eL 1 eI)) e22) rfl) (Oc (aq fO rfl (List.length_map _)) (Oc (fg rfl rfl) ?_)))
       refine ae.ag ⟨[(0,.b (.one (.sl 1 (fixed0.map eB)))),(1,.b (.one (.sl 2 (links0.map (bX .i64))))),(4,Pt 101 0),(6,.b (.row 102)),(7,.b (.one (.sl 1 (out_8.map eI)))),(8,I i_5),(9,I k_9),(10,I x_14),(11,.b (.one (.sl 1 ((x_15.set (x_14:Int).toNat true).map eB)))),(54,B (decide (1 < (x_17.length:Int))))],[(101,.box 37 [.nil,.i 0]),(102,.row 30 1 (x_2.map (eL 1 eI)))]⟩ rfl (Oc om (c6 (decide (1 < (x_17.length:Int))) [] (fun g23=>by exact trivial) (fun g23=>om) (c6 (decide (1 < (x_17.length:Int))) [] (fun g24=>by exact trivial) (fun g24=>om) ?_)))
       obtain ⟨x_18,e26,h17⟩:=aF h17
       refine c6 (decide (1 < (x_17.length:Int))) [56,57] (fun g25=>⟨g25,g25,trivial⟩) (fun g25=>aJ (bO 0 (gc e26 g25)).sP mQ rfl rfl) (c6 (decide (1 < (x_17.length:Int))) [58] (fun g27=>⟨g27,trivial⟩) (fun g27=>aq gg rfl (List.length_map _)) (ae.ag ⟨[(0,_),(1,_),(4,_),(6,_),(7,_),(8,_),(9,_),(10,_),(55,B (decide (1 < (x_17.length:Int)))),(59,.opt (decide (1 < (x_17.length:Int))) (.one (.i (x_18.length:Int))))],[(101,_),(102,_)]⟩ rfl (c6 (decide (1 < (x_17.length:Int))) [] (fun g28=>trivial) (fun g28=>om) (c6 (decide (1 < (x_17.length:Int))) [60] (fun g29=>by exact ⟨g29,trivial⟩) (fun g29=>dX gg rfl rfl (List.length_map _)) (c6 (decide (1 < (x_17.length:Int))) [59,61] (fun g30=>by exact ⟨g30,g30,trivial⟩) (fun g30=>fg rfl rfl) ?_)))))
       refine ae.kg h17 rfl (aO (fun e=>e) rfl rfl rfl rfl) (fun x_19 h17=>?_)
       refine ae.af ⟨[(0,_),(1,_),(4,_),(6,_),(7,_),(8,_),(9,_),(10,_),(63,B x_19)],[(101,_),(102,_)]⟩ rfl (ab.ite h17 rfl (fun _ h17=>?_) (fun _ h17=>?_))
       ·refine ab.aa (Oc om (Oc om ?_))
        obtain ⟨x_20,e31,h17⟩:=aF h17
        refine Oc (aJ (fL e31) tr rfl rfl) (Oc oa ?_)
        refine ae.nil (Fin.ah ?_)
        exact Fin.join [0,1,4,6,7,8,9] [101,102] x_20 (Option.some.inj h17) rfl
       ·refine ab.skip (Fin.ah ?_)
        exact Fin.join [0,1,4,6,7,8,9] [101,102] out_8 (Option.some.inj h17) rfl
      ·rintro out_12 hv
       subst v16
       refine ab.aa (Oc om (Oc (aV rfl rfl) (Oc oa ?_)))
       refine ae.nil ?_
       exact Fin.bx [0,1,4,6,7,8,9] [101,102] (out_12,IntKind.i64.wrap (k_9 + 1)) (Option.some.inj h13) rfl
     ·refine ab.exit (Fin.ai ?_)
      obtain rfl:=hy14 _ (Option.some.inj h13).symm
      refine Fin.ai (Fin.ay (Fin.ah ?_))
      exact Fin.join [0,1,4,6,7,8] [101,102] out_8 (Option.some.inj h9) rfl
    ·rintro out_7 hv
     subst v8
     refine ab.aa (Oc om (Oc (aV rfl rfl) (Oc oa ?_)))
     refine ae.nil ?_
     exact Fin.bx [0,1,4,6,7,8] [101,102] (out_7,IntKind.i64.wrap (i_5 + 1)) (Option.some.inj h6) rfl
   ·refine ab.exit (Fin.ai ?_)
    obtain rfl:=hy7 _ (Option.some.inj h6).symm
    refine Fin.ai (Fin.ay ?_)
    exact Fin.join [4,7] [101] out_4 rfl rfl
  ·rintro out_3 hv
   subst v3
   refine ab.seq (ab.aa ?_)
   refine Oc om (Oc (gC gZ rfl rfl) (Oc (df eh rfl rfl rfl rfl (Nat.le_of_ble_eq_true rfl) rfl) ?_))
   refine ae.af ⟨[(4,_)],[(101,.box 37 [.sl 1 (out_3.map eI),.i 0])]⟩ rfl (ab.ret ?_)
   obtain rfl:=Option.some.inj h
   refine Fin.ag ⟨[(4,_)],[(101,_)]⟩ rfl (Fin.aP [.agg [.sl 1 (out_3.map eI),.i 0]] (.inl rfl) rfl (.cons (.agg eh rfl rfl rfl rfl) .nil) ⟨rfl,rfl⟩)
def bN (F:Nat) (fixed0:List Bool) (links0:List A2):Option jd :=
 (bI F fixed0 links0).bind fun x_1=>if (!x_1) = true then (some (⟨[],1⟩:jd)) else ((aU F fixed0 links0).bind fun x_2=>Option.bind (iter F (cr fun out_4 i_5=>if (decide (i_5 < (links0.length:Int))) = true then (Option.bind ((np links0 i_5).bind fun x_8=>(dF [] x_8).bind fun x_9=>(lU links0 (IntKind.i64.wrap (i_5 + 1))).bind fun x_10=>(dF x_9 x_10).bind fun x_11=>(aU F fixed0 x_11).bind fun x_12=>if (decide ((x_2.length:Int) < (x_12.length:Int))) = true then ((dF out_4 [i_5]).bind fun x_13=>some x_13) else (some out_4)) (fun out_7=>some (.inl (out_7,IntKind.i64.wrap (i_5 + 1))))) else (some (.inr out_4))) ([],0)) (fun out_3=>some (⟨out_3,0⟩:jd)))
theorem iz {F:Nat} {fixed0:List Bool} {links0:List A2} {r:jd} (h:bN F fixed0 links0 = some r):ar Try.prog [] 25 [] [.one (.sl 1 (fixed0.map eB)),.one (.sl 2 (links0.map (bX .i64)))] (Is [] (.b (.agg (mS r)))):=by
 unfold bN at h
 refine ar.intro 49 Try.func25 Try.ntmps25 rfl (by simp) fun E=>?_
 show ab _ E ⟨49,[],[],[]⟩ _ ⟨[(0,.b (.one (.sl 1 (fixed0.map eB)))),(1,.b (.one (.sl 2 (links0.map (bX .i64)))))],[]⟩ _
 refine ab.seq (ab.aa ?_)
 refine Oc (bf (k:=101) jf rfl) (ae.af ⟨[(0,.b (.one (.sl 1 (fixed0.map eB)))),(1,.b (.one (.sl 2 (links0.map (bX .i64))))),(4,Pt 101 0)],[(101,.box 37 [.nil,.i 0])]⟩ rfl (ab.seq (ab.aa ?_)))
 refine Oc om (Oc om ?_)
 obtain ⟨x_1,e1,h⟩:=aF h
 refine Oc (aJ (dQ e1) qW rfl rfl) (Oc oa ?_)
 refine ae.af ⟨[(0,_),(1,_),(4,_),(5,B x_1)],[(101,_)]⟩ rfl (ab.seq (ab.seq (ab.aa ?_)))
 refine Oc om (Oc (c4 rfl) ?_)
 refine ae.af ⟨[(0,_),(1,_),(4,_),(14,B (!x_1))],[(101,_)]⟩ rfl (ab.ite h rfl (fun _ h=>?_) (fun _ h=>?_))
 ·refine ab.seq (ab.aa ?_)
  refine Oc (bD.sL (.sl (size:=1) (by decide) (.same (.nil))) (gC gZ rfl rfl)) (Oc (df eh rfl rfl rfl rfl (Nat.le_of_ble_eq_true rfl) rfl) ?_)
  refine ae.af ⟨[(4,_)],[(101,.box 37 [.sl 1 ([].map eI),.i 1])]⟩ rfl (ab.ret (Fin.aR ?_))
  obtain rfl:=Option.some.inj h
  refine Fin.ag ⟨[(4,_)],[(101,_)]⟩ rfl (Fin.aP [.agg [.sl 1 ([].map eI),.i 1]] (.inl rfl) rfl (.cons (.agg eh rfl rfl rfl rfl) .nil) ⟨rfl,rfl⟩)
 ·refine ab.skip (Fin.ag ⟨[(0,_),(1,_),(4,_)],[(101,_)]⟩ rfl (Fin.then (ab.seq (ab.aa ?_))))
  refine Oc om (Oc om ?_)
  obtain ⟨x_2,e2,h⟩:=aF h
  refine Oc (bh (bO 102 e2) mQ rfl trivial rfl rfl) (Oc (dX gg rfl rfl (List.length_map _)) (Oc oa ?_))
  refine ae.af ⟨[(0,_),(1,_),(4,_),(6,I (x_2.length:Int))],[(101,_)]⟩ rfl (ab.seq (ab.aa ?_))
  refine Oc oa (ae.af ⟨[(0,_),(1,_),(4,_),(6,_),(7,.b (.one (.nil)))],[(101,_)]⟩ rfl ?_)
  obtain ⟨v3,h4,h⟩:=aF h
  refine ab.bS (v:=v3) (fun (out_3:List Int)=>⟨[(4,Pt 101 0),(7,.b (.row 106))],[(101,.box 37 [.nil,.i 0]),(106,.row 3 1 (out_3.map eI))]⟩) (fun z=>z) ?_ ?_
  ·refine ab.seq (ab.aa ?_)
   refine Oc oa (ae.af ⟨[(0,_),(1,_),(4,_),(6,_),(7,_),(8,I 0)],[(101,_)]⟩ rfl (ab.block (ab.de 7 106 1 3 rfl (by decide) rfl (ab.bZ h4 (cr fun (out_4:List Int) (i_5:Int)=>⟨[(0,.b (.one (.sl 1 (fixed0.map eB)))),(1,.b (.one (.sl 2 (links0.map (bX .i64))))),(4,Pt 101 0),(6,I (x_2.length:Int)),(7,.b (.row 106)),(8,I i_5)],[(101,.box 37 [.nil,.i 0]),(106,.row 3 1 (out_4.map eI))]⟩) [0,1,4,6,7,8] [101,106] rfl ?_))))
   rintro ⟨out_4,i_5⟩ o5 h6 hy7
   refine ab.seq (ab.seq (ab.aa ?_))
   refine Oc om (Oc om (Oc (aq nn rfl (List.length_map _)) (Oc (a8 rfl rfl) ?_)))
   refine ae.af ⟨[(0,_),(1,_),(4,_),(6,_),(7,_),(8,_),(23,B (decide (i_5 < (links0.length:Int))))],[(101,_),(106,_)]⟩ rfl (ab.ite h6 rfl (fun _ h6=>?_) (fun _ h6=>?_))
   ·refine ab.skip (Fin.ag ⟨[(0,_),(1,_),(4,_),(6,_),(7,_),(8,_)],[(101,_),(106,_)]⟩ rfl (Fin.then ?_))
    obtain ⟨v8,h9,h6⟩:=aF h6
    refine ab.bS (v:=v8) (fun (out_7:List Int)=>⟨[(0,.b (.one (.sl 1 (fixed0.map eB)))),(1,.b (.one (.sl 2 (links0.map (bX .i64))))),(4,Pt 101 0),(6,I (x_2.length:Int)),(7,.b (.row 106)),(8,I i_5)],[(101,.box 37 [.nil,.i 0]),(106,.row 3 1 (out_7.map eI))]⟩) (fun z=>z) ?_ ?_
    ·refine ab.block (ab.seq (ab.aa ?_))
     refine Oc (oS (k:=107) dq rfl) (Oc om (Oc om ?_))
     obtain ⟨x_8,e10,h9⟩:=aF h9
     refine Oc (kG dq e10 rfl rfl) ?_
     obtain ⟨x_9,e11,h9⟩:=aF h9
     refine Oc (k7 dq (dy e11) (dx e11) rfl rfl rfl (bT e11) rfl) (Oc oa ?_)
     refine ae.af ⟨[(0,_),(1,_),(4,_),(6,_),(7,_),(8,_),(9,.b (.row 107))],[(101,_),(106,_),(107,.row 44 2 (x_9.map (bX .i64)))]⟩ rfl (ab.seq (ab.aa ?_))
     refine Oc om (Oc om (Oc om (Oc (aV rfl rfl) ?_)))
     obtain ⟨x_10,e12,h9⟩:=aF h9
     refine Oc (qA dq e12 rfl rfl) ?_
     obtain ⟨x_11,e13,h9⟩:=aF h9
     refine Oc (k7 dq (dy e13) (dx e13) rfl rfl rfl (bT e13) rfl) (Oc oa ?_)
     refine ae.af ⟨[(0,_),(1,_),(4,_),(6,_),(7,_),(8,_),(9,_)],[(101,_),(106,_),(107,.row 44 2 (x_11.map (bX .i64)))]⟩ rfl (ab.seq (ab.aa ?_))
     refine Oc om (Oc om ?_)
     refine ae.bE 107 rfl ?_
     obtain ⟨x_12,e14,h9⟩:=aF h9
     refine Oc (bh (bO 108 e14) mQ rfl trivial rfl rfl) (ae.ag ⟨[(0,.b (.one (.sl 1 (fixed0.map eB)))),(1,.b (.one (.sl 2 (links0.map (bX .i64))))),(4,Pt 101 0),(6,I (x_2.length:Int)),(7,.b (.row 106)),(8,I i_5),(39,.b (.row 108))],[(101,.box 37 [.nil,.i 0]),(106,.row 3 1 (out_4.map eI)),(108,.row 30 1 (x_12.map (eL 1 eI)))]⟩ rfl (Oc (dX gg rfl rfl (List.length_map _)) (Oc om (Oc (fg rfl rfl) ?_))))
     refine ae.af ⟨[(0,_),(1,_),(4,_),(6,_),(7,_),(8,_),(42,B (decide ((x_2.length:Int) < (x_12.length:Int))))],[(101,_),(106,_)]⟩ rfl (ab.ite h9 rfl (fun _ h9=>?_) (fun _ h9=>?_))
     ·refine ab.aa (Oc om (Oc om (Oc (ax (k:=109) (es:=[i_5].map eI) ak rfl rfl (aW fun _=>rfl) rfl (by decide) (by decide) rfl) ?_)))
      obtain ⟨x_13,e15,h9⟩:=aF h9
      refine Oc (bu ak (dy e15) (dx e15) rfl rfl rfl rfl (bT e15) rfl) (Oc oa ?_)
      refine ae.nil (Fin.ah ?_)
      exact Fin.join [0,1,4,6,7,8] [101,106] x_13 (Option.some.inj h9) rfl
     ·refine ab.skip (Fin.ah ?_)
      exact Fin.join [0,1,4,6,7,8] [101,106] out_4 (Option.some.inj h9) rfl
    ·rintro out_7 hv
     subst v8
     refine ab.aa (Oc om (Oc (aV rfl rfl) (Oc oa ?_)))
     refine ae.nil ?_
     exact Fin.bx [0,1,4,6,7,8] [101,106] (out_7,IntKind.i64.wrap (i_5 + 1)) (Option.some.inj h6) rfl
   ·refine ab.exit (Fin.ai ?_)
    obtain rfl:=hy7 _ (Option.some.inj h6).symm
    refine Fin.ai (Fin.ay ?_)
    exact Fin.join [4,7] [101,106] out_4 rfl rfl
  ·rintro out_3 hv
   subst v3
   refine ab.seq (ab.aa ?_)
   refine Oc om (ae.bE 106 rfl (Oc (gC gZ rfl rfl) (Oc (df eh rfl rfl rfl rfl (Nat.le_of_ble_eq_true rfl) rfl) ?_)))
   refine ae.af ⟨[(4,Pt 101 0)],[(101,.box 37 [.sl 1 (out_3.map eI),.i 0])]⟩ rfl (ab.ret ?_)
   obtain rfl:=Option.some.inj h
   refine Fin.ag ⟨[(4,_)],[(101,_)]⟩ rfl (Fin.aP [.agg [.sl 1 (out_3.map eI),.i 0]] (.inl rfl) rfl (.cons (.agg eh rfl rfl rfl rfl) .nil) ⟨rfl,rfl⟩)
def bH (F:Nat) (fixed0:List Bool) (links0:List A2):Option Bool :=
 (dT F fixed0 links0).bind fun x_1=>if (!x_1) = true then ((cq F).bind fun x_2=>some x_2) else (Option.bind (cQ F fixed0 links0) (cr fun x_3 x_4=>Option.bind (cX F fixed0 links0) (cr fun x_5 x_6=>Option.bind (cm F fixed0 links0) (cr fun x_7 x_8=>(bR F fixed0 links0).bind fun x_9=>(cg F fixed0 links0).bind fun x_10=>(bN F fixed0 links0).bind fun x_11=>(cq F).bind fun x_12=>(c3 x_12 (a6 F x_3 x_9.L)).bind fun x_13=>(c3 ((x_12 && x_13) && (decide (x_4 = x_9.E))) (a6 F x_5 x_10.L)).bind fun x_14=>fM ((((x_12 && x_13) && (decide (x_4 = x_9.E))) && x_14) && (decide (x_6 = x_10.E))) fun x_15=>(c3 x_15 (a6 F x_7 x_11.L)).bind fun x_16=>some ((x_15 && x_16) && (decide (x_8 = x_11.E)))))))
theorem eE {F:Nat} {fixed0:List Bool} {links0:List A2} {r:Bool} (h:bH F fixed0 links0 = some r):ar Try.prog [] 4 [] [.one (.sl 1 (fixed0.map eB)),.one (.sl 2 (links0.map (bX .i64)))] (Is [] (.b (.one (.bool r)))):=by
 unfold bH at h
 refine ar.intro 83 Try.func4 Try.ntmps4 rfl (by simp) fun E=>?_
 show ab _ E ⟨83,[],[],[]⟩ _ ⟨[(0,.b (.one (.sl 1 (fixed0.map eB)))),(1,.b (.one (.sl 2 (links0.map (bX .i64)))))],[]⟩ _
 refine ab.seq (ab.aa ?_)
 refine Oc oa (ae.af ⟨[(0,.b (.one (.sl 1 (fixed0.map eB)))),(1,.b (.one (.sl 2 (links0.map (bX .i64)))))],[]⟩ rfl (ab.seq (ab.seq (ab.aa ?_))))
 refine Oc om (Oc om ?_)
 obtain ⟨x_1,e1,h⟩:=aF h
 refine Oc (aJ (jT e1) goes10 rfl rfl) (Oc (c4 rfl) ?_)
 refine ae.af ⟨[(0,_),(1,_),(17,B (!x_1))],[]⟩ rfl (ab.ite h rfl (fun _ h=>?_) (fun _ h=>?_))
 ·refine ab.seq (ab.aa ?_)
  obtain ⟨x_2,e2,h⟩:=aF h
  refine Oc (aJ (ff e2) tD rfl rfl) (Oc oa ?_)
  refine ae.af ⟨[(4,B x_2)],[]⟩ rfl (ab.ret (Fin.aR ?_))
  obtain rfl:=Option.some.inj h
  refine Fin.ag ⟨[(4,_)],[]⟩ rfl (Fin.aP [.one (.bool x_2)] (.inl rfl) rfl (.cons (.tmp rfl) .nil) ⟨rfl,rfl⟩)
 ·refine ab.skip (Fin.ag ⟨[(0,_),(1,_)],[]⟩ rfl (Fin.then (ab.seq (ab.aa ?_))))
  refine Oc om (Oc om ?_)
  obtain ⟨⟨x_3,x_4⟩,e3,h⟩:=aF h
  refine Oc (bh (ix 101 e3) tz rfl trivial rfl rfl) (Oc om (Oc (aG rfl rfl) ?_))
  refine ae.ag ⟨[(0,_),(1,_),(19,.fi [.row 101,.one (.i x_4)]),(23,.b (.row 101))],[(101,.row 3 1 (x_3.map eI))]⟩ rfl (Oc (aG rfl rfl) (Oc oa (Oc oa ?_)))
  refine ae.af ⟨[(0,_),(1,_),(5,.b (.row 101)),(6,I x_4)],[(101,_)]⟩ rfl (ab.seq (ab.aa ?_))
  refine Oc om (Oc om ?_)
  obtain ⟨⟨x_5,x_6⟩,e4,h⟩:=aF h
  refine Oc (aJ (jt e4) tx rfl rfl) (Oc om (Oc (aG rfl rfl) ?_))
  refine ae.ag ⟨[(0,_),(1,_),(5,_),(6,_),(25,.fi [.one (.sl 1 (x_5.map eI)),.one (.i x_6)]),(29,.b (.one (.sl 1 (x_5.map eI))))],[(101,_)]⟩ rfl (Oc (aG rfl rfl) (Oc oa (Oc oa ?_)))
  refine ae.af ⟨[(0,_),(1,_),(5,_),(6,_),(7,.b (.one (.sl 1 (x_5.map eI)))),(8,I x_6)],[(101,_)]⟩ rfl (ab.seq (ab.aa ?_))
  refine Oc om (Oc om ?_)
  obtain ⟨⟨x_7,x_8⟩,e5,h⟩:=aF h
  refine Oc (aJ (gK e5) tw rfl rfl) (Oc om (Oc (aG rfl rfl) ?_))
  refine ae.ag ⟨[(0,_),(1,_),(5,_),(6,_),(7,_),(8,_),(31,.fi [.one (.sl 1 (x_7.map eI)),.one (.i x_8)]),(35,.b (.one (.sl 1 (x_7.map eI))))],[(101,_)]⟩ rfl (Oc (aG rfl rfl) (Oc oa (Oc oa ?_)))
  refine ae.af ⟨[(0,_),(1,_),(5,_),(6,_),(7,_),(8,_),(9,.b (.one (.sl 1 (x_7.map eI)))),(10,I x_8)],[(101,_)]⟩ rfl (ab.seq (ab.aa ?_))
  refine Oc om (Oc om ?_)
  obtain ⟨x_9,e6,h⟩:=aF h
  refine Oc (aJ (iE e6) goes23 rfl rfl) (Oc (bf (k:=102) jf rfl) (Oc (df eh rfl rfl rfl rfl (Nat.le_of_ble_eq_true rfl) rfl) ?_))
  refine ae.af ⟨[(0,_),(1,_),(5,_),(6,_),(7,_),(8,_),(9,_),(10,_),(11,Pt 102 0)],[(101,_),(102,.box 37 (mS x_9))]⟩ rfl (ab.seq (ab.aa ?_))
  refine Oc om (Oc om ?_)
  obtain ⟨x_10,e7,h⟩:=aF h
  refine Oc (aJ (jv e7) goes24 rfl rfl) (Oc (bf (k:=103) jf rfl) (Oc (df eh rfl rfl rfl rfl (Nat.le_of_ble_eq_true rfl) rfl) ?_))
  refine ae.af ⟨[(0,_),(1,_),(5,_),(6,_),(7,_),(8,_),(9,_),(10,_),(11,_),(12,Pt 103 0)],[(101,_),(102,_),(103,.box 37 (mS x_10))]⟩ rfl (ab.seq (ab.aa ?_))
  refine Oc om (Oc om ?_)
  obtain ⟨x_11,e8,h⟩:=aF h
  refine Oc (aJ (iz e8) goes25 rfl rfl) (Oc (bf (k:=104) jf rfl) (Oc (df eh rfl rfl rfl rfl (Nat.le_of_ble_eq_true rfl) rfl) ?_))
  refine ae.af ⟨[(5,_),(6,_),(7,_),(8,_),(9,_),(10,_),(11,_),(12,_),(13,Pt 104 0)],[(101,_),(102,_),(103,_),(104,.box 37 (mS x_11))]⟩ rfl (ab.seq (ab.aa ?_))
  obtain ⟨x_12,e9,h⟩:=aF h
  refine Oc (aJ (ff e9) tD rfl rfl) (Oc om ?_)
  refine c6 x_12 [] (fun g10=>trivial) (fun g10=>om) (c6 x_12 [] (fun g11=>by exact trivial) (fun g11=>bA mY rfl rfl) (c6 x_12 [49] (fun g12=>by exact ⟨g12,trivial⟩) (fun g12=>ba aS rfl rfl rfl) (ae.ag ⟨[(6,_),(7,_),(8,_),(9,_),(10,_),(11,_),(12,_),(13,_),(47,B x_12),(48,.opt x_12 (.row 101)),(50,.opt x_12 (.one (.sl 1 (x_9.L.map eI))))],[(101,_),(102,_),(103,_),(104,_)]⟩ rfl ?_)))
  obtain ⟨x_13,e14,h⟩:=aF h
  refine c6 x_12 [48,50] (fun g13=>⟨g13,g13,trivial⟩) (fun g13=>kB (bp (gc e14 g13)) jC rfl CP.jq) (Oc (aO (fun e=>e) rfl rfl rfl rfl) (Oc om ?_))
  refine c6 (x_12 && x_13) [] (fun g15=>trivial) (fun g15=>om) (c6 (x_12 && x_13) [] (fun g16=>by exact trivial) (fun g16=>bA mX rfl rfl) (c6 (x_12 && x_13) [55] (fun g17=>by exact ⟨g17,trivial⟩) (fun g17=>ba pz rfl rfl rfl) (c6 (x_12 && x_13) [54,56] (fun g18=>by exact ⟨g18,g18,trivial⟩) (fun g18=>dN rfl rfl) (Oc (aO (fun e=>e) rfl rfl rfl rfl) (ae.ag ⟨[(7,_),(8,_),(9,_),(10,_),(12,_),(13,_),(58,B ((x_12 && x_13) && (decide (x_4 = x_9.E))))],[(103,_),(104,_)]⟩ rfl ?_)))))
  refine Oc om (c6 ((x_12 && x_13) && (decide (x_4 = x_9.E))) [] (fun g19=>by exact trivial) (fun g19=>om) (c6 ((x_12 && x_13) && (decide (x_4 = x_9.E))) [] (fun g20=>by exact trivial) (fun g20=>bA mY rfl rfl) (c6 ((x_12 && x_13) && (decide (x_4 = x_9.E))) [61] (fun g21=>by exact ⟨g21,trivial⟩) (fun g21=>ba aS rfl rfl rfl) ?_)))
  obtain ⟨x_14,e23,h⟩:=aF h
  refine c6 ((x_12 && x_13) && (decide (x_4 = x_9.E))) [60,62] (fun g22=>⟨g22,g22,trivial⟩) (fun g22=>aJ (bp (gc e23 g22)) jC rfl rfl) (Oc (aO (fun e=>e) rfl rfl rfl rfl) (ae.ag ⟨[(8,_),(9,_),(10,_),(12,_),(13,_),(64,B (((x_12 && x_13) && (decide (x_4 = x_9.E))) && x_14))],[(103,_),(104,_)]⟩ rfl (Oc om (c6 (((x_12 && x_13) && (decide (x_4 = x_9.E))) && x_14) [] (fun g24=>by exact trivial) (fun g24=>om) (c6 (((x_12 && x_13) && (decide (x_4 = x_9.E))) && x_14) [] (fun g25=>by exact trivial) (fun g25=>bA mX rfl rfl) ?_)))))
  refine c6 (((x_12 && x_13) && (decide (x_4 = x_9.E))) && x_14) [67] (fun g26=>⟨g26,trivial⟩) (fun g26=>ba pz rfl rfl rfl) (c6 (((x_12 && x_13) && (decide (x_4 = x_9.E))) && x_14) [66,68] (fun g27=>⟨g27,g27,trivial⟩) (fun g27=>dN rfl rfl) (ae.kg h rfl (aO (fun e=>e) rfl rfl rfl rfl) (fun x_15 h=>?_)))
  refine Oc om (c6 x_15 [] (fun g28=>by exact trivial) (fun g28=>om) (ae.ag ⟨[(10,_),(13,_),(71,B x_15),(72,.opt x_15 (.one (.sl 1 (x_7.map eI))))],[(104,_)]⟩ rfl (c6 x_15 [] (fun g29=>by exact trivial) (fun g29=>bA mY rfl rfl) (c6 x_15 [73] (fun g30=>by exact ⟨g30,trivial⟩) (fun g30=>ba aS rfl rfl rfl) ?_))))
  obtain ⟨x_16,e32,h⟩:=aF h
  refine c6 x_15 [72,74] (fun g31=>⟨g31,g31,trivial⟩) (fun g31=>aJ (bp (gc e32 g31)) jC rfl rfl) (Oc (aO (fun e=>e) rfl rfl rfl rfl) (Oc om ?_))
  refine c6 (x_15 && x_16) [] (fun g33=>trivial) (fun g33=>om) (ae.ag ⟨[(13,_),(77,B (x_15 && x_16)),(78,.opt (x_15 && x_16) (.one (.i x_8)))],[(104,_)]⟩ rfl (c6 (x_15 && x_16) [] (fun g34=>by exact trivial) (fun g34=>bA mX rfl rfl) (c6 (x_15 && x_16) [79] (fun g35=>by exact ⟨g35,trivial⟩) (fun g35=>ba pz rfl rfl rfl) (c6 (x_15 && x_16) [78,80] (fun g36=>by exact ⟨g36,g36,trivial⟩) (fun g36=>dN rfl rfl) (Oc (aO (fun e=>e) rfl rfl rfl rfl) (Oc oa ?_))))))
  refine ae.af ⟨[(4,B ((x_15 && x_16) && (decide (x_8 = x_11.E))))],[]⟩ rfl (ab.ret ?_)
  obtain rfl:=Option.some.inj h
  refine Fin.ag ⟨[(4,_)],[]⟩ rfl (Fin.aP [.one (.bool ((x_15 && x_16) && (decide (x_8 = x_11.E))))] (.inl rfl) rfl (.cons (.tmp rfl) .nil) ⟨rfl,rfl⟩)
end Go.Proofs.Ytgojigdbelkgoaa

