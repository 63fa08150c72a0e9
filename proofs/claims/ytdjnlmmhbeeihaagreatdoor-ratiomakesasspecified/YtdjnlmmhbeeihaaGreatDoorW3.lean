/- printed walks -/
import Derived.Test.YtdjnlmmhbeeihaaGreatDoorW2
namespace Go.Proofs.YtdjnlmmhbeeihaaGreatDoor
open Go.Sk
set_option maxHeartbeats 1000000
set_option maxRecDepth 4000
set_option linter.unusedSimpArgs false
set_option linter.unusedVariables false
variable {mx : Int}
def ratio_Add_S (F : Nat) (x0 : Frc) (y0 : Frc) : Option Frc :=
 Option.bind (ratio_Good_S F x0) (fun x_1 => Option.bind (gcall (!(!x_1)) (ratio_Good_S F y0)) (fun x_2 => if ((!x_1) || (!x_2)) = true then (Option.bind (ratio_Bad_S F) (fun x_3 => some x_3)) else (Option.bind (whole_Gcd_S F x0.D y0.D) (fun x_4 => Option.bind (whole_Quo_S F x0.D x_4) (fun x_5 => Option.bind (whole_Quo_S F y0.D x_4) (fun x_6 => Option.bind (whole_Mul_S F x0.N x_6) (fun x_7 => Option.bind (whole_Mul_S F y0.N x_5) (fun x_8 => Option.bind (whole_Add_S F x_7 x_8) (fun x_9 => Option.bind (whole_Mul_S F x_5 y0.D) (fun x_10 => Option.bind (ratio_Make_S F x_9 x_10) (fun x_11 => some x_11)))))))))))
theorem ratio_Add_spec {F : Nat} {x0 : Frc} {y0 : Frc} {r : Frc} (h : ratio_Add_S F x0 y0 = some r) : Meets Tryz.prog (tabs mx) 42 [] [.agg (eFrc x0), .agg (eFrc y0)] (Is [] (.b (.agg (eFrc r)))) := by
 unfold ratio_Add_S at h
 refine Meets.intro 44 Tryz.func42 Tryz.ntmps42 rfl (by simp) fun E => ?_
 show Tri _ E ⟨44, [], []⟩ _ ⟨[(0, .b (.agg (eFrc x0))), (1, .b (.agg (eFrc y0)))], []⟩ _
 refine Tri.seq (Tri.regionL ?_)
 refine Oc rfl (op_box (k := 101) rfl rfl) (Oc rfl (op_box (k := 102) rfl rfl) (Oc rfl (op_alloc (k := 103) tyZero27 rfl) ?_))
 refine OpsL.nilS ⟨[(2, Pt 101 0), (3, Pt 102 0), (4, Pt 103 0)], [(101, .box 27 (eFrc x0)), (102, .box 27 (eFrc y0)), (103, .box 27 (.bool false :: .bool false :: ((eA16 .u32) A16.zero ++ (.bool false :: .bool false :: ((eA16 .u32) A16.zero)))))]⟩ rfl ?_
 refine Tri.seq (Tri.seq (Tri.regionL ?_))
 refine Oc rfl (op_load_p tyAgg27 rfl rfl rfl rfl) ?_
 obtain ⟨x_1, e1, h⟩ := bnd h
 refine Oc rfl (op_call0 (ratio_Good_spec e1) goes26 rfl rfl) (Oc rfl (op_not rfl) (Oc rfl (op_move rfl) ?_))
 refine OpsL.consG (!(!x_1)) 99 [] (.plain rfl) (eq_f _) rfl rfl (fun g2 => trivial) (fun g2 => op_load_p tyAgg27 rfl rfl rfl rfl) ?_
 refine OpsL.keepS ⟨[(2, Pt 101 0), (3, Pt 102 0), (4, Pt 103 0), (11, B (!x_1)), (12, .opt (!(!x_1)) (.agg (eFrc y0)))], [(101, .box 27 (eFrc x0)), (102, .box 27 (eFrc y0)), (103, .box 27 (.bool false :: .bool false :: ((eA16 .u32) A16.zero ++ (.bool false :: .bool false :: ((eA16 .u32) A16.zero)))))]⟩ rfl ?_
 obtain ⟨x_2, e4, h⟩ := bnd h
 refine OpsL.consG (!(!x_1)) 99 [12] (.plain rfl) (eq_f _) rfl rfl (fun g3 => ⟨g3, trivial⟩) (fun g3 => op_call0 (ratio_Good_spec (gc e4 g3)) goes26 rfl rfl) ?_
 refine OpsL.consG (!(!x_1)) 99 [13] (.plain rfl) (eq_f _) rfl rfl (fun g5 => ⟨g5, trivial⟩) (fun g5 => op_not rfl) ?_
 refine Oc rfl (op_pick_or (fun e => by rw [e]; rfl) rfl rfl rfl rfl) ?_
 refine OpsL.nilS ⟨[(2, Pt 101 0), (3, Pt 102 0), (4, Pt 103 0), (15, B ((!x_1) || (!x_2)))], [(101, .box 27 (eFrc x0)), (102, .box 27 (eFrc y0)), (103, .box 27 (.bool false :: .bool false :: ((eA16 .u32) A16.zero ++ (.bool false :: .bool false :: ((eA16 .u32) A16.zero)))))]⟩ rfl ?_
 refine Tri.ite h rfl (fun _ h => ?_) (fun _ h => ?_)
 ·refine Tri.seq (Tri.regionL ?_)
  obtain ⟨x_3, e6, h⟩ := bnd h
  refine Oc rfl (op_call0 (ratio_Bad_spec e6) goes27 rfl rfl) (Oc rfl (op_store_p tyAgg27 rfl rfl rfl rfl (Nat.le_of_ble_eq_true rfl) rfl) ?_)
  refine OpsL.nilS ⟨[(4, Pt 103 0)], [(103, .box 27 (eFrc x_3))]⟩ rfl ?_
  refine Tri.ret ?_
  refine Fin.then_ret ?_
  obtain rfl := Option.some.inj h
  refine Fin.keepS ⟨[(4, Pt 103 0)], [(103, .box 27 (eFrc x_3))]⟩ rfl ?_
  refine Fin.result' [.agg (eFrc x_3)] (.inl rfl) rfl (.cons (.agg tyAgg27 rfl rfl rfl rfl) .nil) ⟨rfl, rfl⟩
 ·refine Tri.skip ?_
  refine Fin.keepS ⟨[(2, Pt 101 0), (3, Pt 102 0), (4, Pt 103 0)], [(101, .box 27 (eFrc x0)), (102, .box 27 (eFrc y0)), (103, .box 27 (.bool false :: .bool false :: ((eA16 .u32) A16.zero ++ (.bool false :: .bool false :: ((eA16 .u32) A16.zero)))))]⟩ rfl ?_
  refine Fin.then (Tri.seq (Tri.regionL ?_))
  refine Oc rfl (op_field_p tyFld27_1 rfl rfl) (Oc rfl (op_load_p tyAgg25 rfl rfl rfl rfl) (Oc rfl (op_field_p tyFld27_1 rfl rfl) (Oc rfl (op_load_p tyAgg25 rfl rfl rfl rfl) ?_)))
  obtain ⟨x_4, e7, h⟩ := bnd h
  refine Oc rfl (op_call0 (whole_Gcd_spec e7) goes73 rfl rfl) (Oc rfl (op_alloc (k := 104) tyZero25 rfl) (Oc rfl (op_store_p tyAgg25 rfl rfl rfl rfl (Nat.le_of_ble_eq_true rfl) rfl) ?_))
  refine OpsL.nilS ⟨[(2, Pt 101 0), (3, Pt 102 0), (4, Pt 103 0), (5, Pt 104 0)], [(101, .box 27 (eFrc x0)), (102, .box 27 (eFrc y0)), (103, .box 27 (.bool false :: .bool false :: ((eA16 .u32) A16.zero ++ (.bool false :: .bool false :: ((eA16 .u32) A16.zero))))), (104, .box 25 (eBig x_4))]⟩ rfl ?_
  refine Tri.seq ?_
  refine Tri.keepS ⟨[(2, Pt 101 0), (3, Pt 102 0), (4, Pt 103 0), (5, Pt 104 0)], [(101, .box 27 (eFrc x0)), (102, .box 27 (eFrc y0)), (103, .box 27 (.bool false :: .bool false :: ((eA16 .u32) A16.zero ++ (.bool false :: .bool false :: ((eA16 .u32) A16.zero))))), (104, .box 25 (eBig x_4))]⟩ rfl ?_
  obtain ⟨x_5, e8, h⟩ := bnd h
  obtain ⟨x_6, e9, h⟩ := bnd h
  refine Tri.regionW mixed [false, false, false, false, false, false, false, false, true, true, true, true] [Pt 101 18, .b (.agg (eBig x0.D)), .b (.agg (eBig x_4)), .b (.agg (eBig x_5)), Pt 102 18, .b (.agg (eBig y0.D)), .b (.agg (eBig x_4)), .b (.agg (eBig x_6)), Pt 105 0, Pt 106 0, B true, B true] [⟨[false, false, false, false, false, false, false, false, false, false, false, false], [(2, Pt 101 0), (3, Pt 102 0), (4, Pt 103 0), (5, Pt 104 0)], [(101, .box 27 (eFrc x0)), (102, .box 27 (eFrc y0)), (103, .box 27 (.bool false :: .bool false :: ((eA16 .u32) A16.zero ++ (.bool false :: .bool false :: ((eA16 .u32) A16.zero))))), (104, .box 25 (eBig x_4))], [true, true, true, true, true, true, true, true, true, true, true, true], []⟩, ⟨[false, false, false, false, false, false, false, false, true, false, false, false], [(2, Pt 101 0), (3, Pt 102 0), (4, Pt 103 0), (5, Pt 104 0)], [(101, .box 27 (eFrc x0)), (102, .box 27 (eFrc y0)), (103, .box 27 (.bool false :: .bool false :: ((eA16 .u32) A16.zero ++ (.bool false :: .bool false :: ((eA16 .u32) A16.zero))))), (104, .box 25 (eBig x_4)), (105, .box 25 (.bool false :: .bool false :: ((eA16 .u32) A16.zero)))], [true, true, true, true, true, true, true, true, true, true, true, true], [8]⟩, ⟨[false, false, false, false, false, false, false, false, false, true, false, false], [(2, Pt 101 0), (3, Pt 102 0), (4, Pt 103 0), (5, Pt 104 0)], [(101, .box 27 (eFrc x0)), (102, .box 27 (eFrc y0)), (103, .box 27 (.bool false :: .bool false :: ((eA16 .u32) A16.zero ++ (.bool false :: .bool false :: ((eA16 .u32) A16.zero))))), (104, .box 25 (eBig x_4)), (106, .box 25 (.bool false :: .bool false :: ((eA16 .u32) A16.zero)))], [true, true, true, true, true, true, true, true, true, true, true, true], [9]⟩, ⟨[false, false, false, false, false, false, false, false, true, true, false, false], [(2, Pt 101 0), (3, Pt 102 0), (4, Pt 103 0), (5, Pt 104 0)], [(101, .box 27 (eFrc x0)), (102, .box 27 (eFrc y0)), (103, .box 27 (.bool false :: .bool false :: ((eA16 .u32) A16.zero ++ (.bool false :: .bool false :: ((eA16 .u32) A16.zero))))), (104, .box 25 (eBig x_4)), (105, .box 25 (.bool false :: .bool false :: ((eA16 .u32) A16.zero))), (106, .box 25 (.bool false :: .bool false :: ((eA16 .u32) A16.zero)))], [true, true, true, true, true, true, true, true, true, true, true, true], [8, 9]⟩, ⟨[false, false, false, false, false, false, false, false, true, true, true, false], [(2, Pt 101 0), (3, Pt 102 0), (4, Pt 103 0), (5, Pt 104 0)], [(101, .box 27 (eFrc x0)), (102, .box 27 (eFrc y0)), (103, .box 27 (.bool false :: .bool false :: ((eA16 .u32) A16.zero ++ (.bool false :: .bool false :: ((eA16 .u32) A16.zero))))), (104, .box 25 (eBig x_4)), (105, .box 25 (eBig x_5)), (106, .box 25 (.bool false :: .bool false :: ((eA16 .u32) A16.zero)))], [true, true, true, true, true, true, true, true, true, true, true, true], [0, 1, 2, 3, 4, 5, 6, 7, 8, 9, 10]⟩, ⟨[false, false, false, false, false, false, false, false, true, true, true, true], [(2, Pt 101 0), (3, Pt 102 0), (4, Pt 103 0), (5, Pt 104 0)], [(101, .box 27 (eFrc x0)), (102, .box 27 (eFrc y0)), (103, .box 27 (.bool false :: .bool false :: ((eA16 .u32) A16.zero ++ (.bool false :: .bool false :: ((eA16 .u32) A16.zero))))), (104, .box 25 (eBig x_4)), (105, .box 25 (eBig x_5)), (106, .box 25 (eBig x_6))], [true, true, true, true, true, true, true, true, true, true, true, true], [0, 1, 2, 3, 4, 5, 6, 7, 8, 9, 10, 11]⟩] rfl (⟨by kernel_rfl, ⟨⟨Pt 101 18, fun _ => rfl, fun _ => .plain rfl (by exact op_field_p tyFld27_1 rfl rfl)⟩, ⟨.b (.agg (eBig x0.D)), fun _ => rfl, fun _ => .plain rfl (by exact op_load_p tyAgg25 rfl rfl rfl rfl)⟩, ⟨.b (.agg (eBig x_4)), fun _ => rfl, fun _ => .plain rfl (by exact op_load_p tyAgg25 rfl rfl rfl rfl)⟩, ⟨.b (.agg (eBig x_5)), fun _ => rfl, fun _ => .plain rfl (by exact op_call0 (whole_Quo_spec e8) goes75 rfl rfl)⟩, ⟨Pt 102 18, fun _ => rfl, fun _ => .plain rfl (by exact op_field_p tyFld27_1 rfl rfl)⟩, ⟨.b (.agg (eBig y0.D)), fun _ => rfl, fun _ => .plain rfl (by exact op_load_p tyAgg25 rfl rfl rfl rfl)⟩, ⟨.b (.agg (eBig x_4)), fun _ => rfl, fun _ => .plain rfl (by exact op_load_p tyAgg25 rfl rfl rfl rfl)⟩, ⟨.b (.agg (eBig x_6)), fun _ => rfl, fun _ => .plain rfl (by exact op_call0 (whole_Quo_spec e9) goes75 rfl rfl)⟩, ⟨_, some 105, Pt 105 0, rfl, fun _ => rfl, rfl, rfl, fun _ => .toO [101, 102, 103, 104, 105] (by exact .plain rfl (by exact op_alloc (k := 105) tyZero25 rfl)) (by exact rfl)⟩, ⟨_, some 106, Pt 106 0, rfl, fun _ => rfl, rfl, rfl, fun _ => .toO [101, 102, 103, 104, 106] (by exact .plain rfl (by exact op_alloc (k := 106) tyZero25 rfl)) (by exact rfl)⟩, trivial, trivial, trivial⟩, ⟨by kernel_rfl, ⟨⟨Pt 101 18, fun _ => rfl, fun _ => .plain rfl (by exact op_field_p tyFld27_1 rfl rfl)⟩, ⟨.b (.agg (eBig x0.D)), fun _ => rfl, fun _ => .plain rfl (by exact op_load_p tyAgg25 rfl rfl rfl rfl)⟩, ⟨.b (.agg (eBig x_4)), fun _ => rfl, fun _ => .plain rfl (by exact op_load_p tyAgg25 rfl rfl rfl rfl)⟩, ⟨.b (.agg (eBig x_5)), fun _ => rfl, fun _ => .plain rfl (by exact op_call0 (whole_Quo_spec e8) goes75 rfl rfl)⟩, ⟨Pt 102 18, fun _ => rfl, fun _ => .plain rfl (by exact op_field_p tyFld27_1 rfl rfl)⟩, ⟨.b (.agg (eBig y0.D)), fun _ => rfl, fun _ => .plain rfl (by exact op_load_p tyAgg25 rfl rfl rfl rfl)⟩, ⟨.b (.agg (eBig x_4)), fun _ => rfl, fun _ => .plain rfl (by exact op_load_p tyAgg25 rfl rfl rfl rfl)⟩, ⟨.b (.agg (eBig x_6)), fun _ => rfl, fun _ => .plain rfl (by exact op_call0 (whole_Quo_spec e9) goes75 rfl rfl)⟩, trivial, ⟨_, some 106, Pt 106 0, rfl, fun _ => rfl, rfl, rfl, fun _ => .toO [101, 102, 103, 104, 105, 106] (by exact .plain rfl (by exact op_alloc (k := 106) tyZero25 rfl)) (by exact rfl)⟩, trivial, trivial, trivial⟩, ⟨by kernel_rfl, ⟨⟨Pt 101 18, fun _ => rfl, fun _ => .plain rfl (by exact op_field_p tyFld27_1 rfl rfl)⟩, ⟨.b (.agg (eBig x0.D)), fun _ => rfl, fun _ => .plain rfl (by exact op_load_p tyAgg25 rfl rfl rfl rfl)⟩, ⟨.b (.agg (eBig x_4)), fun _ => rfl, fun _ => .plain rfl (by exact op_load_p tyAgg25 rfl rfl rfl rfl)⟩, ⟨.b (.agg (eBig x_5)), fun _ => rfl, fun _ => .plain rfl (by exact op_call0 (whole_Quo_spec e8) goes75 rfl rfl)⟩, ⟨Pt 102 18, fun _ => rfl, fun _ => .plain rfl (by exact op_field_p tyFld27_1 rfl rfl)⟩, ⟨.b (.agg (eBig y0.D)), fun _ => rfl, fun _ => .plain rfl (by exact op_load_p tyAgg25 rfl rfl rfl rfl)⟩, ⟨.b (.agg (eBig x_4)), fun _ => rfl, fun _ => .plain rfl (by exact op_load_p tyAgg25 rfl rfl rfl rfl)⟩, ⟨.b (.agg (eBig x_6)), fun _ => rfl, fun _ => .plain rfl (by exact op_call0 (whole_Quo_spec e9) goes75 rfl rfl)⟩, ⟨_, some 105, Pt 105 0, rfl, fun _ => rfl, rfl, rfl, fun _ => .toO [101, 102, 103, 104, 105, 106] (by exact .plain rfl (by exact op_alloc (k := 105) tyZero25 rfl)) (by exact rfl)⟩, trivial, trivial, trivial, trivial⟩, ⟨by kernel_rfl, ⟨⟨Pt 101 18, fun _ => rfl, fun _ => .plain rfl (by exact op_field_p tyFld27_1 rfl rfl)⟩, ⟨.b (.agg (eBig x0.D)), fun _ => rfl, fun _ => .plain rfl (by exact op_load_p tyAgg25 rfl rfl rfl rfl)⟩, ⟨.b (.agg (eBig x_4)), fun _ => rfl, fun _ => .plain rfl (by exact op_load_p tyAgg25 rfl rfl rfl rfl)⟩, ⟨.b (.agg (eBig x_5)), fun _ => rfl, fun _ => .plain rfl (by exact op_call0 (whole_Quo_spec e8) goes75 rfl rfl)⟩, ⟨Pt 102 18, fun _ => rfl, fun _ => .plain rfl (by exact op_field_p tyFld27_1 rfl rfl)⟩, ⟨.b (.agg (eBig y0.D)), fun _ => rfl, fun _ => .plain rfl (by exact op_load_p tyAgg25 rfl rfl rfl rfl)⟩, ⟨.b (.agg (eBig x_4)), fun _ => rfl, fun _ => .plain rfl (by exact op_load_p tyAgg25 rfl rfl rfl rfl)⟩, ⟨.b (.agg (eBig x_6)), fun _ => rfl, fun _ => .plain rfl (by exact op_call0 (whole_Quo_spec e9) goes75 rfl rfl)⟩, trivial, trivial, ⟨_, none, .b (.one .any), rfl, (fun e => by simp at e), rfl, rfl, fun _ => .toO [101, 102, 103, 104, 105, 106] (by exact .plain rfl (by exact op_store_p tyAgg25 rfl rfl rfl rfl (Nat.le_of_ble_eq_true rfl) rfl)) (by exact rfl)⟩, trivial, trivial⟩, ⟨by kernel_rfl, ⟨trivial, trivial, trivial, trivial, trivial, trivial, trivial, trivial, trivial, trivial, trivial, ⟨_, none, .b (.one .any), rfl, (fun e => by simp at e), rfl, rfl, fun _ => .toO [101, 102, 103, 104, 105, 106] (by exact .plain rfl (by exact op_store_p tyAgg25 rfl rfl rfl rfl (Nat.le_of_ble_eq_true rfl) rfl)) (by exact rfl)⟩, trivial⟩, ⟨by kernel_rfl, ⟨trivial, trivial, trivial, trivial, trivial, trivial, trivial, trivial, trivial, trivial, trivial, trivial, trivial⟩, trivial⟩⟩⟩⟩⟩⟩) rfl rfl rfl [2, 3, 4, 6, 7] [101, 102, 103, 105, 106] (s' := ⟨[(2, Pt 101 0), (3, Pt 102 0), (4, Pt 103 0), (6, Pt 105 0), (7, Pt 106 0)], [(101, .box 27 (eFrc x0)), (102, .box 27 (eFrc y0)), (103, .box 27 (.bool false :: .bool false :: ((eA16 .u32) A16.zero ++ (.bool false :: .bool false :: ((eA16 .u32) A16.zero))))), (105, .box 25 (eBig x_5)), (106, .box 25 (eBig x_6))]⟩) rfl ?_
  refine Tri.seq ?_
  refine Tri.keepS ⟨[(2, Pt 101 0), (3, Pt 102 0), (4, Pt 103 0), (6, Pt 105 0), (7, Pt 106 0)], [(101, .box 27 (eFrc x0)), (102, .box 27 (eFrc y0)), (103, .box 27 (.bool false :: .bool false :: ((eA16 .u32) A16.zero ++ (.bool false :: .bool false :: ((eA16 .u32) A16.zero))))), (105, .box 25 (eBig x_5)), (106, .box 25 (eBig x_6))]⟩ rfl ?_
  obtain ⟨x_7, e10, h⟩ := bnd h
  obtain ⟨x_8, e11, h⟩ := bnd h
  obtain ⟨x_9, e12, h⟩ := bnd h
  obtain ⟨x_10, e13, h⟩ := bnd h
  obtain ⟨x_11, e14, h⟩ := bnd h
  refine Tri.regionY mixed 14 [Pt 101 0, .b (.agg (eBig x0.N)), .b (.agg (eBig x_6)), .b (.agg (eBig x_7)), Pt 102 0, .b (.agg (eBig y0.N)), .b (.agg (eBig x_5)), .b (.agg (eBig x_8)), .b (.agg (eBig x_9)), .b (.agg (eBig x_5)), Pt 102 18, .b (.agg (eBig y0.D)), .b (.agg (eBig x_10)), .b (.agg (eFrc x_11))] [4] [103] (s' := ⟨[(4, Pt 103 0)], [(103, .box 27 (eFrc x_11))]⟩) rfl ⟨fun _ => .plain rfl (op_field_p tyFld27_0 rfl rfl), fun _ => .plain rfl (op_load_p tyAgg25 rfl rfl rfl rfl), fun _ => .plain rfl (op_load_p tyAgg25 rfl rfl rfl rfl), fun _ => .plain rfl (op_call0 (whole_Mul_spec e10) goes102 rfl rfl), fun _ => .plain rfl (op_field_p tyFld27_0 rfl rfl), fun _ => .plain rfl (op_load_p tyAgg25 rfl rfl rfl rfl), fun _ => .plain rfl (op_load_p tyAgg25 rfl rfl rfl rfl), fun _ => .plain rfl (op_call0 (whole_Mul_spec e11) goes102 rfl rfl), fun _ => .plain rfl (op_call0 (whole_Add_spec e12) goes97 rfl rfl), fun _ => .plain rfl (op_load_p tyAgg25 rfl rfl rfl rfl), fun _ => .plain rfl (op_field_p tyFld27_1 rfl rfl), fun _ => .plain rfl (op_load_p tyAgg25 rfl rfl rfl rfl), fun _ => .plain rfl (op_call0 (whole_Mul_spec e13) goes102 rfl rfl), fun _ => .plain rfl (op_call0 (ratio_Make_spec e14) goes11 rfl rfl), trivial⟩ ⟨_, by exact .plain rfl (op_store_p tyAgg27 rfl rfl rfl rfl (Nat.le_of_ble_eq_true rfl) rfl), rfl⟩ rfl ?_
  refine Tri.ret ?_
  obtain rfl := Option.some.inj h
  refine Fin.keepS ⟨[(4, Pt 103 0)], [(103, .box 27 (eFrc x_11))]⟩ rfl ?_
  refine Fin.result' [.agg (eFrc x_11)] (.inl rfl) rfl (.cons (.agg tyAgg27 rfl rfl rfl rfl) .nil) ⟨rfl, rfl⟩
def ratio_Mul_S (F : Nat) (x0 : Frc) (y0 : Frc) : Option Frc :=
 Option.bind (ratio_Good_S F x0) (fun x_1 => Option.bind (gcall (!(!x_1)) (ratio_Good_S F y0)) (fun x_2 => if ((!x_1) || (!x_2)) = true then (Option.bind (ratio_Bad_S F) (fun x_3 => some x_3)) else (Option.bind (ratio_Make_S F x0.N y0.D) (fun x_4 => Option.bind (ratio_Make_S F y0.N x0.D) (fun x_5 => Option.bind (whole_Mul_S F x_4.N x_5.N) (fun x_6 => Option.bind (whole_Mul_S F x_4.D x_5.D) (fun x_7 => if (x_6.Bad || x_7.Bad) = true then (Option.bind (ratio_Bad_S F) (fun x_8 => some x_8)) else (some (⟨x_6, x_7⟩ : Frc)))))))))
theorem ratio_Mul_spec {F : Nat} {x0 : Frc} {y0 : Frc} {r : Frc} (h : ratio_Mul_S F x0 y0 = some r) : Meets Tryz.prog (tabs mx) 45 [] [.agg (eFrc x0), .agg (eFrc y0)] (Is [] (.b (.agg (eFrc r)))) := by
 unfold ratio_Mul_S at h
 refine Meets.intro 48 Tryz.func45 Tryz.ntmps45 rfl (by simp) fun E => ?_
 show Tri _ E ⟨48, [], []⟩ _ ⟨[(0, .b (.agg (eFrc x0))), (1, .b (.agg (eFrc y0)))], []⟩ _
 refine Tri.seq (Tri.regionL ?_)
 refine Oc rfl (op_box (k := 101) rfl rfl) (Oc rfl (op_box (k := 102) rfl rfl) (Oc rfl (op_alloc (k := 103) tyZero27 rfl) ?_))
 refine OpsL.nilS ⟨[(2, Pt 101 0), (3, Pt 102 0), (4, Pt 103 0)], [(101, .box 27 (eFrc x0)), (102, .box 27 (eFrc y0)), (103, .box 27 (.bool false :: .bool false :: ((eA16 .u32) A16.zero ++ (.bool false :: .bool false :: ((eA16 .u32) A16.zero)))))]⟩ rfl ?_
 refine Tri.seq (Tri.seq (Tri.regionL ?_))
 refine Oc rfl (op_load_p tyAgg27 rfl rfl rfl rfl) ?_
 obtain ⟨x_1, e1, h⟩ := bnd h
 refine Oc rfl (op_call0 (ratio_Good_spec e1) goes26 rfl rfl) (Oc rfl (op_not rfl) (Oc rfl (op_move rfl) ?_))
 refine OpsL.consG (!(!x_1)) 99 [] (.plain rfl) (eq_f _) rfl rfl (fun g2 => trivial) (fun g2 => op_load_p tyAgg27 rfl rfl rfl rfl) ?_
 refine OpsL.keepS ⟨[(2, Pt 101 0), (3, Pt 102 0), (4, Pt 103 0), (12, B (!x_1)), (13, .opt (!(!x_1)) (.agg (eFrc y0)))], [(101, .box 27 (eFrc x0)), (102, .box 27 (eFrc y0)), (103, .box 27 (.bool false :: .bool false :: ((eA16 .u32) A16.zero ++ (.bool false :: .bool false :: ((eA16 .u32) A16.zero)))))]⟩ rfl ?_
 obtain ⟨x_2, e4, h⟩ := bnd h
 refine OpsL.consG (!(!x_1)) 99 [13] (.plain rfl) (eq_f _) rfl rfl (fun g3 => ⟨g3, trivial⟩) (fun g3 => op_call0 (ratio_Good_spec (gc e4 g3)) goes26 rfl rfl) ?_
 refine OpsL.consG (!(!x_1)) 99 [14] (.plain rfl) (eq_f _) rfl rfl (fun g5 => ⟨g5, trivial⟩) (fun g5 => op_not rfl) ?_
 refine Oc rfl (op_pick_or (fun e => by rw [e]; rfl) rfl rfl rfl rfl) ?_
 refine OpsL.nilS ⟨[(2, Pt 101 0), (3, Pt 102 0), (4, Pt 103 0), (16, B ((!x_1) || (!x_2)))], [(101, .box 27 (eFrc x0)), (102, .box 27 (eFrc y0)), (103, .box 27 (.bool false :: .bool false :: ((eA16 .u32) A16.zero ++ (.bool false :: .bool false :: ((eA16 .u32) A16.zero)))))]⟩ rfl ?_
 refine Tri.ite h rfl (fun _ h => ?_) (fun _ h => ?_)
 ·refine Tri.seq (Tri.regionL ?_)
  obtain ⟨x_3, e6, h⟩ := bnd h
  refine Oc rfl (op_call0 (ratio_Bad_spec e6) goes27 rfl rfl) (Oc rfl (op_store_p tyAgg27 rfl rfl rfl rfl (Nat.le_of_ble_eq_true rfl) rfl) ?_)
  refine OpsL.nilS ⟨[(4, Pt 103 0)], [(103, .box 27 (eFrc x_3))]⟩ rfl ?_
  refine Tri.ret ?_
  refine Fin.then_ret ?_
  obtain rfl := Option.some.inj h
  refine Fin.keepS ⟨[(4, Pt 103 0)], [(103, .box 27 (eFrc x_3))]⟩ rfl ?_
  refine Fin.result' [.agg (eFrc x_3)] (.inl rfl) rfl (.cons (.agg tyAgg27 rfl rfl rfl rfl) .nil) ⟨rfl, rfl⟩
 ·refine Tri.skip ?_
  refine Fin.keepS ⟨[(2, Pt 101 0), (3, Pt 102 0), (4, Pt 103 0)], [(101, .box 27 (eFrc x0)), (102, .box 27 (eFrc y0)), (103, .box 27 (.bool false :: .bool false :: ((eA16 .u32) A16.zero ++ (.bool false :: .bool false :: ((eA16 .u32) A16.zero)))))]⟩ rfl ?_
  refine Fin.then (Tri.seq ?_)
  refine Tri.keepS ⟨[(2, Pt 101 0), (3, Pt 102 0), (4, Pt 103 0)], [(101, .box 27 (eFrc x0)), (102, .box 27 (eFrc y0)), (103, .box 27 (.bool false :: .bool false :: ((eA16 .u32) A16.zero ++ (.bool false :: .bool false :: ((eA16 .u32) A16.zero)))))]⟩ rfl ?_
  obtain ⟨x_4, e7, h⟩ := bnd h
  obtain ⟨x_5, e8, h⟩ := bnd h
  refine Tri.regionW mixed [false, false, false, false, false, false, false, false, false, false, true, true, true, true] [Pt 101 0, .b (.agg (eBig x0.N)), Pt 102 18, .b (.agg (eBig y0.D)), .b (.agg (eFrc x_4)), Pt 102 0, .b (.agg (eBig y0.N)), Pt 101 18, .b (.agg (eBig x0.D)), .b (.agg (eFrc x_5)), Pt 104 0, Pt 105 0, B true, B true] [⟨[false, false, false, false, false, false, false, false, false, false, false, false, false, false], [(2, Pt 101 0), (3, Pt 102 0), (4, Pt 103 0)], [(101, .box 27 (eFrc x0)), (102, .box 27 (eFrc y0)), (103, .box 27 (.bool false :: .bool false :: ((eA16 .u32) A16.zero ++ (.bool false :: .bool false :: ((eA16 .u32) A16.zero)))))], [true, true, true, true, true, true, true, true, true, true, true, true, true, true], []⟩, ⟨[false, false, false, false, false, false, false, false, false, false, true, false, false, false], [(2, Pt 101 0), (3, Pt 102 0), (4, Pt 103 0)], [(101, .box 27 (eFrc x0)), (102, .box 27 (eFrc y0)), (103, .box 27 (.bool false :: .bool false :: ((eA16 .u32) A16.zero ++ (.bool false :: .bool false :: ((eA16 .u32) A16.zero))))), (104, .box 27 (.bool false :: .bool false :: ((eA16 .u32) A16.zero ++ (.bool false :: .bool false :: ((eA16 .u32) A16.zero)))))], [true, true, true, true, true, true, true, true, true, true, true, true, true, true], [10]⟩, ⟨[false, false, false, false, false, false, false, false, false, false, false, true, false, false], [(2, Pt 101 0), (3, Pt 102 0), (4, Pt 103 0)], [(101, .box 27 (eFrc x0)), (102, .box 27 (eFrc y0)), (103, .box 27 (.bool false :: .bool false :: ((eA16 .u32) A16.zero ++ (.bool false :: .bool false :: ((eA16 .u32) A16.zero))))), (105, .box 27 (.bool false :: .bool false :: ((eA16 .u32) A16.zero ++ (.bool false :: .bool false :: ((eA16 .u32) A16.zero)))))], [true, true, true, true, true, true, true, true, true, true, true, true, true, true], [11]⟩, ⟨[false, false, false, false, false, false, false, false, false, false, true, true, false, false], [(2, Pt 101 0), (3, Pt 102 0), (4, Pt 103 0)], [(101, .box 27 (eFrc x0)), (102, .box 27 (eFrc y0)), (103, .box 27 (.bool false :: .bool false :: ((eA16 .u32) A16.zero ++ (.bool false :: .bool false :: ((eA16 .u32) A16.zero))))), (104, .box 27 (.bool false :: .bool false :: ((eA16 .u32) A16.zero ++ (.bool false :: .bool false :: ((eA16 .u32) A16.zero))))), (105, .box 27 (.bool false :: .bool false :: ((eA16 .u32) A16.zero ++ (.bool false :: .bool false :: ((eA16 .u32) A16.zero)))))], [true, true, true, true, true, true, true, true, true, true, true, true, true, true], [10, 11]⟩, ⟨[false, false, false, false, false, false, false, false, false, false, true, true, true, false], [(2, Pt 101 0), (3, Pt 102 0), (4, Pt 103 0)], [(101, .box 27 (eFrc x0)), (102, .box 27 (eFrc y0)), (103, .box 27 (.bool false :: .bool false :: ((eA16 .u32) A16.zero ++ (.bool false :: .bool false :: ((eA16 .u32) A16.zero))))), (104, .box 27 (eFrc x_4)), (105, .box 27 (.bool false :: .bool false :: ((eA16 .u32) A16.zero ++ (.bool false :: .bool false :: ((eA16 .u32) A16.zero)))))], [true, true, true, true, true, true, true, true, true, true, true, true, true, true], [0, 1, 2, 3, 4, 5, 6, 7, 8, 9, 10, 11, 12]⟩, ⟨[false, false, false, false, false, false, false, false, false, false, true, true, true, true], [(2, Pt 101 0), (3, Pt 102 0), (4, Pt 103 0)], [(101, .box 27 (eFrc x0)), (102, .box 27 (eFrc y0)), (103, .box 27 (.bool false :: .bool false :: ((eA16 .u32) A16.zero ++ (.bool false :: .bool false :: ((eA16 .u32) A16.zero))))), (104, .box 27 (eFrc x_4)), (105, .box 27 (eFrc x_5))], [true, true, true, true, true, true, true, true, true, true, true, true, true, true], [0, 1, 2, 3, 4, 5, 6, 7, 8, 9, 10, 11, 12, 13]⟩] rfl (⟨by kernel_rfl, ⟨⟨Pt 101 0, fun _ => rfl, fun _ => .plain rfl (by exact op_field_p tyFld27_0 rfl rfl)⟩, ⟨.b (.agg (eBig x0.N)), fun _ => rfl, fun _ => .plain rfl (by exact op_load_p tyAgg25 rfl rfl rfl rfl)⟩, ⟨Pt 102 18, fun _ => rfl, fun _ => .plain rfl (by exact op_field_p tyFld27_1 rfl rfl)⟩, ⟨.b (.agg (eBig y0.D)), fun _ => rfl, fun _ => .plain rfl (by exact op_load_p tyAgg25 rfl rfl rfl rfl)⟩, ⟨.b (.agg (eFrc x_4)), fun _ => rfl, fun _ => .plain rfl (by exact op_call0 (ratio_Make_spec e7) goes11 rfl rfl)⟩, ⟨Pt 102 0, fun _ => rfl, fun _ => .plain rfl (by exact op_field_p tyFld27_0 rfl rfl)⟩, ⟨.b (.agg (eBig y0.N)), fun _ => rfl, fun _ => .plain rfl (by exact op_load_p tyAgg25 rfl rfl rfl rfl)⟩, ⟨Pt 101 18, fun _ => rfl, fun _ => .plain rfl (by exact op_field_p tyFld27_1 rfl rfl)⟩, ⟨.b (.agg (eBig x0.D)), fun _ => rfl, fun _ => .plain rfl (by exact op_load_p tyAgg25 rfl rfl rfl rfl)⟩, ⟨.b (.agg (eFrc x_5)), fun _ => rfl, fun _ => .plain rfl (by exact op_call0 (ratio_Make_spec e8) goes11 rfl rfl)⟩, ⟨_, some 104, Pt 104 0, rfl, fun _ => rfl, rfl, rfl, fun _ => .toO [101, 102, 103, 104] (by exact .plain rfl (by exact op_alloc (k := 104) tyZero27 rfl)) (by exact rfl)⟩, ⟨_, some 105, Pt 105 0, rfl, fun _ => rfl, rfl, rfl, fun _ => .toO [101, 102, 103, 105] (by exact .plain rfl (by exact op_alloc (k := 105) tyZero27 rfl)) (by exact rfl)⟩, trivial, trivial, trivial⟩, ⟨by kernel_rfl, ⟨⟨Pt 101 0, fun _ => rfl, fun _ => .plain rfl (by exact op_field_p tyFld27_0 rfl rfl)⟩, ⟨.b (.agg (eBig x0.N)), fun _ => rfl, fun _ => .plain rfl (by exact op_load_p tyAgg25 rfl rfl rfl rfl)⟩, ⟨Pt 102 18, fun _ => rfl, fun _ => .plain rfl (by exact op_field_p tyFld27_1 rfl rfl)⟩, ⟨.b (.agg (eBig y0.D)), fun _ => rfl, fun _ => .plain rfl (by exact op_load_p tyAgg25 rfl rfl rfl rfl)⟩, ⟨.b (.agg (eFrc x_4)), fun _ => rfl, fun _ => .plain rfl (by exact op_call0 (ratio_Make_spec e7) goes11 rfl rfl)⟩, ⟨Pt 102 0, fun _ => rfl, fun _ => .plain rfl (by exact op_field_p tyFld27_0 rfl rfl)⟩, ⟨.b (.agg (eBig y0.N)), fun _ => rfl, fun _ => .plain rfl (by exact op_load_p tyAgg25 rfl rfl rfl rfl)⟩, ⟨Pt 101 18, fun _ => rfl, fun _ => .plain rfl (by exact op_field_p tyFld27_1 rfl rfl)⟩, ⟨.b (.agg (eBig x0.D)), fun _ => rfl, fun _ => .plain rfl (by exact op_load_p tyAgg25 rfl rfl rfl rfl)⟩, ⟨.b (.agg (eFrc x_5)), fun _ => rfl, fun _ => .plain rfl (by exact op_call0 (ratio_Make_spec e8) goes11 rfl rfl)⟩, trivial, ⟨_, some 105, Pt 105 0, rfl, fun _ => rfl, rfl, rfl, fun _ => .toO [101, 102, 103, 104, 105] (by exact .plain rfl (by exact op_alloc (k := 105) tyZero27 rfl)) (by exact rfl)⟩, trivial, trivial, trivial⟩, ⟨by kernel_rfl, ⟨⟨Pt 101 0, fun _ => rfl, fun _ => .plain rfl (by exact op_field_p tyFld27_0 rfl rfl)⟩, ⟨.b (.agg (eBig x0.N)), fun _ => rfl, fun _ => .plain rfl (by exact op_load_p tyAgg25 rfl rfl rfl rfl)⟩, ⟨Pt 102 18, fun _ => rfl, fun _ => .plain rfl (by exact op_field_p tyFld27_1 rfl rfl)⟩, ⟨.b (.agg (eBig y0.D)), fun _ => rfl, fun _ => .plain rfl (by exact op_load_p tyAgg25 rfl rfl rfl rfl)⟩, ⟨.b (.agg (eFrc x_4)), fun _ => rfl, fun _ => .plain rfl (by exact op_call0 (ratio_Make_spec e7) goes11 rfl rfl)⟩, ⟨Pt 102 0, fun _ => rfl, fun _ => .plain rfl (by exact op_field_p tyFld27_0 rfl rfl)⟩, ⟨.b (.agg (eBig y0.N)), fun _ => rfl, fun _ => .plain rfl (by exact op_load_p tyAgg25 rfl rfl rfl rfl)⟩, ⟨Pt 101 18, fun _ => rfl, fun _ => .plain rfl (by exact op_field_p tyFld27_1 rfl rfl)⟩, ⟨.b (.agg (eBig x0.D)), fun _ => rfl, fun _ => .plain rfl (by exact op_load_p tyAgg25 rfl rfl rfl rfl)⟩, ⟨.b (.agg (eFrc x_5)), fun _ => rfl, fun _ => .plain rfl (by exact op_call0 (ratio_Make_spec e8) goes11 rfl rfl)⟩, ⟨_, some 104, Pt 104 0, rfl, fun _ => rfl, rfl, rfl, fun _ => .toO [101, 102, 103, 104, 105] (by exact .plain rfl (by exact op_alloc (k := 104) tyZero27 rfl)) (by exact rfl)⟩, trivial, trivial, trivial, trivial⟩, ⟨by kernel_rfl, ⟨⟨Pt 101 0, fun _ => rfl, fun _ => .plain rfl (by exact op_field_p tyFld27_0 rfl rfl)⟩, ⟨.b (.agg (eBig x0.N)), fun _ => rfl, fun _ => .plain rfl (by exact op_load_p tyAgg25 rfl rfl rfl rfl)⟩, ⟨Pt 102 18, fun _ => rfl, fun _ => .plain rfl (by exact op_field_p tyFld27_1 rfl rfl)⟩, ⟨.b (.agg (eBig y0.D)), fun _ => rfl, fun _ => .plain rfl (by exact op_load_p tyAgg25 rfl rfl rfl rfl)⟩, ⟨.b (.agg (eFrc x_4)), fun _ => rfl, fun _ => .plain rfl (by exact op_call0 (ratio_Make_spec e7) goes11 rfl rfl)⟩, ⟨Pt 102 0, fun _ => rfl, fun _ => .plain rfl (by exact op_field_p tyFld27_0 rfl rfl)⟩, ⟨.b (.agg (eBig y0.N)), fun _ => rfl, fun _ => .plain rfl (by exact op_load_p tyAgg25 rfl rfl rfl rfl)⟩, ⟨Pt 101 18, fun _ => rfl, fun _ => .plain rfl (by exact op_field_p tyFld27_1 rfl rfl)⟩, ⟨.b (.agg (eBig x0.D)), fun _ => rfl, fun _ => .plain rfl (by exact op_load_p tyAgg25 rfl rfl rfl rfl)⟩, ⟨.b (.agg (eFrc x_5)), fun _ => rfl, fun _ => .plain rfl (by exact op_call0 (ratio_Make_spec e8) goes11 rfl rfl)⟩, trivial, trivial, ⟨_, none, .b (.one .any), rfl, (fun e => by simp at e), rfl, rfl, fun _ => .toO [101, 102, 103, 104, 105] (by exact .plain rfl (by exact op_store_p tyAgg27 rfl rfl rfl rfl (Nat.le_of_ble_eq_true rfl) rfl)) (by exact rfl)⟩, trivial, trivial⟩, ⟨by kernel_rfl, ⟨trivial, trivial, trivial, trivial, trivial, trivial, trivial, trivial, trivial, trivial, trivial, trivial, trivial, ⟨_, none, .b (.one .any), rfl, (fun e => by simp at e), rfl, rfl, fun _ => .toO [101, 102, 103, 104, 105] (by exact .plain rfl (by exact op_store_p tyAgg27 rfl rfl rfl rfl (Nat.le_of_ble_eq_true rfl) rfl)) (by exact rfl)⟩, trivial⟩, ⟨by kernel_rfl, ⟨trivial, trivial, trivial, trivial, trivial, trivial, trivial, trivial, trivial, trivial, trivial, trivial, trivial, trivial, trivial⟩, trivial⟩⟩⟩⟩⟩⟩) rfl rfl rfl [4, 5, 6] [103, 104, 105] (s' := ⟨[(4, Pt 103 0), (5, Pt 104 0), (6, Pt 105 0)], [(103, .box 27 (.bool false :: .bool false :: ((eA16 .u32) A16.zero ++ (.bool false :: .bool false :: ((eA16 .u32) A16.zero))))), (104, .box 27 (eFrc x_4)), (105, .box 27 (eFrc x_5))]⟩) rfl ?_
  refine Tri.seq ?_
  refine Tri.keepS ⟨[(4, Pt 103 0), (5, Pt 104 0), (6, Pt 105 0)], [(103, .box 27 (.bool false :: .bool false :: ((eA16 .u32) A16.zero ++ (.bool false :: .bool false :: ((eA16 .u32) A16.zero))))), (104, .box 27 (eFrc x_4)), (105, .box 27 (eFrc x_5))]⟩ rfl ?_
  obtain ⟨x_6, e9, h⟩ := bnd h
  obtain ⟨x_7, e10, h⟩ := bnd h
  refine Tri.regionW mixed [false, false, false, false, false, false, false, false, false, false, true, true, true, true] [Pt 104 0, .b (.agg (eBig x_4.N)), Pt 105 0, .b (.agg (eBig x_5.N)), .b (.agg (eBig x_6)), Pt 104 18, .b (.agg (eBig x_4.D)), Pt 105 18, .b (.agg (eBig x_5.D)), .b (.agg (eBig x_7)), Pt 106 0, Pt 107 0, B true, B true] [⟨[false, false, false, false, false, false, false, false, false, false, false, false, false, false], [(4, Pt 103 0), (5, Pt 104 0), (6, Pt 105 0)], [(103, .box 27 (.bool false :: .bool false :: ((eA16 .u32) A16.zero ++ (.bool false :: .bool false :: ((eA16 .u32) A16.zero))))), (104, .box 27 (eFrc x_4)), (105, .box 27 (eFrc x_5))], [true, true, true, true, true, true, true, true, true, true, true, true, true, true], []⟩, ⟨[false, false, false, false, false, false, false, false, false, false, true, false, false, false], [(4, Pt 103 0), (5, Pt 104 0), (6, Pt 105 0)], [(103, .box 27 (.bool false :: .bool false :: ((eA16 .u32) A16.zero ++ (.bool false :: .bool false :: ((eA16 .u32) A16.zero))))), (104, .box 27 (eFrc x_4)), (105, .box 27 (eFrc x_5)), (106, .box 25 (.bool false :: .bool false :: ((eA16 .u32) A16.zero)))], [true, true, true, true, true, true, true, true, true, true, true, true, true, true], [10]⟩, ⟨[false, false, false, false, false, false, false, false, false, false, false, true, false, false], [(4, Pt 103 0), (5, Pt 104 0), (6, Pt 105 0)], [(103, .box 27 (.bool false :: .bool false :: ((eA16 .u32) A16.zero ++ (.bool false :: .bool false :: ((eA16 .u32) A16.zero))))), (104, .box 27 (eFrc x_4)), (105, .box 27 (eFrc x_5)), (107, .box 25 (.bool false :: .bool false :: ((eA16 .u32) A16.zero)))], [true, true, true, true, true, true, true, true, true, true, true, true, true, true], [11]⟩, ⟨[false, false, false, false, false, false, false, false, false, false, true, true, false, false], [(4, Pt 103 0), (5, Pt 104 0), (6, Pt 105 0)], [(103, .box 27 (.bool false :: .bool false :: ((eA16 .u32) A16.zero ++ (.bool false :: .bool false :: ((eA16 .u32) A16.zero))))), (104, .box 27 (eFrc x_4)), (105, .box 27 (eFrc x_5)), (106, .box 25 (.bool false :: .bool false :: ((eA16 .u32) A16.zero))), (107, .box 25 (.bool false :: .bool false :: ((eA16 .u32) A16.zero)))], [true, true, true, true, true, true, true, true, true, true, true, true, true, true], [10, 11]⟩, ⟨[false, false, false, false, false, false, false, false, false, false, true, true, true, false], [(4, Pt 103 0), (5, Pt 104 0), (6, Pt 105 0)], [(103, .box 27 (.bool false :: .bool false :: ((eA16 .u32) A16.zero ++ (.bool false :: .bool false :: ((eA16 .u32) A16.zero))))), (104, .box 27 (eFrc x_4)), (105, .box 27 (eFrc x_5)), (106, .box 25 (eBig x_6)), (107, .box 25 (.bool false :: .bool false :: ((eA16 .u32) A16.zero)))], [true, true, true, true, true, true, true, true, true, true, true, true, true, true], [0, 1, 2, 3, 4, 5, 6, 7, 8, 9, 10, 11, 12]⟩, ⟨[false, false, false, false, false, false, false, false, false, false, true, true, true, true], [(4, Pt 103 0), (5, Pt 104 0), (6, Pt 105 0)], [(103, .box 27 (.bool false :: .bool false :: ((eA16 .u32) A16.zero ++ (.bool false :: .bool false :: ((eA16 .u32) A16.zero))))), (104, .box 27 (eFrc x_4)), (105, .box 27 (eFrc x_5)), (106, .box 25 (eBig x_6)), (107, .box 25 (eBig x_7))], [true, true, true, true, true, true, true, true, true, true, true, true, true, true], [0, 1, 2, 3, 4, 5, 6, 7, 8, 9, 10, 11, 12, 13]⟩] rfl (⟨by kernel_rfl, ⟨⟨Pt 104 0, fun _ => rfl, fun _ => .plain rfl (by exact op_field_p tyFld27_0 rfl rfl)⟩, ⟨.b (.agg (eBig x_4.N)), fun _ => rfl, fun _ => .plain rfl (by exact op_load_p tyAgg25 rfl rfl rfl rfl)⟩, ⟨Pt 105 0, fun _ => rfl, fun _ => .plain rfl (by exact op_field_p tyFld27_0 rfl rfl)⟩, ⟨.b (.agg (eBig x_5.N)), fun _ => rfl, fun _ => .plain rfl (by exact op_load_p tyAgg25 rfl rfl rfl rfl)⟩, ⟨.b (.agg (eBig x_6)), fun _ => rfl, fun _ => .plain rfl (by exact op_call0 (whole_Mul_spec e9) goes102 rfl rfl)⟩, ⟨Pt 104 18, fun _ => rfl, fun _ => .plain rfl (by exact op_field_p tyFld27_1 rfl rfl)⟩, ⟨.b (.agg (eBig x_4.D)), fun _ => rfl, fun _ => .plain rfl (by exact op_load_p tyAgg25 rfl rfl rfl rfl)⟩, ⟨Pt 105 18, fun _ => rfl, fun _ => .plain rfl (by exact op_field_p tyFld27_1 rfl rfl)⟩, ⟨.b (.agg (eBig x_5.D)), fun _ => rfl, fun _ => .plain rfl (by exact op_load_p tyAgg25 rfl rfl rfl rfl)⟩, ⟨.b (.agg (eBig x_7)), fun _ => rfl, fun _ => .plain rfl (by exact op_call0 (whole_Mul_spec e10) goes102 rfl rfl)⟩, ⟨_, some 106, Pt 106 0, rfl, fun _ => rfl, rfl, rfl, fun _ => .toO [103, 104, 105, 106] (by exact .plain rfl (by exact op_alloc (k := 106) tyZero25 rfl)) (by exact rfl)⟩, ⟨_, some 107, Pt 107 0, rfl, fun _ => rfl, rfl, rfl, fun _ => .toO [103, 104, 105, 107] (by exact .plain rfl (by exact op_alloc (k := 107) tyZero25 rfl)) (by exact rfl)⟩, trivial, trivial, trivial⟩, ⟨by kernel_rfl, ⟨⟨Pt 104 0, fun _ => rfl, fun _ => .plain rfl (by exact op_field_p tyFld27_0 rfl rfl)⟩, ⟨.b (.agg (eBig x_4.N)), fun _ => rfl, fun _ => .plain rfl (by exact op_load_p tyAgg25 rfl rfl rfl rfl)⟩, ⟨Pt 105 0, fun _ => rfl, fun _ => .plain rfl (by exact op_field_p tyFld27_0 rfl rfl)⟩, ⟨.b (.agg (eBig x_5.N)), fun _ => rfl, fun _ => .plain rfl (by exact op_load_p tyAgg25 rfl rfl rfl rfl)⟩, ⟨.b (.agg (eBig x_6)), fun _ => rfl, fun _ => .plain rfl (by exact op_call0 (whole_Mul_spec e9) goes102 rfl rfl)⟩, ⟨Pt 104 18, fun _ => rfl, fun _ => .plain rfl (by exact op_field_p tyFld27_1 rfl rfl)⟩, ⟨.b (.agg (eBig x_4.D)), fun _ => rfl, fun _ => .plain rfl (by exact op_load_p tyAgg25 rfl rfl rfl rfl)⟩, ⟨Pt 105 18, fun _ => rfl, fun _ => .plain rfl (by exact op_field_p tyFld27_1 rfl rfl)⟩, ⟨.b (.agg (eBig x_5.D)), fun _ => rfl, fun _ => .plain rfl (by exact op_load_p tyAgg25 rfl rfl rfl rfl)⟩, ⟨.b (.agg (eBig x_7)), fun _ => rfl, fun _ => .plain rfl (by exact op_call0 (whole_Mul_spec e10) goes102 rfl rfl)⟩, trivial, ⟨_, some 107, Pt 107 0, rfl, fun _ => rfl, rfl, rfl, fun _ => .toO [103, 104, 105, 106, 107] (by exact .plain rfl (by exact op_alloc (k := 107) tyZero25 rfl)) (by exact rfl)⟩, trivial, trivial, trivial⟩, ⟨by kernel_rfl, ⟨⟨Pt 104 0, fun _ => rfl, fun _ => .plain rfl (by exact op_field_p tyFld27_0 rfl rfl)⟩, ⟨.b (.agg (eBig x_4.N)), fun _ => rfl, fun _ => .plain rfl (by exact op_load_p tyAgg25 rfl rfl rfl rfl)⟩, ⟨Pt 105 0, fun _ => rfl, fun _ => .plain rfl (by exact op_field_p tyFld27_0 rfl rfl)⟩, ⟨.b (.agg (eBig x_5.N)), fun _ => rfl, fun _ => .plain rfl (by exact op_load_p tyAgg25 rfl rfl rfl rfl)⟩, ⟨.b (.agg (eBig x_6)), fun _ => rfl, fun _ => .plain rfl (by exact op_call0 (whole_Mul_spec e9) goes102 rfl rfl)⟩, ⟨Pt 104 18, fun _ => rfl, fun _ => .plain rfl (by exact op_field_p tyFld27_1 rfl rfl)⟩, ⟨.b (.agg (eBig x_4.D)), fun _ => rfl, fun _ => .plain rfl (by exact op_load_p tyAgg25 rfl rfl rfl rfl)⟩, ⟨Pt 105 18, fun _ => rfl, fun _ => .plain rfl (by exact op_field_p tyFld27_1 rfl rfl)⟩, ⟨.b (.agg (eBig x_5.D)), fun _ => rfl, fun _ => .plain rfl (by exact op_load_p tyAgg25 rfl rfl rfl rfl)⟩, ⟨.b (.agg (eBig x_7)), fun _ => rfl, fun _ => .plain rfl (by exact op_call0 (whole_Mul_spec e10) goes102 rfl rfl)⟩, ⟨_, some 106, Pt 106 0, rfl, fun _ => rfl, rfl, rfl, fun _ => .toO [103, 104, 105, 106, 107] (by exact .plain rfl (by exact op_alloc (k := 106) tyZero25 rfl)) (by exact rfl)⟩, trivial, trivial, trivial, trivial⟩, ⟨by kernel_rfl, ⟨⟨Pt 104 0, fun _ => rfl, fun _ => .plain rfl (by exact op_field_p tyFld27_0 rfl rfl)⟩, ⟨.b (.agg (eBig x_4.N)), fun _ => rfl, fun _ => .plain rfl (by exact op_load_p tyAgg25 rfl rfl rfl rfl)⟩, ⟨Pt 105 0, fun _ => rfl, fun _ => .plain rfl (by exact op_field_p tyFld27_0 rfl rfl)⟩, ⟨.b (.agg (eBig x_5.N)), fun _ => rfl, fun _ => .plain rfl (by exact op_load_p tyAgg25 rfl rfl rfl rfl)⟩, ⟨.b (.agg (eBig x_6)), fun _ => rfl, fun _ => .plain rfl (by exact op_call0 (whole_Mul_spec e9) goes102 rfl rfl)⟩, ⟨Pt 104 18, fun _ => rfl, fun _ => .plain rfl (by exact op_field_p tyFld27_1 rfl rfl)⟩, ⟨.b (.agg (eBig x_4.D)), fun _ => rfl, fun _ => .plain rfl (by exact op_load_p tyAgg25 rfl rfl rfl rfl)⟩, ⟨Pt 105 18, fun _ => rfl, fun _ => .plain rfl (by exact op_field_p tyFld27_1 rfl rfl)⟩, ⟨.b (.agg (eBig x_5.D)), fun _ => rfl, fun _ => .plain rfl (by exact op_load_p tyAgg25 rfl rfl rfl rfl)⟩, ⟨.b (.agg (eBig x_7)), fun _ => rfl, fun _ => .plain rfl (by exact op_call0 (whole_Mul_spec e10) goes102 rfl rfl)⟩, trivial, trivial, ⟨_, none, .b (.one .any), rfl, (fun e => by simp at e), rfl, rfl, fun _ => .toO [103, 104, 105, 106, 107] (by exact .plain rfl (by exact op_store_p tyAgg25 rfl rfl rfl rfl (Nat.le_of_ble_eq_true rfl) rfl)) (by exact rfl)⟩, trivial, trivial⟩, ⟨by kernel_rfl, ⟨trivial, trivial, trivial, trivial, trivial, trivial, trivial, trivial, trivial, trivial, trivial, trivial, trivial, ⟨_, none, .b (.one .any), rfl, (fun e => by simp at e), rfl, rfl, fun _ => .toO [103, 104, 105, 106, 107] (by exact .plain rfl (by exact op_store_p tyAgg25 rfl rfl rfl rfl (Nat.le_of_ble_eq_true rfl) rfl)) (by exact rfl)⟩, trivial⟩, ⟨by kernel_rfl, ⟨trivial, trivial, trivial, trivial, trivial, trivial, trivial, trivial, trivial, trivial, trivial, trivial, trivial, trivial, trivial⟩, trivial⟩⟩⟩⟩⟩⟩) rfl rfl rfl [4, 7, 8] [103, 106, 107] (s' := ⟨[(4, Pt 103 0), (7, Pt 106 0), (8, Pt 107 0)], [(103, .box 27 (.bool false :: .bool false :: ((eA16 .u32) A16.zero ++ (.bool false :: .bool false :: ((eA16 .u32) A16.zero))))), (106, .box 25 (eBig x_6)), (107, .box 25 (eBig x_7))]⟩) rfl ?_
  refine Tri.seq (Tri.seq (Tri.regionL ?_))
  refine Oc rfl (op_field_p tyFld25_0 rfl rfl) (Oc rfl (op_load_p1 tyOne4 rfl rfl rfl) (Oc rfl (op_move rfl) ?_))
  refine OpsL.consG (!x_6.Bad) 99 [] (.plain rfl) (eq_f _) rfl rfl (fun g11 => trivial) (fun g11 => op_field_p tyFld25_0 rfl rfl) ?_
  refine OpsL.consG (!x_6.Bad) 99 [41] (.plain rfl) (eq_f _) rfl rfl (fun g12 => ⟨g12, trivial⟩) (fun g12 => op_load_p1 tyOne4 rfl rfl rfl) ?_
  refine Oc rfl (op_pick_or (fun e => by rw [e]; rfl) rfl rfl rfl rfl) ?_
  refine OpsL.nilS ⟨[(4, Pt 103 0), (7, Pt 106 0), (8, Pt 107 0), (43, B (x_6.Bad || x_7.Bad))], [(103, .box 27 (.bool false :: .bool false :: ((eA16 .u32) A16.zero ++ (.bool false :: .bool false :: ((eA16 .u32) A16.zero))))), (106, .box 25 (eBig x_6)), (107, .box 25 (eBig x_7))]⟩ rfl ?_
  refine Tri.ite h rfl (fun _ h => ?_) (fun _ h => ?_)
  ·refine Tri.seq (Tri.regionL ?_)
   obtain ⟨x_8, e13, h⟩ := bnd h
   refine Oc rfl (op_call0 (ratio_Bad_spec e13) goes27 rfl rfl) (Oc rfl (op_store_p tyAgg27 rfl rfl rfl rfl (Nat.le_of_ble_eq_true rfl) rfl) ?_)
   refine OpsL.nilS ⟨[(4, Pt 103 0)], [(103, .box 27 (eFrc x_8))]⟩ rfl ?_
   refine Tri.ret ?_
   refine Fin.then_ret ?_
   obtain rfl := Option.some.inj h
   refine Fin.keepS ⟨[(4, Pt 103 0)], [(103, .box 27 (eFrc x_8))]⟩ rfl ?_
   refine Fin.result' [.agg (eFrc x_8)] (.inl rfl) rfl (.cons (.agg tyAgg27 rfl rfl rfl rfl) .nil) ⟨rfl, rfl⟩
  ·refine Tri.skip ?_
   refine Fin.keepS ⟨[(4, Pt 103 0), (7, Pt 106 0), (8, Pt 107 0)], [(103, .box 27 (.bool false :: .bool false :: ((eA16 .u32) A16.zero ++ (.bool false :: .bool false :: ((eA16 .u32) A16.zero))))), (106, .box 25 (eBig x_6)), (107, .box 25 (eBig x_7))]⟩ rfl ?_
   refine Fin.then (Tri.seq (Tri.regionL ?_))
   refine Oc rfl (op_load_p tyAgg25 rfl rfl rfl rfl) (Oc rfl (op_load_p tyAgg25 rfl rfl rfl rfl) (Oc rfl (op_build tyBuild27 rfl rfl) (Oc rfl (op_store_p tyAgg27 rfl rfl rfl rfl (Nat.le_of_ble_eq_true rfl) rfl) ?_)))
   refine OpsL.nilS ⟨[(4, Pt 103 0)], [(103, .box 27 (eBig x_6 ++ (eBig x_7)))]⟩ rfl ?_
   refine Tri.ret ?_
   obtain rfl := Option.some.inj h
   refine Fin.keepS ⟨[(4, Pt 103 0)], [(103, .box 27 (eBig x_6 ++ (eBig x_7)))]⟩ rfl ?_
   refine Fin.result' [.agg (eBig x_6 ++ (eBig x_7))] (.inl rfl) rfl (.cons (.agg tyAgg27 rfl rfl rfl rfl) .nil) ⟨rfl, rfl⟩
def ratio_Div_S (F : Nat) (x0 : Frc) (y0 : Frc) : Option Frc :=
 Option.bind (ratio_Good_S F y0) (fun x_1 => if (!x_1) = true then (Option.bind (ratio_Bad_S F) (fun x_2 => some x_2)) else (Option.bind (ratio_Make_S F y0.D y0.N) (fun x_3 => Option.bind (ratio_Mul_S F x0 x_3) (fun x_4 => some x_4))))
theorem ratio_Div_spec {F : Nat} {x0 : Frc} {y0 : Frc} {r : Frc} (h : ratio_Div_S F x0 y0 = some r) : Meets Tryz.prog (tabs mx) 46 [] [.agg (eFrc x0), .agg (eFrc y0)] (Is [] (.b (.agg (eFrc r)))) := by
 unfold ratio_Div_S at h
 refine Meets.intro 16 Tryz.func46 Tryz.ntmps46 rfl (by simp) fun E => ?_
 show Tri _ E ⟨16, [], []⟩ _ ⟨[(0, .b (.agg (eFrc x0))), (1, .b (.agg (eFrc y0)))], []⟩ _
 refine Tri.seq (Tri.regionL ?_)
 refine Oc rfl (op_box (k := 101) rfl rfl) (Oc rfl (op_box (k := 102) rfl rfl) (Oc rfl (op_alloc (k := 103) tyZero27 rfl) ?_))
 refine OpsL.nilS ⟨[(2, Pt 101 0), (3, Pt 102 0), (4, Pt 103 0)], [(101, .box 27 (eFrc x0)), (102, .box 27 (eFrc y0)), (103, .box 27 (.bool false :: .bool false :: ((eA16 .u32) A16.zero ++ (.bool false :: .bool false :: ((eA16 .u32) A16.zero)))))]⟩ rfl ?_
 refine Tri.seq (Tri.seq (Tri.regionL ?_))
 refine Oc rfl (op_load_p tyAgg27 rfl rfl rfl rfl) ?_
 obtain ⟨x_1, e1, h⟩ := bnd h
 refine Oc rfl (op_call0 (ratio_Good_spec e1) goes26 rfl rfl) (Oc rfl (op_not rfl) ?_)
 refine OpsL.nilS ⟨[(2, Pt 101 0), (3, Pt 102 0), (4, Pt 103 0), (7, B (!x_1))], [(101, .box 27 (eFrc x0)), (102, .box 27 (eFrc y0)), (103, .box 27 (.bool false :: .bool false :: ((eA16 .u32) A16.zero ++ (.bool false :: .bool false :: ((eA16 .u32) A16.zero)))))]⟩ rfl ?_
 refine Tri.ite h rfl (fun _ h => ?_) (fun _ h => ?_)
 ·refine Tri.seq (Tri.regionL ?_)
  obtain ⟨x_2, e2, h⟩ := bnd h
  refine Oc rfl (op_call0 (ratio_Bad_spec e2) goes27 rfl rfl) (Oc rfl (op_store_p tyAgg27 rfl rfl rfl rfl (Nat.le_of_ble_eq_true rfl) rfl) ?_)
  refine OpsL.nilS ⟨[(4, Pt 103 0)], [(103, .box 27 (eFrc x_2))]⟩ rfl ?_
  refine Tri.ret ?_
  refine Fin.then_ret ?_
  obtain rfl := Option.some.inj h
  refine Fin.keepS ⟨[(4, Pt 103 0)], [(103, .box 27 (eFrc x_2))]⟩ rfl ?_
  refine Fin.result' [.agg (eFrc x_2)] (.inl rfl) rfl (.cons (.agg tyAgg27 rfl rfl rfl rfl) .nil) ⟨rfl, rfl⟩
 ·refine Tri.skip ?_
  refine Fin.keepS ⟨[(2, Pt 101 0), (3, Pt 102 0), (4, Pt 103 0)], [(101, .box 27 (eFrc x0)), (102, .box 27 (eFrc y0)), (103, .box 27 (.bool false :: .bool false :: ((eA16 .u32) A16.zero ++ (.bool false :: .bool false :: ((eA16 .u32) A16.zero)))))]⟩ rfl ?_
  refine Fin.then (Tri.seq ?_)
  refine Tri.keepS ⟨[(2, Pt 101 0), (3, Pt 102 0), (4, Pt 103 0)], [(101, .box 27 (eFrc x0)), (102, .box 27 (eFrc y0)), (103, .box 27 (.bool false :: .bool false :: ((eA16 .u32) A16.zero ++ (.bool false :: .bool false :: ((eA16 .u32) A16.zero)))))]⟩ rfl ?_
  obtain ⟨x_3, e3, h⟩ := bnd h
  obtain ⟨x_4, e4, h⟩ := bnd h
  refine Tri.regionY mixed 7 [.b (.agg (eFrc x0)), Pt 102 18, .b (.agg (eBig y0.D)), Pt 102 0, .b (.agg (eBig y0.N)), .b (.agg (eFrc x_3)), .b (.agg (eFrc x_4))] [4] [103] (s' := ⟨[(4, Pt 103 0)], [(103, .box 27 (eFrc x_4))]⟩) rfl ⟨fun _ => .plain rfl (op_load_p tyAgg27 rfl rfl rfl rfl), fun _ => .plain rfl (op_field_p tyFld27_1 rfl rfl), fun _ => .plain rfl (op_load_p tyAgg25 rfl rfl rfl rfl), fun _ => .plain rfl (op_field_p tyFld27_0 rfl rfl), fun _ => .plain rfl (op_load_p tyAgg25 rfl rfl rfl rfl), fun _ => .plain rfl (op_call0 (ratio_Make_spec e3) goes11 rfl rfl), fun _ => .plain rfl (op_call0 (ratio_Mul_spec e4) goes45 rfl rfl), trivial⟩ ⟨_, by exact .plain rfl (op_store_p tyAgg27 rfl rfl rfl rfl (Nat.le_of_ble_eq_true rfl) rfl), rfl⟩ rfl ?_
  refine Tri.ret ?_
  obtain rfl := Option.some.inj h
  refine Fin.keepS ⟨[(4, Pt 103 0)], [(103, .box 27 (eFrc x_4))]⟩ rfl ?_
  refine Fin.result' [.agg (eFrc x_4)] (.inl rfl) rfl (.cons (.agg tyAgg27 rfl rfl rfl rfl) .nil) ⟨rfl, rfl⟩
def ratio_Floor_S (F : Nat) (x0 : Frc) : Option Big :=
 Option.bind (ratio_Good_S F x0) (fun x_1 => if (!x_1) = true then (Option.bind (whole_Bad_S F) (fun x_2 => some x_2)) else (Option.bind (whole_Quo_S F x0.N x0.D) (fun x_3 => some x_3)))
theorem ratio_Floor_spec {F : Nat} {x0 : Frc} {r : Big} (h : ratio_Floor_S F x0 = some r) : Meets Tryz.prog (tabs mx) 31 [] [.agg (eFrc x0)] (Is [] (.b (.agg (eBig r)))) := by
 unfold ratio_Floor_S at h
 refine Meets.intro 12 Tryz.func31 Tryz.ntmps31 rfl (by simp) fun E => ?_
 show Tri _ E ⟨12, [], []⟩ _ ⟨[(0, .b (.agg (eFrc x0)))], []⟩ _
 refine Tri.seq (Tri.regionL ?_)
 refine Oc rfl (op_box (k := 101) rfl rfl) (Oc rfl (op_alloc (k := 102) tyZero25 rfl) ?_)
 refine OpsL.nilS ⟨[(1, Pt 101 0), (2, Pt 102 0)], [(101, .box 27 (eFrc x0)), (102, .box 25 (.bool false :: .bool false :: ((eA16 .u32) A16.zero)))]⟩ rfl ?_
 refine Tri.seq (Tri.seq (Tri.regionL ?_))
 refine Oc rfl (op_load_p tyAgg27 rfl rfl rfl rfl) ?_
 obtain ⟨x_1, e1, h⟩ := bnd h
 refine Oc rfl (op_call0 (ratio_Good_spec e1) goes26 rfl rfl) (Oc rfl (op_not rfl) ?_)
 refine OpsL.nilS ⟨[(1, Pt 101 0), (2, Pt 102 0), (5, B (!x_1))], [(101, .box 27 (eFrc x0)), (102, .box 25 (.bool false :: .bool false :: ((eA16 .u32) A16.zero)))]⟩ rfl ?_
 refine Tri.ite h rfl (fun _ h => ?_) (fun _ h => ?_)
 ·refine Tri.seq (Tri.regionL ?_)
  obtain ⟨x_2, e2, h⟩ := bnd h
  refine Oc rfl (op_call0 (whole_Bad_spec e2) goes92 rfl rfl) (Oc rfl (op_store_p tyAgg25 rfl rfl rfl rfl (Nat.le_of_ble_eq_true rfl) rfl) ?_)
  refine OpsL.nilS ⟨[(2, Pt 102 0)], [(102, .box 25 (eBig x_2))]⟩ rfl ?_
  refine Tri.ret ?_
  refine Fin.then_ret ?_
  obtain rfl := Option.some.inj h
  refine Fin.keepS ⟨[(2, Pt 102 0)], [(102, .box 25 (eBig x_2))]⟩ rfl ?_
  refine Fin.result' [.agg (eBig x_2)] (.inl rfl) rfl (.cons (.agg tyAgg25 rfl rfl rfl rfl) .nil) ⟨rfl, rfl⟩
 ·refine Tri.skip ?_
  refine Fin.keepS ⟨[(1, Pt 101 0), (2, Pt 102 0)], [(101, .box 27 (eFrc x0)), (102, .box 25 (.bool false :: .bool false :: ((eA16 .u32) A16.zero)))]⟩ rfl ?_
  refine Fin.then (Tri.seq (Tri.regionL ?_))
  refine Oc rfl (op_field_p tyFld27_0 rfl rfl) (Oc rfl (op_load_p tyAgg25 rfl rfl rfl rfl) (Oc rfl (op_field_p tyFld27_1 rfl rfl) (Oc rfl (op_load_p tyAgg25 rfl rfl rfl rfl) ?_)))
  obtain ⟨x_3, e3, h⟩ := bnd h
  refine Oc rfl (op_call0 (whole_Quo_spec e3) goes75 rfl rfl) (Oc rfl (op_store_p tyAgg25 rfl rfl rfl rfl (Nat.le_of_ble_eq_true rfl) rfl) ?_)
  refine OpsL.nilS ⟨[(2, Pt 102 0)], [(102, .box 25 (eBig x_3))]⟩ rfl ?_
  refine Tri.ret ?_
  obtain rfl := Option.some.inj h
  refine Fin.keepS ⟨[(2, Pt 102 0)], [(102, .box 25 (eBig x_3))]⟩ rfl ?_
  refine Fin.result' [.agg (eBig x_3)] (.inl rfl) rfl (.cons (.agg tyAgg25 rfl rfl rfl rfl) .nil) ⟨rfl, rfl⟩
def ratio_Neg_S (F : Nat) (x0 : Frc) : Option Frc :=
 Option.bind (ratio_Good_S F x0) (fun x_1 => if (!x_1) = true then (Option.bind (ratio_Bad_S F) (fun x_2 => some x_2)) else (Option.bind (whole_Neg_S F x0.N) (fun x_3 => some (⟨x_3, x0.D⟩ : Frc))))
theorem ratio_Neg_spec {F : Nat} {x0 : Frc} {r : Frc} (h : ratio_Neg_S F x0 = some r) : Meets Tryz.prog (tabs mx) 43 [] [.agg (eFrc x0)] (Is [] (.b (.agg (eFrc r)))) := by
 unfold ratio_Neg_S at h
 refine Meets.intro 13 Tryz.func43 Tryz.ntmps43 rfl (by simp) fun E => ?_
 show Tri _ E ⟨13, [], []⟩ _ ⟨[(0, .b (.agg (eFrc x0)))], []⟩ _
 refine Tri.seq (Tri.regionL ?_)
 refine Oc rfl (op_box (k := 101) rfl rfl) (Oc rfl (op_alloc (k := 102) tyZero27 rfl) ?_)
 refine OpsL.nilS ⟨[(1, Pt 101 0), (2, Pt 102 0)], [(101, .box 27 (eFrc x0)), (102, .box 27 (.bool false :: .bool false :: ((eA16 .u32) A16.zero ++ (.bool false :: .bool false :: ((eA16 .u32) A16.zero)))))]⟩ rfl ?_
 refine Tri.seq (Tri.seq (Tri.regionL ?_))
 refine Oc rfl (op_load_p tyAgg27 rfl rfl rfl rfl) ?_
 obtain ⟨x_1, e1, h⟩ := bnd h
 refine Oc rfl (op_call0 (ratio_Good_spec e1) goes26 rfl rfl) (Oc rfl (op_not rfl) ?_)
 refine OpsL.nilS ⟨[(1, Pt 101 0), (2, Pt 102 0), (5, B (!x_1))], [(101, .box 27 (eFrc x0)), (102, .box 27 (.bool false :: .bool false :: ((eA16 .u32) A16.zero ++ (.bool false :: .bool false :: ((eA16 .u32) A16.zero)))))]⟩ rfl ?_
 refine Tri.ite h rfl (fun _ h => ?_) (fun _ h => ?_)
 ·refine Tri.seq (Tri.regionL ?_)
  obtain ⟨x_2, e2, h⟩ := bnd h
  refine Oc rfl (op_call0 (ratio_Bad_spec e2) goes27 rfl rfl) (Oc rfl (op_store_p tyAgg27 rfl rfl rfl rfl (Nat.le_of_ble_eq_true rfl) rfl) ?_)
  refine OpsL.nilS ⟨[(2, Pt 102 0)], [(102, .box 27 (eFrc x_2))]⟩ rfl ?_
  refine Tri.ret ?_
  refine Fin.then_ret ?_
  obtain rfl := Option.some.inj h
  refine Fin.keepS ⟨[(2, Pt 102 0)], [(102, .box 27 (eFrc x_2))]⟩ rfl ?_
  refine Fin.result' [.agg (eFrc x_2)] (.inl rfl) rfl (.cons (.agg tyAgg27 rfl rfl rfl rfl) .nil) ⟨rfl, rfl⟩
 ·refine Tri.skip ?_
  refine Fin.keepS ⟨[(1, Pt 101 0), (2, Pt 102 0)], [(101, .box 27 (eFrc x0)), (102, .box 27 (.bool false :: .bool false :: ((eA16 .u32) A16.zero ++ (.bool false :: .bool false :: ((eA16 .u32) A16.zero)))))]⟩ rfl ?_
  refine Fin.then (Tri.seq ?_)
  refine Tri.keepS ⟨[(1, Pt 101 0), (2, Pt 102 0)], [(101, .box 27 (eFrc x0)), (102, .box 27 (.bool false :: .bool false :: ((eA16 .u32) A16.zero ++ (.bool false :: .bool false :: ((eA16 .u32) A16.zero)))))]⟩ rfl ?_
  obtain ⟨x_3, e3, h⟩ := bnd h
  refine Tri.regionY mixed 6 [Pt 101 0, .b (.agg (eBig x0.N)), .b (.agg (eBig x_3)), Pt 101 18, .b (.agg (eBig x0.D)), .b (.agg (eBig x_3 ++ (eBig x0.D)))] [2] [102] (s' := ⟨[(2, Pt 102 0)], [(102, .box 27 (eBig x_3 ++ (eBig x0.D)))]⟩) rfl ⟨fun _ => .plain rfl (op_field_p tyFld27_0 rfl rfl), fun _ => .plain rfl (op_load_p tyAgg25 rfl rfl rfl rfl), fun _ => .plain rfl (op_call0 (whole_Neg_spec e3) goes74 rfl rfl), fun _ => .plain rfl (op_field_p tyFld27_1 rfl rfl), fun _ => .plain rfl (op_load_p tyAgg25 rfl rfl rfl rfl), fun _ => .plain rfl (op_build tyBuild27 rfl rfl), trivial⟩ ⟨_, by exact .plain rfl (op_store_p tyAgg27 rfl rfl rfl rfl (Nat.le_of_ble_eq_true rfl) rfl), rfl⟩ rfl ?_
  refine Tri.ret ?_
  obtain rfl := Option.some.inj h
  refine Fin.keepS ⟨[(2, Pt 102 0)], [(102, .box 27 (eBig x_3 ++ (eBig x0.D)))]⟩ rfl ?_
  refine Fin.result' [.agg (eBig x_3 ++ (eBig x0.D))] (.inl rfl) rfl (.cons (.agg tyAgg27 rfl rfl rfl rfl) .nil) ⟨rfl, rfl⟩
def ratio_Ceil_S (F : Nat) (x0 : Frc) : Option Big :=
 Option.bind (ratio_Neg_S F x0) (fun x_1 => Option.bind (ratio_Floor_S F x_1) (fun x_2 => Option.bind (whole_Neg_S F x_2) (fun x_3 => some x_3)))
theorem ratio_Ceil_spec {F : Nat} {x0 : Frc} {r : Big} (h : ratio_Ceil_S F x0 = some r) : Meets Tryz.prog (tabs mx) 33 [] [.agg (eFrc x0)] (Is [] (.b (.agg (eBig r)))) := by
 unfold ratio_Ceil_S at h
 refine Meets.intro 7 Tryz.func33 Tryz.ntmps33 rfl (by simp) fun E => ?_
 show Tri _ E ⟨7, [], []⟩ _ ⟨[(0, .b (.agg (eFrc x0)))], []⟩ _
 refine Tri.seq (Tri.regionL ?_)
 refine Oc rfl (op_box (k := 101) rfl rfl) (Oc rfl (op_alloc (k := 102) tyZero25 rfl) ?_)
 refine OpsL.nilS ⟨[(1, Pt 101 0), (2, Pt 102 0)], [(101, .box 27 (eFrc x0)), (102, .box 25 (.bool false :: .bool false :: ((eA16 .u32) A16.zero)))]⟩ rfl ?_
 refine Tri.seq (Tri.regionL ?_)
 refine Oc rfl (op_load_p tyAgg27 rfl rfl rfl rfl) ?_
 obtain ⟨x_1, e1, h⟩ := bnd h
 refine Oc rfl (op_call0 (ratio_Neg_spec e1) goes43 rfl rfl) ?_
 obtain ⟨x_2, e2, h⟩ := bnd h
 refine Oc rfl (op_call0 (ratio_Floor_spec e2) goes31 rfl rfl) ?_
 obtain ⟨x_3, e3, h⟩ := bnd h
 refine Oc rfl (op_call0 (whole_Neg_spec e3) goes74 rfl rfl) (Oc rfl (op_store_p tyAgg25 rfl rfl rfl rfl (Nat.le_of_ble_eq_true rfl) rfl) ?_)
 refine OpsL.nilS ⟨[(2, Pt 102 0)], [(102, .box 25 (eBig x_3))]⟩ rfl ?_
 refine Tri.ret ?_
 obtain rfl := Option.some.inj h
 refine Fin.keepS ⟨[(2, Pt 102 0)], [(102, .box 25 (eBig x_3))]⟩ rfl ?_
 refine Fin.result' [.agg (eBig x_3)] (.inl rfl) rfl (.cons (.agg tyAgg25 rfl rfl rfl rfl) .nil) ⟨rfl, rfl⟩
def whole_Rem_S (F : Nat) (a0 : Big) (b0 : Big) : Option Big :=
 Option.bind (whole_divided_S F a0 b0) (un2 fun x_1 x_2 => some x_2)
theorem whole_Rem_spec {F : Nat} {a0 : Big} {b0 : Big} {r : Big} (h : whole_Rem_S F a0 b0 = some r) : Meets Tryz.prog (tabs mx) 94 [] [.agg (eBig a0), .agg (eBig b0)] (Is [] (.b (.agg (eBig r)))) := by
 unfold whole_Rem_S at h
 refine Meets.intro 14 Tryz.func94 Tryz.ntmps94 rfl (by simp) fun E => ?_
 show Tri _ E ⟨14, [], []⟩ _ ⟨[(0, .b (.agg (eBig a0))), (1, .b (.agg (eBig b0)))], []⟩ _
 refine Tri.seq (Tri.regionL ?_)
 refine Oc rfl (op_box (k := 101) rfl rfl) (Oc rfl (op_box (k := 102) rfl rfl) (Oc rfl (op_alloc (k := 103) tyZero25 rfl) ?_))
 refine OpsL.nilS ⟨[(2, Pt 101 0), (3, Pt 102 0), (4, Pt 103 0)], [(101, .box 25 (eBig a0)), (102, .box 25 (eBig b0)), (103, .box 25 (.bool false :: .bool false :: ((eA16 .u32) A16.zero)))]⟩ rfl ?_
 refine Tri.seq (Tri.regionL ?_)
 refine Oc rfl (op_load_p tyAgg25 rfl rfl rfl rfl) (Oc rfl (op_load_p tyAgg25 rfl rfl rfl rfl) ?_)
 obtain ⟨⟨x_1, x_2⟩, e1, h⟩ := bnd h
 refine Oc rfl (op_call0 (whole_divided_spec e1) goes118 rfl rfl) (Oc rfl (op_move rfl) (Oc rfl (op_extract rfl rfl) ?_))
 refine OpsL.keepS ⟨[(4, Pt 103 0), (7, .tup [.agg (eBig x_1), .agg (eBig x_2)]), (11, .b (.agg (eBig x_1)))], [(103, .box 25 (.bool false :: .bool false :: ((eA16 .u32) A16.zero)))]⟩ rfl ?_
 refine Oc rfl (op_extract rfl rfl) (Oc rfl (op_alloc (k := 104) tyZero25 rfl) (Oc rfl (op_alloc (k := 105) tyZero25 rfl) (Oc rfl (op_store_p tyAgg25 rfl rfl rfl rfl (Nat.le_of_ble_eq_true rfl) rfl) (Oc rfl (op_store_p tyAgg25 rfl rfl rfl rfl (Nat.le_of_ble_eq_true rfl) rfl) ?_))))
 refine OpsL.nilS ⟨[(4, Pt 103 0), (6, Pt 105 0)], [(103, .box 25 (.bool false :: .bool false :: ((eA16 .u32) A16.zero))), (105, .box 25 (eBig x_2))]⟩ rfl ?_
 refine Tri.seq (Tri.regionL ?_)
 refine Oc rfl (op_load_p tyAgg25 rfl rfl rfl rfl) (Oc rfl (op_store_p tyAgg25 rfl rfl rfl rfl (Nat.le_of_ble_eq_true rfl) rfl) ?_)
 refine OpsL.nilS ⟨[(4, Pt 103 0)], [(103, .box 25 (eBig x_2))]⟩ rfl ?_
 refine Tri.ret ?_
 obtain rfl := Option.some.inj h
 refine Fin.keepS ⟨[(4, Pt 103 0)], [(103, .box 25 (eBig x_2))]⟩ rfl ?_
 refine Fin.result' [.agg (eBig x_2)] (.inl rfl) rfl (.cons (.agg tyAgg25 rfl rfl rfl rfl) .nil) ⟨rfl, rfl⟩
def whole_Cmp_S (F : Nat) (a0 : Big) (b0 : Big) : Option Int :=
 Option.bind (whole_good_S F [a0]) (fun x_1 => Option.bind (whole_good_S F [b0]) (fun x_2 => if ((!x_1) && (!x_2)) = true then (some 0) else (if (!x_1) = true then (some (-1)) else (if (!x_2) = true then (some 1) else (if (a0.Neg != b0.Neg) = true then (if a0.Neg = true then (some (-1)) else (some 1)) else (if a0.Neg = true then (Option.bind (whole_order_S F b0.W a0.W) (fun x_3 => some x_3)) else (Option.bind (whole_order_S F a0.W b0.W) (fun x_4 => some x_4))))))))
theorem whole_Cmp_spec {F : Nat} {a0 : Big} {b0 : Big} {r : Int} (h : whole_Cmp_S F a0 b0 = some r) : Meets Tryz.prog (tabs mx) 95 [] [.agg (eBig a0), .agg (eBig b0)] (Is [] (.b (.one (.i r)))) := by
 unfold whole_Cmp_S at h
 refine Meets.intro 47 Tryz.func95 Tryz.ntmps95 rfl (by simp) fun E => ?_
 show Tri _ E ⟨47, [], []⟩ _ ⟨[(0, .b (.agg (eBig a0))), (1, .b (.agg (eBig b0)))], []⟩ _
 refine Tri.seq (Tri.regionL ?_)
 refine Oc rfl (op_box (k := 101) rfl rfl) (Oc rfl (op_box (k := 102) rfl rfl) (Oc rfl (op_assign rfl) ?_))
 refine OpsL.nilS ⟨[(2, Pt 101 0), (3, Pt 102 0)], [(101, .box 25 (eBig a0)), (102, .box 25 (eBig b0))]⟩ rfl ?_
 refine Tri.seq ?_
 refine Tri.keepS ⟨[(2, Pt 101 0), (3, Pt 102 0)], [(101, .box 25 (eBig a0)), (102, .box 25 (eBig b0))]⟩ rfl ?_
 obtain ⟨x_1, e1, h⟩ := bnd h
 obtain ⟨x_2, e2, h⟩ := bnd h
 refine Tri.regionY mixed 8 [.b (.agg (eBig a0)), .b (.one (.sl 18 ([a0].map eBig))), B x_1, .b (.agg (eBig b0)), .b (.one (.sl 18 ([b0].map eBig))), B x_2, B x_1, B x_2] [2, 3, 5, 6] [101, 102] (s' := ⟨[(2, Pt 101 0), (3, Pt 102 0), (5, B x_1), (6, B x_2)], [(101, .box 25 (eBig a0)), (102, .box 25 (eBig b0))]⟩) rfl ⟨fun _ => .plain rfl (op_load_p tyAgg25 rfl rfl rfl rfl), fun _ => .plain rfl (op_buildSliceP (es := [a0].map eBig) tySl117 rfl rfl (uni_map fun _ => rfl) rfl (by decide) (by decide)), fun _ => .plain rfl (op_call0 (whole_good_spec e1) goes113 rfl rfl), fun _ => .plain rfl (op_load_p tyAgg25 rfl rfl rfl rfl), fun _ => .plain rfl (op_buildSliceP (es := [b0].map eBig) tySl117 rfl rfl (uni_map fun _ => rfl) rfl (by decide) (by decide)), fun _ => .plain rfl (op_call0 (whole_good_spec e2) goes113 rfl rfl), fun _ => .plain rfl (op_assign rfl), fun _ => .plain rfl (op_assign rfl), trivial⟩ rfl rfl ?_
 refine Tri.seq (Tri.block (Tri.seq (Tri.regionL ?_)))
 refine Oc rfl (op_move rfl) (Oc rfl (op_not rfl) (Oc rfl (op_move rfl) ?_))
 refine OpsL.consG (!x_1) 99 [] (.plain rfl) (eq_t _) rfl rfl (fun g3 => trivial) (fun g3 => op_move rfl) ?_
 refine OpsL.consG (!x_1) 99 [17] (.plain rfl) (eq_t _) rfl rfl (fun g4 => ⟨g4, trivial⟩) (fun g4 => op_not rfl) ?_
 refine Oc rfl (op_pick_and (fun e => e) rfl rfl rfl rfl) (Oc rfl (op_assign rfl) ?_)
 refine OpsL.nilS ⟨[(2, Pt 101 0), (3, Pt 102 0), (5, B x_1), (6, B x_2), (13, B ((!x_1) && (!x_2)))], [(101, .box 25 (eBig a0)), (102, .box 25 (eBig b0))]⟩ rfl ?_
 refine Tri.ite h rfl (fun _ h => ?_) (fun _ h => ?_)
 ·refine Tri.seq (Tri.regionL ?_)
  refine Oc rfl (op_assign rfl) ?_
  refine OpsL.nilS ⟨[(4, I 0)], []⟩ rfl ?_
  refine Tri.ret ?_
  refine Fin.block_ret ?_
  refine Fin.then_ret ?_
  obtain rfl := Option.some.inj h
  refine Fin.keepS ⟨[(4, I 0)], []⟩ rfl ?_
  refine Fin.result' [.one (.i 0)] (.inl rfl) rfl (.cons (.tmp rfl) .nil) ⟨rfl, rfl⟩
 ·refine Tri.seq (Tri.regionL ?_)
  refine Oc rfl (op_move rfl) (Oc rfl (op_not rfl) (Oc rfl (op_assign rfl) ?_))
  refine OpsL.nilS ⟨[(2, Pt 101 0), (3, Pt 102 0), (6, B x_2), (20, B (!x_1))], [(101, .box 25 (eBig a0)), (102, .box 25 (eBig b0))]⟩ rfl ?_
  refine Tri.ite h rfl (fun _ h => ?_) (fun _ h => ?_)
  ·refine Tri.seq (Tri.regionL ?_)
   refine Oc rfl (op_assign rfl) ?_
   refine OpsL.nilS ⟨[(4, I (-1))], []⟩ rfl ?_
   refine Tri.ret ?_
   refine Fin.block_ret ?_
   refine Fin.then_ret ?_
   obtain rfl := Option.some.inj h
   refine Fin.keepS ⟨[(4, I (-1))], []⟩ rfl ?_
   refine Fin.result' [.one (.i (-1))] (.inl rfl) rfl (.cons (.tmp rfl) .nil) ⟨rfl, rfl⟩
  ·refine Tri.seq (Tri.regionL ?_)
   refine Oc rfl (op_move rfl) (Oc rfl (op_not rfl) (Oc rfl (op_assign rfl) ?_))
   refine OpsL.nilS ⟨[(2, Pt 101 0), (3, Pt 102 0), (23, B (!x_2))], [(101, .box 25 (eBig a0)), (102, .box 25 (eBig b0))]⟩ rfl ?_
   refine Tri.ite h rfl (fun _ h => ?_) (fun _ h => ?_)
   ·refine Tri.seq (Tri.regionL ?_)
    refine Oc rfl (op_assign rfl) ?_
    refine OpsL.nilS ⟨[(4, I 1)], []⟩ rfl ?_
    refine Tri.ret ?_
    refine Fin.block_ret ?_
    refine Fin.then_ret ?_
    obtain rfl := Option.some.inj h
    refine Fin.keepS ⟨[(4, I 1)], []⟩ rfl ?_
    refine Fin.result' [.one (.i 1)] (.inl rfl) rfl (.cons (.tmp rfl) .nil) ⟨rfl, rfl⟩
   ·refine Tri.seq (Tri.regionL ?_)
    refine Oc rfl (op_field_p tyFld25_1 rfl rfl) (Oc rfl (op_load_p1 tyOne4 rfl rfl rfl) (Oc rfl (op_field_p tyFld25_1 rfl rfl) (Oc rfl (op_load_p1 tyOne4 rfl rfl rfl) (Oc rfl (op_neq_bool und4 rfl rfl) (Oc rfl (op_assign rfl) ?_)))))
    refine OpsL.nilS ⟨[(2, Pt 101 0), (3, Pt 102 0), (26, B (a0.Neg != b0.Neg))], [(101, .box 25 (eBig a0)), (102, .box 25 (eBig b0))]⟩ rfl ?_
    refine Tri.ite h rfl (fun _ h => ?_) (fun _ h => ?_)
    ·refine Tri.seq (Tri.seq (Tri.regionL ?_))
     refine Oc rfl (op_field_p tyFld25_1 rfl rfl) (Oc rfl (op_load_p1 tyOne4 rfl rfl rfl) ?_)
     refine OpsL.nilS ⟨[(33, B a0.Neg)], []⟩ rfl ?_
     refine Tri.ite h rfl (fun _ h => ?_) (fun _ h => ?_)
     ·refine Tri.seq (Tri.regionL ?_)
      refine Oc rfl (op_assign rfl) ?_
      refine OpsL.nilS ⟨[(4, I (-1))], []⟩ rfl ?_
      refine Tri.ret ?_
      refine Fin.then_ret ?_
      refine Fin.block_ret ?_
      refine Fin.then_ret ?_
      obtain rfl := Option.some.inj h
      refine Fin.keepS ⟨[(4, I (-1))], []⟩ rfl ?_
      refine Fin.result' [.one (.i (-1))] (.inl rfl) rfl (.cons (.tmp rfl) .nil) ⟨rfl, rfl⟩
     ·refine Tri.skip ?_
      refine Fin.keepS ⟨[], []⟩ rfl ?_
      refine Fin.then (Tri.seq (Tri.regionL ?_))
      refine Oc rfl (op_assign rfl) ?_
      refine OpsL.nilS ⟨[(4, I 1)], []⟩ rfl ?_
      refine Tri.ret ?_
      refine Fin.block_ret ?_
      refine Fin.then_ret ?_
      obtain rfl := Option.some.inj h
      refine Fin.keepS ⟨[(4, I 1)], []⟩ rfl ?_
      refine Fin.result' [.one (.i 1)] (.inl rfl) rfl (.cons (.tmp rfl) .nil) ⟨rfl, rfl⟩
    ·refine Tri.seq (Tri.regionL ?_)
     refine Oc rfl (op_field_p tyFld25_1 rfl rfl) (Oc rfl (op_load_p1 tyOne4 rfl rfl rfl) (Oc rfl (op_assign rfl) ?_))
     refine OpsL.nilS ⟨[(2, Pt 101 0), (3, Pt 102 0), (34, B a0.Neg)], [(101, .box 25 (eBig a0)), (102, .box 25 (eBig b0))]⟩ rfl ?_
     refine Tri.ite h rfl (fun _ h => ?_) (fun _ h => ?_)
     ·refine Tri.seq (Tri.regionL ?_)
      refine Oc rfl (op_field_p tyFld25_2 rfl rfl) (Oc rfl (op_load_p tyAgg23 rfl rfl rfl rfl) (Oc rfl (op_field_p tyFld25_2 rfl rfl) (Oc rfl (op_load_p tyAgg23 rfl rfl rfl rfl) ?_)))
      obtain ⟨x_3, e5, h⟩ := bnd h
      refine Oc rfl (op_call0 (whole_order_spec e5) goes127 rfl rfl) (Oc rfl (op_assign rfl) ?_)
      refine OpsL.nilS ⟨[(4, I x_3)], []⟩ rfl ?_
      refine Tri.ret ?_
      refine Fin.block_ret ?_
      refine Fin.then_ret ?_
      obtain rfl := Option.some.inj h
      refine Fin.keepS ⟨[(4, I x_3)], []⟩ rfl ?_
      refine Fin.result' [.one (.i x_3)] (.inl rfl) rfl (.cons (.tmp rfl) .nil) ⟨rfl, rfl⟩
     ·refine Tri.skip ?_
      refine Fin.block_normal ?_
      refine Fin.keepS ⟨[(2, Pt 101 0), (3, Pt 102 0)], [(101, .box 25 (eBig a0)), (102, .box 25 (eBig b0))]⟩ rfl ?_
      refine Fin.then (Tri.seq (Tri.regionL ?_))
      refine Oc rfl (op_field_p tyFld25_2 rfl rfl) (Oc rfl (op_load_p tyAgg23 rfl rfl rfl rfl) (Oc rfl (op_field_p tyFld25_2 rfl rfl) (Oc rfl (op_load_p tyAgg23 rfl rfl rfl rfl) ?_)))
      obtain ⟨x_4, e6, h⟩ := bnd h
      refine Oc rfl (op_call0 (whole_order_spec e6) goes127 rfl rfl) (Oc rfl (op_assign rfl) ?_)
      refine OpsL.nilS ⟨[(4, I x_4)], []⟩ rfl ?_
      refine Tri.ret ?_
      obtain rfl := Option.some.inj h
      refine Fin.keepS ⟨[(4, I x_4)], []⟩ rfl ?_
      refine Fin.result' [.one (.i x_4)] (.inl rfl) rfl (.cons (.tmp rfl) .nil) ⟨rfl, rfl⟩
def ratio_Near_S (F : Nat) (x0 : Frc) : Option Big :=
 Option.bind (ratio_Floor_S F x0) (fun x_1 => if x_1.Bad = true then (some x_1) else (Option.bind (whole_Rem_S F x0.N x0.D) (fun x_2 => Option.bind (whole_Sub_S F x0.D x_2) (fun x_3 => Option.bind (whole_Cmp_S F x_2 x_3) (fun x_4 => if (decide (0 ≤ x_4)) = true then (Option.bind (ratio_one_S F) (fun x_5 => Option.bind (whole_Add_S F x_1 x_5) (fun x_6 => some x_6))) else (some x_1))))))
theorem ratio_Near_spec {F : Nat} {x0 : Frc} {r : Big} (h : ratio_Near_S F x0 = some r) : Meets Tryz.prog (tabs mx) 35 [] [.agg (eFrc x0)] (Is [] (.b (.agg (eBig r)))) := by
 unfold ratio_Near_S at h
 refine Meets.intro 26 Tryz.func35 Tryz.ntmps35 rfl (by simp) fun E => ?_
 show Tri _ E ⟨26, [], []⟩ _ ⟨[(0, .b (.agg (eFrc x0)))], []⟩ _
 refine Tri.seq (Tri.regionL ?_)
 refine Oc rfl (op_box (k := 101) rfl rfl) (Oc rfl (op_alloc (k := 102) tyZero25 rfl) ?_)
 refine OpsL.nilS ⟨[(1, Pt 101 0), (2, Pt 102 0)], [(101, .box 27 (eFrc x0)), (102, .box 25 (.bool false :: .bool false :: ((eA16 .u32) A16.zero)))]⟩ rfl ?_
 refine Tri.seq (Tri.regionL ?_)
 refine Oc rfl (op_load_p tyAgg27 rfl rfl rfl rfl) ?_
 obtain ⟨x_1, e1, h⟩ := bnd h
 refine Oc rfl (op_call0 (ratio_Floor_spec e1) goes31 rfl rfl) (Oc rfl (op_alloc (k := 103) tyZero25 rfl) (Oc rfl (op_store_p tyAgg25 rfl rfl rfl rfl (Nat.le_of_ble_eq_true rfl) rfl) ?_))
 refine OpsL.nilS ⟨[(1, Pt 101 0), (2, Pt 102 0), (3, Pt 103 0)], [(101, .box 27 (eFrc x0)), (102, .box 25 (.bool false :: .bool false :: ((eA16 .u32) A16.zero))), (103, .box 25 (eBig x_1))]⟩ rfl ?_
 refine Tri.seq (Tri.seq (Tri.regionL ?_))
 refine Oc rfl (op_field_p tyFld25_0 rfl rfl) (Oc rfl (op_load_p1 tyOne4 rfl rfl rfl) ?_)
 refine OpsL.nilS ⟨[(1, Pt 101 0), (2, Pt 102 0), (3, Pt 103 0), (8, B x_1.Bad)], [(101, .box 27 (eFrc x0)), (102, .box 25 (.bool false :: .bool false :: ((eA16 .u32) A16.zero))), (103, .box 25 (eBig x_1))]⟩ rfl ?_
 refine Tri.ite h rfl (fun _ h => ?_) (fun _ h => ?_)
 ·refine Tri.seq (Tri.regionL ?_)
  refine Oc rfl (op_load_p tyAgg25 rfl rfl rfl rfl) (Oc rfl (op_store_p tyAgg25 rfl rfl rfl rfl (Nat.le_of_ble_eq_true rfl) rfl) ?_)
  refine OpsL.nilS ⟨[(2, Pt 102 0)], [(102, .box 25 (eBig x_1))]⟩ rfl ?_
  refine Tri.ret ?_
  refine Fin.then_ret ?_
  obtain rfl := Option.some.inj h
  refine Fin.keepS ⟨[(2, Pt 102 0)], [(102, .box 25 (eBig x_1))]⟩ rfl ?_
  refine Fin.result' [.agg (eBig x_1)] (.inl rfl) rfl (.cons (.agg tyAgg25 rfl rfl rfl rfl) .nil) ⟨rfl, rfl⟩
 ·refine Tri.skip ?_
  refine Fin.keepS ⟨[(1, Pt 101 0), (2, Pt 102 0), (3, Pt 103 0)], [(101, .box 27 (eFrc x0)), (102, .box 25 (.bool false :: .bool false :: ((eA16 .u32) A16.zero))), (103, .box 25 (eBig x_1))]⟩ rfl ?_
  refine Fin.then (Tri.seq (Tri.seq (Tri.regionL ?_)))
  refine Oc rfl (op_field_p tyFld27_0 rfl rfl) (Oc rfl (op_load_p tyAgg25 rfl rfl rfl rfl) (Oc rfl (op_field_p tyFld27_1 rfl rfl) (Oc rfl (op_load_p tyAgg25 rfl rfl rfl rfl) ?_)))
  obtain ⟨x_2, e2, h⟩ := bnd h
  refine Oc rfl (op_call0 (whole_Rem_spec e2) goes94 rfl rfl) (Oc rfl (op_alloc (k := 104) tyZero25 rfl) (Oc rfl (op_store_p tyAgg25 rfl rfl rfl rfl (Nat.le_of_ble_eq_true rfl) rfl) ?_))
  refine OpsL.nilS ⟨[(1, Pt 101 0), (2, Pt 102 0), (3, Pt 103 0), (4, Pt 104 0)], [(101, .box 27 (eFrc x0)), (102, .box 25 (.bool false :: .bool false :: ((eA16 .u32) A16.zero))), (103, .box 25 (eBig x_1)), (104, .box 25 (eBig x_2))]⟩ rfl ?_
  refine Tri.seq ?_
  refine Tri.keepS ⟨[(1, Pt 101 0), (2, Pt 102 0), (3, Pt 103 0), (4, Pt 104 0)], [(101, .box 27 (eFrc x0)), (102, .box 25 (.bool false :: .bool false :: ((eA16 .u32) A16.zero))), (103, .box 25 (eBig x_1)), (104, .box 25 (eBig x_2))]⟩ rfl ?_
  obtain ⟨x_3, e3, h⟩ := bnd h
  obtain ⟨x_4, e4, h⟩ := bnd h
  refine Tri.regionY mixed 7 [.b (.agg (eBig x_2)), Pt 101 18, .b (.agg (eBig x0.D)), .b (.agg (eBig x_2)), .b (.agg (eBig x_3)), I x_4, B (decide (0 ≤ x_4))] [2, 3, 21] [102, 103] (s' := ⟨[(2, Pt 102 0), (3, Pt 103 0), (21, B (decide (0 ≤ x_4)))], [(102, .box 25 (.bool false :: .bool false :: ((eA16 .u32) A16.zero))), (103, .box 25 (eBig x_1))]⟩) rfl ⟨fun _ => .plain rfl (op_load_p tyAgg25 rfl rfl rfl rfl), fun _ => .plain rfl (op_field_p tyFld27_1 rfl rfl), fun _ => .plain rfl (op_load_p tyAgg25 rfl rfl rfl rfl), fun _ => .plain rfl (op_load_p tyAgg25 rfl rfl rfl rfl), fun _ => .plain rfl (op_call0 (whole_Sub_spec e3) goes96 rfl rfl), fun _ => .plain rfl (op_call0 (whole_Cmp_spec e4) goes95 rfl rfl), fun _ => .plain rfl (op_geq rfl rfl), trivial⟩ rfl rfl ?_
  refine Tri.ite h rfl (fun _ h => ?_) (fun _ h => ?_)
  ·refine Tri.seq ?_
   refine Tri.keepS ⟨[(2, Pt 102 0), (3, Pt 103 0)], [(102, .box 25 (.bool false :: .bool false :: ((eA16 .u32) A16.zero))), (103, .box 25 (eBig x_1))]⟩ rfl ?_
   obtain ⟨x_5, e5, h⟩ := bnd h
   obtain ⟨x_6, e6, h⟩ := bnd h
   refine Tri.regionY mixed 3 [.b (.agg (eBig x_1)), .b (.agg (eBig x_5)), .b (.agg (eBig x_6))] [2] [102] (s' := ⟨[(2, Pt 102 0)], [(102, .box 25 (eBig x_6))]⟩) rfl ⟨fun _ => .plain rfl (op_load_p tyAgg25 rfl rfl rfl rfl), fun _ => .plain rfl (op_call0 (ratio_one_spec e5) goes90 rfl rfl), fun _ => .plain rfl (op_call0 (whole_Add_spec e6) goes97 rfl rfl), trivial⟩ ⟨_, by exact .plain rfl (op_store_p tyAgg25 rfl rfl rfl rfl (Nat.le_of_ble_eq_true rfl) rfl), rfl⟩ rfl ?_
   refine Tri.ret ?_
   refine Fin.then_ret ?_
   obtain rfl := Option.some.inj h
   refine Fin.keepS ⟨[(2, Pt 102 0)], [(102, .box 25 (eBig x_6))]⟩ rfl ?_
   refine Fin.result' [.agg (eBig x_6)] (.inl rfl) rfl (.cons (.agg tyAgg25 rfl rfl rfl rfl) .nil) ⟨rfl, rfl⟩
  ·refine Tri.skip ?_
   refine Fin.keepS ⟨[(2, Pt 102 0), (3, Pt 103 0)], [(102, .box 25 (.bool false :: .bool false :: ((eA16 .u32) A16.zero))), (103, .box 25 (eBig x_1))]⟩ rfl ?_
   refine Fin.then (Tri.seq (Tri.regionL ?_))
   refine Oc rfl (op_load_p tyAgg25 rfl rfl rfl rfl) (Oc rfl (op_store_p tyAgg25 rfl rfl rfl rfl (Nat.le_of_ble_eq_true rfl) rfl) ?_)
   refine OpsL.nilS ⟨[(2, Pt 102 0)], [(102, .box 25 (eBig x_1))]⟩ rfl ?_
   refine Tri.ret ?_
   obtain rfl := Option.some.inj h
   refine Fin.keepS ⟨[(2, Pt 102 0)], [(102, .box 25 (eBig x_1))]⟩ rfl ?_
   refine Fin.result' [.agg (eBig x_1)] (.inl rfl) rfl (.cons (.agg tyAgg25 rfl rfl rfl rfl) .nil) ⟨rfl, rfl⟩
def whole_trailing_S (F : Nat) (w0 : A16) : Option Int :=
 Option.bind (iter F (fun k_2 => Option.bind (idx? w0.l k_2) (fun x_4 => if (decide (x_4 = 0)) = true then (some (.inl (IntKind.i64.wrap (k_2 + 1)))) else (some (.inr k_2)))) 0) (fun k_1 => Option.bind (idx? w0.l k_1) (fun x_5 => Option.bind (bits_TZ32_S F x_5) (fun x_6 => letN (IntKind.i64.wrap ((IntKind.i64.wrap (32 * k_1)) + x_6)) fun x_7 => some x_7)))
theorem whole_trailing_spec {F : Nat} {w0 : A16} {r : Int} (h : whole_trailing_S F w0 = some r) : Meets Tryz.prog (tabs mx) 146 [] [.agg ((eA16 .u32) w0)] (Is [] (.b (.one (.i r)))) := by
 unfold whole_trailing_S at h
 refine Meets.intro 17 Tryz.func146 Tryz.ntmps146 rfl (by simp) fun E => ?_
 show Tri _ E ⟨17, [], []⟩ _ ⟨[(0, .b (.agg ((eA16 .u32) w0)))], []⟩ _
 refine Tri.seq (Tri.regionL ?_)
 refine Oc rfl (op_box (k := 101) rfl rfl) (Oc rfl (op_assign rfl) ?_)
 refine OpsL.nilS ⟨[(1, Pt 101 0)], [(101, .box 23 ((eA16 .u32) w0))]⟩ rfl ?_
 refine Tri.seq (Tri.regionL ?_)
 refine Oc rfl (op_assign rfl) ?_
 refine OpsL.nilS ⟨[(1, Pt 101 0), (3, I 0)], [(101, .box 23 ((eA16 .u32) w0))]⟩ rfl ?_
 obtain ⟨v1, h2, h⟩ := bnd h
 refine Tri.seqJ (v := v1) (fun (k_1 : Int) => ⟨[(1, Pt 101 0), (3, I k_1)], [(101, .box 23 ((eA16 .u32) w0))]⟩) (fun z => z) ?_ ?_
 ·refine Tri.block ?_
  refine Tri.loopJ h2 (fun (k_2 : Int) => ⟨[(1, Pt 101 0), (3, I k_2)], [(101, .box 23 ((eA16 .u32) w0))]⟩) [1, 3] [101] rfl ?_
  rintro k_2 o3 h4 hy5
  refine Tri.seq (Tri.seq (Tri.regionL ?_))
  refine Oc rfl (op_move rfl) ?_
  obtain ⟨x_4, e6, h4⟩ := bnd h4
  refine Oc rfl (op_index_p tyArr23 (ix_lo e6) (ix_hi e6) rfl rfl rfl) (Oc rfl (op_load_p1 tyOne22 rfl rfl (arr_get (post := []) (k := .u32) [] e6 rfl rfl rfl)) (Oc rfl (op_eql rfl rfl) ?_))
  refine OpsL.nilS ⟨[(1, Pt 101 0), (3, I k_2), (7, B (decide (x_4 = 0)))], [(101, .box 23 ((eA16 .u32) w0))]⟩ rfl ?_
  refine Tri.ite h4 rfl (fun _ h4 => ?_) (fun _ h4 => ?_)
  ·refine Tri.skip ?_
   refine Fin.keepS ⟨[(1, Pt 101 0), (3, I k_2)], [(101, .box 23 ((eA16 .u32) w0))]⟩ rfl ?_
   refine Fin.then (Tri.block (Tri.regionL ?_))
   refine Oc rfl (op_move rfl) (Oc rfl (op_add rfl rfl) (Oc rfl (op_assign rfl) ?_))
   refine OpsL.nil ?_
   refine Fin.block_normal ?_
   exact Fin.againJ [1, 3] [101] (IntKind.i64.wrap (k_2 + 1)) (Option.some.inj h4) rfl
  ·refine Tri.exit ?_
   refine Fin.then_exit ?_
   obtain rfl := hy5 _ (Option.some.inj h4).symm
   refine Fin.then_exit ?_
   refine Fin.block_exit ?_
   exact Fin.join [1, 3] [101] k_2 rfl rfl
 ·rintro k_1 hv
  subst v1
  refine Tri.seq (Tri.regionL ?_)
  refine Oc rfl (op_move rfl) (Oc rfl (op_mul rfl rfl) (Oc rfl (op_move rfl) ?_))
  obtain ⟨x_5, e7, h⟩ := bnd h
  refine Oc rfl (op_index_p tyArr23 (ix_lo e7) (ix_hi e7) rfl rfl rfl) (Oc rfl (op_load_p1 tyOne22 rfl rfl (arr_get (post := []) (k := .u32) [] e7 rfl rfl rfl)) ?_)
  refine OpsL.keepS ⟨[(11, I (IntKind.i64.wrap (32 * k_1))), (14, .b (.one (.int .u32 x_5)))], []⟩ rfl ?_
  obtain ⟨x_6, e8, h⟩ := bnd h
  refine Oc rfl (op_call0 (bits_TZ32_spec e8) goes155 rfl rfl) ?_
  refine OpsL.consI .i64 h rfl (op_add rfl rfl) (fun x_7 h => ?_)
  refine Oc rfl (op_assign rfl) ?_
  refine OpsL.nilS ⟨[(2, I x_7)], []⟩ rfl ?_
  refine Tri.ret ?_
  obtain rfl := Option.some.inj h
  refine Fin.keepS ⟨[(2, I x_7)], []⟩ rfl ?_
  refine Fin.result' [.one (.i x_7)] (.inl rfl) rfl (.cons (.tmp rfl) .nil) ⟨rfl, rfl⟩
def whole_lost_S (F : Nat) (x0 : Big) (w0 : A16) (n0 : List Int) : Option Big :=
 Option.bind (whole_signed_S F x0.Neg w0) (fun x_1 => Option.bind (gcall (x0.Neg && !(decide ((n0.length : Int) = 0))) (whole_trailing_S F x0.W)) (fun x_2 => Option.bind (gcall (x0.Neg && !(decide ((n0.length : Int) = 0))) (idx? n0 0)) (fun x_3 => if (x0.Neg && ((decide ((n0.length : Int) = 0)) || (decide (x_2 < x_3)))) = true then (Option.bind (whole_Of_S F 1) (fun x_4 => Option.bind (whole_Sub_S F x_1 x_4) (fun x_5 => some x_5))) else (some x_1))))
theorem whole_lost_spec {F : Nat} {x0 : Big} {w0 : A16} {n0 : List Int} {r : Big} (h : whole_lost_S F x0 w0 n0 = some r) : Meets Tryz.prog (tabs mx) 124 [] [.agg (eBig x0), .agg ((eA16 .u32) w0), .one (.sl 1 (n0.map eI))] (Is [] (.b (.agg (eBig r)))) := by
 unfold whole_lost_S at h
 refine Meets.intro 32 Tryz.func124 Tryz.ntmps124 rfl (by simp) fun E => ?_
 show Tri _ E ⟨32, [], []⟩ _ ⟨[(0, .b (.agg (eBig x0))), (1, .b (.agg ((eA16 .u32) w0))), (2, .b (.one (.sl 1 (n0.map eI))))], []⟩ _
 refine Tri.seq (Tri.regionL ?_)
 refine Oc rfl (op_box (k := 101) rfl rfl) (Oc rfl (op_box (k := 102) rfl rfl) (Oc rfl (op_alloc (k := 103) tyZero25 rfl) ?_))
 refine OpsL.nilS ⟨[(2, .b (.one (.sl 1 (n0.map eI)))), (3, Pt 101 0), (4, Pt 102 0), (6, Pt 103 0)], [(101, .box 25 (eBig x0)), (102, .box 23 ((eA16 .u32) w0)), (103, .box 25 (.bool false :: .bool false :: ((eA16 .u32) A16.zero)))]⟩ rfl ?_
 refine Tri.seq (Tri.regionL ?_)
 refine Oc rfl (op_field_p tyFld25_1 rfl rfl) (Oc rfl (op_load_p1 tyOne4 rfl rfl rfl) (Oc rfl (op_load_p tyAgg23 rfl rfl rfl rfl) ?_))
 obtain ⟨x_1, e1, h⟩ := bnd h
 refine Oc rfl (op_call0 (whole_signed_spec e1) goes115 rfl rfl) (Oc rfl (op_alloc (k := 104) tyZero25 rfl) (Oc rfl (op_store_p tyAgg25 rfl rfl rfl rfl (Nat.le_of_ble_eq_true rfl) rfl) ?_))
 refine OpsL.nilS ⟨[(2, .b (.one (.sl 1 (n0.map eI)))), (3, Pt 101 0), (6, Pt 103 0), (7, Pt 104 0)], [(101, .box 25 (eBig x0)), (103, .box 25 (.bool false :: .bool false :: ((eA16 .u32) A16.zero))), (104, .box 25 (eBig x_1))]⟩ rfl ?_
 refine Tri.seq (Tri.seq ?_)
 refine Tri.keepS ⟨[(2, .b (.one (.sl 1 (n0.map eI)))), (3, Pt 101 0), (6, Pt 103 0), (7, Pt 104 0)], [(101, .box 25 (eBig x0)), (103, .box 25 (.bool false :: .bool false :: ((eA16 .u32) A16.zero))), (104, .box 25 (eBig x_1))]⟩ rfl ?_
 obtain ⟨x_2, e9, h⟩ := bnd h
 obtain ⟨x_3, e12, h⟩ := bnd h
 refine Tri.regionY mixed 16 [Pt 101 1, B x0.Neg, B x0.Neg, .opt x0.Neg (.one (.sl 1 (n0.map eI))), .opt x0.Neg (.one (.i (n0.length : Int))), .opt x0.Neg (.one (.bool (decide ((n0.length : Int) = 0)))), .opt x0.Neg (.one (.bool (decide ((n0.length : Int) = 0)))), .opt (x0.Neg && !(decide ((n0.length : Int) = 0))) (.ptr 101 2), .opt (x0.Neg && !(decide ((n0.length : Int) = 0))) (.agg ((eA16 .u32) x0.W)), .opt (x0.Neg && !(decide ((n0.length : Int) = 0))) (.one (.i x_2)), .opt (x0.Neg && !(decide ((n0.length : Int) = 0))) (.one (.sl 1 (n0.map eI))), .opt (x0.Neg && !(decide ((n0.length : Int) = 0))) (.eptr [.i x_3]), .opt (x0.Neg && !(decide ((n0.length : Int) = 0))) (.one (.i x_3)), .opt (x0.Neg && !(decide ((n0.length : Int) = 0))) (.one (.bool (decide (x_2 < x_3)))), .opt x0.Neg (.one (.bool ((decide ((n0.length : Int) = 0)) || (decide (x_2 < x_3))))), B (x0.Neg && ((decide ((n0.length : Int) = 0)) || (decide (x_2 < x_3))))] [6, 7, 27] [103, 104] (s' := ⟨[(6, Pt 103 0), (7, Pt 104 0), (27, B (x0.Neg && ((decide ((n0.length : Int) = 0)) || (decide (x_2 < x_3)))))], [(103, .box 25 (.bool false :: .bool false :: ((eA16 .u32) A16.zero))), (104, .box 25 (eBig x_1))]⟩) rfl ⟨fun _ => .plain rfl (op_field_p tyFld25_1 rfl rfl), fun _ => .plain rfl (op_load_p1 tyOne4 rfl rfl rfl), fun _ => .plain rfl (op_move rfl), fun _ => by exact .guard x0.Neg 1 [] (.plain rfl) (eq_t _) rfl rfl (fun g2 => trivial) (fun g2 => op_move rfl), fun _ => by exact .guard x0.Neg 2 [15] (.plain rfl) (eq_t _) rfl rfl (fun g3 => ⟨g3, trivial⟩) (fun g3 => op_len_e' und70 rfl (List.length_map _)), fun _ => by exact .guard x0.Neg 2 [16] (.plain rfl) (eq_t _) rfl rfl (fun g4 => ⟨g4, trivial⟩) (fun g4 => op_eql rfl rfl), fun _ => by exact .guard x0.Neg 3 [17] (.plain rfl) (eq_t _) rfl rfl (fun g5 => ⟨g5, trivial⟩) (fun g5 => op_move rfl), fun _ => by exact .guard (x0.Neg && !(decide ((n0.length : Int) = 0))) 1 [] (.under rfl) (and_f _ _) rfl rfl (fun g6 => trivial) (fun g6 => op_field_p tyFld25_2 rfl rfl), fun _ => by exact .guard (x0.Neg && !(decide ((n0.length : Int) = 0))) 2 [19] (.under rfl) (and_f _ _) rfl rfl (fun g7 => ⟨g7, trivial⟩) (fun g7 => op_load_p tyAgg23 rfl rfl rfl rfl), fun _ => by exact .guard (x0.Neg && !(decide ((n0.length : Int) = 0))) 3 [20] (.under rfl) (and_f _ _) rfl rfl (fun g8 => ⟨g8, trivial⟩) (fun g8 => op_call0 (whole_trailing_spec (gc e9 g8)) goes146 rfl rfl), fun _ => by exact .guard (x0.Neg && !(decide ((n0.length : Int) = 0))) 1 [] (.under rfl) (and_f _ _) rfl rfl (fun g10 => trivial) (fun g10 => op_move rfl), fun _ => by exact .guard (x0.Neg && !(decide ((n0.length : Int) = 0))) 2 [22] (.under rfl) (and_f _ _) rfl rfl (fun g11 => ⟨g11, trivial⟩) (fun g11 => op_index_e tySl70 (ix_lo (gc e12 g11)) (ix_map (e := eI) (gc e12 g11)) rfl rfl), fun _ => by exact .guard (x0.Neg && !(decide ((n0.length : Int) = 0))) 2 [23] (.under rfl) (and_f _ _) rfl rfl (fun g13 => ⟨g13, trivial⟩) (fun g13 => op_load_e1 tyOne3 rfl rfl), fun _ => by exact .guard (x0.Neg && !(decide ((n0.length : Int) = 0))) 3 [21, 24] (.under rfl) (and_f _ _) rfl rfl (fun g14 => ⟨g14, g14, trivial⟩) (fun g14 => op_lss rfl rfl), fun _ => by exact .guard x0.Neg 3 [18] (.plain rfl) (eq_t _) rfl rfl (fun g15 => ⟨g15, trivial⟩) (fun g15 => op_pick_or (fun e => by rw [g15, e]; rfl) rfl rfl rfl rfl), fun _ => .plain rfl (op_pick_and (fun e => e) rfl rfl rfl rfl), trivial⟩ rfl rfl ?_
 refine Tri.ite h rfl (fun _ h => ?_) (fun _ h => ?_)
 ·refine Tri.seq ?_
  refine Tri.keepS ⟨[(6, Pt 103 0), (7, Pt 104 0)], [(103, .box 25 (.bool false :: .bool false :: ((eA16 .u32) A16.zero))), (104, .box 25 (eBig x_1))]⟩ rfl ?_
  obtain ⟨x_4, e16, h⟩ := bnd h
  obtain ⟨x_5, e17, h⟩ := bnd h
  refine Tri.regionY mixed 3 [.b (.agg (eBig x_1)), .b (.agg (eBig x_4)), .b (.agg (eBig x_5))] [6] [103] (s' := ⟨[(6, Pt 103 0)], [(103, .box 25 (eBig x_5))]⟩) rfl ⟨fun _ => .plain rfl (op_load_p tyAgg25 rfl rfl rfl rfl), fun _ => .plain rfl (op_call0 (whole_Of_spec e16) goes91 rfl rfl), fun _ => .plain rfl (op_call0 (whole_Sub_spec e17) goes96 rfl rfl), trivial⟩ ⟨_, by exact .plain rfl (op_store_p tyAgg25 rfl rfl rfl rfl (Nat.le_of_ble_eq_true rfl) rfl), rfl⟩ rfl ?_
  refine Tri.ret ?_
  refine Fin.then_ret ?_
  obtain rfl := Option.some.inj h
  refine Fin.keepS ⟨[(6, Pt 103 0)], [(103, .box 25 (eBig x_5))]⟩ rfl ?_
  refine Fin.result' [.agg (eBig x_5)] (.inl rfl) rfl (.cons (.agg tyAgg25 rfl rfl rfl rfl) .nil) ⟨rfl, rfl⟩
 ·refine Tri.skip ?_
  refine Fin.keepS ⟨[(6, Pt 103 0), (7, Pt 104 0)], [(103, .box 25 (.bool false :: .bool false :: ((eA16 .u32) A16.zero))), (104, .box 25 (eBig x_1))]⟩ rfl ?_
  refine Fin.then (Tri.seq (Tri.regionL ?_))
  refine Oc rfl (op_load_p tyAgg25 rfl rfl rfl rfl) (Oc rfl (op_store_p tyAgg25 rfl rfl rfl rfl (Nat.le_of_ble_eq_true rfl) rfl) ?_)
  refine OpsL.nilS ⟨[(6, Pt 103 0)], [(103, .box 25 (eBig x_1))]⟩ rfl ?_
  refine Tri.ret ?_
  obtain rfl := Option.some.inj h
  refine Fin.keepS ⟨[(6, Pt 103 0)], [(103, .box 25 (eBig x_1))]⟩ rfl ?_
  refine Fin.result' [.agg (eBig x_1)] (.inl rfl) rfl (.cons (.agg tyAgg25 rfl rfl rfl rfl) .nil) ⟨rfl, rfl⟩
def whole_Shift_S (F : Nat) (x0 : Big) (n0 : Int) : Option Big :=
 Option.bind (whole_good_S F [x0]) (fun x_1 => if (!x_1) = true then (Option.bind (whole_Bad_S F) (fun x_2 => some x_2)) else (Option.bind (whole_Sign_S F x0) (fun x_3 => if (decide (x_3 = 0)) = true then (some x0) else (Option.bind (gcall ((!(decide (512 ≤ n0))) && (decide (0 < n0))) (whole_Bits_S F x0)) (fun x_4 => letN ((decide (512 ≤ n0)) || ((decide (0 < n0)) && (decide (512 < (IntKind.i64.wrap (x_4 + n0)))))) fun x_5 => if x_5 = true then (Option.bind (whole_Bad_S F) (fun x_6 => some x_6)) else (if (decide (n0 ≤ (-512))) = true then (Option.bind (whole_lost_S F x0 A16.zero []) (fun x_7 => some x_7)) else (Option.bind (quo? .i64 n0 32) (fun x_8 => if (decide (0 ≤ n0)) = true then (Option.bind (slo? 16 x_8) (fun x_9 => letN (A16.of (spliceE A16.zero.l ((x_8 : Int).toNat) ((x0.W.l.drop 0).take (min 16 (16 - (x_8 : Int).toNat))))) fun x_10 => Option.bind (whole_up_S F x_10 (Int.tmod n0 32)) (un2 fun x_11 x_12 => Option.bind (whole_signed_S F x0.Neg x_11) (fun x_13 => some x_13)))) else (Option.bind (slo? 16 (IntKind.i64.wrap (-x_8))) (fun x_14 => Option.bind (whole_down_S F (A16.of (spliceE A16.zero.l 0 ((x0.W.l.drop ((IntKind.i64.wrap (-x_8) : Int).toNat)).take (min (16 - (IntKind.i64.wrap (-x_8) : Int).toNat) 16)))) (Int.tmod (IntKind.i64.wrap (-n0)) 32)) (fun x_15 => Option.bind (whole_lost_S F x0 x_15 [IntKind.i64.wrap (-n0)]) (fun x_16 => some x_16))))))))))))
theorem whole_Shift_spec {F : Nat} {x0 : Big} {n0 : Int} {r : Big} (h : whole_Shift_S F x0 n0 = some r) : Meets Tryz.prog (tabs mx) 93 [] [.agg (eBig x0), .one (.i n0)] (Is [] (.b (.agg (eBig r)))) := by
 unfold whole_Shift_S at h
 refine Meets.intro 75 Tryz.func93 Tryz.ntmps93 rfl (by simp) fun E => ?_
 show Tri _ E ⟨75, [], []⟩ _ ⟨[(0, .b (.agg (eBig x0))), (1, I n0)], []⟩ _
 refine Tri.seq (Tri.regionL ?_)
 refine Oc rfl (op_box (k := 101) rfl rfl) (Oc rfl (op_alloc (k := 102) tyZero25 rfl) ?_)
 refine OpsL.nilS ⟨[(1, I n0), (2, Pt 101 0), (4, Pt 102 0)], [(101, .box 25 (eBig x0)), (102, .box 25 (.bool false :: .bool false :: ((eA16 .u32) A16.zero)))]⟩ rfl ?_
 refine Tri.seq (Tri.block (Tri.seq (Tri.regionL ?_)))
 refine Oc rfl (op_load_p tyAgg25 rfl rfl rfl rfl) (Oc rfl (op_buildSlice (k := 103) (es := [x0].map eBig) tySl117 rfl rfl (uni_map fun _ => rfl) rfl (by decide) (by decide) rfl) ?_)
 obtain ⟨x_1, e1, h⟩ := bnd h
 refine Oc rfl (op_callB (whole_good_spec e1) goes113 rfl CP.flat_bool) (Oc rfl (op_not rfl) (Oc rfl (op_assign rfl) ?_))
 refine OpsL.nilS ⟨[(1, I n0), (2, Pt 101 0), (4, Pt 102 0), (7, B (!x_1))], [(101, .box 25 (eBig x0)), (102, .box 25 (.bool false :: .bool false :: ((eA16 .u32) A16.zero)))]⟩ rfl ?_
 refine Tri.ite h rfl (fun _ h => ?_) (fun _ h => ?_)
 ·refine Tri.seq (Tri.regionL ?_)
  obtain ⟨x_2, e2, h⟩ := bnd h
  refine Oc rfl (op_call0 (whole_Bad_spec e2) goes92 rfl rfl) (Oc rfl (op_store_p tyAgg25 rfl rfl rfl rfl (Nat.le_of_ble_eq_true rfl) rfl) ?_)
  refine OpsL.nilS ⟨[(4, Pt 102 0)], [(102, .box 25 (eBig x_2))]⟩ rfl ?_
  refine Tri.ret ?_
  refine Fin.block_ret ?_
  refine Fin.then_ret ?_
  obtain rfl := Option.some.inj h
  refine Fin.keepS ⟨[(4, Pt 102 0)], [(102, .box 25 (eBig x_2))]⟩ rfl ?_
  refine Fin.result' [.agg (eBig x_2)] (.inl rfl) rfl (.cons (.agg tyAgg25 rfl rfl rfl rfl) .nil) ⟨rfl, rfl⟩
 ·refine Tri.seq (Tri.regionL ?_)
  refine Oc rfl (op_load_p tyAgg25 rfl rfl rfl rfl) ?_
  obtain ⟨x_3, e3, h⟩ := bnd h
  refine Oc rfl (op_call0 (whole_Sign_spec e3) goes72 rfl rfl) (Oc rfl (op_eql rfl rfl) (Oc rfl (op_assign rfl) ?_))
  refine OpsL.nilS ⟨[(1, I n0), (2, Pt 101 0), (4, Pt 102 0), (13, B (decide (x_3 = 0)))], [(101, .box 25 (eBig x0)), (102, .box 25 (.bool false :: .bool false :: ((eA16 .u32) A16.zero)))]⟩ rfl ?_
  refine Tri.ite h rfl (fun _ h => ?_) (fun _ h => ?_)
  ·refine Tri.seq (Tri.regionL ?_)
   refine Oc rfl (op_load_p tyAgg25 rfl rfl rfl rfl) (Oc rfl (op_store_p tyAgg25 rfl rfl rfl rfl (Nat.le_of_ble_eq_true rfl) rfl) ?_)
   refine OpsL.nilS ⟨[(4, Pt 102 0)], [(102, .box 25 (eBig x0))]⟩ rfl ?_
   refine Tri.ret ?_
   refine Fin.block_ret ?_
   refine Fin.then_ret ?_
   obtain rfl := Option.some.inj h
   refine Fin.keepS ⟨[(4, Pt 102 0)], [(102, .box 25 (eBig x0))]⟩ rfl ?_
   refine Fin.result' [.agg (eBig x0)] (.inl rfl) rfl (.cons (.agg tyAgg25 rfl rfl rfl rfl) .nil) ⟨rfl, rfl⟩
  ·refine Tri.seq (Tri.regionL ?_)
   refine Oc rfl (op_move rfl) (Oc rfl (op_geq rfl rfl) (Oc rfl (op_move rfl) ?_))
   refine OpsL.consG (!(decide (512 ≤ n0))) 99 [] (.plain rfl) (eq_f _) rfl rfl (fun g4 => trivial) (fun g4 => op_move rfl) ?_
   refine OpsL.consG (!(decide (512 ≤ n0))) 99 [22] (.plain rfl) (eq_f _) rfl rfl (fun g5 => ⟨g5, trivial⟩) (fun g5 => op_gtr rfl rfl) ?_
   refine OpsL.consG (!(decide (512 ≤ n0))) 99 [23] (.plain rfl) (eq_f _) rfl rfl (fun g6 => ⟨g6, trivial⟩) (fun g6 => op_move rfl) ?_
   refine OpsL.consG ((!(decide (512 ≤ n0))) && (decide (0 < n0))) 99 [] (.under rfl) (and_t _ _) rfl rfl (fun g7 => trivial) (fun g7 => op_load_p tyAgg25 rfl rfl rfl rfl) ?_
   refine OpsL.keepS ⟨[(1, I n0), (2, Pt 101 0), (4, Pt 102 0), (21, B (decide (512 ≤ n0))), (24, .opt (!(decide (512 ≤ n0))) (.one (.bool (decide (0 < n0))))), (25, .opt ((!(decide (512 ≤ n0))) && (decide (0 < n0))) (.agg (eBig x0)))], [(101, .box 25 (eBig x0)), (102, .box 25 (.bool false :: .bool false :: ((eA16 .u32) A16.zero)))]⟩ rfl ?_
   obtain ⟨x_4, e9, h⟩ := bnd h
   refine OpsL.consG ((!(decide (512 ≤ n0))) && (decide (0 < n0))) 99 [25] (.under rfl) (and_t _ _) rfl rfl (fun g8 => ⟨g8, trivial⟩) (fun g8 => op_call0 (whole_Bits_spec (gc e9 g8)) goes123 rfl rfl) ?_
   refine OpsL.consG ((!(decide (512 ≤ n0))) && (decide (0 < n0))) 99 [] (.under rfl) (and_t _ _) rfl rfl (fun g10 => trivial) (fun g10 => op_move rfl) ?_
   refine OpsL.consG ((!(decide (512 ≤ n0))) && (decide (0 < n0))) 99 [26, 27] (.under rfl) (and_t _ _) rfl rfl (fun g11 => ⟨g11, g11, trivial⟩) (fun g11 => op_add rfl rfl) ?_
   refine OpsL.consG ((!(decide (512 ≤ n0))) && (decide (0 < n0))) 99 [28] (.under rfl) (and_t _ _) rfl rfl (fun g12 => ⟨g12, trivial⟩) (fun g12 => op_gtr rfl rfl) ?_
   refine OpsL.consG (!(decide (512 ≤ n0))) 99 [24] (.plain rfl) (eq_f _) rfl rfl (fun g13 => ⟨g13, trivial⟩) (fun g13 => op_pick_and (fun e => by rw [g13, e]; rfl) rfl rfl rfl rfl) ?_
   refine OpsL.consB h rfl (op_pick_or (fun e => by rw [e]; rfl) rfl rfl rfl rfl) (fun x_5 h => ?_)
   refine Oc rfl (op_assign rfl) ?_
   refine OpsL.nilS ⟨[(1, I n0), (2, Pt 101 0), (4, Pt 102 0), (18, B x_5)], [(101, .box 25 (eBig x0)), (102, .box 25 (.bool false :: .bool false :: ((eA16 .u32) A16.zero)))]⟩ rfl ?_
   refine Tri.ite h rfl (fun _ h => ?_) (fun _ h => ?_)
   ·refine Tri.seq (Tri.regionL ?_)
    obtain ⟨x_6, e14, h⟩ := bnd h
    refine Oc rfl (op_call0 (whole_Bad_spec e14) goes92 rfl rfl) (Oc rfl (op_store_p tyAgg25 rfl rfl rfl rfl (Nat.le_of_ble_eq_true rfl) rfl) ?_)
    refine OpsL.nilS ⟨[(4, Pt 102 0)], [(102, .box 25 (eBig x_6))]⟩ rfl ?_
    refine Tri.ret ?_
    refine Fin.block_ret ?_
    refine Fin.then_ret ?_
    obtain rfl := Option.some.inj h
    refine Fin.keepS ⟨[(4, Pt 102 0)], [(102, .box 25 (eBig x_6))]⟩ rfl ?_
    refine Fin.result' [.agg (eBig x_6)] (.inl rfl) rfl (.cons (.agg tyAgg25 rfl rfl rfl rfl) .nil) ⟨rfl, rfl⟩
   ·refine Tri.seq (Tri.regionL ?_)
    refine Oc rfl (op_move rfl) (Oc rfl (op_leq rfl rfl) (Oc rfl (op_assign rfl) ?_))
    refine OpsL.nilS ⟨[(1, I n0), (2, Pt 101 0), (4, Pt 102 0), (33, B (decide (n0 ≤ (-512))))], [(101, .box 25 (eBig x0)), (102, .box 25 (.bool false :: .bool false :: ((eA16 .u32) A16.zero)))]⟩ rfl ?_
    refine Tri.ite h rfl (fun _ h => ?_) (fun _ h => ?_)
    ·refine Tri.seq (Tri.regionL ?_)
     refine Oc rfl (op_load_p tyAgg25 rfl rfl rfl rfl) (Oc rfl (op_buildA tyBuild23 rfl rfl) ?_)
     obtain ⟨x_7, e15, h⟩ := bnd h
     refine Oc rfl (op_call0 (Meets.nilA 2 (by decide) (whole_lost_spec e15) rfl) goes124 rfl rfl) (Oc rfl (op_store_p tyAgg25 rfl rfl rfl rfl (Nat.le_of_ble_eq_true rfl) rfl) ?_)
     refine OpsL.nilS ⟨[(4, Pt 102 0)], [(102, .box 25 (eBig x_7))]⟩ rfl ?_
     refine Tri.ret ?_
     refine Fin.block_ret ?_
     refine Fin.then_ret ?_
     obtain rfl := Option.some.inj h
     refine Fin.keepS ⟨[(4, Pt 102 0)], [(102, .box 25 (eBig x_7))]⟩ rfl ?_
     refine Fin.result' [.agg (eBig x_7)] (.inl rfl) rfl (.cons (.agg tyAgg25 rfl rfl rfl rfl) .nil) ⟨rfl, rfl⟩
    ·refine Tri.skip ?_
     refine Fin.block_normal ?_
     refine Fin.keepS ⟨[(1, I n0), (2, Pt 101 0), (4, Pt 102 0)], [(101, .box 25 (eBig x0)), (102, .box 25 (.bool false :: .bool false :: ((eA16 .u32) A16.zero)))]⟩ rfl ?_
     refine Fin.then (Tri.seq (Tri.regionL ?_))
     refine Oc rfl (op_alloc (k := 104) tyZero23 rfl) ?_
     refine OpsL.nilS ⟨[(1, I n0), (2, Pt 101 0), (4, Pt 102 0), (5, Pt 104 0)], [(101, .box 25 (eBig x0)), (102, .box 25 (.bool false :: .bool false :: ((eA16 .u32) A16.zero))), (104, .box 23 ((eA16 .u32) A16.zero))]⟩ rfl ?_
     refine Tri.seq (Tri.regionL ?_)
     refine Oc rfl (op_move rfl) ?_
     obtain ⟨x_8, e16, h⟩ := bnd h
     refine Oc rfl (op_quo2 e16 rfl rfl) (Oc rfl (op_assign rfl) ?_)
     refine OpsL.nilS ⟨[(1, I n0), (2, Pt 101 0), (4, Pt 102 0), (5, Pt 104 0), (6, I x_8)], [(101, .box 25 (eBig x0)), (102, .box 25 (.bool false :: .bool false :: ((eA16 .u32) A16.zero))), (104, .box 23 ((eA16 .u32) A16.zero))]⟩ rfl ?_
     refine Tri.seq (Tri.seq (Tri.regionL ?_))
     refine Oc rfl (op_move rfl) (Oc rfl (op_geq rfl rfl) ?_)
     refine OpsL.nilS ⟨[(1, I n0), (2, Pt 101 0), (4, Pt 102 0), (5, Pt 104 0), (6, I x_8), (42, B (decide (0 ≤ n0)))], [(101, .box 25 (eBig x0)), (102, .box 25 (.bool false :: .bool false :: ((eA16 .u32) A16.zero))), (104, .box 23 ((eA16 .u32) A16.zero))]⟩ rfl ?_
     refine Tri.ite h rfl (fun _ h => ?_) (fun _ h => ?_)
     ·refine Tri.seq ?_
      refine Tri.keepS ⟨[(1, I n0), (2, Pt 101 0), (4, Pt 102 0), (5, Pt 104 0), (6, I x_8)], [(101, .box 25 (eBig x0)), (102, .box 25 (.bool false :: .bool false :: ((eA16 .u32) A16.zero))), (104, .box 23 ((eA16 .u32) A16.zero))]⟩ rfl ?_
      obtain ⟨x_9, e17, h⟩ := bnd h
      refine Tri.regionY mixed 4 [I x_8, .b (.psl 104 (0 + (x_8 : Int).toNat) (16 - (x_8 : Int).toNat) (16 - (x_8 : Int).toNat)), Pt 101 2, .b (.psl 101 2 16 16)] [1, 2, 4, 5] [101, 102, 104] (s' := ⟨[(1, I n0), (2, Pt 101 0), (4, Pt 102 0), (5, Pt 104 0)], [(101, .box 25 (eBig x0)), (102, .box 25 (.bool false :: .bool false :: ((eA16 .u32) A16.zero))), (104, .box 23 ((eA16 .u32) (A16.of (spliceE A16.zero.l ((x_8 : Int).toNat) ((x0.W.l.drop 0).take (min 16 (16 - (x_8 : Int).toNat)))))))]⟩) rfl ⟨fun _ => .plain rfl (op_move rfl), fun _ => .plain rfl (op_slice_al tyArr23 (slo_lo e17) (slo_hi e17) rfl rfl), fun _ => .plain rfl (op_field_p tyFld25_2 rfl rfl), fun _ => .plain rfl (op_slice_a tyArr23 (by decide) rfl), trivial⟩ ⟨_, by exact .plain rfl (op_copy_psl (m := min 16 (16 - (x_8 : Int).toNat)) tySl100 (by rfl) (by have q0_ := slo_lo e17; have p0_ := slo_hi e17; first | decide | (show (min 16 (16 - (x_8 : Int).toNat)) ≤ 9223372036854775807; omega)) rfl rfl rfl rfl (by have q0_ := slo_lo e17; have p0_ := slo_hi e17; first | decide | (show (0 + (x_8 : Int).toNat) + (min 16 (16 - (x_8 : Int).toNat)) ≤ 16; omega)) (by have q0_ := slo_lo e17; have p0_ := slo_hi e17; first | decide | (show 2 + (min 16 (16 - (x_8 : Int).toNat)) ≤ 18; omega)) (splice_arr (a := 0) (a2 := 2) (off := 0 + (x_8 : Int).toNat) (off2 := 2) (post := []) (post2 := []) (l := A16.zero.l) (l2 := x0.W.l) (kd := .u32) (lo := (x_8 : Int).toNat) (lo2 := 0) [] [.bool x0.Bad, .bool x0.Neg] rfl rfl rfl rfl (by omega) (by omega) (by have q0_ := slo_lo e17; have p0_ := slo_hi e17; first | decide | (show ((x_8 : Int).toNat) + (min 16 (16 - (x_8 : Int).toNat)) ≤ 16; omega)) (by have q0_ := slo_lo e17; have p0_ := slo_hi e17; first | decide | (show 0 + (min 16 (16 - (x_8 : Int).toNat)) ≤ 16; omega)) (A16.l_of (spliceE_lenA rfl (by have q0_ := slo_lo e17; have p0_ := slo_hi e17; first | decide | (show ((x_8 : Int).toNat) + (min 16 (16 - (x_8 : Int).toNat)) ≤ 16; omega)) (by have q0_ := slo_lo e17; have p0_ := slo_hi e17; first | decide | (show 0 + (min 16 (16 - (x_8 : Int).toNat)) ≤ 16; omega)))) rfl)), rfl⟩ rfl ?_
      refine Tri.seq (Tri.regionL ?_)
      refine OpsL.consA (eA16 .u32) h rfl (op_load_p tyAgg23 rfl rfl rfl rfl) (fun x_10 h => ?_)
      refine Oc rfl (op_move rfl) (Oc rfl (op_rem (by decide) rfl rfl) ?_)
      obtain ⟨⟨x_11, x_12⟩, e18, h⟩ := bnd h
      refine Oc rfl (op_call0 (whole_up_spec e18) goes125 rfl rfl) (Oc rfl (op_move rfl) ?_)
      refine OpsL.keepS ⟨[(2, Pt 101 0), (4, Pt 102 0), (5, Pt 104 0), (48, .tup [.agg ((eA16 .u32) x_11), .one (.int .u32 x_12)])], [(101, .box 25 (eBig x0)), (102, .box 25 (.bool false :: .bool false :: ((eA16 .u32) A16.zero))), (104, .box 23 ((eA16 .u32) (A16.of (spliceE A16.zero.l ((x_8 : Int).toNat) ((x0.W.l.drop 0).take (min 16 (16 - (x_8 : Int).toNat)))))))]⟩ rfl ?_
      refine Oc rfl (op_extract rfl rfl) (Oc rfl (op_extract rfl rfl) (Oc rfl (op_store_p tyAgg23 rfl rfl rfl rfl (Nat.le_of_ble_eq_true rfl) rfl) ?_))
      refine OpsL.nilS ⟨[(2, Pt 101 0), (4, Pt 102 0), (5, Pt 104 0)], [(101, .box 25 (eBig x0)), (102, .box 25 (.bool false :: .bool false :: ((eA16 .u32) A16.zero))), (104, .box 23 ((eA16 .u32) x_11))]⟩ rfl ?_
      refine Tri.seq (Tri.regionL ?_)
      refine Oc rfl (op_field_p tyFld25_1 rfl rfl) (Oc rfl (op_load_p1 tyOne4 rfl rfl rfl) (Oc rfl (op_load_p tyAgg23 rfl rfl rfl rfl) ?_))
      obtain ⟨x_13, e19, h⟩ := bnd h
      refine Oc rfl (op_call0 (whole_signed_spec e19) goes115 rfl rfl) (Oc rfl (op_store_p tyAgg25 rfl rfl rfl rfl (Nat.le_of_ble_eq_true rfl) rfl) ?_)
      refine OpsL.nilS ⟨[(4, Pt 102 0)], [(102, .box 25 (eBig x_13))]⟩ rfl ?_
      refine Tri.ret ?_
      refine Fin.then_ret ?_
      obtain rfl := Option.some.inj h
      refine Fin.keepS ⟨[(4, Pt 102 0)], [(102, .box 25 (eBig x_13))]⟩ rfl ?_
      refine Fin.result' [.agg (eBig x_13)] (.inl rfl) rfl (.cons (.agg tyAgg25 rfl rfl rfl rfl) .nil) ⟨rfl, rfl⟩
     ·refine Tri.skip ?_
      refine Fin.keepS ⟨[(1, I n0), (2, Pt 101 0), (4, Pt 102 0), (5, Pt 104 0), (6, I x_8)], [(101, .box 25 (eBig x0)), (102, .box 25 (.bool false :: .bool false :: ((eA16 .u32) A16.zero))), (104, .box 23 ((eA16 .u32) A16.zero))]⟩ rfl ?_
      refine Fin.then (Tri.seq ?_)
      refine Tri.keepS ⟨[(1, I n0), (2, Pt 101 0), (4, Pt 102 0), (5, Pt 104 0), (6, I x_8)], [(101, .box 25 (eBig x0)), (102, .box 25 (.bool false :: .bool false :: ((eA16 .u32) A16.zero))), (104, .box 23 ((eA16 .u32) A16.zero))]⟩ rfl ?_
      obtain ⟨x_14, e20, h⟩ := bnd h
      refine Tri.regionY mixed 5 [.b (.psl 104 0 16 16), Pt 101 2, I x_8, I (IntKind.i64.wrap (-x_8)), .b (.psl 101 (2 + (IntKind.i64.wrap (-x_8) : Int).toNat) (16 - (IntKind.i64.wrap (-x_8) : Int).toNat) (16 - (IntKind.i64.wrap (-x_8) : Int).toNat))] [1, 2, 4, 5] [101, 102, 104] (s' := ⟨[(1, I n0), (2, Pt 101 0), (4, Pt 102 0), (5, Pt 104 0)], [(101, .box 25 (eBig x0)), (102, .box 25 (.bool false :: .bool false :: ((eA16 .u32) A16.zero))), (104, .box 23 ((eA16 .u32) (A16.of (spliceE A16.zero.l 0 ((x0.W.l.drop ((IntKind.i64.wrap (-x_8) : Int).toNat)).take (min (16 - (IntKind.i64.wrap (-x_8) : Int).toNat) 16))))))]⟩) rfl ⟨fun _ => .plain rfl (op_slice_a tyArr23 (by decide) rfl), fun _ => .plain rfl (op_field_p tyFld25_2 rfl rfl), fun _ => .plain rfl (op_move rfl), fun _ => .plain rfl (op_neg rfl), fun _ => .plain rfl (op_slice_al tyArr23 (slo_lo e20) (slo_hi e20) rfl rfl), trivial⟩ ⟨_, by exact .plain rfl (op_copy_psl (m := min (16 - (IntKind.i64.wrap (-x_8) : Int).toNat) 16) tySl100 (by rfl) (by have q1_ := slo_lo e20; have p1_ := slo_hi e20; first | decide | (show (min (16 - (IntKind.i64.wrap (-x_8) : Int).toNat) 16) ≤ 9223372036854775807; omega)) rfl rfl rfl rfl (by have q1_ := slo_lo e20; have p1_ := slo_hi e20; first | decide | (show 0 + (min (16 - (IntKind.i64.wrap (-x_8) : Int).toNat) 16) ≤ 16; omega)) (by have q1_ := slo_lo e20; have p1_ := slo_hi e20; first | decide | (show (2 + (IntKind.i64.wrap (-x_8) : Int).toNat) + (min (16 - (IntKind.i64.wrap (-x_8) : Int).toNat) 16) ≤ 18; omega)) (splice_arr (a := 0) (a2 := 2) (off := 0) (off2 := 2 + (IntKind.i64.wrap (-x_8) : Int).toNat) (post := []) (post2 := []) (l := A16.zero.l) (l2 := x0.W.l) (kd := .u32) (lo := 0) (lo2 := (IntKind.i64.wrap (-x_8) : Int).toNat) [] [.bool x0.Bad, .bool x0.Neg] rfl rfl rfl rfl (by omega) (by omega) (by have q1_ := slo_lo e20; have p1_ := slo_hi e20; first | decide | (show 0 + (min (16 - (IntKind.i64.wrap (-x_8) : Int).toNat) 16) ≤ 16; omega)) (by have q1_ := slo_lo e20; have p1_ := slo_hi e20; first | decide | (show ((IntKind.i64.wrap (-x_8) : Int).toNat) + (min (16 - (IntKind.i64.wrap (-x_8) : Int).toNat) 16) ≤ 16; omega)) (A16.l_of (spliceE_lenA rfl (by have q1_ := slo_lo e20; have p1_ := slo_hi e20; first | decide | (show 0 + (min (16 - (IntKind.i64.wrap (-x_8) : Int).toNat) 16) ≤ 16; omega)) (by have q1_ := slo_lo e20; have p1_ := slo_hi e20; first | decide | (show ((IntKind.i64.wrap (-x_8) : Int).toNat) + (min (16 - (IntKind.i64.wrap (-x_8) : Int).toNat) 16) ≤ 16; omega)))) rfl)), rfl⟩ rfl ?_
      refine Tri.seq ?_
      refine Tri.keepS ⟨[(1, I n0), (2, Pt 101 0), (4, Pt 102 0), (5, Pt 104 0)], [(101, .box 25 (eBig x0)), (102, .box 25 (.bool false :: .bool false :: ((eA16 .u32) A16.zero))), (104, .box 23 ((eA16 .u32) (A16.of (spliceE A16.zero.l 0 ((x0.W.l.drop ((IntKind.i64.wrap (-x_8) : Int).toNat)).take (min (16 - (IntKind.i64.wrap (-x_8) : Int).toNat) 16))))))]⟩ rfl ?_
      obtain ⟨x_15, e21, h⟩ := bnd h
      obtain ⟨x_16, e22, h⟩ := bnd h
      refine Tri.regionY mixed 10 [.b (.agg (eBig x0)), .b (.agg ((eA16 .u32) (A16.of (spliceE A16.zero.l 0 ((x0.W.l.drop ((IntKind.i64.wrap (-x_8) : Int).toNat)).take (min (16 - (IntKind.i64.wrap (-x_8) : Int).toNat) 16)))))), I n0, I (IntKind.i64.wrap (-n0)), I (Int.tmod (IntKind.i64.wrap (-n0)) 32), .b (.agg ((eA16 .u32) x_15)), I n0, I (IntKind.i64.wrap (-n0)), .b (.one (.sl 1 ([IntKind.i64.wrap (-n0)].map eI))), .b (.agg (eBig x_16))] [4] [102] (s' := ⟨[(4, Pt 102 0)], [(102, .box 25 (eBig x_16))]⟩) rfl ⟨fun _ => .plain rfl (op_load_p tyAgg25 rfl rfl rfl rfl), fun _ => .plain rfl (op_load_p tyAgg23 rfl rfl rfl rfl), fun _ => .plain rfl (op_move rfl), fun _ => .plain rfl (op_neg rfl), fun _ => .plain rfl (op_rem (by decide) rfl rfl), fun _ => .plain rfl (op_call0 (whole_down_spec e21) goes126 rfl rfl), fun _ => .plain rfl (op_move rfl), fun _ => .plain rfl (op_neg rfl), fun _ => .plain rfl (op_buildSliceP (es := [IntKind.i64.wrap (-n0)].map eI) tySl70 rfl rfl (uni_map fun _ => rfl) rfl (by decide) (by decide)), fun _ => .plain rfl (op_call0 (whole_lost_spec e22) goes124 rfl rfl), trivial⟩ ⟨_, by exact .plain rfl (op_store_p tyAgg25 rfl rfl rfl rfl (Nat.le_of_ble_eq_true rfl) rfl), rfl⟩ rfl ?_
      refine Tri.ret ?_
      obtain rfl := Option.some.inj h
      refine Fin.keepS ⟨[(4, Pt 102 0)], [(102, .box 25 (eBig x_16))]⟩ rfl ?_
      refine Fin.result' [.agg (eBig x_16)] (.inl rfl) rfl (.cons (.agg tyAgg25 rfl rfl rfl rfl) .nil) ⟨rfl, rfl⟩
def ratio_Dyadic_S (F : Nat) (x0 : Frc) (k0 : Int) : Option (Frc × Frc) :=
 Option.bind (ratio_Good_S F x0) (fun x_1 => if (((!x_1) || (decide (k0 < 0))) || (decide (256 < k0))) = true then (Option.bind (ratio_Bad_S F) (fun x_2 => Option.bind (ratio_Bad_S F) (fun x_3 => some (x_2, x_3)))) else (Option.bind (whole_Shift_S F x0.N k0) (fun x_4 => Option.bind (ratio_one_S F) (fun x_5 => Option.bind (whole_Shift_S F x_5 k0) (fun x_6 => Option.bind (whole_Quo_S F x_4 x0.D) (fun x_7 => Option.bind (ratio_Make_S F x_7 x_6) (fun x_8 => Option.bind (whole_Neg_S F x_4) (fun x_9 => Option.bind (whole_Quo_S F x_9 x0.D) (fun x_10 => Option.bind (whole_Neg_S F x_10) (fun x_11 => Option.bind (ratio_Make_S F x_11 x_6) (fun x_12 => Option.bind (ratio_Good_S F x_8) (fun x_13 => Option.bind (gcall (!(!x_13)) (ratio_Good_S F x_12)) (fun x_14 => if ((!x_13) || (!x_14)) = true then (Option.bind (ratio_Bad_S F) (fun x_15 => Option.bind (ratio_Bad_S F) (fun x_16 => some (x_15, x_16)))) else (some (x_8, x_12)))))))))))))))
theorem ratio_Dyadic_spec {F : Nat} {x0 : Frc} {k0 : Int} {r : Frc × Frc} (h : ratio_Dyadic_S F x0 k0 = some r) : Meets Tryz.prog (tabs mx) 29 [] [.agg (eFrc x0), .one (.i k0)] (Is [] (.tup [.agg (eFrc r.1), .agg (eFrc r.2)])) := by
 unfold ratio_Dyadic_S at h
 refine Meets.intro 54 Tryz.func29 Tryz.ntmps29 rfl (by simp) fun E => ?_
 show Tri _ E ⟨54, [], []⟩ _ ⟨[(0, .b (.agg (eFrc x0))), (1, I k0)], []⟩ _
 refine Tri.seq (Tri.regionL ?_)
 refine Oc rfl (op_box (k := 101) rfl rfl) (Oc rfl (op_alloc (k := 102) tyZero27 rfl) (Oc rfl (op_alloc (k := 103) tyZero27 rfl) ?_))
 refine OpsL.nilS ⟨[(1, I k0), (2, Pt 101 0), (4, Pt 102 0), (5, Pt 103 0)], [(101, .box 27 (eFrc x0)), (102, .box 27 (.bool false :: .bool false :: ((eA16 .u32) A16.zero ++ (.bool false :: .bool false :: ((eA16 .u32) A16.zero))))), (103, .box 27 (.bool false :: .bool false :: ((eA16 .u32) A16.zero ++ (.bool false :: .bool false :: ((eA16 .u32) A16.zero)))))]⟩ rfl ?_
 refine Tri.seq (Tri.seq (Tri.regionL ?_))
 refine Oc rfl (op_load_p tyAgg27 rfl rfl rfl rfl) ?_
 obtain ⟨x_1, e1, h⟩ := bnd h
 refine Oc rfl (op_call0 (ratio_Good_spec e1) goes26 rfl rfl) (Oc rfl (op_not rfl) (Oc rfl (op_move rfl) ?_))
 refine OpsL.consG (!(!x_1)) 99 [] (.plain rfl) (eq_f _) rfl rfl (fun g2 => trivial) (fun g2 => op_move rfl) ?_
 refine OpsL.keepS ⟨[(1, I k0), (2, Pt 101 0), (4, Pt 102 0), (5, Pt 103 0), (11, B (!x_1)), (12, .opt (!(!x_1)) (.one (.i k0)))], [(101, .box 27 (eFrc x0)), (102, .box 27 (.bool false :: .bool false :: ((eA16 .u32) A16.zero ++ (.bool false :: .bool false :: ((eA16 .u32) A16.zero))))), (103, .box 27 (.bool false :: .bool false :: ((eA16 .u32) A16.zero ++ (.bool false :: .bool false :: ((eA16 .u32) A16.zero)))))]⟩ rfl ?_
 refine OpsL.consG (!(!x_1)) 99 [12] (.plain rfl) (eq_f _) rfl rfl (fun g3 => ⟨g3, trivial⟩) (fun g3 => op_lss rfl rfl) ?_
 refine Oc rfl (op_pick_or (fun e => by rw [e]; rfl) rfl rfl rfl rfl) (Oc rfl (op_move rfl) ?_)
 refine OpsL.consG (!((!x_1) || (decide (k0 < 0)))) 99 [] (.plain rfl) (eq_f _) rfl rfl (fun g4 => trivial) (fun g4 => op_move rfl) ?_
 refine OpsL.consG (!((!x_1) || (decide (k0 < 0)))) 99 [16] (.plain rfl) (eq_f _) rfl rfl (fun g5 => ⟨g5, trivial⟩) (fun g5 => op_gtr rfl rfl) ?_
 refine Oc rfl (op_pick_or (fun e => by rw [e]; rfl) rfl rfl rfl rfl) ?_
 refine OpsL.nilS ⟨[(1, I k0), (2, Pt 101 0), (4, Pt 102 0), (5, Pt 103 0), (18, B (((!x_1) || (decide (k0 < 0))) || (decide (256 < k0))))], [(101, .box 27 (eFrc x0)), (102, .box 27 (.bool false :: .bool false :: ((eA16 .u32) A16.zero ++ (.bool false :: .bool false :: ((eA16 .u32) A16.zero))))), (103, .box 27 (.bool false :: .bool false :: ((eA16 .u32) A16.zero ++ (.bool false :: .bool false :: ((eA16 .u32) A16.zero)))))]⟩ rfl ?_
 refine Tri.ite h rfl (fun _ h => ?_) (fun _ h => ?_)
 ·refine Tri.seq (Tri.regionL ?_)
  obtain ⟨x_2, e6, h⟩ := bnd h
  refine Oc rfl (op_call0 (ratio_Bad_spec e6) goes27 rfl rfl) ?_
  obtain ⟨x_3, e7, h⟩ := bnd h
  refine Oc rfl (op_call0 (ratio_Bad_spec e7) goes27 rfl rfl) (Oc rfl (op_store_p tyAgg27 rfl rfl rfl rfl (Nat.le_of_ble_eq_true rfl) rfl) (Oc rfl (op_store_p tyAgg27 rfl rfl rfl rfl (Nat.le_of_ble_eq_true rfl) rfl) ?_))
  refine OpsL.nilS ⟨[(4, Pt 102 0), (5, Pt 103 0)], [(102, .box 27 (eFrc x_2)), (103, .box 27 (eFrc x_3))]⟩ rfl ?_
  refine Tri.ret ?_
  refine Fin.then_ret ?_
  obtain rfl := Option.some.inj h
  refine Fin.keepS ⟨[(4, Pt 102 0), (5, Pt 103 0)], [(102, .box 27 (eFrc x_2)), (103, .box 27 (eFrc x_3))]⟩ rfl ?_
  refine Fin.result' [.agg (eFrc x_2), .agg (eFrc x_3)] (.inl rfl) rfl (.cons (.agg tyAgg27 rfl rfl rfl rfl) (.cons (.agg tyAgg27 rfl rfl rfl rfl) .nil)) ⟨rfl, rfl⟩
 ·refine Tri.skip ?_
  refine Fin.keepS ⟨[(1, I k0), (2, Pt 101 0), (4, Pt 102 0), (5, Pt 103 0)], [(101, .box 27 (eFrc x0)), (102, .box 27 (.bool false :: .bool false :: ((eA16 .u32) A16.zero ++ (.bool false :: .bool false :: ((eA16 .u32) A16.zero))))), (103, .box 27 (.bool false :: .bool false :: ((eA16 .u32) A16.zero ++ (.bool false :: .bool false :: ((eA16 .u32) A16.zero)))))]⟩ rfl ?_
  refine Fin.then (Tri.seq (Tri.regionL ?_))
  refine Oc rfl (op_field_p tyFld27_0 rfl rfl) (Oc rfl (op_load_p tyAgg25 rfl rfl rfl rfl) (Oc rfl (op_move rfl) ?_))
  obtain ⟨x_4, e8, h⟩ := bnd h
  refine Oc rfl (op_call0 (whole_Shift_spec e8) goes93 rfl rfl) ?_
  refine OpsL.keepS ⟨[(1, I k0), (2, Pt 101 0), (4, Pt 102 0), (5, Pt 103 0), (24, .b (.agg (eBig x_4)))], [(101, .box 27 (eFrc x0)), (102, .box 27 (.bool false :: .bool false :: ((eA16 .u32) A16.zero ++ (.bool false :: .bool false :: ((eA16 .u32) A16.zero))))), (103, .box 27 (.bool false :: .bool false :: ((eA16 .u32) A16.zero ++ (.bool false :: .bool false :: ((eA16 .u32) A16.zero)))))]⟩ rfl ?_
  obtain ⟨x_5, e9, h⟩ := bnd h
  refine Oc rfl (op_call0 (ratio_one_spec e9) goes90 rfl rfl) (Oc rfl (op_move rfl) ?_)
  obtain ⟨x_6, e10, h⟩ := bnd h
  refine Oc rfl (op_call0 (whole_Shift_spec e10) goes93 rfl rfl) (Oc rfl (op_alloc (k := 104) tyZero25 rfl) ?_)
  refine OpsL.keepS ⟨[(2, Pt 101 0), (4, Pt 102 0), (5, Pt 103 0), (6, Pt 104 0), (24, .b (.agg (eBig x_4))), (27, .b (.agg (eBig x_6)))], [(101, .box 27 (eFrc x0)), (102, .box 27 (.bool false :: .bool false :: ((eA16 .u32) A16.zero ++ (.bool false :: .bool false :: ((eA16 .u32) A16.zero))))), (103, .box 27 (.bool false :: .bool false :: ((eA16 .u32) A16.zero ++ (.bool false :: .bool false :: ((eA16 .u32) A16.zero))))), (104, .box 25 (.bool false :: .bool false :: ((eA16 .u32) A16.zero)))]⟩ rfl ?_
  refine Oc rfl (op_alloc (k := 105) tyZero25 rfl) (Oc rfl (op_store_p tyAgg25 rfl rfl rfl rfl (Nat.le_of_ble_eq_true rfl) rfl) (Oc rfl (op_store_p tyAgg25 rfl rfl rfl rfl (Nat.le_of_ble_eq_true rfl) rfl) ?_))
  refine OpsL.nilS ⟨[(2, Pt 101 0), (4, Pt 102 0), (5, Pt 103 0), (6, Pt 104 0), (7, Pt 105 0)], [(101, .box 27 (eFrc x0)), (102, .box 27 (.bool false :: .bool false :: ((eA16 .u32) A16.zero ++ (.bool false :: .bool false :: ((eA16 .u32) A16.zero))))), (103, .box 27 (.bool false :: .bool false :: ((eA16 .u32) A16.zero ++ (.bool false :: .bool false :: ((eA16 .u32) A16.zero))))), (104, .box 25 (eBig x_4)), (105, .box 25 (eBig x_6))]⟩ rfl ?_
  refine Tri.seq ?_
  refine Tri.keepS ⟨[(2, Pt 101 0), (4, Pt 102 0), (5, Pt 103 0), (6, Pt 104 0), (7, Pt 105 0)], [(101, .box 27 (eFrc x0)), (102, .box 27 (.bool false :: .bool false :: ((eA16 .u32) A16.zero ++ (.bool false :: .bool false :: ((eA16 .u32) A16.zero))))), (103, .box 27 (.bool false :: .bool false :: ((eA16 .u32) A16.zero ++ (.bool false :: .bool false :: ((eA16 .u32) A16.zero))))), (104, .box 25 (eBig x_4)), (105, .box 25 (eBig x_6))]⟩ rfl ?_
  obtain ⟨x_7, e11, h⟩ := bnd h
  obtain ⟨x_8, e12, h⟩ := bnd h
  refine Tri.regionY mixed 6 [.b (.agg (eBig x_4)), Pt 101 18, .b (.agg (eBig x0.D)), .b (.agg (eBig x_7)), .b (.agg (eBig x_6)), .b (.agg (eFrc x_8))] [2, 4, 5, 6, 7] [101, 102, 103, 104, 105] (s' := ⟨[(2, Pt 101 0), (4, Pt 102 0), (5, Pt 103 0), (6, Pt 104 0), (7, Pt 105 0)], [(101, .box 27 (eFrc x0)), (102, .box 27 (eFrc x_8)), (103, .box 27 (.bool false :: .bool false :: ((eA16 .u32) A16.zero ++ (.bool false :: .bool false :: ((eA16 .u32) A16.zero))))), (104, .box 25 (eBig x_4)), (105, .box 25 (eBig x_6))]⟩) rfl ⟨fun _ => .plain rfl (op_load_p tyAgg25 rfl rfl rfl rfl), fun _ => .plain rfl (op_field_p tyFld27_1 rfl rfl), fun _ => .plain rfl (op_load_p tyAgg25 rfl rfl rfl rfl), fun _ => .plain rfl (op_call0 (whole_Quo_spec e11) goes75 rfl rfl), fun _ => .plain rfl (op_load_p tyAgg25 rfl rfl rfl rfl), fun _ => .plain rfl (op_call0 (ratio_Make_spec e12) goes11 rfl rfl), trivial⟩ ⟨_, by exact .plain rfl (op_store_p tyAgg27 rfl rfl rfl rfl (Nat.le_of_ble_eq_true rfl) rfl), rfl⟩ rfl ?_
  refine Tri.seq ?_
  refine Tri.keepS ⟨[(2, Pt 101 0), (4, Pt 102 0), (5, Pt 103 0), (6, Pt 104 0), (7, Pt 105 0)], [(101, .box 27 (eFrc x0)), (102, .box 27 (eFrc x_8)), (103, .box 27 (.bool false :: .bool false :: ((eA16 .u32) A16.zero ++ (.bool false :: .bool false :: ((eA16 .u32) A16.zero))))), (104, .box 25 (eBig x_4)), (105, .box 25 (eBig x_6))]⟩ rfl ?_
  obtain ⟨x_9, e13, h⟩ := bnd h
  obtain ⟨x_10, e14, h⟩ := bnd h
  obtain ⟨x_11, e15, h⟩ := bnd h
  obtain ⟨x_12, e16, h⟩ := bnd h
  refine Tri.regionY mixed 8 [.b (.agg (eBig x_4)), .b (.agg (eBig x_9)), Pt 101 18, .b (.agg (eBig x0.D)), .b (.agg (eBig x_10)), .b (.agg (eBig x_11)), .b (.agg (eBig x_6)), .b (.agg (eFrc x_12))] [4, 5] [102, 103] (s' := ⟨[(4, Pt 102 0), (5, Pt 103 0)], [(102, .box 27 (eFrc x_8)), (103, .box 27 (eFrc x_12))]⟩) rfl ⟨fun _ => .plain rfl (op_load_p tyAgg25 rfl rfl rfl rfl), fun _ => .plain rfl (op_call0 (whole_Neg_spec e13) goes74 rfl rfl), fun _ => .plain rfl (op_field_p tyFld27_1 rfl rfl), fun _ => .plain rfl (op_load_p tyAgg25 rfl rfl rfl rfl), fun _ => .plain rfl (op_call0 (whole_Quo_spec e14) goes75 rfl rfl), fun _ => .plain rfl (op_call0 (whole_Neg_spec e15) goes74 rfl rfl), fun _ => .plain rfl (op_load_p tyAgg25 rfl rfl rfl rfl), fun _ => .plain rfl (op_call0 (ratio_Make_spec e16) goes11 rfl rfl), trivial⟩ ⟨_, by exact .plain rfl (op_store_p tyAgg27 rfl rfl rfl rfl (Nat.le_of_ble_eq_true rfl) rfl), rfl⟩ rfl ?_
  refine Tri.seq (Tri.seq (Tri.regionL ?_))
  refine Oc rfl (op_load_p tyAgg27 rfl rfl rfl rfl) ?_
  obtain ⟨x_13, e17, h⟩ := bnd h
  refine Oc rfl (op_call0 (ratio_Good_spec e17) goes26 rfl rfl) (Oc rfl (op_not rfl) (Oc rfl (op_move rfl) ?_))
  refine OpsL.consG (!(!x_13)) 99 [] (.plain rfl) (eq_f _) rfl rfl (fun g18 => trivial) (fun g18 => op_load_p tyAgg27 rfl rfl rfl rfl) ?_
  refine OpsL.keepS ⟨[(4, Pt 102 0), (5, Pt 103 0), (45, B (!x_13)), (46, .opt (!(!x_13)) (.agg (eFrc x_12)))], [(102, .box 27 (eFrc x_8)), (103, .box 27 (eFrc x_12))]⟩ rfl ?_
  obtain ⟨x_14, e20, h⟩ := bnd h
  refine OpsL.consG (!(!x_13)) 99 [46] (.plain rfl) (eq_f _) rfl rfl (fun g19 => ⟨g19, trivial⟩) (fun g19 => op_call0 (ratio_Good_spec (gc e20 g19)) goes26 rfl rfl) ?_
  refine OpsL.consG (!(!x_13)) 99 [47] (.plain rfl) (eq_f _) rfl rfl (fun g21 => ⟨g21, trivial⟩) (fun g21 => op_not rfl) ?_
  refine Oc rfl (op_pick_or (fun e => by rw [e]; rfl) rfl rfl rfl rfl) ?_
  refine OpsL.nilS ⟨[(4, Pt 102 0), (5, Pt 103 0), (49, B ((!x_13) || (!x_14)))], [(102, .box 27 (eFrc x_8)), (103, .box 27 (eFrc x_12))]⟩ rfl ?_
  refine Tri.ite h rfl (fun _ h => ?_) (fun _ h => ?_)
  ·refine Tri.seq (Tri.regionL ?_)
   obtain ⟨x_15, e22, h⟩ := bnd h
   refine Oc rfl (op_call0 (ratio_Bad_spec e22) goes27 rfl rfl) ?_
   obtain ⟨x_16, e23, h⟩ := bnd h
   refine Oc rfl (op_call0 (ratio_Bad_spec e23) goes27 rfl rfl) (Oc rfl (op_store_p tyAgg27 rfl rfl rfl rfl (Nat.le_of_ble_eq_true rfl) rfl) (Oc rfl (op_store_p tyAgg27 rfl rfl rfl rfl (Nat.le_of_ble_eq_true rfl) rfl) ?_))
   refine OpsL.nilS ⟨[(4, Pt 102 0), (5, Pt 103 0)], [(102, .box 27 (eFrc x_15)), (103, .box 27 (eFrc x_16))]⟩ rfl ?_
   refine Tri.ret ?_
   refine Fin.then_ret ?_
   obtain rfl := Option.some.inj h
   refine Fin.keepS ⟨[(4, Pt 102 0), (5, Pt 103 0)], [(102, .box 27 (eFrc x_15)), (103, .box 27 (eFrc x_16))]⟩ rfl ?_
   refine Fin.result' [.agg (eFrc x_15), .agg (eFrc x_16)] (.inl rfl) rfl (.cons (.agg tyAgg27 rfl rfl rfl rfl) (.cons (.agg tyAgg27 rfl rfl rfl rfl) .nil)) ⟨rfl, rfl⟩
  ·refine Tri.skip ?_
   refine Fin.keepS ⟨[(4, Pt 102 0), (5, Pt 103 0)], [(102, .box 27 (eFrc x_8)), (103, .box 27 (eFrc x_12))]⟩ rfl ?_
   refine Fin.then (Tri.seq ?_)
   refine Tri.keepS ⟨[(4, Pt 102 0), (5, Pt 103 0)], [(102, .box 27 (eFrc x_8)), (103, .box 27 (eFrc x_12))]⟩ rfl ?_
   refine Tri.regionW mixed [false, false, true, true] [.b (.agg (eFrc x_8)), .b (.agg (eFrc x_12)), B true, B true] [⟨[false, false, false, false], [(4, Pt 102 0), (5, Pt 103 0)], [(102, .box 27 (eFrc x_8)), (103, .box 27 (eFrc x_12))], [true, true, true, true], []⟩, ⟨[false, false, true, false], [(4, Pt 102 0), (5, Pt 103 0)], [(102, .box 27 (eFrc x_8)), (103, .box 27 (eFrc x_12))], [true, true, true, true], [0, 2]⟩, ⟨[false, false, true, true], [(4, Pt 102 0), (5, Pt 103 0)], [(102, .box 27 (eFrc x_8)), (103, .box 27 (eFrc x_12))], [true, true, true, true], [0, 1, 2, 3]⟩] rfl (⟨by kernel_rfl, ⟨⟨.b (.agg (eFrc x_8)), fun _ => rfl, fun _ => .plain rfl (by exact op_load_p tyAgg27 rfl rfl rfl rfl)⟩, ⟨.b (.agg (eFrc x_12)), fun _ => rfl, fun _ => .plain rfl (by exact op_load_p tyAgg27 rfl rfl rfl rfl)⟩, ⟨_, none, .b (.one .any), rfl, (fun e => by simp at e), rfl, rfl, fun _ => .toO [102, 103] (by exact .plain rfl (by exact op_store_p tyAgg27 rfl rfl rfl rfl (Nat.le_of_ble_eq_true rfl) rfl)) (by exact rfl)⟩, trivial, trivial⟩, ⟨by kernel_rfl, ⟨trivial, ⟨.b (.agg (eFrc x_12)), fun _ => rfl, fun _ => .plain rfl (by exact op_load_p tyAgg27 rfl rfl rfl rfl)⟩, trivial, ⟨_, none, .b (.one .any), rfl, (fun e => by simp at e), rfl, rfl, fun _ => .toO [102, 103] (by exact .plain rfl (by exact op_store_p tyAgg27 rfl rfl rfl rfl (Nat.le_of_ble_eq_true rfl) rfl)) (by exact rfl)⟩, trivial⟩, ⟨by kernel_rfl, ⟨trivial, trivial, trivial, trivial, trivial⟩, trivial⟩⟩⟩) rfl rfl rfl [4, 5] [102, 103] (s' := ⟨[(4, Pt 102 0), (5, Pt 103 0)], [(102, .box 27 (eFrc x_8)), (103, .box 27 (eFrc x_12))]⟩) rfl ?_
   refine Tri.ret ?_
   obtain rfl := Option.some.inj h
   refine Fin.keepS ⟨[(4, Pt 102 0), (5, Pt 103 0)], [(102, .box 27 (eFrc x_8)), (103, .box 27 (eFrc x_12))]⟩ rfl ?_
   refine Fin.result' [.agg (eFrc x_8), .agg (eFrc x_12)] (.inl rfl) rfl (.cons (.agg tyAgg27 rfl rfl rfl rfl) (.cons (.agg tyAgg27 rfl rfl rfl rfl) .nil)) ⟨rfl, rfl⟩
def ratio_Cmp_S (F : Nat) (x0 : Frc) (y0 : Frc) : Option Int :=
 Option.bind (ratio_Good_S F x0) (fun x_1 => Option.bind (ratio_Good_S F y0) (fun x_2 => if ((!x_1) && (!x_2)) = true then (some 0) else (if (!x_1) = true then (some (-1)) else (if (!x_2) = true then (some 1) else (Option.bind (iter F (un3 fun x_4 y_5 out_6 => Option.bind (whole_Quo_S F x_4.N x_4.D) (fun x_8 => Option.bind (whole_Quo_S F y_5.N y_5.D) (fun x_9 => Option.bind (whole_Cmp_S F x_8 x_9) (fun x_10 => if (decide (x_10 ≠ 0)) = true then (some (.inr (IntKind.i64.wrap (out_6 * x_10)))) else (Option.bind (whole_Rem_S F x_4.N x_4.D) (fun x_11 => Option.bind (whole_Rem_S F y_5.N y_5.D) (fun x_12 => Option.bind (whole_Sign_S F x_11) (fun x_13 => Option.bind (whole_Sign_S F x_12) (fun x_14 => if ((decide (x_13 = 0)) || (decide (x_14 = 0))) = true then (letN (IntKind.i64.wrap (out_6 * (IntKind.i64.wrap (x_13 - x_14)))) fun x_15 => some (.inr x_15)) else (some (.inl ((⟨x_4.D, x_11⟩ : Frc), (⟨y_5.D, x_12⟩ : Frc), IntKind.i64.wrap (-out_6))))))))))))) (x0, y0, 1)) (fun out_3 => some out_3))))))
theorem ratio_Cmp_spec {F : Nat} {x0 : Frc} {y0 : Frc} {r : Int} (h : ratio_Cmp_S F x0 y0 = some r) : Meets Tryz.prog (tabs mx) 39 [] [.agg (eFrc x0), .agg (eFrc y0)] (Is [] (.b (.one (.i r)))) := by
 unfold ratio_Cmp_S at h
 refine Meets.intro 80 Tryz.func39 Tryz.ntmps39 rfl (by simp) fun E => ?_
 show Tri _ E ⟨80, [], []⟩ _ ⟨[(0, .b (.agg (eFrc x0))), (1, .b (.agg (eFrc y0)))], []⟩ _
 refine Tri.seq (Tri.regionL ?_)
 refine Oc rfl (op_box (k := 101) rfl rfl) (Oc rfl (op_box (k := 102) rfl rfl) (Oc rfl (op_assign rfl) ?_))
 refine OpsL.nilS ⟨[(2, Pt 101 0), (3, Pt 102 0)], [(101, .box 27 (eFrc x0)), (102, .box 27 (eFrc y0))]⟩ rfl ?_
 refine Tri.scope ?_
 refine Tri.seq ?_
 refine Tri.keepS ⟨[(2, Pt 101 0), (3, Pt 102 0)], [(101, .box 27 (eFrc x0)), (102, .box 27 (eFrc y0))]⟩ rfl ?_
 obtain ⟨x_1, e1, h⟩ := bnd h
 obtain ⟨x_2, e2, h⟩ := bnd h
 refine Tri.regionY mixed 6 [.b (.agg (eFrc x0)), B x_1, .b (.agg (eFrc y0)), B x_2, B x_1, B x_2] [2, 3, 5, 6] [101, 102] (s' := ⟨[(2, Pt 101 0), (3, Pt 102 0), (5, B x_1), (6, B x_2)], [(101, .box 27 (eFrc x0)), (102, .box 27 (eFrc y0))]⟩) rfl ⟨fun _ => .plain rfl (op_load_p tyAgg27 rfl rfl rfl rfl), fun _ => .plain rfl (op_call0 (ratio_Good_spec e1) goes26 rfl rfl), fun _ => .plain rfl (op_load_p tyAgg27 rfl rfl rfl rfl), fun _ => .plain rfl (op_call0 (ratio_Good_spec e2) goes26 rfl rfl), fun _ => .plain rfl (op_assign rfl), fun _ => .plain rfl (op_assign rfl), trivial⟩ rfl rfl ?_
 refine Tri.seq (Tri.block (Tri.seq (Tri.regionL ?_)))
 refine Oc rfl (op_move rfl) (Oc rfl (op_not rfl) (Oc rfl (op_move rfl) ?_))
 refine OpsL.consG (!x_1) 99 [] (.plain rfl) (eq_t _) rfl rfl (fun g3 => trivial) (fun g3 => op_move rfl) ?_
 refine OpsL.consG (!x_1) 99 [19] (.plain rfl) (eq_t _) rfl rfl (fun g4 => ⟨g4, trivial⟩) (fun g4 => op_not rfl) ?_
 refine Oc rfl (op_pick_and (fun e => e) rfl rfl rfl rfl) (Oc rfl (op_assign rfl) ?_)
 refine OpsL.nilS ⟨[(2, Pt 101 0), (3, Pt 102 0), (5, B x_1), (6, B x_2), (15, B ((!x_1) && (!x_2)))], [(101, .box 27 (eFrc x0)), (102, .box 27 (eFrc y0))]⟩ rfl ?_
 refine Tri.ite h rfl (fun _ h => ?_) (fun _ h => ?_)
 ·refine Tri.seq (Tri.regionL ?_)
  refine Oc rfl (op_assign rfl) ?_
  refine OpsL.nilS ⟨[(4, I 0)], []⟩ rfl ?_
  refine Tri.ret ?_
  refine Fin.block_ret ?_
  refine Fin.then_ret ?_
  refine Fin.scope_ret ?_
  obtain rfl := Option.some.inj h
  refine Fin.keepS ⟨[(4, I 0)], []⟩ rfl ?_
  refine Fin.result' [.one (.i 0)] (.inl rfl) rfl (.cons (.tmp rfl) .nil) ⟨rfl, rfl⟩
 ·refine Tri.seq (Tri.regionL ?_)
  refine Oc rfl (op_move rfl) (Oc rfl (op_not rfl) (Oc rfl (op_assign rfl) ?_))
  refine OpsL.nilS ⟨[(2, Pt 101 0), (3, Pt 102 0), (6, B x_2), (22, B (!x_1))], [(101, .box 27 (eFrc x0)), (102, .box 27 (eFrc y0))]⟩ rfl ?_
  refine Tri.ite h rfl (fun _ h => ?_) (fun _ h => ?_)
  ·refine Tri.seq (Tri.regionL ?_)
   refine Oc rfl (op_assign rfl) ?_
   refine OpsL.nilS ⟨[(4, I (-1))], []⟩ rfl ?_
   refine Tri.ret ?_
   refine Fin.block_ret ?_
   refine Fin.then_ret ?_
   refine Fin.scope_ret ?_
   obtain rfl := Option.some.inj h
   refine Fin.keepS ⟨[(4, I (-1))], []⟩ rfl ?_
   refine Fin.result' [.one (.i (-1))] (.inl rfl) rfl (.cons (.tmp rfl) .nil) ⟨rfl, rfl⟩
  ·refine Tri.seq (Tri.regionL ?_)
   refine Oc rfl (op_move rfl) (Oc rfl (op_not rfl) (Oc rfl (op_assign rfl) ?_))
   refine OpsL.nilS ⟨[(2, Pt 101 0), (3, Pt 102 0), (25, B (!x_2))], [(101, .box 27 (eFrc x0)), (102, .box 27 (eFrc y0))]⟩ rfl ?_
   refine Tri.ite h rfl (fun _ h => ?_) (fun _ h => ?_)
   ·refine Tri.seq (Tri.regionL ?_)
    refine Oc rfl (op_assign rfl) ?_
    refine OpsL.nilS ⟨[(4, I 1)], []⟩ rfl ?_
    refine Tri.ret ?_
    refine Fin.block_ret ?_
    refine Fin.then_ret ?_
    refine Fin.scope_ret ?_
    obtain rfl := Option.some.inj h
    refine Fin.keepS ⟨[(4, I 1)], []⟩ rfl ?_
    refine Fin.result' [.one (.i 1)] (.inl rfl) rfl (.cons (.tmp rfl) .nil) ⟨rfl, rfl⟩
   ·refine Tri.skip ?_
    refine Fin.block_normal ?_
    refine Fin.keepS ⟨[(2, Pt 101 0), (3, Pt 102 0)], [(101, .box 27 (eFrc x0)), (102, .box 27 (eFrc y0))]⟩ rfl ?_
    refine Fin.then (Tri.seq (Tri.regionL ?_))
    refine Oc rfl (op_assign rfl) ?_
    refine OpsL.nilS ⟨[(2, Pt 101 0), (3, Pt 102 0), (7, I 1)], [(101, .box 27 (eFrc x0)), (102, .box 27 (eFrc y0))]⟩ rfl ?_
    refine Tri.seq ?_
    refine Tri.label ?_
    refine Fin.keepS ⟨[(2, Pt 101 0), (3, Pt 102 0), (7, I 1)], [(101, .box 27 (eFrc x0)), (102, .box 27 (eFrc y0))]⟩ rfl ?_
    refine Fin.then ?_
    obtain ⟨v5, h6, h⟩ := bnd h
    refine Tri.seqJ (v := v5) (fun (out_3 : Int) => ⟨[(7, I out_3)], []⟩) (fun z => z) ?_ ?_
    ·refine Tri.block ?_
     refine Tri.loopJ h6 (un3 fun (x_4 : Frc) (y_5 : Frc) (out_6 : Int) => ⟨[(2, Pt 101 0), (3, Pt 102 0), (7, I out_6)], [(101, .box 27 (eFrc x_4)), (102, .box 27 (eFrc y_5))]⟩) [2, 3, 7] [101, 102] rfl ?_
     rintro ⟨x_4, y_5, out_6⟩ o7 h8 hy9
     refine Tri.block (Tri.seq (Tri.seq ?_))
     refine Tri.keepS ⟨[(2, Pt 101 0), (3, Pt 102 0), (7, I out_6)], [(101, .box 27 (eFrc x_4)), (102, .box 27 (eFrc y_5))]⟩ rfl ?_
     obtain ⟨x_8, e10, h8⟩ := bnd h8
     obtain ⟨x_9, e11, h8⟩ := bnd h8
     obtain ⟨x_10, e12, h8⟩ := bnd h8
     refine Tri.regionY mixed 12 [Pt 101 0, .b (.agg (eBig x_4.N)), Pt 101 18, .b (.agg (eBig x_4.D)), .b (.agg (eBig x_8)), Pt 102 0, .b (.agg (eBig y_5.N)), Pt 102 18, .b (.agg (eBig y_5.D)), .b (.agg (eBig x_9)), I x_10, I x_10] [2, 3, 7, 8] [101, 102] (s' := ⟨[(2, Pt 101 0), (3, Pt 102 0), (7, I out_6), (8, I x_10)], [(101, .box 27 (eFrc x_4)), (102, .box 27 (eFrc y_5))]⟩) rfl ⟨fun _ => .plain rfl (op_field_p tyFld27_0 rfl rfl), fun _ => .plain rfl (op_load_p tyAgg25 rfl rfl rfl rfl), fun _ => .plain rfl (op_field_p tyFld27_1 rfl rfl), fun _ => .plain rfl (op_load_p tyAgg25 rfl rfl rfl rfl), fun _ => .plain rfl (op_call0 (whole_Quo_spec e10) goes75 rfl rfl), fun _ => .plain rfl (op_field_p tyFld27_0 rfl rfl), fun _ => .plain rfl (op_load_p tyAgg25 rfl rfl rfl rfl), fun _ => .plain rfl (op_field_p tyFld27_1 rfl rfl), fun _ => .plain rfl (op_load_p tyAgg25 rfl rfl rfl rfl), fun _ => .plain rfl (op_call0 (whole_Quo_spec e11) goes75 rfl rfl), fun _ => .plain rfl (op_call0 (whole_Cmp_spec e12) goes95 rfl rfl), fun _ => .plain rfl (op_assign rfl), trivial⟩ rfl rfl ?_
     refine Tri.seq (Tri.regionL ?_)
     refine Oc rfl (op_move rfl) (Oc rfl (op_neq rfl rfl) ?_)
     refine OpsL.nilS ⟨[(2, Pt 101 0), (3, Pt 102 0), (7, I out_6), (8, I x_10), (40, B (decide (x_10 ≠ 0)))], [(101, .box 27 (eFrc x_4)), (102, .box 27 (eFrc y_5))]⟩ rfl ?_
     refine Tri.ite h8 rfl (fun _ h8 => ?_) (fun _ h8 => ?_)
     ·refine Tri.seq (Tri.regionL ?_)
      refine Oc rfl (op_move rfl) (Oc rfl (op_move rfl) (Oc rfl (op_mul rfl rfl) (Oc rfl (op_assign rfl) ?_)))
      refine OpsL.nilS ⟨[(7, I (IntKind.i64.wrap (out_6 * x_10)))], []⟩ rfl ?_
      refine Tri.exit ?_
      refine Fin.then_exit ?_
      refine Fin.block_exit_other (by decide) ?_
      obtain rfl := hy9 _ (Option.some.inj h8).symm
      refine Fin.then_exit ?_
      refine Fin.block_exit ?_
      exact Fin.join [7] [] (IntKind.i64.wrap (out_6 * x_10)) rfl rfl
     ·refine Tri.skip ?_
      refine Fin.keepS ⟨[(2, Pt 101 0), (3, Pt 102 0), (7, I out_6)], [(101, .box 27 (eFrc x_4)), (102, .box 27 (eFrc y_5))]⟩ rfl ?_
      refine Fin.then (Tri.seq ?_)
      refine Tri.keepS ⟨[(2, Pt 101 0), (3, Pt 102 0), (7, I out_6)], [(101, .box 27 (eFrc x_4)), (102, .box 27 (eFrc y_5))]⟩ rfl ?_
      obtain ⟨x_11, e13, h8⟩ := bnd h8
      obtain ⟨x_12, e14, h8⟩ := bnd h8
      refine Tri.regionW mixed [false, false, false, false, false, false, false, false, false, false, false, false, false, false, false, false, true, true] [Pt 101 18, .b (.agg (eBig x_4.D)), Pt 101 0, .b (.agg (eBig x_4.N)), Pt 101 18, .b (.agg (eBig x_4.D)), .b (.agg (eBig x_11)), .b (.agg (eBig x_4.D ++ (eBig x_11))), Pt 102 18, .b (.agg (eBig y_5.D)), Pt 102 0, .b (.agg (eBig y_5.N)), Pt 102 18, .b (.agg (eBig y_5.D)), .b (.agg (eBig x_12)), .b (.agg (eBig y_5.D ++ (eBig x_12))), B true, B true] [⟨[false, false, false, false, false, false, false, false, false, false, false, false, false, false, false, false, false, false], [(2, Pt 101 0), (3, Pt 102 0), (7, I out_6)], [(101, .box 27 (eFrc x_4)), (102, .box 27 (eFrc y_5))], [true, true, true, true, true, true, true, true, true, true, true, true, true, true, true, true, true, true], []⟩, ⟨[false, false, false, false, false, false, false, false, false, false, false, false, false, false, false, false, true, false], [(2, Pt 101 0), (3, Pt 102 0), (7, I out_6)], [(101, .box 27 (eBig x_4.D ++ (eBig x_11))), (102, .box 27 (eFrc y_5))], [true, true, true, true, true, true, true, true, true, true, true, true, true, true, true, true, true, true], [0, 1, 2, 3, 4, 5, 6, 7, 10, 11, 12, 13, 14, 16]⟩, ⟨[false, false, false, false, false, false, false, false, false, false, false, false, false, false, false, false, true, true], [(2, Pt 101 0), (3, Pt 102 0), (7, I out_6)], [(101, .box 27 (eBig x_4.D ++ (eBig x_11))), (102, .box 27 (eBig y_5.D ++ (eBig x_12)))], [true, true, true, true, true, true, true, true, true, true, true, true, true, true, true, true, true, true], [0, 1, 2, 3, 4, 5, 6, 7, 8, 9, 10, 11, 12, 13, 14, 15, 16, 17]⟩] rfl (⟨by kernel_rfl, ⟨⟨Pt 101 18, fun _ => rfl, fun _ => .plain rfl (by exact op_field_p tyFld27_1 rfl rfl)⟩, ⟨.b (.agg (eBig x_4.D)), fun _ => rfl, fun _ => .plain rfl (by exact op_load_p tyAgg25 rfl rfl rfl rfl)⟩, ⟨Pt 101 0, fun _ => rfl, fun _ => .plain rfl (by exact op_field_p tyFld27_0 rfl rfl)⟩, ⟨.b (.agg (eBig x_4.N)), fun _ => rfl, fun _ => .plain rfl (by exact op_load_p tyAgg25 rfl rfl rfl rfl)⟩, ⟨Pt 101 18, fun _ => rfl, fun _ => .plain rfl (by exact op_field_p tyFld27_1 rfl rfl)⟩, ⟨.b (.agg (eBig x_4.D)), fun _ => rfl, fun _ => .plain rfl (by exact op_load_p tyAgg25 rfl rfl rfl rfl)⟩, ⟨.b (.agg (eBig x_11)), fun _ => rfl, fun _ => .plain rfl (by exact op_call0 (whole_Rem_spec e13) goes94 rfl rfl)⟩, ⟨.b (.agg (eBig x_4.D ++ (eBig x_11))), fun _ => rfl, fun _ => .plain rfl (by exact op_build tyBuild27 rfl rfl)⟩, ⟨Pt 102 18, fun _ => rfl, fun _ => .plain rfl (by exact op_field_p tyFld27_1 rfl rfl)⟩, ⟨.b (.agg (eBig y_5.D)), fun _ => rfl, fun _ => .plain rfl (by exact op_load_p tyAgg25 rfl rfl rfl rfl)⟩, ⟨Pt 102 0, fun _ => rfl, fun _ => .plain rfl (by exact op_field_p tyFld27_0 rfl rfl)⟩, ⟨.b (.agg (eBig y_5.N)), fun _ => rfl, fun _ => .plain rfl (by exact op_load_p tyAgg25 rfl rfl rfl rfl)⟩, ⟨Pt 102 18, fun _ => rfl, fun _ => .plain rfl (by exact op_field_p tyFld27_1 rfl rfl)⟩, ⟨.b (.agg (eBig y_5.D)), fun _ => rfl, fun _ => .plain rfl (by exact op_load_p tyAgg25 rfl rfl rfl rfl)⟩, ⟨.b (.agg (eBig x_12)), fun _ => rfl, fun _ => .plain rfl (by exact op_call0 (whole_Rem_spec e14) goes94 rfl rfl)⟩, ⟨.b (.agg (eBig y_5.D ++ (eBig x_12))), fun _ => rfl, fun _ => .plain rfl (by exact op_build tyBuild27 rfl rfl)⟩, ⟨_, none, .b (.one .any), rfl, (fun e => by simp at e), rfl, rfl, fun _ => .toO [101, 102] (by exact .plain rfl (by exact op_store_p tyAgg27 rfl rfl rfl rfl (Nat.le_of_ble_eq_true rfl) rfl)) (by exact rfl)⟩, trivial, trivial⟩, ⟨by kernel_rfl, ⟨trivial, trivial, trivial, trivial, trivial, trivial, trivial, trivial, ⟨Pt 102 18, fun _ => rfl, fun _ => .plain rfl (by exact op_field_p tyFld27_1 rfl rfl)⟩, ⟨.b (.agg (eBig y_5.D)), fun _ => rfl, fun _ => .plain rfl (by exact op_load_p tyAgg25 rfl rfl rfl rfl)⟩, trivial, trivial, trivial, trivial, trivial, ⟨.b (.agg (eBig y_5.D ++ (eBig x_12))), fun _ => rfl, fun _ => .plain rfl (by exact op_build tyBuild27 rfl rfl)⟩, trivial, ⟨_, none, .b (.one .any), rfl, (fun e => by simp at e), rfl, rfl, fun _ => .toO [101, 102] (by exact .plain rfl (by exact op_store_p tyAgg27 rfl rfl rfl rfl (Nat.le_of_ble_eq_true rfl) rfl)) (by exact rfl)⟩, trivial⟩, ⟨by kernel_rfl, ⟨trivial, trivial, trivial, trivial, trivial, trivial, trivial, trivial, trivial, trivial, trivial, trivial, trivial, trivial, trivial, trivial, trivial, trivial, trivial⟩, trivial⟩⟩⟩) rfl rfl rfl [2, 3, 7] [101, 102] (s' := ⟨[(2, Pt 101 0), (3, Pt 102 0), (7, I out_6)], [(101, .box 27 (eBig x_4.D ++ (eBig x_11))), (102, .box 27 (eBig y_5.D ++ (eBig x_12)))]⟩) rfl ?_
      refine Tri.seq ?_
      refine Tri.keepS ⟨[(2, Pt 101 0), (3, Pt 102 0), (7, I out_6)], [(101, .box 27 (eBig x_4.D ++ (eBig x_11))), (102, .box 27 (eBig y_5.D ++ (eBig x_12)))]⟩ rfl ?_
      obtain ⟨x_13, e15, h8⟩ := bnd h8
      obtain ⟨x_14, e16, h8⟩ := bnd h8
      refine Tri.regionY mixed 8 [Pt 101 18, .b (.agg (eBig x_11)), I x_13, Pt 102 18, .b (.agg (eBig x_12)), I x_14, I x_13, I x_14] [2, 3, 7, 9, 10] [101, 102] (s' := ⟨[(2, Pt 101 0), (3, Pt 102 0), (7, I out_6), (9, I x_13), (10, I x_14)], [(101, .box 27 (eBig x_4.D ++ (eBig x_11))), (102, .box 27 (eBig y_5.D ++ (eBig x_12)))]⟩) rfl ⟨fun _ => .plain rfl (op_field_p tyFld27_1 rfl rfl), fun _ => .plain rfl (op_load_p tyAgg25 rfl rfl rfl rfl), fun _ => .plain rfl (op_call0 (whole_Sign_spec e15) goes72 rfl rfl), fun _ => .plain rfl (op_field_p tyFld27_1 rfl rfl), fun _ => .plain rfl (op_load_p tyAgg25 rfl rfl rfl rfl), fun _ => .plain rfl (op_call0 (whole_Sign_spec e16) goes72 rfl rfl), fun _ => .plain rfl (op_assign rfl), fun _ => .plain rfl (op_assign rfl), trivial⟩ rfl rfl ?_
      refine Tri.seq (Tri.seq (Tri.regionL ?_))
      refine Oc rfl (op_move rfl) (Oc rfl (op_eql rfl rfl) (Oc rfl (op_move rfl) ?_))
      refine OpsL.consG (!(decide (x_13 = 0))) 99 [] (.plain rfl) (eq_f _) rfl rfl (fun g17 => trivial) (fun g17 => op_move rfl) ?_
      refine OpsL.consG (!(decide (x_13 = 0))) 99 [69] (.plain rfl) (eq_f _) rfl rfl (fun g18 => ⟨g18, trivial⟩) (fun g18 => op_eql rfl rfl) ?_
      refine Oc rfl (op_pick_or (fun e => by rw [e]; rfl) rfl rfl rfl rfl) ?_
      refine OpsL.nilS ⟨[(2, Pt 101 0), (3, Pt 102 0), (7, I out_6), (9, I x_13), (10, I x_14), (71, B ((decide (x_13 = 0)) || (decide (x_14 = 0))))], [(101, .box 27 (eBig x_4.D ++ (eBig x_11))), (102, .box 27 (eBig y_5.D ++ (eBig x_12)))]⟩ rfl ?_
      refine Tri.ite h8 rfl (fun _ h8 => ?_) (fun _ h8 => ?_)
      ·refine Tri.seq (Tri.regionL ?_)
       refine Oc rfl (op_move rfl) (Oc rfl (op_move rfl) (Oc rfl (op_move rfl) (Oc rfl (op_sub rfl rfl) ?_)))
       refine OpsL.consI .i64 h8 rfl (op_mul rfl rfl) (fun x_15 h8 => ?_)
       refine Oc rfl (op_assign rfl) ?_
       refine OpsL.nilS ⟨[(7, I x_15)], []⟩ rfl ?_
       refine Tri.exit ?_
       refine Fin.then_exit ?_
       refine Fin.block_exit_other (by decide) ?_
       obtain rfl := hy9 _ (Option.some.inj h8).symm
       refine Fin.then_exit ?_
       refine Fin.block_exit ?_
       exact Fin.join [7] [] x_15 rfl rfl
      ·refine Tri.skip ?_
       refine Fin.keepS ⟨[(2, Pt 101 0), (3, Pt 102 0), (7, I out_6)], [(101, .box 27 (eBig x_4.D ++ (eBig x_11))), (102, .box 27 (eBig y_5.D ++ (eBig x_12)))]⟩ rfl ?_
       refine Fin.then (Tri.regionL ?_)
       refine Oc rfl (op_move rfl) (Oc rfl (op_neg rfl) (Oc rfl (op_assign rfl) ?_))
       refine OpsL.nil ?_
       refine Fin.block_normal ?_
       exact Fin.againJ [2, 3, 7] [101, 102] ((⟨x_4.D, x_11⟩ : Frc), (⟨y_5.D, x_12⟩ : Frc), IntKind.i64.wrap (-out_6)) (Option.some.inj h8) rfl
    ·rintro out_3 hv
     subst v5
     refine Tri.seq (Tri.regionL ?_)
     refine Oc rfl (op_move rfl) (Oc rfl (op_assign rfl) ?_)
     refine OpsL.nilS ⟨[(4, I out_3)], []⟩ rfl ?_
     refine Tri.ret ?_
     refine Fin.scope_ret ?_
     obtain rfl := Option.some.inj h
     refine Fin.keepS ⟨[(4, I out_3)], []⟩ rfl ?_
     refine Fin.result' [.one (.i out_3)] (.inl rfl) rfl (.cons (.tmp rfl) .nil) ⟨rfl, rfl⟩
def ratio_Sign_S (F : Nat) (x0 : Frc) : Option Int :=
 Option.bind (ratio_Good_S F x0) (fun x_1 => if (!x_1) = true then (some 0) else (Option.bind (whole_Sign_S F x0.N) (fun x_2 => some x_2)))
theorem ratio_Sign_spec {F : Nat} {x0 : Frc} {r : Int} (h : ratio_Sign_S F x0 = some r) : Meets Tryz.prog (tabs mx) 37 [] [.agg (eFrc x0)] (Is [] (.b (.one (.i r)))) := by
 unfold ratio_Sign_S at h
 refine Meets.intro 9 Tryz.func37 Tryz.ntmps37 rfl (by simp) fun E => ?_
 show Tri _ E ⟨9, [], []⟩ _ ⟨[(0, .b (.agg (eFrc x0)))], []⟩ _
 refine Tri.seq (Tri.regionL ?_)
 refine Oc rfl (op_box (k := 101) rfl rfl) (Oc rfl (op_assign rfl) ?_)
 refine OpsL.nilS ⟨[(1, Pt 101 0)], [(101, .box 27 (eFrc x0))]⟩ rfl ?_
 refine Tri.seq (Tri.seq (Tri.regionL ?_))
 refine Oc rfl (op_load_p tyAgg27 rfl rfl rfl rfl) ?_
 obtain ⟨x_1, e1, h⟩ := bnd h
 refine Oc rfl (op_call0 (ratio_Good_spec e1) goes26 rfl rfl) (Oc rfl (op_not rfl) ?_)
 refine OpsL.nilS ⟨[(1, Pt 101 0), (5, B (!x_1))], [(101, .box 27 (eFrc x0))]⟩ rfl ?_
 refine Tri.ite h rfl (fun _ h => ?_) (fun _ h => ?_)
 ·refine Tri.seq (Tri.regionL ?_)
  refine Oc rfl (op_assign rfl) ?_
  refine OpsL.nilS ⟨[(2, I 0)], []⟩ rfl ?_
  refine Tri.ret ?_
  refine Fin.then_ret ?_
  obtain rfl := Option.some.inj h
  refine Fin.keepS ⟨[(2, I 0)], []⟩ rfl ?_
  refine Fin.result' [.one (.i 0)] (.inl rfl) rfl (.cons (.tmp rfl) .nil) ⟨rfl, rfl⟩
 ·refine Tri.skip ?_
  refine Fin.keepS ⟨[(1, Pt 101 0)], [(101, .box 27 (eFrc x0))]⟩ rfl ?_
  refine Fin.then (Tri.seq (Tri.regionL ?_))
  refine Oc rfl (op_field_p tyFld27_0 rfl rfl) (Oc rfl (op_load_p tyAgg25 rfl rfl rfl rfl) ?_)
  obtain ⟨x_2, e2, h⟩ := bnd h
  refine Oc rfl (op_call0 (whole_Sign_spec e2) goes72 rfl rfl) (Oc rfl (op_assign rfl) ?_)
  refine OpsL.nilS ⟨[(2, I x_2)], []⟩ rfl ?_
  refine Tri.ret ?_
  obtain rfl := Option.some.inj h
  refine Fin.keepS ⟨[(2, I x_2)], []⟩ rfl ?_
  refine Fin.result' [.one (.i x_2)] (.inl rfl) rfl (.cons (.tmp rfl) .nil) ⟨rfl, rfl⟩
def ratio_Whole_S (F : Nat) (n0 : Big) : Option Frc :=
 Option.bind (ratio_one_S F) (fun x_1 => Option.bind (ratio_Make_S F n0 x_1) (fun x_2 => some x_2))
theorem ratio_Whole_spec {F : Nat} {n0 : Big} {r : Frc} (h : ratio_Whole_S F n0 = some r) : Meets Tryz.prog (tabs mx) 18 [] [.agg (eBig n0)] (Is [] (.b (.agg (eFrc r)))) := by
 unfold ratio_Whole_S at h
 refine Meets.intro 6 Tryz.func18 Tryz.ntmps18 rfl (by simp) fun E => ?_
 show Tri _ E ⟨6, [], []⟩ _ ⟨[(0, .b (.agg (eBig n0)))], []⟩ _
 refine Tri.seq (Tri.regionL ?_)
 refine Oc rfl (op_box (k := 101) rfl rfl) (Oc rfl (op_alloc (k := 102) tyZero27 rfl) ?_)
 refine OpsL.nilS ⟨[(1, Pt 101 0), (2, Pt 102 0)], [(101, .box 25 (eBig n0)), (102, .box 27 (.bool false :: .bool false :: ((eA16 .u32) A16.zero ++ (.bool false :: .bool false :: ((eA16 .u32) A16.zero)))))]⟩ rfl ?_
 refine Tri.seq ?_
 refine Tri.keepS ⟨[(1, Pt 101 0), (2, Pt 102 0)], [(101, .box 25 (eBig n0)), (102, .box 27 (.bool false :: .bool false :: ((eA16 .u32) A16.zero ++ (.bool false :: .bool false :: ((eA16 .u32) A16.zero)))))]⟩ rfl ?_
 obtain ⟨x_1, e1, h⟩ := bnd h
 obtain ⟨x_2, e2, h⟩ := bnd h
 refine Tri.regionY mixed 3 [.b (.agg (eBig n0)), .b (.agg (eBig x_1)), .b (.agg (eFrc x_2))] [2] [102] (s' := ⟨[(2, Pt 102 0)], [(102, .box 27 (eFrc x_2))]⟩) rfl ⟨fun _ => .plain rfl (op_load_p tyAgg25 rfl rfl rfl rfl), fun _ => .plain rfl (op_call0 (ratio_one_spec e1) goes90 rfl rfl), fun _ => .plain rfl (op_call0 (ratio_Make_spec e2) goes11 rfl rfl), trivial⟩ ⟨_, by exact .plain rfl (op_store_p tyAgg27 rfl rfl rfl rfl (Nat.le_of_ble_eq_true rfl) rfl), rfl⟩ rfl ?_
 refine Tri.ret ?_
 obtain rfl := Option.some.inj h
 refine Fin.keepS ⟨[(2, Pt 102 0)], [(102, .box 27 (eFrc x_2))]⟩ rfl ?_
 refine Fin.result' [.agg (eFrc x_2)] (.inl rfl) rfl (.cons (.agg tyAgg27 rfl rfl rfl rfl) .nil) ⟨rfl, rfl⟩
def ratio_Of_S (F : Nat) (n0 : Int) : Option Frc :=
 Option.bind (whole_Of_S F n0) (fun x_1 => Option.bind (ratio_Whole_S F x_1) (fun x_2 => some x_2))
theorem ratio_Of_spec {F : Nat} {n0 : Int} {r : Frc} (h : ratio_Of_S F n0 = some r) : Meets Tryz.prog (tabs mx) 20 [] [.one (.i n0)] (Is [] (.b (.agg (eFrc r)))) := by
 unfold ratio_Of_S at h
 refine Meets.intro 6 Tryz.func20 Tryz.ntmps20 rfl (by simp) fun E => ?_
 show Tri _ E ⟨6, [], []⟩ _ ⟨[(0, I n0)], []⟩ _
 refine Tri.seq (Tri.regionL ?_)
 refine Oc rfl (op_alloc (k := 101) tyZero27 rfl) ?_
 refine OpsL.nilS ⟨[(0, I n0), (2, Pt 101 0)], [(101, .box 27 (.bool false :: .bool false :: ((eA16 .u32) A16.zero ++ (.bool false :: .bool false :: ((eA16 .u32) A16.zero)))))]⟩ rfl ?_
 refine Tri.seq (Tri.regionL ?_)
 refine Oc rfl (op_move rfl) ?_
 obtain ⟨x_1, e1, h⟩ := bnd h
 refine Oc rfl (op_call0 (whole_Of_spec e1) goes91 rfl rfl) ?_
 obtain ⟨x_2, e2, h⟩ := bnd h
 refine Oc rfl (op_call0 (ratio_Whole_spec e2) goes18 rfl rfl) (Oc rfl (op_store_p tyAgg27 rfl rfl rfl rfl (Nat.le_of_ble_eq_true rfl) rfl) ?_)
 refine OpsL.nilS ⟨[(2, Pt 101 0)], [(101, .box 27 (eFrc x_2))]⟩ rfl ?_
 refine Tri.ret ?_
 obtain rfl := Option.some.inj h
 refine Fin.keepS ⟨[(2, Pt 101 0)], [(101, .box 27 (eFrc x_2))]⟩ rfl ?_
 refine Fin.result' [.agg (eFrc x_2)] (.inl rfl) rfl (.cons (.agg tyAgg27 rfl rfl rfl rfl) .nil) ⟨rfl, rfl⟩
def ratio_Sub_S (F : Nat) (x0 : Frc) (y0 : Frc) : Option Frc :=
 Option.bind (ratio_Neg_S F y0) (fun x_1 => Option.bind (ratio_Add_S F x0 x_1) (fun x_2 => some x_2))
theorem ratio_Sub_spec {F : Nat} {x0 : Frc} {y0 : Frc} {r : Frc} (h : ratio_Sub_S F x0 y0 = some r) : Meets Tryz.prog (tabs mx) 41 [] [.agg (eFrc x0), .agg (eFrc y0)] (Is [] (.b (.agg (eFrc r)))) := by
 unfold ratio_Sub_S at h
 refine Meets.intro 9 Tryz.func41 Tryz.ntmps41 rfl (by simp) fun E => ?_
 show Tri _ E ⟨9, [], []⟩ _ ⟨[(0, .b (.agg (eFrc x0))), (1, .b (.agg (eFrc y0)))], []⟩ _
 refine Tri.seq (Tri.regionL ?_)
 refine Oc rfl (op_box (k := 101) rfl rfl) (Oc rfl (op_box (k := 102) rfl rfl) (Oc rfl (op_alloc (k := 103) tyZero27 rfl) ?_))
 refine OpsL.nilS ⟨[(2, Pt 101 0), (3, Pt 102 0), (4, Pt 103 0)], [(101, .box 27 (eFrc x0)), (102, .box 27 (eFrc y0)), (103, .box 27 (.bool false :: .bool false :: ((eA16 .u32) A16.zero ++ (.bool false :: .bool false :: ((eA16 .u32) A16.zero)))))]⟩ rfl ?_
 refine Tri.seq ?_
 refine Tri.keepS ⟨[(2, Pt 101 0), (3, Pt 102 0), (4, Pt 103 0)], [(101, .box 27 (eFrc x0)), (102, .box 27 (eFrc y0)), (103, .box 27 (.bool false :: .bool false :: ((eA16 .u32) A16.zero ++ (.bool false :: .bool false :: ((eA16 .u32) A16.zero)))))]⟩ rfl ?_
 obtain ⟨x_1, e1, h⟩ := bnd h
 obtain ⟨x_2, e2, h⟩ := bnd h
 refine Tri.regionY mixed 4 [.b (.agg (eFrc x0)), .b (.agg (eFrc y0)), .b (.agg (eFrc x_1)), .b (.agg (eFrc x_2))] [4] [103] (s' := ⟨[(4, Pt 103 0)], [(103, .box 27 (eFrc x_2))]⟩) rfl ⟨fun _ => .plain rfl (op_load_p tyAgg27 rfl rfl rfl rfl), fun _ => .plain rfl (op_load_p tyAgg27 rfl rfl rfl rfl), fun _ => .plain rfl (op_call0 (ratio_Neg_spec e1) goes43 rfl rfl), fun _ => .plain rfl (op_call0 (ratio_Add_spec e2) goes42 rfl rfl), trivial⟩ ⟨_, by exact .plain rfl (op_store_p tyAgg27 rfl rfl rfl rfl (Nat.le_of_ble_eq_true rfl) rfl), rfl⟩ rfl ?_
 refine Tri.ret ?_
 obtain rfl := Option.some.inj h
 refine Fin.keepS ⟨[(4, Pt 103 0)], [(103, .box 27 (eFrc x_2))]⟩ rfl ?_
 refine Fin.result' [.agg (eFrc x_2)] (.inl rfl) rfl (.cons (.agg tyAgg27 rfl rfl rfl rfl) .nil) ⟨rfl, rfl⟩
def ratio_Simplest_R (F : Nat) : Nat → Frc → Frc → Option Frc
 | 0, _, _ => none
 | n + 1, lo0, hi0 => Option.bind (ratio_Good_S F lo0) (fun x_1 => Option.bind (gcall (!(!x_1)) (ratio_Good_S F hi0)) (fun x_2 => Option.bind (gcall (!((!x_1) || (!x_2))) (ratio_Cmp_S F lo0 hi0)) (fun x_3 => if (((!x_1) || (!x_2)) || (decide (0 < x_3))) = true then (Option.bind (ratio_Bad_S F) (fun x_4 => some x_4)) else (Option.bind (ratio_Sign_S F lo0) (fun x_5 => Option.bind (gcall (decide (x_5 ≤ 0)) (ratio_Sign_S F hi0)) (fun x_6 => if ((decide (x_5 ≤ 0)) && (decide (0 ≤ x_6))) = true then (Option.bind (ratio_Of_S F 0) (fun x_7 => some x_7)) else (Option.bind (ratio_Sign_S F hi0) (fun x_8 => if (decide (x_8 < 0)) = true then (Option.bind (ratio_Neg_S F hi0) (fun x_9 => Option.bind (ratio_Neg_S F lo0) (fun x_10 => Option.bind (ratio_Simplest_R F n x_9 x_10) (fun x_11 => Option.bind (ratio_Neg_S F x_11) (fun x_12 => some x_12))))) else (Option.bind (ratio_Ceil_S F lo0) (fun x_13 => Option.bind (ratio_Whole_S F x_13) (fun x_14 => Option.bind (ratio_Cmp_S F x_14 hi0) (fun x_15 => if (decide (x_15 ≤ 0)) = true then (some x_14) else (Option.bind (ratio_Floor_S F lo0) (fun x_16 => Option.bind (ratio_Whole_S F x_16) (fun x_17 => Option.bind (ratio_Of_S F 1) (fun x_18 => Option.bind (ratio_Of_S F 1) (fun x_19 => Option.bind (ratio_Sub_S F hi0 x_17) (fun x_20 => Option.bind (ratio_Div_S F x_19 x_20) (fun x_21 => Option.bind (ratio_Of_S F 1) (fun x_22 => Option.bind (ratio_Sub_S F lo0 x_17) (fun x_23 => Option.bind (ratio_Div_S F x_22 x_23) (fun x_24 => Option.bind (ratio_Simplest_R F n x_21 x_24) (fun x_25 => Option.bind (ratio_Div_S F x_18 x_25) (fun x_26 => Option.bind (ratio_Add_S F x_17 x_26) (fun x_27 => some x_27)))))))))))))))))))))))))
def ratio_Simplest_S (F : Nat) (lo0 : Frc) (hi0 : Frc) : Option Frc := ratio_Simplest_R F F lo0 hi0
theorem ratio_Simplest_specR {F : Nat} : ∀ (n : Nat) {lo0 : Frc} {hi0 : Frc} {r : Frc} (h : ratio_Simplest_R F n lo0 hi0 = some r), Meets Tryz.prog (tabs mx) 48 [] [.agg (eFrc lo0), .agg (eFrc hi0)] (Is [] (.b (.agg (eFrc r)))) := by
 intro n
 induction n with
 | zero => intro lo0 hi0 r h; simp [ratio_Simplest_R] at h
 | succ n ih =>
 intro lo0 hi0 r h
 unfold ratio_Simplest_R at h
 refine Meets.intro 69 Tryz.func48 Tryz.ntmps48 rfl (by simp) fun E => ?_
 show Tri _ E ⟨69, [], []⟩ _ ⟨[(0, .b (.agg (eFrc lo0))), (1, .b (.agg (eFrc hi0)))], []⟩ _
 refine Tri.seq (Tri.regionL ?_)
 refine Oc rfl (op_box (k := 101) rfl rfl) (Oc rfl (op_box (k := 102) rfl rfl) (Oc rfl (op_alloc (k := 103) tyZero27 rfl) ?_))
 refine OpsL.nilS ⟨[(2, Pt 101 0), (3, Pt 102 0), (4, Pt 103 0)], [(101, .box 27 (eFrc lo0)), (102, .box 27 (eFrc hi0)), (103, .box 27 (.bool false :: .bool false :: ((eA16 .u32) A16.zero ++ (.bool false :: .bool false :: ((eA16 .u32) A16.zero)))))]⟩ rfl ?_
 refine Tri.seq (Tri.block (Tri.seq (Tri.regionL ?_)))
 refine Oc rfl (op_load_p tyAgg27 rfl rfl rfl rfl) ?_
 obtain ⟨x_1, e1, h⟩ := bnd h
 refine Oc rfl (op_call0 (ratio_Good_spec e1) goes26 rfl rfl) (Oc rfl (op_not rfl) (Oc rfl (op_move rfl) ?_))
 refine OpsL.consG (!(!x_1)) 99 [] (.plain rfl) (eq_f _) rfl rfl (fun g2 => trivial) (fun g2 => op_load_p tyAgg27 rfl rfl rfl rfl) ?_
 refine OpsL.keepS ⟨[(2, Pt 101 0), (3, Pt 102 0), (4, Pt 103 0), (11, B (!x_1)), (12, .opt (!(!x_1)) (.agg (eFrc hi0)))], [(101, .box 27 (eFrc lo0)), (102, .box 27 (eFrc hi0)), (103, .box 27 (.bool false :: .bool false :: ((eA16 .u32) A16.zero ++ (.bool false :: .bool false :: ((eA16 .u32) A16.zero)))))]⟩ rfl ?_
 obtain ⟨x_2, e4, h⟩ := bnd h
 refine OpsL.consG (!(!x_1)) 99 [12] (.plain rfl) (eq_f _) rfl rfl (fun g3 => ⟨g3, trivial⟩) (fun g3 => op_call0 (ratio_Good_spec (gc e4 g3)) goes26 rfl rfl) ?_
 refine OpsL.consG (!(!x_1)) 99 [13] (.plain rfl) (eq_f _) rfl rfl (fun g5 => ⟨g5, trivial⟩) (fun g5 => op_not rfl) ?_
 refine Oc rfl (op_pick_or (fun e => by rw [e]; rfl) rfl rfl rfl rfl) (Oc rfl (op_move rfl) ?_)
 refine OpsL.consG (!((!x_1) || (!x_2))) 99 [] (.plain rfl) (eq_f _) rfl rfl (fun g6 => trivial) (fun g6 => op_load_p tyAgg27 rfl rfl rfl rfl) ?_
 refine OpsL.consG (!((!x_1) || (!x_2))) 99 [] (.plain rfl) (eq_f _) rfl rfl (fun g7 => trivial) (fun g7 => op_load_p tyAgg27 rfl rfl rfl rfl) ?_
 refine OpsL.keepS ⟨[(2, Pt 101 0), (3, Pt 102 0), (4, Pt 103 0), (16, B ((!x_1) || (!x_2))), (17, .opt (!((!x_1) || (!x_2))) (.agg (eFrc lo0))), (18, .opt (!((!x_1) || (!x_2))) (.agg (eFrc hi0)))], [(101, .box 27 (eFrc lo0)), (102, .box 27 (eFrc hi0)), (103, .box 27 (.bool false :: .bool false :: ((eA16 .u32) A16.zero ++ (.bool false :: .bool false :: ((eA16 .u32) A16.zero)))))]⟩ rfl ?_
 obtain ⟨x_3, e9, h⟩ := bnd h
 refine OpsL.consG (!((!x_1) || (!x_2))) 99 [17, 18] (.plain rfl) (eq_f _) rfl rfl (fun g8 => ⟨g8, g8, trivial⟩) (fun g8 => op_call0 (ratio_Cmp_spec (gc e9 g8)) goes39 rfl rfl) ?_
 refine OpsL.consG (!((!x_1) || (!x_2))) 99 [19] (.plain rfl) (eq_f _) rfl rfl (fun g10 => ⟨g10, trivial⟩) (fun g10 => op_gtr rfl rfl) ?_
 refine Oc rfl (op_pick_or (fun e => by rw [e]; rfl) rfl rfl rfl rfl) (Oc rfl (op_assign rfl) ?_)
 refine OpsL.nilS ⟨[(2, Pt 101 0), (3, Pt 102 0), (4, Pt 103 0), (7, B (((!x_1) || (!x_2)) || (decide (0 < x_3))))], [(101, .box 27 (eFrc lo0)), (102, .box 27 (eFrc hi0)), (103, .box 27 (.bool false :: .bool false :: ((eA16 .u32) A16.zero ++ (.bool false :: .bool false :: ((eA16 .u32) A16.zero)))))]⟩ rfl ?_
 refine Tri.ite h rfl (fun _ h => ?_) (fun _ h => ?_)
 ·refine Tri.seq (Tri.regionL ?_)
  obtain ⟨x_4, e11, h⟩ := bnd h
  refine Oc rfl (op_call0 (ratio_Bad_spec e11) goes27 rfl rfl) (Oc rfl (op_store_p tyAgg27 rfl rfl rfl rfl (Nat.le_of_ble_eq_true rfl) rfl) ?_)
  refine OpsL.nilS ⟨[(4, Pt 103 0)], [(103, .box 27 (eFrc x_4))]⟩ rfl ?_
  refine Tri.ret ?_
  refine Fin.block_ret ?_
  refine Fin.then_ret ?_
  obtain rfl := Option.some.inj h
  refine Fin.keepS ⟨[(4, Pt 103 0)], [(103, .box 27 (eFrc x_4))]⟩ rfl ?_
  refine Fin.result' [.agg (eFrc x_4)] (.inl rfl) rfl (.cons (.agg tyAgg27 rfl rfl rfl rfl) .nil) ⟨rfl, rfl⟩
 ·refine Tri.seq (Tri.regionL ?_)
  refine Oc rfl (op_load_p tyAgg27 rfl rfl rfl rfl) ?_
  obtain ⟨x_5, e12, h⟩ := bnd h
  refine Oc rfl (op_call0 (ratio_Sign_spec e12) goes37 rfl rfl) (Oc rfl (op_leq rfl rfl) (Oc rfl (op_move rfl) ?_))
  refine OpsL.consG (decide (x_5 ≤ 0)) 99 [] (.plain rfl) (eq_t _) rfl rfl (fun g13 => trivial) (fun g13 => op_load_p tyAgg27 rfl rfl rfl rfl) ?_
  refine OpsL.keepS ⟨[(2, Pt 101 0), (3, Pt 102 0), (4, Pt 103 0), (27, B (decide (x_5 ≤ 0))), (28, .opt (decide (x_5 ≤ 0)) (.agg (eFrc hi0)))], [(101, .box 27 (eFrc lo0)), (102, .box 27 (eFrc hi0)), (103, .box 27 (.bool false :: .bool false :: ((eA16 .u32) A16.zero ++ (.bool false :: .bool false :: ((eA16 .u32) A16.zero)))))]⟩ rfl ?_
  obtain ⟨x_6, e15, h⟩ := bnd h
  refine OpsL.consG (decide (x_5 ≤ 0)) 99 [28] (.plain rfl) (eq_t _) rfl rfl (fun g14 => ⟨g14, trivial⟩) (fun g14 => op_call0 (ratio_Sign_spec (gc e15 g14)) goes37 rfl rfl) ?_
  refine OpsL.consG (decide (x_5 ≤ 0)) 99 [29] (.plain rfl) (eq_t _) rfl rfl (fun g16 => ⟨g16, trivial⟩) (fun g16 => op_geq rfl rfl) ?_
  refine Oc rfl (op_pick_and (fun e => e) rfl rfl rfl rfl) (Oc rfl (op_assign rfl) ?_)
  refine OpsL.nilS ⟨[(2, Pt 101 0), (3, Pt 102 0), (4, Pt 103 0), (23, B ((decide (x_5 ≤ 0)) && (decide (0 ≤ x_6))))], [(101, .box 27 (eFrc lo0)), (102, .box 27 (eFrc hi0)), (103, .box 27 (.bool false :: .bool false :: ((eA16 .u32) A16.zero ++ (.bool false :: .bool false :: ((eA16 .u32) A16.zero)))))]⟩ rfl ?_
  refine Tri.ite h rfl (fun _ h => ?_) (fun _ h => ?_)
  ·refine Tri.seq (Tri.regionL ?_)
   obtain ⟨x_7, e17, h⟩ := bnd h
   refine Oc rfl (op_call0 (ratio_Of_spec e17) goes20 rfl rfl) (Oc rfl (op_store_p tyAgg27 rfl rfl rfl rfl (Nat.le_of_ble_eq_true rfl) rfl) ?_)
   refine OpsL.nilS ⟨[(4, Pt 103 0)], [(103, .box 27 (eFrc x_7))]⟩ rfl ?_
   refine Tri.ret ?_
   refine Fin.block_ret ?_
   refine Fin.then_ret ?_
   obtain rfl := Option.some.inj h
   refine Fin.keepS ⟨[(4, Pt 103 0)], [(103, .box 27 (eFrc x_7))]⟩ rfl ?_
   refine Fin.result' [.agg (eFrc x_7)] (.inl rfl) rfl (.cons (.agg tyAgg27 rfl rfl rfl rfl) .nil) ⟨rfl, rfl⟩
  ·refine Tri.seq (Tri.regionL ?_)
   refine Oc rfl (op_load_p tyAgg27 rfl rfl rfl rfl) ?_
   obtain ⟨x_8, e18, h⟩ := bnd h
   refine Oc rfl (op_call0 (ratio_Sign_spec e18) goes37 rfl rfl) (Oc rfl (op_lss rfl rfl) (Oc rfl (op_assign rfl) ?_))
   refine OpsL.nilS ⟨[(2, Pt 101 0), (3, Pt 102 0), (4, Pt 103 0), (33, B (decide (x_8 < 0)))], [(101, .box 27 (eFrc lo0)), (102, .box 27 (eFrc hi0)), (103, .box 27 (.bool false :: .bool false :: ((eA16 .u32) A16.zero ++ (.bool false :: .bool false :: ((eA16 .u32) A16.zero)))))]⟩ rfl ?_
   refine Tri.ite h rfl (fun _ h => ?_) (fun _ h => ?_)
   ·refine Tri.seq ?_
    refine Tri.keepS ⟨[(2, Pt 101 0), (3, Pt 102 0), (4, Pt 103 0)], [(101, .box 27 (eFrc lo0)), (102, .box 27 (eFrc hi0)), (103, .box 27 (.bool false :: .bool false :: ((eA16 .u32) A16.zero ++ (.bool false :: .bool false :: ((eA16 .u32) A16.zero)))))]⟩ rfl ?_
    obtain ⟨x_9, e19, h⟩ := bnd h
    obtain ⟨x_10, e20, h⟩ := bnd h
    obtain ⟨x_11, e21, h⟩ := bnd h
    obtain ⟨x_12, e22, h⟩ := bnd h
    refine Tri.regionY mixed 6 [.b (.agg (eFrc hi0)), .b (.agg (eFrc x_9)), .b (.agg (eFrc lo0)), .b (.agg (eFrc x_10)), .b (.agg (eFrc x_11)), .b (.agg (eFrc x_12))] [4] [103] (s' := ⟨[(4, Pt 103 0)], [(103, .box 27 (eFrc x_12))]⟩) rfl ⟨fun _ => .plain rfl (op_load_p tyAgg27 rfl rfl rfl rfl), fun _ => .plain rfl (op_call0 (ratio_Neg_spec e19) goes43 rfl rfl), fun _ => .plain rfl (op_load_p tyAgg27 rfl rfl rfl rfl), fun _ => .plain rfl (op_call0 (ratio_Neg_spec e20) goes43 rfl rfl), fun _ => .plain rfl (op_call0 (ih e21) goes48 rfl rfl), fun _ => .plain rfl (op_call0 (ratio_Neg_spec e22) goes43 rfl rfl), trivial⟩ ⟨_, by exact .plain rfl (op_store_p tyAgg27 rfl rfl rfl rfl (Nat.le_of_ble_eq_true rfl) rfl), rfl⟩ rfl ?_
    refine Tri.ret ?_
    refine Fin.block_ret ?_
    refine Fin.then_ret ?_
    obtain rfl := Option.some.inj h
    refine Fin.keepS ⟨[(4, Pt 103 0)], [(103, .box 27 (eFrc x_12))]⟩ rfl ?_
    refine Fin.result' [.agg (eFrc x_12)] (.inl rfl) rfl (.cons (.agg tyAgg27 rfl rfl rfl rfl) .nil) ⟨rfl, rfl⟩
   ·refine Tri.skip ?_
    refine Fin.block_normal ?_
    refine Fin.keepS ⟨[(2, Pt 101 0), (3, Pt 102 0), (4, Pt 103 0)], [(101, .box 27 (eFrc lo0)), (102, .box 27 (eFrc hi0)), (103, .box 27 (.bool false :: .bool false :: ((eA16 .u32) A16.zero ++ (.bool false :: .bool false :: ((eA16 .u32) A16.zero)))))]⟩ rfl ?_
    refine Fin.then (Tri.seq (Tri.seq (Tri.regionL ?_)))
    refine Oc rfl (op_load_p tyAgg27 rfl rfl rfl rfl) ?_
    obtain ⟨x_13, e23, h⟩ := bnd h
    refine Oc rfl (op_call0 (ratio_Ceil_spec e23) goes33 rfl rfl) ?_
    obtain ⟨x_14, e24, h⟩ := bnd h
    refine Oc rfl (op_call0 (ratio_Whole_spec e24) goes18 rfl rfl) (Oc rfl (op_alloc (k := 104) tyZero27 rfl) (Oc rfl (op_store_p tyAgg27 rfl rfl rfl rfl (Nat.le_of_ble_eq_true rfl) rfl) ?_))
    refine OpsL.nilS ⟨[(2, Pt 101 0), (3, Pt 102 0), (4, Pt 103 0), (5, Pt 104 0)], [(101, .box 27 (eFrc lo0)), (102, .box 27 (eFrc hi0)), (103, .box 27 (.bool false :: .bool false :: ((eA16 .u32) A16.zero ++ (.bool false :: .bool false :: ((eA16 .u32) A16.zero))))), (104, .box 27 (eFrc x_14))]⟩ rfl ?_
    refine Tri.seq (Tri.regionL ?_)
    refine Oc rfl (op_load_p tyAgg27 rfl rfl rfl rfl) (Oc rfl (op_load_p tyAgg27 rfl rfl rfl rfl) ?_)
    obtain ⟨x_15, e25, h⟩ := bnd h
    refine Oc rfl (op_call0 (ratio_Cmp_spec e25) goes39 rfl rfl) (Oc rfl (op_leq rfl rfl) ?_)
    refine OpsL.nilS ⟨[(2, Pt 101 0), (3, Pt 102 0), (4, Pt 103 0), (5, Pt 104 0), (49, B (decide (x_15 ≤ 0)))], [(101, .box 27 (eFrc lo0)), (102, .box 27 (eFrc hi0)), (103, .box 27 (.bool false :: .bool false :: ((eA16 .u32) A16.zero ++ (.bool false :: .bool false :: ((eA16 .u32) A16.zero))))), (104, .box 27 (eFrc x_14))]⟩ rfl ?_
    refine Tri.ite h rfl (fun _ h => ?_) (fun _ h => ?_)
    ·refine Tri.seq (Tri.regionL ?_)
     refine Oc rfl (op_load_p tyAgg27 rfl rfl rfl rfl) (Oc rfl (op_store_p tyAgg27 rfl rfl rfl rfl (Nat.le_of_ble_eq_true rfl) rfl) ?_)
     refine OpsL.nilS ⟨[(4, Pt 103 0)], [(103, .box 27 (eFrc x_14))]⟩ rfl ?_
     refine Tri.ret ?_
     refine Fin.then_ret ?_
     obtain rfl := Option.some.inj h
     refine Fin.keepS ⟨[(4, Pt 103 0)], [(103, .box 27 (eFrc x_14))]⟩ rfl ?_
     refine Fin.result' [.agg (eFrc x_14)] (.inl rfl) rfl (.cons (.agg tyAgg27 rfl rfl rfl rfl) .nil) ⟨rfl, rfl⟩
    ·refine Tri.skip ?_
     refine Fin.keepS ⟨[(2, Pt 101 0), (3, Pt 102 0), (4, Pt 103 0)], [(101, .box 27 (eFrc lo0)), (102, .box 27 (eFrc hi0)), (103, .box 27 (.bool false :: .bool false :: ((eA16 .u32) A16.zero ++ (.bool false :: .bool false :: ((eA16 .u32) A16.zero)))))]⟩ rfl ?_
     refine Fin.then (Tri.seq (Tri.regionL ?_))
     refine Oc rfl (op_load_p tyAgg27 rfl rfl rfl rfl) ?_
     obtain ⟨x_16, e26, h⟩ := bnd h
     refine Oc rfl (op_call0 (ratio_Floor_spec e26) goes31 rfl rfl) ?_
     obtain ⟨x_17, e27, h⟩ := bnd h
     refine Oc rfl (op_call0 (ratio_Whole_spec e27) goes18 rfl rfl) (Oc rfl (op_alloc (k := 105) tyZero27 rfl) (Oc rfl (op_store_p tyAgg27 rfl rfl rfl rfl (Nat.le_of_ble_eq_true rfl) rfl) ?_))
     refine OpsL.nilS ⟨[(2, Pt 101 0), (3, Pt 102 0), (4, Pt 103 0), (6, Pt 105 0)], [(101, .box 27 (eFrc lo0)), (102, .box 27 (eFrc hi0)), (103, .box 27 (.bool false :: .bool false :: ((eA16 .u32) A16.zero ++ (.bool false :: .bool false :: ((eA16 .u32) A16.zero))))), (105, .box 27 (eFrc x_17))]⟩ rfl ?_
     refine Tri.seq ?_
     refine Tri.keepS ⟨[(2, Pt 101 0), (3, Pt 102 0), (4, Pt 103 0), (6, Pt 105 0)], [(101, .box 27 (eFrc lo0)), (102, .box 27 (eFrc hi0)), (103, .box 27 (.bool false :: .bool false :: ((eA16 .u32) A16.zero ++ (.bool false :: .bool false :: ((eA16 .u32) A16.zero))))), (105, .box 27 (eFrc x_17))]⟩ rfl ?_
     obtain ⟨x_18, e28, h⟩ := bnd h
     obtain ⟨x_19, e29, h⟩ := bnd h
     obtain ⟨x_20, e30, h⟩ := bnd h
     obtain ⟨x_21, e31, h⟩ := bnd h
     obtain ⟨x_22, e32, h⟩ := bnd h
     obtain ⟨x_23, e33, h⟩ := bnd h
     obtain ⟨x_24, e34, h⟩ := bnd h
     obtain ⟨x_25, e35, h⟩ := bnd h
     obtain ⟨x_26, e36, h⟩ := bnd h
     obtain ⟨x_27, e37, h⟩ := bnd h
     refine Tri.regionY mixed 15 [.b (.agg (eFrc x_17)), .b (.agg (eFrc x_18)), .b (.agg (eFrc x_19)), .b (.agg (eFrc hi0)), .b (.agg (eFrc x_17)), .b (.agg (eFrc x_20)), .b (.agg (eFrc x_21)), .b (.agg (eFrc x_22)), .b (.agg (eFrc lo0)), .b (.agg (eFrc x_17)), .b (.agg (eFrc x_23)), .b (.agg (eFrc x_24)), .b (.agg (eFrc x_25)), .b (.agg (eFrc x_26)), .b (.agg (eFrc x_27))] [4] [103] (s' := ⟨[(4, Pt 103 0)], [(103, .box 27 (eFrc x_27))]⟩) rfl ⟨fun _ => .plain rfl (op_load_p tyAgg27 rfl rfl rfl rfl), fun _ => .plain rfl (op_call0 (ratio_Of_spec e28) goes20 rfl rfl), fun _ => .plain rfl (op_call0 (ratio_Of_spec e29) goes20 rfl rfl), fun _ => .plain rfl (op_load_p tyAgg27 rfl rfl rfl rfl), fun _ => .plain rfl (op_load_p tyAgg27 rfl rfl rfl rfl), fun _ => .plain rfl (op_call0 (ratio_Sub_spec e30) goes41 rfl rfl), fun _ => .plain rfl (op_call0 (ratio_Div_spec e31) goes46 rfl rfl), fun _ => .plain rfl (op_call0 (ratio_Of_spec e32) goes20 rfl rfl), fun _ => .plain rfl (op_load_p tyAgg27 rfl rfl rfl rfl), fun _ => .plain rfl (op_load_p tyAgg27 rfl rfl rfl rfl), fun _ => .plain rfl (op_call0 (ratio_Sub_spec e33) goes41 rfl rfl), fun _ => .plain rfl (op_call0 (ratio_Div_spec e34) goes46 rfl rfl), fun _ => .plain rfl (op_call0 (ih e35) goes48 rfl rfl), fun _ => .plain rfl (op_call0 (ratio_Div_spec e36) goes46 rfl rfl), fun _ => .plain rfl (op_call0 (ratio_Add_spec e37) goes42 rfl rfl), trivial⟩ ⟨_, by exact .plain rfl (op_store_p tyAgg27 rfl rfl rfl rfl (Nat.le_of_ble_eq_true rfl) rfl), rfl⟩ rfl ?_
     refine Tri.ret ?_
     obtain rfl := Option.some.inj h
     refine Fin.keepS ⟨[(4, Pt 103 0)], [(103, .box 27 (eFrc x_27))]⟩ rfl ?_
     refine Fin.result' [.agg (eFrc x_27)] (.inl rfl) rfl (.cons (.agg tyAgg27 rfl rfl rfl rfl) .nil) ⟨rfl, rfl⟩
theorem ratio_Simplest_spec {F : Nat} {lo0 : Frc} {hi0 : Frc} {r : Frc} (h : ratio_Simplest_S F lo0 hi0 = some r) : Meets Tryz.prog (tabs mx) 48 [] [.agg (eFrc lo0), .agg (eFrc hi0)] (Is [] (.b (.agg (eFrc r)))) := ratio_Simplest_specR F h
def whole_Parse_S (F : Nat) (s0 : Str) : Option (Big × Int) :=
 Option.bind (Option.bind (gcall (decide (0 < (s0.length : Int))) (idx? s0 0)) (fun x_2 => letN ((decide (0 < (s0.length : Int))) && (decide ((x_2.toNat : Int) = 45))) fun x_3 => if x_3 = true then (Option.bind (drop? s0 1) (fun x_4 => some x_4)) else (some s0))) (fun digits_1 => Option.bind (gcall (!(decide (digits_1 = []))) (idx? digits_1 0)) (fun x_5 => letN ((decide (digits_1 = [])) || ((decide ((x_5.toNat : Int) = 48)) && (decide (s0 ≠ [48])))) fun x_6 => if x_6 = true then (Option.bind (whole_Bad_S F) (fun x_7 => some (x_7, 281))) else (Option.bind (iter F (fun x_8 => if (decide (x_8 < ((ofStr digits_1).length : Int))) = true then (Option.bind (idx? (ofStr digits_1) x_8) (fun x_9 => if ((decide (x_9 < 48)) || (decide (57 < x_9))) = true then (Option.bind (whole_Bad_S F) (fun x_10 => some (.inr (.inr (x_10, 281))))) else (some (.inl (IntKind.i64.wrap (x_8 + 1)))))) else (some (.inr (.inl ())))) 0) (alt2 (fun _ => if (decide (512 < (digits_1.length : Int))) = true then (Option.bind (whole_Bad_S F) (fun x_11 => some (x_11, 30))) else (Option.bind (whole_Of_S F 0) (fun x_12 => Option.bind (whole_Of_S F 10) (fun x_13 => Option.bind (iter F (un2 fun x_15 x_16 => if (decide (x_16 < ((ofStr digits_1).length : Int))) = true then (Option.bind (idx? (ofStr digits_1) x_16) (fun x_18 => Option.bind (whole_Mul_S F x_15 x_13) (fun x_19 => letN (IntKind.i64.wrap (IntKind.u8.wrap (x_18 - 48))) fun x_20 => Option.bind (whole_Of_S F x_20) (fun x_21 => Option.bind (whole_Add_S F x_19 x_21) (fun x_22 => some (.inl (x_22, IntKind.i64.wrap (x_16 + 1)))))))) else (some (.inr x_15))) (x_12, 0)) (fun x_14 => if x_14.Bad = true then (some (x_14, 30)) else (Option.bind (whole_signed_S F (decide (digits_1 ≠ s0)) x_14.W) (fun x_23 => some (x_23, 0)))))))) (fun y => some y)))))
theorem whole_Parse_spec {F : Nat} {s0 : Str} {r : Big × Int} (h : whole_Parse_S F s0 = some r) : Meets Tryz.prog (tabs mx) 106 [] [.one (.str s0)] (Is [] (.tup [.agg (eBig r.1), .one (.i r.2)])) := by
 unfold whole_Parse_S at h
 refine Meets.intro 80 Tryz.func106 Tryz.ntmps106 rfl (by simp) fun E => ?_
 show Tri _ E ⟨80, [], []⟩ _ ⟨[(0, .b (.one (.str s0)))], []⟩ _
 refine Tri.seq (Tri.regionL ?_)
 refine Oc rfl (op_alloc (k := 101) tyZero25 rfl) (Oc rfl (op_assign rfl) ?_)
 refine OpsL.nilS ⟨[(0, .b (.one (.str s0))), (2, Pt 101 0)], [(101, .box 25 (.bool false :: .bool false :: ((eA16 .u32) A16.zero)))]⟩ rfl ?_
 refine Tri.seq (Tri.regionL ?_)
 refine Oc rfl (op_move rfl) (Oc rfl (op_assign rfl) ?_)
 refine OpsL.nilS ⟨[(0, .b (.one (.str s0))), (2, Pt 101 0), (4, .b (.one (.str s0)))], [(101, .box 25 (.bool false :: .bool false :: ((eA16 .u32) A16.zero)))]⟩ rfl ?_
 obtain ⟨v1, h2, h⟩ := bnd h
 refine Tri.seqJ (v := v1) (fun (digits_1 : Str) => ⟨[(0, .b (.one (.str s0))), (2, Pt 101 0), (4, .b (.one (.str digits_1)))], [(101, .box 25 (.bool false :: .bool false :: ((eA16 .u32) A16.zero)))]⟩) (fun z => z) ?_ ?_
 ·refine Tri.seq (Tri.regionL ?_)
  refine Oc rfl (op_move rfl) (Oc rfl (op_len_str und9 rfl) (Oc rfl (op_gtr rfl rfl) (Oc rfl (op_move rfl) ?_)))
  refine OpsL.consG (decide (0 < (s0.length : Int))) 99 [] (.plain rfl) (eq_t _) rfl rfl (fun g3 => trivial) (fun g3 => op_move rfl) ?_
  obtain ⟨x_2, e5, h2⟩ := bnd h2
  refine OpsL.consG (decide (0 < (s0.length : Int))) 99 [16] (.plain rfl) (eq_t _) rfl rfl (fun g4 => ⟨g4, trivial⟩) (fun g4 => op_index_str und9 rfl rfl (ix_lo (gc e5 g4)) (ix_get (gc e5 g4))) ?_
  refine OpsL.consG (decide (0 < (s0.length : Int))) 99 [17] (.plain rfl) (eq_t _) rfl rfl (fun g6 => ⟨g6, trivial⟩) (fun g6 => op_eql rfl rfl) ?_
  refine OpsL.consB h2 rfl (op_pick_and (fun e => e) rfl rfl rfl rfl) (fun x_3 h2 => ?_)
  refine OpsL.nilS ⟨[(0, .b (.one (.str s0))), (2, Pt 101 0), (4, .b (.one (.str s0))), (19, B x_3)], [(101, .box 25 (.bool false :: .bool false :: ((eA16 .u32) A16.zero)))]⟩ rfl ?_
  refine Tri.ite h2 rfl (fun _ h2 => ?_) (fun _ h2 => ?_)
  ·refine Tri.regionL ?_
   refine Oc rfl (op_move rfl) ?_
   obtain ⟨x_4, e7, h2⟩ := bnd h2
   refine Oc rfl (op_slice_str_l und9 e7 rfl rfl) (Oc rfl (op_assign rfl) ?_)
   refine OpsL.nil ?_
   exact Fin.join [0, 2, 4] [101] x_4 (Option.some.inj h2) rfl
  ·refine Tri.skip ?_
   exact Fin.join [0, 2, 4] [101] s0 (Option.some.inj h2) rfl
 ·rintro digits_1 hv
  subst v1
  refine Tri.seq (Tri.seq (Tri.regionL ?_))
  refine Oc rfl (op_move rfl) (Oc rfl (op_eql_str rfl rfl) (Oc rfl (op_move rfl) ?_))
  refine OpsL.consG (!(decide (digits_1 = []))) 99 [] (.plain rfl) (eq_f _) rfl rfl (fun g8 => trivial) (fun g8 => op_move rfl) ?_
  obtain ⟨x_5, e10, h⟩ := bnd h
  refine OpsL.consG (!(decide (digits_1 = []))) 99 [25] (.plain rfl) (eq_f _) rfl rfl (fun g9 => ⟨g9, trivial⟩) (fun g9 => op_index_str und9 rfl rfl (ix_lo (gc e10 g9)) (ix_get (gc e10 g9))) ?_
  refine OpsL.consG (!(decide (digits_1 = []))) 99 [26] (.plain rfl) (eq_f _) rfl rfl (fun g11 => ⟨g11, trivial⟩) (fun g11 => op_eql rfl rfl) ?_
  refine OpsL.consG (!(decide (digits_1 = []))) 99 [27] (.plain rfl) (eq_f _) rfl rfl (fun g12 => ⟨g12, trivial⟩) (fun g12 => op_move rfl) ?_
  refine OpsL.keepS ⟨[(0, .b (.one (.str s0))), (2, Pt 101 0), (4, .b (.one (.str digits_1))), (24, B (decide (digits_1 = []))), (28, .opt (!(decide (digits_1 = []))) (.one (.bool (decide ((x_5.toNat : Int) = 48)))))], [(101, .box 25 (.bool false :: .bool false :: ((eA16 .u32) A16.zero)))]⟩ rfl ?_
  refine OpsL.consG ((!(decide (digits_1 = []))) && (decide ((x_5.toNat : Int) = 48))) 99 [] (.under rfl) (and_t _ _) rfl rfl (fun g13 => trivial) (fun g13 => op_move rfl) ?_
  refine OpsL.consG ((!(decide (digits_1 = []))) && (decide ((x_5.toNat : Int) = 48))) 99 [29] (.under rfl) (and_t _ _) rfl rfl (fun g14 => ⟨g14, trivial⟩) (fun g14 => op_neq_str rfl rfl) ?_
  refine OpsL.consG (!(decide (digits_1 = []))) 99 [28] (.plain rfl) (eq_f _) rfl rfl (fun g15 => ⟨g15, trivial⟩) (fun g15 => op_pick_and (fun e => by rw [g15, e]; rfl) rfl rfl rfl rfl) ?_
  refine OpsL.consB h rfl (op_pick_or (fun e => by rw [e]; rfl) rfl rfl rfl rfl) (fun x_6 h => ?_)
  refine OpsL.nilS ⟨[(0, .b (.one (.str s0))), (2, Pt 101 0), (4, .b (.one (.str digits_1))), (32, B x_6)], [(101, .box 25 (.bool false :: .bool false :: ((eA16 .u32) A16.zero)))]⟩ rfl ?_
  refine Tri.ite h rfl (fun _ h => ?_) (fun _ h => ?_)
  ·refine Tri.seq (Tri.regionL ?_)
   obtain ⟨x_7, e16, h⟩ := bnd h
   refine Oc rfl (op_call0 (whole_Bad_spec e16) goes92 rfl rfl) (Oc rfl (op_store_p tyAgg25 rfl rfl rfl rfl (Nat.le_of_ble_eq_true rfl) rfl) (Oc rfl (op_assign rfl) ?_))
   refine OpsL.nilS ⟨[(2, Pt 101 0), (3, I 281)], [(101, .box 25 (eBig x_7))]⟩ rfl ?_
   refine Tri.ret ?_
   refine Fin.then_ret ?_
   obtain rfl := Option.some.inj h
   refine Fin.keepS ⟨[(2, Pt 101 0), (3, I 281)], [(101, .box 25 (eBig x_7))]⟩ rfl ?_
   refine Fin.result' [.agg (eBig x_7), .one (.i 281)] (.inl rfl) rfl (.cons (.agg tyAgg25 rfl rfl rfl rfl) (.cons (.tmp rfl) .nil)) ⟨rfl, rfl⟩
  ·refine Tri.skip ?_
   refine Fin.keepS ⟨[(0, .b (.one (.str s0))), (2, Pt 101 0), (4, .b (.one (.str digits_1)))], [(101, .box 25 (.bool false :: .bool false :: ((eA16 .u32) A16.zero)))]⟩ rfl ?_
   refine Fin.then ?_
   obtain ⟨v17, h18, h⟩ := bnd h
   refine Tri.seqJ (v := v17) (fun (_ : Unit) => ⟨[(0, .b (.one (.str s0))), (2, Pt 101 0), (4, .b (.one (.str digits_1)))], [(101, .box 25 (.bool false :: .bool false :: ((eA16 .u32) A16.zero)))]⟩) (fun z => .inl z) ?_ ?_
   ·refine Tri.seq (Tri.regionL ?_)
    refine Oc rfl (op_move rfl) (Oc rfl (op_conv_str und9 und110 undi5 rfl) (Oc rfl (op_len_e' und110 rfl (List.length_map _)) (Oc rfl (op_move rfl) ?_)))
    refine OpsL.nilS ⟨[(0, .b (.one (.str s0))), (2, Pt 101 0), (4, .b (.one (.str digits_1))), (35, .b (.one (.sl 1 ((ofStr digits_1).map (eK .u8))))), (36, I ((ofStr digits_1).length : Int)), (37, I 0)], [(101, .box 25 (.bool false :: .bool false :: ((eA16 .u32) A16.zero)))]⟩ rfl ?_
    refine Tri.block ?_
    refine Tri.loopJ h18 (fun (x_8 : Int) => ⟨[(0, .b (.one (.str s0))), (2, Pt 101 0), (4, .b (.one (.str digits_1))), (35, .b (.one (.sl 1 ((ofStr digits_1).map (eK .u8))))), (36, I ((ofStr digits_1).length : Int)), (37, I x_8)], [(101, .box 25 (.bool false :: .bool false :: ((eA16 .u32) A16.zero)))]⟩) [0, 2, 4, 35, 36, 37] [101] rfl ?_
    rintro x_8 o19 h20 hy21
    refine Tri.seq (Tri.regionL ?_)
    refine Oc rfl (op_lss rfl rfl) ?_
    refine OpsL.nilS ⟨[(0, .b (.one (.str s0))), (2, Pt 101 0), (4, .b (.one (.str digits_1))), (35, .b (.one (.sl 1 ((ofStr digits_1).map (eK .u8))))), (36, I ((ofStr digits_1).length : Int)), (37, I x_8), (38, B (decide (x_8 < ((ofStr digits_1).length : Int))))], [(101, .box 25 (.bool false :: .bool false :: ((eA16 .u32) A16.zero)))]⟩ rfl ?_
    refine Tri.seq ?_
    refine Tri.ite h20 rfl (fun _ h20 => ?_) (fun _ h20 => ?_)
    ·refine Tri.skip ?_
     refine Fin.keepS ⟨[(0, .b (.one (.str s0))), (2, Pt 101 0), (4, .b (.one (.str digits_1))), (35, .b (.one (.sl 1 ((ofStr digits_1).map (eK .u8))))), (36, I ((ofStr digits_1).length : Int)), (37, I x_8)], [(101, .box 25 (.bool false :: .bool false :: ((eA16 .u32) A16.zero)))]⟩ rfl ?_
     refine Fin.then (Tri.seq (Tri.block (Tri.seq (Tri.regionL ?_))))
     obtain ⟨x_9, e22, h20⟩ := bnd h20
     refine Oc rfl (op_index_e tySl110 (ix_lo e22) (ix_map (e := (eK .u8)) e22) rfl rfl) (Oc rfl (op_load_e1 tyOne5 rfl rfl) (Oc rfl (op_assign rfl) ?_))
     refine OpsL.nilS ⟨[(0, .b (.one (.str s0))), (2, Pt 101 0), (4, .b (.one (.str digits_1))), (6, .b (.one (.int .u8 x_9))), (35, .b (.one (.sl 1 ((ofStr digits_1).map (eK .u8))))), (36, I ((ofStr digits_1).length : Int)), (37, I x_8)], [(101, .box 25 (.bool false :: .bool false :: ((eA16 .u32) A16.zero)))]⟩ rfl ?_
     refine Tri.seq (Tri.regionL ?_)
     refine Oc rfl (op_move rfl) (Oc rfl (op_lss rfl rfl) (Oc rfl (op_move rfl) ?_))
     refine OpsL.consG (!(decide (x_9 < 48))) 99 [] (.plain rfl) (eq_f _) rfl rfl (fun g23 => trivial) (fun g23 => op_move rfl) ?_
     refine OpsL.consG (!(decide (x_9 < 48))) 99 [44] (.plain rfl) (eq_f _) rfl rfl (fun g24 => ⟨g24, trivial⟩) (fun g24 => op_gtr rfl rfl) ?_
     refine Oc rfl (op_pick_or (fun e => by rw [e]; rfl) rfl rfl rfl rfl) ?_
     refine OpsL.nilS ⟨[(0, .b (.one (.str s0))), (2, Pt 101 0), (4, .b (.one (.str digits_1))), (35, .b (.one (.sl 1 ((ofStr digits_1).map (eK .u8))))), (36, I ((ofStr digits_1).length : Int)), (37, I x_8), (46, B ((decide (x_9 < 48)) || (decide (57 < x_9))))], [(101, .box 25 (.bool false :: .bool false :: ((eA16 .u32) A16.zero)))]⟩ rfl ?_
     refine Tri.ite h20 rfl (fun _ h20 => ?_) (fun _ h20 => ?_)
     ·refine Tri.seq (Tri.regionL ?_)
      obtain ⟨x_10, e25, h20⟩ := bnd h20
      refine Oc rfl (op_call0 (whole_Bad_spec e25) goes92 rfl rfl) (Oc rfl (op_store_p tyAgg25 rfl rfl rfl rfl (Nat.le_of_ble_eq_true rfl) rfl) (Oc rfl (op_assign rfl) ?_))
      refine OpsL.nilS ⟨[(2, Pt 101 0), (3, I 281)], [(101, .box 25 (eBig x_10))]⟩ rfl ?_
      refine Tri.ret ?_
      refine Fin.block_ret ?_
      refine Fin.then_ret ?_
      obtain rfl := hy21 _ (Option.some.inj h20).symm
      refine Fin.then_ret ?_
      refine Fin.block_ret ?_
      refine Fin.then_ret ?_
      obtain rfl := Option.some.inj h
      refine Fin.keepS ⟨[(2, Pt 101 0), (3, I 281)], [(101, .box 25 (eBig x_10))]⟩ rfl ?_
      refine Fin.result' [.agg (eBig x_10), .one (.i 281)] (.inl rfl) rfl (.cons (.agg tyAgg25 rfl rfl rfl rfl) (.cons (.tmp rfl) .nil)) ⟨rfl, rfl⟩
     ·refine Tri.skip ?_
      refine Fin.block_normal ?_
      refine Fin.keepS ⟨[(0, .b (.one (.str s0))), (2, Pt 101 0), (4, .b (.one (.str digits_1))), (35, .b (.one (.sl 1 ((ofStr digits_1).map (eK .u8))))), (36, I ((ofStr digits_1).length : Int)), (37, I x_8)], [(101, .box 25 (.bool false :: .bool false :: ((eA16 .u32) A16.zero)))]⟩ rfl ?_
      refine Fin.then (Tri.regionL ?_)
      refine Oc rfl (op_add rfl rfl) (Oc rfl (op_move rfl) ?_)
      refine OpsL.nil ?_
      exact Fin.againJ [0, 2, 4, 35, 36, 37] [101] (IntKind.i64.wrap (x_8 + 1)) (Option.some.inj h20) rfl
    ·refine Tri.exit ?_
     refine Fin.then_exit ?_
     obtain rfl := hy21 _ (Option.some.inj h20).symm
     refine Fin.then_exit ?_
     refine Fin.block_exit ?_
     exact Fin.join [0, 2, 4] [101] () rfl rfl
   ·rintro _ hv
    subst v17
    refine Tri.seq (Tri.seq (Tri.regionL ?_))
    refine Oc rfl (op_move rfl) (Oc rfl (op_len_str und9 rfl) (Oc rfl (op_gtr rfl rfl) ?_))
    refine OpsL.nilS ⟨[(0, .b (.one (.str s0))), (2, Pt 101 0), (4, .b (.one (.str digits_1))), (51, B (decide (512 < (digits_1.length : Int))))], [(101, .box 25 (.bool false :: .bool false :: ((eA16 .u32) A16.zero)))]⟩ rfl ?_
    refine Tri.ite h rfl (fun _ h => ?_) (fun _ h => ?_)
    ·refine Tri.seq (Tri.regionL ?_)
     obtain ⟨x_11, e26, h⟩ := bnd h
     refine Oc rfl (op_call0 (whole_Bad_spec e26) goes92 rfl rfl) (Oc rfl (op_store_p tyAgg25 rfl rfl rfl rfl (Nat.le_of_ble_eq_true rfl) rfl) (Oc rfl (op_assign rfl) ?_))
     refine OpsL.nilS ⟨[(2, Pt 101 0), (3, I 30)], [(101, .box 25 (eBig x_11))]⟩ rfl ?_
     refine Tri.ret ?_
     refine Fin.then_ret ?_
     obtain rfl := Option.some.inj h
     refine Fin.keepS ⟨[(2, Pt 101 0), (3, I 30)], [(101, .box 25 (eBig x_11))]⟩ rfl ?_
     refine Fin.result' [.agg (eBig x_11), .one (.i 30)] (.inl rfl) rfl (.cons (.agg tyAgg25 rfl rfl rfl rfl) (.cons (.tmp rfl) .nil)) ⟨rfl, rfl⟩
    ·refine Tri.skip ?_
     refine Fin.keepS ⟨[(0, .b (.one (.str s0))), (2, Pt 101 0), (4, .b (.one (.str digits_1)))], [(101, .box 25 (.bool false :: .bool false :: ((eA16 .u32) A16.zero)))]⟩ rfl ?_
     refine Fin.then (Tri.seq (Tri.regionL ?_))
     obtain ⟨x_12, e27, h⟩ := bnd h
     refine Oc rfl (op_call0 (whole_Of_spec e27) goes91 rfl rfl) ?_
     obtain ⟨x_13, e28, h⟩ := bnd h
     refine Oc rfl (op_call0 (whole_Of_spec e28) goes91 rfl rfl) ?_
     refine OpsL.keepS ⟨[(0, .b (.one (.str s0))), (2, Pt 101 0), (4, .b (.one (.str digits_1))), (53, .b (.agg (eBig x_12))), (54, .b (.agg (eBig x_13)))], [(101, .box 25 (.bool false :: .bool false :: ((eA16 .u32) A16.zero)))]⟩ rfl ?_
     refine Oc rfl (op_alloc (k := 102) tyZero25 rfl) (Oc rfl (op_alloc (k := 103) tyZero25 rfl) (Oc rfl (op_store_p tyAgg25 rfl rfl rfl rfl (Nat.le_of_ble_eq_true rfl) rfl) (Oc rfl (op_store_p tyAgg25 rfl rfl rfl rfl (Nat.le_of_ble_eq_true rfl) rfl) ?_)))
     refine OpsL.nilS ⟨[(0, .b (.one (.str s0))), (2, Pt 101 0), (4, .b (.one (.str digits_1))), (7, Pt 102 0), (8, Pt 103 0)], [(101, .box 25 (.bool false :: .bool false :: ((eA16 .u32) A16.zero))), (102, .box 25 (eBig x_12)), (103, .box 25 (eBig x_13))]⟩ rfl ?_
     obtain ⟨v29, h30, h⟩ := bnd h
     refine Tri.seqJ (v := v29) (fun (x_14 : Big) => ⟨[(0, .b (.one (.str s0))), (2, Pt 101 0), (4, .b (.one (.str digits_1))), (7, Pt 102 0)], [(101, .box 25 (.bool false :: .bool false :: ((eA16 .u32) A16.zero))), (102, .box 25 (eBig x_14))]⟩) (fun z => z) ?_ ?_
     ·refine Tri.seq (Tri.regionL ?_)
      refine Oc rfl (op_move rfl) (Oc rfl (op_conv_str und9 und110 undi5 rfl) (Oc rfl (op_len_e' und110 rfl (List.length_map _)) (Oc rfl (op_move rfl) ?_)))
      refine OpsL.nilS ⟨[(0, .b (.one (.str s0))), (2, Pt 101 0), (4, .b (.one (.str digits_1))), (7, Pt 102 0), (8, Pt 103 0), (56, .b (.one (.sl 1 ((ofStr digits_1).map (eK .u8))))), (57, I ((ofStr digits_1).length : Int)), (58, I 0)], [(101, .box 25 (.bool false :: .bool false :: ((eA16 .u32) A16.zero))), (102, .box 25 (eBig x_12)), (103, .box 25 (eBig x_13))]⟩ rfl ?_
      refine Tri.block ?_
      refine Tri.loopJ h30 (un2 fun (x_15 : Big) (x_16 : Int) => ⟨[(0, .b (.one (.str s0))), (2, Pt 101 0), (4, .b (.one (.str digits_1))), (7, Pt 102 0), (8, Pt 103 0), (56, .b (.one (.sl 1 ((ofStr digits_1).map (eK .u8))))), (57, I ((ofStr digits_1).length : Int)), (58, I x_16)], [(101, .box 25 (.bool false :: .bool false :: ((eA16 .u32) A16.zero))), (102, .box 25 (eBig x_15)), (103, .box 25 (eBig x_13))]⟩) [0, 2, 4, 7, 8, 56, 57, 58] [101, 102, 103] rfl ?_
      rintro ⟨x_15, x_16⟩ o31 h32 hy33
      refine Tri.seq (Tri.regionL ?_)
      refine Oc rfl (op_lss rfl rfl) ?_
      refine OpsL.nilS ⟨[(0, .b (.one (.str s0))), (2, Pt 101 0), (4, .b (.one (.str digits_1))), (7, Pt 102 0), (8, Pt 103 0), (56, .b (.one (.sl 1 ((ofStr digits_1).map (eK .u8))))), (57, I ((ofStr digits_1).length : Int)), (58, I x_16), (59, B (decide (x_16 < ((ofStr digits_1).length : Int))))], [(101, .box 25 (.bool false :: .bool false :: ((eA16 .u32) A16.zero))), (102, .box 25 (eBig x_15)), (103, .box 25 (eBig x_13))]⟩ rfl ?_
      refine Tri.seq ?_
      refine Tri.ite h32 rfl (fun _ h32 => ?_) (fun _ h32 => ?_)
      ·refine Tri.skip ?_
       refine Fin.keepS ⟨[(0, .b (.one (.str s0))), (2, Pt 101 0), (4, .b (.one (.str digits_1))), (7, Pt 102 0), (8, Pt 103 0), (56, .b (.one (.sl 1 ((ofStr digits_1).map (eK .u8))))), (57, I ((ofStr digits_1).length : Int)), (58, I x_16)], [(101, .box 25 (.bool false :: .bool false :: ((eA16 .u32) A16.zero))), (102, .box 25 (eBig x_15)), (103, .box 25 (eBig x_13))]⟩ rfl ?_
       refine Fin.then (Tri.seq (Tri.block (Tri.seq (Tri.regionL ?_))))
       obtain ⟨x_18, e34, h32⟩ := bnd h32
       refine Oc rfl (op_index_e tySl110 (ix_lo e34) (ix_map (e := (eK .u8)) e34) rfl rfl) (Oc rfl (op_load_e1 tyOne5 rfl rfl) (Oc rfl (op_assign rfl) ?_))
       refine OpsL.nilS ⟨[(0, .b (.one (.str s0))), (2, Pt 101 0), (4, .b (.one (.str digits_1))), (7, Pt 102 0), (8, Pt 103 0), (10, .b (.one (.int .u8 x_18))), (56, .b (.one (.sl 1 ((ofStr digits_1).map (eK .u8))))), (57, I ((ofStr digits_1).length : Int)), (58, I x_16)], [(101, .box 25 (.bool false :: .bool false :: ((eA16 .u32) A16.zero))), (102, .box 25 (eBig x_15)), (103, .box 25 (eBig x_13))]⟩ rfl ?_
       refine Tri.regionL ?_
       refine Oc rfl (op_load_p tyAgg25 rfl rfl rfl rfl) (Oc rfl (op_load_p tyAgg25 rfl rfl rfl rfl) ?_)
       obtain ⟨x_19, e35, h32⟩ := bnd h32
       refine Oc rfl (op_call0 (whole_Mul_spec e35) goes102 rfl rfl) (Oc rfl (op_move rfl) (Oc rfl (op_sub rfl rfl) ?_))
       refine OpsL.keepS ⟨[(0, .b (.one (.str s0))), (2, Pt 101 0), (4, .b (.one (.str digits_1))), (7, Pt 102 0), (8, Pt 103 0), (56, .b (.one (.sl 1 ((ofStr digits_1).map (eK .u8))))), (57, I ((ofStr digits_1).length : Int)), (58, I x_16), (64, .b (.agg (eBig x_19))), (66, .b (.one (.int .u8 (IntKind.u8.wrap (x_18 - 48)))))], [(101, .box 25 (.bool false :: .bool false :: ((eA16 .u32) A16.zero))), (102, .box 25 (eBig x_15)), (103, .box 25 (eBig x_13))]⟩ rfl ?_
       refine OpsL.consI .i64 h32 rfl (op_conv_wrap undi5 undi3 rfl) (fun x_20 h32 => ?_)
       obtain ⟨x_21, e36, h32⟩ := bnd h32
       refine Oc rfl (op_call0 (whole_Of_spec e36) goes91 rfl rfl) ?_
       obtain ⟨x_22, e37, h32⟩ := bnd h32
       refine Oc rfl (op_call0 (whole_Add_spec e37) goes97 rfl rfl) (Oc rfl (op_store_p tyAgg25 rfl rfl rfl rfl (Nat.le_of_ble_eq_true rfl) rfl) ?_)
       refine OpsL.nil ?_
       refine Fin.block_normal ?_
       refine Fin.keepS ⟨[(0, .b (.one (.str s0))), (2, Pt 101 0), (4, .b (.one (.str digits_1))), (7, Pt 102 0), (8, Pt 103 0), (56, .b (.one (.sl 1 ((ofStr digits_1).map (eK .u8))))), (57, I ((ofStr digits_1).length : Int)), (58, I x_16)], [(101, .box 25 (.bool false :: .bool false :: ((eA16 .u32) A16.zero))), (102, .box 25 (eBig x_22)), (103, .box 25 (eBig x_13))]⟩ rfl ?_
       refine Fin.then (Tri.regionL ?_)
       refine Oc rfl (op_add rfl rfl) (Oc rfl (op_move rfl) ?_)
       refine OpsL.nil ?_
       exact Fin.againJ [0, 2, 4, 7, 8, 56, 57, 58] [101, 102, 103] (x_22, IntKind.i64.wrap (x_16 + 1)) (Option.some.inj h32) rfl
      ·refine Tri.exit ?_
       refine Fin.then_exit ?_
       obtain rfl := hy33 _ (Option.some.inj h32).symm
       refine Fin.then_exit ?_
       refine Fin.block_exit ?_
       exact Fin.join [0, 2, 4, 7] [101, 102] x_15 rfl rfl
     ·rintro x_14 hv
      subst v29
      refine Tri.seq (Tri.seq (Tri.regionL ?_))
      refine Oc rfl (op_field_p tyFld25_0 rfl rfl) (Oc rfl (op_load_p1 tyOne4 rfl rfl rfl) ?_)
      refine OpsL.nilS ⟨[(0, .b (.one (.str s0))), (2, Pt 101 0), (4, .b (.one (.str digits_1))), (7, Pt 102 0), (72, B x_14.Bad)], [(101, .box 25 (.bool false :: .bool false :: ((eA16 .u32) A16.zero))), (102, .box 25 (eBig x_14))]⟩ rfl ?_
      refine Tri.ite h rfl (fun _ h => ?_) (fun _ h => ?_)
      ·refine Tri.seq (Tri.regionL ?_)
       refine Oc rfl (op_load_p tyAgg25 rfl rfl rfl rfl) (Oc rfl (op_store_p tyAgg25 rfl rfl rfl rfl (Nat.le_of_ble_eq_true rfl) rfl) (Oc rfl (op_assign rfl) ?_))
       refine OpsL.nilS ⟨[(2, Pt 101 0), (3, I 30)], [(101, .box 25 (eBig x_14))]⟩ rfl ?_
       refine Tri.ret ?_
       refine Fin.then_ret ?_
       obtain rfl := Option.some.inj h
       refine Fin.keepS ⟨[(2, Pt 101 0), (3, I 30)], [(101, .box 25 (eBig x_14))]⟩ rfl ?_
       refine Fin.result' [.agg (eBig x_14), .one (.i 30)] (.inl rfl) rfl (.cons (.agg tyAgg25 rfl rfl rfl rfl) (.cons (.tmp rfl) .nil)) ⟨rfl, rfl⟩
      ·refine Tri.skip ?_
       refine Fin.keepS ⟨[(0, .b (.one (.str s0))), (2, Pt 101 0), (4, .b (.one (.str digits_1))), (7, Pt 102 0)], [(101, .box 25 (.bool false :: .bool false :: ((eA16 .u32) A16.zero))), (102, .box 25 (eBig x_14))]⟩ rfl ?_
       refine Fin.then (Tri.seq (Tri.regionL ?_))
       refine Oc rfl (op_move rfl) (Oc rfl (op_move rfl) (Oc rfl (op_neq_str rfl rfl) (Oc rfl (op_field_p tyFld25_2 rfl rfl) (Oc rfl (op_load_p tyAgg23 rfl rfl rfl rfl) ?_))))
       refine OpsL.keepS ⟨[(2, Pt 101 0), (76, B (decide (digits_1 ≠ s0))), (78, .b (.agg ((eA16 .u32) x_14.W)))], [(101, .box 25 (.bool false :: .bool false :: ((eA16 .u32) A16.zero)))]⟩ rfl ?_
       obtain ⟨x_23, e38, h⟩ := bnd h
       refine Oc rfl (op_call0 (whole_signed_spec e38) goes115 rfl rfl) (Oc rfl (op_store_p tyAgg25 rfl rfl rfl rfl (Nat.le_of_ble_eq_true rfl) rfl) (Oc rfl (op_assign rfl) ?_))
       refine OpsL.nilS ⟨[(2, Pt 101 0), (3, I 0)], [(101, .box 25 (eBig x_23))]⟩ rfl ?_
       refine Tri.ret ?_
       obtain rfl := Option.some.inj h
       refine Fin.keepS ⟨[(2, Pt 101 0), (3, I 0)], [(101, .box 25 (eBig x_23))]⟩ rfl ?_
       refine Fin.result' [.agg (eBig x_23), .one (.i 0)] (.inl rfl) rfl (.cons (.agg tyAgg25 rfl rfl rfl rfl) (.cons (.tmp rfl) .nil)) ⟨rfl, rfl⟩
def ratio_Parse_S (F : Nat) (s0 : Str) : Option (Frc × Int) :=
 Option.bind (strings_Cut_S F s0 [47]) (un3 fun x_1 x_2 x_3 => Option.bind (ratio_one_S F) (fun x_4 => letN (⟨(⟨false, false, A16.zero⟩ : Big), x_4⟩ : Frc) fun x_5 => Option.bind (whole_Parse_S F x_1) (un2 fun x_6 x_7 => Option.bind (if x_3 = true then (Option.bind (whole_Parse_S F x_2) (un2 fun x_10 x_11 => some ((⟨x_6, x_10⟩ : Frc), x_11))) else (some ((⟨x_6, x_5.D⟩ : Frc), 0))) (un2 fun x_8 f_9 => Option.bind (gcall (((!((decide (x_7 = 281)) || (decide (f_9 = 281)))) && x_3) && !((decide (x_2 = [48])) || (decide (x_2 = [49])))) (strings_HasPrefix_S F x_2 [45])) (fun x_12 => letN (((decide (x_7 = 281)) || (decide (f_9 = 281))) || (x_3 && (((decide (x_2 = [48])) || (decide (x_2 = [49]))) || x_12))) fun x_13 => if x_13 = true then (Option.bind (ratio_Bad_S F) (fun x_14 => some (x_14, 281))) else (if ((decide (x_7 ≠ 0)) || (decide (f_9 ≠ 0))) = true then (Option.bind (ratio_Bad_S F) (fun x_15 => some (x_15, 30))) else (Option.bind (ratio_Good_S F x_8) (fun x_16 => if (!x_16) = true then (Option.bind (ratio_Bad_S F) (fun x_17 => some (x_17, 281))) else (some (x_8, 0))))))))))
theorem ratio_Parse_spec {F : Nat} {s0 : Str} {r : Frc × Int} (h : ratio_Parse_S F s0 = some r) : Meets Tryz.prog (tabs mx) 52 [] [.one (.str s0)] (Is [] (.tup [.agg (eFrc r.1), .one (.i r.2)])) := by
 unfold ratio_Parse_S at h
 refine Meets.intro 68 Tryz.func52 Tryz.ntmps52 rfl (by simp) fun E => ?_
 show Tri _ E ⟨68, [], []⟩ _ ⟨[(0, .b (.one (.str s0)))], []⟩ _
 refine Tri.seq (Tri.regionL ?_)
 refine Oc rfl (op_alloc (k := 101) tyZero27 rfl) (Oc rfl (op_assign rfl) ?_)
 refine OpsL.nilS ⟨[(0, .b (.one (.str s0))), (2, Pt 101 0)], [(101, .box 27 (.bool false :: .bool false :: ((eA16 .u32) A16.zero ++ (.bool false :: .bool false :: ((eA16 .u32) A16.zero)))))]⟩ rfl ?_
 refine Tri.seq (Tri.regionL ?_)
 refine Oc rfl (op_move rfl) ?_
 obtain ⟨⟨x_1, x_2, x_3⟩, e1, h⟩ := bnd h
 refine Oc rfl (op_call0 (strings_Cut_spec e1) goes105 rfl rfl) (Oc rfl (op_move rfl) (Oc rfl (op_extract rfl rfl) (Oc rfl (op_extract rfl rfl) ?_)))
 refine OpsL.keepS ⟨[(2, Pt 101 0), (10, .tup [.one (.str x_1), .one (.str x_2), .one (.bool x_3)]), (13, .b (.one (.str x_1))), (14, .b (.one (.str x_2)))], [(101, .box 27 (.bool false :: .bool false :: ((eA16 .u32) A16.zero ++ (.bool false :: .bool false :: ((eA16 .u32) A16.zero)))))]⟩ rfl ?_
 refine Oc rfl (op_extract rfl rfl) (Oc rfl (op_assign rfl) (Oc rfl (op_assign rfl) (Oc rfl (op_assign rfl) ?_)))
 refine OpsL.nilS ⟨[(2, Pt 101 0), (4, .b (.one (.str x_1))), (5, .b (.one (.str x_2))), (6, B x_3)], [(101, .box 27 (.bool false :: .bool false :: ((eA16 .u32) A16.zero ++ (.bool false :: .bool false :: ((eA16 .u32) A16.zero)))))]⟩ rfl ?_
 refine Tri.seq (Tri.regionL ?_)
 obtain ⟨x_4, e2, h⟩ := bnd h
 refine Oc rfl (op_call0 (ratio_one_spec e2) goes90 rfl rfl) ?_
 refine OpsL.consA eFrc h rfl (op_build tyBuild27 rfl rfl) (fun x_5 h => ?_)
 refine Oc rfl (op_alloc (k := 102) tyZero27 rfl) (Oc rfl (op_store_p tyAgg27 rfl rfl rfl rfl (Nat.le_of_ble_eq_true rfl) rfl) ?_)
 refine OpsL.nilS ⟨[(2, Pt 101 0), (4, .b (.one (.str x_1))), (5, .b (.one (.str x_2))), (6, B x_3), (7, Pt 102 0)], [(101, .box 27 (.bool false :: .bool false :: ((eA16 .u32) A16.zero ++ (.bool false :: .bool false :: ((eA16 .u32) A16.zero))))), (102, .box 27 (eFrc x_5))]⟩ rfl ?_
 refine Tri.seq (Tri.regionL ?_)
 refine Oc rfl (op_assign rfl) (Oc rfl (op_assign rfl) ?_)
 refine OpsL.nilS ⟨[(2, Pt 101 0), (4, .b (.one (.str x_1))), (5, .b (.one (.str x_2))), (6, B x_3), (7, Pt 102 0), (9, I 0)], [(101, .box 27 (.bool false :: .bool false :: ((eA16 .u32) A16.zero ++ (.bool false :: .bool false :: ((eA16 .u32) A16.zero))))), (102, .box 27 (eFrc x_5))]⟩ rfl ?_
 refine Tri.seq (Tri.regionL ?_)
 refine Oc rfl (op_move rfl) ?_
 obtain ⟨⟨x_6, x_7⟩, e3, h⟩ := bnd h
 refine Oc rfl (op_call0 (whole_Parse_spec e3) goes106 rfl rfl) (Oc rfl (op_move rfl) (Oc rfl (op_extract rfl rfl) (Oc rfl (op_extract rfl rfl) ?_)))
 refine OpsL.keepS ⟨[(2, Pt 101 0), (5, .b (.one (.str x_2))), (6, B x_3), (7, Pt 102 0), (9, I 0), (21, .b (.agg (eBig x_6))), (22, I x_7)], [(101, .box 27 (.bool false :: .bool false :: ((eA16 .u32) A16.zero ++ (.bool false :: .bool false :: ((eA16 .u32) A16.zero))))), (102, .box 27 (eFrc x_5))]⟩ rfl ?_
 refine Oc rfl (op_field_p tyFld27_0 rfl rfl) (Oc rfl (op_store_p tyAgg25 rfl rfl rfl rfl (Nat.le_of_ble_eq_true rfl) rfl) (Oc rfl (op_assign rfl) ?_))
 refine OpsL.nilS ⟨[(2, Pt 101 0), (5, .b (.one (.str x_2))), (6, B x_3), (7, Pt 102 0), (8, I x_7), (9, I 0)], [(101, .box 27 (.bool false :: .bool false :: ((eA16 .u32) A16.zero ++ (.bool false :: .bool false :: ((eA16 .u32) A16.zero))))), (102, .box 27 (eBig x_6 ++ (eBig x_5.D)))]⟩ rfl ?_
 obtain ⟨v4, h5, h⟩ := bnd h
 refine Tri.seqJ (v := v4) (un2 fun (x_8 : Frc) (f_9 : Int) => ⟨[(2, Pt 101 0), (5, .b (.one (.str x_2))), (6, B x_3), (7, Pt 102 0), (8, I x_7), (9, I f_9)], [(101, .box 27 (.bool false :: .bool false :: ((eA16 .u32) A16.zero ++ (.bool false :: .bool false :: ((eA16 .u32) A16.zero))))), (102, .box 27 (eFrc x_8))]⟩) (fun z => z) ?_ ?_
 ·refine Tri.seq (Tri.regionL ?_)
  refine Oc rfl (op_move rfl) ?_
  refine OpsL.nilS ⟨[(2, Pt 101 0), (5, .b (.one (.str x_2))), (6, B x_3), (7, Pt 102 0), (8, I x_7), (9, I 0), (24, B x_3)], [(101, .box 27 (.bool false :: .bool false :: ((eA16 .u32) A16.zero ++ (.bool false :: .bool false :: ((eA16 .u32) A16.zero))))), (102, .box 27 (eBig x_6 ++ (eBig x_5.D)))]⟩ rfl ?_
  refine Tri.ite h5 rfl (fun _ h5 => ?_) (fun _ h5 => ?_)
  ·refine Tri.regionL ?_
   refine Oc rfl (op_move rfl) ?_
   obtain ⟨⟨x_10, x_11⟩, e6, h5⟩ := bnd h5
   refine Oc rfl (op_call0 (whole_Parse_spec e6) goes106 rfl rfl) (Oc rfl (op_move rfl) (Oc rfl (op_extract rfl rfl) (Oc rfl (op_extract rfl rfl) ?_)))
   refine OpsL.keepS ⟨[(2, Pt 101 0), (5, .b (.one (.str x_2))), (6, B x_3), (7, Pt 102 0), (8, I x_7), (9, I 0), (28, .b (.agg (eBig x_10))), (29, I x_11)], [(101, .box 27 (.bool false :: .bool false :: ((eA16 .u32) A16.zero ++ (.bool false :: .bool false :: ((eA16 .u32) A16.zero))))), (102, .box 27 (eBig x_6 ++ (eBig x_5.D)))]⟩ rfl ?_
   refine Oc rfl (op_field_p tyFld27_1 rfl rfl) (Oc rfl (op_store_p tyAgg25 rfl rfl rfl rfl (Nat.le_of_ble_eq_true rfl) rfl) (Oc rfl (op_assign rfl) ?_))
   refine OpsL.nil ?_
   exact Fin.join [2, 5, 6, 7, 8, 9] [101, 102] ((⟨x_6, x_10⟩ : Frc), x_11) (Option.some.inj h5) rfl
  ·refine Tri.skip ?_
   exact Fin.join [2, 5, 6, 7, 8, 9] [101, 102] ((⟨x_6, x_5.D⟩ : Frc), 0) (Option.some.inj h5) rfl
 ·rintro ⟨x_8, f_9⟩ hv
  subst v4
  refine Tri.seq (Tri.block (Tri.seq (Tri.regionL ?_)))
  refine Oc rfl (op_move rfl) (Oc rfl (op_eql rfl rfl) (Oc rfl (op_move rfl) ?_))
  refine OpsL.consG (!(decide (x_7 = 281))) 99 [] (.plain rfl) (eq_f _) rfl rfl (fun g7 => trivial) (fun g7 => op_move rfl) ?_
  refine OpsL.consG (!(decide (x_7 = 281))) 99 [35] (.plain rfl) (eq_f _) rfl rfl (fun g8 => ⟨g8, trivial⟩) (fun g8 => op_eql rfl rfl) ?_
  refine Oc rfl (op_pick_or (fun e => by rw [e]; rfl) rfl rfl rfl rfl) (Oc rfl (op_move rfl) ?_)
  refine OpsL.keepS ⟨[(2, Pt 101 0), (5, .b (.one (.str x_2))), (6, B x_3), (7, Pt 102 0), (8, I x_7), (9, I f_9), (38, B ((decide (x_7 = 281)) || (decide (f_9 = 281))))], [(101, .box 27 (.bool false :: .bool false :: ((eA16 .u32) A16.zero ++ (.bool false :: .bool false :: ((eA16 .u32) A16.zero))))), (102, .box 27 (eFrc x_8))]⟩ rfl ?_
  refine OpsL.consG (!((decide (x_7 = 281)) || (decide (f_9 = 281)))) 99 [] (.plain rfl) (eq_f _) rfl rfl (fun g9 => trivial) (fun g9 => op_move rfl) ?_
  refine OpsL.consG (!((decide (x_7 = 281)) || (decide (f_9 = 281)))) 99 [39] (.plain rfl) (eq_f _) rfl rfl (fun g10 => ⟨g10, trivial⟩) (fun g10 => op_move rfl) ?_
  refine OpsL.consG ((!((decide (x_7 = 281)) || (decide (f_9 = 281)))) && x_3) 99 [] (.under rfl) (and_t _ _) rfl rfl (fun g11 => trivial) (fun g11 => op_move rfl) ?_
  refine OpsL.consG ((!((decide (x_7 = 281)) || (decide (f_9 = 281)))) && x_3) 99 [41] (.under rfl) (and_t _ _) rfl rfl (fun g12 => ⟨g12, trivial⟩) (fun g12 => op_eql_str rfl rfl) ?_
  refine OpsL.consG ((!((decide (x_7 = 281)) || (decide (f_9 = 281)))) && x_3) 99 [42] (.under rfl) (and_t _ _) rfl rfl (fun g13 => ⟨g13, trivial⟩) (fun g13 => op_move rfl) ?_
  refine OpsL.consG (((!((decide (x_7 = 281)) || (decide (f_9 = 281)))) && x_3) && !(decide (x_2 = [48]))) 99 [] (.under rfl) (and_f _ _) rfl rfl (fun g14 => trivial) (fun g14 => op_move rfl) ?_
  refine OpsL.consG (((!((decide (x_7 = 281)) || (decide (f_9 = 281)))) && x_3) && !(decide (x_2 = [48]))) 99 [44] (.under rfl) (and_f _ _) rfl rfl (fun g15 => ⟨g15, trivial⟩) (fun g15 => op_eql_str rfl rfl) ?_
  refine OpsL.consG ((!((decide (x_7 = 281)) || (decide (f_9 = 281)))) && x_3) 99 [43] (.under rfl) (and_t _ _) rfl rfl (fun g16 => ⟨g16, trivial⟩) (fun g16 => op_pick_or (fun e => by rw [g16, e]; rfl) rfl rfl rfl rfl) ?_
  refine OpsL.keepS ⟨[(2, Pt 101 0), (5, .b (.one (.str x_2))), (7, Pt 102 0), (8, I x_7), (9, I f_9), (38, B ((decide (x_7 = 281)) || (decide (f_9 = 281)))), (40, .opt (!((decide (x_7 = 281)) || (decide (f_9 = 281)))) (.one (.bool x_3))), (46, .opt ((!((decide (x_7 = 281)) || (decide (f_9 = 281)))) && x_3) (.one (.bool ((decide (x_2 = [48])) || (decide (x_2 = [49]))))))], [(101, .box 27 (.bool false :: .bool false :: ((eA16 .u32) A16.zero ++ (.bool false :: .bool false :: ((eA16 .u32) A16.zero))))), (102, .box 27 (eFrc x_8))]⟩ rfl ?_
  refine OpsL.consG ((!((decide (x_7 = 281)) || (decide (f_9 = 281)))) && x_3) 99 [46] (.under rfl) (and_t _ _) rfl rfl (fun g17 => ⟨g17, trivial⟩) (fun g17 => op_move rfl) ?_
  refine OpsL.consG (((!((decide (x_7 = 281)) || (decide (f_9 = 281)))) && x_3) && !((decide (x_2 = [48])) || (decide (x_2 = [49])))) 99 [] (.under rfl) (and_f _ _) rfl rfl (fun g18 => trivial) (fun g18 => op_move rfl) ?_
  obtain ⟨x_12, e20, h⟩ := bnd h
  refine OpsL.consG (((!((decide (x_7 = 281)) || (decide (f_9 = 281)))) && x_3) && !((decide (x_2 = [48])) || (decide (x_2 = [49])))) 99 [48] (.under rfl) (and_f _ _) rfl rfl (fun g19 => ⟨g19, trivial⟩) (fun g19 => op_call0 (strings_HasPrefix_spec (gc e20 g19)) goes107 rfl rfl) ?_
  refine OpsL.consG ((!((decide (x_7 = 281)) || (decide (f_9 = 281)))) && x_3) 99 [47] (.under rfl) (and_t _ _) rfl rfl (fun g21 => ⟨g21, trivial⟩) (fun g21 => op_pick_or (fun e => by rw [g21, e]; rfl) rfl rfl rfl rfl) ?_
  refine OpsL.consG (!((decide (x_7 = 281)) || (decide (f_9 = 281)))) 99 [40] (.plain rfl) (eq_f _) rfl rfl (fun g22 => ⟨g22, trivial⟩) (fun g22 => op_pick_and (fun e => by rw [g22, e]; rfl) rfl rfl rfl rfl) ?_
  refine OpsL.consB h rfl (op_pick_or (fun e => by rw [e]; rfl) rfl rfl rfl rfl) (fun x_13 h => ?_)
  refine Oc rfl (op_assign rfl) ?_
  refine OpsL.nilS ⟨[(2, Pt 101 0), (7, Pt 102 0), (8, I x_7), (9, I f_9), (31, B x_13)], [(101, .box 27 (.bool false :: .bool false :: ((eA16 .u32) A16.zero ++ (.bool false :: .bool false :: ((eA16 .u32) A16.zero))))), (102, .box 27 (eFrc x_8))]⟩ rfl ?_
  refine Tri.ite h rfl (fun _ h => ?_) (fun _ h => ?_)
  ·refine Tri.seq (Tri.regionL ?_)
   obtain ⟨x_14, e23, h⟩ := bnd h
   refine Oc rfl (op_call0 (ratio_Bad_spec e23) goes27 rfl rfl) (Oc rfl (op_store_p tyAgg27 rfl rfl rfl rfl (Nat.le_of_ble_eq_true rfl) rfl) (Oc rfl (op_assign rfl) ?_))
   refine OpsL.nilS ⟨[(2, Pt 101 0), (3, I 281)], [(101, .box 27 (eFrc x_14))]⟩ rfl ?_
   refine Tri.ret ?_
   refine Fin.block_ret ?_
   refine Fin.then_ret ?_
   obtain rfl := Option.some.inj h
   refine Fin.keepS ⟨[(2, Pt 101 0), (3, I 281)], [(101, .box 27 (eFrc x_14))]⟩ rfl ?_
   refine Fin.result' [.agg (eFrc x_14), .one (.i 281)] (.inl rfl) rfl (.cons (.agg tyAgg27 rfl rfl rfl rfl) (.cons (.tmp rfl) .nil)) ⟨rfl, rfl⟩
  ·refine Tri.seq (Tri.regionL ?_)
   refine Oc rfl (op_move rfl) (Oc rfl (op_neq rfl rfl) (Oc rfl (op_move rfl) ?_))
   refine OpsL.consG (!(decide (x_7 ≠ 0))) 99 [] (.plain rfl) (eq_f _) rfl rfl (fun g24 => trivial) (fun g24 => op_move rfl) ?_
   refine OpsL.consG (!(decide (x_7 ≠ 0))) 99 [58] (.plain rfl) (eq_f _) rfl rfl (fun g25 => ⟨g25, trivial⟩) (fun g25 => op_neq rfl rfl) ?_
   refine Oc rfl (op_pick_or (fun e => by rw [e]; rfl) rfl rfl rfl rfl) (Oc rfl (op_assign rfl) ?_)
   refine OpsL.nilS ⟨[(2, Pt 101 0), (7, Pt 102 0), (54, B ((decide (x_7 ≠ 0)) || (decide (f_9 ≠ 0))))], [(101, .box 27 (.bool false :: .bool false :: ((eA16 .u32) A16.zero ++ (.bool false :: .bool false :: ((eA16 .u32) A16.zero))))), (102, .box 27 (eFrc x_8))]⟩ rfl ?_
   refine Tri.ite h rfl (fun _ h => ?_) (fun _ h => ?_)
   ·refine Tri.seq (Tri.regionL ?_)
    obtain ⟨x_15, e26, h⟩ := bnd h
    refine Oc rfl (op_call0 (ratio_Bad_spec e26) goes27 rfl rfl) (Oc rfl (op_store_p tyAgg27 rfl rfl rfl rfl (Nat.le_of_ble_eq_true rfl) rfl) (Oc rfl (op_assign rfl) ?_))
    refine OpsL.nilS ⟨[(2, Pt 101 0), (3, I 30)], [(101, .box 27 (eFrc x_15))]⟩ rfl ?_
    refine Tri.ret ?_
    refine Fin.block_ret ?_
    refine Fin.then_ret ?_
    obtain rfl := Option.some.inj h
    refine Fin.keepS ⟨[(2, Pt 101 0), (3, I 30)], [(101, .box 27 (eFrc x_15))]⟩ rfl ?_
    refine Fin.result' [.agg (eFrc x_15), .one (.i 30)] (.inl rfl) rfl (.cons (.agg tyAgg27 rfl rfl rfl rfl) (.cons (.tmp rfl) .nil)) ⟨rfl, rfl⟩
   ·refine Tri.seq (Tri.regionL ?_)
    refine Oc rfl (op_load_p tyAgg27 rfl rfl rfl rfl) ?_
    obtain ⟨x_16, e27, h⟩ := bnd h
    refine Oc rfl (op_call0 (ratio_Good_spec e27) goes26 rfl rfl) (Oc rfl (op_not rfl) (Oc rfl (op_assign rfl) ?_))
    refine OpsL.nilS ⟨[(2, Pt 101 0), (7, Pt 102 0), (62, B (!x_16))], [(101, .box 27 (.bool false :: .bool false :: ((eA16 .u32) A16.zero ++ (.bool false :: .bool false :: ((eA16 .u32) A16.zero))))), (102, .box 27 (eFrc x_8))]⟩ rfl ?_
    refine Tri.ite h rfl (fun _ h => ?_) (fun _ h => ?_)
    ·refine Tri.seq (Tri.regionL ?_)
     obtain ⟨x_17, e28, h⟩ := bnd h
     refine Oc rfl (op_call0 (ratio_Bad_spec e28) goes27 rfl rfl) (Oc rfl (op_store_p tyAgg27 rfl rfl rfl rfl (Nat.le_of_ble_eq_true rfl) rfl) (Oc rfl (op_assign rfl) ?_))
     refine OpsL.nilS ⟨[(2, Pt 101 0), (3, I 281)], [(101, .box 27 (eFrc x_17))]⟩ rfl ?_
     refine Tri.ret ?_
     refine Fin.block_ret ?_
     refine Fin.then_ret ?_
     obtain rfl := Option.some.inj h
     refine Fin.keepS ⟨[(2, Pt 101 0), (3, I 281)], [(101, .box 27 (eFrc x_17))]⟩ rfl ?_
     refine Fin.result' [.agg (eFrc x_17), .one (.i 281)] (.inl rfl) rfl (.cons (.agg tyAgg27 rfl rfl rfl rfl) (.cons (.tmp rfl) .nil)) ⟨rfl, rfl⟩
    ·refine Tri.skip ?_
     refine Fin.block_normal ?_
     refine Fin.keepS ⟨[(2, Pt 101 0), (7, Pt 102 0)], [(101, .box 27 (.bool false :: .bool false :: ((eA16 .u32) A16.zero ++ (.bool false :: .bool false :: ((eA16 .u32) A16.zero))))), (102, .box 27 (eFrc x_8))]⟩ rfl ?_
     refine Fin.then (Tri.seq (Tri.regionL ?_))
     refine Oc rfl (op_load_p tyAgg27 rfl rfl rfl rfl) (Oc rfl (op_store_p tyAgg27 rfl rfl rfl rfl (Nat.le_of_ble_eq_true rfl) rfl) (Oc rfl (op_assign rfl) ?_))
     refine OpsL.nilS ⟨[(2, Pt 101 0), (3, I 0)], [(101, .box 27 (eFrc x_8))]⟩ rfl ?_
     refine Tri.ret ?_
     obtain rfl := Option.some.inj h
     refine Fin.keepS ⟨[(2, Pt 101 0), (3, I 0)], [(101, .box 27 (eFrc x_8))]⟩ rfl ?_
     refine Fin.result' [.agg (eFrc x_8), .one (.i 0)] (.inl rfl) rfl (.cons (.agg tyAgg27 rfl rfl rfl rfl) (.cons (.tmp rfl) .nil)) ⟨rfl, rfl⟩
def ratio_Valid_S (F : Nat) (x0 : Frc) : Option Bool :=
 Option.bind (ratio_Bad_S F) (fun x_1 => Option.bind (gcall (!(decide (x0 = x_1))) (ratio_Good_S F x0)) (fun x_2 => some ((decide (x0 = x_1)) || x_2)))
theorem ratio_Valid_spec {F : Nat} {x0 : Frc} {r : Bool} (h : ratio_Valid_S F x0 = some r) : Meets Tryz.prog (tabs mx) 24 [] [.agg (eFrc x0)] (Is [] (.b (.one (.bool r)))) := by
 unfold ratio_Valid_S at h
 refine Meets.intro 10 Tryz.func24 Tryz.ntmps24 rfl (by simp) fun E => ?_
 show Tri _ E ⟨10, [], []⟩ _ ⟨[(0, .b (.agg (eFrc x0)))], []⟩ _
 refine Tri.seq (Tri.regionL ?_)
 refine Oc rfl (op_box (k := 101) rfl rfl) (Oc rfl (op_assign rfl) ?_)
 refine OpsL.nilS ⟨[(1, Pt 101 0)], [(101, .box 27 (eFrc x0))]⟩ rfl ?_
 refine Tri.seq ?_
 refine Tri.keepS ⟨[(1, Pt 101 0)], [(101, .box 27 (eFrc x0))]⟩ rfl ?_
 obtain ⟨x_1, e1, h⟩ := bnd h
 obtain ⟨x_2, e4, h⟩ := bnd h
 refine Tri.regionY mixed 8 [.b (.agg (eFrc x0)), .b (.agg (eFrc x_1)), B (decide (x0 = x_1)), B (decide (x0 = x_1)), .opt (!(decide (x0 = x_1))) (.agg (eFrc x0)), .opt (!(decide (x0 = x_1))) (.one (.bool x_2)), B ((decide (x0 = x_1)) || x_2), B ((decide (x0 = x_1)) || x_2)] [2] [] (s' := ⟨[(2, B ((decide (x0 = x_1)) || x_2))], []⟩) rfl ⟨fun _ => .plain rfl (op_load_p tyAgg27 rfl rfl rfl rfl), fun _ => .plain rfl (op_call0 (ratio_Bad_spec e1) goes27 rfl rfl), fun _ => .plain rfl (op_eql_agg (eqAgg27 x0 x_1) rfl rfl), fun _ => .plain rfl (op_move rfl), fun _ => by exact .guard (!(decide (x0 = x_1))) 1 [] (.plain rfl) (eq_f _) rfl rfl (fun g2 => trivial) (fun g2 => op_load_p tyAgg27 rfl rfl rfl rfl), fun _ => by exact .guard (!(decide (x0 = x_1))) 3 [7] (.plain rfl) (eq_f _) rfl rfl (fun g3 => ⟨g3, trivial⟩) (fun g3 => op_call0 (ratio_Good_spec (gc e4 g3)) goes26 rfl rfl), fun _ => .plain rfl (op_pick_or (fun e => by rw [e]; rfl) rfl rfl rfl rfl), fun _ => .plain rfl (op_assign rfl), trivial⟩ rfl rfl ?_
 refine Tri.ret ?_
 obtain rfl := Option.some.inj h
 refine Fin.keepS ⟨[(2, B ((decide (x0 = x_1)) || x_2))], []⟩ rfl ?_
 refine Fin.result' [.one (.bool ((decide (x0 = x_1)) || x_2))] (.inl rfl) rfl (.cons (.tmp rfl) .nil) ⟨rfl, rfl⟩
end Go.Proofs.YtdjnlmmhbeeihaaGreatDoor

