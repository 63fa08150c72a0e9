/- printed walks -/
import Derived.Test.YtcbbilehdaaffaaGreatDoorW1
namespace Go.Proofs.YtcbbilehdaaffaaGreatDoor
open Go.Sk
set_option maxHeartbeats 1000000
set_option maxRecDepth 4000
set_option linter.unusedSimpArgs false
set_option linter.unusedVariables false
variable {mx : Int}
def q_Add_S (F : Nat) (x0 : Frc) (y0 : Frc) : Option Frc :=
 (q_Good_S F x0).bind fun x_1 => (gcall (!(!x_1)) (q_Good_S F y0)).bind fun x_2 => if ((!x_1) || (!x_2)) = true then ((q_Bad_S F).bind fun x_3 => some x_3) else ((w_Gcd_S F x0.D y0.D).bind fun x_4 => (w_Quo_S F x0.D x_4).bind fun x_5 => (w_Quo_S F y0.D x_4).bind fun x_6 => (w_Mul_S F x0.N x_6).bind fun x_7 => (w_Mul_S F y0.N x_5).bind fun x_8 => (w_Add_S F x_7 x_8).bind fun x_9 => (w_Mul_S F x_5 y0.D).bind fun x_10 => (q_Make_S F x_9 x_10).bind fun x_11 => some x_11)
theorem q_Add_spec {F : Nat} {x0 : Frc} {y0 : Frc} {r : Frc} (h : q_Add_S F x0 y0 = some r) : Meets Tryz.prog (tabs mx) 22 [] [.agg (eFrc x0), .agg (eFrc y0)] (Is [] (.b (.agg (eFrc r)))) := by
 unfold q_Add_S at h
 refine Meets.intro 44 Tryz.func22 Tryz.ntmps22 rfl (by simp) fun E => ?_
 show Tri _ E ⟨44, [], []⟩ _ ⟨[(0, .b (.agg (eFrc x0))), (1, .b (.agg (eFrc y0)))], []⟩ _
 refine Tri.seq (Tri.regionL ?_)
 refine Oc (op_box (k := 101) rfl rfl) (Oc (op_box (k := 102) rfl rfl) (Oc (op_alloc (k := 103) tyZero27 rfl) ?_))
 refine OpsL.nilS ⟨[(2, Pt 101 0), (3, Pt 102 0), (4, Pt 103 0)], [(101, .box 27 (eFrc x0)), (102, .box 27 (eFrc y0)), (103, .box 27 zFrc)]⟩ rfl (Tri.seq (Tri.seq (Tri.regionL ?_)))
 refine Oc (lp tyAgg27) ?_
 obtain ⟨x_1, e1, h⟩ := bnd h
 refine Oc (op_call0 (q_Good_spec e1) goes62 rfl rfl) (Oc (op_not rfl) (Oc om ?_))
 refine CgF (!(!x_1)) [] (fun g2 => trivial) (fun g2 => lp tyAgg27) (OpsL.keepS ⟨[(2, _), (3, _), (4, _), (11, B (!x_1)), (12, .opt (!(!x_1)) (.agg (eFrc y0)))], [(101, _), (102, _), (103, _)]⟩ rfl ?_)
 obtain ⟨x_2, e4, h⟩ := bnd h
 refine CgF (!(!x_1)) [12] (fun g3 => ⟨g3, trivial⟩) (fun g3 => op_call0 (q_Good_spec (gc e4 g3)) goes62 rfl rfl) (CgF (!(!x_1)) [13] (fun g5 => ⟨g5, trivial⟩) (fun g5 => op_not rfl) (Oc (op_pick_or (fun e => by rw [e]; rfl) rfl rfl rfl rfl) (OpsL.nilS ⟨[(2, _), (3, _), (4, _), (15, B ((!x_1) || (!x_2)))], [(101, _), (102, _), (103, _)]⟩ rfl (Tri.ite h rfl (fun _ h => ?_) (fun _ h => ?_)))))
 ·refine Tri.seq (Tri.regionL ?_)
  obtain ⟨x_3, e6, h⟩ := bnd h
  refine Oc (op_call0 (q_Bad_spec e6) goes75 rfl rfl) (Oc (op_store_p tyAgg27 rfl rfl rfl rfl (Nat.le_of_ble_eq_true rfl) rfl) ?_)
  refine OpsL.nilS ⟨[(4, _)], [(103, .box 27 (eFrc x_3))]⟩ rfl (Tri.ret (Fin.then_ret ?_))
  obtain rfl := Option.some.inj h
  refine Fin.keepS ⟨[(4, _)], [(103, _)]⟩ rfl (Fin.result' [.agg (eFrc x_3)] (.inl rfl) rfl (.cons (.agg tyAgg27 rfl rfl rfl rfl) .nil) ⟨rfl, rfl⟩)
 ·refine Tri.skip (Fin.keepS ⟨[(2, _), (3, _), (4, _)], [(101, _), (102, _), (103, _)]⟩ rfl (Fin.then (Tri.seq (Tri.regionL ?_))))
  refine Oc (op_field_p tyFld27_1 rfl rfl) (Oc (lp tyAgg25) (Oc (op_field_p tyFld27_1 rfl rfl) (Oc (lp tyAgg25) ?_)))
  obtain ⟨x_4, e7, h⟩ := bnd h
  refine Oc (op_call0 (w_Gcd_spec e7) goes77 rfl rfl) (Oc (op_alloc (k := 104) tyZero25 rfl) (Oc (op_store_p tyAgg25 rfl rfl rfl rfl (Nat.le_of_ble_eq_true rfl) rfl) ?_))
  refine OpsL.nilS ⟨[(2, _), (3, _), (4, _), (5, Pt 104 0)], [(101, _), (102, _), (103, _), (104, .box 25 (eBig x_4))]⟩ rfl (Tri.seq ?_)
  obtain ⟨x_5, e8, h⟩ := bnd h
  obtain ⟨x_6, e9, h⟩ := bnd h
  refine Tri.regionW mixed [false, false, false, false, false, false, false, false, true, true, true, true] [Pt 101 18, .b (.agg (eBig x0.D)), .b (.agg (eBig x_4)), .b (.agg (eBig x_5)), Pt 102 18, .b (.agg (eBig y0.D)), .b (.agg (eBig x_4)), .b (.agg (eBig x_6)), Pt 105 0, Pt 106 0, B true, B true] [⟨[false, false, false, false, false, false, false, false, false, false, false, false], [(2, Pt 101 0), (3, Pt 102 0), (4, Pt 103 0), (5, Pt 104 0)], [(101, .box 27 (eFrc x0)), (102, .box 27 (eFrc y0)), (103, .box 27 zFrc), (104, .box 25 (eBig x_4))], [true, true, true, true, true, true, true, true, true, true, true, true], []⟩, ⟨[false, false, false, false, false, false, false, false, true, false, false, false], [(2, Pt 101 0), (3, Pt 102 0), (4, Pt 103 0), (5, Pt 104 0)], [(101, .box 27 (eFrc x0)), (102, .box 27 (eFrc y0)), (103, .box 27 zFrc), (104, .box 25 (eBig x_4)), (105, .box 25 zBig)], [true, true, true, true, true, true, true, true, true, true, true, true], [8]⟩, ⟨[false, false, false, false, false, false, false, false, false, true, false, false], [(2, Pt 101 0), (3, Pt 102 0), (4, Pt 103 0), (5, Pt 104 0)], [(101, .box 27 (eFrc x0)), (102, .box 27 (eFrc y0)), (103, .box 27 zFrc), (104, .box 25 (eBig x_4)), (106, .box 25 zBig)], [true, true, true, true, true, true, true, true, true, true, true, true], [9]⟩, ⟨[false, false, false, false, false, false, false, false, true, true, false, false], [(2, Pt 101 0), (3, Pt 102 0), (4, Pt 103 0), (5, Pt 104 0)], [(101, .box 27 (eFrc x0)), (102, .box 27 (eFrc y0)), (103, .box 27 zFrc), (104, .box 25 (eBig x_4)), (105, .box 25 zBig), (106, .box 25 zBig)], [true, true, true, true, true, true, true, true, true, true, true, true], [8, 9]⟩, ⟨[false, false, false, false, false, false, false, false, true, true, true, false], [(2, Pt 101 0), (3, Pt 102 0), (4, Pt 103 0), (5, Pt 104 0)], [(101, .box 27 (eFrc x0)), (102, .box 27 (eFrc y0)), (103, .box 27 zFrc), (104, .box 25 (eBig x_4)), (105, .box 25 (eBig x_5)), (106, .box 25 zBig)], [true, true, true, true, true, true, true, true, true, true, true, true], [0, 1, 2, 3, 4, 5, 6, 7, 8, 9, 10]⟩, ⟨[false, false, false, false, false, false, false, false, true, true, true, true], [(2, Pt 101 0), (3, Pt 102 0), (4, Pt 103 0), (5, Pt 104 0)], [(101, .box 27 (eFrc x0)), (102, .box 27 (eFrc y0)), (103, .box 27 zFrc), (104, .box 25 (eBig x_4)), (105, .box 25 (eBig x_5)), (106, .box 25 (eBig x_6))], [true, true, true, true, true, true, true, true, true, true, true, true], [0, 1, 2, 3, 4, 5, 6, 7, 8, 9, 10, 11]⟩] rfl (⟨by kernel_rfl, ⟨⟨Pt 101 18, fun _ => rfl, fun _ => .p (by exact op_field_p tyFld27_1 rfl rfl)⟩, ⟨.b (.agg (eBig x0.D)), fun _ => rfl, fun _ => .p (by exact op_load_p tyAgg25 rfl rfl rfl rfl)⟩, ⟨.b (.agg (eBig x_4)), fun _ => rfl, fun _ => .p (by exact op_load_p tyAgg25 rfl rfl rfl rfl)⟩, ⟨.b (.agg (eBig x_5)), fun _ => rfl, fun _ => .p (by exact op_call0 (w_Quo_spec e8) goes78 rfl rfl)⟩, ⟨Pt 102 18, fun _ => rfl, fun _ => .p (by exact op_field_p tyFld27_1 rfl rfl)⟩, ⟨.b (.agg (eBig y0.D)), fun _ => rfl, fun _ => .p (by exact op_load_p tyAgg25 rfl rfl rfl rfl)⟩, ⟨.b (.agg (eBig x_4)), fun _ => rfl, fun _ => .p (by exact op_load_p tyAgg25 rfl rfl rfl rfl)⟩, ⟨.b (.agg (eBig x_6)), fun _ => rfl, fun _ => .p (by exact op_call0 (w_Quo_spec e9) goes78 rfl rfl)⟩, ⟨_, some 105, Pt 105 0, rfl, fun _ => rfl, rfl, rfl, fun _ => .toO [101, 102, 103, 104, 105] (by exact .p (by exact op_alloc (k := 105) tyZero25 rfl)) (by exact rfl)⟩, ⟨_, some 106, Pt 106 0, rfl, fun _ => rfl, rfl, rfl, fun _ => .toO [101, 102, 103, 104, 106] (by exact .p (by exact op_alloc (k := 106) tyZero25 rfl)) (by exact rfl)⟩, trivial, trivial, trivial⟩, ⟨by kernel_rfl, ⟨⟨Pt 101 18, fun _ => rfl, fun _ => .p (by exact op_field_p tyFld27_1 rfl rfl)⟩, ⟨.b (.agg (eBig x0.D)), fun _ => rfl, fun _ => .p (by exact op_load_p tyAgg25 rfl rfl rfl rfl)⟩, ⟨.b (.agg (eBig x_4)), fun _ => rfl, fun _ => .p (by exact op_load_p tyAgg25 rfl rfl rfl rfl)⟩, ⟨.b (.agg (eBig x_5)), fun _ => rfl, fun _ => .p (by exact op_call0 (w_Quo_spec e8) goes78 rfl rfl)⟩, ⟨Pt 102 18, fun _ => rfl, fun _ => .p (by exact op_field_p tyFld27_1 rfl rfl)⟩, ⟨.b (.agg (eBig y0.D)), fun _ => rfl, fun _ => .p (by exact op_load_p tyAgg25 rfl rfl rfl rfl)⟩, ⟨.b (.agg (eBig x_4)), fun _ => rfl, fun _ => .p (by exact op_load_p tyAgg25 rfl rfl rfl rfl)⟩, ⟨.b (.agg (eBig x_6)), fun _ => rfl, fun _ => .p (by exact op_call0 (w_Quo_spec e9) goes78 rfl rfl)⟩, trivial, ⟨_, some 106, Pt 106 0, rfl, fun _ => rfl, rfl, rfl, fun _ => .toO [101, 102, 103, 104, 105, 106] (by exact .p (by exact op_alloc (k := 106) tyZero25 rfl)) (by exact rfl)⟩, trivial, trivial, trivial⟩, ⟨by kernel_rfl, ⟨⟨Pt 101 18, fun _ => rfl, fun _ => .p (by exact op_field_p tyFld27_1 rfl rfl)⟩, ⟨.b (.agg (eBig x0.D)), fun _ => rfl, fun _ => .p (by exact op_load_p tyAgg25 rfl rfl rfl rfl)⟩, ⟨.b (.agg (eBig x_4)), fun _ => rfl, fun _ => .p (by exact op_load_p tyAgg25 rfl rfl rfl rfl)⟩, ⟨.b (.agg (eBig x_5)), fun _ => rfl, fun _ => .p (by exact op_call0 (w_Quo_spec e8) goes78 rfl rfl)⟩, ⟨Pt 102 18, fun _ => rfl, fun _ => .p (by exact op_field_p tyFld27_1 rfl rfl)⟩, ⟨.b (.agg (eBig y0.D)), fun _ => rfl, fun _ => .p (by exact op_load_p tyAgg25 rfl rfl rfl rfl)⟩, ⟨.b (.agg (eBig x_4)), fun _ => rfl, fun _ => .p (by exact op_load_p tyAgg25 rfl rfl rfl rfl)⟩, ⟨.b (.agg (eBig x_6)), fun _ => rfl, fun _ => .p (by exact op_call0 (w_Quo_spec e9) goes78 rfl rfl)⟩, ⟨_, some 105, Pt 105 0, rfl, fun _ => rfl, rfl, rfl, fun _ => .toO [101, 102, 103, 104, 105, 106] (by exact .p (by exact op_alloc (k := 105) tyZero25 rfl)) (by exact rfl)⟩, trivial, trivial, trivial, trivial⟩, ⟨by kernel_rfl, ⟨⟨Pt 101 18, fun _ => rfl, fun _ => .p (by exact op_field_p tyFld27_1 rfl rfl)⟩, ⟨.b (.agg (eBig x0.D)), fun _ => rfl, fun _ => .p (by exact op_load_p tyAgg25 rfl rfl rfl rfl)⟩, ⟨.b (.agg (eBig x_4)), fun _ => rfl, fun _ => .p (by exact op_load_p tyAgg25 rfl rfl rfl rfl)⟩, ⟨.b (.agg (eBig x_5)), fun _ => rfl, fun _ => .p (by exact op_call0 (w_Quo_spec e8) goes78 rfl rfl)⟩, ⟨Pt 102 18, fun _ => rfl, fun _ => .p (by exact op_field_p tyFld27_1 rfl rfl)⟩, ⟨.b (.agg (eBig y0.D)), fun _ => rfl, fun _ => .p (by exact op_load_p tyAgg25 rfl rfl rfl rfl)⟩, ⟨.b (.agg (eBig x_4)), fun _ => rfl, fun _ => .p (by exact op_load_p tyAgg25 rfl rfl rfl rfl)⟩, ⟨.b (.agg (eBig x_6)), fun _ => rfl, fun _ => .p (by exact op_call0 (w_Quo_spec e9) goes78 rfl rfl)⟩, trivial, trivial, ⟨_, none, .b (.one .any), rfl, (fun e => by simp at e), rfl, rfl, fun _ => .toO [101, 102, 103, 104, 105, 106] (by exact .p (by exact op_store_p tyAgg25 rfl rfl rfl rfl (Nat.le_of_ble_eq_true rfl) rfl)) (by exact rfl)⟩, trivial, trivial⟩, ⟨by kernel_rfl, ⟨trivial, trivial, trivial, trivial, trivial, trivial, trivial, trivial, trivial, trivial, trivial, ⟨_, none, .b (.one .any), rfl, (fun e => by simp at e), rfl, rfl, fun _ => .toO [101, 102, 103, 104, 105, 106] (by exact .p (by exact op_store_p tyAgg25 rfl rfl rfl rfl (Nat.le_of_ble_eq_true rfl) rfl)) (by exact rfl)⟩, trivial⟩, ⟨by kernel_rfl, ⟨trivial, trivial, trivial, trivial, trivial, trivial, trivial, trivial, trivial, trivial, trivial, trivial, trivial⟩, trivial⟩⟩⟩⟩⟩⟩) rfl rfl rfl [2, 3, 4, 6, 7] [101, 102, 103, 105, 106] (s' := ⟨[(2, _), (3, _), (4, _), (6, Pt 105 0), (7, Pt 106 0)], [(101, _), (102, _), (103, _), (105, .box 25 (eBig x_5)), (106, .box 25 (eBig x_6))]⟩) rfl ?_
  refine Tri.seq (Tri.keepS ⟨[(2, _), (3, _), (4, _), (6, _), (7, _)], [(101, _), (102, _), (103, _), (105, _), (106, _)]⟩ rfl ?_)
  obtain ⟨x_7, e10, h⟩ := bnd h
  obtain ⟨x_8, e11, h⟩ := bnd h
  obtain ⟨x_9, e12, h⟩ := bnd h
  obtain ⟨x_10, e13, h⟩ := bnd h
  obtain ⟨x_11, e14, h⟩ := bnd h
  refine Tri.regionY mixed 14 [Pt 101 0, .b (.agg (eBig x0.N)), .b (.agg (eBig x_6)), .b (.agg (eBig x_7)), Pt 102 0, .b (.agg (eBig y0.N)), .b (.agg (eBig x_5)), .b (.agg (eBig x_8)), .b (.agg (eBig x_9)), .b (.agg (eBig x_5)), Pt 102 18, .b (.agg (eBig y0.D)), .b (.agg (eBig x_10)), .b (.agg (eFrc x_11))] [4] [103] (s' := ⟨[(4, _)], [(103, .box 27 (eFrc x_11))]⟩) rfl ⟨fun _ => .p (op_field_p tyFld27_0 rfl rfl), fun _ => .p (lp tyAgg25), fun _ => .p (lp tyAgg25), fun _ => .p (op_call0 (w_Mul_spec e10) goes80 rfl rfl), fun _ => .p (op_field_p tyFld27_0 rfl rfl), fun _ => .p (lp tyAgg25), fun _ => .p (lp tyAgg25), fun _ => .p (op_call0 (w_Mul_spec e11) goes80 rfl rfl), fun _ => .p (op_call0 (w_Add_spec e12) goes79 rfl rfl), fun _ => .p (lp tyAgg25), fun _ => .p (op_field_p tyFld27_1 rfl rfl), fun _ => .p (lp tyAgg25), fun _ => .p (op_call0 (w_Mul_spec e13) goes80 rfl rfl), fun _ => .p (op_call0 (q_Make_spec e14) goes76 rfl rfl), trivial⟩ ⟨_, by exact .p (op_store_p tyAgg27 rfl rfl rfl rfl (Nat.le_of_ble_eq_true rfl) rfl), rfl⟩ rfl (Tri.ret ?_)
  obtain rfl := Option.some.inj h
  refine Fin.keepS ⟨[(4, _)], [(103, _)]⟩ rfl (Fin.result' [.agg (eFrc x_11)] (.inl rfl) rfl (.cons (.agg tyAgg27 rfl rfl rfl rfl) .nil) ⟨rfl, rfl⟩)
def q_Neg_S (F : Nat) (x0 : Frc) : Option Frc :=
 (q_Good_S F x0).bind fun x_1 => if (!x_1) = true then ((q_Bad_S F).bind fun x_2 => some x_2) else ((w_Neg_S F x0.N).bind fun x_3 => some (⟨x_3, x0.D⟩ : Frc))
theorem q_Neg_spec {F : Nat} {x0 : Frc} {r : Frc} (h : q_Neg_S F x0 = some r) : Meets Tryz.prog (tabs mx) 24 [] [.agg (eFrc x0)] (Is [] (.b (.agg (eFrc r)))) := by
 unfold q_Neg_S at h
 refine Meets.intro 13 Tryz.func24 Tryz.ntmps24 rfl (by simp) fun E => ?_
 show Tri _ E ⟨13, [], []⟩ _ ⟨[(0, .b (.agg (eFrc x0)))], []⟩ _
 refine Tri.seq (Tri.regionL ?_)
 refine Oc (op_box (k := 101) rfl rfl) (Oc (op_alloc (k := 102) tyZero27 rfl) ?_)
 refine OpsL.nilS ⟨[(1, Pt 101 0), (2, Pt 102 0)], [(101, .box 27 (eFrc x0)), (102, .box 27 zFrc)]⟩ rfl (Tri.seq (Tri.seq (Tri.regionL ?_)))
 refine Oc (lp tyAgg27) ?_
 obtain ⟨x_1, e1, h⟩ := bnd h
 refine Oc (op_call0 (q_Good_spec e1) goes62 rfl rfl) (Oc (op_not rfl) ?_)
 refine OpsL.nilS ⟨[(1, _), (2, _), (5, B (!x_1))], [(101, _), (102, _)]⟩ rfl (Tri.ite h rfl (fun _ h => ?_) (fun _ h => ?_))
 ·refine Tri.seq (Tri.regionL ?_)
  obtain ⟨x_2, e2, h⟩ := bnd h
  refine Oc (op_call0 (q_Bad_spec e2) goes75 rfl rfl) (Oc (op_store_p tyAgg27 rfl rfl rfl rfl (Nat.le_of_ble_eq_true rfl) rfl) ?_)
  refine OpsL.nilS ⟨[(2, _)], [(102, .box 27 (eFrc x_2))]⟩ rfl (Tri.ret (Fin.then_ret ?_))
  obtain rfl := Option.some.inj h
  refine Fin.keepS ⟨[(2, _)], [(102, _)]⟩ rfl (Fin.result' [.agg (eFrc x_2)] (.inl rfl) rfl (.cons (.agg tyAgg27 rfl rfl rfl rfl) .nil) ⟨rfl, rfl⟩)
 ·refine Tri.skip (Fin.keepS ⟨[(1, _), (2, _)], [(101, _), (102, _)]⟩ rfl (Fin.then (Tri.seq ?_)))
  refine Tri.keepS ⟨[(1, _), (2, _)], [(101, _), (102, _)]⟩ rfl ?_
  obtain ⟨x_3, e3, h⟩ := bnd h
  refine Tri.regionY mixed 6 [Pt 101 0, .b (.agg (eBig x0.N)), .b (.agg (eBig x_3)), Pt 101 18, .b (.agg (eBig x0.D)), .b (.agg (eBig x_3 ++ (eBig x0.D)))] [2] [102] (s' := ⟨[(2, _)], [(102, .box 27 (eBig x_3 ++ (eBig x0.D)))]⟩) rfl ⟨fun _ => .p (op_field_p tyFld27_0 rfl rfl), fun _ => .p (lp tyAgg25), fun _ => .p (op_call0 (w_Neg_spec e3) goes81 rfl rfl), fun _ => .p (op_field_p tyFld27_1 rfl rfl), fun _ => .p (lp tyAgg25), fun _ => .p (op_build tyBuild27 rfl rfl), trivial⟩ ⟨_, by exact .p (op_store_p tyAgg27 rfl rfl rfl rfl (Nat.le_of_ble_eq_true rfl) rfl), rfl⟩ rfl (Tri.ret ?_)
  obtain rfl := Option.some.inj h
  refine Fin.keepS ⟨[(2, _)], [(102, _)]⟩ rfl (Fin.result' [.agg (eBig x_3 ++ (eBig x0.D))] (.inl rfl) rfl (.cons (.agg tyAgg27 rfl rfl rfl rfl) .nil) ⟨rfl, rfl⟩)
def q_Sub_S (F : Nat) (x0 : Frc) (y0 : Frc) : Option Frc :=
 (q_Neg_S F y0).bind fun x_1 => (q_Add_S F x0 x_1).bind fun x_2 => some x_2
theorem q_Sub_spec {F : Nat} {x0 : Frc} {y0 : Frc} {r : Frc} (h : q_Sub_S F x0 y0 = some r) : Meets Tryz.prog (tabs mx) 94 [] [.agg (eFrc x0), .agg (eFrc y0)] (Is [] (.b (.agg (eFrc r)))) := by
 unfold q_Sub_S at h
 refine Meets.intro 9 Tryz.func94 Tryz.ntmps94 rfl (by simp) fun E => ?_
 show Tri _ E ⟨9, [], []⟩ _ ⟨[(0, .b (.agg (eFrc x0))), (1, .b (.agg (eFrc y0)))], []⟩ _
 refine Tri.seq (Tri.regionL ?_)
 refine Oc (op_box (k := 101) rfl rfl) (Oc (op_box (k := 102) rfl rfl) (Oc (op_alloc (k := 103) tyZero27 rfl) ?_))
 refine OpsL.nilS ⟨[(2, Pt 101 0), (3, Pt 102 0), (4, Pt 103 0)], [(101, .box 27 (eFrc x0)), (102, .box 27 (eFrc y0)), (103, .box 27 zFrc)]⟩ rfl (Tri.seq ?_)
 obtain ⟨x_1, e1, h⟩ := bnd h
 obtain ⟨x_2, e2, h⟩ := bnd h
 refine Tri.regionY mixed 4 [.b (.agg (eFrc x0)), .b (.agg (eFrc y0)), .b (.agg (eFrc x_1)), .b (.agg (eFrc x_2))] [4] [103] (s' := ⟨[(4, _)], [(103, .box 27 (eFrc x_2))]⟩) rfl ⟨fun _ => .p (lp tyAgg27), fun _ => .p (lp tyAgg27), fun _ => .p (op_call0 (q_Neg_spec e1) goes24 rfl rfl), fun _ => .p (op_call0 (q_Add_spec e2) goes22 rfl rfl), trivial⟩ ⟨_, by exact .p (op_store_p tyAgg27 rfl rfl rfl rfl (Nat.le_of_ble_eq_true rfl) rfl), rfl⟩ rfl (Tri.ret ?_)
 obtain rfl := Option.some.inj h
 refine Fin.keepS ⟨[(4, _)], [(103, _)]⟩ rfl (Fin.result' [.agg (eFrc x_2)] (.inl rfl) rfl (.cons (.agg tyAgg27 rfl rfl rfl rfl) .nil) ⟨rfl, rfl⟩)
def q_Mul_S (F : Nat) (x0 : Frc) (y0 : Frc) : Option Frc :=
 (q_Good_S F x0).bind fun x_1 => (gcall (!(!x_1)) (q_Good_S F y0)).bind fun x_2 => if ((!x_1) || (!x_2)) = true then ((q_Bad_S F).bind fun x_3 => some x_3) else ((q_Make_S F x0.N y0.D).bind fun x_4 => (q_Make_S F y0.N x0.D).bind fun x_5 => (w_Mul_S F x_4.N x_5.N).bind fun x_6 => (w_Mul_S F x_4.D x_5.D).bind fun x_7 => if (x_6.Bad || x_7.Bad) = true then ((q_Bad_S F).bind fun x_8 => some x_8) else (some (⟨x_6, x_7⟩ : Frc)))
theorem q_Mul_spec {F : Nat} {x0 : Frc} {y0 : Frc} {r : Frc} (h : q_Mul_S F x0 y0 = some r) : Meets Tryz.prog (tabs mx) 25 [] [.agg (eFrc x0), .agg (eFrc y0)] (Is [] (.b (.agg (eFrc r)))) := by
 unfold q_Mul_S at h
 refine Meets.intro 48 Tryz.func25 Tryz.ntmps25 rfl (by simp) fun E => ?_
 show Tri _ E ⟨48, [], []⟩ _ ⟨[(0, .b (.agg (eFrc x0))), (1, .b (.agg (eFrc y0)))], []⟩ _
 refine Tri.seq (Tri.regionL ?_)
 refine Oc (op_box (k := 101) rfl rfl) (Oc (op_box (k := 102) rfl rfl) (Oc (op_alloc (k := 103) tyZero27 rfl) ?_))
 refine OpsL.nilS ⟨[(2, Pt 101 0), (3, Pt 102 0), (4, Pt 103 0)], [(101, .box 27 (eFrc x0)), (102, .box 27 (eFrc y0)), (103, .box 27 zFrc)]⟩ rfl (Tri.seq (Tri.seq (Tri.regionL ?_)))
 refine Oc (lp tyAgg27) ?_
 obtain ⟨x_1, e1, h⟩ := bnd h
 refine Oc (op_call0 (q_Good_spec e1) goes62 rfl rfl) (Oc (op_not rfl) (Oc om ?_))
 refine CgF (!(!x_1)) [] (fun g2 => trivial) (fun g2 => lp tyAgg27) (OpsL.keepS ⟨[(2, _), (3, _), (4, _), (12, B (!x_1)), (13, .opt (!(!x_1)) (.agg (eFrc y0)))], [(101, _), (102, _), (103, _)]⟩ rfl ?_)
 obtain ⟨x_2, e4, h⟩ := bnd h
 refine CgF (!(!x_1)) [13] (fun g3 => ⟨g3, trivial⟩) (fun g3 => op_call0 (q_Good_spec (gc e4 g3)) goes62 rfl rfl) (CgF (!(!x_1)) [14] (fun g5 => ⟨g5, trivial⟩) (fun g5 => op_not rfl) (Oc (op_pick_or (fun e => by rw [e]; rfl) rfl rfl rfl rfl) (OpsL.nilS ⟨[(2, _), (3, _), (4, _), (16, B ((!x_1) || (!x_2)))], [(101, _), (102, _), (103, _)]⟩ rfl (Tri.ite h rfl (fun _ h => ?_) (fun _ h => ?_)))))
 ·refine Tri.seq (Tri.regionL ?_)
  obtain ⟨x_3, e6, h⟩ := bnd h
  refine Oc (op_call0 (q_Bad_spec e6) goes75 rfl rfl) (Oc (op_store_p tyAgg27 rfl rfl rfl rfl (Nat.le_of_ble_eq_true rfl) rfl) ?_)
  refine OpsL.nilS ⟨[(4, _)], [(103, .box 27 (eFrc x_3))]⟩ rfl (Tri.ret (Fin.then_ret ?_))
  obtain rfl := Option.some.inj h
  refine Fin.keepS ⟨[(4, _)], [(103, _)]⟩ rfl (Fin.result' [.agg (eFrc x_3)] (.inl rfl) rfl (.cons (.agg tyAgg27 rfl rfl rfl rfl) .nil) ⟨rfl, rfl⟩)
 ·refine Tri.skip (Fin.keepS ⟨[(2, _), (3, _), (4, _)], [(101, _), (102, _), (103, _)]⟩ rfl (Fin.then (Tri.seq ?_)))
  refine Tri.keepS ⟨[(2, _), (3, _), (4, _)], [(101, _), (102, _), (103, _)]⟩ rfl ?_
  obtain ⟨x_4, e7, h⟩ := bnd h
  obtain ⟨x_5, e8, h⟩ := bnd h
  refine Tri.regionW mixed [false, false, false, false, false, false, false, false, false, false, true, true, true, true] [Pt 101 0, .b (.agg (eBig x0.N)), Pt 102 18, .b (.agg (eBig y0.D)), .b (.agg (eFrc x_4)), Pt 102 0, .b (.agg (eBig y0.N)), Pt 101 18, .b (.agg (eBig x0.D)), .b (.agg (eFrc x_5)), Pt 104 0, Pt 105 0, B true, B true] [⟨[false, false, false, false, false, false, false, false, false, false, false, false, false, false], [(2, Pt 101 0), (3, Pt 102 0), (4, Pt 103 0)], [(101, .box 27 (eFrc x0)), (102, .box 27 (eFrc y0)), (103, .box 27 zFrc)], [true, true, true, true, true, true, true, true, true, true, true, true, true, true], []⟩, ⟨[false, false, false, false, false, false, false, false, false, false, true, false, false, false], [(2, Pt 101 0), (3, Pt 102 0), (4, Pt 103 0)], [(101, .box 27 (eFrc x0)), (102, .box 27 (eFrc y0)), (103, .box 27 zFrc), (104, .box 27 zFrc)], [true, true, true, true, true, true, true, true, true, true, true, true, true, true], [10]⟩, ⟨[false, false, false, false, false, false, false, false, false, false, false, true, false, false], [(2, Pt 101 0), (3, Pt 102 0), (4, Pt 103 0)], [(101, .box 27 (eFrc x0)), (102, .box 27 (eFrc y0)), (103, .box 27 zFrc), (105, .box 27 zFrc)], [true, true, true, true, true, true, true, true, true, true, true, true, true, true], [11]⟩, ⟨[false, false, false, false, false, false, false, false, false, false, true, true, false, false], [(2, Pt 101 0), (3, Pt 102 0), (4, Pt 103 0)], [(101, .box 27 (eFrc x0)), (102, .box 27 (eFrc y0)), (103, .box 27 zFrc), (104, .box 27 zFrc), (105, .box 27 zFrc)], [true, true, true, true, true, true, true, true, true, true, true, true, true, true], [10, 11]⟩, ⟨[false, false, false, false, false, false, false, false, false, false, true, true, true, false], [(2, Pt 101 0), (3, Pt 102 0), (4, Pt 103 0)], [(101, .box 27 (eFrc x0)), (102, .box 27 (eFrc y0)), (103, .box 27 zFrc), (104, .box 27 (eFrc x_4)), (105, .box 27 zFrc)], [true, true, true, true, true, true, true, true, true, true, true, true, true, true], [0, 1, 2, 3, 4, 5, 6, 7, 8, 9, 10, 11, 12]⟩, ⟨[false, false, false, false, false, false, false, false, false, false, true, true, true, true], [(2, Pt 101 0), (3, Pt 102 0), (4, Pt 103 0)], [(101, .box 27 (eFrc x0)), (102, .box 27 (eFrc y0)), (103, .box 27 zFrc), (104, .box 27 (eFrc x_4)), (105, .box 27 (eFrc x_5))], [true, true, true, true, true, true, true, true, true, true, true, true, true, true], [0, 1, 2, 3, 4, 5, 6, 7, 8, 9, 10, 11, 12, 13]⟩] rfl (⟨by kernel_rfl, ⟨⟨Pt 101 0, fun _ => rfl, fun _ => .p (by exact op_field_p tyFld27_0 rfl rfl)⟩, ⟨.b (.agg (eBig x0.N)), fun _ => rfl, fun _ => .p (by exact op_load_p tyAgg25 rfl rfl rfl rfl)⟩, ⟨Pt 102 18, fun _ => rfl, fun _ => .p (by exact op_field_p tyFld27_1 rfl rfl)⟩, ⟨.b (.agg (eBig y0.D)), fun _ => rfl, fun _ => .p (by exact op_load_p tyAgg25 rfl rfl rfl rfl)⟩, ⟨.b (.agg (eFrc x_4)), fun _ => rfl, fun _ => .p (by exact op_call0 (q_Make_spec e7) goes76 rfl rfl)⟩, ⟨Pt 102 0, fun _ => rfl, fun _ => .p (by exact op_field_p tyFld27_0 rfl rfl)⟩, ⟨.b (.agg (eBig y0.N)), fun _ => rfl, fun _ => .p (by exact op_load_p tyAgg25 rfl rfl rfl rfl)⟩, ⟨Pt 101 18, fun _ => rfl, fun _ => .p (by exact op_field_p tyFld27_1 rfl rfl)⟩, ⟨.b (.agg (eBig x0.D)), fun _ => rfl, fun _ => .p (by exact op_load_p tyAgg25 rfl rfl rfl rfl)⟩, ⟨.b (.agg (eFrc x_5)), fun _ => rfl, fun _ => .p (by exact op_call0 (q_Make_spec e8) goes76 rfl rfl)⟩, ⟨_, some 104, Pt 104 0, rfl, fun _ => rfl, rfl, rfl, fun _ => .toO [101, 102, 103, 104] (by exact .p (by exact op_alloc (k := 104) tyZero27 rfl)) (by exact rfl)⟩, ⟨_, some 105, Pt 105 0, rfl, fun _ => rfl, rfl, rfl, fun _ => .toO [101, 102, 103, 105] (by exact .p (by exact op_alloc (k := 105) tyZero27 rfl)) (by exact rfl)⟩, trivial, trivial, trivial⟩, ⟨by kernel_rfl, ⟨⟨Pt 101 0, fun _ => rfl, fun _ => .p (by exact op_field_p tyFld27_0 rfl rfl)⟩, ⟨.b (.agg (eBig x0.N)), fun _ => rfl, fun _ => .p (by exact op_load_p tyAgg25 rfl rfl rfl rfl)⟩, ⟨Pt 102 18, fun _ => rfl, fun _ => .p (by exact op_field_p tyFld27_1 rfl rfl)⟩, ⟨.b (.agg (eBig y0.D)), fun _ => rfl, fun _ => .p (by exact op_load_p tyAgg25 rfl rfl rfl rfl)⟩, ⟨.b (.agg (eFrc x_4)), fun _ => rfl, fun _ => .p (by exact op_call0 (q_Make_spec e7) goes76 rfl rfl)⟩, ⟨Pt 102 0, fun _ => rfl, fun _ => .p (by exact op_field_p tyFld27_0 rfl rfl)⟩, ⟨.b (.agg (eBig y0.N)), fun _ => rfl, fun _ => .p (by exact op_load_p tyAgg25 rfl rfl rfl rfl)⟩, ⟨Pt 101 18, fun _ => rfl, fun _ => .p (by exact op_field_p tyFld27_1 rfl rfl)⟩, ⟨.b (.agg (eBig x0.D)), fun _ => rfl, fun _ => .p (by exact op_load_p tyAgg25 rfl rfl rfl rfl)⟩, ⟨.b (.agg (eFrc x_5)), fun _ => rfl, fun _ => .p (by exact op_call0 (q_Make_spec e8) goes76 rfl rfl)⟩, trivial, ⟨_, some 105, Pt 105 0, rfl, fun _ => rfl, rfl, rfl, fun _ => .toO [101, 102, 103, 104, 105] (by exact .p (by exact op_alloc (k := 105) tyZero27 rfl)) (by exact rfl)⟩, trivial, trivial, trivial⟩, ⟨by kernel_rfl, ⟨⟨Pt 101 0, fun _ => rfl, fun _ => .p (by exact op_field_p tyFld27_0 rfl rfl)⟩, ⟨.b (.agg (eBig x0.N)), fun _ => rfl, fun _ => .p (by exact op_load_p tyAgg25 rfl rfl rfl rfl)⟩, ⟨Pt 102 18, fun _ => rfl, fun _ => .p (by exact op_field_p tyFld27_1 rfl rfl)⟩, ⟨.b (.agg (eBig y0.D)), fun _ => rfl, fun _ => .p (by exact op_load_p tyAgg25 rfl rfl rfl rfl)⟩, ⟨.b (.agg (eFrc x_4)), fun _ => rfl, fun _ => .p (by exact op_call0 (q_Make_spec e7) goes76 rfl rfl)⟩, ⟨Pt 102 0, fun _ => rfl, fun _ => .p (by exact op_field_p tyFld27_0 rfl rfl)⟩, ⟨.b (.agg (eBig y0.N)), fun _ => rfl, fun _ => .p (by exact op_load_p tyAgg25 rfl rfl rfl rfl)⟩, ⟨Pt 101 18, fun _ => rfl, fun _ => .p (by exact op_field_p tyFld27_1 rfl rfl)⟩, ⟨.b (.agg (eBig x0.D)), fun _ => rfl, fun _ => .p (by exact op_load_p tyAgg25 rfl rfl rfl rfl)⟩, ⟨.b (.agg (eFrc x_5)), fun _ => rfl, fun _ => .p (by exact op_call0 (q_Make_spec e8) goes76 rfl rfl)⟩, ⟨_, some 104, Pt 104 0, rfl, fun _ => rfl, rfl, rfl, fun _ => .toO [101, 102, 103, 104, 105] (by exact .p (by exact op_alloc (k := 104) tyZero27 rfl)) (by exact rfl)⟩, trivial, trivial, trivial, trivial⟩, ⟨by kernel_rfl, ⟨⟨Pt 101 0, fun _ => rfl, fun _ => .p (by exact op_field_p tyFld27_0 rfl rfl)⟩, ⟨.b (.agg (eBig x0.N)), fun _ => rfl, fun _ => .p (by exact op_load_p tyAgg25 rfl rfl rfl rfl)⟩, ⟨Pt 102 18, fun _ => rfl, fun _ => .p (by exact op_field_p tyFld27_1 rfl rfl)⟩, ⟨.b (.agg (eBig y0.D)), fun _ => rfl, fun _ => .p (by exact op_load_p tyAgg25 rfl rfl rfl rfl)⟩, ⟨.b (.agg (eFrc x_4)), fun _ => rfl, fun _ => .p (by exact op_call0 (q_Make_spec e7) goes76 rfl rfl)⟩, ⟨Pt 102 0, fun _ => rfl, fun _ => .p (by exact op_field_p tyFld27_0 rfl rfl)⟩, ⟨.b (.agg (eBig y0.N)), fun _ => rfl, fun _ => .p (by exact op_load_p tyAgg25 rfl rfl rfl rfl)⟩, ⟨Pt 101 18, fun _ => rfl, fun _ => .p (by exact op_field_p tyFld27_1 rfl rfl)⟩, ⟨.b (.agg (eBig x0.D)), fun _ => rfl, fun _ => .p (by exact op_load_p tyAgg25 rfl rfl rfl rfl)⟩, ⟨.b (.agg (eFrc x_5)), fun _ => rfl, fun _ => .p (by exact op_call0 (q_Make_spec e8) goes76 rfl rfl)⟩, trivial, trivial, ⟨_, none, .b (.one .any), rfl, (fun e => by simp at e), rfl, rfl, fun _ => .toO [101, 102, 103, 104, 105] (by exact .p (by exact op_store_p tyAgg27 rfl rfl rfl rfl (Nat.le_of_ble_eq_true rfl) rfl)) (by exact rfl)⟩, trivial, trivial⟩, ⟨by kernel_rfl, ⟨trivial, trivial, trivial, trivial, trivial, trivial, trivial, trivial, trivial, trivial, trivial, trivial, trivial, ⟨_, none, .b (.one .any), rfl, (fun e => by simp at e), rfl, rfl, fun _ => .toO [101, 102, 103, 104, 105] (by exact .p (by exact op_store_p tyAgg27 rfl rfl rfl rfl (Nat.le_of_ble_eq_true rfl) rfl)) (by exact rfl)⟩, trivial⟩, ⟨by kernel_rfl, ⟨trivial, trivial, trivial, trivial, trivial, trivial, trivial, trivial, trivial, trivial, trivial, trivial, trivial, trivial, trivial⟩, trivial⟩⟩⟩⟩⟩⟩) rfl rfl rfl [4, 5, 6] [103, 104, 105] (s' := ⟨[(4, _), (5, Pt 104 0), (6, Pt 105 0)], [(103, _), (104, .box 27 (eFrc x_4)), (105, .box 27 (eFrc x_5))]⟩) rfl ?_
  refine Tri.seq (Tri.keepS ⟨[(4, _), (5, _), (6, _)], [(103, _), (104, _), (105, _)]⟩ rfl ?_)
  obtain ⟨x_6, e9, h⟩ := bnd h
  obtain ⟨x_7, e10, h⟩ := bnd h
  refine Tri.regionW mixed [false, false, false, false, false, false, false, false, false, false, true, true, true, true] [Pt 104 0, .b (.agg (eBig x_4.N)), Pt 105 0, .b (.agg (eBig x_5.N)), .b (.agg (eBig x_6)), Pt 104 18, .b (.agg (eBig x_4.D)), Pt 105 18, .b (.agg (eBig x_5.D)), .b (.agg (eBig x_7)), Pt 106 0, Pt 107 0, B true, B true] [⟨[false, false, false, false, false, false, false, false, false, false, false, false, false, false], [(4, Pt 103 0), (5, Pt 104 0), (6, Pt 105 0)], [(103, .box 27 zFrc), (104, .box 27 (eFrc x_4)), (105, .box 27 (eFrc x_5))], [true, true, true, true, true, true, true, true, true, true, true, true, true, true], []⟩, ⟨[false, false, false, false, false, false, false, false, false, false, true, false, false, false], [(4, Pt 103 0), (5, Pt 104 0), (6, Pt 105 0)], [(103, .box 27 zFrc), (104, .box 27 (eFrc x_4)), (105, .box 27 (eFrc x_5)), (106, .box 25 zBig)], [true, true, true, true, true, true, true, true, true, true, true, true, true, true], [10]⟩, ⟨[false, false, false, false, false, false, false, false, false, false, false, true, false, false], [(4, Pt 103 0), (5, Pt 104 0), (6, Pt 105 0)], [(103, .box 27 zFrc), (104, .box 27 (eFrc x_4)), (105, .box 27 (eFrc x_5)), (107, .box 25 zBig)], [true, true, true, true, true, true, true, true, true, true, true, true, true, true], [11]⟩, ⟨[false, false, false, false, false, false, false, false, false, false, true, true, false, false], [(4, Pt 103 0), (5, Pt 104 0), (6, Pt 105 0)], [(103, .box 27 zFrc), (104, .box 27 (eFrc x_4)), (105, .box 27 (eFrc x_5)), (106, .box 25 zBig), (107, .box 25 zBig)], [true, true, true, true, true, true, true, true, true, true, true, true, true, true], [10, 11]⟩, ⟨[false, false, false, false, false, false, false, false, false, false, true, true, true, false], [(4, Pt 103 0), (5, Pt 104 0), (6, Pt 105 0)], [(103, .box 27 zFrc), (104, .box 27 (eFrc x_4)), (105, .box 27 (eFrc x_5)), (106, .box 25 (eBig x_6)), (107, .box 25 zBig)], [true, true, true, true, true, true, true, true, true, true, true, true, true, true], [0, 1, 2, 3, 4, 5, 6, 7, 8, 9, 10, 11, 12]⟩, ⟨[false, false, false, false, false, false, false, false, false, false, true, true, true, true], [(4, Pt 103 0), (5, Pt 104 0), (6, Pt 105 0)], [(103, .box 27 zFrc), (104, .box 27 (eFrc x_4)), (105, .box 27 (eFrc x_5)), (106, .box 25 (eBig x_6)), (107, .box 25 (eBig x_7))], [true, true, true, true, true, true, true, true, true, true, true, true, true, true], [0, 1, 2, 3, 4, 5, 6, 7, 8, 9, 10, 11, 12, 13]⟩] rfl (⟨by kernel_rfl, ⟨⟨Pt 104 0, fun _ => rfl, fun _ => .p (by exact op_field_p tyFld27_0 rfl rfl)⟩, ⟨.b (.agg (eBig x_4.N)), fun _ => rfl, fun _ => .p (by exact op_load_p tyAgg25 rfl rfl rfl rfl)⟩, ⟨Pt 105 0, fun _ => rfl, fun _ => .p (by exact op_field_p tyFld27_0 rfl rfl)⟩, ⟨.b (.agg (eBig x_5.N)), fun _ => rfl, fun _ => .p (by exact op_load_p tyAgg25 rfl rfl rfl rfl)⟩, ⟨.b (.agg (eBig x_6)), fun _ => rfl, fun _ => .p (by exact op_call0 (w_Mul_spec e9) goes80 rfl rfl)⟩, ⟨Pt 104 18, fun _ => rfl, fun _ => .p (by exact op_field_p tyFld27_1 rfl rfl)⟩, ⟨.b (.agg (eBig x_4.D)), fun _ => rfl, fun _ => .p (by exact op_load_p tyAgg25 rfl rfl rfl rfl)⟩, ⟨Pt 105 18, fun _ => rfl, fun _ => .p (by exact op_field_p tyFld27_1 rfl rfl)⟩, ⟨.b (.agg (eBig x_5.D)), fun _ => rfl, fun _ => .p (by exact op_load_p tyAgg25 rfl rfl rfl rfl)⟩, ⟨.b (.agg (eBig x_7)), fun _ => rfl, fun _ => .p (by exact op_call0 (w_Mul_spec e10) goes80 rfl rfl)⟩, ⟨_, some 106, Pt 106 0, rfl, fun _ => rfl, rfl, rfl, fun _ => .toO [103, 104, 105, 106] (by exact .p (by exact op_alloc (k := 106) tyZero25 rfl)) (by exact rfl)⟩, ⟨_, some 107, Pt 107 0, rfl, fun _ => rfl, rfl, rfl, fun _ => .toO [103, 104, 105, 107] (by exact .p (by exact op_alloc (k := 107) tyZero25 rfl)) (by exact rfl)⟩, trivial, trivial, trivial⟩, ⟨by kernel_rfl, ⟨⟨Pt 104 0, fun _ => rfl, fun _ => .p (by exact op_field_p tyFld27_0 rfl rfl)⟩, ⟨.b (.agg (eBig x_4.N)), fun _ => rfl, fun _ => .p (by exact op_load_p tyAgg25 rfl rfl rfl rfl)⟩, ⟨Pt 105 0, fun _ => rfl, fun _ => .p (by exact op_field_p tyFld27_0 rfl rfl)⟩, ⟨.b (.agg (eBig x_5.N)), fun _ => rfl, fun _ => .p (by exact op_load_p tyAgg25 rfl rfl rfl rfl)⟩, ⟨.b (.agg (eBig x_6)), fun _ => rfl, fun _ => .p (by exact op_call0 (w_Mul_spec e9) goes80 rfl rfl)⟩, ⟨Pt 104 18, fun _ => rfl, fun _ => .p (by exact op_field_p tyFld27_1 rfl rfl)⟩, ⟨.b (.agg (eBig x_4.D)), fun _ => rfl, fun _ => .p (by exact op_load_p tyAgg25 rfl rfl rfl rfl)⟩, ⟨Pt 105 18, fun _ => rfl, fun _ => .p (by exact op_field_p tyFld27_1 rfl rfl)⟩, ⟨.b (.agg (eBig x_5.D)), fun _ => rfl, fun _ => .p (by exact op_load_p tyAgg25 rfl rfl rfl rfl)⟩, ⟨.b (.agg (eBig x_7)), fun _ => rfl, fun _ => .p (by exact op_call0 (w_Mul_spec e10) goes80 rfl rfl)⟩, trivial, ⟨_, some 107, Pt 107 0, rfl, fun _ => rfl, rfl, rfl, fun _ => .toO [103, 104, 105, 106, 107] (by exact .p (by exact op_alloc (k := 107) tyZero25 rfl)) (by exact rfl)⟩, trivial, trivial, trivial⟩, ⟨by kernel_rfl, ⟨⟨Pt 104 0, fun _ => rfl, fun _ => .p (by exact op_field_p tyFld27_0 rfl rfl)⟩, ⟨.b (.agg (eBig x_4.N)), fun _ => rfl, fun _ => .p (by exact op_load_p tyAgg25 rfl rfl rfl rfl)⟩, ⟨Pt 105 0, fun _ => rfl, fun _ => .p (by exact op_field_p tyFld27_0 rfl rfl)⟩, ⟨.b (.agg (eBig x_5.N)), fun _ => rfl, fun _ => .p (by exact op_load_p tyAgg25 rfl rfl rfl rfl)⟩, ⟨.b (.agg (eBig x_6)), fun _ => rfl, fun _ => .p (by exact op_call0 (w_Mul_spec e9) goes80 rfl rfl)⟩, ⟨Pt 104 18, fun _ => rfl, fun _ => .p (by exact op_field_p tyFld27_1 rfl rfl)⟩, ⟨.b (.agg (eBig x_4.D)), fun _ => rfl, fun _ => .p (by exact op_load_p tyAgg25 rfl rfl rfl rfl)⟩, ⟨Pt 105 18, fun _ => rfl, fun _ => .p (by exact op_field_p tyFld27_1 rfl rfl)⟩, ⟨.b (.agg (eBig x_5.D)), fun _ => rfl, fun _ => .p (by exact op_load_p tyAgg25 rfl rfl rfl rfl)⟩, ⟨.b (.agg (eBig x_7)), fun _ => rfl, fun _ => .p (by exact op_call0 (w_Mul_spec e10) goes80 rfl rfl)⟩, ⟨_, some 106, Pt 106 0, rfl, fun _ => rfl, rfl, rfl, fun _ => .toO [103, 104, 105, 106, 107] (by exact .p (by exact op_alloc (k := 106) tyZero25 rfl)) (by exact rfl)⟩, trivial, trivial, trivial, trivial⟩, ⟨by kernel_rfl, ⟨⟨Pt 104 0, fun _ => rfl, fun _ => .p (by exact op_field_p tyFld27_0 rfl rfl)⟩, ⟨.b (.agg (eBig x_4.N)), fun _ => rfl, fun _ => .p (by exact op_load_p tyAgg25 rfl rfl rfl rfl)⟩, ⟨Pt 105 0, fun _ => rfl, fun _ => .p (by exact op_field_p tyFld27_0 rfl rfl)⟩, ⟨.b (.agg (eBig x_5.N)), fun _ => rfl, fun _ => .p (by exact op_load_p tyAgg25 rfl rfl rfl rfl)⟩, ⟨.b (.agg (eBig x_6)), fun _ => rfl, fun _ => .p (by exact op_call0 (w_Mul_spec e9) goes80 rfl rfl)⟩, ⟨Pt 104 18, fun _ => rfl, fun _ => .p (by exact op_field_p tyFld27_1 rfl rfl)⟩, ⟨.b (.agg (eBig x_4.D)), fun _ => rfl, fun _ => .p (by exact op_load_p tyAgg25 rfl rfl rfl rfl)⟩, ⟨Pt 105 18, fun _ => rfl, fun _ => .p (by exact op_field_p tyFld27_1 rfl rfl)⟩, ⟨.b (.agg (eBig x_5.D)), fun _ => rfl, fun _ => .p (by exact op_load_p tyAgg25 rfl rfl rfl rfl)⟩, ⟨.b (.agg (eBig x_7)), fun _ => rfl, fun _ => .p (by exact op_call0 (w_Mul_spec e10) goes80 rfl rfl)⟩, trivial, trivial, ⟨_, none, .b (.one .any), rfl, (fun e => by simp at e), rfl, rfl, fun _ => .toO [103, 104, 105, 106, 107] (by exact .p (by exact op_store_p tyAgg25 rfl rfl rfl rfl (Nat.le_of_ble_eq_true rfl) rfl)) (by exact rfl)⟩, trivial, trivial⟩, ⟨by kernel_rfl, ⟨trivial, trivial, trivial, trivial, trivial, trivial, trivial, trivial, trivial, trivial, trivial, trivial, trivial, ⟨_, none, .b (.one .any), rfl, (fun e => by simp at e), rfl, rfl, fun _ => .toO [103, 104, 105, 106, 107] (by exact .p (by exact op_store_p tyAgg25 rfl rfl rfl rfl (Nat.le_of_ble_eq_true rfl) rfl)) (by exact rfl)⟩, trivial⟩, ⟨by kernel_rfl, ⟨trivial, trivial, trivial, trivial, trivial, trivial, trivial, trivial, trivial, trivial, trivial, trivial, trivial, trivial, trivial⟩, trivial⟩⟩⟩⟩⟩⟩) rfl rfl rfl [4, 7, 8] [103, 106, 107] (s' := ⟨[(4, _), (7, Pt 106 0), (8, Pt 107 0)], [(103, _), (106, .box 25 (eBig x_6)), (107, .box 25 (eBig x_7))]⟩) rfl ?_
  refine Tri.seq (Tri.seq (Tri.regionL ?_))
  refine Oc (op_field_p tyFld25_0 rfl rfl) (Oc (op_load_p1 tyOne4 rfl rfl rfl) (Oc om ?_))
  refine CgF (!x_6.Bad) [] (fun g11 => trivial) (fun g11 => op_field_p tyFld25_0 rfl rfl) (CgF (!x_6.Bad) [41] (fun g12 => ⟨g12, trivial⟩) (fun g12 => op_load_p1 tyOne4 rfl rfl rfl) (Oc (op_pick_or (fun e => by rw [e]; rfl) rfl rfl rfl rfl) (OpsL.nilS ⟨[(4, _), (7, _), (8, _), (43, B (x_6.Bad || x_7.Bad))], [(103, _), (106, _), (107, _)]⟩ rfl (Tri.ite h rfl (fun _ h => ?_) (fun _ h => ?_)))))
  ·refine Tri.seq (Tri.regionL ?_)
   obtain ⟨x_8, e13, h⟩ := bnd h
   refine Oc (op_call0 (q_Bad_spec e13) goes75 rfl rfl) (Oc (op_store_p tyAgg27 rfl rfl rfl rfl (Nat.le_of_ble_eq_true rfl) rfl) ?_)
   refine OpsL.nilS ⟨[(4, _)], [(103, .box 27 (eFrc x_8))]⟩ rfl (Tri.ret (Fin.then_ret ?_))
   obtain rfl := Option.some.inj h
   refine Fin.keepS ⟨[(4, _)], [(103, _)]⟩ rfl (Fin.result' [.agg (eFrc x_8)] (.inl rfl) rfl (.cons (.agg tyAgg27 rfl rfl rfl rfl) .nil) ⟨rfl, rfl⟩)
  ·refine Tri.skip (Fin.keepS ⟨[(4, _), (7, _), (8, _)], [(103, _), (106, _), (107, _)]⟩ rfl (Fin.then (Tri.seq (Tri.regionL ?_))))
   refine Oc (lp tyAgg25) (Oc (lp tyAgg25) (Oc (op_build tyBuild27 rfl rfl) (Oc (op_store_p tyAgg27 rfl rfl rfl rfl (Nat.le_of_ble_eq_true rfl) rfl) ?_)))
   refine OpsL.nilS ⟨[(4, _)], [(103, .box 27 (eBig x_6 ++ (eBig x_7)))]⟩ rfl (Tri.ret ?_)
   obtain rfl := Option.some.inj h
   refine Fin.keepS ⟨[(4, _)], [(103, _)]⟩ rfl (Fin.result' [.agg (eBig x_6 ++ (eBig x_7))] (.inl rfl) rfl (.cons (.agg tyAgg27 rfl rfl rfl rfl) .nil) ⟨rfl, rfl⟩)
def q_Div_S (F : Nat) (x0 : Frc) (y0 : Frc) : Option Frc :=
 (q_Good_S F y0).bind fun x_1 => if (!x_1) = true then ((q_Bad_S F).bind fun x_2 => some x_2) else ((q_Make_S F y0.D y0.N).bind fun x_3 => (q_Mul_S F x0 x_3).bind fun x_4 => some x_4)
theorem q_Div_spec {F : Nat} {x0 : Frc} {y0 : Frc} {r : Frc} (h : q_Div_S F x0 y0 = some r) : Meets Tryz.prog (tabs mx) 21 [] [.agg (eFrc x0), .agg (eFrc y0)] (Is [] (.b (.agg (eFrc r)))) := by
 unfold q_Div_S at h
 refine Meets.intro 16 Tryz.func21 Tryz.ntmps21 rfl (by simp) fun E => ?_
 show Tri _ E ⟨16, [], []⟩ _ ⟨[(0, .b (.agg (eFrc x0))), (1, .b (.agg (eFrc y0)))], []⟩ _
 refine Tri.seq (Tri.regionL ?_)
 refine Oc (op_box (k := 101) rfl rfl) (Oc (op_box (k := 102) rfl rfl) (Oc (op_alloc (k := 103) tyZero27 rfl) ?_))
 refine OpsL.nilS ⟨[(2, Pt 101 0), (3, Pt 102 0), (4, Pt 103 0)], [(101, .box 27 (eFrc x0)), (102, .box 27 (eFrc y0)), (103, .box 27 zFrc)]⟩ rfl (Tri.seq (Tri.seq (Tri.regionL ?_)))
 refine Oc (lp tyAgg27) ?_
 obtain ⟨x_1, e1, h⟩ := bnd h
 refine Oc (op_call0 (q_Good_spec e1) goes62 rfl rfl) (Oc (op_not rfl) ?_)
 refine OpsL.nilS ⟨[(2, _), (3, _), (4, _), (7, B (!x_1))], [(101, _), (102, _), (103, _)]⟩ rfl (Tri.ite h rfl (fun _ h => ?_) (fun _ h => ?_))
 ·refine Tri.seq (Tri.regionL ?_)
  obtain ⟨x_2, e2, h⟩ := bnd h
  refine Oc (op_call0 (q_Bad_spec e2) goes75 rfl rfl) (Oc (op_store_p tyAgg27 rfl rfl rfl rfl (Nat.le_of_ble_eq_true rfl) rfl) ?_)
  refine OpsL.nilS ⟨[(4, _)], [(103, .box 27 (eFrc x_2))]⟩ rfl (Tri.ret (Fin.then_ret ?_))
  obtain rfl := Option.some.inj h
  refine Fin.keepS ⟨[(4, _)], [(103, _)]⟩ rfl (Fin.result' [.agg (eFrc x_2)] (.inl rfl) rfl (.cons (.agg tyAgg27 rfl rfl rfl rfl) .nil) ⟨rfl, rfl⟩)
 ·refine Tri.skip (Fin.keepS ⟨[(2, _), (3, _), (4, _)], [(101, _), (102, _), (103, _)]⟩ rfl (Fin.then (Tri.seq ?_)))
  refine Tri.keepS ⟨[(2, _), (3, _), (4, _)], [(101, _), (102, _), (103, _)]⟩ rfl ?_
  obtain ⟨x_3, e3, h⟩ := bnd h
  obtain ⟨x_4, e4, h⟩ := bnd h
  refine Tri.regionY mixed 7 [.b (.agg (eFrc x0)), Pt 102 18, .b (.agg (eBig y0.D)), Pt 102 0, .b (.agg (eBig y0.N)), .b (.agg (eFrc x_3)), .b (.agg (eFrc x_4))] [4] [103] (s' := ⟨[(4, _)], [(103, .box 27 (eFrc x_4))]⟩) rfl ⟨fun _ => .p (lp tyAgg27), fun _ => .p (op_field_p tyFld27_1 rfl rfl), fun _ => .p (lp tyAgg25), fun _ => .p (op_field_p tyFld27_0 rfl rfl), fun _ => .p (lp tyAgg25), fun _ => .p (op_call0 (q_Make_spec e3) goes76 rfl rfl), fun _ => .p (op_call0 (q_Mul_spec e4) goes25 rfl rfl), trivial⟩ ⟨_, by exact .p (op_store_p tyAgg27 rfl rfl rfl rfl (Nat.le_of_ble_eq_true rfl) rfl), rfl⟩ rfl (Tri.ret ?_)
  obtain rfl := Option.some.inj h
  refine Fin.keepS ⟨[(4, _)], [(103, _)]⟩ rfl (Fin.result' [.agg (eFrc x_4)] (.inl rfl) rfl (.cons (.agg tyAgg27 rfl rfl rfl rfl) .nil) ⟨rfl, rfl⟩)
def numberFn_S (F : Nat) (fn0 : Nat) (x0 : Frc) (y0 : Frc) : Option Frc :=
 if fn0 = 22 then q_Add_S F x0 y0 else if fn0 = 94 then q_Sub_S F x0 y0 else if fn0 = 25 then q_Mul_S F x0 y0 else if fn0 = 21 then q_Div_S F x0 y0 else none
theorem numberFn_spec {F : Nat} {fn0 : Nat} {x0 : Frc} {y0 : Frc} {r : Frc} (h : numberFn_S F fn0 x0 y0 = some r) : Meets Tryz.prog (tabs mx) fn0 [] [.agg (eFrc x0), .agg (eFrc y0)] (Is [] (.b (.agg (eFrc r)))) := by
 unfold numberFn_S at h
 split at h
 ·next e => subst e; exact q_Add_spec h
 ·next =>
  split at h
  ·next e => subst e; exact q_Sub_spec h
  ·next =>
   split at h
   ·next e => subst e; exact q_Mul_spec h
   ·next =>
    split at h
    ·next e => subst e; exact q_Div_spec h
    ·next =>
     simp at h
theorem numberFn_goes {F : Nat} {fn0 : Nat} {x0 : Frc} {y0 : Frc} {r : Frc} (h : numberFn_S F fn0 x0 y0 = some r) : Goes Tryz.prog fn0 := by
 unfold numberFn_S at h
 split at h
 ·next e => subst e; exact goes22
 ·next =>
  split at h
  ·next e => subst e; exact goes94
  ·next =>
   split at h
   ·next e => subst e; exact goes25
   ·next =>
    split at h
    ·next e => subst e; exact goes21
    ·next =>
     simp at h
def unit_equal_S (F : Nat) (u0 : MUnit) (v0 : MUnit) : Option (MUnit × Int) :=
 if (decide (u0 ≠ v0)) = true then (some ((⟨0, 0, 0⟩ : MUnit), 110)) else (some (u0, 0))
theorem unit_equal_spec {F : Nat} {u0 : MUnit} {v0 : MUnit} {r : MUnit × Int} (h : unit_equal_S F u0 v0 = some r) : Meets Tryz.prog (tabs mx) 87 [] [.agg (eMUnit u0), .agg (eMUnit v0)] (Is [] (.tup [.agg (eMUnit r.1), .one (.i r.2)])) := by
 unfold unit_equal_S at h
 refine Meets.intro 11 Tryz.func87 Tryz.ntmps87 rfl (by simp) fun E => ?_
 show Tri _ E ⟨11, [], []⟩ _ ⟨[(0, .b (.agg (eMUnit u0))), (1, .b (.agg (eMUnit v0)))], []⟩ _
 refine Tri.seq (Tri.regionL ?_)
 refine Oc (op_box (k := 101) rfl rfl) (Oc (op_box (k := 102) rfl rfl) (Oc (op_alloc (k := 103) tyZero29 rfl) (Oc oa ?_)))
 refine OpsL.nilS ⟨[(2, Pt 101 0), (3, Pt 102 0), (4, Pt 103 0)], [(101, .box 29 (eMUnit u0)), (102, .box 29 (eMUnit v0)), (103, .box 29 [.i 0, .i 0, .i 0])]⟩ rfl (Tri.seq (Tri.seq (Tri.regionL ?_)))
 refine Oc (lp tyAgg29) (Oc (lp tyAgg29) (Oc (op_neq_agg (eqAgg29 u0 v0) rfl rfl neg_dec) ?_))
 refine OpsL.nilS ⟨[(2, _), (4, _), (8, B (decide (u0 ≠ v0)))], [(101, _), (103, _)]⟩ rfl (Tri.ite h rfl (fun _ h => ?_) (fun _ h => ?_))
 ·refine Tri.seq (Tri.regionL ?_)
  refine Oc (op_build tyBuild29 rfl rfl) (Oc (op_store_p tyAgg29 rfl rfl rfl rfl (Nat.le_of_ble_eq_true rfl) rfl) (Oc oa ?_))
  refine OpsL.nilS ⟨[(4, _), (5, I 110)], [(103, _)]⟩ rfl (Tri.ret (Fin.then_ret ?_))
  obtain rfl := Option.some.inj h
  refine Fin.keepS ⟨[(4, _), (5, _)], [(103, _)]⟩ rfl (Fin.result' [.agg [.i 0, .i 0, .i 0], .one (.i 110)] (.inl rfl) rfl (.cons (.agg tyAgg29 rfl rfl rfl rfl) (.cons (.tmp rfl) .nil)) ⟨rfl, rfl⟩)
 ·refine Tri.skip (Fin.keepS ⟨[(2, _), (4, _)], [(101, _), (103, _)]⟩ rfl (Fin.then (Tri.seq (Tri.regionL ?_))))
  refine Oc (lp tyAgg29) (Oc (op_store_p tyAgg29 rfl rfl rfl rfl (Nat.le_of_ble_eq_true rfl) rfl) (Oc oa ?_))
  refine OpsL.nilS ⟨[(4, _), (5, I 0)], [(103, .box 29 (eMUnit u0))]⟩ rfl (Tri.ret ?_)
  obtain rfl := Option.some.inj h
  refine Fin.keepS ⟨[(4, _), (5, _)], [(103, _)]⟩ rfl (Fin.result' [.agg (eMUnit u0), .one (.i 0)] (.inl rfl) rfl (.cons (.agg tyAgg29 rfl rfl rfl rfl) (.cons (.tmp rfl) .nil)) ⟨rfl, rfl⟩)
def unit_exponents_S (F : Nat) (u0 : MUnit) : Option A3 :=
 some (⟨u0.M, u0.Kg, u0.S⟩ : A3)
theorem unit_exponents_spec {F : Nat} {u0 : MUnit} {r : A3} (h : unit_exponents_S F u0 = some r) : Meets Tryz.prog (tabs mx) 71 [] [.agg (eMUnit u0)] (Is [] (.b (.agg ((eA3 .i64) r)))) := by
 unfold unit_exponents_S at h
 refine Meets.intro 10 Tryz.func71 Tryz.ntmps71 rfl (by simp) fun E => ?_
 show Tri _ E ⟨10, [], []⟩ _ ⟨[(0, .b (.agg (eMUnit u0)))], []⟩ _
 refine Tri.seq (Tri.regionL ?_)
 refine Oc (op_box (k := 101) rfl rfl) (Oc (op_alloc (k := 102) tyZero97 rfl) ?_)
 refine OpsL.nilS ⟨[(1, Pt 101 0), (2, Pt 102 0)], [(101, .box 29 (eMUnit u0)), (102, .box 97 ((eA3 .i64) A3.zero))]⟩ rfl (Tri.seq (Tri.regionL ?_))
 refine Oc (op_field_p tyFld29_0 rfl rfl) (Oc (op_load_p1 tyOne3 rfl rfl rfl) (Oc (op_field_p tyFld29_1 rfl rfl) (Oc (op_load_p1 tyOne3 rfl rfl rfl) (Oc (op_field_p tyFld29_2 rfl rfl) (Oc (op_load_p1 tyOne3 rfl rfl rfl) ?_)))))
 refine Oc (op_buildA tyBuild97 rfl rfl) (Oc (op_store_p tyAgg97 rfl rfl rfl rfl (Nat.le_of_ble_eq_true rfl) rfl) ?_)
 refine OpsL.nilS ⟨[(2, _)], [(102, .box 97 (eMUnit u0))]⟩ rfl (Tri.ret ?_)
 obtain rfl := Option.some.inj h
 refine Fin.keepS ⟨[(2, _)], [(102, _)]⟩ rfl (Fin.result' [.agg (eMUnit u0)] (.inl rfl) rfl (.cons (.agg tyAgg97 rfl rfl rfl rfl) .nil) ⟨rfl, rfl⟩)
def unit_small_S (F : Nat) (n0 : Int) : Option Bool :=
 some ((decide ((-16) ≤ n0)) && (decide (n0 ≤ 16)))
theorem unit_small_spec {F : Nat} {n0 : Int} {r : Bool} (h : unit_small_S F n0 = some r) : Meets Tryz.prog (tabs mx) 85 [] [.one (.i n0)] (Is [] (.b (.one (.bool r)))) := by
 unfold unit_small_S at h
 refine Meets.intro 9 Tryz.func85 Tryz.ntmps85 rfl (by simp) fun E => ?_
 show Tri _ E ⟨9, [], []⟩ _ ⟨[(0, I n0)], []⟩ _
 refine Tri.seq (Tri.regionL ?_)
 refine Oc oa (OpsL.nilS ⟨[(0, I n0)], []⟩ rfl (Tri.seq (Tri.regionL ?_)))
 refine Oc om (Oc (op_geq rfl rfl) (Oc om ?_))
 refine CgT (decide ((-16) ≤ n0)) [] (fun g1 => trivial) (fun g1 => om) (CgT (decide ((-16) ≤ n0)) [6] (fun g2 => by exact ⟨g2, trivial⟩) (fun g2 => op_leq rfl rfl) (Oc (op_pick_and (fun e => e) rfl rfl rfl rfl) (Oc oa ?_)))
 refine OpsL.nilS ⟨[(2, B ((decide ((-16) ≤ n0)) && (decide (n0 ≤ 16))))], []⟩ rfl (Tri.ret ?_)
 obtain rfl := Option.some.inj h
 refine Fin.keepS ⟨[(2, _)], []⟩ rfl (Fin.result' [.one (.bool ((decide ((-16) ≤ n0)) && (decide (n0 ≤ 16))))] (.inl rfl) rfl (.cons (.tmp rfl) .nil) ⟨rfl, rfl⟩)
def unit_Valid_S (F : Nat) (u0 : MUnit) : Option Bool :=
 Option.bind ((unit_exponents_S F u0).bind fun x_1 => iter F (fun x_2 => if (decide (x_2 < 3)) = true then ((idx? x_1.l x_2).bind fun x_3 => (unit_small_S F x_3).bind fun x_4 => if (!x_4) = true then (some (.inr (.inr false))) else (some (.inl (IntKind.i64.wrap (x_2 + 1))))) else (some (.inr (.inl ())))) 0) (alt2 (fun _ => some true) (fun y => some y))
theorem unit_Valid_spec {F : Nat} {u0 : MUnit} {r : Bool} (h : unit_Valid_S F u0 = some r) : Meets Tryz.prog (tabs mx) 32 [] [.agg (eMUnit u0)] (Is [] (.b (.one (.bool r)))) := by
 unfold unit_Valid_S at h
 refine Meets.intro 14 Tryz.func32 Tryz.ntmps32 rfl (by simp) fun E => ?_
 show Tri _ E ⟨14, [], []⟩ _ ⟨[(0, .b (.agg (eMUnit u0)))], []⟩ _
 refine Tri.seq (Tri.regionL ?_)
 refine Oc (op_box (k := 101) rfl rfl) (Oc oa ?_)
 refine OpsL.nilS ⟨[(1, Pt 101 0)], [(101, .box 29 (eMUnit u0))]⟩ rfl ?_
 obtain ⟨v1, h2, h⟩ := bnd h
 refine Tri.seqJ (v := v1) (fun (_ : Unit) => ⟨[], []⟩) (fun z => .inl z) ?_ ?_
 ·refine Tri.seq (Tri.regionL ?_)
  refine Oc (lp tyAgg29) ?_
  obtain ⟨x_1, e3, h2⟩ := bnd h2
  refine Oc (op_call0 (unit_exponents_spec e3) goes71 rfl rfl) (Oc om ?_)
  refine OpsL.nilS ⟨[(6, .b (.agg ((eA3 .i64) x_1))), (7, I 0)], []⟩ rfl (Tri.block (Tri.loopJ h2 (fun (x_2 : Int) => ⟨[(6, .b (.agg ((eA3 .i64) x_1))), (7, I x_2)], []⟩) [6, 7] [] rfl ?_))
  rintro x_2 o4 h5 hy6
  refine Tri.seq (Tri.regionL ?_)
  refine Oc (op_lss rfl rfl) (OpsL.nilS ⟨[(6, _), (7, _), (8, B (decide (x_2 < 3)))], []⟩ rfl (Tri.seq (Tri.ite h5 rfl (fun _ h5 => ?_) (fun _ h5 => ?_))))
  ·refine Tri.skip (Fin.keepS ⟨[(6, _), (7, _)], []⟩ rfl (Fin.then (Tri.seq (Tri.block (Tri.seq (Tri.regionL ?_))))))
   obtain ⟨x_3, e7, h5⟩ := bnd h5
   refine Oc (op_index_a1 (m := 3) tyArr97 tyOne3 rfl rfl (ix_lo e7) (ix_hi e7) (ix_map (e := CP.int .i64) e7)) (Oc oa ?_)
   refine OpsL.nilS ⟨[(4, I x_3), (6, _), (7, _)], []⟩ rfl (Tri.seq (Tri.regionL ?_))
   refine Oc om ?_
   obtain ⟨x_4, e8, h5⟩ := bnd h5
   refine Oc (op_call0 (unit_small_spec e8) goes85 rfl rfl) (Oc (op_not rfl) ?_)
   refine OpsL.nilS ⟨[(6, _), (7, _), (12, B (!x_4))], []⟩ rfl (Tri.ite h5 rfl (fun _ h5 => ?_) (fun _ h5 => ?_))
   ·refine Tri.seq (Tri.regionL ?_)
    refine Oc oa (OpsL.nilS ⟨[(2, B false)], []⟩ rfl (Tri.ret (Fin.block_ret (Fin.then_ret ?_))))
    obtain rfl := hy6 _ (Option.some.inj h5).symm
    refine Fin.then_ret (Fin.block_ret (Fin.then_ret ?_))
    obtain rfl := Option.some.inj h
    refine Fin.keepS ⟨[(2, _)], []⟩ rfl (Fin.result' [.one (.bool false)] (.inl rfl) rfl (.cons (.tmp rfl) .nil) ⟨rfl, rfl⟩)
   ·refine Tri.skip (Fin.block_normal (Fin.keepS ⟨[(6, _), (7, _)], []⟩ rfl (Fin.then (Tri.regionL ?_))))
    refine Oc (op_add rfl rfl) (Oc om ?_)
    refine OpsL.nil ?_
    exact Fin.againJ [6, 7] [] (IntKind.i64.wrap (x_2 + 1)) (Option.some.inj h5) rfl
  ·refine Tri.exit (Fin.then_exit ?_)
   obtain rfl := hy6 _ (Option.some.inj h5).symm
   refine Fin.then_exit (Fin.block_exit ?_)
   exact Fin.join [] [] () rfl rfl
 ·rintro _ hv
  subst v1
  refine Tri.seq (Tri.regionL ?_)
  refine Oc oa (OpsL.nilS ⟨[(2, B true)], []⟩ rfl (Tri.ret ?_))
  obtain rfl := Option.some.inj h
  refine Fin.keepS ⟨[(2, _)], []⟩ rfl (Fin.result' [.one (.bool true)] (.inl rfl) rfl (.cons (.tmp rfl) .nil) ⟨rfl, rfl⟩)
def unit_combine_S (F : Nat) (u0 : MUnit) (v0 : MUnit) (n0 : Int) : Option (MUnit × Int) :=
 (unit_Valid_S F u0).bind fun x_1 => (gcall (!(!x_1)) (unit_Valid_S F v0)).bind fun x_2 => (gcall (!((!x_1) || (!x_2))) (unit_small_S F n0)).bind fun x_3 => if (((!x_1) || (!x_2)) || (!x_3)) = true then (some ((⟨0, 0, 0⟩ : MUnit), 1)) else (letN (IntKind.i64.wrap (u0.M + (IntKind.i64.wrap (n0 * v0.M)))) fun x_4 => letN (IntKind.i64.wrap (u0.Kg + (IntKind.i64.wrap (n0 * v0.Kg)))) fun x_5 => letN (IntKind.i64.wrap (u0.S + (IntKind.i64.wrap (n0 * v0.S)))) fun x_6 => (unit_Valid_S F (⟨x_4, x_5, x_6⟩ : MUnit)).bind fun x_7 => if (!x_7) = true then (some ((⟨0, 0, 0⟩ : MUnit), 2)) else (some ((⟨x_4, x_5, x_6⟩ : MUnit), 0)))
theorem unit_combine_spec {F : Nat} {u0 : MUnit} {v0 : MUnit} {n0 : Int} {r : MUnit × Int} (h : unit_combine_S F u0 v0 n0 = some r) : Meets Tryz.prog (tabs mx) 82 [] [.agg (eMUnit u0), .agg (eMUnit v0), .one (.i n0)] (Is [] (.tup [.agg (eMUnit r.1), .one (.i r.2)])) := by
 unfold unit_combine_S at h
 refine Meets.intro 50 Tryz.func82 Tryz.ntmps82 rfl (by simp) fun E => ?_
 show Tri _ E ⟨50, [], []⟩ _ ⟨[(0, .b (.agg (eMUnit u0))), (1, .b (.agg (eMUnit v0))), (2, I n0)], []⟩ _
 refine Tri.seq (Tri.regionL ?_)
 refine Oc (op_box (k := 101) rfl rfl) (Oc (op_box (k := 102) rfl rfl) (Oc (op_alloc (k := 103) tyZero29 rfl) (Oc oa ?_)))
 refine OpsL.nilS ⟨[(2, I n0), (3, Pt 101 0), (4, Pt 102 0), (6, Pt 103 0)], [(101, .box 29 (eMUnit u0)), (102, .box 29 (eMUnit v0)), (103, .box 29 [.i 0, .i 0, .i 0])]⟩ rfl (Tri.seq (Tri.seq (Tri.regionL ?_)))
 refine Oc (lp tyAgg29) ?_
 obtain ⟨x_1, e1, h⟩ := bnd h
 refine Oc (op_call0 (unit_Valid_spec e1) goes32 rfl rfl) (Oc (op_not rfl) (Oc om ?_))
 refine CgF (!(!x_1)) [] (fun g2 => trivial) (fun g2 => lp tyAgg29) (OpsL.keepS ⟨[(2, _), (3, _), (4, _), (6, _), (12, B (!x_1)), (13, .opt (!(!x_1)) (.agg (eMUnit v0)))], [(101, _), (102, _), (103, _)]⟩ rfl ?_)
 obtain ⟨x_2, e4, h⟩ := bnd h
 refine CgF (!(!x_1)) [13] (fun g3 => ⟨g3, trivial⟩) (fun g3 => op_call0 (unit_Valid_spec (gc e4 g3)) goes32 rfl rfl) (CgF (!(!x_1)) [14] (fun g5 => ⟨g5, trivial⟩) (fun g5 => op_not rfl) (Oc (op_pick_or (fun e => by rw [e]; rfl) rfl rfl rfl rfl) (Oc om ?_)))
 refine CgF (!((!x_1) || (!x_2))) [] (fun g6 => trivial) (fun g6 => om) ?_
 obtain ⟨x_3, e8, h⟩ := bnd h
 refine CgF (!((!x_1) || (!x_2))) [18] (fun g7 => ⟨g7, trivial⟩) (fun g7 => op_call0 (unit_small_spec (gc e8 g7)) goes85 rfl rfl) (CgF (!((!x_1) || (!x_2))) [19] (fun g9 => ⟨g9, trivial⟩) (fun g9 => op_not rfl) (Oc (op_pick_or (fun e => by rw [e]; rfl) rfl rfl rfl rfl) (OpsL.nilS ⟨[(2, _), (3, _), (4, _), (6, _), (21, B (((!x_1) || (!x_2)) || (!x_3)))], [(101, _), (102, _), (103, _)]⟩ rfl (Tri.ite h rfl (fun _ h => ?_) (fun _ h => ?_)))))
 ·refine Tri.seq (Tri.regionL ?_)
  refine Oc (op_build tyBuild29 rfl rfl) (Oc (op_store_p tyAgg29 rfl rfl rfl rfl (Nat.le_of_ble_eq_true rfl) rfl) (Oc oa ?_))
  refine OpsL.nilS ⟨[(6, _), (7, I 1)], [(103, _)]⟩ rfl (Tri.ret (Fin.then_ret ?_))
  obtain rfl := Option.some.inj h
  refine Fin.keepS ⟨[(6, _), (7, _)], [(103, _)]⟩ rfl (Fin.result' [.agg [.i 0, .i 0, .i 0], .one (.i 1)] (.inl rfl) rfl (.cons (.agg tyAgg29 rfl rfl rfl rfl) (.cons (.tmp rfl) .nil)) ⟨rfl, rfl⟩)
 ·refine Tri.skip (Fin.keepS ⟨[(2, _), (3, _), (4, _), (6, _)], [(101, _), (102, _), (103, _)]⟩ rfl (Fin.then (Tri.seq (Tri.regionL ?_))))
  refine Oc (op_field_p tyFld29_0 rfl rfl) (Oc (op_load_p1 tyOne3 rfl rfl rfl) (Oc om (Oc (op_field_p tyFld29_0 rfl rfl) (Oc (op_load_p1 tyOne3 rfl rfl rfl) (Oc (op_mul rfl rfl) ?_)))))
  refine OpsL.consI .i64 h rfl (op_add rfl rfl) (fun x_4 h => ?_)
  refine OpsL.keepS ⟨[(2, _), (3, _), (4, _), (6, _), (29, I x_4)], [(101, _), (102, _), (103, _)]⟩ rfl (Oc (op_field_p tyFld29_1 rfl rfl) (Oc (op_load_p1 tyOne3 rfl rfl rfl) (Oc om (Oc (op_field_p tyFld29_1 rfl rfl) (Oc (op_load_p1 tyOne3 rfl rfl rfl) (Oc (op_mul rfl rfl) ?_))))))
  refine OpsL.consI .i64 h rfl (op_add rfl rfl) (fun x_5 h => ?_)
  refine Oc (op_field_p tyFld29_2 rfl rfl) (OpsL.keepS ⟨[(2, _), (4, _), (6, _), (29, _), (36, I x_5), (37, Pt 101 2)], [(101, _), (102, _), (103, _)]⟩ rfl (Oc (op_load_p1 tyOne3 rfl rfl rfl) (Oc om (Oc (op_field_p tyFld29_2 rfl rfl) (Oc (op_load_p1 tyOne3 rfl rfl rfl) (Oc (op_mul rfl rfl) ?_))))))
  refine OpsL.consI .i64 h rfl (op_add rfl rfl) (fun x_6 h => ?_)
  refine Oc (op_build tyBuild29 rfl rfl) (Oc (op_alloc (k := 104) tyZero29 rfl) (Oc (op_store_p tyAgg29 rfl rfl rfl rfl (Nat.le_of_ble_eq_true rfl) rfl) ?_))
  refine OpsL.nilS ⟨[(6, _), (8, Pt 104 0)], [(103, _), (104, .box 29 [.i x_4, .i x_5, .i x_6])]⟩ rfl (Tri.seq (Tri.seq (Tri.regionL ?_)))
  refine Oc (lp tyAgg29) ?_
  obtain ⟨x_7, e10, h⟩ := bnd h
  refine Oc (op_call0 (unit_Valid_spec e10) goes32 rfl rfl) (Oc (op_not rfl) ?_)
  refine OpsL.nilS ⟨[(6, _), (8, _), (47, B (!x_7))], [(103, _), (104, _)]⟩ rfl (Tri.ite h rfl (fun _ h => ?_) (fun _ h => ?_))
  ·refine Tri.seq (Tri.regionL ?_)
   refine Oc (op_build tyBuild29 rfl rfl) (Oc (op_store_p tyAgg29 rfl rfl rfl rfl (Nat.le_of_ble_eq_true rfl) rfl) (Oc oa ?_))
   refine OpsL.nilS ⟨[(6, _), (7, I 2)], [(103, _)]⟩ rfl (Tri.ret (Fin.then_ret ?_))
   obtain rfl := Option.some.inj h
   refine Fin.keepS ⟨[(6, _), (7, _)], [(103, _)]⟩ rfl (Fin.result' [.agg [.i 0, .i 0, .i 0], .one (.i 2)] (.inl rfl) rfl (.cons (.agg tyAgg29 rfl rfl rfl rfl) (.cons (.tmp rfl) .nil)) ⟨rfl, rfl⟩)
  ·refine Tri.skip (Fin.keepS ⟨[(6, _), (8, _)], [(103, _), (104, _)]⟩ rfl (Fin.then (Tri.seq (Tri.regionL ?_))))
   refine Oc (lp tyAgg29) (Oc (op_store_p tyAgg29 rfl rfl rfl rfl (Nat.le_of_ble_eq_true rfl) rfl) (Oc oa ?_))
   refine OpsL.nilS ⟨[(6, _), (7, I 0)], [(103, .box 29 [.i x_4, .i x_5, .i x_6])]⟩ rfl (Tri.ret ?_)
   obtain rfl := Option.some.inj h
   refine Fin.keepS ⟨[(6, _), (7, _)], [(103, _)]⟩ rfl (Fin.result' [.agg [.i x_4, .i x_5, .i x_6], .one (.i 0)] (.inl rfl) rfl (.cons (.agg tyAgg29 rfl rfl rfl rfl) (.cons (.tmp rfl) .nil)) ⟨rfl, rfl⟩)
def unit_Mul_S (F : Nat) (u0 : MUnit) (v0 : MUnit) : Option (MUnit × Int) :=
 Option.bind (unit_combine_S F u0 v0 1) (un2 fun x_1 x_2 => some (x_1, x_2))
theorem unit_Mul_spec {F : Nat} {u0 : MUnit} {v0 : MUnit} {r : MUnit × Int} (h : unit_Mul_S F u0 v0 = some r) : Meets Tryz.prog (tabs mx) 26 [] [.agg (eMUnit u0), .agg (eMUnit v0)] (Is [] (.tup [.agg (eMUnit r.1), .one (.i r.2)])) := by
 unfold unit_Mul_S at h
 refine Meets.intro 11 Tryz.func26 Tryz.ntmps26 rfl (by simp) fun E => ?_
 show Tri _ E ⟨11, [], []⟩ _ ⟨[(0, .b (.agg (eMUnit u0))), (1, .b (.agg (eMUnit v0)))], []⟩ _
 refine Tri.seq (Tri.regionL ?_)
 refine Oc (op_box (k := 101) rfl rfl) (Oc (op_box (k := 102) rfl rfl) (Oc (op_alloc (k := 103) tyZero29 rfl) (Oc oa ?_)))
 refine OpsL.nilS ⟨[(2, Pt 101 0), (3, Pt 102 0), (4, Pt 103 0)], [(101, .box 29 (eMUnit u0)), (102, .box 29 (eMUnit v0)), (103, .box 29 [.i 0, .i 0, .i 0])]⟩ rfl (Tri.seq (Tri.regionL ?_))
 refine Oc (lp tyAgg29) (Oc (lp tyAgg29) ?_)
 obtain ⟨⟨x_1, x_2⟩, e1, h⟩ := bnd h
 refine Oc (op_call0 (unit_combine_spec e1) goes82 rfl rfl) (Oc (op_extract rfl rfl) (Oc (op_extract rfl rfl) (Oc (op_store_p tyAgg29 rfl rfl rfl rfl (Nat.le_of_ble_eq_true rfl) rfl) (Oc oa ?_))))
 refine OpsL.nilS ⟨[(4, _), (5, I x_2)], [(103, .box 29 (eMUnit x_1))]⟩ rfl (Tri.ret ?_)
 obtain rfl := Option.some.inj h
 refine Fin.keepS ⟨[(4, _), (5, _)], [(103, _)]⟩ rfl (Fin.result' [.agg (eMUnit x_1), .one (.i x_2)] (.inl rfl) rfl (.cons (.agg tyAgg29 rfl rfl rfl rfl) (.cons (.tmp rfl) .nil)) ⟨rfl, rfl⟩)
def unit_Div_S (F : Nat) (u0 : MUnit) (v0 : MUnit) : Option (MUnit × Int) :=
 Option.bind (unit_combine_S F u0 v0 (-1)) (un2 fun x_1 x_2 => some (x_1, x_2))
theorem unit_Div_spec {F : Nat} {u0 : MUnit} {v0 : MUnit} {r : MUnit × Int} (h : unit_Div_S F u0 v0 = some r) : Meets Tryz.prog (tabs mx) 27 [] [.agg (eMUnit u0), .agg (eMUnit v0)] (Is [] (.tup [.agg (eMUnit r.1), .one (.i r.2)])) := by
 unfold unit_Div_S at h
 refine Meets.intro 11 Tryz.func27 Tryz.ntmps27 rfl (by simp) fun E => ?_
 show Tri _ E ⟨11, [], []⟩ _ ⟨[(0, .b (.agg (eMUnit u0))), (1, .b (.agg (eMUnit v0)))], []⟩ _
 refine Tri.seq (Tri.regionL ?_)
 refine Oc (op_box (k := 101) rfl rfl) (Oc (op_box (k := 102) rfl rfl) (Oc (op_alloc (k := 103) tyZero29 rfl) (Oc oa ?_)))
 refine OpsL.nilS ⟨[(2, Pt 101 0), (3, Pt 102 0), (4, Pt 103 0)], [(101, .box 29 (eMUnit u0)), (102, .box 29 (eMUnit v0)), (103, .box 29 [.i 0, .i 0, .i 0])]⟩ rfl (Tri.seq (Tri.regionL ?_))
 refine Oc (lp tyAgg29) (Oc (lp tyAgg29) ?_)
 obtain ⟨⟨x_1, x_2⟩, e1, h⟩ := bnd h
 refine Oc (op_call0 (unit_combine_spec e1) goes82 rfl rfl) (Oc (op_extract rfl rfl) (Oc (op_extract rfl rfl) (Oc (op_store_p tyAgg29 rfl rfl rfl rfl (Nat.le_of_ble_eq_true rfl) rfl) (Oc oa ?_))))
 refine OpsL.nilS ⟨[(4, _), (5, I x_2)], [(103, .box 29 (eMUnit x_1))]⟩ rfl (Tri.ret ?_)
 obtain rfl := Option.some.inj h
 refine Fin.keepS ⟨[(4, _), (5, _)], [(103, _)]⟩ rfl (Fin.result' [.agg (eMUnit x_1), .one (.i x_2)] (.inl rfl) rfl (.cons (.agg tyAgg29 rfl rfl rfl rfl) (.cons (.tmp rfl) .nil)) ⟨rfl, rfl⟩)
def unitFn_S (F : Nat) (fn0 : Nat) (u0 : MUnit) (v0 : MUnit) : Option (MUnit × Int) :=
 if fn0 = 87 then unit_equal_S F u0 v0 else if fn0 = 26 then unit_Mul_S F u0 v0 else if fn0 = 27 then unit_Div_S F u0 v0 else none
theorem unitFn_spec {F : Nat} {fn0 : Nat} {u0 : MUnit} {v0 : MUnit} {r : MUnit × Int} (h : unitFn_S F fn0 u0 v0 = some r) : Meets Tryz.prog (tabs mx) fn0 [] [.agg (eMUnit u0), .agg (eMUnit v0)] (Is [] (.tup [.agg (eMUnit r.1), .one (.i r.2)])) := by
 unfold unitFn_S at h
 split at h
 ·next e => subst e; exact unit_equal_spec h
 ·next =>
  split at h
  ·next e => subst e; exact unit_Mul_spec h
  ·next =>
   split at h
   ·next e => subst e; exact unit_Div_spec h
   ·next =>
    simp at h
theorem unitFn_goes {F : Nat} {fn0 : Nat} {u0 : MUnit} {v0 : MUnit} {r : MUnit × Int} (h : unitFn_S F fn0 u0 v0 = some r) : Goes Tryz.prog fn0 := by
 unfold unitFn_S at h
 split at h
 ·next e => subst e; exact goes87
 ·next =>
  split at h
  ·next e => subst e; exact goes26
  ·next =>
   split at h
   ·next e => subst e; exact goes27
   ·next =>
    simp at h
def unit_isLetter_S (F : Nat) (c0 : Int) : Option Bool :=
 letN (((decide (97 ≤ c0)) && (decide (c0 ≤ 122))) || ((decide (65 ≤ c0)) && (decide (c0 ≤ 90)))) fun x_1 => some x_1
theorem unit_isLetter_spec {F : Nat} {c0 : Int} {r : Bool} (h : unit_isLetter_S F c0 = some r) : Meets Tryz.prog (tabs mx) 173 [] [.one (.int .i32 c0)] (Is [] (.b (.one (.bool r)))) := by
 unfold unit_isLetter_S at h
 refine Meets.intro 17 Tryz.func173 Tryz.ntmps173 rfl (by simp) fun E => ?_
 show Tri _ E ⟨17, [], []⟩ _ ⟨[(0, .b (.one (.int .i32 c0)))], []⟩ _
 refine Tri.seq (Tri.regionL ?_)
 refine Oc oa (OpsL.nilS ⟨[(0, .b (.one (.int .i32 c0)))], []⟩ rfl (Tri.seq (Tri.regionL ?_)))
 refine Oc om (Oc (op_geq rfl rfl) (Oc om ?_))
 refine CgT (decide (97 ≤ c0)) [] (fun g1 => trivial) (fun g1 => om) (CgT (decide (97 ≤ c0)) [6] (fun g2 => by exact ⟨g2, trivial⟩) (fun g2 => op_leq rfl rfl) (Oc (op_pick_and (fun e => e) rfl rfl rfl rfl) (Oc om ?_)))
 refine OpsL.keepS ⟨[(0, _), (9, B ((decide (97 ≤ c0)) && (decide (c0 ≤ 122))))], []⟩ rfl (CgF (!((decide (97 ≤ c0)) && (decide (c0 ≤ 122)))) [] (fun g3 => trivial) (fun g3 => om) (CgF (!((decide (97 ≤ c0)) && (decide (c0 ≤ 122)))) [10] (fun g4 => by exact ⟨g4, trivial⟩) (fun g4 => op_geq rfl rfl) (CgF (!((decide (97 ≤ c0)) && (decide (c0 ≤ 122)))) [11] (fun g5 => by exact ⟨g5, trivial⟩) (fun g5 => om) (OpsL.consG ((!((decide (97 ≤ c0)) && (decide (c0 ≤ 122)))) && (decide (65 ≤ c0))) 99 [] (.under rfl) (and_t _ _) rfl rfl (fun g6 => by exact trivial) (fun g6 => om) (OpsL.consG ((!((decide (97 ≤ c0)) && (decide (c0 ≤ 122)))) && (decide (65 ≤ c0))) 99 [13] (.under rfl) (and_t _ _) rfl rfl (fun g7 => by exact ⟨g7, trivial⟩) (fun g7 => op_leq rfl rfl) ?_)))))
 refine CgF (!((decide (97 ≤ c0)) && (decide (c0 ≤ 122)))) [12] (fun g8 => ⟨g8, trivial⟩) (fun g8 => op_pick_and (fun e => by rw [g8, e]; rfl) rfl rfl rfl rfl) (OpsL.consB h rfl (op_pick_or (fun e => by rw [e]; rfl) rfl rfl rfl rfl) (fun x_1 h => ?_))
 refine Oc oa (OpsL.nilS ⟨[(2, B x_1)], []⟩ rfl (Tri.ret ?_))
 obtain rfl := Option.some.inj h
 refine Fin.keepS ⟨[(2, _)], []⟩ rfl (Fin.result' [.one (.bool x_1)] (.inl rfl) rfl (.cons (.tmp rfl) .nil) ⟨rfl, rfl⟩)
def unit_isDigit_S (F : Nat) (c0 : Int) : Option Bool :=
 some ((decide (48 ≤ c0)) && (decide (c0 ≤ 57)))
theorem unit_isDigit_spec {F : Nat} {c0 : Int} {r : Bool} (h : unit_isDigit_S F c0 = some r) : Meets Tryz.prog (tabs mx) 120 [] [.one (.int .i32 c0)] (Is [] (.b (.one (.bool r)))) := by
 unfold unit_isDigit_S at h
 refine Meets.intro 9 Tryz.func120 Tryz.ntmps120 rfl (by simp) fun E => ?_
 show Tri _ E ⟨9, [], []⟩ _ ⟨[(0, .b (.one (.int .i32 c0)))], []⟩ _
 refine Tri.seq (Tri.regionL ?_)
 refine Oc oa (OpsL.nilS ⟨[(0, .b (.one (.int .i32 c0)))], []⟩ rfl (Tri.seq (Tri.regionL ?_)))
 refine Oc om (Oc (op_geq rfl rfl) (Oc om ?_))
 refine CgT (decide (48 ≤ c0)) [] (fun g1 => trivial) (fun g1 => om) (CgT (decide (48 ≤ c0)) [6] (fun g2 => by exact ⟨g2, trivial⟩) (fun g2 => op_leq rfl rfl) (Oc (op_pick_and (fun e => e) rfl rfl rfl rfl) (Oc oa ?_)))
 refine OpsL.nilS ⟨[(2, B ((decide (48 ≤ c0)) && (decide (c0 ≤ 57))))], []⟩ rfl (Tri.ret ?_)
 obtain rfl := Option.some.inj h
 refine Fin.keepS ⟨[(2, _)], []⟩ rfl (Fin.result' [.one (.bool ((decide (48 ≤ c0)) && (decide (c0 ≤ 57))))] (.inl rfl) rfl (.cons (.tmp rfl) .nil) ⟨rfl, rfl⟩)
def unit_decimal_1_S (F : Nat) (c0 : Int) : Option Bool :=
 (unit_isDigit_S F c0).bind fun x_1 => some (!x_1)
theorem unit_decimal_1_spec {F : Nat} {c0 : Int} {r : Bool} (h : unit_decimal_1_S F c0 = some r) : Meets Tryz.prog (tabs mx) 119 [] [.one (.int .i32 c0)] (Is [] (.b (.one (.bool r)))) := by
 unfold unit_decimal_1_S at h
 refine Meets.intro 6 Tryz.func119 Tryz.ntmps119 rfl (by simp) fun E => ?_
 show Tri _ E ⟨6, [], []⟩ _ ⟨[(0, .b (.one (.int .i32 c0)))], []⟩ _
 refine Tri.seq (Tri.regionL ?_)
 refine Oc oa (OpsL.nilS ⟨[(0, .b (.one (.int .i32 c0)))], []⟩ rfl (Tri.seq (Tri.regionL ?_)))
 refine Oc om ?_
 obtain ⟨x_1, e1, h⟩ := bnd h
 refine Oc (op_call0 (unit_isDigit_spec e1) goes120 rfl rfl) (Oc (op_not rfl) (Oc oa ?_))
 refine OpsL.nilS ⟨[(2, B (!x_1))], []⟩ rfl (Tri.ret ?_)
 obtain rfl := Option.some.inj h
 refine Fin.keepS ⟨[(2, _)], []⟩ rfl (Fin.result' [.one (.bool (!x_1))] (.inl rfl) rfl (.cons (.tmp rfl) .nil) ⟨rfl, rfl⟩)
def runeFn_S (F : Nat) (fn0 : Nat) (c0 : Int) : Option Bool :=
 if fn0 = 173 then unit_isLetter_S F c0 else if fn0 = 120 then unit_isDigit_S F c0 else if fn0 = 119 then unit_decimal_1_S F c0 else none
theorem runeFn_spec {F : Nat} {fn0 : Nat} {c0 : Int} {r : Bool} (h : runeFn_S F fn0 c0 = some r) : Meets Tryz.prog (tabs mx) fn0 [] [.one (.int .i32 c0)] (Is [] (.b (.one (.bool r)))) := by
 unfold runeFn_S at h
 split at h
 ·next e => subst e; exact unit_isLetter_spec h
 ·next =>
  split at h
  ·next e => subst e; exact unit_isDigit_spec h
  ·next =>
   split at h
   ·next e => subst e; exact unit_decimal_1_spec h
   ·next =>
    simp at h
theorem runeFn_goes {F : Nat} {fn0 : Nat} {c0 : Int} {r : Bool} (h : runeFn_S F fn0 c0 = some r) : Goes Tryz.prog fn0 := by
 unfold runeFn_S at h
 split at h
 ·next e => subst e; exact goes173
 ·next =>
  split at h
  ·next e => subst e; exact goes120
  ·next =>
   split at h
   ·next e => subst e; exact goes119
   ·next =>
    simp at h
def r3_Valid_S (F : Nat) (x0 : Big) : Option Bool :=
 Option.bind (iter F (un2 fun zero_2 k_3 => if (decide (k_3 < 16)) = true then ((gcall zero_2 (idx? x0.W.l k_3)).bind fun x_5 => some (.inl (zero_2 && (decide (x_5 = 0)), IntKind.i64.wrap (k_3 + 1)))) else (some (.inr zero_2))) (true, 0)) (fun zero_1 => if x0.Bad = true then (some (zero_1 && (!x0.Neg))) else (some ((!zero_1) || (!x0.Neg))))
theorem r3_Valid_spec {F : Nat} {x0 : Big} {r : Bool} (h : r3_Valid_S F x0 = some r) : Meets Tryz.prog (tabs mx) 129 [] [.agg (eBig x0)] (Is [] (.b (.one (.bool r)))) := by
 unfold r3_Valid_S at h
 refine Meets.intro 32 Tryz.func129 Tryz.ntmps129 rfl (by simp) fun E => ?_
 show Tri _ E ⟨32, [], []⟩ _ ⟨[(0, .b (.agg (eBig x0)))], []⟩ _
 refine Tri.seq (Tri.regionL ?_)
 refine Oc (op_box (k := 101) rfl rfl) (Oc oa ?_)
 refine OpsL.nilS ⟨[(1, Pt 101 0)], [(101, .box 25 (eBig x0))]⟩ rfl (Tri.seq (Tri.regionL ?_))
 refine Oc oa (OpsL.nilS ⟨[(1, _), (3, B true)], [(101, _)]⟩ rfl ?_)
 obtain ⟨v1, h2, h⟩ := bnd h
 refine Tri.seqJ (v := v1) (fun (zero_1 : Bool) => ⟨[(1, Pt 101 0), (3, B zero_1)], [(101, .box 25 (eBig x0))]⟩) (fun z => z) ?_ ?_
 ·refine Tri.seq (Tri.regionL ?_)
  refine Oc oa (OpsL.nilS ⟨[(1, _), (3, _), (4, I 0)], [(101, _)]⟩ rfl (Tri.block (Tri.loopJ h2 (un2 fun (zero_2 : Bool) (k_3 : Int) => ⟨[(1, Pt 101 0), (3, B zero_2), (4, I k_3)], [(101, .box 25 (eBig x0))]⟩) [1, 3, 4] [101] rfl ?_)))
  rintro ⟨zero_2, k_3⟩ o3 h4 hy5
  refine Tri.seq (Tri.seq (Tri.regionL ?_))
  refine Oc om (Oc (op_lss rfl rfl) ?_)
  refine OpsL.nilS ⟨[(1, _), (3, _), (4, _), (6, B (decide (k_3 < 16)))], [(101, _)]⟩ rfl (Tri.ite h4 rfl (fun _ h4 => ?_) (fun _ h4 => ?_))
  ·refine Tri.skip (Fin.keepS ⟨[(1, _), (3, _), (4, _)], [(101, _)]⟩ rfl (Fin.then (Tri.seq (Tri.block (Tri.regionL ?_)))))
   refine Oc om (Oc om ?_)
   refine CgT zero_2 [] (fun g6 => trivial) (fun g6 => om) (CgT zero_2 [] (fun g7 => by exact trivial) (fun g7 => op_field_p tyFld25_2 rfl rfl) ?_)
   obtain ⟨x_5, e9, h4⟩ := bnd h4
   refine CgT zero_2 [11, 12] (fun g8 => ⟨g8, g8, trivial⟩) (fun g8 => op_index_p tyArr23 (ix_lo (gc e9 g8)) (ix_hi (gc e9 g8)) rfl rfl rfl) (CgT zero_2 [13] (fun g10 => ⟨g10, trivial⟩) (fun g10 => op_load_p1 tyOne22 rfl rfl (arr_get (post := []) (k := .u32) [.bool x0.Bad, .bool x0.Neg] (gc e9 g10) rfl rfl rfl)) (CgT zero_2 [14] (fun g11 => ⟨g11, trivial⟩) (fun g11 => op_eql rfl rfl) (Oc (op_pick_and (fun e => e) rfl rfl rfl rfl) (Oc oa ?_))))
   refine OpsL.nil (Fin.block_normal (Fin.keepS ⟨[(1, _), (3, B (zero_2 && (decide (x_5 = 0)))), (4, _)], [(101, _)]⟩ rfl (Fin.then (Tri.regionL ?_))))
   refine Oc om (Oc (op_add rfl rfl) (Oc oa ?_))
   refine OpsL.nil ?_
   exact Fin.againJ [1, 3, 4] [101] (zero_2 && (decide (x_5 = 0)), IntKind.i64.wrap (k_3 + 1)) (Option.some.inj h4) rfl
  ·refine Tri.exit (Fin.then_exit ?_)
   obtain rfl := hy5 _ (Option.some.inj h4).symm
   refine Fin.then_exit (Fin.block_exit ?_)
   exact Fin.join [1, 3] [101] zero_2 rfl rfl
 ·rintro zero_1 hv
  subst v1
  refine Tri.seq (Tri.seq (Tri.regionL ?_))
  refine Oc (op_field_p tyFld25_0 rfl rfl) (Oc (op_load_p1 tyOne4 rfl rfl rfl) ?_)
  refine OpsL.nilS ⟨[(1, _), (3, _), (18, B x0.Bad)], [(101, _)]⟩ rfl (Tri.ite h rfl (fun _ h => ?_) (fun _ h => ?_))
  ·refine Tri.seq (Tri.regionL ?_)
   refine Oc om (Oc om ?_)
   refine CgT zero_1 [] (fun g12 => trivial) (fun g12 => op_field_p tyFld25_1 rfl rfl) (CgT zero_1 [21] (fun g13 => ⟨g13, trivial⟩) (fun g13 => op_load_p1 tyOne4 rfl rfl rfl) (CgT zero_1 [22] (fun g14 => ⟨g14, trivial⟩) (fun g14 => op_not rfl) (Oc (op_pick_and (fun e => e) rfl rfl rfl rfl) (Oc oa ?_))))
   refine OpsL.nilS ⟨[(2, B (zero_1 && (!x0.Neg)))], []⟩ rfl (Tri.ret (Fin.then_ret ?_))
   obtain rfl := Option.some.inj h
   refine Fin.keepS ⟨[(2, _)], []⟩ rfl (Fin.result' [.one (.bool (zero_1 && (!x0.Neg)))] (.inl rfl) rfl (.cons (.tmp rfl) .nil) ⟨rfl, rfl⟩)
  ·refine Tri.skip (Fin.keepS ⟨[(1, _), (3, _)], [(101, _)]⟩ rfl (Fin.then (Tri.seq (Tri.regionL ?_))))
   refine Oc om (Oc (op_not rfl) (Oc om ?_))
   refine CgF (!(!zero_1)) [] (fun g15 => trivial) (fun g15 => op_field_p tyFld25_1 rfl rfl) (CgF (!(!zero_1)) [28] (fun g16 => ⟨g16, trivial⟩) (fun g16 => op_load_p1 tyOne4 rfl rfl rfl) (CgF (!(!zero_1)) [29] (fun g17 => ⟨g17, trivial⟩) (fun g17 => op_not rfl) (Oc (op_pick_or (fun e => by rw [e]; rfl) rfl rfl rfl rfl) (Oc oa ?_))))
   refine OpsL.nilS ⟨[(2, B ((!zero_1) || (!x0.Neg)))], []⟩ rfl (Tri.ret ?_)
   obtain rfl := Option.some.inj h
   refine Fin.keepS ⟨[(2, _)], []⟩ rfl (Fin.result' [.one (.bool ((!zero_1) || (!x0.Neg)))] (.inl rfl) rfl (.cons (.tmp rfl) .nil) ⟨rfl, rfl⟩)
def r3_Good_S (F : Nat) (x0 : Big) : Option Bool :=
 (r3_Valid_S F x0).bind fun x_1 => some (x_1 && (!x0.Bad))
theorem r3_Good_spec {F : Nat} {x0 : Big} {r : Bool} (h : r3_Good_S F x0 = some r) : Meets Tryz.prog (tabs mx) 65 [] [.agg (eBig x0)] (Is [] (.b (.one (.bool r)))) := by
 unfold r3_Good_S at h
 refine Meets.intro 12 Tryz.func65 Tryz.ntmps65 rfl (by simp) fun E => ?_
 show Tri _ E ⟨12, [], []⟩ _ ⟨[(0, .b (.agg (eBig x0)))], []⟩ _
 refine Tri.seq (Tri.regionL ?_)
 refine Oc (op_box (k := 101) rfl rfl) (Oc oa ?_)
 refine OpsL.nilS ⟨[(1, Pt 101 0)], [(101, .box 25 (eBig x0))]⟩ rfl (Tri.seq (Tri.regionL ?_))
 refine Oc (lp tyAgg25) ?_
 obtain ⟨x_1, e1, h⟩ := bnd h
 refine Oc (op_call0 (r3_Valid_spec e1) goes129 rfl rfl) (Oc oa ?_)
 refine OpsL.nilS ⟨[(1, _), (3, B x_1)], [(101, _)]⟩ rfl (Tri.seq (Tri.regionL ?_))
 refine Oc om (Oc om ?_)
 refine CgT x_1 [] (fun g2 => trivial) (fun g2 => op_field_p tyFld25_0 rfl rfl) (CgT x_1 [8] (fun g3 => ⟨g3, trivial⟩) (fun g3 => op_load_p1 tyOne4 rfl rfl rfl) (CgT x_1 [9] (fun g4 => ⟨g4, trivial⟩) (fun g4 => op_not rfl) (Oc (op_pick_and (fun e => e) rfl rfl rfl rfl) (Oc oa ?_))))
 refine OpsL.nilS ⟨[(2, B (x_1 && (!x0.Bad)))], []⟩ rfl (Tri.ret ?_)
 obtain rfl := Option.some.inj h
 refine Fin.keepS ⟨[(2, _)], []⟩ rfl (Fin.result' [.one (.bool (x_1 && (!x0.Bad)))] (.inl rfl) rfl (.cons (.tmp rfl) .nil) ⟨rfl, rfl⟩)
def r3_trim_S (F : Nat) (l0 : List Int) : Option (List Int) :=
 Option.bind (iter F (fun n_2 => (gcall (decide (0 < n_2)) (idx? l0 (IntKind.i64.wrap (n_2 - 1)))).bind fun x_4 => if ((decide (0 < n_2)) && (decide (x_4 = 0))) = true then (some (.inl (IntKind.i64.wrap (n_2 - 1)))) else (some (.inr n_2))) (l0.length : Int)) (fun n_1 => (take? l0 n_1).bind fun x_5 => some x_5)
theorem r3_trim_spec {F : Nat} {l0 : List Int} {r : (List Int)} (h : r3_trim_S F l0 = some r) : Meets Tryz.prog (tabs mx) 130 [] [.one (.sl 1 (l0.map eI))] (Is [] (.b (.one (.sl 1 (r.map eI))))) := by
 unfold r3_trim_S at h
 refine Meets.intro 21 Tryz.func130 Tryz.ntmps130 rfl (by simp) fun E => ?_
 show Tri _ E ⟨21, [], []⟩ _ ⟨[(0, .b (.one (.sl 1 (l0.map eI))))], []⟩ _
 refine Tri.seq (Tri.regionL ?_)
 refine Oc oa (OpsL.nilS ⟨[(0, .b (.one (.sl 1 (l0.map eI))))], []⟩ rfl (Tri.seq (Tri.regionL ?_)))
 refine Oc om (Oc (op_len_e' und89 rfl (List.length_map _)) (Oc oa ?_))
 refine OpsL.nilS ⟨[(0, _), (3, I (l0.length : Int))], []⟩ rfl ?_
 obtain ⟨v1, h2, h⟩ := bnd h
 refine Tri.seqJ (v := v1) (fun (n_1 : Int) => ⟨[(0, .b (.one (.sl 1 (l0.map eI)))), (3, I n_1)], []⟩) (fun z => z) ?_ ?_
 ·refine Tri.block (Tri.loopJ h2 (fun (n_2 : Int) => ⟨[(0, .b (.one (.sl 1 (l0.map eI)))), (3, I n_2)], []⟩) [0, 3] [] rfl ?_)
  rintro n_2 o3 h4 hy5
  refine Tri.seq (Tri.seq (Tri.regionL ?_))
  refine Oc om (Oc (op_gtr rfl rfl) (Oc om ?_))
  refine CgT (decide (0 < n_2)) [] (fun g6 => trivial) (fun g6 => om) (CgT (decide (0 < n_2)) [] (fun g7 => by exact trivial) (fun g7 => om) (CgT (decide (0 < n_2)) [10] (fun g8 => by exact ⟨g8, trivial⟩) (fun g8 => op_sub rfl rfl) ?_))
  obtain ⟨x_4, e10, h4⟩ := bnd h4
  refine CgT (decide (0 < n_2)) [9, 11] (fun g9 => ⟨g9, g9, trivial⟩) (fun g9 => op_index_e tySl89 (ix_lo (gc e10 g9)) (ix_map (e := eI) (gc e10 g9)) rfl rfl) (OpsL.keepS ⟨[(0, _), (3, _), (8, B (decide (0 < n_2))), (12, .opt (decide (0 < n_2)) (.eptr [.i x_4]))], []⟩ rfl (CgT (decide (0 < n_2)) [12] (fun g11 => ⟨g11, trivial⟩) (fun g11 => op_load_e1 tyOne3 rfl rfl) (CgT (decide (0 < n_2)) [13] (fun g12 => ⟨g12, trivial⟩) (fun g12 => op_eql rfl rfl) (Oc (op_pick_and (fun e => e) rfl rfl rfl rfl) (OpsL.nilS ⟨[(0, _), (3, _), (15, B ((decide (0 < n_2)) && (decide (x_4 = 0))))], []⟩ rfl ?_)))))
  refine Tri.ite h4 rfl (fun _ h4 => ?_) (fun _ h4 => ?_)
  ·refine Tri.skip (Fin.keepS ⟨[(0, _), (3, _)], []⟩ rfl (Fin.then (Tri.block (Tri.regionL ?_))))
   refine Oc om (Oc (op_sub rfl rfl) (Oc oa ?_))
   refine OpsL.nil (Fin.block_normal ?_)
   exact Fin.againJ [0, 3] [] (IntKind.i64.wrap (n_2 - 1)) (Option.some.inj h4) rfl
  ·refine Tri.exit (Fin.then_exit ?_)
   obtain rfl := hy5 _ (Option.some.inj h4).symm
   refine Fin.then_exit (Fin.block_exit ?_)
   exact Fin.join [0, 3] [] n_2 rfl rfl
 ·rintro n_1 hv
  subst v1
  refine Tri.seq (Tri.regionL ?_)
  refine Oc om (Oc om ?_)
  obtain ⟨x_5, e13, h⟩ := bnd h
  refine Oc (op_slice_h2 tySl89 e13 rfl rfl) (Oc oa ?_)
  refine OpsL.nilS ⟨[(2, .b (.one (.sl 1 (x_5.map eI))))], []⟩ rfl (Tri.ret ?_)
  obtain rfl := Option.some.inj h
  refine Fin.keepS ⟨[(2, _)], []⟩ rfl (Fin.result' [.one (.sl 1 (x_5.map eI))] (.inl rfl) rfl (.cons (.tmp rfl) .nil) ⟨rfl, rfl⟩)
def r3_digits_S (F : Nat) (x0 : Big) : Option (List Int) :=
 Option.bind (iter F (un2 fun out_2 k_3 => if (decide (k_3 < 16)) = true then ((idx? x0.W.l k_3).bind fun x_5 => (idx? x0.W.l k_3).bind fun x_6 => (quo? .u32 x_6 65536).bind fun x_7 => (app? out_2 [IntKind.i64.wrap (Int.tmod x_5 65536), IntKind.i64.wrap x_7]).bind fun x_8 => some (.inl (x_8, IntKind.i64.wrap (k_3 + 1)))) else (some (.inr out_2))) ([], 0)) (fun out_1 => (r3_trim_S F out_1).bind fun x_9 => some x_9)
theorem r3_digits_spec {F : Nat} {x0 : Big} {r : (List Int)} (h : r3_digits_S F x0 = some r) : Meets Tryz.prog (tabs mx) 66 [] [.agg (eBig x0)] (Is [] (.b (.one (.sl 1 (r.map eI))))) := by
 unfold r3_digits_S at h
 refine Meets.intro 26 Tryz.func66 Tryz.ntmps66 rfl (by simp) fun E => ?_
 show Tri _ E ⟨26, [], []⟩ _ ⟨[(0, .b (.agg (eBig x0)))], []⟩ _
 refine Tri.seq (Tri.regionL ?_)
 refine Oc (op_box (k := 101) rfl rfl) (Oc oa ?_)
 refine OpsL.nilS ⟨[(1, Pt 101 0)], [(101, .box 25 (eBig x0))]⟩ rfl (Tri.seq (Tri.regionL ?_))
 refine Oc oa (OpsL.nilS ⟨[(1, _), (3, .b (.one (.nil)))], [(101, _)]⟩ rfl ?_)
 obtain ⟨v1, h2, h⟩ := bnd h
 refine Tri.seqJ (v := v1) (fun (out_1 : List Int) => ⟨[(3, .b (.row 103))], [(103, .row 3 1 (out_1.map eI))]⟩) (fun z => z) ?_ ?_
 ·refine Tri.seq (Tri.regionL ?_)
  refine Oc oa (OpsL.nilS ⟨[(1, _), (3, _), (4, I 0)], [(101, _)]⟩ rfl (Tri.block (Tri.nilrow 3 103 1 3 rfl (by decide) rfl (Tri.loopJ h2 (un2 fun (out_2 : List Int) (k_3 : Int) => ⟨[(1, Pt 101 0), (3, .b (.row 103)), (4, I k_3)], [(101, .box 25 (eBig x0)), (103, .row 3 1 (out_2.map eI))]⟩) [1, 3, 4] [101, 103] rfl ?_))))
  rintro ⟨out_2, k_3⟩ o3 h4 hy5
  refine Tri.seq (Tri.seq (Tri.regionL ?_))
  refine Oc om (Oc (op_lss rfl rfl) ?_)
  refine OpsL.nilS ⟨[(1, _), (3, _), (4, _), (6, B (decide (k_3 < 16)))], [(101, _), (103, _)]⟩ rfl (Tri.ite h4 rfl (fun _ h4 => ?_) (fun _ h4 => ?_))
  ·refine Tri.skip (Fin.keepS ⟨[(1, _), (3, _), (4, _)], [(101, _), (103, _)]⟩ rfl (Fin.then (Tri.seq (Tri.block ?_))))
   refine Tri.keepS ⟨[(1, _), (3, _), (4, _)], [(101, _), (103, _)]⟩ rfl ?_
   obtain ⟨x_5, e6, h4⟩ := bnd h4
   obtain ⟨x_6, e7, h4⟩ := bnd h4
   obtain ⟨x_7, e8, h4⟩ := bnd h4
   obtain ⟨x_8, e9, h4⟩ := bnd h4
   refine Tri.regionYF mixed 14 [.b (.row 103), I k_3, Pt 101 2, .b (.ptr 101 (2 + (k_3 : Int).toNat * 1)), .b (.one (.int .u32 x_5)), .b (.one (.int .u32 (Int.tmod x_5 65536))), I (IntKind.i64.wrap (Int.tmod x_5 65536)), I k_3, Pt 101 2, .b (.ptr 101 (2 + (k_3 : Int).toNat * 1)), .b (.one (.int .u32 x_6)), .b (.one (.int .u32 x_7)), I (IntKind.i64.wrap x_7), .b (.one (.sl 1 ([IntKind.i64.wrap (Int.tmod x_5 65536), IntKind.i64.wrap x_7].map eI)))] [1, 3, 4] [101, 103] (s' := ⟨[(1, _), (3, _), (4, _)], [(101, _), (103, .row 3 1 (x_8.map eI))]⟩) rfl ⟨fun _ => .p om, fun _ => .p om, fun _ => .p (op_field_p tyFld25_2 rfl rfl), fun _ => .p (op_index_p tyArr23 (ix_lo e6) (ix_hi e6) rfl rfl rfl), fun _ => .p (op_load_p1 tyOne22 rfl rfl (arr_get (post := []) (k := .u32) [.bool x0.Bad, .bool x0.Neg] e6 rfl rfl rfl)), fun _ => .p (op_rem (by decide) rfl rfl), fun _ => .p (op_conv_wrap undi22 undi3 rfl), fun _ => .p om, fun _ => .p (op_field_p tyFld25_2 rfl rfl), fun _ => .p (op_index_p tyArr23 (ix_lo e7) (ix_hi e7) rfl rfl rfl), fun _ => .p (op_load_p1 tyOne22 rfl rfl (arr_get (post := []) (k := .u32) [.bool x0.Bad, .bool x0.Neg] e7 rfl rfl rfl)), fun _ => .p (op_quo2 e8 rfl rfl), fun _ => .p (op_conv_wrap undi22 undi3 rfl), fun _ => .p (op_buildSliceP (es := [IntKind.i64.wrap (Int.tmod x_5 65536), IntKind.i64.wrap x_7].map eI) tySl89 rfl rfl (uni_map fun _ => rfl) rfl (by decide) (by decide)), trivial⟩ ⟨_, by exact .p (op_append tySl89 (app_b e9) (app_m e9) rfl rfl rfl (app_map e9) rfl), ⟨_, by exact .p oa, rfl⟩⟩ rfl (Fin.block_normal (Fin.keepS ⟨[(1, _), (3, _), (4, _)], [(101, _), (103, _)]⟩ rfl (Fin.then (Tri.regionL ?_))))
   refine Oc om (Oc (op_add rfl rfl) (Oc oa ?_))
   refine OpsL.nil ?_
   exact Fin.againJ [1, 3, 4] [101, 103] (x_8, IntKind.i64.wrap (k_3 + 1)) (Option.some.inj h4) rfl
  ·refine Tri.exit (Fin.then_exit ?_)
   obtain rfl := hy5 _ (Option.some.inj h4).symm
   refine Fin.then_exit (Fin.block_exit ?_)
   exact Fin.join [3] [103] out_2 rfl rfl
 ·rintro out_1 hv
  subst v1
  refine Tri.seq (Tri.regionL ?_)
  refine Oc om (OpsL.persist 103 rfl ?_)
  obtain ⟨x_9, e10, h⟩ := bnd h
  refine Oc (op_call0 (r3_trim_spec e10) goes130 rfl rfl) (Oc oa ?_)
  refine OpsL.nilS ⟨[(2, .b (.one (.sl 1 (x_9.map eI))))], []⟩ rfl (Tri.ret ?_)
  obtain rfl := Option.some.inj h
  refine Fin.keepS ⟨[(2, _)], []⟩ rfl (Fin.result' [.one (.sl 1 (x_9.map eI))] (.inl rfl) rfl (.cons (.tmp rfl) .nil) ⟨rfl, rfl⟩)
def r3_Sign_S (F : Nat) (x0 : Big) : Option Int :=
 (r3_Good_S F x0).bind fun x_1 => (gcall (!(!x_1)) (r3_digits_S F x0)).bind fun x_2 => if ((!x_1) || (decide ((x_2.length : Int) = 0))) = true then (some 0) else (if x0.Neg = true then (some (-1)) else (some 1))
theorem r3_Sign_spec {F : Nat} {x0 : Big} {r : Int} (h : r3_Sign_S F x0 = some r) : Meets Tryz.prog (tabs mx) 103 [] [.agg (eBig x0)] (Is [] (.b (.one (.i r)))) := by
 unfold r3_Sign_S at h
 refine Meets.intro 14 Tryz.func103 Tryz.ntmps103 rfl (by simp) fun E => ?_
 show Tri _ E ⟨14, [], []⟩ _ ⟨[(0, .b (.agg (eBig x0)))], []⟩ _
 refine Tri.seq (Tri.regionL ?_)
 refine Oc (op_box (k := 101) rfl rfl) (Oc oa ?_)
 refine OpsL.nilS ⟨[(1, Pt 101 0)], [(101, .box 25 (eBig x0))]⟩ rfl (Tri.seq (Tri.seq (Tri.regionL ?_)))
 refine Oc (lp tyAgg25) ?_
 obtain ⟨x_1, e1, h⟩ := bnd h
 refine Oc (op_call0 (r3_Good_spec e1) goes65 rfl rfl) (Oc (op_not rfl) (Oc om ?_))
 refine CgF (!(!x_1)) [] (fun g2 => trivial) (fun g2 => lp tyAgg25) (OpsL.keepS ⟨[(1, _), (6, B (!x_1)), (7, .opt (!(!x_1)) (.agg (eBig x0)))], [(101, _)]⟩ rfl ?_)
 obtain ⟨x_2, e4, h⟩ := bnd h
 refine CgF (!(!x_1)) [7] (fun g3 => ⟨g3, trivial⟩) (fun g3 => op_call0 (r3_digits_spec (gc e4 g3)) goes66 rfl rfl) (CgF (!(!x_1)) [8] (fun g5 => ⟨g5, trivial⟩) (fun g5 => op_len_e' und89 rfl (List.length_map _)) (CgF (!(!x_1)) [9] (fun g6 => ⟨g6, trivial⟩) (fun g6 => op_eql rfl rfl) (Oc (op_pick_or (fun e => by rw [e]; rfl) rfl rfl rfl rfl) (OpsL.nilS ⟨[(1, _), (11, B ((!x_1) || (decide ((x_2.length : Int) = 0))))], [(101, _)]⟩ rfl (Tri.ite h rfl (fun _ h => ?_) (fun _ h => ?_))))))
 ·refine Tri.seq (Tri.regionL ?_)
  refine Oc oa (OpsL.nilS ⟨[(2, I 0)], []⟩ rfl (Tri.ret (Fin.then_ret ?_)))
  obtain rfl := Option.some.inj h
  refine Fin.keepS ⟨[(2, _)], []⟩ rfl (Fin.result' [.one (.i 0)] (.inl rfl) rfl (.cons (.tmp rfl) .nil) ⟨rfl, rfl⟩)
 ·refine Tri.skip (Fin.keepS ⟨[(1, _)], [(101, _)]⟩ rfl (Fin.then (Tri.seq (Tri.seq (Tri.regionL ?_)))))
  refine Oc (op_field_p tyFld25_1 rfl rfl) (Oc (op_load_p1 tyOne4 rfl rfl rfl) ?_)
  refine OpsL.nilS ⟨[(13, B x0.Neg)], []⟩ rfl (Tri.ite h rfl (fun _ h => ?_) (fun _ h => ?_))
  ·refine Tri.seq (Tri.regionL ?_)
   refine Oc oa (OpsL.nilS ⟨[(2, I (-1))], []⟩ rfl (Tri.ret (Fin.then_ret ?_)))
   obtain rfl := Option.some.inj h
   refine Fin.keepS ⟨[(2, _)], []⟩ rfl (Fin.result' [.one (.i (-1))] (.inl rfl) rfl (.cons (.tmp rfl) .nil) ⟨rfl, rfl⟩)
  ·refine Tri.skip (Fin.keepS ⟨[], []⟩ rfl (Fin.then (Tri.seq (Tri.regionL ?_))))
   refine Oc oa (OpsL.nilS ⟨[(2, I 1)], []⟩ rfl (Tri.ret ?_))
   obtain rfl := Option.some.inj h
   refine Fin.keepS ⟨[(2, _)], []⟩ rfl (Fin.result' [.one (.i 1)] (.inl rfl) rfl (.cons (.tmp rfl) .nil) ⟨rfl, rfl⟩)
def r3_word_S (F : Nat) (x0 : Big) : Option (Int × Bool) :=
 (r3_Good_S F x0).bind fun x_1 => if ((!x_1) || (decide (1073741824 ≤ x0.W.a1))) = true then (some (0, false)) else (Option.bind (iter F (fun k_2 => if (decide (k_2 < 16)) = true then ((idx? x0.W.l k_2).bind fun x_3 => if (decide (x_3 ≠ 0)) = true then (some (.inr (.inr (0, false)))) else (some (.inl (IntKind.i64.wrap (k_2 + 1))))) else (some (.inr (.inl ())))) 2) (alt2 (fun _ => letN (IntKind.i64.wrap ((IntKind.i64.wrap x0.W.a1) * 4294967296)) fun x_4 => letN (IntKind.i64.wrap (x_4 + (IntKind.i64.wrap x0.W.a0))) fun x_5 => if x0.Neg = true then (some (IntKind.i64.wrap (-x_5), true)) else (some (x_5, true))) (fun y => some y)))
theorem r3_word_spec {F : Nat} {x0 : Big} {r : Int × Bool} (h : r3_word_S F x0 = some r) : Meets Tryz.prog (tabs mx) 152 [] [.agg (eBig x0)] (Is [] (.tup [.one (.i r.1), .one (.bool r.2)])) := by
 unfold r3_word_S at h
 refine Meets.intro 41 Tryz.func152 Tryz.ntmps152 rfl (by simp) fun E => ?_
 show Tri _ E ⟨41, [], []⟩ _ ⟨[(0, .b (.agg (eBig x0)))], []⟩ _
 refine Tri.seq (Tri.regionL ?_)
 refine Oc (op_box (k := 101) rfl rfl) (Oc oa (Oc oa ?_))
 refine OpsL.nilS ⟨[(1, Pt 101 0)], [(101, .box 25 (eBig x0))]⟩ rfl (Tri.seq (Tri.regionL ?_))
 refine Oc (lp tyAgg25) ?_
 obtain ⟨x_1, e1, h⟩ := bnd h
 refine Oc (op_call0 (r3_Good_spec e1) goes65 rfl rfl) (Oc oa ?_)
 refine OpsL.nilS ⟨[(1, _), (4, B x_1)], [(101, _)]⟩ rfl (Tri.seq (Tri.seq (Tri.regionL ?_)))
 refine Oc om (Oc (op_not rfl) (Oc om ?_))
 refine CgF (!(!x_1)) [] (fun g2 => trivial) (fun g2 => op_field_p tyFld25_2 rfl rfl) (CgF (!(!x_1)) [12] (fun g3 => ⟨g3, trivial⟩) (fun g3 => op_index_p tyArr23 (by decide) (by decide) rfl rfl rfl) (CgF (!(!x_1)) [13] (fun g4 => ⟨g4, trivial⟩) (fun g4 => op_load_p1 tyOne22 rfl rfl rfl) (CgF (!(!x_1)) [14] (fun g5 => ⟨g5, trivial⟩) (fun g5 => op_geq rfl rfl) (Oc (op_pick_or (fun e => by rw [e]; rfl) rfl rfl rfl rfl) (OpsL.nilS ⟨[(1, _), (16, B ((!x_1) || (decide (1073741824 ≤ x0.W.a1))))], [(101, _)]⟩ rfl ?_)))))
 refine Tri.ite h rfl (fun _ h => ?_) (fun _ h => ?_)
 ·refine Tri.seq (Tri.regionL ?_)
  refine Oc oa (Oc oa ?_)
  refine OpsL.nilS ⟨[(2, I 0), (3, B false)], []⟩ rfl (Tri.ret (Fin.then_ret ?_))
  obtain rfl := Option.some.inj h
  refine Fin.keepS ⟨[(2, _), (3, _)], []⟩ rfl (Fin.result' [.one (.i 0), .one (.bool false)] (.inl rfl) rfl (.cons (.tmp rfl) (.cons (.tmp rfl) .nil)) ⟨rfl, rfl⟩)
 ·refine Tri.skip (Fin.keepS ⟨[(1, _)], [(101, _)]⟩ rfl (Fin.then ?_))
  obtain ⟨v6, h7, h⟩ := bnd h
  refine Tri.seqJ (v := v6) (fun (_ : Unit) => ⟨[(1, Pt 101 0)], [(101, .box 25 (eBig x0))]⟩) (fun z => .inl z) ?_ ?_
  ·refine Tri.seq (Tri.regionL ?_)
   refine Oc oa (OpsL.nilS ⟨[(1, _), (5, I 2)], [(101, _)]⟩ rfl (Tri.block (Tri.loopJ h7 (fun (k_2 : Int) => ⟨[(1, Pt 101 0), (5, I k_2)], [(101, .box 25 (eBig x0))]⟩) [1, 5] [101] rfl ?_)))
   rintro k_2 o8 h9 hy10
   refine Tri.seq (Tri.seq (Tri.regionL ?_))
   refine Oc om (Oc (op_lss rfl rfl) ?_)
   refine OpsL.nilS ⟨[(1, _), (5, _), (18, B (decide (k_2 < 16)))], [(101, _)]⟩ rfl (Tri.ite h9 rfl (fun _ h9 => ?_) (fun _ h9 => ?_))
   ·refine Tri.skip (Fin.keepS ⟨[(1, _), (5, _)], [(101, _)]⟩ rfl (Fin.then (Tri.seq (Tri.block (Tri.seq (Tri.regionL ?_))))))
    refine Oc om (Oc (op_field_p tyFld25_2 rfl rfl) ?_)
    obtain ⟨x_3, e11, h9⟩ := bnd h9
    refine Oc (op_index_p tyArr23 (ix_lo e11) (ix_hi e11) rfl rfl rfl) (Oc (op_load_p1 tyOne22 rfl rfl (arr_get (post := []) (k := .u32) [.bool x0.Bad, .bool x0.Neg] e11 rfl rfl rfl)) (Oc (op_neq rfl rfl) ?_))
    refine OpsL.nilS ⟨[(1, _), (5, _), (25, B (decide (x_3 ≠ 0)))], [(101, _)]⟩ rfl (Tri.ite h9 rfl (fun _ h9 => ?_) (fun _ h9 => ?_))
    ·refine Tri.seq (Tri.regionL ?_)
     refine Oc oa (Oc oa ?_)
     refine OpsL.nilS ⟨[(2, I 0), (3, B false)], []⟩ rfl (Tri.ret (Fin.block_ret (Fin.then_ret ?_)))
     obtain rfl := hy10 _ (Option.some.inj h9).symm
     refine Fin.then_ret (Fin.block_ret (Fin.then_ret ?_))
     obtain rfl := Option.some.inj h
     refine Fin.keepS ⟨[(2, _), (3, _)], []⟩ rfl (Fin.result' [.one (.i 0), .one (.bool false)] (.inl rfl) rfl (.cons (.tmp rfl) (.cons (.tmp rfl) .nil)) ⟨rfl, rfl⟩)
    ·refine Tri.skip (Fin.block_normal (Fin.keepS ⟨[(1, _), (5, _)], [(101, _)]⟩ rfl (Fin.then (Tri.regionL ?_))))
     refine Oc om (Oc (op_add rfl rfl) (Oc oa ?_))
     refine OpsL.nil ?_
     exact Fin.againJ [1, 5] [101] (IntKind.i64.wrap (k_2 + 1)) (Option.some.inj h9) rfl
   ·refine Tri.exit (Fin.then_exit ?_)
    obtain rfl := hy10 _ (Option.some.inj h9).symm
    refine Fin.then_exit (Fin.block_exit ?_)
    exact Fin.join [1] [101] () rfl rfl
  ·rintro _ hv
   subst v6
   refine Tri.seq (Tri.regionL ?_)
   refine Oc (op_field_p tyFld25_2 rfl rfl) (Oc (op_index_p tyArr23 (by decide) (by decide) rfl rfl rfl) (Oc (op_load_p1 tyOne22 rfl rfl rfl) (Oc (op_conv_wrap undi22 undi3 rfl) ?_)))
   refine OpsL.consI .i64 h rfl (op_mul rfl rfl) (fun x_4 h => ?_)
   refine Oc (op_field_p tyFld25_2 rfl rfl) (Oc (op_index_p tyArr23 (by decide) (by decide) rfl rfl rfl) ?_)
   refine OpsL.keepS ⟨[(1, _), (30, I x_4), (32, Pt 101 2)], [(101, _)]⟩ rfl (Oc (op_load_p1 tyOne22 rfl rfl rfl) (Oc (op_conv_wrap undi22 undi3 rfl) ?_))
   refine OpsL.consI .i64 h rfl (op_add rfl rfl) (fun x_5 h => ?_)
   refine Oc oa (OpsL.nilS ⟨[(1, _), (6, I x_5)], [(101, _)]⟩ rfl (Tri.seq (Tri.seq (Tri.regionL ?_))))
   refine Oc (op_field_p tyFld25_1 rfl rfl) (Oc (op_load_p1 tyOne4 rfl rfl rfl) ?_)
   refine OpsL.nilS ⟨[(6, _), (37, B x0.Neg)], []⟩ rfl (Tri.ite h rfl (fun _ h => ?_) (fun _ h => ?_))
   ·refine Tri.seq (Tri.regionL ?_)
    refine Oc om (Oc (op_neg rfl) (Oc oa (Oc oa ?_)))
    refine OpsL.nilS ⟨[(2, I (IntKind.i64.wrap (-x_5))), (3, B true)], []⟩ rfl (Tri.ret (Fin.then_ret ?_))
    obtain rfl := Option.some.inj h
    refine Fin.keepS ⟨[(2, _), (3, _)], []⟩ rfl (Fin.result' [.one (.i (IntKind.i64.wrap (-x_5))), .one (.bool true)] (.inl rfl) rfl (.cons (.tmp rfl) (.cons (.tmp rfl) .nil)) ⟨rfl, rfl⟩)
   ·refine Tri.skip (Fin.keepS ⟨[(6, _)], []⟩ rfl (Fin.then (Tri.seq (Tri.regionL ?_))))
    refine Oc om (Oc oa (Oc oa ?_))
    refine OpsL.nilS ⟨[(2, I x_5), (3, B true)], []⟩ rfl (Tri.ret ?_)
    obtain rfl := Option.some.inj h
    refine Fin.keepS ⟨[(2, _), (3, _)], []⟩ rfl (Fin.result' [.one (.i x_5), .one (.bool true)] (.inl rfl) rfl (.cons (.tmp rfl) (.cons (.tmp rfl) .nil)) ⟨rfl, rfl⟩)
def r3_Bad_S (F : Nat) : Option Big :=
 some (⟨true, false, A16.zero⟩ : Big)
theorem r3_Bad_spec {F : Nat} {r : Big} (h : r3_Bad_S F = some r) : Meets Tryz.prog (tabs mx) 151 [] [] (Is [] (.b (.agg (eBig r)))) := by
 unfold r3_Bad_S at h
 refine Meets.intro 2 Tryz.func151 Tryz.ntmps151 rfl (by simp) fun E => ?_
 show Tri _ E ⟨2, [], []⟩ _ ⟨[], []⟩ _
 refine Tri.seq (Tri.regionL ?_)
 refine Oc (op_alloc (k := 101) tyZero25 rfl) (OpsL.nilS ⟨[(0, Pt 101 0)], [(101, .box 25 zBig)]⟩ rfl (Tri.seq (Tri.regionL ?_)))
 refine Oc (op_build tyBuild25 rfl rfl) (Oc (op_store_p tyAgg25 rfl rfl rfl rfl (Nat.le_of_ble_eq_true rfl) rfl) ?_)
 refine OpsL.nilS ⟨[(0, _)], [(101, .box 25 (.bool true :: .bool false :: (eW A16.zero)))]⟩ rfl (Tri.ret ?_)
 obtain rfl := Option.some.inj h
 refine Fin.keepS ⟨[(0, _)], [(101, _)]⟩ rfl (Fin.result' [.agg (.bool true :: .bool false :: (eW A16.zero))] (.inl rfl) rfl (.cons (.agg tyAgg25 rfl rfl rfl rfl) .nil) ⟨rfl, rfl⟩)
def r3_number_S (F : Nat) (neg0 : Bool) (l0 : List Int) : Option Big :=
 (r3_trim_S F l0).bind fun x_1 => if (decide (32 < (x_1.length : Int))) = true then ((r3_Bad_S F).bind fun x_2 => some x_2) else (letN (⟨false, neg0 && (decide (0 < (x_1.length : Int))), A16.zero⟩ : Big) fun x_3 => Option.bind (iter F (un2 fun out_5 k_6 => if (decide (k_6 < (x_1.length : Int))) = true then (Option.bind (if (decide ((Int.tmod k_6 2) = 0)) = true then ((quo? .i64 k_6 2).bind fun x_9 => (quo? .i64 k_6 2).bind fun x_10 => (idx? out_5.W.l x_10).bind fun x_11 => (idx? x_1 k_6).bind fun x_12 => (idx? out_5.W.l x_9).bind fun x_13 => some (⟨out_5.Bad, out_5.Neg, out_5.W.set x_9 (IntKind.u32.wrap (x_11 + (IntKind.u32.wrap x_12)))⟩ : Big)) else ((quo? .i64 k_6 2).bind fun x_14 => (quo? .i64 k_6 2).bind fun x_15 => (idx? out_5.W.l x_15).bind fun x_16 => (idx? x_1 k_6).bind fun x_17 => (idx? out_5.W.l x_14).bind fun x_18 => some (⟨out_5.Bad, out_5.Neg, out_5.W.set x_14 (IntKind.u32.wrap (x_16 + (IntKind.u32.wrap ((IntKind.u32.wrap x_17) * 65536))))⟩ : Big))) (fun out_8 => some (.inl (out_8, IntKind.i64.wrap (k_6 + 1))))) else (some (.inr out_5))) (x_3, 0)) (fun out_4 => some out_4))
theorem r3_number_spec {F : Nat} {neg0 : Bool} {l0 : List Int} {r : Big} (h : r3_number_S F neg0 l0 = some r) : Meets Tryz.prog (tabs mx) 156 [] [.one (.bool neg0), .one (.sl 1 (l0.map eI))] (Is [] (.b (.agg (eBig r)))) := by
 unfold r3_number_S at h
 refine Meets.intro 62 Tryz.func156 Tryz.ntmps156 rfl (by simp) fun E => ?_
 show Tri _ E ⟨62, [], []⟩ _ ⟨[(0, B neg0), (1, .b (.one (.sl 1 (l0.map eI))))], []⟩ _
 refine Tri.seq (Tri.regionL ?_)
 refine Oc (op_alloc (k := 101) tyZero25 rfl) (OpsL.nilS ⟨[(0, B neg0), (1, .b (.one (.sl 1 (l0.map eI)))), (4, Pt 101 0)], [(101, .box 25 zBig)]⟩ rfl (Tri.seq (Tri.regionL ?_)))
 refine Oc om ?_
 obtain ⟨x_1, e1, h⟩ := bnd h
 refine Oc (op_call0 (r3_trim_spec e1) goes130 rfl rfl) (Oc oa ?_)
 refine OpsL.nilS ⟨[(0, _), (4, _), (5, .b (.one (.sl 1 (x_1.map eI))))], [(101, _)]⟩ rfl (Tri.seq (Tri.seq (Tri.regionL ?_)))
 refine Oc om (Oc (op_len_e' und89 rfl (List.length_map _)) (Oc (op_gtr rfl rfl) ?_))
 refine OpsL.nilS ⟨[(0, _), (4, _), (5, _), (12, B (decide (32 < (x_1.length : Int))))], [(101, _)]⟩ rfl (Tri.ite h rfl (fun _ h => ?_) (fun _ h => ?_))
 ·refine Tri.seq (Tri.regionL ?_)
  obtain ⟨x_2, e2, h⟩ := bnd h
  refine Oc (op_call0 (r3_Bad_spec e2) goes151 rfl rfl) (Oc (op_store_p tyAgg25 rfl rfl rfl rfl (Nat.le_of_ble_eq_true rfl) rfl) ?_)
  refine OpsL.nilS ⟨[(4, _)], [(101, .box 25 (eBig x_2))]⟩ rfl (Tri.ret (Fin.then_ret ?_))
  obtain rfl := Option.some.inj h
  refine Fin.keepS ⟨[(4, _)], [(101, _)]⟩ rfl (Fin.result' [.agg (eBig x_2)] (.inl rfl) rfl (.cons (.agg tyAgg25 rfl rfl rfl rfl) .nil) ⟨rfl, rfl⟩)
 ·refine Tri.skip (Fin.keepS ⟨[(0, _), (4, _), (5, _)], [(101, _)]⟩ rfl (Fin.then (Tri.seq (Tri.regionL ?_))))
  refine Oc om (Oc om ?_)
  refine CgT neg0 [] (fun g3 => trivial) (fun g3 => om) (CgT neg0 [16] (fun g4 => by exact ⟨g4, trivial⟩) (fun g4 => op_len_e' und89 rfl (List.length_map _)) (CgT neg0 [17] (fun g5 => by exact ⟨g5, trivial⟩) (fun g5 => op_gtr rfl rfl) (Oc (op_pick_and (fun e => e) rfl rfl rfl rfl) (OpsL.keepS ⟨[(4, _), (5, _), (19, B (neg0 && (decide (0 < (x_1.length : Int)))))], [(101, _)]⟩ rfl (OpsL.consA eBig h rfl (op_build tyBuild25 rfl rfl) (fun x_3 h => ?_))))))
  refine Oc (op_alloc (k := 102) tyZero25 rfl) (Oc (op_store_p tyAgg25 rfl rfl rfl rfl (Nat.le_of_ble_eq_true rfl) rfl) ?_)
  refine OpsL.nilS ⟨[(4, _), (5, _), (6, Pt 102 0)], [(101, _), (102, .box 25 (eBig x_3))]⟩ rfl ?_
  obtain ⟨v6, h7, h⟩ := bnd h
  refine Tri.seqJ (v := v6) (fun (out_4 : Big) => ⟨[(4, Pt 101 0), (6, Pt 102 0)], [(101, .box 25 zBig), (102, .box 25 (eBig out_4))]⟩) (fun z => z) ?_ ?_
  ·refine Tri.seq (Tri.regionL ?_)
   refine Oc oa (OpsL.nilS ⟨[(4, _), (5, _), (6, _), (7, I 0)], [(101, _), (102, _)]⟩ rfl (Tri.block (Tri.loopJ h7 (un2 fun (out_5 : Big) (k_6 : Int) => ⟨[(4, Pt 101 0), (5, .b (.one (.sl 1 (x_1.map eI)))), (6, Pt 102 0), (7, I k_6)], [(101, .box 25 zBig), (102, .box 25 (eBig out_5))]⟩) [4, 5, 6, 7] [101, 102] rfl ?_)))
   rintro ⟨out_5, k_6⟩ o8 h9 hy10
   refine Tri.seq (Tri.seq (Tri.regionL ?_))
   refine Oc om (Oc om (Oc (op_len_e' und89 rfl (List.length_map _)) (Oc (op_lss rfl rfl) ?_)))
   refine OpsL.nilS ⟨[(4, _), (5, _), (6, _), (7, _), (24, B (decide (k_6 < (x_1.length : Int))))], [(101, _), (102, _)]⟩ rfl (Tri.ite h9 rfl (fun _ h9 => ?_) (fun _ h9 => ?_))
   ·refine Tri.skip (Fin.keepS ⟨[(4, _), (5, _), (6, _), (7, _)], [(101, _), (102, _)]⟩ rfl (Fin.then ?_))
    obtain ⟨v11, h12, h9⟩ := bnd h9
    refine Tri.seqJ (v := v11) (fun (out_8 : Big) => ⟨[(4, Pt 101 0), (5, .b (.one (.sl 1 (x_1.map eI)))), (6, Pt 102 0), (7, I k_6)], [(101, .box 25 zBig), (102, .box 25 (eBig out_8))]⟩) (fun z => z) ?_ ?_
    ·refine Tri.block (Tri.seq (Tri.regionL ?_))
     refine Oc om (Oc (op_rem (by decide) rfl rfl) (Oc (op_eql rfl rfl) ?_))
     refine OpsL.nilS ⟨[(4, _), (5, _), (6, _), (7, _), (29, B (decide ((Int.tmod k_6 2) = 0)))], [(101, _), (102, _)]⟩ rfl (Tri.ite h12 rfl (fun _ h12 => ?_) (fun _ h12 => ?_))
     ·refine Tri.keepS ⟨[(4, _), (5, _), (6, _), (7, _)], [(101, _), (102, _)]⟩ rfl ?_
      obtain ⟨x_9, e13, h12⟩ := bnd h12
      obtain ⟨x_10, e14, h12⟩ := bnd h12
      obtain ⟨x_11, e15, h12⟩ := bnd h12
      obtain ⟨x_12, e16, h12⟩ := bnd h12
      obtain ⟨x_13, e17, h12⟩ := bnd h12
      refine Tri.regionYF mixed 15 [I k_6, I x_9, I k_6, I x_10, Pt 102 2, .b (.ptr 102 (2 + (x_10 : Int).toNat * 1)), .b (.one (.int .u32 x_11)), .b (.one (.sl 1 (x_1.map eI))), I k_6, .b (.eptr [.i x_12]), I x_12, .b (.one (.int .u32 (IntKind.u32.wrap x_12))), .b (.one (.int .u32 (IntKind.u32.wrap (x_11 + (IntKind.u32.wrap x_12))))), Pt 102 2, .b (.ptr 102 (2 + (x_9 : Int).toNat * 1))] [4, 5, 6, 7] [101, 102] (s' := ⟨[(4, _), (5, _), (6, _), (7, _)], [(101, _), (102, .box 25 (.bool out_5.Bad :: .bool out_5.Neg :: (eW (out_5.W.set x_9 (IntKind.u32.wrap (x_11 + (IntKind.u32.wrap x_12)))))))]⟩) rfl ⟨fun _ => .p om, fun _ => .p (op_quo2 e13 rfl rfl), fun _ => .p om, fun _ => .p (op_quo2 e14 rfl rfl), fun _ => .p (op_field_p tyFld25_2 rfl rfl), fun _ => .p (op_index_p tyArr23 (ix_lo e15) (ix_hi e15) rfl rfl rfl), fun _ => .p (op_load_p1 tyOne22 rfl rfl (arr_get (post := []) (k := .u32) [.bool out_5.Bad, .bool out_5.Neg] e15 rfl rfl rfl)), fun _ => .p om, fun _ => .p om, fun _ => .p (op_index_e tySl89 (ix_lo e16) (ix_map (e := eI) e16) rfl rfl), fun _ => .p (op_load_e1 tyOne3 rfl rfl), fun _ => .p (op_conv_wrap undi3 undi22 rfl), fun _ => .p (op_add rfl rfl), fun _ => .p (op_field_p tyFld25_2 rfl rfl), fun _ => .p (op_index_p tyArr23 (ix_lo e17) (ix_hi e17) rfl rfl rfl), trivial⟩ ⟨_, by exact .p (op_store_p1 tyOne22 rfl rfl rfl (arr_lt (post := []) (k := .u32) [.bool out_5.Bad, .bool out_5.Neg] e17 rfl rfl rfl) (arr_set (post := []) (k := .u32) [.bool out_5.Bad, .bool out_5.Neg] e17 rfl rfl (A16.set_l out_5.W x_9 (IntKind.u32.wrap (x_11 + (IntKind.u32.wrap x_12)))) rfl rfl)), rfl⟩ rfl (Fin.block_normal ?_)
      exact Fin.join [4, 5, 6, 7] [101, 102] (⟨out_5.Bad, out_5.Neg, out_5.W.set x_9 (IntKind.u32.wrap (x_11 + (IntKind.u32.wrap x_12)))⟩ : Big) (Option.some.inj h12) rfl
     ·refine Tri.keepS ⟨[(4, _), (5, _), (6, _), (7, _)], [(101, _), (102, _)]⟩ rfl ?_
      obtain ⟨x_14, e18, h12⟩ := bnd h12
      obtain ⟨x_15, e19, h12⟩ := bnd h12
      obtain ⟨x_16, e20, h12⟩ := bnd h12
      obtain ⟨x_17, e21, h12⟩ := bnd h12
      obtain ⟨x_18, e22, h12⟩ := bnd h12
      refine Tri.regionYF mixed 16 [I k_6, I x_14, I k_6, I x_15, Pt 102 2, .b (.ptr 102 (2 + (x_15 : Int).toNat * 1)), .b (.one (.int .u32 x_16)), .b (.one (.sl 1 (x_1.map eI))), I k_6, .b (.eptr [.i x_17]), I x_17, .b (.one (.int .u32 (IntKind.u32.wrap x_17))), .b (.one (.int .u32 (IntKind.u32.wrap ((IntKind.u32.wrap x_17) * 65536)))), .b (.one (.int .u32 (IntKind.u32.wrap (x_16 + (IntKind.u32.wrap ((IntKind.u32.wrap x_17) * 65536)))))), Pt 102 2, .b (.ptr 102 (2 + (x_14 : Int).toNat * 1))] [4, 5, 6, 7] [101, 102] (s' := ⟨[(4, _), (5, _), (6, _), (7, _)], [(101, _), (102, .box 25 (.bool out_5.Bad :: .bool out_5.Neg :: (eW (out_5.W.set x_14 (IntKind.u32.wrap (x_16 + (IntKind.u32.wrap ((IntKind.u32.wrap x_17) * 65536))))))))]⟩) rfl ⟨fun _ => .p om, fun _ => .p (op_quo2 e18 rfl rfl), fun _ => .p om, fun _ => .p (op_quo2 e19 rfl rfl), fun _ => .p (op_field_p tyFld25_2 rfl rfl), fun _ => .p (op_index_p tyArr23 (ix_lo e20) (ix_hi e20) rfl rfl rfl), fun _ => .p (op_load_p1 tyOne22 rfl rfl (arr_get (post := []) (k := .u32) [.bool out_5.Bad, .bool out_5.Neg] e20 rfl rfl rfl)), fun _ => .p om, fun _ => .p om, fun _ => .p (op_index_e tySl89 (ix_lo e21) (ix_map (e := eI) e21) rfl rfl), fun _ => .p (op_load_e1 tyOne3 rfl rfl), fun _ => .p (op_conv_wrap undi3 undi22 rfl), fun _ => .p (op_mul rfl rfl), fun _ => .p (op_add rfl rfl), fun _ => .p (op_field_p tyFld25_2 rfl rfl), fun _ => .p (op_index_p tyArr23 (ix_lo e22) (ix_hi e22) rfl rfl rfl), trivial⟩ ⟨_, by exact .p (op_store_p1 tyOne22 rfl rfl rfl (arr_lt (post := []) (k := .u32) [.bool out_5.Bad, .bool out_5.Neg] e22 rfl rfl rfl) (arr_set (post := []) (k := .u32) [.bool out_5.Bad, .bool out_5.Neg] e22 rfl rfl (A16.set_l out_5.W x_14 (IntKind.u32.wrap (x_16 + (IntKind.u32.wrap ((IntKind.u32.wrap x_17) * 65536))))) rfl rfl)), rfl⟩ rfl (Fin.block_normal ?_)
      exact Fin.join [4, 5, 6, 7] [101, 102] (⟨out_5.Bad, out_5.Neg, out_5.W.set x_14 (IntKind.u32.wrap (x_16 + (IntKind.u32.wrap ((IntKind.u32.wrap x_17) * 65536))))⟩ : Big) (Option.some.inj h12) rfl
    ·rintro out_8 hv
     subst v11
     refine Tri.regionL (Oc om (Oc (op_add rfl rfl) (Oc oa ?_)))
     refine OpsL.nil ?_
     exact Fin.againJ [4, 5, 6, 7] [101, 102] (out_8, IntKind.i64.wrap (k_6 + 1)) (Option.some.inj h9) rfl
   ·refine Tri.exit (Fin.then_exit ?_)
    obtain rfl := hy10 _ (Option.some.inj h9).symm
    refine Fin.then_exit (Fin.block_exit ?_)
    exact Fin.join [4, 6] [101, 102] out_5 rfl rfl
  ·rintro out_4 hv
   subst v6
   refine Tri.seq (Tri.regionL ?_)
   refine Oc (lp tyAgg25) (Oc (op_store_p tyAgg25 rfl rfl rfl rfl (Nat.le_of_ble_eq_true rfl) rfl) ?_)
   refine OpsL.nilS ⟨[(4, _)], [(101, .box 25 (eBig out_4))]⟩ rfl (Tri.ret ?_)
   obtain rfl := Option.some.inj h
   refine Fin.keepS ⟨[(4, _)], [(101, _)]⟩ rfl (Fin.result' [.agg (eBig out_4)] (.inl rfl) rfl (.cons (.agg tyAgg25 rfl rfl rfl rfl) .nil) ⟨rfl, rfl⟩)
def r3_digit_S (F : Nat) (l0 : List Int) (k0 : Int) : Option Int :=
 if (decide (k0 < (l0.length : Int))) = true then ((idx? l0 k0).bind fun x_1 => some x_1) else (some 0)
theorem r3_digit_spec {F : Nat} {l0 : List Int} {k0 : Int} {r : Int} (h : r3_digit_S F l0 k0 = some r) : Meets Tryz.prog (tabs mx) 131 [] [.one (.sl 1 (l0.map eI)), .one (.i k0)] (Is [] (.b (.one (.i r)))) := by
 unfold r3_digit_S at h
 refine Meets.intro 13 Tryz.func131 Tryz.ntmps131 rfl (by simp) fun E => ?_
 show Tri _ E ⟨13, [], []⟩ _ ⟨[(0, .b (.one (.sl 1 (l0.map eI)))), (1, I k0)], []⟩ _
 refine Tri.seq (Tri.regionL ?_)
 refine Oc oa (OpsL.nilS ⟨[(0, .b (.one (.sl 1 (l0.map eI)))), (1, I k0)], []⟩ rfl (Tri.seq (Tri.seq (Tri.regionL ?_))))
 refine Oc om (Oc om (Oc (op_len_e' und89 rfl (List.length_map _)) (Oc (op_lss rfl rfl) ?_)))
 refine OpsL.nilS ⟨[(0, _), (1, _), (8, B (decide (k0 < (l0.length : Int))))], []⟩ rfl (Tri.ite h rfl (fun _ h => ?_) (fun _ h => ?_))
 ·refine Tri.seq (Tri.regionL ?_)
  refine Oc om (Oc om ?_)
  obtain ⟨x_1, e1, h⟩ := bnd h
  refine Oc (op_index_e tySl89 (ix_lo e1) (ix_map (e := eI) e1) rfl rfl) (Oc (op_load_e1 tyOne3 rfl rfl) (Oc oa ?_))
  refine OpsL.nilS ⟨[(4, I x_1)], []⟩ rfl (Tri.ret (Fin.then_ret ?_))
  obtain rfl := Option.some.inj h
  refine Fin.keepS ⟨[(4, _)], []⟩ rfl (Fin.result' [.one (.i x_1)] (.inl rfl) rfl (.cons (.tmp rfl) .nil) ⟨rfl, rfl⟩)
 ·refine Tri.skip (Fin.keepS ⟨[], []⟩ rfl (Fin.then (Tri.seq (Tri.regionL ?_))))
  refine Oc oa (OpsL.nilS ⟨[(4, I 0)], []⟩ rfl (Tri.ret ?_))
  obtain rfl := Option.some.inj h
  refine Fin.keepS ⟨[(4, _)], []⟩ rfl (Fin.result' [.one (.i 0)] (.inl rfl) rfl (.cons (.tmp rfl) .nil) ⟨rfl, rfl⟩)
def r3_plus_S (F : Nat) (a0 : List Int) (b0 : List Int) : Option (List Int) :=
 Option.bind (iter F (un3 fun out_2 carry_3 k_4 => letN (max (a0.length : Int) (b0.length : Int)) fun x_6 => if (decide (k_4 < (IntKind.i64.wrap (x_6 + 1)))) = true then ((r3_digit_S F a0 k_4).bind fun x_7 => (r3_digit_S F b0 k_4).bind fun x_8 => letN (IntKind.i64.wrap ((IntKind.i64.wrap (x_7 + x_8)) + carry_3)) fun x_9 => (app? out_2 [Int.tmod x_9 65536]).bind fun x_10 => (quo? .i64 x_9 65536).bind fun x_11 => some (.inl (x_10, x_11, IntKind.i64.wrap (k_4 + 1)))) else (some (.inr out_2))) ([], 0, 0)) (fun out_1 => (r3_trim_S F out_1).bind fun x_12 => some x_12)
theorem r3_plus_spec {F : Nat} {a0 : List Int} {b0 : List Int} {r : (List Int)} (h : r3_plus_S F a0 b0 = some r) : Meets Tryz.prog (tabs mx) 155 [] [.one (.sl 1 (a0.map eI)), .one (.sl 1 (b0.map eI))] (Is [] (.b (.one (.sl 1 (r.map eI))))) := by
 unfold r3_plus_S at h
 refine Meets.intro 37 Tryz.func155 Tryz.ntmps155 rfl (by simp) fun E => ?_
 show Tri _ E ⟨37, [], []⟩ _ ⟨[(0, .b (.one (.sl 1 (a0.map eI)))), (1, .b (.one (.sl 1 (b0.map eI))))], []⟩ _
 refine Tri.seq (Tri.regionL ?_)
 refine Oc oa (OpsL.nilS ⟨[(0, .b (.one (.sl 1 (a0.map eI)))), (1, .b (.one (.sl 1 (b0.map eI))))], []⟩ rfl (Tri.seq (Tri.regionL ?_)))
 refine Oc oa (OpsL.nilS ⟨[(0, _), (1, _), (5, .b (.one (.nil)))], []⟩ rfl (Tri.seq (Tri.regionL ?_)))
 refine Oc oa (OpsL.nilS ⟨[(0, _), (1, _), (5, _), (6, I 0)], []⟩ rfl ?_)
 obtain ⟨v1, h2, h⟩ := bnd h
 refine Tri.seqJ (v := v1) (fun (out_1 : List Int) => ⟨[(5, .b (.row 102))], [(102, .row 3 1 (out_1.map eI))]⟩) (fun z => z) ?_ ?_
 ·refine Tri.seq (Tri.regionL ?_)
  refine Oc oa (OpsL.nilS ⟨[(0, _), (1, _), (5, _), (6, _), (7, I 0)], []⟩ rfl (Tri.block (Tri.nilrow 5 102 1 3 rfl (by decide) rfl (Tri.loopJ h2 (un3 fun (out_2 : List Int) (carry_3 : Int) (k_4 : Int) => ⟨[(0, .b (.one (.sl 1 (a0.map eI)))), (1, .b (.one (.sl 1 (b0.map eI)))), (5, .b (.row 102)), (6, I carry_3), (7, I k_4)], [(102, .row 3 1 (out_2.map eI))]⟩) [0, 1, 5, 6, 7] [102] rfl ?_))))
  rintro ⟨out_2, carry_3, k_4⟩ o3 h4 hy5
  refine Tri.seq (Tri.seq (Tri.regionL ?_))
  refine Oc om (Oc om (Oc (op_len_e' und89 rfl (List.length_map _)) (Oc om (Oc (op_len_e' und89 rfl (List.length_map _)) ?_))))
  refine OpsL.keepS ⟨[(0, _), (1, _), (5, _), (6, _), (7, _), (9, I k_4), (11, I (a0.length : Int)), (13, I (b0.length : Int))], [(102, _)]⟩ rfl (OpsL.consI .i64 h4 rfl (op_max rfl rfl) (fun x_6 h4 => ?_))
  refine Oc (op_add rfl rfl) (Oc (op_lss rfl rfl) ?_)
  refine OpsL.nilS ⟨[(0, _), (1, _), (5, _), (6, _), (7, _), (16, B (decide (k_4 < (IntKind.i64.wrap (x_6 + 1)))))], [(102, _)]⟩ rfl (Tri.ite h4 rfl (fun _ h4 => ?_) (fun _ h4 => ?_))
  ·refine Tri.skip (Fin.keepS ⟨[(0, _), (1, _), (5, _), (6, _), (7, _)], [(102, _)]⟩ rfl (Fin.then (Tri.seq (Tri.block (Tri.seq (Tri.regionL ?_))))))
   refine Oc om (Oc om ?_)
   obtain ⟨x_7, e6, h4⟩ := bnd h4
   refine Oc (op_call0 (r3_digit_spec e6) goes131 rfl rfl) (Oc om (Oc om ?_))
   refine OpsL.keepS ⟨[(0, _), (1, _), (5, _), (6, _), (7, _), (21, I x_7), (22, .b (.one (.sl 1 (b0.map eI)))), (23, I k_4)], [(102, _)]⟩ rfl ?_
   obtain ⟨x_8, e7, h4⟩ := bnd h4
   refine Oc (op_call0 (r3_digit_spec e7) goes131 rfl rfl) (Oc (op_add rfl rfl) (Oc om ?_))
   refine OpsL.consI .i64 h4 rfl (op_add rfl rfl) (fun x_9 h4 => ?_)
   refine Oc oa (OpsL.nilS ⟨[(0, _), (1, _), (5, _), (7, _), (8, I x_9)], [(102, _)]⟩ rfl (Tri.seq (Tri.regionL ?_)))
   refine Oc om (Oc om (Oc (op_rem (by decide) rfl rfl) (Oc (op_buildSlice (k := 103) (es := [Int.tmod x_9 65536].map eI) tySl89 rfl rfl (uni_map fun _ => rfl) rfl (by decide) (by decide) rfl) ?_)))
   obtain ⟨x_10, e8, h4⟩ := bnd h4
   refine Oc (op_append_r tySl89 (app_b e8) (app_m e8) rfl rfl rfl rfl (app_map e8) rfl) (Oc oa ?_)
   refine OpsL.nilS ⟨[(0, _), (1, _), (5, _), (7, _), (8, _)], [(102, .row 3 1 (x_10.map eI))]⟩ rfl (Tri.regionL (Oc om ?_))
   obtain ⟨x_11, e9, h4⟩ := bnd h4
   refine Oc (op_quo2 e9 rfl rfl) (Oc oa ?_)
   refine OpsL.nil (Fin.block_normal (Fin.keepS ⟨[(0, _), (1, _), (5, _), (6, I x_11), (7, _)], [(102, _)]⟩ rfl (Fin.then (Tri.regionL ?_))))
   refine Oc om (Oc (op_add rfl rfl) (Oc oa ?_))
   refine OpsL.nil ?_
   exact Fin.againJ [0, 1, 5, 6, 7] [102] (x_10, x_11, IntKind.i64.wrap (k_4 + 1)) (Option.some.inj h4) rfl
  ·refine Tri.exit (Fin.then_exit ?_)
   obtain rfl := hy5 _ (Option.some.inj h4).symm
   refine Fin.then_exit (Fin.block_exit ?_)
   exact Fin.join [5] [102] out_2 rfl rfl
 ·rintro out_1 hv
  subst v1
  refine Tri.seq (Tri.regionL ?_)
  refine Oc om (OpsL.persist 102 rfl ?_)
  obtain ⟨x_12, e10, h⟩ := bnd h
  refine Oc (op_call0 (r3_trim_spec e10) goes130 rfl rfl) (Oc oa ?_)
  refine OpsL.nilS ⟨[(4, .b (.one (.sl 1 (x_12.map eI))))], []⟩ rfl (Tri.ret ?_)
  obtain rfl := Option.some.inj h
  refine Fin.keepS ⟨[(4, _)], []⟩ rfl (Fin.result' [.one (.sl 1 (x_12.map eI))] (.inl rfl) rfl (.cons (.tmp rfl) .nil) ⟨rfl, rfl⟩)
def r3_Of_S (F : Nat) (n0 : Int) : Option Big :=
 if (decide (0 ≤ n0)) = true then ((quo? .i64 n0 65536).bind fun x_1 => (quo? .i64 n0 4294967296).bind fun x_2 => (quo? .i64 n0 281474976710656).bind fun x_3 => (r3_number_S F false [Int.tmod n0 65536, Int.tmod x_1 65536, Int.tmod x_2 65536, x_3]).bind fun x_4 => some x_4) else (letN (IntKind.i64.wrap (-(IntKind.i64.wrap (n0 + 1)))) fun x_5 => (quo? .i64 x_5 65536).bind fun x_6 => (quo? .i64 x_5 4294967296).bind fun x_7 => (quo? .i64 x_5 281474976710656).bind fun x_8 => (r3_plus_S F [Int.tmod x_5 65536, Int.tmod x_6 65536, Int.tmod x_7 65536, x_8] [1]).bind fun x_9 => (r3_number_S F true x_9).bind fun x_10 => some x_10)
theorem r3_Of_spec {F : Nat} {n0 : Int} {r : Big} (h : r3_Of_S F n0 = some r) : Meets Tryz.prog (tabs mx) 107 [] [.one (.i n0)] (Is [] (.b (.agg (eBig r)))) := by
 unfold r3_Of_S at h
 refine Meets.intro 35 Tryz.func107 Tryz.ntmps107 rfl (by simp) fun E => ?_
 show Tri _ E ⟨35, [], []⟩ _ ⟨[(0, I n0)], []⟩ _
 refine Tri.seq (Tri.regionL ?_)
 refine Oc (op_alloc (k := 101) tyZero25 rfl) (OpsL.nilS ⟨[(0, I n0), (2, Pt 101 0)], [(101, .box 25 zBig)]⟩ rfl (Tri.seq (Tri.seq (Tri.regionL ?_))))
 refine Oc om (Oc (op_geq rfl rfl) ?_)
 refine OpsL.nilS ⟨[(0, _), (2, _), (5, B (decide (0 ≤ n0)))], [(101, _)]⟩ rfl (Tri.ite h rfl (fun _ h => ?_) (fun _ h => ?_))
 ·refine Tri.seq (Tri.regionL ?_)
  refine Oc om (Oc (op_rem (by decide) rfl rfl) (Oc om ?_))
  obtain ⟨x_1, e1, h⟩ := bnd h
  refine Oc (op_quo2 e1 rfl rfl) (Oc (op_rem (by decide) rfl rfl) (Oc om ?_))
  obtain ⟨x_2, e2, h⟩ := bnd h
  refine Oc (op_quo2 e2 rfl rfl) (OpsL.keepS ⟨[(0, _), (2, _), (7, I (Int.tmod n0 65536)), (10, I (Int.tmod x_1 65536)), (12, I x_2)], [(101, _)]⟩ rfl (Oc (op_rem (by decide) rfl rfl) (Oc om ?_)))
  obtain ⟨x_3, e3, h⟩ := bnd h
  refine Oc (op_quo2 e3 rfl rfl) (Oc (op_buildSlice (k := 102) (es := [Int.tmod n0 65536, Int.tmod x_1 65536, Int.tmod x_2 65536, x_3].map eI) tySl89 rfl rfl (uni_map fun _ => rfl) rfl (by decide) (by decide) rfl) ?_)
  obtain ⟨x_4, e4, h⟩ := bnd h
  refine Oc (op_callB (r3_number_spec e4) goes156 rfl (flat_agg ⟨CP.flat_bool, CP.flat_bool, CP.flat_int, CP.flat_int, CP.flat_int, CP.flat_int, CP.flat_int, CP.flat_int, CP.flat_int, CP.flat_int, CP.flat_int, CP.flat_int, CP.flat_int, CP.flat_int, CP.flat_int, CP.flat_int, CP.flat_int, CP.flat_int, trivial⟩)) (Oc (op_store_p tyAgg25 rfl rfl rfl rfl (Nat.le_of_ble_eq_true rfl) rfl) ?_)
  refine OpsL.nilS ⟨[(2, _)], [(101, .box 25 (eBig x_4))]⟩ rfl (Tri.ret (Fin.then_ret ?_))
  obtain rfl := Option.some.inj h
  refine Fin.keepS ⟨[(2, _)], [(101, _)]⟩ rfl (Fin.result' [.agg (eBig x_4)] (.inl rfl) rfl (.cons (.agg tyAgg25 rfl rfl rfl rfl) .nil) ⟨rfl, rfl⟩)
 ·refine Tri.skip (Fin.keepS ⟨[(0, _), (2, _)], [(101, _)]⟩ rfl (Fin.then (Tri.seq (Tri.regionL ?_))))
  refine Oc om (Oc (op_add rfl rfl) ?_)
  refine OpsL.consI .i64 h rfl (op_neg rfl) (fun x_5 h => ?_)
  refine Oc oa (OpsL.nilS ⟨[(2, _), (3, I x_5)], [(101, _)]⟩ rfl (Tri.seq (Tri.regionL ?_)))
  refine Oc om (Oc (op_rem (by decide) rfl rfl) (Oc om ?_))
  obtain ⟨x_6, e5, h⟩ := bnd h
  refine Oc (op_quo2 e5 rfl rfl) (Oc (op_rem (by decide) rfl rfl) (Oc om ?_))
  obtain ⟨x_7, e6, h⟩ := bnd h
  refine Oc (op_quo2 e6 rfl rfl) (OpsL.keepS ⟨[(2, _), (3, _), (22, I (Int.tmod x_5 65536)), (25, I (Int.tmod x_6 65536)), (27, I x_7)], [(101, _)]⟩ rfl (Oc (op_rem (by decide) rfl rfl) (Oc om ?_)))
  obtain ⟨x_8, e7, h⟩ := bnd h
  refine Oc (op_quo2 e7 rfl rfl) (Oc (op_buildSlice (k := 103) (es := [Int.tmod x_5 65536, Int.tmod x_6 65536, Int.tmod x_7 65536, x_8].map eI) tySl89 rfl rfl (uni_map fun _ => rfl) rfl (by decide) (by decide) rfl) (Oc (op_buildSlice (k := 104) (es := [1].map eI) tySl89 rfl rfl (uni_map fun _ => rfl) rfl (by decide) (by decide) rfl) ?_))
  refine OpsL.persist 103 rfl (OpsL.persist 104 rfl (OpsL.keepS ⟨[(2, Pt 101 0), (31, .b (.one (.sl 1 ([Int.tmod x_5 65536, Int.tmod x_6 65536, Int.tmod x_7 65536, x_8].map eI)))), (32, .b (.one (.sl 1 ([1].map eI))))], [(101, .box 25 zBig)]⟩ rfl ?_))
  obtain ⟨x_9, e8, h⟩ := bnd h
  refine Oc (op_call0 (r3_plus_spec e8) goes155 rfl rfl) ?_
  obtain ⟨x_10, e9, h⟩ := bnd h
  refine Oc (op_call0 (r3_number_spec e9) goes156 rfl rfl) (Oc (op_store_p tyAgg25 rfl rfl rfl rfl (Nat.le_of_ble_eq_true rfl) rfl) ?_)
  refine OpsL.nilS ⟨[(2, _)], [(101, .box 25 (eBig x_10))]⟩ rfl (Tri.ret ?_)
  obtain rfl := Option.some.inj h
  refine Fin.keepS ⟨[(2, _)], [(101, _)]⟩ rfl (Fin.result' [.agg (eBig x_10)] (.inl rfl) rfl (.cons (.agg tyAgg25 rfl rfl rfl rfl) .nil) ⟨rfl, rfl⟩)
def r3_Abs_S (F : Nat) (x0 : Big) : Option Big :=
 (r3_Good_S F x0).bind fun x_1 => if (!x_1) = true then ((r3_Bad_S F).bind fun x_2 => some x_2) else ((r3_digits_S F x0).bind fun x_3 => (r3_number_S F false x_3).bind fun x_4 => some x_4)
theorem r3_Abs_spec {F : Nat} {x0 : Big} {r : Big} (h : r3_Abs_S F x0 = some r) : Meets Tryz.prog (tabs mx) 161 [] [.agg (eBig x0)] (Is [] (.b (.agg (eBig r)))) := by
 unfold r3_Abs_S at h
 refine Meets.intro 10 Tryz.func161 Tryz.ntmps161 rfl (by simp) fun E => ?_
 show Tri _ E ⟨10, [], []⟩ _ ⟨[(0, .b (.agg (eBig x0)))], []⟩ _
 refine Tri.seq (Tri.regionL ?_)
 refine Oc (op_box (k := 101) rfl rfl) (Oc (op_alloc (k := 102) tyZero25 rfl) ?_)
 refine OpsL.nilS ⟨[(1, Pt 101 0), (2, Pt 102 0)], [(101, .box 25 (eBig x0)), (102, .box 25 zBig)]⟩ rfl (Tri.seq (Tri.seq (Tri.regionL ?_)))
 refine Oc (lp tyAgg25) ?_
 obtain ⟨x_1, e1, h⟩ := bnd h
 refine Oc (op_call0 (r3_Good_spec e1) goes65 rfl rfl) (Oc (op_not rfl) ?_)
 refine OpsL.nilS ⟨[(1, _), (2, _), (5, B (!x_1))], [(101, _), (102, _)]⟩ rfl (Tri.ite h rfl (fun _ h => ?_) (fun _ h => ?_))
 ·refine Tri.seq (Tri.regionL ?_)
  obtain ⟨x_2, e2, h⟩ := bnd h
  refine Oc (op_call0 (r3_Bad_spec e2) goes151 rfl rfl) (Oc (op_store_p tyAgg25 rfl rfl rfl rfl (Nat.le_of_ble_eq_true rfl) rfl) ?_)
  refine OpsL.nilS ⟨[(2, _)], [(102, .box 25 (eBig x_2))]⟩ rfl (Tri.ret (Fin.then_ret ?_))
  obtain rfl := Option.some.inj h
  refine Fin.keepS ⟨[(2, _)], [(102, _)]⟩ rfl (Fin.result' [.agg (eBig x_2)] (.inl rfl) rfl (.cons (.agg tyAgg25 rfl rfl rfl rfl) .nil) ⟨rfl, rfl⟩)
 ·refine Tri.skip (Fin.keepS ⟨[(1, _), (2, _)], [(101, _), (102, _)]⟩ rfl (Fin.then (Tri.seq (Tri.regionL ?_))))
  refine Oc (lp tyAgg25) ?_
  obtain ⟨x_3, e3, h⟩ := bnd h
  refine Oc (op_call0 (r3_digits_spec e3) goes66 rfl rfl) ?_
  obtain ⟨x_4, e4, h⟩ := bnd h
  refine Oc (op_call0 (r3_number_spec e4) goes156 rfl rfl) (Oc (op_store_p tyAgg25 rfl rfl rfl rfl (Nat.le_of_ble_eq_true rfl) rfl) ?_)
  refine OpsL.nilS ⟨[(2, _)], [(102, .box 25 (eBig x_4))]⟩ rfl (Tri.ret ?_)
  obtain rfl := Option.some.inj h
  refine Fin.keepS ⟨[(2, _)], [(102, _)]⟩ rfl (Fin.result' [.agg (eBig x_4)] (.inl rfl) rfl (.cons (.agg tyAgg25 rfl rfl rfl rfl) .nil) ⟨rfl, rfl⟩)
def r3_at_S (F : Nat) (l0 : List Int) (k0 : Int) : Option Int :=
 if (decide (k0 < 0)) = true then (some 0) else ((r3_digit_S F l0 k0).bind fun x_1 => some x_1)
theorem r3_at_spec {F : Nat} {l0 : List Int} {k0 : Int} {r : Int} (h : r3_at_S F l0 k0 = some r) : Meets Tryz.prog (tabs mx) 186 [] [.one (.sl 1 (l0.map eI)), .one (.i k0)] (Is [] (.b (.one (.i r)))) := by
 unfold r3_at_S at h
 refine Meets.intro 10 Tryz.func186 Tryz.ntmps186 rfl (by simp) fun E => ?_
 show Tri _ E ⟨10, [], []⟩ _ ⟨[(0, .b (.one (.sl 1 (l0.map eI)))), (1, I k0)], []⟩ _
 refine Tri.seq (Tri.regionL ?_)
 refine Oc oa (OpsL.nilS ⟨[(0, .b (.one (.sl 1 (l0.map eI)))), (1, I k0)], []⟩ rfl (Tri.seq (Tri.seq (Tri.regionL ?_))))
 refine Oc om (Oc (op_lss rfl rfl) ?_)
 refine OpsL.nilS ⟨[(0, _), (1, _), (6, B (decide (k0 < 0)))], []⟩ rfl (Tri.ite h rfl (fun _ h => ?_) (fun _ h => ?_))
 ·refine Tri.seq (Tri.regionL ?_)
  refine Oc oa (OpsL.nilS ⟨[(4, I 0)], []⟩ rfl (Tri.ret (Fin.then_ret ?_)))
  obtain rfl := Option.some.inj h
  refine Fin.keepS ⟨[(4, _)], []⟩ rfl (Fin.result' [.one (.i 0)] (.inl rfl) rfl (.cons (.tmp rfl) .nil) ⟨rfl, rfl⟩)
 ·refine Tri.skip (Fin.keepS ⟨[(0, _), (1, _)], []⟩ rfl (Fin.then (Tri.seq (Tri.regionL ?_))))
  refine Oc om (Oc om ?_)
  obtain ⟨x_1, e1, h⟩ := bnd h
  refine Oc (op_call0 (r3_digit_spec e1) goes131 rfl rfl) (Oc oa ?_)
  refine OpsL.nilS ⟨[(4, I x_1)], []⟩ rfl (Tri.ret ?_)
  obtain rfl := Option.some.inj h
  refine Fin.keepS ⟨[(4, _)], []⟩ rfl (Fin.result' [.one (.i x_1)] (.inl rfl) rfl (.cons (.tmp rfl) .nil) ⟨rfl, rfl⟩)
def r3_times_S (F : Nat) (a0 : List Int) (b0 : List Int) : Option (List Int) :=
 letN (IntKind.i64.wrap ((a0.length : Int) + (b0.length : Int))) fun x_1 => Option.bind (mk? (0 : Int) (IntKind.i64.wrap (x_1 + 1)) (IntKind.i64.wrap (x_1 + 1))) (fun x_2 => Option.bind (iter F (un2 fun out_4 i_5 => if (decide (i_5 < (a0.length : Int))) = true then (Option.bind (Option.bind (iter F (un2 fun out_9 k_10 => if (decide (k_10 < (b0.length : Int))) = true then ((idx? out_9 (IntKind.i64.wrap (i_5 + k_10))).bind fun x_12 => (idx? a0 i_5).bind fun x_13 => (idx? b0 k_10).bind fun x_14 => (idx? out_9 (IntKind.i64.wrap (i_5 + k_10))).bind fun x_15 => some (.inl (out_9.set (IntKind.i64.wrap (i_5 + k_10) : Int).toNat (IntKind.i64.wrap (x_12 + (IntKind.i64.wrap (x_13 * x_14)))), IntKind.i64.wrap (k_10 + 1)))) else (some (.inr out_9))) (out_4, 0)) (fun out_8 => Option.bind (iter F (un3 fun out_16 carry_17 k_18 => if (decide (k_18 < (out_16.length : Int))) = true then ((idx? out_16 k_18).bind fun x_20 => letN (Int.tmod (IntKind.i64.wrap (x_20 + carry_17)) 65536) fun x_21 => (idx? out_16 k_18).bind fun x_22 => (quo? .i64 (IntKind.i64.wrap (x_20 + carry_17)) 65536).bind fun x_23 => some (.inl (out_16.set (k_18 : Int).toNat x_21, x_23, IntKind.i64.wrap (k_18 + 1)))) else (some (.inr out_16))) (out_8, 0, 0)) (fun out_19 => some out_19))) (fun out_7 => some (.inl (out_7, IntKind.i64.wrap (i_5 + 1))))) else (some (.inr out_4))) (x_2, 0)) (fun out_3 => (r3_trim_S F out_3).bind fun x_24 => some x_24))
theorem r3_times_spec {F : Nat} {a0 : List Int} {b0 : List Int} {r : (List Int)} (h : r3_times_S F a0 b0 = some r) : Meets Tryz.prog (tabs mx) 185 [] [.one (.sl 1 (a0.map eI)), .one (.sl 1 (b0.map eI))] (Is [] (.b (.one (.sl 1 (r.map eI))))) := by
 unfold r3_times_S at h
 refine Meets.intro 72 Tryz.func185 Tryz.ntmps185 rfl (by simp) fun E => ?_
 show Tri _ E ⟨72, [], []⟩ _ ⟨[(0, .b (.one (.sl 1 (a0.map eI)))), (1, .b (.one (.sl 1 (b0.map eI))))], []⟩ _
 refine Tri.seq (Tri.regionL ?_)
 refine Oc oa (OpsL.nilS ⟨[(0, .b (.one (.sl 1 (a0.map eI)))), (1, .b (.one (.sl 1 (b0.map eI))))], []⟩ rfl (Tri.seq (Tri.regionL ?_)))
 refine Oc om (Oc (op_len_e' und89 rfl (List.length_map _)) (Oc om (Oc (op_len_e' und89 rfl (List.length_map _)) ?_)))
 refine OpsL.consI .i64 h rfl (op_add rfl rfl) (fun x_1 h => ?_)
 refine OpsL.keepS ⟨[(0, _), (1, _), (15, I x_1)], []⟩ rfl (Oc (op_add rfl rfl) ?_)
 obtain ⟨x_2, e1, h⟩ := bnd h
 refine Oc (op_makeSlice (k := 101) (enc := eI) tySl89 e1 (by decide) (.cons .refl .nil) rfl rfl rfl) (Oc oa ?_)
 refine OpsL.nilS ⟨[(0, _), (1, _), (5, .b (.row 101))], [(101, .row 3 1 (x_2.map eI))]⟩ rfl ?_
 obtain ⟨v2, h3, h⟩ := bnd h
 refine Tri.seqJ (v := v2) (fun (out_3 : List Int) => ⟨[(5, .b (.row 101))], [(101, .row 3 1 (out_3.map eI))]⟩) (fun z => z) ?_ ?_
 ·refine Tri.seq (Tri.regionL ?_)
  refine Oc oa (OpsL.nilS ⟨[(0, _), (1, _), (5, _), (6, I 0)], [(101, _)]⟩ rfl (Tri.block (Tri.loopJ h3 (un2 fun (out_4 : List Int) (i_5 : Int) => ⟨[(0, .b (.one (.sl 1 (a0.map eI)))), (1, .b (.one (.sl 1 (b0.map eI)))), (5, .b (.row 101)), (6, I i_5)], [(101, .row 3 1 (out_4.map eI))]⟩) [0, 1, 5, 6] [101] rfl ?_)))
  rintro ⟨out_4, i_5⟩ o4 h5 hy6
  refine Tri.seq (Tri.seq (Tri.regionL ?_))
  refine Oc om (Oc om (Oc (op_len_e' und89 rfl (List.length_map _)) (Oc (op_lss rfl rfl) ?_)))
  refine OpsL.nilS ⟨[(0, _), (1, _), (5, _), (6, _), (21, B (decide (i_5 < (a0.length : Int))))], [(101, _)]⟩ rfl (Tri.ite h5 rfl (fun _ h5 => ?_) (fun _ h5 => ?_))
  ·refine Tri.skip (Fin.keepS ⟨[(0, _), (1, _), (5, _), (6, _)], [(101, _)]⟩ rfl (Fin.then ?_))
   obtain ⟨v7, h8, h5⟩ := bnd h5
   refine Tri.seqJ (v := v7) (fun (out_7 : List Int) => ⟨[(0, .b (.one (.sl 1 (a0.map eI)))), (1, .b (.one (.sl 1 (b0.map eI)))), (5, .b (.row 101)), (6, I i_5)], [(101, .row 3 1 (out_7.map eI))]⟩) (fun z => z) ?_ ?_
   ·refine Tri.block ?_
    obtain ⟨v9, h10, h8⟩ := bnd h8
    refine Tri.seqJ (v := v9) (fun (out_8 : List Int) => ⟨[(0, .b (.one (.sl 1 (a0.map eI)))), (1, .b (.one (.sl 1 (b0.map eI)))), (5, .b (.row 101)), (6, I i_5)], [(101, .row 3 1 (out_8.map eI))]⟩) (fun z => z) ?_ ?_
    ·refine Tri.seq (Tri.regionL ?_)
     refine Oc oa (OpsL.nilS ⟨[(0, _), (1, _), (5, _), (6, _), (7, I 0)], [(101, _)]⟩ rfl (Tri.block (Tri.loopJ h10 (un2 fun (out_9 : List Int) (k_10 : Int) => ⟨[(0, .b (.one (.sl 1 (a0.map eI)))), (1, .b (.one (.sl 1 (b0.map eI)))), (5, .b (.row 101)), (6, I i_5), (7, I k_10)], [(101, .row 3 1 (out_9.map eI))]⟩) [0, 1, 5, 6, 7] [101] rfl ?_)))
     rintro ⟨out_9, k_10⟩ o11 h12 hy13
     refine Tri.seq (Tri.seq (Tri.regionL ?_))
     refine Oc om (Oc om (Oc (op_len_e' und89 rfl (List.length_map _)) (Oc (op_lss rfl rfl) ?_)))
     refine OpsL.nilS ⟨[(0, _), (1, _), (5, _), (6, _), (7, _), (27, B (decide (k_10 < (b0.length : Int))))], [(101, _)]⟩ rfl (Tri.ite h12 rfl (fun _ h12 => ?_) (fun _ h12 => ?_))
     ·refine Tri.skip (Fin.keepS ⟨[(0, _), (1, _), (5, _), (6, _), (7, _)], [(101, _)]⟩ rfl (Fin.then (Tri.seq (Tri.block ?_))))
      refine Tri.keepS ⟨[(0, _), (1, _), (5, _), (6, _), (7, _)], [(101, _)]⟩ rfl ?_
      obtain ⟨x_12, e14, h12⟩ := bnd h12
      obtain ⟨x_13, e15, h12⟩ := bnd h12
      obtain ⟨x_14, e16, h12⟩ := bnd h12
      obtain ⟨x_15, e17, h12⟩ := bnd h12
      refine Tri.regionYF mixed 21 [.b (.row 101), I i_5, I k_10, I (IntKind.i64.wrap (i_5 + k_10)), .b (.row 101), I i_5, I k_10, I (IntKind.i64.wrap (i_5 + k_10)), .b (.rptr 101 ((IntKind.i64.wrap (i_5 + k_10) : Int).toNat * 1)), I x_12, .b (.one (.sl 1 (a0.map eI))), I i_5, .b (.eptr [.i x_13]), I x_13, .b (.one (.sl 1 (b0.map eI))), I k_10, .b (.eptr [.i x_14]), I x_14, I (IntKind.i64.wrap (x_13 * x_14)), I (IntKind.i64.wrap (x_12 + (IntKind.i64.wrap (x_13 * x_14)))), .b (.rptr 101 ((IntKind.i64.wrap (i_5 + k_10) : Int).toNat * 1))] [0, 1, 5, 6, 7] [101] (s' := ⟨[(0, _), (1, _), (5, _), (6, _), (7, _)], [(101, .row 3 1 ((out_9.set (IntKind.i64.wrap (i_5 + k_10) : Int).toNat (IntKind.i64.wrap (x_12 + (IntKind.i64.wrap (x_13 * x_14))))).map eI))]⟩) rfl ⟨fun _ => .p om, fun _ => .p om, fun _ => .p om, fun _ => .p (op_add rfl rfl), fun _ => .p om, fun _ => .p om, fun _ => .p om, fun _ => .p (op_add rfl rfl), fun _ => .p (op_index_r tySl89 (ix_lo e14) (ix_lt' e14) rfl rfl rfl rfl), fun _ => .p (op_load_r1 (i := (IntKind.i64.wrap (i_5 + k_10) : Int).toNat) (f := 0) tyOne3 rfl rfl rfl (ix_map (e := eI) e14) rfl), fun _ => .p om, fun _ => .p om, fun _ => .p (op_index_e tySl89 (ix_lo e15) (ix_map (e := eI) e15) rfl rfl), fun _ => .p (op_load_e1 tyOne3 rfl rfl), fun _ => .p om, fun _ => .p om, fun _ => .p (op_index_e tySl89 (ix_lo e16) (ix_map (e := eI) e16) rfl rfl), fun _ => .p (op_load_e1 tyOne3 rfl rfl), fun _ => .p (op_mul rfl rfl), fun _ => .p (op_add rfl rfl), fun _ => .p (op_index_r tySl89 (ix_lo e17) (ix_lt' e17) rfl rfl rfl rfl), trivial⟩ ⟨_, by exact .p (op_store_r1 (i := (IntKind.i64.wrap (i_5 + k_10) : Int).toNat) tyOne3 rfl rfl rfl rfl (ix_lt e17) (map_set _ _ _ _)), rfl⟩ rfl (Fin.block_normal (Fin.keepS ⟨[(0, _), (1, _), (5, _), (6, _), (7, _)], [(101, _)]⟩ rfl (Fin.then (Tri.regionL ?_))))
      refine Oc om (Oc (op_add rfl rfl) (Oc oa ?_))
      refine OpsL.nil ?_
      exact Fin.againJ [0, 1, 5, 6, 7] [101] (out_9.set (IntKind.i64.wrap (i_5 + k_10) : Int).toNat (IntKind.i64.wrap (x_12 + (IntKind.i64.wrap (x_13 * x_14)))), IntKind.i64.wrap (k_10 + 1)) (Option.some.inj h12) rfl
     ·refine Tri.exit (Fin.then_exit ?_)
      obtain rfl := hy13 _ (Option.some.inj h12).symm
      refine Fin.then_exit (Fin.block_exit ?_)
      exact Fin.join [0, 1, 5, 6] [101] out_9 rfl rfl
    ·rintro out_8 hv
     subst v9
     refine Tri.seq (Tri.regionL ?_)
     refine Oc oa (OpsL.nilS ⟨[(0, _), (1, _), (5, _), (6, _), (8, I 0)], [(101, _)]⟩ rfl (Tri.seq (Tri.regionL ?_)))
     refine Oc oa (OpsL.nilS ⟨[(0, _), (1, _), (5, _), (6, _), (8, _), (9, I 0)], [(101, _)]⟩ rfl (Tri.block ?_))
     obtain ⟨v18, h19, h8⟩ := bnd h8
     refine Tri.loopJ h19 (un3 fun (out_16 : List Int) (carry_17 : Int) (k_18 : Int) => ⟨[(0, .b (.one (.sl 1 (a0.map eI)))), (1, .b (.one (.sl 1 (b0.map eI)))), (5, .b (.row 101)), (6, I i_5), (8, I carry_17), (9, I k_18)], [(101, .row 3 1 (out_16.map eI))]⟩) [0, 1, 5, 6, 8, 9] [101] rfl ?_
     rintro ⟨out_16, carry_17, k_18⟩ o20 h21 hy22
     refine Tri.seq (Tri.seq (Tri.regionL ?_))
     refine Oc om (Oc om (Oc (op_len_r' und89 rfl rfl (List.length_map _)) (Oc (op_lss rfl rfl) ?_)))
     refine OpsL.nilS ⟨[(0, _), (1, _), (5, _), (6, _), (8, _), (9, _), (54, B (decide (k_18 < (out_16.length : Int))))], [(101, _)]⟩ rfl (Tri.ite h21 rfl (fun _ h21 => ?_) (fun _ h21 => ?_))
     ·refine Tri.skip (Fin.keepS ⟨[(0, _), (1, _), (5, _), (6, _), (8, _), (9, _)], [(101, _)]⟩ rfl (Fin.then (Tri.seq (Tri.block (Tri.seq (Tri.regionL ?_))))))
      refine Oc om (Oc om ?_)
      obtain ⟨x_20, e23, h21⟩ := bnd h21
      refine Oc (op_index_r tySl89 (ix_lo e23) (ix_lt' e23) rfl rfl rfl rfl) (Oc (op_load_r1 (i := (k_18 : Int).toNat) (f := 0) tyOne3 rfl rfl rfl (ix_map (e := eI) e23) rfl) (Oc om (Oc (op_add rfl rfl) (Oc oa ?_))))
      refine OpsL.nilS ⟨[(0, _), (1, _), (5, _), (6, _), (9, _), (10, I (IntKind.i64.wrap (x_20 + carry_17)))], [(101, _)]⟩ rfl (Tri.seq (Tri.regionL ?_))
      refine Oc om (Oc om (Oc om ?_))
      refine OpsL.consI .i64 h21 rfl (op_rem (by decide) rfl rfl) (fun x_21 h21 => ?_)
      obtain ⟨x_22, e24, h21⟩ := bnd h21
      refine Oc (op_index_r tySl89 (ix_lo e24) (ix_lt' e24) rfl rfl rfl rfl) (Oc (op_store_r1 (i := (k_18 : Int).toNat) tyOne3 rfl rfl rfl rfl (ix_lt e24) (map_set _ _ _ _)) ?_)
      refine OpsL.nilS ⟨[(0, _), (1, _), (5, _), (6, _), (9, _), (10, _)], [(101, .row 3 1 ((out_16.set (k_18 : Int).toNat x_21).map eI))]⟩ rfl (Tri.regionL (Oc om ?_))
      obtain ⟨x_23, e25, h21⟩ := bnd h21
      refine Oc (op_quo2 e25 rfl rfl) (Oc oa ?_)
      refine OpsL.nil (Fin.block_normal (Fin.keepS ⟨[(0, _), (1, _), (5, _), (6, _), (8, I x_23), (9, _)], [(101, _)]⟩ rfl (Fin.then (Tri.regionL ?_))))
      refine Oc om (Oc (op_add rfl rfl) (Oc oa ?_))
      refine OpsL.nil ?_
      exact Fin.againJ [0, 1, 5, 6, 8, 9] [101] (out_16.set (k_18 : Int).toNat x_21, x_23, IntKind.i64.wrap (k_18 + 1)) (Option.some.inj h21) rfl
     ·refine Tri.exit (Fin.then_exit ?_)
      obtain rfl := hy22 _ (Option.some.inj h21).symm
      refine Fin.then_exit (Fin.block_exit (Fin.block_normal ?_))
      exact Fin.join [0, 1, 5, 6] [101] out_16 (Option.some.inj h8) rfl
   ·rintro out_7 hv
    subst v7
    refine Tri.regionL (Oc om (Oc (op_add rfl rfl) (Oc oa ?_)))
    refine OpsL.nil ?_
    exact Fin.againJ [0, 1, 5, 6] [101] (out_7, IntKind.i64.wrap (i_5 + 1)) (Option.some.inj h5) rfl
  ·refine Tri.exit (Fin.then_exit ?_)
   obtain rfl := hy6 _ (Option.some.inj h5).symm
   refine Fin.then_exit (Fin.block_exit ?_)
   exact Fin.join [5] [101] out_4 rfl rfl
 ·rintro out_3 hv
  subst v2
  refine Tri.seq (Tri.regionL ?_)
  refine Oc om (OpsL.persist 101 rfl ?_)
  obtain ⟨x_24, e26, h⟩ := bnd h
  refine Oc (op_call0 (r3_trim_spec e26) goes130 rfl rfl) (Oc oa ?_)
  refine OpsL.nilS ⟨[(4, .b (.one (.sl 1 (x_24.map eI))))], []⟩ rfl (Tri.ret ?_)
  obtain rfl := Option.some.inj h
  refine Fin.keepS ⟨[(4, _)], []⟩ rfl (Fin.result' [.one (.sl 1 (x_24.map eI))] (.inl rfl) rfl (.cons (.tmp rfl) .nil) ⟨rfl, rfl⟩)
def r3_less_S (F : Nat) (a0 : List Int) (b0 : List Int) : Option Bool :=
 Option.bind (letN (max (a0.length : Int) (b0.length : Int)) fun x_1 => iter F (fun k_2 => if (decide (0 ≤ k_2)) = true then ((r3_digit_S F a0 k_2).bind fun x_3 => (r3_digit_S F b0 k_2).bind fun x_4 => if (decide (x_3 ≠ x_4)) = true then ((r3_digit_S F a0 k_2).bind fun x_5 => (r3_digit_S F b0 k_2).bind fun x_6 => some (.inr (.inr (decide (x_5 < x_6))))) else (some (.inl (IntKind.i64.wrap (k_2 - 1))))) else (some (.inr (.inl ())))) (IntKind.i64.wrap (x_1 - 1))) (alt2 (fun _ => some false) (fun y => some y))
theorem r3_less_spec {F : Nat} {a0 : List Int} {b0 : List Int} {r : Bool} (h : r3_less_S F a0 b0 = some r) : Meets Tryz.prog (tabs mx) 150 [] [.one (.sl 1 (a0.map eI)), .one (.sl 1 (b0.map eI))] (Is [] (.b (.one (.bool r)))) := by
 unfold r3_less_S at h
 refine Meets.intro 30 Tryz.func150 Tryz.ntmps150 rfl (by simp) fun E => ?_
 show Tri _ E ⟨30, [], []⟩ _ ⟨[(0, .b (.one (.sl 1 (a0.map eI)))), (1, .b (.one (.sl 1 (b0.map eI))))], []⟩ _
 refine Tri.seq (Tri.regionL ?_)
 refine Oc oa (OpsL.nilS ⟨[(0, .b (.one (.sl 1 (a0.map eI)))), (1, .b (.one (.sl 1 (b0.map eI))))], []⟩ rfl ?_)
 obtain ⟨v1, h2, h⟩ := bnd h
 refine Tri.seqJ (v := v1) (fun (_ : Unit) => ⟨[], []⟩) (fun z => .inl z) ?_ ?_
 ·refine Tri.seq (Tri.regionL ?_)
  refine Oc om (Oc (op_len_e' und89 rfl (List.length_map _)) (Oc om (Oc (op_len_e' und89 rfl (List.length_map _)) ?_)))
  refine OpsL.keepS ⟨[(0, _), (1, _), (7, I (a0.length : Int)), (9, I (b0.length : Int))], []⟩ rfl (OpsL.consI .i64 h2 rfl (op_max rfl rfl) (fun x_1 h2 => ?_))
  refine Oc (op_sub rfl rfl) (Oc oa ?_)
  refine OpsL.nilS ⟨[(0, _), (1, _), (5, I (IntKind.i64.wrap (x_1 - 1)))], []⟩ rfl (Tri.block (Tri.loopJ h2 (fun (k_2 : Int) => ⟨[(0, .b (.one (.sl 1 (a0.map eI)))), (1, .b (.one (.sl 1 (b0.map eI)))), (5, I k_2)], []⟩) [0, 1, 5] [] rfl ?_))
  rintro k_2 o3 h4 hy5
  refine Tri.seq (Tri.seq (Tri.regionL ?_))
  refine Oc om (Oc (op_geq rfl rfl) ?_)
  refine OpsL.nilS ⟨[(0, _), (1, _), (5, _), (13, B (decide (0 ≤ k_2)))], []⟩ rfl (Tri.ite h4 rfl (fun _ h4 => ?_) (fun _ h4 => ?_))
  ·refine Tri.skip (Fin.keepS ⟨[(0, _), (1, _), (5, _)], []⟩ rfl (Fin.then (Tri.seq (Tri.block (Tri.seq (Tri.regionL ?_))))))
   refine Oc om (Oc om ?_)
   obtain ⟨x_3, e6, h4⟩ := bnd h4
   refine Oc (op_call0 (r3_digit_spec e6) goes131 rfl rfl) (Oc om (Oc om ?_))
   obtain ⟨x_4, e7, h4⟩ := bnd h4
   refine Oc (op_call0 (r3_digit_spec e7) goes131 rfl rfl) (Oc (op_neq rfl rfl) ?_)
   refine OpsL.nilS ⟨[(0, _), (1, _), (5, _), (22, B (decide (x_3 ≠ x_4)))], []⟩ rfl (Tri.ite h4 rfl (fun _ h4 => ?_) (fun _ h4 => ?_))
   ·refine Tri.seq (Tri.regionL ?_)
    refine Oc om (Oc om ?_)
    obtain ⟨x_5, e8, h4⟩ := bnd h4
    refine Oc (op_call0 (r3_digit_spec e8) goes131 rfl rfl) (Oc om (Oc om ?_))
    refine OpsL.keepS ⟨[(25, I x_5), (26, .b (.one (.sl 1 (b0.map eI)))), (27, I k_2)], []⟩ rfl ?_
    obtain ⟨x_6, e9, h4⟩ := bnd h4
    refine Oc (op_call0 (r3_digit_spec e9) goes131 rfl rfl) (Oc (op_lss rfl rfl) (Oc oa ?_))
    refine OpsL.nilS ⟨[(4, B (decide (x_5 < x_6)))], []⟩ rfl (Tri.ret (Fin.block_ret (Fin.then_ret ?_)))
    obtain rfl := hy5 _ (Option.some.inj h4).symm
    refine Fin.then_ret (Fin.block_ret (Fin.then_ret ?_))
    obtain rfl := Option.some.inj h
    refine Fin.keepS ⟨[(4, _)], []⟩ rfl (Fin.result' [.one (.bool (decide (x_5 < x_6)))] (.inl rfl) rfl (.cons (.tmp rfl) .nil) ⟨rfl, rfl⟩)
   ·refine Tri.skip (Fin.block_normal (Fin.keepS ⟨[(0, _), (1, _), (5, _)], []⟩ rfl (Fin.then (Tri.regionL ?_))))
    refine Oc om (Oc (op_sub rfl rfl) (Oc oa ?_))
    refine OpsL.nil ?_
    exact Fin.againJ [0, 1, 5] [] (IntKind.i64.wrap (k_2 - 1)) (Option.some.inj h4) rfl
  ·refine Tri.exit (Fin.then_exit ?_)
   obtain rfl := hy5 _ (Option.some.inj h4).symm
   refine Fin.then_exit (Fin.block_exit ?_)
   exact Fin.join [] [] () rfl rfl
 ·rintro _ hv
  subst v1
  refine Tri.seq (Tri.regionL ?_)
  refine Oc oa (OpsL.nilS ⟨[(4, B false)], []⟩ rfl (Tri.ret ?_))
  obtain rfl := Option.some.inj h
  refine Fin.keepS ⟨[(4, _)], []⟩ rfl (Fin.result' [.one (.bool false)] (.inl rfl) rfl (.cons (.tmp rfl) .nil) ⟨rfl, rfl⟩)
def r3_minus_S (F : Nat) (a0 : List Int) (b0 : List Int) : Option (List Int) :=
 Option.bind (iter F (un3 fun out_2 borrow_3 k_4 => if (decide (k_4 < (a0.length : Int))) = true then (Option.bind ((idx? a0 k_4).bind fun x_8 => (r3_digit_S F b0 k_4).bind fun x_9 => Option.bind (letN (IntKind.i64.wrap ((IntKind.i64.wrap (x_8 - x_9)) - borrow_3)) fun x_12 => if (decide (x_12 < 0)) = true then (letN (IntKind.i64.wrap ((IntKind.i64.wrap (x_8 - x_9)) - borrow_3)) fun x_13 => some (1, IntKind.i64.wrap (x_13 + 65536))) else (some (0, IntKind.i64.wrap ((IntKind.i64.wrap (x_8 - x_9)) - borrow_3)))) (un2 fun borrow_10 n_11 => (app? out_2 [n_11]).bind fun x_14 => some (x_14, borrow_10))) (un2 fun out_6 borrow_7 => some (.inl (out_6, borrow_7, IntKind.i64.wrap (k_4 + 1))))) else (some (.inr out_2))) ([], 0, 0)) (fun out_1 => (r3_trim_S F out_1).bind fun x_15 => some x_15)
theorem r3_minus_spec {F : Nat} {a0 : List Int} {b0 : List Int} {r : (List Int)} (h : r3_minus_S F a0 b0 = some r) : Meets Tryz.prog (tabs mx) 157 [] [.one (.sl 1 (a0.map eI)), .one (.sl 1 (b0.map eI))] (Is [] (.b (.one (.sl 1 (r.map eI))))) := by
 unfold r3_minus_S at h
 refine Meets.intro 35 Tryz.func157 Tryz.ntmps157 rfl (by simp) fun E => ?_
 show Tri _ E ⟨35, [], []⟩ _ ⟨[(0, .b (.one (.sl 1 (a0.map eI)))), (1, .b (.one (.sl 1 (b0.map eI))))], []⟩ _
 refine Tri.seq (Tri.regionL ?_)
 refine Oc oa (OpsL.nilS ⟨[(0, .b (.one (.sl 1 (a0.map eI)))), (1, .b (.one (.sl 1 (b0.map eI))))], []⟩ rfl (Tri.seq (Tri.regionL ?_)))
 refine Oc oa (OpsL.nilS ⟨[(0, _), (1, _), (5, .b (.one (.nil)))], []⟩ rfl (Tri.seq (Tri.regionL ?_)))
 refine Oc oa (OpsL.nilS ⟨[(0, _), (1, _), (5, _), (6, I 0)], []⟩ rfl ?_)
 obtain ⟨v1, h2, h⟩ := bnd h
 refine Tri.seqJ (v := v1) (fun (out_1 : List Int) => ⟨[(5, .b (.row 102))], [(102, .row 3 1 (out_1.map eI))]⟩) (fun z => z) ?_ ?_
 ·refine Tri.seq (Tri.regionL ?_)
  refine Oc oa (OpsL.nilS ⟨[(0, _), (1, _), (5, _), (6, _), (7, I 0)], []⟩ rfl (Tri.block (Tri.nilrow 5 102 1 3 rfl (by decide) rfl (Tri.loopJ h2 (un3 fun (out_2 : List Int) (borrow_3 : Int) (k_4 : Int) => ⟨[(0, .b (.one (.sl 1 (a0.map eI)))), (1, .b (.one (.sl 1 (b0.map eI)))), (5, .b (.row 102)), (6, I borrow_3), (7, I k_4)], [(102, .row 3 1 (out_2.map eI))]⟩) [0, 1, 5, 6, 7] [102] rfl ?_))))
  rintro ⟨out_2, borrow_3, k_4⟩ o3 h4 hy5
  refine Tri.seq (Tri.seq (Tri.regionL ?_))
  refine Oc om (Oc om (Oc (op_len_e' und89 rfl (List.length_map _)) (Oc (op_lss rfl rfl) ?_)))
  refine OpsL.nilS ⟨[(0, _), (1, _), (5, _), (6, _), (7, _), (12, B (decide (k_4 < (a0.length : Int))))], [(102, _)]⟩ rfl (Tri.ite h4 rfl (fun _ h4 => ?_) (fun _ h4 => ?_))
  ·refine Tri.skip (Fin.keepS ⟨[(0, _), (1, _), (5, _), (6, _), (7, _)], [(102, _)]⟩ rfl (Fin.then ?_))
   obtain ⟨v6, h7, h4⟩ := bnd h4
   refine Tri.seqJ (v := v6) (un2 fun (out_6 : List Int) (borrow_7 : Int) => ⟨[(0, .b (.one (.sl 1 (a0.map eI)))), (1, .b (.one (.sl 1 (b0.map eI)))), (5, .b (.row 102)), (6, I borrow_7), (7, I k_4)], [(102, .row 3 1 (out_6.map eI))]⟩) (fun z => z) ?_ ?_
   ·refine Tri.block (Tri.seq ?_)
    refine Tri.keepS ⟨[(0, _), (1, _), (5, _), (6, _), (7, _)], [(102, _)]⟩ rfl ?_
    obtain ⟨x_8, e8, h7⟩ := bnd h7
    obtain ⟨x_9, e9, h7⟩ := bnd h7
    refine Tri.regionY mixed 11 [.b (.one (.sl 1 (a0.map eI))), I k_4, .b (.eptr [.i x_8]), I x_8, .b (.one (.sl 1 (b0.map eI))), I k_4, I x_9, I (IntKind.i64.wrap (x_8 - x_9)), I borrow_3, I (IntKind.i64.wrap ((IntKind.i64.wrap (x_8 - x_9)) - borrow_3)), I (IntKind.i64.wrap ((IntKind.i64.wrap (x_8 - x_9)) - borrow_3))] [0, 1, 5, 7, 8] [102] (s' := ⟨[(0, _), (1, _), (5, _), (7, _), (8, I (IntKind.i64.wrap ((IntKind.i64.wrap (x_8 - x_9)) - borrow_3)))], [(102, _)]⟩) rfl ⟨fun _ => .p om, fun _ => .p om, fun _ => .p (op_index_e tySl89 (ix_lo e8) (ix_map (e := eI) e8) rfl rfl), fun _ => .p (op_load_e1 tyOne3 rfl rfl), fun _ => .p om, fun _ => .p om, fun _ => .p (op_call0 (r3_digit_spec e9) goes131 rfl rfl), fun _ => .p (op_sub rfl rfl), fun _ => .p om, fun _ => .p (op_sub rfl rfl), fun _ => .p oa, trivial⟩ rfl rfl (Tri.seq (Tri.regionL ?_))
    refine Oc oa (OpsL.nilS ⟨[(0, _), (1, _), (5, _), (6, I 0), (7, _), (8, _)], [(102, _)]⟩ rfl ?_)
    obtain ⟨v10, h11, h7⟩ := bnd h7
    refine Tri.seqJ (v := v10) (un2 fun (borrow_10 : Int) (n_11 : Int) => ⟨[(0, .b (.one (.sl 1 (a0.map eI)))), (1, .b (.one (.sl 1 (b0.map eI)))), (5, .b (.row 102)), (6, I borrow_10), (7, I k_4), (8, I n_11)], [(102, .row 3 1 (out_2.map eI))]⟩) (fun z => z) ?_ ?_
    ·refine Tri.seq (Tri.regionL ?_)
     refine OpsL.consI .i64 h11 rfl om (fun x_12 h11 => ?_)
     refine Oc (op_lss rfl rfl) (OpsL.nilS ⟨[(0, _), (1, _), (5, _), (6, _), (7, _), (8, _), (26, B (decide (x_12 < 0)))], [(102, _)]⟩ rfl (Tri.ite h11 rfl (fun _ h11 => ?_) (fun _ h11 => ?_)))
     ·refine Tri.seq (Tri.regionL ?_)
      refine OpsL.consI .i64 h11 rfl om (fun x_13 h11 => ?_)
      refine Oc (op_add rfl rfl) (Oc oa ?_)
      refine OpsL.nilS ⟨[(0, _), (1, _), (5, _), (7, _), (8, I (IntKind.i64.wrap (x_13 + 65536)))], [(102, _)]⟩ rfl (Tri.regionL (Oc oa (OpsL.nil ?_)))
      exact Fin.join [0, 1, 5, 6, 7, 8] [102] (1, IntKind.i64.wrap (x_13 + 65536)) (Option.some.inj h11) rfl
     ·refine Tri.skip ?_
      exact Fin.join [0, 1, 5, 6, 7, 8] [102] (0, IntKind.i64.wrap ((IntKind.i64.wrap (x_8 - x_9)) - borrow_3)) (Option.some.inj h11) rfl
    ·rintro ⟨borrow_10, n_11⟩ hv
     subst v10
     refine Tri.regionL (Oc om (Oc om (Oc (op_buildSlice (k := 103) (es := [n_11].map eI) tySl89 rfl rfl (uni_map fun _ => rfl) rfl (by decide) (by decide) rfl) ?_)))
     obtain ⟨x_14, e12, h7⟩ := bnd h7
     refine Oc (op_append_r tySl89 (app_b e12) (app_m e12) rfl rfl rfl rfl (app_map e12) rfl) (Oc oa ?_)
     refine OpsL.nil (Fin.block_normal ?_)
     exact Fin.join [0, 1, 5, 6, 7] [102] (x_14, borrow_10) (Option.some.inj h7) rfl
   ·rintro ⟨out_6, borrow_7⟩ hv
    subst v6
    refine Tri.regionL (Oc om (Oc (op_add rfl rfl) (Oc oa ?_)))
    refine OpsL.nil ?_
    exact Fin.againJ [0, 1, 5, 6, 7] [102] (out_6, borrow_7, IntKind.i64.wrap (k_4 + 1)) (Option.some.inj h4) rfl
  ·refine Tri.exit (Fin.then_exit ?_)
   obtain rfl := hy5 _ (Option.some.inj h4).symm
   refine Fin.then_exit (Fin.block_exit ?_)
   exact Fin.join [5] [102] out_2 rfl rfl
 ·rintro out_1 hv
  subst v1
  refine Tri.seq (Tri.regionL ?_)
  refine Oc om (OpsL.persist 102 rfl ?_)
  obtain ⟨x_15, e13, h⟩ := bnd h
  refine Oc (op_call0 (r3_trim_spec e13) goes130 rfl rfl) (Oc oa ?_)
  refine OpsL.nilS ⟨[(4, .b (.one (.sl 1 (x_15.map eI))))], []⟩ rfl (Tri.ret ?_)
  obtain rfl := Option.some.inj h
  refine Fin.keepS ⟨[(4, _)], []⟩ rfl (Fin.result' [.one (.sl 1 (x_15.map eI))] (.inl rfl) rfl (.cons (.tmp rfl) .nil) ⟨rfl, rfl⟩)
def r3_divide_S (F : Nat) (a0 : List Int) (b0 : List Int) : Option ((List Int) × (List Int)) :=
 Option.bind (mk? (0 : Int) (a0.length : Int) (a0.length : Int)) (fun x_1 => (idx? b0 (IntKind.i64.wrap ((b0.length : Int) - 1))).bind fun x_2 => (r3_at_S F b0 (IntKind.i64.wrap ((b0.length : Int) - 2))).bind fun x_3 => Option.bind (letN (IntKind.i64.wrap ((a0.length : Int) - 1)) fun x_6 => iter F (un3 fun q_7 r_8 k_9 => if (decide (0 ≤ k_9)) = true then (Option.bind ((idx? a0 k_9).bind fun x_14 => (app? [x_14] r_8).bind fun x_15 => (r3_trim_S F x_15).bind fun x_16 => (r3_at_S F x_16 (b0.length : Int)).bind fun x_17 => letN (IntKind.i64.wrap ((b0.length : Int) - 1)) fun x_18 => (r3_at_S F x_16 x_18).bind fun x_19 => letN (IntKind.i64.wrap ((IntKind.i64.wrap (x_17 * 4294967296)) + (IntKind.i64.wrap (x_19 * 65536)))) fun x_20 => letN (IntKind.i64.wrap ((b0.length : Int) - 2)) fun x_21 => (r3_at_S F x_16 x_21).bind fun x_22 => letN (IntKind.i64.wrap ((IntKind.i64.wrap (x_2 * 65536)) + x_3)) fun x_23 => (quo? .i64 (IntKind.i64.wrap (x_20 + x_22)) x_23).bind fun x_24 => (r3_times_S F b0 [min 65535 x_24]).bind fun x_25 => Option.bind (iter F (un2 fun d_28 part_29 => (r3_less_S F x_16 part_29).bind fun x_32 => if x_32 = true then ((r3_minus_S F part_29 b0).bind fun x_33 => some (.inl (IntKind.i64.wrap (d_28 - 1), x_33))) else (some (.inr (d_28, part_29)))) (min 65535 x_24, x_25)) (un2 fun d_26 part_27 => (idx? q_7 k_9).bind fun x_34 => (r3_minus_S F x_16 part_27).bind fun x_35 => some (q_7.set (k_9 : Int).toNat d_26, x_35))) (un2 fun q_12 r_13 => some (.inl (q_12, r_13, IntKind.i64.wrap (k_9 - 1))))) else (some (.inr (q_7, r_8)))) (x_1, [], x_6)) (un2 fun q_4 r_5 => (r3_trim_S F q_4).bind fun x_36 => some (x_36, r_5)))
theorem r3_divide_spec {F : Nat} {a0 : List Int} {b0 : List Int} {r : (List Int) × (List Int)} (h : r3_divide_S F a0 b0 = some r) : Meets Tryz.prog (tabs mx) 154 [] [.one (.sl 1 (a0.map eI)), .one (.sl 1 (b0.map eI))] (Is [] (.tup [.one (.sl 1 (r.1.map eI)), .one (.sl 1 (r.2.map eI))])) := by
 unfold r3_divide_S at h
 refine Meets.intro 84 Tryz.func154 Tryz.ntmps154 rfl (by simp) fun E => ?_
 show Tri _ E ⟨84, [], []⟩ _ ⟨[(0, .b (.one (.sl 1 (a0.map eI)))), (1, .b (.one (.sl 1 (b0.map eI))))], []⟩ _
 refine Tri.seq (Tri.regionL ?_)
 refine Oc oa (Oc oa ?_)
 refine OpsL.nilS ⟨[(0, .b (.one (.sl 1 (a0.map eI)))), (1, .b (.one (.sl 1 (b0.map eI))))], []⟩ rfl (Tri.seq (Tri.regionL ?_))
 refine Oc om (Oc (op_len_e' und89 rfl (List.length_map _)) ?_)
 obtain ⟨x_1, e1, h⟩ := bnd h
 refine Oc (op_makeSlice (k := 101) (enc := eI) tySl89 e1 (by decide) (.cons .refl .nil) rfl rfl rfl) (Oc oa ?_)
 refine OpsL.nilS ⟨[(0, _), (1, _), (6, .b (.row 101))], [(101, .row 3 1 (x_1.map eI))]⟩ rfl (Tri.seq (Tri.regionL ?_))
 refine Oc om (Oc (op_len_e' und89 rfl (List.length_map _)) (Oc oa ?_))
 refine OpsL.nilS ⟨[(0, _), (1, _), (6, _), (7, I (b0.length : Int))], [(101, _)]⟩ rfl (Tri.seq ?_)
 obtain ⟨x_2, e2, h⟩ := bnd h
 obtain ⟨x_3, e3, h⟩ := bnd h
 refine Tri.regionY mixed 12 [.b (.one (.sl 1 (b0.map eI))), I (b0.length : Int), I (IntKind.i64.wrap ((b0.length : Int) - 1)), .b (.eptr [.i x_2]), I x_2, I (IntKind.i64.wrap (x_2 * 65536)), .b (.one (.sl 1 (b0.map eI))), I (b0.length : Int), I (IntKind.i64.wrap ((b0.length : Int) - 2)), I x_3, I (IntKind.i64.wrap ((IntKind.i64.wrap (x_2 * 65536)) + x_3)), I (IntKind.i64.wrap ((IntKind.i64.wrap (x_2 * 65536)) + x_3))] [0, 1, 6, 7, 8] [101] (s' := ⟨[(0, _), (1, _), (6, _), (7, _), (8, I (IntKind.i64.wrap ((IntKind.i64.wrap (x_2 * 65536)) + x_3)))], [(101, _)]⟩) rfl ⟨fun _ => .p om, fun _ => .p om, fun _ => .p (op_sub rfl rfl), fun _ => .p (op_index_e tySl89 (ix_lo e2) (ix_map (e := eI) e2) rfl rfl), fun _ => .p (op_load_e1 tyOne3 rfl rfl), fun _ => .p (op_mul rfl rfl), fun _ => .p om, fun _ => .p om, fun _ => .p (op_sub rfl rfl), fun _ => .p (op_call0 (r3_at_spec e3) goes186 rfl rfl), fun _ => .p (op_add rfl rfl), fun _ => .p oa, trivial⟩ rfl rfl (Tri.seq (Tri.regionL ?_))
 refine Oc oa (OpsL.nilS ⟨[(0, _), (1, _), (6, _), (7, _), (8, _), (9, .b (.one (.nil)))], [(101, _)]⟩ rfl ?_)
 obtain ⟨v4, h5, h⟩ := bnd h
 refine Tri.seqJ (v := v4) (un2 fun (q_4 : List Int) (r_5 : List Int) => ⟨[(6, .b (.row 101)), (9, .b (.one (.sl 1 (r_5.map eI))))], [(101, .row 3 1 (q_4.map eI))]⟩) (fun z => z) ?_ ?_
 ·refine Tri.seq (Tri.regionL ?_)
  refine Oc om (Oc (op_len_e' und89 rfl (List.length_map _)) ?_)
  refine OpsL.consI .i64 h5 rfl (op_sub rfl rfl) (fun x_6 h5 => ?_)
  refine Oc oa (OpsL.nilS ⟨[(0, _), (1, _), (6, _), (7, _), (8, _), (9, _), (10, I x_6)], [(101, _)]⟩ rfl (Tri.block (Tri.nilsl 9 1 rfl (by decide) (Tri.loopJ h5 (un3 fun (q_7 : List Int) (r_8 : List Int) (k_9 : Int) => ⟨[(0, .b (.one (.sl 1 (a0.map eI)))), (1, .b (.one (.sl 1 (b0.map eI)))), (6, .b (.row 101)), (7, I (b0.length : Int)), (8, I (IntKind.i64.wrap ((IntKind.i64.wrap (x_2 * 65536)) + x_3))), (9, .b (.one (.sl 1 (r_8.map eI)))), (10, I k_9)], [(101, .row 3 1 (q_7.map eI))]⟩) [0, 1, 6, 7, 8, 9, 10] [101] rfl ?_))))
  rintro ⟨q_7, r_8, k_9⟩ o6 h7 hy8
  refine Tri.seq (Tri.seq (Tri.regionL ?_))
  refine Oc om (Oc (op_geq rfl rfl) ?_)
  refine OpsL.nilS ⟨[(0, _), (1, _), (6, _), (7, _), (8, _), (9, _), (10, _), (33, B (decide (0 ≤ k_9)))], [(101, _)]⟩ rfl (Tri.ite h7 rfl (fun _ h7 => ?_) (fun _ h7 => ?_))
  ·refine Tri.skip (Fin.keepS ⟨[(0, _), (1, _), (6, _), (7, _), (8, _), (9, _), (10, _)], [(101, _)]⟩ rfl (Fin.then ?_))
   obtain ⟨v9, h10, h7⟩ := bnd h7
   refine Tri.seqJ (v := v9) (un2 fun (q_12 : List Int) (r_13 : List Int) => ⟨[(0, .b (.one (.sl 1 (a0.map eI)))), (1, .b (.one (.sl 1 (b0.map eI)))), (6, .b (.row 101)), (7, I (b0.length : Int)), (8, I (IntKind.i64.wrap ((IntKind.i64.wrap (x_2 * 65536)) + x_3))), (9, .b (.one (.sl 1 (r_13.map eI)))), (10, I k_9)], [(101, .row 3 1 (q_12.map eI))]⟩) (fun z => z) ?_ ?_
   ·refine Tri.block (Tri.seq (Tri.regionL ?_))
    refine Oc om (Oc om ?_)
    obtain ⟨x_14, e11, h10⟩ := bnd h10
    refine Oc (op_index_e tySl89 (ix_lo e11) (ix_map (e := eI) e11) rfl rfl) (Oc (op_load_e1 tyOne3 rfl rfl) (Oc (op_buildSlice (k := 102) (es := [x_14].map eI) tySl89 rfl rfl (uni_map fun _ => rfl) rfl (by decide) (by decide) rfl) (Oc om ?_)))
    refine OpsL.keepS ⟨[(0, _), (1, _), (6, _), (7, _), (8, _), (9, _), (10, _), (40, .b (.row 102)), (41, .b (.one (.sl 1 (r_8.map eI))))], [(101, _), (102, .row 3 1 ([x_14].map eI))]⟩ rfl ?_
    obtain ⟨x_15, e12, h10⟩ := bnd h10
    refine Oc (op_append tySl89 (app_b e12) (app_m e12) rfl rfl rfl (app_map e12) rfl) (OpsL.persist 102 rfl ?_)
    obtain ⟨x_16, e13, h10⟩ := bnd h10
    refine Oc (op_call0 (r3_trim_spec e13) goes130 rfl rfl) (Oc oa ?_)
    refine OpsL.nilS ⟨[(0, .b (.one (.sl 1 (a0.map eI)))), (1, .b (.one (.sl 1 (b0.map eI)))), (6, .b (.row 101)), (7, I (b0.length : Int)), (8, I (IntKind.i64.wrap ((IntKind.i64.wrap (x_2 * 65536)) + x_3))), (9, .b (.one (.sl 1 (x_16.map eI)))), (10, I k_9)], [(101, .row 3 1 (q_7.map eI))]⟩ rfl (Tri.seq (Tri.regionL ?_))
    refine Oc om (Oc om ?_)
    obtain ⟨x_17, e14, h10⟩ := bnd h10
    refine Oc (op_call0 (r3_at_spec e14) goes186 rfl rfl) (Oc (op_mul rfl rfl) (Oc om ?_))
    refine OpsL.keepS ⟨[(0, _), (1, _), (6, _), (7, _), (8, _), (9, _), (10, _), (47, I (IntKind.i64.wrap (x_17 * 4294967296))), (48, .b (.one (.sl 1 (x_16.map eI))))], [(101, _)]⟩ rfl (Oc om (OpsL.consI .i64 h10 rfl (op_sub rfl rfl) (fun x_18 h10 => ?_)))
    obtain ⟨x_19, e15, h10⟩ := bnd h10
    refine Oc (op_call0 (r3_at_spec e15) goes186 rfl rfl) (Oc (op_mul rfl rfl) ?_)
    refine OpsL.consI .i64 h10 rfl (op_add rfl rfl) (fun x_20 h10 => ?_)
    refine Oc om (OpsL.keepS ⟨[(0, _), (1, _), (6, _), (7, _), (8, _), (9, _), (10, _), (53, I x_20), (54, .b (.one (.sl 1 (x_16.map eI))))], [(101, _)]⟩ rfl (Oc om (OpsL.consI .i64 h10 rfl (op_sub rfl rfl) (fun x_21 h10 => ?_))))
    obtain ⟨x_22, e16, h10⟩ := bnd h10
    refine Oc (op_call0 (r3_at_spec e16) goes186 rfl rfl) (Oc (op_add rfl rfl) ?_)
    refine OpsL.consI .i64 h10 rfl om (fun x_23 h10 => ?_)
    obtain ⟨x_24, e17, h10⟩ := bnd h10
    refine Oc (op_quo2 e17 rfl rfl) (Oc (op_min rfl rfl) (Oc oa ?_))
    refine OpsL.nilS ⟨[(0, _), (1, _), (6, _), (7, _), (8, _), (9, _), (10, _), (11, I (min 65535 x_24))], [(101, _)]⟩ rfl (Tri.seq (Tri.regionL ?_))
    refine Oc om (Oc om (Oc (op_buildSlice (k := 103) (es := [min 65535 x_24].map eI) tySl89 rfl rfl (uni_map fun _ => rfl) rfl (by decide) (by decide) rfl) ?_))
    refine OpsL.persist 103 rfl ?_
    obtain ⟨x_25, e18, h10⟩ := bnd h10
    refine Oc (op_call0 (r3_times_spec e18) goes185 rfl rfl) (Oc oa ?_)
    refine OpsL.nilS ⟨[(0, .b (.one (.sl 1 (a0.map eI)))), (1, .b (.one (.sl 1 (b0.map eI)))), (6, .b (.row 101)), (7, I (b0.length : Int)), (8, I (IntKind.i64.wrap ((IntKind.i64.wrap (x_2 * 65536)) + x_3))), (9, .b (.one (.sl 1 (x_16.map eI)))), (10, I k_9), (11, I (min 65535 x_24)), (12, .b (.one (.sl 1 (x_25.map eI))))], [(101, .row 3 1 (q_7.map eI))]⟩ rfl ?_
    obtain ⟨v19, h20, h10⟩ := bnd h10
    refine Tri.seqJ (v := v19) (un2 fun (d_26 : Int) (part_27 : List Int) => ⟨[(0, .b (.one (.sl 1 (a0.map eI)))), (1, .b (.one (.sl 1 (b0.map eI)))), (6, .b (.row 101)), (7, I (b0.length : Int)), (8, I (IntKind.i64.wrap ((IntKind.i64.wrap (x_2 * 65536)) + x_3))), (9, .b (.one (.sl 1 (x_16.map eI)))), (10, I k_9), (11, I d_26), (12, .b (.one (.sl 1 (part_27.map eI))))], [(101, .row 3 1 (q_7.map eI))]⟩) (fun z => z) ?_ ?_
    ·refine Tri.block (Tri.loopJ h20 (un2 fun (d_28 : Int) (part_29 : List Int) => ⟨[(0, .b (.one (.sl 1 (a0.map eI)))), (1, .b (.one (.sl 1 (b0.map eI)))), (6, .b (.row 101)), (7, I (b0.length : Int)), (8, I (IntKind.i64.wrap ((IntKind.i64.wrap (x_2 * 65536)) + x_3))), (9, .b (.one (.sl 1 (x_16.map eI)))), (10, I k_9), (11, I d_28), (12, .b (.one (.sl 1 (part_29.map eI))))], [(101, .row 3 1 (q_7.map eI))]⟩) [0, 1, 6, 7, 8, 9, 10, 11, 12] [101] rfl ?_)
     rintro ⟨d_28, part_29⟩ o21 h22 hy23
     refine Tri.seq (Tri.seq (Tri.regionL ?_))
     refine Oc om (Oc om ?_)
     obtain ⟨x_32, e24, h22⟩ := bnd h22
     refine Oc (op_call0 (r3_less_spec e24) goes150 rfl rfl) (OpsL.nilS ⟨[(0, _), (1, _), (6, _), (7, _), (8, _), (9, _), (10, _), (11, _), (12, _), (68, B x_32)], [(101, _)]⟩ rfl (Tri.ite h22 rfl (fun _ h22 => ?_) (fun _ h22 => ?_)))
     ·refine Tri.skip (Fin.keepS ⟨[(0, _), (1, _), (6, _), (7, _), (8, _), (9, _), (10, _), (11, _), (12, _)], [(101, _)]⟩ rfl (Fin.then (Tri.block (Tri.seq (Tri.regionL ?_)))))
      refine Oc om (Oc (op_sub rfl rfl) (Oc oa ?_))
      refine OpsL.nilS ⟨[(0, _), (1, _), (6, _), (7, _), (8, _), (9, _), (10, _), (11, I (IntKind.i64.wrap (d_28 - 1))), (12, _)], [(101, _)]⟩ rfl (Tri.regionL (Oc om (Oc om ?_)))
      obtain ⟨x_33, e25, h22⟩ := bnd h22
      refine Oc (op_call0 (r3_minus_spec e25) goes157 rfl rfl) (Oc oa ?_)
      refine OpsL.nil (Fin.block_normal ?_)
      exact Fin.againJ [0, 1, 6, 7, 8, 9, 10, 11, 12] [101] (IntKind.i64.wrap (d_28 - 1), x_33) (Option.some.inj h22) rfl
     ·refine Tri.exit (Fin.then_exit ?_)
      obtain rfl := hy23 _ (Option.some.inj h22).symm
      refine Fin.then_exit (Fin.block_exit ?_)
      exact Fin.join [0, 1, 6, 7, 8, 9, 10, 11, 12] [101] (d_28, part_29) rfl rfl
    ·rintro ⟨d_26, part_27⟩ hv
     subst v19
     refine Tri.seq (Tri.regionL ?_)
     refine Oc om (Oc om (Oc om ?_))
     obtain ⟨x_34, e26, h10⟩ := bnd h10
     refine Oc (op_index_r tySl89 (ix_lo e26) (ix_lt' e26) rfl rfl rfl rfl) (Oc (op_store_r1 (i := (k_9 : Int).toNat) tyOne3 rfl rfl rfl rfl (ix_lt e26) (map_set _ _ _ _)) ?_)
     refine OpsL.nilS ⟨[(0, _), (1, _), (6, _), (7, _), (8, _), (9, _), (10, _), (12, _)], [(101, .row 3 1 ((q_7.set (k_9 : Int).toNat d_26).map eI))]⟩ rfl (Tri.regionL (Oc om (Oc om ?_)))
     obtain ⟨x_35, e27, h10⟩ := bnd h10
     refine Oc (op_call0 (r3_minus_spec e27) goes157 rfl rfl) (Oc oa ?_)
     refine OpsL.nil (Fin.block_normal ?_)
     exact Fin.join [0, 1, 6, 7, 8, 9, 10] [101] (q_7.set (k_9 : Int).toNat d_26, x_35) (Option.some.inj h10) rfl
   ·rintro ⟨q_12, r_13⟩ hv
    subst v9
    refine Tri.regionL (Oc om (Oc (op_sub rfl rfl) (Oc oa ?_)))
    refine OpsL.nil ?_
    exact Fin.againJ [0, 1, 6, 7, 8, 9, 10] [101] (q_12, r_13, IntKind.i64.wrap (k_9 - 1)) (Option.some.inj h7) rfl
  ·refine Tri.exit (Fin.then_exit ?_)
   obtain rfl := hy8 _ (Option.some.inj h7).symm
   refine Fin.then_exit (Fin.block_exit ?_)
   exact Fin.join [6, 9] [101] (q_7, r_8) rfl rfl
 ·rintro ⟨q_4, r_5⟩ hv
  subst v4
  refine Tri.seq (Tri.regionL ?_)
  refine Oc om (OpsL.persist 101 rfl ?_)
  obtain ⟨x_36, e28, h⟩ := bnd h
  refine Oc (op_call0 (r3_trim_spec e28) goes130 rfl rfl) (Oc om (Oc oa (Oc oa ?_)))
  refine OpsL.nilS ⟨[(4, .b (.one (.sl 1 (x_36.map eI)))), (5, .b (.one (.sl 1 (r_5.map eI))))], []⟩ rfl (Tri.ret ?_)
  obtain rfl := Option.some.inj h
  refine Fin.keepS ⟨[(4, _), (5, _)], []⟩ rfl (Fin.result' [.one (.sl 1 (x_36.map eI)), .one (.sl 1 (r_5.map eI))] (.inl rfl) rfl (.cons (.tmp rfl) (.cons (.tmp rfl) .nil)) ⟨rfl, rfl⟩)
def r3_Gcd_S (F : Nat) (a0 : Big) (b0 : Big) : Option Big :=
 Option.bind (r3_word_S F a0) (un2 fun x_1 x_2 => Option.bind (r3_word_S F b0) (un2 fun x_3 x_4 => Option.bind (if (x_2 && x_4) = true then (Option.bind (iter F (un2 fun n_6 m_7 => if (decide (m_7 ≠ 0)) = true then ((rem? n_6 m_7).bind fun x_9 => some (.inl (m_7, x_9))) else (some (.inr n_6))) (x_1, x_3)) (fun n_5 => (r3_Of_S F n_5).bind fun x_10 => (r3_Abs_S F x_10).bind fun x_11 => some (.inr x_11))) else (some (.inl ()))) (alt2 (fun _ => (r3_Good_S F a0).bind fun x_12 => (gcall (!(!x_12)) (r3_Good_S F b0)).bind fun x_13 => if ((!x_12) || (!x_13)) = true then ((r3_Bad_S F).bind fun x_14 => some x_14) else ((r3_digits_S F a0).bind fun x_15 => (r3_digits_S F b0).bind fun x_16 => Option.bind (iter F (un2 fun x_18 y_19 => if (decide (0 < (y_19.length : Int))) = true then (Option.bind (r3_divide_S F x_18 y_19) (un2 fun x_21 x_22 => some (.inl (y_19, x_22)))) else (some (.inr x_18))) (x_15, x_16)) (fun x_17 => (r3_number_S F false x_17).bind fun x_23 => some x_23))) (fun y => some y))))
theorem r3_Gcd_spec {F : Nat} {a0 : Big} {b0 : Big} {r : Big} (h : r3_Gcd_S F a0 b0 = some r) : Meets Tryz.prog (tabs mx) 115 [] [.agg (eBig a0), .agg (eBig b0)] (Is [] (.b (.agg (eBig r)))) := by
 unfold r3_Gcd_S at h
 refine Meets.intro 64 Tryz.func115 Tryz.ntmps115 rfl (by simp) fun E => ?_
 show Tri _ E ⟨64, [], []⟩ _ ⟨[(0, .b (.agg (eBig a0))), (1, .b (.agg (eBig b0)))], []⟩ _
 refine Tri.seq (Tri.regionL ?_)
 refine Oc (op_box (k := 101) rfl rfl) (Oc (op_box (k := 102) rfl rfl) (Oc (op_alloc (k := 103) tyZero25 rfl) ?_))
 refine OpsL.nilS ⟨[(2, Pt 101 0), (3, Pt 102 0), (4, Pt 103 0)], [(101, .box 25 (eBig a0)), (102, .box 25 (eBig b0)), (103, .box 25 zBig)]⟩ rfl (Tri.seq (Tri.regionL ?_))
 refine Oc (lp tyAgg25) ?_
 obtain ⟨⟨x_1, x_2⟩, e1, h⟩ := bnd h
 refine Oc (op_call0 (r3_word_spec e1) goes152 rfl rfl) (Oc om (Oc (op_extract rfl rfl) (Oc (op_extract rfl rfl) (Oc oa (Oc oa ?_)))))
 refine OpsL.nilS ⟨[(2, _), (3, _), (4, _), (5, I x_1), (6, B x_2)], [(101, _), (102, _), (103, _)]⟩ rfl (Tri.seq (Tri.regionL ?_))
 refine Oc (lp tyAgg25) ?_
 obtain ⟨⟨x_3, x_4⟩, e2, h⟩ := bnd h
 refine Oc (op_call0 (r3_word_spec e2) goes152 rfl rfl) (Oc om (Oc (op_extract rfl rfl) (Oc (op_extract rfl rfl) (Oc oa (Oc oa ?_)))))
 refine OpsL.nilS ⟨[(2, _), (3, _), (4, _), (5, _), (6, _), (7, I x_3), (8, B x_4)], [(101, _), (102, _), (103, _)]⟩ rfl ?_
 obtain ⟨v3, h4, h⟩ := bnd h
 refine Tri.seqJ (v := v3) (fun (_ : Unit) => ⟨[(2, Pt 101 0), (3, Pt 102 0), (4, Pt 103 0)], [(101, .box 25 (eBig a0)), (102, .box 25 (eBig b0)), (103, .box 25 zBig)]⟩) (fun z => .inl z) ?_ ?_
 ·refine Tri.seq (Tri.regionL ?_)
  refine Oc om (Oc om ?_)
  refine CgT x_2 [] (fun g5 => trivial) (fun g5 => om) (Oc (op_pick_and (fun e => e) rfl rfl rfl rfl) (OpsL.nilS ⟨[(2, _), (3, _), (4, _), (5, _), (7, _), (27, B (x_2 && x_4))], [(101, _), (102, _), (103, _)]⟩ rfl (Tri.ite h4 rfl (fun _ h4 => ?_) (fun _ h4 => ?_))))
  ·obtain ⟨v6, h7, h4⟩ := bnd h4
   refine Tri.seqJ (v := v6) (fun (n_5 : Int) => ⟨[(4, Pt 103 0), (5, I n_5)], [(103, .box 25 zBig)]⟩) (fun z => z) ?_ ?_
   ·refine Tri.block (Tri.loopJ h7 (un2 fun (n_6 : Int) (m_7 : Int) => ⟨[(4, Pt 103 0), (5, I n_6), (7, I m_7)], [(103, .box 25 zBig)]⟩) [4, 5, 7] [103] rfl ?_)
    rintro ⟨n_6, m_7⟩ o8 h9 hy10
    refine Tri.seq (Tri.seq (Tri.regionL ?_))
    refine Oc om (Oc (op_neq rfl rfl) ?_)
    refine OpsL.nilS ⟨[(4, _), (5, _), (7, _), (29, B (decide (m_7 ≠ 0)))], [(103, _)]⟩ rfl (Tri.ite h9 rfl (fun _ h9 => ?_) (fun _ h9 => ?_))
    ·refine Tri.skip (Fin.keepS ⟨[(4, _), (5, _), (7, _)], [(103, _)]⟩ rfl (Fin.then (Tri.block (Tri.seq (Tri.regionL ?_)))))
     refine Oc om (Oc om ?_)
     obtain ⟨x_9, e11, h9⟩ := bnd h9
     refine Oc (op_rem2 e11 rfl rfl) (Oc oa ?_)
     refine OpsL.nilS ⟨[(4, _), (7, _), (9, I x_9)], [(103, _)]⟩ rfl (Tri.seq (Tri.regionL ?_))
     refine Oc om (Oc oa ?_)
     refine OpsL.nilS ⟨[(4, _), (5, I m_7), (9, _)], [(103, _)]⟩ rfl (Tri.regionL (Oc om (Oc oa ?_)))
     refine OpsL.nil (Fin.block_normal ?_)
     exact Fin.againJ [4, 5, 7] [103] (m_7, x_9) (Option.some.inj h9) rfl
    ·refine Tri.exit (Fin.then_exit ?_)
     obtain rfl := hy10 _ (Option.some.inj h9).symm
     refine Fin.then_exit (Fin.block_exit ?_)
     exact Fin.join [4, 5] [103] n_6 rfl rfl
   ·rintro n_5 hv
    subst v6
    refine Tri.seq (Tri.regionL ?_)
    refine Oc om ?_
    obtain ⟨x_10, e12, h4⟩ := bnd h4
    refine Oc (op_call0 (r3_Of_spec e12) goes107 rfl rfl) ?_
    obtain ⟨x_11, e13, h4⟩ := bnd h4
    refine Oc (op_call0 (r3_Abs_spec e13) goes161 rfl rfl) (Oc (op_store_p tyAgg25 rfl rfl rfl rfl (Nat.le_of_ble_eq_true rfl) rfl) ?_)
    refine OpsL.nilS ⟨[(4, _)], [(103, .box 25 (eBig x_11))]⟩ rfl (Tri.ret ?_)
    obtain rfl := Option.some.inj h4
    refine Fin.then_ret ?_
    obtain rfl := Option.some.inj h
    refine Fin.keepS ⟨[(4, _)], [(103, _)]⟩ rfl (Fin.result' [.agg (eBig x_11)] (.inl rfl) rfl (.cons (.agg tyAgg25 rfl rfl rfl rfl) .nil) ⟨rfl, rfl⟩)
  ·refine Tri.skip ?_
   exact Fin.join [2, 3, 4] [101, 102, 103] () (Option.some.inj h4) rfl
 ·rintro _ hv
  subst v3
  refine Tri.seq (Tri.seq (Tri.regionL ?_))
  refine Oc (lp tyAgg25) ?_
  obtain ⟨x_12, e14, h⟩ := bnd h
  refine Oc (op_call0 (r3_Good_spec e14) goes65 rfl rfl) (Oc (op_not rfl) (Oc om ?_))
  refine CgF (!(!x_12)) [] (fun g15 => trivial) (fun g15 => lp tyAgg25) (OpsL.keepS ⟨[(2, _), (3, _), (4, _), (41, B (!x_12)), (42, .opt (!(!x_12)) (.agg (eBig b0)))], [(101, _), (102, _), (103, _)]⟩ rfl ?_)
  obtain ⟨x_13, e17, h⟩ := bnd h
  refine CgF (!(!x_12)) [42] (fun g16 => ⟨g16, trivial⟩) (fun g16 => op_call0 (r3_Good_spec (gc e17 g16)) goes65 rfl rfl) (CgF (!(!x_12)) [43] (fun g18 => ⟨g18, trivial⟩) (fun g18 => op_not rfl) (Oc (op_pick_or (fun e => by rw [e]; rfl) rfl rfl rfl rfl) (OpsL.nilS ⟨[(2, _), (3, _), (4, _), (45, B ((!x_12) || (!x_13)))], [(101, _), (102, _), (103, _)]⟩ rfl (Tri.ite h rfl (fun _ h => ?_) (fun _ h => ?_)))))
  ·refine Tri.seq (Tri.regionL ?_)
   obtain ⟨x_14, e19, h⟩ := bnd h
   refine Oc (op_call0 (r3_Bad_spec e19) goes151 rfl rfl) (Oc (op_store_p tyAgg25 rfl rfl rfl rfl (Nat.le_of_ble_eq_true rfl) rfl) ?_)
   refine OpsL.nilS ⟨[(4, _)], [(103, .box 25 (eBig x_14))]⟩ rfl (Tri.ret (Fin.then_ret ?_))
   obtain rfl := Option.some.inj h
   refine Fin.keepS ⟨[(4, _)], [(103, _)]⟩ rfl (Fin.result' [.agg (eBig x_14)] (.inl rfl) rfl (.cons (.agg tyAgg25 rfl rfl rfl rfl) .nil) ⟨rfl, rfl⟩)
  ·refine Tri.skip (Fin.keepS ⟨[(2, _), (3, _), (4, _)], [(101, _), (102, _), (103, _)]⟩ rfl (Fin.then (Tri.seq (Tri.regionL ?_))))
   refine Oc (lp tyAgg25) ?_
   obtain ⟨x_15, e20, h⟩ := bnd h
   refine Oc (op_call0 (r3_digits_spec e20) goes66 rfl rfl) (Oc oa ?_)
   refine OpsL.nilS ⟨[(3, _), (4, _), (10, .b (.one (.sl 1 (x_15.map eI))))], [(102, _), (103, _)]⟩ rfl (Tri.seq (Tri.regionL ?_))
   refine Oc (lp tyAgg25) ?_
   obtain ⟨x_16, e21, h⟩ := bnd h
   refine Oc (op_call0 (r3_digits_spec e21) goes66 rfl rfl) (Oc oa ?_)
   refine OpsL.nilS ⟨[(4, _), (10, _), (11, .b (.one (.sl 1 (x_16.map eI))))], [(103, _)]⟩ rfl ?_
   obtain ⟨v22, h23, h⟩ := bnd h
   refine Tri.seqJ (v := v22) (fun (x_17 : List Int) => ⟨[(4, Pt 103 0), (10, .b (.one (.sl 1 (x_17.map eI))))], [(103, .box 25 zBig)]⟩) (fun z => z) ?_ ?_
   ·refine Tri.block (Tri.loopJ h23 (un2 fun (x_18 : List Int) (y_19 : List Int) => ⟨[(4, Pt 103 0), (10, .b (.one (.sl 1 (x_18.map eI)))), (11, .b (.one (.sl 1 (y_19.map eI))))], [(103, .box 25 zBig)]⟩) [4, 10, 11] [103] rfl ?_)
    rintro ⟨x_18, y_19⟩ o24 h25 hy26
    refine Tri.seq (Tri.seq (Tri.regionL ?_))
    refine Oc om (Oc (op_len_e' und89 rfl (List.length_map _)) (Oc (op_gtr rfl rfl) ?_))
    refine OpsL.nilS ⟨[(4, _), (10, _), (11, _), (53, B (decide (0 < (y_19.length : Int))))], [(103, _)]⟩ rfl (Tri.ite h25 rfl (fun _ h25 => ?_) (fun _ h25 => ?_))
    ·refine Tri.skip (Fin.keepS ⟨[(4, _), (10, _), (11, _)], [(103, _)]⟩ rfl (Fin.then (Tri.block (Tri.seq (Tri.regionL ?_)))))
     refine Oc om (Oc om ?_)
     obtain ⟨⟨x_21, x_22⟩, e27, h25⟩ := bnd h25
     refine Oc (op_call0 (r3_divide_spec e27) goes154 rfl rfl) (Oc om (Oc (op_extract rfl rfl) ?_))
     refine OpsL.keepS ⟨[(4, _), (11, _), (54, .tup [.one (.sl 1 (x_21.map eI)), .one (.sl 1 (x_22.map eI))]), (58, .b (.one (.sl 1 (x_21.map eI))))], [(103, _)]⟩ rfl (Oc (op_extract rfl rfl) (Oc oa (Oc oa ?_)))
     refine OpsL.nilS ⟨[(4, _), (11, _), (13, .b (.one (.sl 1 (x_22.map eI))))], [(103, _)]⟩ rfl (Tri.seq (Tri.regionL ?_))
     refine Oc om (Oc oa ?_)
     refine OpsL.nilS ⟨[(4, _), (10, .b (.one (.sl 1 (y_19.map eI)))), (13, _)], [(103, _)]⟩ rfl (Tri.regionL (Oc om (Oc oa ?_)))
     refine OpsL.nil (Fin.block_normal ?_)
     exact Fin.againJ [4, 10, 11] [103] (y_19, x_22) (Option.some.inj h25) rfl
    ·refine Tri.exit (Fin.then_exit ?_)
     obtain rfl := hy26 _ (Option.some.inj h25).symm
     refine Fin.then_exit (Fin.block_exit ?_)
     exact Fin.join [4, 10] [103] x_18 rfl rfl
   ·rintro x_17 hv
    subst v22
    refine Tri.seq (Tri.regionL ?_)
    refine Oc om ?_
    obtain ⟨x_23, e28, h⟩ := bnd h
    refine Oc (op_call0 (r3_number_spec e28) goes156 rfl rfl) (Oc (op_store_p tyAgg25 rfl rfl rfl rfl (Nat.le_of_ble_eq_true rfl) rfl) ?_)
    refine OpsL.nilS ⟨[(4, _)], [(103, .box 25 (eBig x_23))]⟩ rfl (Tri.ret ?_)
    obtain rfl := Option.some.inj h
    refine Fin.keepS ⟨[(4, _)], [(103, _)]⟩ rfl (Fin.result' [.agg (eBig x_23)] (.inl rfl) rfl (.cons (.agg tyAgg25 rfl rfl rfl rfl) .nil) ⟨rfl, rfl⟩)
def r4_one_S (F : Nat) : Option Big :=
 (r3_Of_S F 1).bind fun x_1 => some x_1
theorem r4_one_spec {F : Nat} {r : Big} (h : r4_one_S F = some r) : Meets Tryz.prog (tabs mx) 108 [] [] (Is [] (.b (.agg (eBig r)))) := by
 unfold r4_one_S at h
 refine Meets.intro 2 Tryz.func108 Tryz.ntmps108 rfl (by simp) fun E => ?_
 show Tri _ E ⟨2, [], []⟩ _ ⟨[], []⟩ _
 refine Tri.seq (Tri.regionL ?_)
 refine Oc (op_alloc (k := 101) tyZero25 rfl) (OpsL.nilS ⟨[(0, Pt 101 0)], [(101, .box 25 zBig)]⟩ rfl (Tri.seq (Tri.regionL ?_)))
 obtain ⟨x_1, e1, h⟩ := bnd h
 refine Oc (op_call0 (r3_Of_spec e1) goes107 rfl rfl) (Oc (op_store_p tyAgg25 rfl rfl rfl rfl (Nat.le_of_ble_eq_true rfl) rfl) ?_)
 refine OpsL.nilS ⟨[(0, _)], [(101, .box 25 (eBig x_1))]⟩ rfl (Tri.ret ?_)
 obtain rfl := Option.some.inj h
 refine Fin.keepS ⟨[(0, _)], [(101, _)]⟩ rfl (Fin.result' [.agg (eBig x_1)] (.inl rfl) rfl (.cons (.agg tyAgg25 rfl rfl rfl rfl) .nil) ⟨rfl, rfl⟩)
def r4_Good_S (F : Nat) (x0 : Frc) : Option Bool :=
 (r3_Good_S F x0.N).bind fun x_1 => (gcall (!(!x_1)) (r3_Good_S F x0.D)).bind fun x_2 => if ((!x_1) || (!x_2)) = true then (some false) else ((r3_Sign_S F x0.D).bind fun x_3 => (gcall (decide (0 < x_3)) (r3_Gcd_S F x0.N x0.D)).bind fun x_4 => (gcall (decide (0 < x_3)) (r4_one_S F)).bind fun x_5 => some ((decide (0 < x_3)) && (decide (x_4 = x_5))))
theorem r4_Good_spec {F : Nat} {x0 : Frc} {r : Bool} (h : r4_Good_S F x0 = some r) : Meets Tryz.prog (tabs mx) 58 [] [.agg (eFrc x0)] (Is [] (.b (.one (.bool r)))) := by
 unfold r4_Good_S at h
 refine Meets.intro 26 Tryz.func58 Tryz.ntmps58 rfl (by simp) fun E => ?_
 show Tri _ E ⟨26, [], []⟩ _ ⟨[(0, .b (.agg (eFrc x0)))], []⟩ _
 refine Tri.seq (Tri.regionL ?_)
 refine Oc (op_box (k := 101) rfl rfl) (Oc oa ?_)
 refine OpsL.nilS ⟨[(1, Pt 101 0)], [(101, .box 27 (eFrc x0))]⟩ rfl (Tri.seq (Tri.seq (Tri.regionL ?_)))
 refine Oc (op_field_p tyFld27_0 rfl rfl) (Oc (lp tyAgg25) ?_)
 obtain ⟨x_1, e1, h⟩ := bnd h
 refine Oc (op_call0 (r3_Good_spec e1) goes65 rfl rfl) (Oc (op_not rfl) (Oc om ?_))
 refine OpsL.keepS ⟨[(1, _), (7, B (!x_1))], [(101, _)]⟩ rfl (CgF (!(!x_1)) [] (fun g2 => trivial) (fun g2 => op_field_p tyFld27_1 rfl rfl) (CgF (!(!x_1)) [8] (fun g3 => ⟨g3, trivial⟩) (fun g3 => lp tyAgg25) ?_))
 obtain ⟨x_2, e5, h⟩ := bnd h
 refine CgF (!(!x_1)) [9] (fun g4 => ⟨g4, trivial⟩) (fun g4 => op_call0 (r3_Good_spec (gc e5 g4)) goes65 rfl rfl) (CgF (!(!x_1)) [10] (fun g6 => ⟨g6, trivial⟩) (fun g6 => op_not rfl) (Oc (op_pick_or (fun e => by rw [e]; rfl) rfl rfl rfl rfl) (OpsL.nilS ⟨[(1, _), (12, B ((!x_1) || (!x_2)))], [(101, _)]⟩ rfl (Tri.ite h rfl (fun _ h => ?_) (fun _ h => ?_)))))
 ·refine Tri.seq (Tri.regionL ?_)
  refine Oc oa (OpsL.nilS ⟨[(2, B false)], []⟩ rfl (Tri.ret (Fin.then_ret ?_)))
  obtain rfl := Option.some.inj h
  refine Fin.keepS ⟨[(2, _)], []⟩ rfl (Fin.result' [.one (.bool false)] (.inl rfl) rfl (.cons (.tmp rfl) .nil) ⟨rfl, rfl⟩)
 ·refine Tri.skip (Fin.keepS ⟨[(1, _)], [(101, _)]⟩ rfl (Fin.then (Tri.seq (Tri.regionL ?_))))
  refine Oc (op_field_p tyFld27_1 rfl rfl) (Oc (lp tyAgg25) ?_)
  obtain ⟨x_3, e7, h⟩ := bnd h
  refine Oc (op_call0 (r3_Sign_spec e7) goes103 rfl rfl) (Oc (op_gtr rfl rfl) (Oc om ?_))
  refine OpsL.keepS ⟨[(1, _), (17, B (decide (0 < x_3)))], [(101, _)]⟩ rfl (CgT (decide (0 < x_3)) [] (fun g8 => trivial) (fun g8 => op_field_p tyFld27_0 rfl rfl) (CgT (decide (0 < x_3)) [18] (fun g9 => ⟨g9, trivial⟩) (fun g9 => lp tyAgg25) (CgT (decide (0 < x_3)) [] (fun g10 => by exact trivial) (fun g10 => op_field_p tyFld27_1 rfl rfl) (CgT (decide (0 < x_3)) [20] (fun g11 => by exact ⟨g11, trivial⟩) (fun g11 => lp tyAgg25) ?_))))
  obtain ⟨x_4, e13, h⟩ := bnd h
  refine CgT (decide (0 < x_3)) [19, 21] (fun g12 => ⟨g12, g12, trivial⟩) (fun g12 => op_call0 (r3_Gcd_spec (gc e13 g12)) goes115 rfl rfl) (OpsL.keepS ⟨[(17, _), (22, .opt (decide (0 < x_3)) (.agg (eBig x_4)))], []⟩ rfl ?_)
  obtain ⟨x_5, e15, h⟩ := bnd h
  refine CgT (decide (0 < x_3)) [] (fun g14 => trivial) (fun g14 => op_call0 (r4_one_spec (gc e15 g14)) goes108 rfl rfl) (CgT (decide (0 < x_3)) [22, 23] (fun g16 => ⟨g16, g16, trivial⟩) (fun g16 => op_eql_agg (eqAgg25 x_4 x_5) rfl rfl) (Oc (op_pick_and (fun e => e) rfl rfl rfl rfl) (Oc oa ?_)))
  refine OpsL.nilS ⟨[(2, B ((decide (0 < x_3)) && (decide (x_4 = x_5))))], []⟩ rfl (Tri.ret ?_)
  obtain rfl := Option.some.inj h
  refine Fin.keepS ⟨[(2, _)], []⟩ rfl (Fin.result' [.one (.bool ((decide (0 < x_3)) && (decide (x_4 = x_5))))] (.inl rfl) rfl (.cons (.tmp rfl) .nil) ⟨rfl, rfl⟩)
def skewbackref11_small_S (F : Nat) (n0 : Int) : Option Bool :=
 some ((decide ((-16) ≤ n0)) && (decide (n0 ≤ 16)))
theorem skewbackref11_small_spec {F : Nat} {n0 : Int} {r : Bool} (h : skewbackref11_small_S F n0 = some r) : Meets Tryz.prog (tabs mx) 84 [] [.one (.i n0)] (Is [] (.b (.one (.bool r)))) := by
 unfold skewbackref11_small_S at h
 refine Meets.intro 9 Tryz.func84 Tryz.ntmps84 rfl (by simp) fun E => ?_
 show Tri _ E ⟨9, [], []⟩ _ ⟨[(0, I n0)], []⟩ _
 refine Tri.seq (Tri.regionL ?_)
 refine Oc oa (OpsL.nilS ⟨[(0, I n0)], []⟩ rfl (Tri.seq (Tri.regionL ?_)))
 refine Oc om (Oc (op_geq rfl rfl) (Oc om ?_))
 refine CgT (decide ((-16) ≤ n0)) [] (fun g1 => trivial) (fun g1 => om) (CgT (decide ((-16) ≤ n0)) [6] (fun g2 => by exact ⟨g2, trivial⟩) (fun g2 => op_leq rfl rfl) (Oc (op_pick_and (fun e => e) rfl rfl rfl rfl) (Oc oa ?_)))
 refine OpsL.nilS ⟨[(2, B ((decide ((-16) ≤ n0)) && (decide (n0 ≤ 16))))], []⟩ rfl (Tri.ret ?_)
 obtain rfl := Option.some.inj h
 refine Fin.keepS ⟨[(2, _)], []⟩ rfl (Fin.result' [.one (.bool ((decide ((-16) ≤ n0)) && (decide (n0 ≤ 16))))] (.inl rfl) rfl (.cons (.tmp rfl) .nil) ⟨rfl, rfl⟩)
def skewbackref11_Valid_S (F : Nat) (u0 : MUnit) : Option Bool :=
 (skewbackref11_small_S F u0.M).bind fun x_1 => (gcall x_1 (skewbackref11_small_S F u0.Kg)).bind fun x_2 => (gcall (x_1 && x_2) (skewbackref11_small_S F u0.S)).bind fun x_3 => some ((x_1 && x_2) && x_3)
theorem skewbackref11_Valid_spec {F : Nat} {u0 : MUnit} {r : Bool} (h : skewbackref11_Valid_S F u0 = some r) : Meets Tryz.prog (tabs mx) 33 [] [.agg (eMUnit u0)] (Is [] (.b (.one (.bool r)))) := by
 unfold skewbackref11_Valid_S at h
 refine Meets.intro 16 Tryz.func33 Tryz.ntmps33 rfl (by simp) fun E => ?_
 show Tri _ E ⟨16, [], []⟩ _ ⟨[(0, .b (.agg (eMUnit u0)))], []⟩ _
 refine Tri.seq (Tri.regionL ?_)
 refine Oc (op_box (k := 101) rfl rfl) (Oc oa ?_)
 refine OpsL.nilS ⟨[(1, Pt 101 0)], [(101, .box 29 (eMUnit u0))]⟩ rfl (Tri.seq (Tri.regionL ?_))
 refine Oc (op_field_p tyFld29_0 rfl rfl) (Oc (op_load_p1 tyOne3 rfl rfl rfl) ?_)
 obtain ⟨x_1, e1, h⟩ := bnd h
 refine Oc (op_call0 (skewbackref11_small_spec e1) goes84 rfl rfl) (Oc om ?_)
 refine CgT x_1 [] (fun g2 => trivial) (fun g2 => op_field_p tyFld29_1 rfl rfl) (OpsL.keepS ⟨[(1, _), (6, B x_1), (7, .opt x_1 (.ptr 101 1))], [(101, _)]⟩ rfl (CgT x_1 [7] (fun g3 => ⟨g3, trivial⟩) (fun g3 => op_load_p1 tyOne3 rfl rfl rfl) ?_))
 obtain ⟨x_2, e5, h⟩ := bnd h
 refine CgT x_1 [8] (fun g4 => ⟨g4, trivial⟩) (fun g4 => op_call0 (skewbackref11_small_spec (gc e5 g4)) goes84 rfl rfl) (Oc (op_pick_and (fun e => e) rfl rfl rfl rfl) (Oc om ?_))
 refine CgT (x_1 && x_2) [] (fun g6 => trivial) (fun g6 => op_field_p tyFld29_2 rfl rfl) (CgT (x_1 && x_2) [12] (fun g7 => ⟨g7, trivial⟩) (fun g7 => op_load_p1 tyOne3 rfl rfl rfl) (OpsL.keepS ⟨[(11, B (x_1 && x_2)), (13, .opt (x_1 && x_2) (.one (.i u0.S)))], []⟩ rfl ?_))
 obtain ⟨x_3, e9, h⟩ := bnd h
 refine CgT (x_1 && x_2) [13] (fun g8 => ⟨g8, trivial⟩) (fun g8 => op_call0 (skewbackref11_small_spec (gc e9 g8)) goes84 rfl rfl) (Oc (op_pick_and (fun e => e) rfl rfl rfl rfl) (Oc oa ?_))
 refine OpsL.nilS ⟨[(2, B ((x_1 && x_2) && x_3))], []⟩ rfl (Tri.ret ?_)
 obtain rfl := Option.some.inj h
 refine Fin.keepS ⟨[(2, _)], []⟩ rfl (Fin.result' [.one (.bool ((x_1 && x_2) && x_3))] (.inl rfl) rfl (.cons (.tmp rfl) .nil) ⟨rfl, rfl⟩)
def skewbackref11_Right_S (F : Nat) (a0 : Quantity) : Option Bool :=
 (r4_Good_S F a0.V).bind fun x_1 => (gcall x_1 (skewbackref11_Valid_S F a0.U)).bind fun x_2 => some (x_1 && x_2)
theorem skewbackref11_Right_spec {F : Nat} {a0 : Quantity} {r : Bool} (h : skewbackref11_Right_S F a0 = some r) : Meets Tryz.prog (tabs mx) 15 [] [.agg (eQuantity a0)] (Is [] (.b (.one (.bool r)))) := by
 unfold skewbackref11_Right_S at h
 refine Meets.intro 11 Tryz.func15 Tryz.ntmps15 rfl (by simp) fun E => ?_
 show Tri _ E ⟨11, [], []⟩ _ ⟨[(0, .b (.agg (eQuantity a0)))], []⟩ _
 refine Tri.seq (Tri.regionL ?_)
 refine Oc (op_box (k := 101) rfl rfl) (Oc oa ?_)
 refine OpsL.nilS ⟨[(1, Pt 101 0)], [(101, .box 31 (eQuantity a0))]⟩ rfl (Tri.seq (Tri.regionL ?_))
 refine Oc (op_field_p tyFld31_0 rfl rfl) (Oc (lp tyAgg27) ?_)
 obtain ⟨x_1, e1, h⟩ := bnd h
 refine Oc (op_call0 (r4_Good_spec e1) goes58 rfl rfl) (Oc om ?_)
 refine CgT x_1 [] (fun g2 => trivial) (fun g2 => op_field_p tyFld31_1 rfl rfl) (OpsL.keepS ⟨[(6, B x_1), (7, .opt x_1 (.ptr 101 36))], [(101, _)]⟩ rfl (CgT x_1 [7] (fun g3 => ⟨g3, trivial⟩) (fun g3 => lp tyAgg29) ?_))
 obtain ⟨x_2, e5, h⟩ := bnd h
 refine CgT x_1 [8] (fun g4 => ⟨g4, trivial⟩) (fun g4 => op_call0 (skewbackref11_Valid_spec (gc e5 g4)) goes33 rfl rfl) (Oc (op_pick_and (fun e => e) rfl rfl rfl rfl) (Oc oa ?_))
 refine OpsL.nilS ⟨[(2, B (x_1 && x_2))], []⟩ rfl (Tri.ret ?_)
 obtain rfl := Option.some.inj h
 refine Fin.keepS ⟨[(2, _)], []⟩ rfl (Fin.result' [.one (.bool (x_1 && x_2))] (.inl rfl) rfl (.cons (.tmp rfl) .nil) ⟨rfl, rfl⟩)
def r3_bit_S (F : Nat) (l0 : List Int) (k0 : Int) : Option Int :=
 (quo? .i64 k0 16).bind fun x_1 => (r3_digit_S F l0 x_1).bind fun x_2 => Option.bind (shr? .i64 x_2 (Int.tmod k0 16)) (fun x_3 => some (Int.tmod x_3 2))
theorem r3_bit_spec {F : Nat} {l0 : List Int} {k0 : Int} {r : Int} (h : r3_bit_S F l0 k0 = some r) : Meets Tryz.prog (tabs mx) 67 [] [.one (.sl 1 (l0.map eI)), .one (.i k0)] (Is [] (.b (.one (.i r)))) := by
 unfold r3_bit_S at h
 refine Meets.intro 13 Tryz.func67 Tryz.ntmps67 rfl (by simp) fun E => ?_
 show Tri _ E ⟨13, [], []⟩ _ ⟨[(0, .b (.one (.sl 1 (l0.map eI)))), (1, I k0)], []⟩ _
 refine Tri.seq (Tri.regionL ?_)
 refine Oc oa (OpsL.nilS ⟨[(0, .b (.one (.sl 1 (l0.map eI)))), (1, I k0)], []⟩ rfl (Tri.seq (Tri.regionL ?_)))
 refine Oc om (Oc om ?_)
 obtain ⟨x_1, e1, h⟩ := bnd h
 refine Oc (op_quo2 e1 rfl rfl) ?_
 obtain ⟨x_2, e2, h⟩ := bnd h
 refine Oc (op_call0 (r3_digit_spec e2) goes131 rfl rfl) (Oc om ?_)
 refine OpsL.keepS ⟨[(8, I x_2), (9, I k0)], []⟩ rfl (Oc (op_rem (by decide) rfl rfl) ?_)
 obtain ⟨x_3, e3, h⟩ := bnd h
 refine Oc (op_shr3 e3 rfl rfl) (Oc (op_rem (by decide) rfl rfl) (Oc oa ?_))
 refine OpsL.nilS ⟨[(4, I (Int.tmod x_3 2))], []⟩ rfl (Tri.ret ?_)
 obtain rfl := Option.some.inj h
 refine Fin.keepS ⟨[(4, _)], []⟩ rfl (Fin.result' [.one (.i (Int.tmod x_3 2))] (.inl rfl) rfl (.cons (.tmp rfl) .nil) ⟨rfl, rfl⟩)
def r3_Bits_S (F : Nat) (x0 : Big) : Option Int :=
 (r3_Good_S F x0).bind fun x_1 => if (!x_1) = true then (some 0) else ((r3_digits_S F x0).bind fun x_2 => letN (IntKind.i64.wrap (16 * (x_2.length : Int))) fun x_3 => Option.bind (iter F (fun n_5 => (gcall (decide (0 < n_5)) (r3_bit_S F x_2 (IntKind.i64.wrap (n_5 - 1)))).bind fun x_7 => if ((decide (0 < n_5)) && (decide (x_7 = 0))) = true then (some (.inl (IntKind.i64.wrap (n_5 - 1)))) else (some (.inr n_5))) x_3) (fun n_4 => some n_4))
theorem r3_Bits_spec {F : Nat} {x0 : Big} {r : Int} (h : r3_Bits_S F x0 = some r) : Meets Tryz.prog (tabs mx) 16 [] [.agg (eBig x0)] (Is [] (.b (.one (.i r)))) := by
 unfold r3_Bits_S at h
 refine Meets.intro 25 Tryz.func16 Tryz.ntmps16 rfl (by simp) fun E => ?_
 show Tri _ E ⟨25, [], []⟩ _ ⟨[(0, .b (.agg (eBig x0)))], []⟩ _
 refine Tri.seq (Tri.regionL ?_)
 refine Oc (op_box (k := 101) rfl rfl) (Oc oa ?_)
 refine OpsL.nilS ⟨[(1, Pt 101 0)], [(101, .box 25 (eBig x0))]⟩ rfl (Tri.seq (Tri.seq (Tri.regionL ?_)))
 refine Oc (lp tyAgg25) ?_
 obtain ⟨x_1, e1, h⟩ := bnd h
 refine Oc (op_call0 (r3_Good_spec e1) goes65 rfl rfl) (Oc (op_not rfl) ?_)
 refine OpsL.nilS ⟨[(1, _), (7, B (!x_1))], [(101, _)]⟩ rfl (Tri.ite h rfl (fun _ h => ?_) (fun _ h => ?_))
 ·refine Tri.seq (Tri.regionL ?_)
  refine Oc oa (OpsL.nilS ⟨[(2, I 0)], []⟩ rfl (Tri.ret (Fin.then_ret ?_)))
  obtain rfl := Option.some.inj h
  refine Fin.keepS ⟨[(2, _)], []⟩ rfl (Fin.result' [.one (.i 0)] (.inl rfl) rfl (.cons (.tmp rfl) .nil) ⟨rfl, rfl⟩)
 ·refine Tri.skip (Fin.keepS ⟨[(1, _)], [(101, _)]⟩ rfl (Fin.then (Tri.seq (Tri.regionL ?_))))
  refine Oc (lp tyAgg25) ?_
  obtain ⟨x_2, e2, h⟩ := bnd h
  refine Oc (op_call0 (r3_digits_spec e2) goes66 rfl rfl) (Oc oa ?_)
  refine OpsL.nilS ⟨[(3, .b (.one (.sl 1 (x_2.map eI))))], []⟩ rfl (Tri.seq (Tri.regionL ?_))
  refine Oc om (Oc (op_len_e' und89 rfl (List.length_map _)) ?_)
  refine OpsL.consI .i64 h rfl (op_mul rfl rfl) (fun x_3 h => ?_)
  refine Oc oa (OpsL.nilS ⟨[(3, _), (4, I x_3)], []⟩ rfl ?_)
  obtain ⟨v3, h4, h⟩ := bnd h
  refine Tri.seqJ (v := v3) (fun (n_4 : Int) => ⟨[(4, I n_4)], []⟩) (fun z => z) ?_ ?_
  ·refine Tri.block (Tri.loopJ h4 (fun (n_5 : Int) => ⟨[(3, .b (.one (.sl 1 (x_2.map eI)))), (4, I n_5)], []⟩) [3, 4] [] rfl ?_)
   rintro n_5 o5 h6 hy7
   refine Tri.seq (Tri.seq (Tri.regionL ?_))
   refine Oc om (Oc (op_gtr rfl rfl) (Oc om ?_))
   refine CgT (decide (0 < n_5)) [] (fun g8 => trivial) (fun g8 => om) (CgT (decide (0 < n_5)) [] (fun g9 => by exact trivial) (fun g9 => om) (CgT (decide (0 < n_5)) [17] (fun g10 => by exact ⟨g10, trivial⟩) (fun g10 => op_sub rfl rfl) (OpsL.keepS ⟨[(3, _), (4, _), (15, B (decide (0 < n_5))), (16, .opt (decide (0 < n_5)) (.one (.sl 1 (x_2.map eI)))), (18, .opt (decide (0 < n_5)) (.one (.i (IntKind.i64.wrap (n_5 - 1)))))], []⟩ rfl ?_)))
   obtain ⟨x_7, e12, h6⟩ := bnd h6
   refine CgT (decide (0 < n_5)) [16, 18] (fun g11 => ⟨g11, g11, trivial⟩) (fun g11 => op_call0 (r3_bit_spec (gc e12 g11)) goes67 rfl rfl) (CgT (decide (0 < n_5)) [19] (fun g13 => ⟨g13, trivial⟩) (fun g13 => op_eql rfl rfl) (Oc (op_pick_and (fun e => e) rfl rfl rfl rfl) (OpsL.nilS ⟨[(3, _), (4, _), (21, B ((decide (0 < n_5)) && (decide (x_7 = 0))))], []⟩ rfl (Tri.ite h6 rfl (fun _ h6 => ?_) (fun _ h6 => ?_)))))
   ·refine Tri.skip (Fin.keepS ⟨[(3, _), (4, _)], []⟩ rfl (Fin.then (Tri.block (Tri.regionL ?_))))
    refine Oc om (Oc (op_sub rfl rfl) (Oc oa ?_))
    refine OpsL.nil (Fin.block_normal ?_)
    exact Fin.againJ [3, 4] [] (IntKind.i64.wrap (n_5 - 1)) (Option.some.inj h6) rfl
   ·refine Tri.exit (Fin.then_exit ?_)
    obtain rfl := hy7 _ (Option.some.inj h6).symm
    refine Fin.then_exit (Fin.block_exit ?_)
    exact Fin.join [4] [] n_5 rfl rfl
  ·rintro n_4 hv
   subst v3
   refine Tri.seq (Tri.regionL ?_)
   refine Oc om (Oc oa ?_)
   refine OpsL.nilS ⟨[(2, I n_4)], []⟩ rfl (Tri.ret ?_)
   obtain rfl := Option.some.inj h
   refine Fin.keepS ⟨[(2, _)], []⟩ rfl (Fin.result' [.one (.i n_4)] (.inl rfl) rfl (.cons (.tmp rfl) .nil) ⟨rfl, rfl⟩)
def q_Whole_S (F : Nat) (n0 : Big) : Option Frc :=
 (q_one_S F).bind fun x_1 => (q_Make_S F n0 x_1).bind fun x_2 => some x_2
theorem q_Whole_spec {F : Nat} {n0 : Big} {r : Frc} (h : q_Whole_S F n0 = some r) : Meets Tryz.prog (tabs mx) 73 [] [.agg (eBig n0)] (Is [] (.b (.agg (eFrc r)))) := by
 unfold q_Whole_S at h
 refine Meets.intro 6 Tryz.func73 Tryz.ntmps73 rfl (by simp) fun E => ?_
 show Tri _ E ⟨6, [], []⟩ _ ⟨[(0, .b (.agg (eBig n0)))], []⟩ _
 refine Tri.seq (Tri.regionL ?_)
 refine Oc (op_box (k := 101) rfl rfl) (Oc (op_alloc (k := 102) tyZero27 rfl) ?_)
 refine OpsL.nilS ⟨[(1, Pt 101 0), (2, Pt 102 0)], [(101, .box 25 (eBig n0)), (102, .box 27 zFrc)]⟩ rfl (Tri.seq ?_)
 obtain ⟨x_1, e1, h⟩ := bnd h
 obtain ⟨x_2, e2, h⟩ := bnd h
 refine Tri.regionY mixed 3 [.b (.agg (eBig n0)), .b (.agg (eBig x_1)), .b (.agg (eFrc x_2))] [2] [102] (s' := ⟨[(2, _)], [(102, .box 27 (eFrc x_2))]⟩) rfl ⟨fun _ => .p (lp tyAgg25), fun _ => .p (op_call0 (q_one_spec e1) goes63 rfl rfl), fun _ => .p (op_call0 (q_Make_spec e2) goes76 rfl rfl), trivial⟩ ⟨_, by exact .p (op_store_p tyAgg27 rfl rfl rfl rfl (Nat.le_of_ble_eq_true rfl) rfl), rfl⟩ rfl (Tri.ret ?_)
 obtain rfl := Option.some.inj h
 refine Fin.keepS ⟨[(2, _)], [(102, _)]⟩ rfl (Fin.result' [.agg (eFrc x_2)] (.inl rfl) rfl (.cons (.agg tyAgg27 rfl rfl rfl rfl) .nil) ⟨rfl, rfl⟩)
def q_Of_S (F : Nat) (n0 : Int) : Option Frc :=
 (w_Of_S F n0).bind fun x_1 => (q_Whole_S F x_1).bind fun x_2 => some x_2
theorem q_Of_spec {F : Nat} {n0 : Int} {r : Frc} (h : q_Of_S F n0 = some r) : Meets Tryz.prog (tabs mx) 20 [] [.one (.i n0)] (Is [] (.b (.agg (eFrc r)))) := by
 unfold q_Of_S at h
 refine Meets.intro 6 Tryz.func20 Tryz.ntmps20 rfl (by simp) fun E => ?_
 show Tri _ E ⟨6, [], []⟩ _ ⟨[(0, I n0)], []⟩ _
 refine Tri.seq (Tri.regionL ?_)
 refine Oc (op_alloc (k := 101) tyZero27 rfl) (OpsL.nilS ⟨[(0, I n0), (2, Pt 101 0)], [(101, .box 27 zFrc)]⟩ rfl (Tri.seq (Tri.regionL ?_)))
 refine Oc om ?_
 obtain ⟨x_1, e1, h⟩ := bnd h
 refine Oc (op_call0 (w_Of_spec e1) goes74 rfl rfl) ?_
 obtain ⟨x_2, e2, h⟩ := bnd h
 refine Oc (op_call0 (q_Whole_spec e2) goes73 rfl rfl) (Oc (op_store_p tyAgg27 rfl rfl rfl rfl (Nat.le_of_ble_eq_true rfl) rfl) ?_)
 refine OpsL.nilS ⟨[(2, _)], [(101, .box 27 (eFrc x_2))]⟩ rfl (Tri.ret ?_)
 obtain rfl := Option.some.inj h
 refine Fin.keepS ⟨[(2, _)], [(101, _)]⟩ rfl (Fin.result' [.agg (eFrc x_2)] (.inl rfl) rfl (.cons (.agg tyAgg27 rfl rfl rfl rfl) .nil) ⟨rfl, rfl⟩)
def unit_reader_times_S (F : Nat) (r0s : Str) (r0q : Quantity) (r0sign : Int) : Option Int :=
 some 1
theorem unit_reader_times_spec {F : Nat} {r0s : Str} {r0q : Quantity} {r0sign : Int} {r : Int} (h : unit_reader_times_S F r0s r0q r0sign = some r) : Meets Tryz.prog (tabs mx) 68 [(1, .box 94 (.str r0s :: (eQuantity r0q ++ ([.i r0sign]))))] [.ptr 1 0] (Is [(1, .box 94 (.str r0s :: (eQuantity r0q ++ ([.i r]))))] (.tup [])) := by
 unfold unit_reader_times_S at h
 refine Meets.intro 5 Tryz.func68 Tryz.ntmps68 rfl (by simp) fun E => ?_
 show Tri _ E ⟨5, [1], [1]⟩ _ ⟨[(0, Pt 1 0)], [(1, .box 94 (.str r0s :: (eQuantity r0q ++ ([.i r0sign]))))]⟩ _
 refine Tri.regionL (Oc om (Oc (op_nilCheck_p rfl) (Oc (op_field_p tyFld94_2 rfl rfl) (Oc (op_store_p1 tyOne3 rfl rfl rfl (Nat.le_of_ble_eq_true rfl) rfl) ?_))))
 refine OpsL.nil ?_
 obtain rfl := Option.some.inj h
 refine Fin.keepS ⟨[], [(1, .box 94 (.str r0s :: (eQuantity r0q ++ ([.i 1]))))]⟩ rfl ?_
 exact Fin.result [] (.inr rfl) rfl (.nil) ⟨rfl, rfl⟩
def unit_reader_over_S (F : Nat) (r0s : Str) (r0q : Quantity) (r0sign : Int) : Option Int :=
 some (-1)
theorem unit_reader_over_spec {F : Nat} {r0s : Str} {r0q : Quantity} {r0sign : Int} {r : Int} (h : unit_reader_over_S F r0s r0q r0sign = some r) : Meets Tryz.prog (tabs mx) 69 [(1, .box 94 (.str r0s :: (eQuantity r0q ++ ([.i r0sign]))))] [.ptr 1 0] (Is [(1, .box 94 (.str r0s :: (eQuantity r0q ++ ([.i r]))))] (.tup [])) := by
 unfold unit_reader_over_S at h
 refine Meets.intro 5 Tryz.func69 Tryz.ntmps69 rfl (by simp) fun E => ?_
 show Tri _ E ⟨5, [1], [1]⟩ _ ⟨[(0, Pt 1 0)], [(1, .box 94 (.str r0s :: (eQuantity r0q ++ ([.i r0sign]))))]⟩ _
 refine Tri.regionL (Oc om (Oc (op_nilCheck_p rfl) (Oc (op_field_p tyFld94_2 rfl rfl) (Oc (op_store_p1 tyOne3 rfl rfl rfl (Nat.le_of_ble_eq_true rfl) rfl) ?_))))
 refine OpsL.nil ?_
 obtain rfl := Option.some.inj h
 refine Fin.keepS ⟨[], [(1, .box 94 (.str r0s :: (eQuantity r0q ++ ([.i (-1)]))))]⟩ rfl ?_
 exact Fin.result [] (.inr rfl) rfl (.nil) ⟨rfl, rfl⟩
def strings_indexFunc_S (F : Nat) (s0 : Str) (f0 : Nat) (truth0 : Bool) : Option Int :=
 Option.bind (iter F (fun xp_1 => if decide (xp_1 < s0.length) = true then ((runeFn_S F f0 (runeAt s0 xp_1)).bind fun x_2 => if (x_2 == truth0) = true then (some (.inr (.inr (xp_1 : Nat)))) else (some (.inl (runeTo s0 xp_1)))) else (some (.inr (.inl ())))) 0) (alt2 (fun _ => some (-1)) (fun y => some y))
theorem strings_indexFunc_spec {F : Nat} {s0 : Str} {f0 : Nat} {truth0 : Bool} {r : Int} (h : strings_indexFunc_S F s0 f0 truth0 = some r) : Meets Tryz.prog (tabs mx) 191 [] [.one (.str s0), .one (.raw (.func (.func f0) #[] #[])), .one (.bool truth0)] (Is [] (.b (.one (.i r)))) := by
 unfold strings_indexFunc_S at h
 refine Meets.intro 21 Tryz.func191 Tryz.ntmps191 rfl (by simp) fun E => ?_
 show Tri _ E ⟨21, [], []⟩ _ ⟨[(0, .b (.one (.str s0))), (1, .b (.one (.raw (.func (.func f0) #[] #[])))), (2, B truth0)], []⟩ _
 refine Tri.seq (Tri.regionL ?_)
 refine Oc oa (OpsL.nilS ⟨[(0, .b (.one (.str s0))), (1, .b (.one (.raw (.func (.func f0) #[] #[])))), (2, B truth0)], []⟩ rfl ?_)
 obtain ⟨v1, h2, h⟩ := bnd h
 refine Tri.seqJ (v := v1) (fun (_ : Unit) => ⟨[], []⟩) (fun z => .inl z) ?_ ?_
 ·refine Tri.seq (Tri.regionL ?_)
  refine Oc om (Oc (op_range_str (k := 101) und9 rfl rfl) ?_)
  refine OpsL.nilS ⟨[(1, _), (2, _), (10, Pt 101 0)], [(101, .sit s0 0)]⟩ rfl (Tri.block (Tri.loopJ h2 (fun (xp_1 : Nat) => ⟨[(1, .b (.one (.raw (.func (.func f0) #[] #[])))), (2, B truth0), (10, Pt 101 0)], [(101, .sit s0 xp_1)]⟩) [1, 2, 10] [101] rfl ?_))
  rintro xp_1 o3 h4 hy5
  refine Tri.seq (Tri.regionL ?_)
  refine OpsL.ite h4 (fun hc6 h4 => ?_) (fun hc6 h4 => ?_)
  ·refine Oc (op_next_str rfl rfl (of_decide_eq_true hc6)) (Oc (op_extract rfl rfl) ?_)
   refine OpsL.nilS ⟨[(1, _), (2, _), (10, _), (11, .tup [.one (.bool true), .one (.i (xp_1 : Nat)), .one (.int .i32 (runeAt s0 xp_1))]), (12, B true)], [(101, .sit s0 (runeTo s0 xp_1))]⟩ rfl (Tri.seq (Tri.condT rfl (Tri.skip (Fin.keepS ⟨[(1, _), (2, _), (10, _), (11, _)], [(101, _)]⟩ rfl (Fin.then (Tri.block (Tri.seq (Tri.regionL ?_))))))))
   refine Oc (op_extract rfl rfl) (Oc (op_extract rfl rfl) (Oc oa (Oc oa ?_)))
   refine OpsL.nilS ⟨[(1, _), (2, _), (7, I (xp_1 : Nat)), (8, .b (.one (.int .i32 (runeAt s0 xp_1)))), (10, _)], [(101, _)]⟩ rfl (Tri.seq (Tri.regionL ?_))
   refine Oc om (Oc om ?_)
   obtain ⟨x_2, e7, h4⟩ := bnd h4
   refine Oc (op_callv0 (runeFn_spec e7) (runeFn_goes e7) rfl rfl rfl) (Oc om (Oc (op_eql_bool und4 rfl rfl) ?_))
   refine OpsL.nilS ⟨[(1, _), (2, _), (7, _), (10, _), (19, B (x_2 == truth0))], [(101, _)]⟩ rfl (Tri.ite h4 rfl (fun _ h4 => ?_) (fun _ h4 => ?_))
   ·refine Tri.seq (Tri.regionL ?_)
    refine Oc om (Oc oa ?_)
    refine OpsL.nilS ⟨[(6, I (xp_1 : Nat))], []⟩ rfl (Tri.ret (Fin.block_ret ?_))
    obtain rfl := hy5 _ (Option.some.inj h4).symm
    refine Fin.then_ret (Fin.block_ret (Fin.then_ret ?_))
    obtain rfl := Option.some.inj h
    refine Fin.keepS ⟨[(6, _)], []⟩ rfl (Fin.result' [.one (.i (xp_1 : Nat))] (.inl rfl) rfl (.cons (.tmp rfl) .nil) ⟨rfl, rfl⟩)
   ·refine Tri.skip (Fin.block_normal ?_)
    exact Fin.againJ [1, 2, 10] [101] (runeTo s0 xp_1) (Option.some.inj h4) rfl
  ·refine Oc (op_over_str rfl rfl (Nat.not_lt.1 (of_decide_eq_false hc6))) (Oc (op_extract rfl rfl) ?_)
   refine OpsL.nilS ⟨[(1, _), (2, _), (10, _), (11, .tup [.one (.bool false)]), (12, B false)], [(101, _)]⟩ rfl (Tri.seq (Tri.condF rfl (Tri.exit (Fin.then_exit ?_))))
   obtain rfl := hy5 _ (Option.some.inj h4).symm
   refine Fin.then_exit (Fin.block_exit ?_)
   exact Fin.join [] [] () rfl rfl
 ·rintro _ hv
  subst v1
  refine Tri.seq (Tri.regionL ?_)
  refine Oc oa (OpsL.nilS ⟨[(6, I (-1))], []⟩ rfl (Tri.ret ?_))
  obtain rfl := Option.some.inj h
  refine Fin.keepS ⟨[(6, _)], []⟩ rfl (Fin.result' [.one (.i (-1))] (.inl rfl) rfl (.cons (.tmp rfl) .nil) ⟨rfl, rfl⟩)
def strings_TrimLeftFunc_S (F : Nat) (s0 : Str) (f0 : Nat) : Option Str :=
 (strings_indexFunc_S F s0 f0 false).bind fun x_1 => if (decide (x_1 = (-1))) = true then (some []) else ((drop? s0 x_1).bind fun x_2 => some x_2)
theorem strings_TrimLeftFunc_spec {F : Nat} {s0 : Str} {f0 : Nat} {r : Str} (h : strings_TrimLeftFunc_S F s0 f0 = some r) : Meets Tryz.prog (tabs mx) 196 [] [.one (.str s0), .one (.raw (.func (.func f0) #[] #[]))] (Is [] (.b (.one (.str r)))) := by
 unfold strings_TrimLeftFunc_S at h
 refine Meets.intro 14 Tryz.func196 Tryz.ntmps196 rfl (by simp) fun E => ?_
 show Tri _ E ⟨14, [], []⟩ _ ⟨[(0, .b (.one (.str s0))), (1, .b (.one (.raw (.func (.func f0) #[] #[]))))], []⟩ _
 refine Tri.seq (Tri.regionL ?_)
 refine Oc oa (OpsL.nilS ⟨[(0, .b (.one (.str s0))), (1, .b (.one (.raw (.func (.func f0) #[] #[]))))], []⟩ rfl (Tri.seq (Tri.regionL ?_)))
 refine Oc om (Oc om ?_)
 obtain ⟨x_1, e1, h⟩ := bnd h
 refine Oc (op_call0 (strings_indexFunc_spec e1) goes191 rfl rfl) (Oc oa ?_)
 refine OpsL.nilS ⟨[(0, _), (5, I x_1)], []⟩ rfl (Tri.seq (Tri.seq (Tri.regionL ?_)))
 refine Oc om (Oc (op_eql rfl rfl) ?_)
 refine OpsL.nilS ⟨[(0, _), (5, _), (10, B (decide (x_1 = (-1))))], []⟩ rfl (Tri.ite h rfl (fun _ h => ?_) (fun _ h => ?_))
 ·refine Tri.seq (Tri.regionL ?_)
  refine Oc oa (OpsL.nilS ⟨[(4, .b (.one (.str [])))], []⟩ rfl (Tri.ret (Fin.then_ret ?_)))
  obtain rfl := Option.some.inj h
  refine Fin.keepS ⟨[(4, _)], []⟩ rfl (Fin.result' [.one (.str [])] (.inl rfl) rfl (.cons (.tmp rfl) .nil) ⟨rfl, rfl⟩)
 ·refine Tri.skip (Fin.keepS ⟨[(0, _), (5, _)], []⟩ rfl (Fin.then (Tri.seq (Tri.regionL ?_))))
  refine Oc om (Oc om ?_)
  obtain ⟨x_2, e2, h⟩ := bnd h
  refine Oc (op_slice_str_l und9 e2 rfl rfl) (Oc oa ?_)
  refine OpsL.nilS ⟨[(4, .b (.one (.str x_2)))], []⟩ rfl (Tri.ret ?_)
  obtain rfl := Option.some.inj h
  refine Fin.keepS ⟨[(4, _)], []⟩ rfl (Fin.result' [.one (.str x_2)] (.inl rfl) rfl (.cons (.tmp rfl) .nil) ⟨rfl, rfl⟩)
def unit_reader_take_S (F : Nat) (is0 : Nat) (r0s : Str) (r0q : Quantity) (r0sign : Int) : Option (Str × Str) :=
 (strings_TrimLeftFunc_S F r0s is0).bind fun x_1 => (take? r0s (IntKind.i64.wrap ((r0s.length : Int) - (x_1.length : Int)))).bind fun x_2 => some (x_2, x_1)
theorem unit_reader_take_spec {F : Nat} {is0 : Nat} {r0s : Str} {r0q : Quantity} {r0sign : Int} {r : Str × Str} (h : unit_reader_take_S F is0 r0s r0q r0sign = some r) : Meets Tryz.prog (tabs mx) 172 [(1, .box 94 (.str r0s :: (eQuantity r0q ++ ([.i r0sign]))))] [.ptr 1 0, .one (.raw (.func (.func is0) #[] #[]))] (Is [(1, .box 94 (.str r.2 :: (eQuantity r0q ++ ([.i r0sign]))))] (.b (.one (.str r.1)))) := by
 unfold unit_reader_take_S at h
 refine Meets.intro 31 Tryz.func172 Tryz.ntmps172 rfl (by simp) fun E => ?_
 show Tri _ E ⟨31, [1], [1]⟩ _ ⟨[(0, Pt 1 0), (1, .b (.one (.raw (.func (.func is0) #[] #[]))))], [(1, .box 94 (.str r0s :: (eQuantity r0q ++ ([.i r0sign]))))]⟩ _
 refine Tri.seq (Tri.regionL ?_)
 refine Oc oa (OpsL.nilS ⟨[(0, Pt 1 0), (1, .b (.one (.raw (.func (.func is0) #[] #[]))))], [(1, .box 94 (.str r0s :: (eQuantity r0q ++ ([.i r0sign]))))]⟩ rfl (Tri.seq (Tri.regionL ?_)))
 refine Oc om (Oc (op_nilCheck_p rfl) (Oc (op_field_p tyFld94_0 rfl rfl) (Oc (op_load_p1 tyOne9 rfl rfl rfl) (Oc om ?_))))
 obtain ⟨x_1, e1, h⟩ := bnd h
 refine Oc (op_call0 (strings_TrimLeftFunc_spec e1) goes196 rfl rfl) (Oc oa ?_)
 refine OpsL.nilS ⟨[(0, _), (5, .b (.one (.str x_1)))], [(1, _)]⟩ rfl (Tri.seq ?_)
 obtain ⟨x_2, e2, h⟩ := bnd h
 refine Tri.regionY mixed 14 [Pt 1 0, Pt 1 0, Pt 1 0, .b (.one (.str r0s)), Pt 1 0, Pt 1 0, Pt 1 0, .b (.one (.str r0s)), I (r0s.length : Int), .b (.one (.str x_1)), I (x_1.length : Int), I (IntKind.i64.wrap ((r0s.length : Int) - (x_1.length : Int))), .b (.one (.str x_2)), .b (.one (.str x_2))] [0, 5, 6] [1] (s' := ⟨[(0, _), (5, _), (6, .b (.one (.str x_2)))], [(1, _)]⟩) rfl ⟨fun _ => .p om, fun _ => .p (op_nilCheck_p rfl), fun _ => .p (op_field_p tyFld94_0 rfl rfl), fun _ => .p (op_load_p1 tyOne9 rfl rfl rfl), fun _ => .p om, fun _ => .p (op_nilCheck_p rfl), fun _ => .p (op_field_p tyFld94_0 rfl rfl), fun _ => .p (op_load_p1 tyOne9 rfl rfl rfl), fun _ => .p (op_len_str und9 rfl), fun _ => .p om, fun _ => .p (op_len_str und9 rfl), fun _ => .p (op_sub rfl rfl), fun _ => .p (op_slice_str_h und9 e2 rfl rfl), fun _ => .p oa, trivial⟩ rfl rfl (Tri.seq (Tri.regionL ?_))
 refine Oc om (Oc om (Oc (op_nilCheck_p rfl) (Oc (op_field_p tyFld94_0 rfl rfl) (Oc (op_store_p1 tyOne9 rfl rfl rfl (Nat.le_of_ble_eq_true rfl) rfl) ?_))))
 refine OpsL.nilS ⟨[(6, _)], [(1, .box 94 (.str x_1 :: (eQuantity r0q ++ ([.i r0sign]))))]⟩ rfl (Tri.seq (Tri.regionL ?_))
 refine Oc om (Oc oa ?_)
 refine OpsL.nilS ⟨[(4, .b (.one (.str x_2)))], [(1, _)]⟩ rfl (Tri.ret ?_)
 obtain rfl := Option.some.inj h
 refine Fin.keepS ⟨[(4, _)], [(1, _)]⟩ rfl ?_
 exact Fin.result [.one (.str x_2)] (.inl rfl) rfl (.cons (.tmp rfl) .nil) ⟨rfl, rfl⟩
def unit_reader_name_S (F : Nat) (r0s : Str) (r0q : Quantity) (r0sign : Int) : Option (Str × Str) :=
 (strings_HasPrefix_S F r0s [49]).bind fun x_1 => (gcall (!x_1) (strings_HasPrefix_S F r0s [37])).bind fun x_2 => if (x_1 || x_2) = true then ((take? r0s 1).bind fun x_3 => (drop? r0s 1).bind fun x_4 => some (x_3, x_4)) else (Option.bind (unit_reader_take_S F 173 r0s r0q r0sign) (un2 fun x_5 x_6 => some (x_5, x_6)))
theorem unit_reader_name_spec {F : Nat} {r0s : Str} {r0q : Quantity} {r0sign : Int} {r : Str × Str} (h : unit_reader_name_S F r0s r0q r0sign = some r) : Meets Tryz.prog (tabs mx) 132 [(1, .box 94 (.str r0s :: (eQuantity r0q ++ ([.i r0sign]))))] [.ptr 1 0] (Is [(1, .box 94 (.str r.2 :: (eQuantity r0q ++ ([.i r0sign]))))] (.b (.one (.str r.1)))) := by
 unfold unit_reader_name_S at h
 refine Meets.intro 32 Tryz.func132 Tryz.ntmps132 rfl (by simp) fun E => ?_
 show Tri _ E ⟨32, [1], [1]⟩ _ ⟨[(0, Pt 1 0)], [(1, .box 94 (.str r0s :: (eQuantity r0q ++ ([.i r0sign]))))]⟩ _
 refine Tri.seq (Tri.regionL ?_)
 refine Oc oa (OpsL.nilS ⟨[(0, Pt 1 0)], [(1, .box 94 (.str r0s :: (eQuantity r0q ++ ([.i r0sign]))))]⟩ rfl (Tri.seq (Tri.seq (Tri.regionL ?_))))
 refine Oc om (Oc (op_nilCheck_p rfl) (Oc (op_field_p tyFld94_0 rfl rfl) (Oc (op_load_p1 tyOne9 rfl rfl rfl) ?_)))
 obtain ⟨x_1, e1, h⟩ := bnd h
 refine Oc (op_call0 (strings_HasPrefix_spec e1) goes122 rfl rfl) (OpsL.keepS ⟨[(0, _), (8, B x_1)], [(1, _)]⟩ rfl (Oc om (CgF (!x_1) [] (fun g2 => by exact trivial) (fun g2 => om) (CgF (!x_1) [10] (fun g3 => by exact ⟨g3, trivial⟩) (fun g3 => op_nilCheck_p rfl) (CgF (!x_1) [11] (fun g4 => by exact ⟨g4, trivial⟩) (fun g4 => op_field_p tyFld94_0 rfl rfl) ?_)))))
 refine CgF (!x_1) [12] (fun g5 => ⟨g5, trivial⟩) (fun g5 => op_load_p1 tyOne9 rfl rfl rfl) ?_
 obtain ⟨x_2, e7, h⟩ := bnd h
 refine CgF (!x_1) [13] (fun g6 => ⟨g6, trivial⟩) (fun g6 => op_call0 (strings_HasPrefix_spec (gc e7 g6)) goes122 rfl rfl) (Oc (op_pick_or (fun e => by rw [e]; rfl) rfl rfl rfl rfl) (OpsL.nilS ⟨[(0, _), (15, B (x_1 || x_2))], [(1, _)]⟩ rfl (Tri.ite h rfl (fun _ h => ?_) (fun _ h => ?_))))
 ·refine Tri.seq (Tri.regionL ?_)
  refine Oc om (Oc (op_nilCheck_p rfl) (Oc (op_field_p tyFld94_0 rfl rfl) (Oc (op_load_p1 tyOne9 rfl rfl rfl) ?_)))
  obtain ⟨x_3, e8, h⟩ := bnd h
  refine Oc (op_slice_str_h und9 e8 rfl rfl) (Oc oa ?_)
  refine OpsL.nilS ⟨[(0, _), (3, .b (.one (.str x_3)))], [(1, _)]⟩ rfl (Tri.seq (Tri.regionL ?_))
  refine Oc om (Oc om (Oc (op_nilCheck_p rfl) (Oc (op_field_p tyFld94_0 rfl rfl) (Oc (op_load_p1 tyOne9 rfl rfl rfl) ?_))))
  obtain ⟨x_4, e9, h⟩ := bnd h
  refine Oc (op_slice_str_l und9 e9 rfl rfl) (Oc (op_nilCheck_p rfl) (Oc (op_field_p tyFld94_0 rfl rfl) (Oc (op_store_p1 tyOne9 rfl rfl rfl (Nat.le_of_ble_eq_true rfl) rfl) ?_)))
  refine OpsL.nilS ⟨[(3, _)], [(1, .box 94 (.str x_4 :: (eQuantity r0q ++ ([.i r0sign]))))]⟩ rfl (Tri.seq (Tri.regionL ?_))
  refine Oc om (Oc oa ?_)
  refine OpsL.nilS ⟨[(2, .b (.one (.str x_3)))], [(1, _)]⟩ rfl (Tri.ret (Fin.then_ret ?_))
  obtain rfl := Option.some.inj h
  refine Fin.keepS ⟨[(2, _)], [(1, _)]⟩ rfl ?_
  exact Fin.result [.one (.str x_3)] (.inl rfl) rfl (.cons (.tmp rfl) .nil) ⟨rfl, rfl⟩
 ·refine Tri.skip (Fin.keepS ⟨[(0, _)], [(1, _)]⟩ rfl (Fin.then (Tri.seq (Tri.regionL ?_))))
  refine Oc om ?_
  obtain ⟨⟨x_5, x_6⟩, e10, h⟩ := bnd h
  refine Oc (op_call (own_a := [(1, _)]) (unit_reader_take_spec e10) goes172 rfl ⟨rfl, trivial⟩ rfl rfl) (Oc oa ?_)
  refine OpsL.nilS ⟨[(2, .b (.one (.str x_5)))], [(1, .box 94 (.str x_6 :: (eQuantity r0q ++ ([.i r0sign]))))]⟩ rfl (Tri.ret ?_)
  obtain rfl := Option.some.inj h
  refine Fin.keepS ⟨[(2, _)], [(1, _)]⟩ rfl ?_
  exact Fin.result [.one (.str x_5)] (.inl rfl) rfl (.cons (.tmp rfl) .nil) ⟨rfl, rfl⟩
def stringslite_HasPrefix_S (F : Nat) (s0 : Str) (prefix0 : Str) : Option Bool :=
 (gcall (decide ((prefix0.length : Int) ≤ (s0.length : Int))) (take? s0 (prefix0.length : Int))).bind fun x_1 => letN ((decide ((prefix0.length : Int) ≤ (s0.length : Int))) && (decide (x_1 = prefix0))) fun x_2 => some x_2
theorem stringslite_HasPrefix_spec {F : Nat} {s0 : Str} {prefix0 : Str} {r : Bool} (h : stringslite_HasPrefix_S F s0 prefix0 = some r) : Meets Tryz.prog (tabs mx) 165 [] [.one (.str s0), .one (.str prefix0)] (Is [] (.b (.one (.bool r)))) := by
 unfold stringslite_HasPrefix_S at h
 refine Meets.intro 18 Tryz.func165 Tryz.ntmps165 rfl (by simp) fun E => ?_
 show Tri _ E ⟨18, [], []⟩ _ ⟨[(0, .b (.one (.str s0))), (1, .b (.one (.str prefix0)))], []⟩ _
 refine Tri.seq (Tri.regionL ?_)
 refine Oc oa (OpsL.nilS ⟨[(0, .b (.one (.str s0))), (1, .b (.one (.str prefix0)))], []⟩ rfl (Tri.seq (Tri.regionL ?_)))
 refine Oc om (Oc (op_len_str und9 rfl) (Oc om (Oc (op_len_str und9 rfl) (Oc (op_geq rfl rfl) ?_))))
 refine OpsL.keepS ⟨[(0, _), (1, _), (9, B (decide ((prefix0.length : Int) ≤ (s0.length : Int))))], []⟩ rfl (Oc om (CgT (decide ((prefix0.length : Int) ≤ (s0.length : Int))) [] (fun g1 => by exact trivial) (fun g1 => om) (CgT (decide ((prefix0.length : Int) ≤ (s0.length : Int))) [] (fun g2 => by exact trivial) (fun g2 => om) (CgT (decide ((prefix0.length : Int) ≤ (s0.length : Int))) [12] (fun g3 => by exact ⟨g3, trivial⟩) (fun g3 => op_len_str und9 rfl) ?_))))
 obtain ⟨x_1, e5, h⟩ := bnd h
 refine CgT (decide ((prefix0.length : Int) ≤ (s0.length : Int))) [11, 13] (fun g4 => ⟨g4, g4, trivial⟩) (fun g4 => op_slice_str_h und9 (gc e5 g4) rfl rfl) (CgT (decide ((prefix0.length : Int) ≤ (s0.length : Int))) [] (fun g6 => trivial) (fun g6 => om) (CgT (decide ((prefix0.length : Int) ≤ (s0.length : Int))) [14, 15] (fun g7 => by exact ⟨g7, g7, trivial⟩) (fun g7 => op_eql_str rfl rfl) (OpsL.consB h rfl (op_pick_and (fun e => e) rfl rfl rfl rfl) (fun x_2 h => ?_))))
 refine Oc oa (OpsL.nilS ⟨[(4, B x_2)], []⟩ rfl (Tri.ret ?_))
 obtain rfl := Option.some.inj h
 refine Fin.keepS ⟨[(4, _)], []⟩ rfl (Fin.result' [.one (.bool x_2)] (.inl rfl) rfl (.cons (.tmp rfl) .nil) ⟨rfl, rfl⟩)
def stringslite_CutPrefix_S (F : Nat) (s0 : Str) (prefix0 : Str) : Option (Str × Bool) :=
 (stringslite_HasPrefix_S F s0 prefix0).bind fun x_1 => if (!x_1) = true then (some (s0, false)) else ((drop? s0 (prefix0.length : Int)).bind fun x_2 => some (x_2, true))
theorem stringslite_CutPrefix_spec {F : Nat} {s0 : Str} {prefix0 : Str} {r : Str × Bool} (h : stringslite_CutPrefix_S F s0 prefix0 = some r) : Meets Tryz.prog (tabs mx) 163 [] [.one (.str s0), .one (.str prefix0)] (Is [] (.tup [.one (.str r.1), .one (.bool r.2)])) := by
 unfold stringslite_CutPrefix_S at h
 refine Meets.intro 15 Tryz.func163 Tryz.ntmps163 rfl (by simp) fun E => ?_
 show Tri _ E ⟨15, [], []⟩ _ ⟨[(0, .b (.one (.str s0))), (1, .b (.one (.str prefix0)))], []⟩ _
 refine Tri.seq (Tri.regionL ?_)
 refine Oc oa (Oc oa ?_)
 refine OpsL.nilS ⟨[(0, .b (.one (.str s0))), (1, .b (.one (.str prefix0)))], []⟩ rfl (Tri.seq (Tri.seq (Tri.regionL ?_)))
 refine Oc om (Oc om ?_)
 obtain ⟨x_1, e1, h⟩ := bnd h
 refine Oc (op_call0 (stringslite_HasPrefix_spec e1) goes165 rfl rfl) (Oc (op_not rfl) ?_)
 refine OpsL.nilS ⟨[(0, _), (1, _), (9, B (!x_1))], []⟩ rfl (Tri.ite h rfl (fun _ h => ?_) (fun _ h => ?_))
 ·refine Tri.seq (Tri.regionL ?_)
  refine Oc om (Oc oa (Oc oa ?_))
  refine OpsL.nilS ⟨[(4, .b (.one (.str s0))), (5, B false)], []⟩ rfl (Tri.ret (Fin.then_ret ?_))
  obtain rfl := Option.some.inj h
  refine Fin.keepS ⟨[(4, _), (5, _)], []⟩ rfl (Fin.result' [.one (.str s0), .one (.bool false)] (.inl rfl) rfl (.cons (.tmp rfl) (.cons (.tmp rfl) .nil)) ⟨rfl, rfl⟩)
 ·refine Tri.skip (Fin.keepS ⟨[(0, _), (1, _)], []⟩ rfl (Fin.then (Tri.seq (Tri.regionL ?_))))
  refine Oc om (Oc om (Oc (op_len_str und9 rfl) ?_))
  obtain ⟨x_2, e2, h⟩ := bnd h
  refine Oc (op_slice_str_l und9 e2 rfl rfl) (Oc oa (Oc oa ?_))
  refine OpsL.nilS ⟨[(4, .b (.one (.str x_2))), (5, B true)], []⟩ rfl (Tri.ret ?_)
  obtain rfl := Option.some.inj h
  refine Fin.keepS ⟨[(4, _), (5, _)], []⟩ rfl (Fin.result' [.one (.str x_2), .one (.bool true)] (.inl rfl) rfl (.cons (.tmp rfl) (.cons (.tmp rfl) .nil)) ⟨rfl, rfl⟩)
def strings_CutPrefix_S (F : Nat) (s0 : Str) (prefix0 : Str) : Option (Str × Bool) :=
 Option.bind (stringslite_CutPrefix_S F s0 prefix0) (un2 fun x_1 x_2 => some (x_1, x_2))
theorem strings_CutPrefix_spec {F : Nat} {s0 : Str} {prefix0 : Str} {r : Str × Bool} (h : strings_CutPrefix_S F s0 prefix0 = some r) : Meets Tryz.prog (tabs mx) 117 [] [.one (.str s0), .one (.str prefix0)] (Is [] (.tup [.one (.str r.1), .one (.bool r.2)])) := by
 unfold strings_CutPrefix_S at h
 refine Meets.intro 11 Tryz.func117 Tryz.ntmps117 rfl (by simp) fun E => ?_
 show Tri _ E ⟨11, [], []⟩ _ ⟨[(0, .b (.one (.str s0))), (1, .b (.one (.str prefix0)))], []⟩ _
 refine Tri.seq (Tri.regionL ?_)
 refine Oc oa (Oc oa ?_)
 refine OpsL.nilS ⟨[(0, .b (.one (.str s0))), (1, .b (.one (.str prefix0)))], []⟩ rfl (Tri.seq (Tri.regionL ?_))
 refine Oc om (Oc om ?_)
 obtain ⟨⟨x_1, x_2⟩, e1, h⟩ := bnd h
 refine Oc (op_call0 (stringslite_CutPrefix_spec e1) goes163 rfl rfl) (Oc (op_extract rfl rfl) (Oc (op_extract rfl rfl) (Oc oa (Oc oa ?_))))
 refine OpsL.nilS ⟨[(4, .b (.one (.str x_1))), (5, B x_2)], []⟩ rfl (Tri.ret ?_)
 obtain rfl := Option.some.inj h
 refine Fin.keepS ⟨[(4, _), (5, _)], []⟩ rfl (Fin.result' [.one (.str x_1), .one (.bool x_2)] (.inl rfl) rfl (.cons (.tmp rfl) (.cons (.tmp rfl) .nil)) ⟨rfl, rfl⟩)
def unit_reader_exponent_S (F : Nat) (r0s : Str) (r0q : Quantity) (r0sign : Int) : Option (Int × Int × Str) :=
 Option.bind (strings_CutPrefix_S F r0s [94]) (un2 fun x_1 x_2 => if (!x_2) = true then (some (1, 0, r0s)) else (Option.bind (strings_CutPrefix_S F x_1 [45]) (un2 fun x_3 x_4 => Option.bind (unit_reader_take_S F 120 x_3 r0q r0sign) (un2 fun x_5 x_6 => Option.bind (iter F (un2 fun n_8 xp_9 => if decide (xp_9 < x_5.length) = true then (letN (IntKind.i32.wrap ((runeAt x_5 xp_9) - 48)) fun x_11 => letN (IntKind.i64.wrap ((IntKind.i64.wrap (n_8 * 10)) + (IntKind.i64.wrap x_11))) fun x_12 => some (.inl (min x_12 17, runeTo x_5 xp_9))) else (some (.inr n_8))) (0, 0)) (fun n_7 => (gcall ((!((decide (x_5 = [])) || (decide (16 < n_7)))) && (decide (1 < (x_5.length : Int)))) (idx? x_5 0)).bind fun x_13 => letN (((decide (x_5 = [])) || (decide (16 < n_7))) || ((decide (1 < (x_5.length : Int))) && (decide ((x_13.toNat : Int) = 48)))) fun x_14 => if (x_14 || (x_4 && (decide (n_7 = 0)))) = true then (some (0, 280, x_6)) else (Option.bind (if x_4 = true then (some (IntKind.i64.wrap (-n_7))) else (some n_7)) (fun n_15 => some (n_15, 0, x_6))))))))
theorem unit_reader_exponent_spec {F : Nat} {r0s : Str} {r0q : Quantity} {r0sign : Int} {r : Int × Int × Str} (h : unit_reader_exponent_S F r0s r0q r0sign = some r) : Meets Tryz.prog (tabs mx) 133 [(1, .box 94 (.str r0s :: (eQuantity r0q ++ ([.i r0sign]))))] [.ptr 1 0] (Is [(1, .box 94 (.str r.2.2 :: (eQuantity r0q ++ ([.i r0sign]))))] (.tup [.one (.i r.1), .one (.i r.2.1)])) := by
 unfold unit_reader_exponent_S at h
 refine Meets.intro 69 Tryz.func133 Tryz.ntmps133 rfl (by simp) fun E => ?_
 show Tri _ E ⟨69, [1], [1]⟩ _ ⟨[(0, Pt 1 0)], [(1, .box 94 (.str r0s :: (eQuantity r0q ++ ([.i r0sign]))))]⟩ _
 refine Tri.seq (Tri.regionL ?_)
 refine Oc oa (Oc oa ?_)
 refine OpsL.nilS ⟨[(0, Pt 1 0)], [(1, .box 94 (.str r0s :: (eQuantity r0q ++ ([.i r0sign]))))]⟩ rfl (Tri.seq (Tri.regionL ?_))
 refine Oc om (Oc (op_nilCheck_p rfl) (Oc (op_field_p tyFld94_0 rfl rfl) (Oc (op_load_p1 tyOne9 rfl rfl rfl) ?_)))
 obtain ⟨⟨x_1, x_2⟩, e1, h⟩ := bnd h
 refine Oc (op_call0 (strings_CutPrefix_spec e1) goes117 rfl rfl) (OpsL.keepS ⟨[(0, _), (15, .tup [.one (.str x_1), .one (.bool x_2)])], [(1, _)]⟩ rfl (Oc om (Oc (op_extract rfl rfl) (Oc (op_extract rfl rfl) (Oc oa (Oc oa ?_))))))
 refine OpsL.nilS ⟨[(0, _), (4, .b (.one (.str x_1))), (5, B x_2)], [(1, _)]⟩ rfl (Tri.seq (Tri.seq (Tri.regionL ?_)))
 refine Oc om (Oc (op_not rfl) ?_)
 refine OpsL.nilS ⟨[(0, _), (4, _), (19, B (!x_2))], [(1, _)]⟩ rfl (Tri.ite h rfl (fun _ h => ?_) (fun _ h => ?_))
 ·refine Tri.seq (Tri.regionL ?_)
  refine Oc oa (Oc oa ?_)
  refine OpsL.nilS ⟨[(2, I 1), (3, I 0)], [(1, _)]⟩ rfl (Tri.ret (Fin.then_ret ?_))
  obtain rfl := Option.some.inj h
  refine Fin.keepS ⟨[(2, _), (3, _)], [(1, _)]⟩ rfl ?_
  exact Fin.result [.one (.i 1), .one (.i 0)] (.inl rfl) rfl (.cons (.tmp rfl) (.cons (.tmp rfl) .nil)) ⟨rfl, rfl⟩
 ·refine Tri.skip (Fin.keepS ⟨[(0, _), (4, _)], [(1, _)]⟩ rfl (Fin.then (Tri.seq (Tri.regionL ?_))))
  refine Oc om (Oc om ?_)
  obtain ⟨⟨x_3, x_4⟩, e2, h⟩ := bnd h
  refine Oc (op_call0 (strings_CutPrefix_spec e2) goes117 rfl rfl) (Oc om (Oc (op_extract rfl rfl) ?_))
  refine OpsL.keepS ⟨[(0, _), (20, .tup [.one (.str x_3), .one (.bool x_4)]), (21, Pt 1 0), (24, .b (.one (.str x_3)))], [(1, _)]⟩ rfl (Oc (op_extract rfl rfl) (Oc (op_nilCheck_p rfl) (Oc (op_field_p tyFld94_0 rfl rfl) (Oc (op_store_p1 tyOne9 rfl rfl rfl (Nat.le_of_ble_eq_true rfl) rfl) (Oc oa ?_)))))
  refine OpsL.nilS ⟨[(0, _), (5, B x_4)], [(1, .box 94 (.str x_3 :: (eQuantity r0q ++ ([.i r0sign]))))]⟩ rfl (Tri.seq (Tri.regionL ?_))
  refine Oc om ?_
  obtain ⟨⟨x_5, x_6⟩, e3, h⟩ := bnd h
  refine Oc (op_call (own_a := [(1, _)]) (unit_reader_take_spec e3) goes172 rfl ⟨rfl, trivial⟩ rfl rfl) (Oc oa ?_)
  refine OpsL.nilS ⟨[(5, _), (6, .b (.one (.str x_5)))], [(1, .box 94 (.str x_6 :: (eQuantity r0q ++ ([.i r0sign]))))]⟩ rfl (Tri.seq (Tri.regionL ?_))
  refine Oc oa (OpsL.nilS ⟨[(5, _), (6, _), (7, I 0)], [(1, _)]⟩ rfl ?_)
  obtain ⟨v4, h5, h⟩ := bnd h
  refine Tri.seqJ (v := v4) (fun (n_7 : Int) => ⟨[(5, B x_4), (6, .b (.one (.str x_5))), (7, I n_7)], [(1, .box 94 (.str x_6 :: (eQuantity r0q ++ ([.i r0sign]))))]⟩) (fun z => z) ?_ ?_
  ·refine Tri.seq (Tri.regionL ?_)
   refine Oc om (Oc (op_range_str (k := 101) und9 rfl rfl) ?_)
   refine OpsL.nilS ⟨[(5, _), (6, _), (7, _), (31, Pt 101 0)], [(1, _), (101, .sit x_5 0)]⟩ rfl (Tri.block (Tri.loopJ h5 (un2 fun (n_8 : Int) (xp_9 : Nat) => ⟨[(5, B x_4), (6, .b (.one (.str x_5))), (7, I n_8), (31, Pt 101 0)], [(1, .box 94 (.str x_6 :: (eQuantity r0q ++ ([.i r0sign])))), (101, .sit x_5 xp_9)]⟩) [5, 6, 7, 31] [1, 101] rfl ?_))
   rintro ⟨n_8, xp_9⟩ o6 h7 hy8
   refine Tri.seq (Tri.regionL ?_)
   refine OpsL.ite h7 (fun hc9 h7 => ?_) (fun hc9 h7 => ?_)
   ·refine Oc (op_next_str rfl rfl (of_decide_eq_true hc9)) (Oc (op_extract rfl rfl) ?_)
    refine OpsL.nilS ⟨[(5, _), (6, _), (7, _), (31, _), (32, .tup [.one (.bool true), .one (.i (xp_9 : Nat)), .one (.int .i32 (runeAt x_5 xp_9))]), (33, B true)], [(1, _), (101, .sit x_5 (runeTo x_5 xp_9))]⟩ rfl (Tri.seq (Tri.condT rfl (Tri.skip (Fin.keepS ⟨[(5, _), (6, _), (7, _), (31, _), (32, _)], [(1, _), (101, _)]⟩ rfl (Fin.then (Tri.block (Tri.seq (Tri.regionL ?_))))))))
    refine Oc (op_extract rfl rfl) (Oc oa ?_)
    refine OpsL.nilS ⟨[(5, _), (6, _), (7, _), (9, .b (.one (.int .i32 (runeAt x_5 xp_9)))), (31, _)], [(1, _), (101, _)]⟩ rfl (Tri.regionL (Oc om (Oc (op_mul rfl rfl) (Oc om ?_))))
    refine OpsL.consI .i32 h7 rfl (op_sub rfl rfl) (fun x_11 h7 => ?_)
    refine Oc (op_conv_wrap undi21 undi3 rfl) (OpsL.consI .i64 h7 rfl (op_add rfl rfl) (fun x_12 h7 => ?_))
    refine Oc (op_min rfl rfl) (Oc oa ?_)
    refine OpsL.nil (Fin.block_normal ?_)
    exact Fin.againJ [5, 6, 7, 31] [1, 101] (min x_12 17, runeTo x_5 xp_9) (Option.some.inj h7) rfl
   ·refine Oc (op_over_str rfl rfl (Nat.not_lt.1 (of_decide_eq_false hc9))) (Oc (op_extract rfl rfl) ?_)
    refine OpsL.nilS ⟨[(5, _), (6, _), (7, _), (31, _), (32, .tup [.one (.bool false)]), (33, B false)], [(1, _), (101, _)]⟩ rfl (Tri.seq (Tri.condF rfl (Tri.exit (Fin.then_exit ?_))))
    obtain rfl := hy8 _ (Option.some.inj h7).symm
    refine Fin.then_exit (Fin.block_exit ?_)
    exact Fin.join [5, 6, 7] [1] n_8 rfl rfl
  ·rintro n_7 hv
   subst v4
   refine Tri.seq (Tri.seq (Tri.regionL ?_))
   refine Oc om (Oc (op_eql_str rfl rfl) (Oc om ?_))
   refine CgF (!(decide (x_5 = []))) [] (fun g10 => trivial) (fun g10 => om) (CgF (!(decide (x_5 = []))) [45] (fun g11 => by exact ⟨g11, trivial⟩) (fun g11 => op_gtr rfl rfl) (Oc (op_pick_or (fun e => by rw [e]; rfl) rfl rfl rfl rfl) (Oc om ?_)))
   refine OpsL.keepS ⟨[(5, _), (6, _), (7, _), (48, B ((decide (x_5 = [])) || (decide (16 < n_7))))], [(1, _)]⟩ rfl (CgF (!((decide (x_5 = [])) || (decide (16 < n_7)))) [] (fun g12 => trivial) (fun g12 => om) (CgF (!((decide (x_5 = [])) || (decide (16 < n_7)))) [49] (fun g13 => by exact ⟨g13, trivial⟩) (fun g13 => op_len_str und9 rfl) (CgF (!((decide (x_5 = [])) || (decide (16 < n_7)))) [50] (fun g14 => by exact ⟨g14, trivial⟩) (fun g14 => op_gtr rfl rfl) (CgF (!((decide (x_5 = [])) || (decide (16 < n_7)))) [51] (fun g15 => by exact ⟨g15, trivial⟩) (fun g15 => om) (OpsL.consG ((!((decide (x_5 = [])) || (decide (16 < n_7)))) && (decide (1 < (x_5.length : Int)))) 99 [] (.under rfl) (and_t _ _) rfl rfl (fun g16 => by exact trivial) (fun g16 => om) ?_)))))
   obtain ⟨x_13, e18, h⟩ := bnd h
   refine OpsL.consG ((!((decide (x_5 = [])) || (decide (16 < n_7)))) && (decide (1 < (x_5.length : Int)))) 99 [53] (.under rfl) (and_t _ _) rfl rfl (fun g17 => ⟨g17, trivial⟩) (fun g17 => op_index_str und9 rfl rfl (ix_lo (gc e18 g17)) (ix_get (gc e18 g17))) (OpsL.consG ((!((decide (x_5 = [])) || (decide (16 < n_7)))) && (decide (1 < (x_5.length : Int)))) 99 [54] (.under rfl) (and_t _ _) rfl rfl (fun g19 => ⟨g19, trivial⟩) (fun g19 => op_eql rfl rfl) (OpsL.keepS ⟨[(5, _), (7, _), (48, _), (52, .opt (!((decide (x_5 = [])) || (decide (16 < n_7)))) (.one (.bool (decide (1 < (x_5.length : Int)))))), (55, .opt ((!((decide (x_5 = [])) || (decide (16 < n_7)))) && (decide (1 < (x_5.length : Int)))) (.one (.bool (decide ((x_13.toNat : Int) = 48)))))], [(1, _)]⟩ rfl (CgF (!((decide (x_5 = [])) || (decide (16 < n_7)))) [52] (fun g20 => ⟨g20, trivial⟩) (fun g20 => op_pick_and (fun e => by rw [g20, e]; rfl) rfl rfl rfl rfl) (OpsL.consB h rfl (op_pick_or (fun e => by rw [e]; rfl) rfl rfl rfl rfl) (fun x_14 h => ?_)))))
   refine Oc om (CgF (!x_14) [] (fun g21 => by exact trivial) (fun g21 => om) (CgF (!x_14) [59] (fun g22 => by exact ⟨g22, trivial⟩) (fun g22 => om) (OpsL.consG ((!x_14) && x_4) 99 [] (.under rfl) (and_t _ _) rfl rfl (fun g23 => by exact trivial) (fun g23 => om) (OpsL.consG ((!x_14) && x_4) 99 [61] (.under rfl) (and_t _ _) rfl rfl (fun g24 => by exact ⟨g24, trivial⟩) (fun g24 => op_eql rfl rfl) (CgF (!x_14) [60] (fun g25 => by exact ⟨g25, trivial⟩) (fun g25 => op_pick_and (fun e => by rw [g25, e]; rfl) rfl rfl rfl rfl) ?_)))))
   refine Oc (op_pick_or (fun e => by rw [e]; rfl) rfl rfl rfl rfl) (OpsL.nilS ⟨[(5, _), (7, _), (64, B (x_14 || (x_4 && (decide (n_7 = 0)))))], [(1, _)]⟩ rfl (Tri.ite h rfl (fun _ h => ?_) (fun _ h => ?_)))
   ·refine Tri.seq (Tri.regionL ?_)
    refine Oc oa (Oc oa ?_)
    refine OpsL.nilS ⟨[(2, I 0), (3, I 280)], [(1, _)]⟩ rfl (Tri.ret (Fin.then_ret ?_))
    obtain rfl := Option.some.inj h
    refine Fin.keepS ⟨[(2, _), (3, _)], [(1, _)]⟩ rfl ?_
    exact Fin.result [.one (.i 0), .one (.i 280)] (.inl rfl) rfl (.cons (.tmp rfl) (.cons (.tmp rfl) .nil)) ⟨rfl, rfl⟩
   ·refine Tri.skip (Fin.keepS ⟨[(5, _), (7, _)], [(1, _)]⟩ rfl (Fin.then ?_))
    obtain ⟨v26, h27, h⟩ := bnd h
    refine Tri.seqJ (v := v26) (fun (n_15 : Int) => ⟨[(7, I n_15)], [(1, .box 94 (.str x_6 :: (eQuantity r0q ++ ([.i r0sign]))))]⟩) (fun z => z) ?_ ?_
    ·refine Tri.seq (Tri.regionL ?_)
     refine Oc om (OpsL.nilS ⟨[(7, _), (65, B x_4)], [(1, _)]⟩ rfl (Tri.ite h27 rfl (fun _ h27 => ?_) (fun _ h27 => ?_)))
     ·refine Tri.regionL (Oc om (Oc (op_neg rfl) (Oc oa ?_)))
      refine OpsL.nil ?_
      exact Fin.join [7] [1] (IntKind.i64.wrap (-n_7)) (Option.some.inj h27) rfl
     ·refine Tri.skip ?_
      exact Fin.join [7] [1] n_7 (Option.some.inj h27) rfl
    ·rintro n_15 hv
     subst v26
     refine Tri.seq (Tri.regionL ?_)
     refine Oc om (Oc oa (Oc oa ?_))
     refine OpsL.nilS ⟨[(2, I n_15), (3, I 0)], [(1, _)]⟩ rfl (Tri.ret ?_)
     obtain rfl := Option.some.inj h
     refine Fin.keepS ⟨[(2, _), (3, _)], [(1, _)]⟩ rfl ?_
     exact Fin.result [.one (.i n_15), .one (.i 0)] (.inl rfl) rfl (.cons (.tmp rfl) (.cons (.tmp rfl) .nil)) ⟨rfl, rfl⟩
def q_Frac_S (F : Nat) (a0 : Int) (b0 : Int) : Option Frc :=
 (w_Of_S F a0).bind fun x_1 => (w_Of_S F b0).bind fun x_2 => (q_Make_S F x_1 x_2).bind fun x_3 => some x_3
theorem q_Frac_spec {F : Nat} {a0 : Int} {b0 : Int} {r : Frc} (h : q_Frac_S F a0 b0 = some r) : Meets Tryz.prog (tabs mx) 23 [] [.one (.i a0), .one (.i b0)] (Is [] (.b (.agg (eFrc r)))) := by
 unfold q_Frac_S at h
 refine Meets.intro 10 Tryz.func23 Tryz.ntmps23 rfl (by simp) fun E => ?_
 show Tri _ E ⟨10, [], []⟩ _ ⟨[(0, I a0), (1, I b0)], []⟩ _
 refine Tri.seq (Tri.regionL ?_)
 refine Oc (op_alloc (k := 101) tyZero27 rfl) (OpsL.nilS ⟨[(0, I a0), (1, I b0), (4, Pt 101 0)], [(101, .box 27 zFrc)]⟩ rfl (Tri.seq (Tri.regionL ?_)))
 refine Oc om ?_
 obtain ⟨x_1, e1, h⟩ := bnd h
 refine Oc (op_call0 (w_Of_spec e1) goes74 rfl rfl) (Oc om ?_)
 refine OpsL.keepS ⟨[(4, _), (6, .b (.agg (eBig x_1))), (7, I b0)], [(101, _)]⟩ rfl ?_
 obtain ⟨x_2, e2, h⟩ := bnd h
 refine Oc (op_call0 (w_Of_spec e2) goes74 rfl rfl) ?_
 obtain ⟨x_3, e3, h⟩ := bnd h
 refine Oc (op_call0 (q_Make_spec e3) goes76 rfl rfl) (Oc (op_store_p tyAgg27 rfl rfl rfl rfl (Nat.le_of_ble_eq_true rfl) rfl) ?_)
 refine OpsL.nilS ⟨[(4, _)], [(101, .box 27 (eFrc x_3))]⟩ rfl (Tri.ret ?_)
 obtain rfl := Option.some.inj h
 refine Fin.keepS ⟨[(4, _)], [(101, _)]⟩ rfl (Fin.result' [.agg (eFrc x_3)] (.inl rfl) rfl (.cons (.agg tyAgg27 rfl rfl rfl rfl) .nil) ⟨rfl, rfl⟩)
end Go.Proofs.YtcbbilehdaaffaaGreatDoor

