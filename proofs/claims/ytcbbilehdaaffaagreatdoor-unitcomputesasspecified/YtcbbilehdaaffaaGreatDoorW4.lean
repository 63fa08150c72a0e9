/- printed walks -/
import Derived.Test.YtcbbilehdaaffaaGreatDoorW3
namespace Go.Proofs.YtcbbilehdaaffaaGreatDoor
open Go.Sk
set_option maxHeartbeats 1000000
set_option maxRecDepth 4000
set_option linter.unusedSimpArgs false
set_option linter.unusedVariables false
variable {mx : Int}
def unit_Over_S (F : Nat) (a0 : Quantity) (b0 : Quantity) : Option (Quantity × Int) :=
 (unit_isRight_S F [a0, b0]).bind fun x_1 => (gcall x_1 (q_Sign_S F b0.V)).bind fun x_2 => if (x_1 && (decide (x_2 = 0))) = true then (letN (⟨(⟨(⟨false, false, A16.zero⟩ : Big), (⟨false, false, A16.zero⟩ : Big)⟩ : Frc), (⟨0, 0, 0⟩ : MUnit)⟩ : Quantity) fun x_3 => some (x_3, 31)) else (Option.bind (unit_operation_do_S F (⟨21, 27⟩ : Oprn) a0 b0) (un2 fun x_4 x_5 => some (x_4, x_5)))
theorem unit_Over_spec {F : Nat} {a0 : Quantity} {b0 : Quantity} {r : Quantity × Int} (h : unit_Over_S F a0 b0 = some r) : Meets Tryz.prog (tabs mx) 40 [] [.agg (eQuantity a0), .agg (eQuantity b0)] (Is [] (.tup [.agg (eQuantity r.1), .one (.i r.2)])) := by
 unfold unit_Over_S at h
 refine Meets.intro 23 Tryz.func40 Tryz.ntmps40 rfl (by simp) fun E => ?_
 show Tri _ E ⟨23, [], []⟩ _ ⟨[(0, .b (.agg (eQuantity a0))), (1, .b (.agg (eQuantity b0)))], []⟩ _
 refine Tri.seq (Tri.regionL ?_)
 refine Oc (op_box (k := 101) rfl rfl) (Oc (op_box (k := 102) rfl rfl) (Oc (op_alloc (k := 103) tyZero31 rfl) (Oc oa ?_)))
 refine OpsL.nilS ⟨[(2, Pt 101 0), (3, Pt 102 0), (4, Pt 103 0)], [(101, .box 31 (eQuantity a0)), (102, .box 31 (eQuantity b0)), (103, .box 31 (.bool false :: .bool false :: (eW A16.zero ++ (.bool false :: .bool false :: (eW A16.zero ++ ([.i 0, .i 0, .i 0]))))))]⟩ rfl (Tri.seq (Tri.seq (Tri.regionL ?_)))
 refine Oc (lp tyAgg31) (Oc (lp tyAgg31) (Oc (op_buildSlice (k := 104) (es := [a0, b0].map eQuantity) tySl120 rfl rfl (uni_map fun _ => rfl) rfl (by decide) (by decide) rfl) ?_))
 obtain ⟨x_1, e1, h⟩ := bnd h
 refine Oc (op_callB (unit_isRight_spec e1) goes54 rfl CP.flat_bool) (OpsL.keepS ⟨[(2, Pt 101 0), (3, Pt 102 0), (4, Pt 103 0), (9, B x_1)], [(101, .box 31 (eQuantity a0)), (102, .box 31 (eQuantity b0)), (103, .box 31 (.bool false :: .bool false :: (eW A16.zero ++ (.bool false :: .bool false :: (eW A16.zero ++ ([.i 0, .i 0, .i 0]))))))]⟩ rfl (Oc om (CgT x_1 [] (fun g2 => by exact trivial) (fun g2 => op_field_p tyFld31_0 rfl rfl) (CgT x_1 [11] (fun g3 => by exact ⟨g3, trivial⟩) (fun g3 => lp tyAgg27) ?_))))
 obtain ⟨x_2, e5, h⟩ := bnd h
 refine CgT x_1 [12] (fun g4 => ⟨g4, trivial⟩) (fun g4 => op_call0 (q_Sign_spec (gc e5 g4)) goes39 rfl rfl) (CgT x_1 [13] (fun g6 => ⟨g6, trivial⟩) (fun g6 => op_eql rfl rfl) (Oc (op_pick_and (fun e => e) rfl rfl rfl rfl) (OpsL.nilS ⟨[(2, Pt 101 0), (3, Pt 102 0), (4, Pt 103 0), (15, B (x_1 && (decide (x_2 = 0))))], [(101, .box 31 (eQuantity a0)), (102, .box 31 (eQuantity b0)), (103, .box 31 (.bool false :: .bool false :: (eW A16.zero ++ (.bool false :: .bool false :: (eW A16.zero ++ ([.i 0, .i 0, .i 0]))))))]⟩ rfl (Tri.ite h rfl (fun _ h => ?_) (fun _ h => ?_)))))
 ·refine Tri.seq (Tri.regionL ?_)
  refine OpsL.consA eQuantity h rfl (op_build tyBuild31 rfl rfl) (fun x_3 h => ?_)
  refine Oc (op_store_p tyAgg31 rfl rfl rfl rfl (Nat.le_of_ble_eq_true rfl) rfl) (Oc oa ?_)
  refine OpsL.nilS ⟨[(4, Pt 103 0), (5, I 31)], [(103, .box 31 (eQuantity x_3))]⟩ rfl (Tri.ret (Fin.then_ret ?_))
  obtain rfl := Option.some.inj h
  refine Fin.keepS ⟨[(4, Pt 103 0), (5, I 31)], [(103, .box 31 (eQuantity x_3))]⟩ rfl (Fin.result' [.agg (eQuantity x_3), .one (.i 31)] (.inl rfl) rfl (.cons (.agg tyAgg31 rfl rfl rfl rfl) (.cons (.tmp rfl) .nil)) ⟨rfl, rfl⟩)
 ·refine Tri.skip (Fin.keepS ⟨[(2, Pt 101 0), (3, Pt 102 0), (4, Pt 103 0)], [(101, .box 31 (eQuantity a0)), (102, .box 31 (eQuantity b0)), (103, .box 31 (.bool false :: .bool false :: (eW A16.zero ++ (.bool false :: .bool false :: (eW A16.zero ++ ([.i 0, .i 0, .i 0]))))))]⟩ rfl (Fin.then (Tri.seq (Tri.regionL ?_))))
  refine Oc (op_build tyBuild113 rfl rfl) (Oc (lp tyAgg31) (Oc (lp tyAgg31) ?_))
  obtain ⟨⟨x_4, x_5⟩, e7, h⟩ := bnd h
  refine Oc (op_call0 (unit_operation_do_spec e7) goes88 rfl rfl) (Oc (op_extract rfl rfl) ?_)
  refine OpsL.keepS ⟨[(4, Pt 103 0), (20, .tup [.agg (eQuantity x_4), .one (.i x_5)]), (21, .b (.agg (eQuantity x_4)))], [(103, .box 31 (.bool false :: .bool false :: (eW A16.zero ++ (.bool false :: .bool false :: (eW A16.zero ++ ([.i 0, .i 0, .i 0]))))))]⟩ rfl (Oc (op_extract rfl rfl) (Oc (op_store_p tyAgg31 rfl rfl rfl rfl (Nat.le_of_ble_eq_true rfl) rfl) (Oc oa ?_)))
  refine OpsL.nilS ⟨[(4, Pt 103 0), (5, I x_5)], [(103, .box 31 (eQuantity x_4))]⟩ rfl (Tri.ret ?_)
  obtain rfl := Option.some.inj h
  refine Fin.keepS ⟨[(4, Pt 103 0), (5, I x_5)], [(103, .box 31 (eQuantity x_4))]⟩ rfl (Fin.result' [.agg (eQuantity x_4), .one (.i x_5)] (.inl rfl) rfl (.cons (.agg tyAgg31 rfl rfl rfl rfl) (.cons (.tmp rfl) .nil)) ⟨rfl, rfl⟩)
def r4_Of_S (F : Nat) (n0 : Int) : Option Frc :=
 (r3_Of_S F n0).bind fun x_1 => (r4_one_S F).bind fun x_2 => (r4_Make_S F x_1 x_2).bind fun x_3 => some x_3
theorem r4_Of_spec {F : Nat} {n0 : Int} {r : Frc} (h : r4_Of_S F n0 = some r) : Meets Tryz.prog (tabs mx) 52 [] [.one (.i n0)] (Is [] (.b (.agg (eFrc r)))) := by
 unfold r4_Of_S at h
 refine Meets.intro 7 Tryz.func52 Tryz.ntmps52 rfl (by simp) fun E => ?_
 show Tri _ E ⟨7, [], []⟩ _ ⟨[(0, I n0)], []⟩ _
 refine Tri.seq (Tri.regionL ?_)
 refine Oc (op_alloc (k := 101) tyZero27 rfl) (OpsL.nilS ⟨[(0, I n0), (2, Pt 101 0)], [(101, .box 27 zFrc)]⟩ rfl (Tri.seq (Tri.regionL ?_)))
 refine Oc om ?_
 obtain ⟨x_1, e1, h⟩ := bnd h
 refine Oc (op_call0 (r3_Of_spec e1) goes107 rfl rfl) ?_
 obtain ⟨x_2, e2, h⟩ := bnd h
 refine Oc (op_call0 (r4_one_spec e2) goes108 rfl rfl) ?_
 obtain ⟨x_3, e3, h⟩ := bnd h
 refine Oc (op_call0 (r4_Make_spec e3) goes106 rfl rfl) (Oc (op_store_p tyAgg27 rfl rfl rfl rfl (Nat.le_of_ble_eq_true rfl) rfl) ?_)
 refine OpsL.nilS ⟨[(2, Pt 101 0)], [(101, .box 27 (eFrc x_3))]⟩ rfl (Tri.ret ?_)
 obtain rfl := Option.some.inj h
 refine Fin.keepS ⟨[(2, Pt 101 0)], [(101, .box 27 (eFrc x_3))]⟩ rfl (Fin.result' [.agg (eFrc x_3)] (.inl rfl) rfl (.cons (.agg tyAgg27 rfl rfl rfl rfl) .nil) ⟨rfl, rfl⟩)
def skewbacklaw11_refuses_S (F : Nat) (s0 : Str) (want0 : Int) : Option Bool :=
 Option.bind (unit_Parse_S F s0) (un2 fun x_1 x_2 => letN (⟨(⟨(⟨false, false, A16.zero⟩ : Big), (⟨false, false, A16.zero⟩ : Big)⟩ : Frc), (⟨0, 0, 0⟩ : MUnit)⟩ : Quantity) fun x_3 => some ((decide (x_1 = x_3)) && (decide (x_2 = want0))))
theorem skewbacklaw11_refuses_spec {F : Nat} {s0 : Str} {want0 : Int} {r : Bool} (h : skewbacklaw11_refuses_S F s0 want0 = some r) : Meets Tryz.prog (tabs mx) 53 [] [.one (.str s0), .one (.i want0)] (Is [] (.b (.one (.bool r)))) := by
 unfold skewbacklaw11_refuses_S at h
 refine Meets.intro 20 Tryz.func53 Tryz.ntmps53 rfl (by simp) fun E => ?_
 show Tri _ E ⟨20, [], []⟩ _ ⟨[(0, .b (.one (.str s0))), (1, I want0)], []⟩ _
 refine Tri.seq (Tri.regionL ?_)
 refine Oc oa (OpsL.nilS ⟨[(0, .b (.one (.str s0))), (1, I want0)], []⟩ rfl (Tri.seq (Tri.regionL ?_)))
 refine Oc om ?_
 obtain ⟨⟨x_1, x_2⟩, e1, h⟩ := bnd h
 refine Oc (op_call0 (unit_Parse_spec e1) goes17 rfl rfl) (Oc om (Oc (op_extract rfl rfl) (Oc (op_extract rfl rfl) ?_)))
 refine OpsL.keepS ⟨[(1, I want0), (10, .b (.agg (eQuantity x_1))), (11, I x_2)], []⟩ rfl (Oc (op_alloc (k := 101) tyZero31 rfl) (Oc (op_store_p tyAgg31 rfl rfl rfl rfl (Nat.le_of_ble_eq_true rfl) rfl) (Oc oa ?_)))
 refine OpsL.nilS ⟨[(1, I want0), (5, Pt 101 0), (6, I x_2)], [(101, .box 31 (eQuantity x_1))]⟩ rfl (Tri.seq (Tri.regionL ?_))
 refine Oc (lp tyAgg31) (OpsL.consA eQuantity h rfl (op_build tyBuild31 rfl rfl) (fun x_3 h => ?_))
 refine Oc (op_eql_agg (eqAgg31 x_1 x_3) rfl rfl) (Oc om ?_)
 refine CgT (decide (x_1 = x_3)) [] (fun g2 => trivial) (fun g2 => om) (CgT (decide (x_1 = x_3)) [] (fun g3 => by exact trivial) (fun g3 => om) (CgT (decide (x_1 = x_3)) [16, 17] (fun g4 => by exact ⟨g4, g4, trivial⟩) (fun g4 => op_eql rfl rfl) (Oc (op_pick_and (fun e => e) rfl rfl rfl rfl) (Oc oa ?_))))
 refine OpsL.nilS ⟨[(4, B ((decide (x_1 = x_3)) && (decide (x_2 = want0))))], []⟩ rfl (Tri.ret ?_)
 obtain rfl := Option.some.inj h
 refine Fin.keepS ⟨[(4, B ((decide (x_1 = x_3)) && (decide (x_2 = want0))))], []⟩ rfl (Fin.result' [.one (.bool ((decide (x_1 = x_3)) && (decide (x_2 = want0))))] (.inl rfl) rfl (.cons (.tmp rfl) .nil) ⟨rfl, rfl⟩)
def skewbacklaw11_sanity_S (F : Nat) : Option Bool :=
 Option.bind (unit_Parse_S F [107, 78, 47, 109, 109, 94, 50]) (un2 fun x_1 x_2 => (skewbacklaw11_of_S F 1000000000 1 (-1) 1 (-2)).bind fun x_3 => (unit_Print_S F (⟨1, 1, (-2)⟩ : MUnit)).bind fun x_4 => (gcall (decide (x_4 = [109, 42, 107, 103, 47, 115, 94, 50])) (unit_Print_S F (⟨(-1), 1, (-2)⟩ : MUnit))).bind fun x_5 => letN ((decide (x_4 = [109, 42, 107, 103, 47, 115, 94, 50])) && (decide (x_5 = [107, 103, 47, 109, 47, 115, 94, 50]))) fun x_6 => (gcall x_6 (unit_Print_S F (⟨0, 0, 0⟩ : MUnit))).bind fun x_7 => (gcall (x_6 && (decide (x_7 = [49]))) (unit_Print_S F (⟨(-2), 0, 0⟩ : MUnit))).bind fun x_8 => letN ((x_6 && (decide (x_7 = [49]))) && (decide (x_8 = [49, 47, 109, 94, 50]))) fun x_9 => (skewbacklaw11_of_S F 5 2 1 0 0).bind fun x_10 => (skewbacklaw11_reads_S F [50, 46, 53, 48, 32, 109] x_10).bind fun x_11 => (gcall x_11 (skewbacklaw11_of_S F 2500 1 1 1 (-2))).bind fun x_12 => (gcall x_11 (skewbacklaw11_reads_S F [53, 47, 50, 32, 107, 78] x_12)).bind fun x_13 => (gcall (x_11 && x_13) (skewbacklaw11_of_S F (-3) 1 0 0 0)).bind fun x_14 => (gcall (x_11 && x_13) (skewbacklaw11_reads_S F [45, 51] x_14)).bind fun x_15 => (gcall ((x_11 && x_13) && x_15) (skewbacklaw11_of_S F 1 40 1 0 0)).bind fun x_16 => (gcall ((x_11 && x_13) && x_15) (unit_Write_S F x_16)).bind fun x_17 => letN (((x_11 && x_13) && x_15) && (decide (x_17 = [49, 47, 52, 48, 32, 109]))) fun x_18 => (skewbacklaw11_of_S F 7200 1 0 0 1).bind fun x_19 => Option.bind (unit_In_S F x_19 [109, 105, 110]) (un2 fun x_20 x_21 => (skewbacklaw11_of_S F 7200 1 0 0 1).bind fun x_22 => Option.bind (unit_In_S F x_22 [109]) (un2 fun x_23 x_24 => (skewbacklaw11_of_S F 1 1 1 0 0).bind fun x_25 => (skewbacklaw11_of_S F 1 1 0 0 1).bind fun x_26 => Option.bind (unit_Add_S F x_25 x_26) (un2 fun x_27 x_28 => (skewbacklaw11_of_S F 1 1 1 0 0).bind fun x_29 => (skewbacklaw11_of_S F 0 1 0 0 1).bind fun x_30 => Option.bind (unit_Over_S F x_29 x_30) (un2 fun x_31 x_32 => (r4_Of_S F 120).bind fun x_33 => letN ((((decide (x_1 = x_3)) && (decide (x_2 = 0))) && x_9) && x_18) fun x_34 => letN (x_34 && (((((decide (x_20 = x_33)) && (decide (x_21 = 0))) && (decide (x_24 = 110))) && (decide (x_28 = 110))) && (decide (x_32 = 31)))) fun x_35 => (gcall x_35 (skewbacklaw11_refuses_S F [109, 94, 49, 55] 280)).bind fun x_36 => (gcall (x_35 && x_36) (skewbacklaw11_refuses_S F [109, 94, 49, 54, 42, 109] 2)).bind fun x_37 => (gcall ((x_35 && x_36) && x_37) (skewbacklaw11_refuses_S F [120] 5)).bind fun x_38 => (gcall (((x_35 && x_36) && x_37) && x_38) (skewbacklaw11_refuses_S F [109, 42, 42, 115] 280)).bind fun x_39 => (gcall ((((x_35 && x_36) && x_37) && x_38) && x_39) (skewbacklaw11_refuses_S F [109, 94, 45, 48] 280)).bind fun x_40 => some (((((x_35 && x_36) && x_37) && x_38) && x_39) && x_40))))))
theorem skewbacklaw11_sanity_spec {F : Nat} {r : Bool} (h : skewbacklaw11_sanity_S F = some r) : Meets Tryz.prog (tabs mx) 10 [] [] (Is [] (.b (.one (.bool r)))) := by
 unfold skewbacklaw11_sanity_S at h
 refine Meets.intro 125 Tryz.func10 Tryz.ntmps10 rfl (by simp) fun E => ?_
 show Tri _ E ⟨125, [], []⟩ _ ⟨[], []⟩ _
 refine Tri.seq (Tri.regionL ?_)
 refine Oc oa (OpsL.nilS ⟨[], []⟩ rfl (Tri.seq (Tri.regionL ?_)))
 obtain ⟨⟨x_1, x_2⟩, e1, h⟩ := bnd h
 refine Oc (op_call0 (unit_Parse_spec e1) goes17 rfl rfl) (Oc om (Oc (op_extract rfl rfl) (Oc (op_extract rfl rfl) ?_)))
 refine OpsL.keepS ⟨[(17, .b (.agg (eQuantity x_1))), (18, I x_2)], []⟩ rfl (Oc (op_alloc (k := 101) tyZero31 rfl) (Oc (op_store_p tyAgg31 rfl rfl rfl rfl (Nat.le_of_ble_eq_true rfl) rfl) (Oc oa ?_)))
 refine OpsL.nilS ⟨[(1, Pt 101 0), (2, I x_2)], [(101, .box 31 (eQuantity x_1))]⟩ rfl (Tri.seq ?_)
 obtain ⟨x_3, e2, h⟩ := bnd h
 refine Tri.regionY mixed 8 [.b (.agg (eQuantity x_1)), .b (.agg (eQuantity x_3)), B (decide (x_1 = x_3)), B (decide (x_1 = x_3)), .opt (decide (x_1 = x_3)) (.one (.i x_2)), .opt (decide (x_1 = x_3)) (.one (.bool (decide (x_2 = 0)))), B ((decide (x_1 = x_3)) && (decide (x_2 = 0))), B ((decide (x_1 = x_3)) && (decide (x_2 = 0)))] [3] [] (s' := ⟨[(3, B ((decide (x_1 = x_3)) && (decide (x_2 = 0))))], []⟩) rfl ⟨fun _ => .p (lp tyAgg31), fun _ => .p (op_call0 (skewbacklaw11_of_spec e2) goes50 rfl rfl), fun _ => .p (op_eql_agg (eqAgg31 x_1 x_3) rfl rfl), fun _ => .p om, fun _ => by exact .guard (decide (x_1 = x_3)) 1 [] (.plain rfl) (eq_t _) rfl rfl (fun g3 => trivial) (fun g3 => om), fun _ => by exact .guard (decide (x_1 = x_3)) 2 [23] (.plain rfl) (eq_t _) rfl rfl (fun g4 => ⟨g4, trivial⟩) (fun g4 => op_eql rfl rfl), fun _ => .p (op_pick_and (fun e => e) rfl rfl rfl rfl), fun _ => .p oa, trivial⟩ rfl rfl (Tri.seq (Tri.regionL ?_))
 refine Oc (op_build tyBuild29 rfl rfl) ?_
 obtain ⟨x_4, e5, h⟩ := bnd h
 refine Oc (op_call0 (unit_Print_spec e5) goes18 rfl rfl) (Oc (op_eql_str rfl rfl) (Oc om ?_))
 refine CgT (decide (x_4 = [109, 42, 107, 103, 47, 115, 94, 50])) [] (fun g6 => trivial) (fun g6 => op_build tyBuild29 rfl rfl) (OpsL.keepS ⟨[(3, B ((decide (x_1 = x_3)) && (decide (x_2 = 0)))), (29, B (decide (x_4 = [109, 42, 107, 103, 47, 115, 94, 50]))), (30, .opt (decide (x_4 = [109, 42, 107, 103, 47, 115, 94, 50])) (.agg [.i (-1), .i 1, .i (-2)]))], []⟩ rfl ?_)
 obtain ⟨x_5, e8, h⟩ := bnd h
 refine CgT (decide (x_4 = [109, 42, 107, 103, 47, 115, 94, 50])) [30] (fun g7 => ⟨g7, trivial⟩) (fun g7 => op_call0 (unit_Print_spec (gc e8 g7)) goes18 rfl rfl) (CgT (decide (x_4 = [109, 42, 107, 103, 47, 115, 94, 50])) [31] (fun g9 => ⟨g9, trivial⟩) (fun g9 => op_eql_str rfl rfl) (OpsL.consB h rfl (op_pick_and (fun e => e) rfl rfl rfl rfl) (fun x_6 h => ?_)))
 refine Oc om (CgT x_6 [] (fun g10 => by exact trivial) (fun g10 => op_build tyBuild29 rfl rfl) ?_)
 obtain ⟨x_7, e12, h⟩ := bnd h
 refine CgT x_6 [35] (fun g11 => ⟨g11, trivial⟩) (fun g11 => op_call0 (unit_Print_spec (gc e12 g11)) goes18 rfl rfl) (OpsL.keepS ⟨[(3, B ((decide (x_1 = x_3)) && (decide (x_2 = 0)))), (34, B x_6), (36, .opt x_6 (.one (.str x_7)))], []⟩ rfl (CgT x_6 [36] (fun g13 => ⟨g13, trivial⟩) (fun g13 => op_eql_str rfl rfl) (Oc (op_pick_and (fun e => e) rfl rfl rfl rfl) (Oc om ?_))))
 refine CgT (x_6 && (decide (x_7 = [49]))) [] (fun g14 => trivial) (fun g14 => op_build tyBuild29 rfl rfl) ?_
 obtain ⟨x_8, e16, h⟩ := bnd h
 refine CgT (x_6 && (decide (x_7 = [49]))) [40] (fun g15 => ⟨g15, trivial⟩) (fun g15 => op_call0 (unit_Print_spec (gc e16 g15)) goes18 rfl rfl) (CgT (x_6 && (decide (x_7 = [49]))) [41] (fun g17 => ⟨g17, trivial⟩) (fun g17 => op_eql_str rfl rfl) (OpsL.consB h rfl (op_pick_and (fun e => e) rfl rfl rfl rfl) (fun x_9 h => ?_)))
 refine Oc oa (OpsL.nilS ⟨[(3, B ((decide (x_1 = x_3)) && (decide (x_2 = 0)))), (4, B x_9)], []⟩ rfl (Tri.seq (Tri.regionL ?_)))
 obtain ⟨x_10, e18, h⟩ := bnd h
 refine Oc (op_call0 (skewbacklaw11_of_spec e18) goes50 rfl rfl) ?_
 obtain ⟨x_11, e19, h⟩ := bnd h
 refine Oc (op_call0 (skewbacklaw11_reads_spec e19) goes51 rfl rfl) (Oc om ?_)
 refine OpsL.keepS ⟨[(3, B ((decide (x_1 = x_3)) && (decide (x_2 = 0)))), (4, B x_9), (46, B x_11)], []⟩ rfl ?_
 obtain ⟨x_12, e21, h⟩ := bnd h
 refine CgT x_11 [] (fun g20 => trivial) (fun g20 => op_call0 (skewbacklaw11_of_spec (gc e21 g20)) goes50 rfl rfl) ?_
 obtain ⟨x_13, e23, h⟩ := bnd h
 refine CgT x_11 [47] (fun g22 => ⟨g22, trivial⟩) (fun g22 => op_call0 (skewbacklaw11_reads_spec (gc e23 g22)) goes51 rfl rfl) (Oc (op_pick_and (fun e => e) rfl rfl rfl rfl) (Oc om ?_))
 refine OpsL.keepS ⟨[(3, B ((decide (x_1 = x_3)) && (decide (x_2 = 0)))), (4, B x_9), (50, B (x_11 && x_13))], []⟩ rfl ?_
 obtain ⟨x_14, e25, h⟩ := bnd h
 refine CgT (x_11 && x_13) [] (fun g24 => trivial) (fun g24 => op_call0 (skewbacklaw11_of_spec (gc e25 g24)) goes50 rfl rfl) ?_
 obtain ⟨x_15, e27, h⟩ := bnd h
 refine CgT (x_11 && x_13) [51] (fun g26 => ⟨g26, trivial⟩) (fun g26 => op_call0 (skewbacklaw11_reads_spec (gc e27 g26)) goes51 rfl rfl) (Oc (op_pick_and (fun e => e) rfl rfl rfl rfl) (Oc om ?_))
 refine OpsL.keepS ⟨[(3, B ((decide (x_1 = x_3)) && (decide (x_2 = 0)))), (4, B x_9), (54, B ((x_11 && x_13) && x_15))], []⟩ rfl ?_
 obtain ⟨x_16, e29, h⟩ := bnd h
 refine CgT ((x_11 && x_13) && x_15) [] (fun g28 => trivial) (fun g28 => op_call0 (skewbacklaw11_of_spec (gc e29 g28)) goes50 rfl rfl) ?_
 obtain ⟨x_17, e31, h⟩ := bnd h
 refine CgT ((x_11 && x_13) && x_15) [55] (fun g30 => ⟨g30, trivial⟩) (fun g30 => op_call0 (unit_Write_spec (gc e31 g30)) goes19 rfl rfl) (CgT ((x_11 && x_13) && x_15) [56] (fun g32 => ⟨g32, trivial⟩) (fun g32 => op_eql_str rfl rfl) (OpsL.consB h rfl (op_pick_and (fun e => e) rfl rfl rfl rfl) (fun x_18 h => ?_)))
 refine Oc oa (OpsL.nilS ⟨[(3, B ((decide (x_1 = x_3)) && (decide (x_2 = 0)))), (4, B x_9), (5, B x_18)], []⟩ rfl (Tri.seq (Tri.regionL ?_)))
 obtain ⟨x_19, e33, h⟩ := bnd h
 refine Oc (op_call0 (skewbacklaw11_of_spec e33) goes50 rfl rfl) ?_
 obtain ⟨⟨x_20, x_21⟩, e34, h⟩ := bnd h
 refine Oc (op_call0 (unit_In_spec e34) goes11 rfl rfl) (Oc om ?_)
 refine OpsL.keepS ⟨[(3, B ((decide (x_1 = x_3)) && (decide (x_2 = 0)))), (4, B x_9), (5, B x_18), (59, .tup [.agg (eFrc x_20), .one (.i x_21)])], []⟩ rfl (Oc (op_extract rfl rfl) (Oc (op_extract rfl rfl) (Oc (op_alloc (k := 102) tyZero27 rfl) (Oc (op_store_p tyAgg27 rfl rfl rfl rfl (Nat.le_of_ble_eq_true rfl) rfl) (Oc oa ?_)))))
 refine OpsL.nilS ⟨[(3, B ((decide (x_1 = x_3)) && (decide (x_2 = 0)))), (4, B x_9), (5, B x_18), (6, Pt 102 0), (7, I x_21)], [(102, .box 27 (eFrc x_20))]⟩ rfl (Tri.seq (Tri.regionL ?_))
 obtain ⟨x_22, e35, h⟩ := bnd h
 refine Oc (op_call0 (skewbacklaw11_of_spec e35) goes50 rfl rfl) ?_
 obtain ⟨⟨x_23, x_24⟩, e36, h⟩ := bnd h
 refine Oc (op_call0 (unit_In_spec e36) goes11 rfl rfl) (Oc om ?_)
 refine OpsL.keepS ⟨[(3, B ((decide (x_1 = x_3)) && (decide (x_2 = 0)))), (4, B x_9), (5, B x_18), (6, Pt 102 0), (7, I x_21), (64, .tup [.agg (eFrc x_23), .one (.i x_24)])], [(102, .box 27 (eFrc x_20))]⟩ rfl (Oc (op_extract rfl rfl) (Oc (op_extract rfl rfl) (Oc (op_alloc (k := 103) tyZero27 rfl) (Oc (op_store_p tyAgg27 rfl rfl rfl rfl (Nat.le_of_ble_eq_true rfl) rfl) (Oc oa ?_)))))
 refine OpsL.nilS ⟨[(3, B ((decide (x_1 = x_3)) && (decide (x_2 = 0)))), (4, B x_9), (5, B x_18), (6, Pt 102 0), (7, I x_21), (9, I x_24)], [(102, .box 27 (eFrc x_20))]⟩ rfl (Tri.seq (Tri.regionL ?_))
 obtain ⟨x_25, e37, h⟩ := bnd h
 refine Oc (op_call0 (skewbacklaw11_of_spec e37) goes50 rfl rfl) ?_
 obtain ⟨x_26, e38, h⟩ := bnd h
 refine Oc (op_call0 (skewbacklaw11_of_spec e38) goes50 rfl rfl) (OpsL.keepS ⟨[(3, B ((decide (x_1 = x_3)) && (decide (x_2 = 0)))), (4, B x_9), (5, B x_18), (6, Pt 102 0), (7, I x_21), (9, I x_24), (70, .b (.agg (eQuantity x_25))), (71, .b (.agg (eQuantity x_26)))], [(102, .box 27 (eFrc x_20))]⟩ rfl ?_)
 obtain ⟨⟨x_27, x_28⟩, e39, h⟩ := bnd h
 refine Oc (op_call0 (unit_Add_spec e39) goes36 rfl rfl) (Oc om (Oc (op_extract rfl rfl) (Oc (op_extract rfl rfl) (Oc (op_alloc (k := 104) tyZero31 rfl) (Oc (op_store_p tyAgg31 rfl rfl rfl rfl (Nat.le_of_ble_eq_true rfl) rfl) ?_)))))
 refine Oc oa (OpsL.nilS ⟨[(3, B ((decide (x_1 = x_3)) && (decide (x_2 = 0)))), (4, B x_9), (5, B x_18), (6, Pt 102 0), (7, I x_21), (9, I x_24), (11, I x_28)], [(102, .box 27 (eFrc x_20))]⟩ rfl (Tri.seq (Tri.regionL ?_)))
 obtain ⟨x_29, e40, h⟩ := bnd h
 refine Oc (op_call0 (skewbacklaw11_of_spec e40) goes50 rfl rfl) ?_
 obtain ⟨x_30, e41, h⟩ := bnd h
 refine Oc (op_call0 (skewbacklaw11_of_spec e41) goes50 rfl rfl) (OpsL.keepS ⟨[(3, B ((decide (x_1 = x_3)) && (decide (x_2 = 0)))), (4, B x_9), (5, B x_18), (6, Pt 102 0), (7, I x_21), (9, I x_24), (11, I x_28), (76, .b (.agg (eQuantity x_29))), (77, .b (.agg (eQuantity x_30)))], [(102, .box 27 (eFrc x_20))]⟩ rfl ?_)
 obtain ⟨⟨x_31, x_32⟩, e42, h⟩ := bnd h
 refine Oc (op_call0 (unit_Over_spec e42) goes40 rfl rfl) (Oc om (Oc (op_extract rfl rfl) (Oc (op_extract rfl rfl) (Oc (op_alloc (k := 105) tyZero31 rfl) (Oc (op_store_p tyAgg31 rfl rfl rfl rfl (Nat.le_of_ble_eq_true rfl) rfl) ?_)))))
 refine Oc oa (OpsL.nilS ⟨[(3, B ((decide (x_1 = x_3)) && (decide (x_2 = 0)))), (4, B x_9), (5, B x_18), (6, Pt 102 0), (7, I x_21), (9, I x_24), (11, I x_28), (13, I x_32)], [(102, .box 27 (eFrc x_20))]⟩ rfl (Tri.seq ?_))
 obtain ⟨x_33, e43, h⟩ := bnd h
 refine Tri.regionY mixed 20 [.b (.agg (eFrc x_20)), .b (.agg (eFrc x_33)), B (decide (x_20 = x_33)), B (decide (x_20 = x_33)), .opt (decide (x_20 = x_33)) (.one (.i x_21)), .opt (decide (x_20 = x_33)) (.one (.bool (decide (x_21 = 0)))), B ((decide (x_20 = x_33)) && (decide (x_21 = 0))), B ((decide (x_20 = x_33)) && (decide (x_21 = 0))), .opt ((decide (x_20 = x_33)) && (decide (x_21 = 0))) (.one (.i x_24)), .opt ((decide (x_20 = x_33)) && (decide (x_21 = 0))) (.one (.bool (decide (x_24 = 110)))), B (((decide (x_20 = x_33)) && (decide (x_21 = 0))) && (decide (x_24 = 110))), B (((decide (x_20 = x_33)) && (decide (x_21 = 0))) && (decide (x_24 = 110))), .opt (((decide (x_20 = x_33)) && (decide (x_21 = 0))) && (decide (x_24 = 110))) (.one (.i x_28)), .opt (((decide (x_20 = x_33)) && (decide (x_21 = 0))) && (decide (x_24 = 110))) (.one (.bool (decide (x_28 = 110)))), B ((((decide (x_20 = x_33)) && (decide (x_21 = 0))) && (decide (x_24 = 110))) && (decide (x_28 = 110))), B ((((decide (x_20 = x_33)) && (decide (x_21 = 0))) && (decide (x_24 = 110))) && (decide (x_28 = 110))), .opt ((((decide (x_20 = x_33)) && (decide (x_21 = 0))) && (decide (x_24 = 110))) && (decide (x_28 = 110))) (.one (.i x_32)), .opt ((((decide (x_20 = x_33)) && (decide (x_21 = 0))) && (decide (x_24 = 110))) && (decide (x_28 = 110))) (.one (.bool (decide (x_32 = 31)))), B (((((decide (x_20 = x_33)) && (decide (x_21 = 0))) && (decide (x_24 = 110))) && (decide (x_28 = 110))) && (decide (x_32 = 31))), B (((((decide (x_20 = x_33)) && (decide (x_21 = 0))) && (decide (x_24 = 110))) && (decide (x_28 = 110))) && (decide (x_32 = 31)))] [3, 4, 5, 14] [] (s' := ⟨[(3, B ((decide (x_1 = x_3)) && (decide (x_2 = 0)))), (4, B x_9), (5, B x_18), (14, B (((((decide (x_20 = x_33)) && (decide (x_21 = 0))) && (decide (x_24 = 110))) && (decide (x_28 = 110))) && (decide (x_32 = 31))))], []⟩) rfl ⟨fun _ => .p (lp tyAgg27), fun _ => .p (op_call0 (r4_Of_spec e43) goes52 rfl rfl), fun _ => .p (op_eql_agg (eqAgg27 x_20 x_33) rfl rfl), fun _ => .p om, fun _ => by exact .guard (decide (x_20 = x_33)) 1 [] (.plain rfl) (eq_t _) rfl rfl (fun g44 => trivial) (fun g44 => om), fun _ => by exact .guard (decide (x_20 = x_33)) 2 [85] (.plain rfl) (eq_t _) rfl rfl (fun g45 => ⟨g45, trivial⟩) (fun g45 => op_eql rfl rfl), fun _ => .p (op_pick_and (fun e => e) rfl rfl rfl rfl), fun _ => .p om, fun _ => by exact .guard ((decide (x_20 = x_33)) && (decide (x_21 = 0))) 1 [] (.plain rfl) (eq_t _) rfl rfl (fun g46 => trivial) (fun g46 => om), fun _ => by exact .guard ((decide (x_20 = x_33)) && (decide (x_21 = 0))) 2 [89] (.plain rfl) (eq_t _) rfl rfl (fun g47 => ⟨g47, trivial⟩) (fun g47 => op_eql rfl rfl), fun _ => .p (op_pick_and (fun e => e) rfl rfl rfl rfl), fun _ => .p om, fun _ => by exact .guard (((decide (x_20 = x_33)) && (decide (x_21 = 0))) && (decide (x_24 = 110))) 1 [] (.plain rfl) (eq_t _) rfl rfl (fun g48 => trivial) (fun g48 => om), fun _ => by exact .guard (((decide (x_20 = x_33)) && (decide (x_21 = 0))) && (decide (x_24 = 110))) 2 [93] (.plain rfl) (eq_t _) rfl rfl (fun g49 => ⟨g49, trivial⟩) (fun g49 => op_eql rfl rfl), fun _ => .p (op_pick_and (fun e => e) rfl rfl rfl rfl), fun _ => .p om, fun _ => by exact .guard ((((decide (x_20 = x_33)) && (decide (x_21 = 0))) && (decide (x_24 = 110))) && (decide (x_28 = 110))) 1 [] (.plain rfl) (eq_t _) rfl rfl (fun g50 => trivial) (fun g50 => om), fun _ => by exact .guard ((((decide (x_20 = x_33)) && (decide (x_21 = 0))) && (decide (x_24 = 110))) && (decide (x_28 = 110))) 2 [97] (.plain rfl) (eq_t _) rfl rfl (fun g51 => ⟨g51, trivial⟩) (fun g51 => op_eql rfl rfl), fun _ => .p (op_pick_and (fun e => e) rfl rfl rfl rfl), fun _ => .p oa, trivial⟩ rfl rfl ?_
 refine Tri.seq (Tri.regionL ?_)
 refine Oc om (Oc om ?_)
 refine CgT ((decide (x_1 = x_3)) && (decide (x_2 = 0))) [] (fun g52 => trivial) (fun g52 => om) (Oc (op_pick_and (fun e => e) rfl rfl rfl rfl) (Oc om ?_))
 refine CgT (((decide (x_1 = x_3)) && (decide (x_2 = 0))) && x_9) [] (fun g53 => trivial) (fun g53 => om) (OpsL.consB h rfl (op_pick_and (fun e => e) rfl rfl rfl rfl) (fun x_34 h => ?_))
 refine OpsL.keepS ⟨[(14, B (((((decide (x_20 = x_33)) && (decide (x_21 = 0))) && (decide (x_24 = 110))) && (decide (x_28 = 110))) && (decide (x_32 = 31)))), (106, B x_34)], []⟩ rfl (Oc om (CgT x_34 [] (fun g54 => by exact trivial) (fun g54 => om) (OpsL.consB h rfl (op_pick_and (fun e => e) rfl rfl rfl rfl) (fun x_35 h => ?_))))
 refine Oc om ?_
 obtain ⟨x_36, e56, h⟩ := bnd h
 refine CgT x_35 [] (fun g55 => trivial) (fun g55 => op_call0 (skewbacklaw11_refuses_spec (gc e56 g55)) goes53 rfl rfl) (Oc (op_pick_and (fun e => e) rfl rfl rfl rfl) (OpsL.keepS ⟨[(112, B (x_35 && x_36))], []⟩ rfl (Oc om ?_)))
 obtain ⟨x_37, e58, h⟩ := bnd h
 refine CgT (x_35 && x_36) [] (fun g57 => trivial) (fun g57 => op_call0 (skewbacklaw11_refuses_spec (gc e58 g57)) goes53 rfl rfl) (Oc (op_pick_and (fun e => e) rfl rfl rfl rfl) (Oc om ?_))
 refine OpsL.keepS ⟨[(116, B ((x_35 && x_36) && x_37))], []⟩ rfl ?_
 obtain ⟨x_38, e60, h⟩ := bnd h
 refine CgT ((x_35 && x_36) && x_37) [] (fun g59 => trivial) (fun g59 => op_call0 (skewbacklaw11_refuses_spec (gc e60 g59)) goes53 rfl rfl) (Oc (op_pick_and (fun e => e) rfl rfl rfl rfl) (Oc om ?_))
 obtain ⟨x_39, e62, h⟩ := bnd h
 refine CgT (((x_35 && x_36) && x_37) && x_38) [] (fun g61 => trivial) (fun g61 => op_call0 (skewbacklaw11_refuses_spec (gc e62 g61)) goes53 rfl rfl) (Oc (op_pick_and (fun e => e) rfl rfl rfl rfl) (Oc om ?_))
 refine OpsL.keepS ⟨[(122, B ((((x_35 && x_36) && x_37) && x_38) && x_39))], []⟩ rfl ?_
 obtain ⟨x_40, e64, h⟩ := bnd h
 refine CgT ((((x_35 && x_36) && x_37) && x_38) && x_39) [] (fun g63 => trivial) (fun g63 => op_call0 (skewbacklaw11_refuses_spec (gc e64 g63)) goes53 rfl rfl) (Oc (op_pick_and (fun e => e) rfl rfl rfl rfl) (Oc oa ?_))
 refine OpsL.nilS ⟨[(0, B (((((x_35 && x_36) && x_37) && x_38) && x_39) && x_40))], []⟩ rfl (Tri.ret ?_)
 obtain rfl := Option.some.inj h
 refine Fin.keepS ⟨[(0, B (((((x_35 && x_36) && x_37) && x_38) && x_39) && x_40))], []⟩ rfl (Fin.result' [.one (.bool (((((x_35 && x_36) && x_37) && x_38) && x_39) && x_40))] (.inl rfl) rfl (.cons (.tmp rfl) .nil) ⟨rfl, rfl⟩)
def skewbackref11_digits_S (F : Nat) (n0 : Int) : Option Str :=
 if (decide (n0 < 10)) = true then (letN (IntKind.u8.wrap (IntKind.i64.wrap (48 + n0))) fun x_1 => some (toStr [x_1])) else ((quo? .i64 n0 10).bind fun x_2 => letN (IntKind.u8.wrap (IntKind.i64.wrap (48 + x_2))) fun x_3 => letN (IntKind.i64.wrap (48 + (Int.tmod n0 10))) fun x_4 => some (toStr [x_3, IntKind.u8.wrap x_4]))
theorem skewbackref11_digits_spec {F : Nat} {n0 : Int} {r : Str} (h : skewbackref11_digits_S F n0 = some r) : Meets Tryz.prog (tabs mx) 144 [] [.one (.i n0)] (Is [] (.b (.one (.str r)))) := by
 unfold skewbackref11_digits_S at h
 refine Meets.intro 20 Tryz.func144 Tryz.ntmps144 rfl (by simp) fun E => ?_
 show Tri _ E ⟨20, [], []⟩ _ ⟨[(0, I n0)], []⟩ _
 refine Tri.seq (Tri.regionL ?_)
 refine Oc oa (OpsL.nilS ⟨[(0, I n0)], []⟩ rfl (Tri.seq (Tri.seq (Tri.regionL ?_))))
 refine Oc om (Oc (op_lss rfl rfl) ?_)
 refine OpsL.nilS ⟨[(0, I n0), (4, B (decide (n0 < 10)))], []⟩ rfl (Tri.ite h rfl (fun _ h => ?_) (fun _ h => ?_))
 ·refine Tri.seq (Tri.regionL ?_)
  refine Oc om (Oc (op_add rfl rfl) ?_)
  refine OpsL.consI .u8 h rfl (op_conv_wrap undi3 undi5 rfl) (fun x_1 h => ?_)
  refine Oc (op_buildSlice (k := 101) (es := [x_1].map (eK .u8)) tySl48 rfl rfl (uni_map fun _ => rfl) rfl (by decide) (by decide) rfl) (OpsL.persist 101 rfl (Oc (op_conv_bytes und48 undi5 und9 rfl) (Oc oa ?_)))
  refine OpsL.nilS ⟨[(2, .b (.one (.str (toStr [x_1]))))], []⟩ rfl (Tri.ret (Fin.then_ret ?_))
  obtain rfl := Option.some.inj h
  refine Fin.keepS ⟨[(2, .b (.one (.str (toStr [x_1]))))], []⟩ rfl (Fin.result' [.one (.str (toStr [x_1]))] (.inl rfl) rfl (.cons (.tmp rfl) .nil) ⟨rfl, rfl⟩)
 ·refine Tri.skip (Fin.keepS ⟨[(0, I n0)], []⟩ rfl (Fin.then (Tri.seq (Tri.regionL ?_))))
  refine Oc om ?_
  obtain ⟨x_2, e1, h⟩ := bnd h
  refine Oc (op_quo2 e1 rfl rfl) (Oc (op_add rfl rfl) ?_)
  refine OpsL.consI .u8 h rfl (op_conv_wrap undi3 undi5 rfl) (fun x_3 h => ?_)
  refine Oc om (Oc (op_rem (by decide) rfl rfl) ?_)
  refine OpsL.consI .i64 h rfl (op_add rfl rfl) (fun x_4 h => ?_)
  refine OpsL.keepS ⟨[(13, .b (.one (.int .u8 x_3))), (16, I x_4)], []⟩ rfl (Oc (op_conv_wrap undi3 undi5 rfl) (Oc (op_buildSlice (k := 102) (es := [x_3, IntKind.u8.wrap x_4].map (eK .u8)) tySl48 rfl rfl (uni_map fun _ => rfl) rfl (by decide) (by decide) rfl) ?_))
  refine OpsL.persist 102 rfl (Oc (op_conv_bytes und48 undi5 und9 rfl) (Oc oa ?_))
  refine OpsL.nilS ⟨[(2, .b (.one (.str (toStr [x_3, IntKind.u8.wrap x_4]))))], []⟩ rfl (Tri.ret ?_)
  obtain rfl := Option.some.inj h
  refine Fin.keepS ⟨[(2, .b (.one (.str (toStr [x_3, IntKind.u8.wrap x_4]))))], []⟩ rfl (Fin.result' [.one (.str (toStr [x_3, IntKind.u8.wrap x_4]))] (.inl rfl) rfl (.cons (.tmp rfl) .nil) ⟨rfl, rfl⟩)
def skewbackref11_power_S (F : Nat) (name0 : Str) (n0 : Int) : Option Str :=
 if (decide (n0 = 1)) = true then (some name0) else ((app? name0 [94]).bind fun x_1 => (skewbackref11_digits_S F n0).bind fun x_2 => (app? x_1 x_2).bind fun x_3 => some x_3)
theorem skewbackref11_power_spec {F : Nat} {name0 : Str} {n0 : Int} {r : Str} (h : skewbackref11_power_S F name0 n0 = some r) : Meets Tryz.prog (tabs mx) 86 [] [.one (.str name0), .one (.i n0)] (Is [] (.b (.one (.str r)))) := by
 unfold skewbackref11_power_S at h
 refine Meets.intro 13 Tryz.func86 Tryz.ntmps86 rfl (by simp) fun E => ?_
 show Tri _ E ⟨13, [], []⟩ _ ⟨[(0, .b (.one (.str name0))), (1, I n0)], []⟩ _
 refine Tri.seq (Tri.regionL ?_)
 refine Oc oa (OpsL.nilS ⟨[(0, .b (.one (.str name0))), (1, I n0)], []⟩ rfl (Tri.seq (Tri.seq (Tri.regionL ?_))))
 refine Oc om (Oc (op_eql rfl rfl) ?_)
 refine OpsL.nilS ⟨[(0, .b (.one (.str name0))), (1, I n0), (6, B (decide (n0 = 1)))], []⟩ rfl (Tri.ite h rfl (fun _ h => ?_) (fun _ h => ?_))
 ·refine Tri.seq (Tri.regionL ?_)
  refine Oc om (Oc oa ?_)
  refine OpsL.nilS ⟨[(4, .b (.one (.str name0)))], []⟩ rfl (Tri.ret (Fin.then_ret ?_))
  obtain rfl := Option.some.inj h
  refine Fin.keepS ⟨[(4, .b (.one (.str name0)))], []⟩ rfl (Fin.result' [.one (.str name0)] (.inl rfl) rfl (.cons (.tmp rfl) .nil) ⟨rfl, rfl⟩)
 ·refine Tri.skip (Fin.keepS ⟨[(0, .b (.one (.str name0))), (1, I n0)], []⟩ rfl (Fin.then (Tri.seq (Tri.regionL ?_))))
  refine Oc om ?_
  obtain ⟨x_1, e1, h⟩ := bnd h
  refine Oc (op_add_str2 e1 rfl rfl) (Oc om ?_)
  obtain ⟨x_2, e2, h⟩ := bnd h
  refine Oc (op_call0 (skewbackref11_digits_spec e2) goes144 rfl rfl) ?_
  obtain ⟨x_3, e3, h⟩ := bnd h
  refine Oc (op_add_str2 e3 rfl rfl) (Oc oa ?_)
  refine OpsL.nilS ⟨[(4, .b (.one (.str x_3)))], []⟩ rfl (Tri.ret ?_)
  obtain rfl := Option.some.inj h
  refine Fin.keepS ⟨[(4, .b (.one (.str x_3)))], []⟩ rfl (Fin.result' [.one (.str x_3)] (.inl rfl) rfl (.cons (.tmp rfl) .nil) ⟨rfl, rfl⟩)
def skewbackref11_Print_S (F : Nat) (u0 : MUnit) : Option Str :=
 (skewbackref11_Valid_S F u0).bind fun x_1 => if (!x_1) = true then (some []) else (Option.bind (iter F (un2 fun out_3 i_4 => if (decide (i_4 < 3)) = true then (Option.bind ((idx? [u0.M, u0.Kg, u0.S] i_4).bind fun x_7 => if (decide (0 < x_7)) = true then (Option.bind (if (decide (out_3 ≠ [])) = true then ((app? out_3 [42]).bind fun x_9 => some x_9) else (some out_3)) (fun out_8 => (idx? [[109], [107, 103], [115]] i_4).bind fun x_10 => (idx? [u0.M, u0.Kg, u0.S] i_4).bind fun x_11 => (skewbackref11_power_S F x_10 x_11).bind fun x_12 => (app? out_8 x_12).bind fun x_13 => some x_13)) else (some out_3)) (fun out_6 => some (.inl (out_6, IntKind.i64.wrap (i_4 + 1))))) else (some (.inr out_3))) ([], 0)) (fun out_2 => Option.bind (if (decide (out_2 = [])) = true then (some [49]) else (some out_2)) (fun out_14 => Option.bind (iter F (un2 fun out_16 i_17 => if (decide (i_17 < 3)) = true then (Option.bind ((idx? [u0.M, u0.Kg, u0.S] i_17).bind fun x_20 => if (decide (x_20 < 0)) = true then ((app? out_16 [47]).bind fun x_21 => (idx? [[109], [107, 103], [115]] i_17).bind fun x_22 => (idx? [u0.M, u0.Kg, u0.S] i_17).bind fun x_23 => (skewbackref11_power_S F x_22 (IntKind.i64.wrap (-x_23))).bind fun x_24 => (app? x_21 x_24).bind fun x_25 => some x_25) else (some out_16)) (fun out_19 => some (.inl (out_19, IntKind.i64.wrap (i_17 + 1))))) else (some (.inr out_16))) (out_14, 0)) (fun out_15 => some out_15))))
theorem skewbackref11_Print_spec {F : Nat} {u0 : MUnit} {r : Str} (h : skewbackref11_Print_S F u0 = some r) : Meets Tryz.prog (tabs mx) 34 [] [.agg (eMUnit u0)] (Is [] (.b (.one (.str r)))) := by
 unfold skewbackref11_Print_S at h
 refine Meets.intro 70 Tryz.func34 Tryz.ntmps34 rfl (by simp) fun E => ?_
 show Tri _ E ⟨70, [], []⟩ _ ⟨[(0, .b (.agg (eMUnit u0)))], []⟩ _
 refine Tri.seq (Tri.regionL ?_)
 refine Oc (op_box (k := 101) rfl rfl) (Oc oa ?_)
 refine OpsL.nilS ⟨[(1, Pt 101 0)], [(101, .box 29 (eMUnit u0))]⟩ rfl (Tri.seq (Tri.regionL ?_))
 refine Oc (lp tyAgg29) ?_
 obtain ⟨x_1, e1, h⟩ := bnd h
 refine Oc (op_call0 (skewbackref11_Valid_spec e1) goes33 rfl rfl) (Oc oa ?_)
 refine OpsL.nilS ⟨[(1, Pt 101 0), (3, B x_1)], [(101, .box 29 (eMUnit u0))]⟩ rfl (Tri.seq (Tri.seq (Tri.regionL ?_)))
 refine Oc om (Oc (op_not rfl) ?_)
 refine OpsL.nilS ⟨[(1, Pt 101 0), (12, B (!x_1))], [(101, .box 29 (eMUnit u0))]⟩ rfl (Tri.ite h rfl (fun _ h => ?_) (fun _ h => ?_))
 ·refine Tri.seq (Tri.regionL ?_)
  refine Oc oa (OpsL.nilS ⟨[(2, .b (.one (.str [])))], []⟩ rfl (Tri.ret (Fin.then_ret ?_)))
  obtain rfl := Option.some.inj h
  refine Fin.keepS ⟨[(2, .b (.one (.str [])))], []⟩ rfl (Fin.result' [.one (.str [])] (.inl rfl) rfl (.cons (.tmp rfl) .nil) ⟨rfl, rfl⟩)
 ·refine Tri.skip (Fin.keepS ⟨[(1, Pt 101 0)], [(101, .box 29 (eMUnit u0))]⟩ rfl (Fin.then (Tri.seq (Tri.regionL ?_))))
  refine Oc (op_buildSlice (k := 102) (es := [[109], [107, 103], [115]].map eS) tySl110 rfl rfl (uni_map fun _ => rfl) rfl (by decide) (by decide) rfl) (Oc oa ?_)
  refine OpsL.nilS ⟨[(1, Pt 101 0), (4, .b (.row 102))], [(101, .box 29 (eMUnit u0)), (102, .row 9 1 ([[109], [107, 103], [115]].map eS))]⟩ rfl (Tri.seq (Tri.regionL ?_))
  refine Oc (op_field_p tyFld29_0 rfl rfl) (Oc (op_load_p1 tyOne3 rfl rfl rfl) (Oc (op_field_p tyFld29_1 rfl rfl) (Oc (op_load_p1 tyOne3 rfl rfl rfl) (Oc (op_field_p tyFld29_2 rfl rfl) (Oc (op_load_p1 tyOne3 rfl rfl rfl) ?_)))))
  refine Oc (op_buildSlice (k := 103) (es := [u0.M, u0.Kg, u0.S].map eI) tySl89 rfl rfl (uni_map fun _ => rfl) rfl (by decide) (by decide) rfl) (Oc oa ?_)
  refine OpsL.nilS ⟨[(4, .b (.row 102)), (5, .b (.row 103))], [(102, .row 9 1 ([[109], [107, 103], [115]].map eS)), (103, .row 3 1 ([u0.M, u0.Kg, u0.S].map eI))]⟩ rfl (Tri.seq (Tri.regionL ?_))
  refine Oc oa (OpsL.nilS ⟨[(4, .b (.row 102)), (5, .b (.row 103)), (6, .b (.one (.str [])))], [(102, .row 9 1 ([[109], [107, 103], [115]].map eS)), (103, .row 3 1 ([u0.M, u0.Kg, u0.S].map eI))]⟩ rfl ?_)
  obtain ⟨v2, h3, h⟩ := bnd h
  refine Tri.seqJ (v := v2) (fun (out_2 : Str) => ⟨[(4, .b (.row 102)), (5, .b (.row 103)), (6, .b (.one (.str out_2)))], [(102, .row 9 1 ([[109], [107, 103], [115]].map eS)), (103, .row 3 1 ([u0.M, u0.Kg, u0.S].map eI))]⟩) (fun z => z) ?_ ?_
  ·refine Tri.seq (Tri.regionL ?_)
   refine Oc oa (OpsL.nilS ⟨[(4, .b (.row 102)), (5, .b (.row 103)), (6, .b (.one (.str []))), (7, I 0)], [(102, .row 9 1 ([[109], [107, 103], [115]].map eS)), (103, .row 3 1 ([u0.M, u0.Kg, u0.S].map eI))]⟩ rfl (Tri.block (Tri.loopJ h3 (un2 fun (out_3 : Str) (i_4 : Int) => ⟨[(4, .b (.row 102)), (5, .b (.row 103)), (6, .b (.one (.str out_3))), (7, I i_4)], [(102, .row 9 1 ([[109], [107, 103], [115]].map eS)), (103, .row 3 1 ([u0.M, u0.Kg, u0.S].map eI))]⟩) [4, 5, 6, 7] [102, 103] rfl ?_)))
   rintro ⟨out_3, i_4⟩ o4 h5 hy6
   refine Tri.seq (Tri.seq (Tri.regionL ?_))
   refine Oc om (Oc (op_lss rfl rfl) ?_)
   refine OpsL.nilS ⟨[(4, .b (.row 102)), (5, .b (.row 103)), (6, .b (.one (.str out_3))), (7, I i_4), (22, B (decide (i_4 < 3)))], [(102, .row 9 1 ([[109], [107, 103], [115]].map eS)), (103, .row 3 1 ([u0.M, u0.Kg, u0.S].map eI))]⟩ rfl (Tri.ite h5 rfl (fun _ h5 => ?_) (fun _ h5 => ?_))
   ·refine Tri.skip (Fin.keepS ⟨[(4, .b (.row 102)), (5, .b (.row 103)), (6, .b (.one (.str out_3))), (7, I i_4)], [(102, .row 9 1 ([[109], [107, 103], [115]].map eS)), (103, .row 3 1 ([u0.M, u0.Kg, u0.S].map eI))]⟩ rfl (Fin.then ?_))
    obtain ⟨v7, h8, h5⟩ := bnd h5
    refine Tri.seqJ (v := v7) (fun (out_6 : Str) => ⟨[(4, .b (.row 102)), (5, .b (.row 103)), (6, .b (.one (.str out_6))), (7, I i_4)], [(102, .row 9 1 ([[109], [107, 103], [115]].map eS)), (103, .row 3 1 ([u0.M, u0.Kg, u0.S].map eI))]⟩) (fun z => z) ?_ ?_
    ·refine Tri.block (Tri.seq (Tri.regionL ?_))
     refine Oc om (Oc om ?_)
     obtain ⟨x_7, e9, h8⟩ := bnd h8
     refine Oc (op_index_r tySl89 (ix_lo e9) (ix_lt' e9) rfl rfl rfl rfl) (Oc (op_load_r1 (i := (i_4 : Int).toNat) (f := 0) tyOne3 rfl rfl rfl (ix_map (e := eI) e9) rfl) (Oc (op_gtr rfl rfl) ?_))
     refine OpsL.nilS ⟨[(4, .b (.row 102)), (5, .b (.row 103)), (6, .b (.one (.str out_3))), (7, I i_4), (29, B (decide (0 < x_7)))], [(102, .row 9 1 ([[109], [107, 103], [115]].map eS)), (103, .row 3 1 ([u0.M, u0.Kg, u0.S].map eI))]⟩ rfl (Tri.ite h8 rfl (fun _ h8 => ?_) (fun _ h8 => ?_))
     ·obtain ⟨v10, h11, h8⟩ := bnd h8
      refine Tri.seqJ (v := v10) (fun (out_8 : Str) => ⟨[(4, .b (.row 102)), (5, .b (.row 103)), (6, .b (.one (.str out_8))), (7, I i_4)], [(102, .row 9 1 ([[109], [107, 103], [115]].map eS)), (103, .row 3 1 ([u0.M, u0.Kg, u0.S].map eI))]⟩) (fun z => z) ?_ ?_
      ·refine Tri.seq (Tri.regionL ?_)
       refine Oc om (Oc (op_neq_str rfl rfl) ?_)
       refine OpsL.nilS ⟨[(4, .b (.row 102)), (5, .b (.row 103)), (6, .b (.one (.str out_3))), (7, I i_4), (31, B (decide (out_3 ≠ [])))], [(102, .row 9 1 ([[109], [107, 103], [115]].map eS)), (103, .row 3 1 ([u0.M, u0.Kg, u0.S].map eI))]⟩ rfl (Tri.ite h11 rfl (fun _ h11 => ?_) (fun _ h11 => ?_))
       ·refine Tri.regionL (Oc om ?_)
        obtain ⟨x_9, e12, h11⟩ := bnd h11
        refine Oc (op_add_str2 e12 rfl rfl) (Oc oa ?_)
        refine OpsL.nil ?_
        exact Fin.join [4, 5, 6, 7] [102, 103] x_9 (Option.some.inj h11) rfl
       ·refine Tri.skip ?_
        exact Fin.join [4, 5, 6, 7] [102, 103] out_3 (Option.some.inj h11) rfl
      ·rintro out_8 hv
       subst v10
       refine Tri.keepS ⟨[(4, .b (.row 102)), (5, .b (.row 103)), (6, .b (.one (.str out_8))), (7, I i_4)], [(102, .row 9 1 ([[109], [107, 103], [115]].map eS)), (103, .row 3 1 ([u0.M, u0.Kg, u0.S].map eI))]⟩ rfl ?_
       obtain ⟨x_10, e13, h8⟩ := bnd h8
       obtain ⟨x_11, e14, h8⟩ := bnd h8
       obtain ⟨x_12, e15, h8⟩ := bnd h8
       obtain ⟨x_13, e16, h8⟩ := bnd h8
       refine Tri.regionYF mixed 11 [.b (.one (.str out_8)), .b (.row 102), I i_4, .b (.rptr 102 ((i_4 : Int).toNat * 1)), .b (.one (.str x_10)), .b (.row 103), I i_4, .b (.rptr 103 ((i_4 : Int).toNat * 1)), I x_11, .b (.one (.str x_12)), .b (.one (.str x_13))] [4, 5, 6, 7] [102, 103] (s' := ⟨[(4, .b (.row 102)), (5, .b (.row 103)), (6, .b (.one (.str x_13))), (7, I i_4)], [(102, .row 9 1 ([[109], [107, 103], [115]].map eS)), (103, .row 3 1 ([u0.M, u0.Kg, u0.S].map eI))]⟩) rfl ⟨fun _ => .p om, fun _ => .p om, fun _ => .p om, fun _ => .p (op_index_r tySl110 (ix_lo e13) (ix_lt' e13) rfl rfl rfl rfl), fun _ => .p (op_load_r1 (i := (i_4 : Int).toNat) (f := 0) tyOne9 rfl rfl rfl (ix_map (e := eS) e13) rfl), fun _ => .p om, fun _ => .p om, fun _ => .p (op_index_r tySl89 (ix_lo e14) (ix_lt' e14) rfl rfl rfl rfl), fun _ => .p (op_load_r1 (i := (i_4 : Int).toNat) (f := 0) tyOne3 rfl rfl rfl (ix_map (e := eI) e14) rfl), fun _ => .p (op_call0 (skewbackref11_power_spec e15) goes86 rfl rfl), fun _ => .p (op_add_str2 e16 rfl rfl), trivial⟩ ⟨_, by exact .p oa, rfl⟩ rfl (Fin.block_normal ?_)
       exact Fin.join [4, 5, 6, 7] [102, 103] x_13 (Option.some.inj h8) rfl
     ·refine Tri.skip (Fin.block_normal ?_)
      exact Fin.join [4, 5, 6, 7] [102, 103] out_3 (Option.some.inj h8) rfl
    ·rintro out_6 hv
     subst v7
     refine Tri.regionL (Oc om (Oc (op_add rfl rfl) (Oc oa ?_)))
     refine OpsL.nil ?_
     exact Fin.againJ [4, 5, 6, 7] [102, 103] (out_6, IntKind.i64.wrap (i_4 + 1)) (Option.some.inj h5) rfl
   ·refine Tri.exit (Fin.then_exit ?_)
    obtain rfl := hy6 _ (Option.some.inj h5).symm
    refine Fin.then_exit (Fin.block_exit ?_)
    exact Fin.join [4, 5, 6] [102, 103] out_3 rfl rfl
  ·rintro out_2 hv
   subst v2
   obtain ⟨v17, h18, h⟩ := bnd h
   refine Tri.seqJ (v := v17) (fun (out_14 : Str) => ⟨[(4, .b (.row 102)), (5, .b (.row 103)), (6, .b (.one (.str out_14)))], [(102, .row 9 1 ([[109], [107, 103], [115]].map eS)), (103, .row 3 1 ([u0.M, u0.Kg, u0.S].map eI))]⟩) (fun z => z) ?_ ?_
   ·refine Tri.seq (Tri.regionL ?_)
    refine Oc om (Oc (op_eql_str rfl rfl) ?_)
    refine OpsL.nilS ⟨[(4, .b (.row 102)), (5, .b (.row 103)), (6, .b (.one (.str out_2))), (46, B (decide (out_2 = [])))], [(102, .row 9 1 ([[109], [107, 103], [115]].map eS)), (103, .row 3 1 ([u0.M, u0.Kg, u0.S].map eI))]⟩ rfl (Tri.ite h18 rfl (fun _ h18 => ?_) (fun _ h18 => ?_))
    ·refine Tri.regionL (Oc oa (OpsL.nil ?_))
     exact Fin.join [4, 5, 6] [102, 103] [49] (Option.some.inj h18) rfl
    ·refine Tri.skip ?_
     exact Fin.join [4, 5, 6] [102, 103] out_2 (Option.some.inj h18) rfl
   ·rintro out_14 hv
    subst v17
    obtain ⟨v19, h20, h⟩ := bnd h
    refine Tri.seqJ (v := v19) (fun (out_15 : Str) => ⟨[(6, .b (.one (.str out_15)))], []⟩) (fun z => z) ?_ ?_
    ·refine Tri.seq (Tri.regionL ?_)
     refine Oc oa (OpsL.nilS ⟨[(4, .b (.row 102)), (5, .b (.row 103)), (6, .b (.one (.str out_14))), (8, I 0)], [(102, .row 9 1 ([[109], [107, 103], [115]].map eS)), (103, .row 3 1 ([u0.M, u0.Kg, u0.S].map eI))]⟩ rfl (Tri.block (Tri.loopJ h20 (un2 fun (out_16 : Str) (i_17 : Int) => ⟨[(4, .b (.row 102)), (5, .b (.row 103)), (6, .b (.one (.str out_16))), (8, I i_17)], [(102, .row 9 1 ([[109], [107, 103], [115]].map eS)), (103, .row 3 1 ([u0.M, u0.Kg, u0.S].map eI))]⟩) [4, 5, 6, 8] [102, 103] rfl ?_)))
     rintro ⟨out_16, i_17⟩ o21 h22 hy23
     refine Tri.seq (Tri.seq (Tri.regionL ?_))
     refine Oc om (Oc (op_lss rfl rfl) ?_)
     refine OpsL.nilS ⟨[(4, .b (.row 102)), (5, .b (.row 103)), (6, .b (.one (.str out_16))), (8, I i_17), (48, B (decide (i_17 < 3)))], [(102, .row 9 1 ([[109], [107, 103], [115]].map eS)), (103, .row 3 1 ([u0.M, u0.Kg, u0.S].map eI))]⟩ rfl (Tri.ite h22 rfl (fun _ h22 => ?_) (fun _ h22 => ?_))
     ·refine Tri.skip (Fin.keepS ⟨[(4, .b (.row 102)), (5, .b (.row 103)), (6, .b (.one (.str out_16))), (8, I i_17)], [(102, .row 9 1 ([[109], [107, 103], [115]].map eS)), (103, .row 3 1 ([u0.M, u0.Kg, u0.S].map eI))]⟩ rfl (Fin.then ?_))
      obtain ⟨v24, h25, h22⟩ := bnd h22
      refine Tri.seqJ (v := v24) (fun (out_19 : Str) => ⟨[(4, .b (.row 102)), (5, .b (.row 103)), (6, .b (.one (.str out_19))), (8, I i_17)], [(102, .row 9 1 ([[109], [107, 103], [115]].map eS)), (103, .row 3 1 ([u0.M, u0.Kg, u0.S].map eI))]⟩) (fun z => z) ?_ ?_
      ·refine Tri.block (Tri.seq (Tri.regionL ?_))
       refine Oc om (Oc om ?_)
       obtain ⟨x_20, e26, h25⟩ := bnd h25
       refine Oc (op_index_r tySl89 (ix_lo e26) (ix_lt' e26) rfl rfl rfl rfl) (Oc (op_load_r1 (i := (i_17 : Int).toNat) (f := 0) tyOne3 rfl rfl rfl (ix_map (e := eI) e26) rfl) (Oc (op_lss rfl rfl) ?_))
       refine OpsL.nilS ⟨[(4, .b (.row 102)), (5, .b (.row 103)), (6, .b (.one (.str out_16))), (8, I i_17), (55, B (decide (x_20 < 0)))], [(102, .row 9 1 ([[109], [107, 103], [115]].map eS)), (103, .row 3 1 ([u0.M, u0.Kg, u0.S].map eI))]⟩ rfl (Tri.ite h25 rfl (fun _ h25 => ?_) (fun _ h25 => ?_))
       ·refine Tri.keepS ⟨[(4, .b (.row 102)), (5, .b (.row 103)), (6, .b (.one (.str out_16))), (8, I i_17)], [(102, .row 9 1 ([[109], [107, 103], [115]].map eS)), (103, .row 3 1 ([u0.M, u0.Kg, u0.S].map eI))]⟩ rfl ?_
        obtain ⟨x_21, e27, h25⟩ := bnd h25
        obtain ⟨x_22, e28, h25⟩ := bnd h25
        obtain ⟨x_23, e29, h25⟩ := bnd h25
        obtain ⟨x_24, e30, h25⟩ := bnd h25
        obtain ⟨x_25, e31, h25⟩ := bnd h25
        refine Tri.regionYF mixed 13 [.b (.one (.str out_16)), .b (.one (.str x_21)), .b (.row 102), I i_17, .b (.rptr 102 ((i_17 : Int).toNat * 1)), .b (.one (.str x_22)), .b (.row 103), I i_17, .b (.rptr 103 ((i_17 : Int).toNat * 1)), I x_23, I (IntKind.i64.wrap (-x_23)), .b (.one (.str x_24)), .b (.one (.str x_25))] [4, 5, 6, 8] [102, 103] (s' := ⟨[(4, .b (.row 102)), (5, .b (.row 103)), (6, .b (.one (.str x_25))), (8, I i_17)], [(102, .row 9 1 ([[109], [107, 103], [115]].map eS)), (103, .row 3 1 ([u0.M, u0.Kg, u0.S].map eI))]⟩) rfl ⟨fun _ => .p om, fun _ => .p (op_add_str2 e27 rfl rfl), fun _ => .p om, fun _ => .p om, fun _ => .p (op_index_r tySl110 (ix_lo e28) (ix_lt' e28) rfl rfl rfl rfl), fun _ => .p (op_load_r1 (i := (i_17 : Int).toNat) (f := 0) tyOne9 rfl rfl rfl (ix_map (e := eS) e28) rfl), fun _ => .p om, fun _ => .p om, fun _ => .p (op_index_r tySl89 (ix_lo e29) (ix_lt' e29) rfl rfl rfl rfl), fun _ => .p (op_load_r1 (i := (i_17 : Int).toNat) (f := 0) tyOne3 rfl rfl rfl (ix_map (e := eI) e29) rfl), fun _ => .p (op_neg rfl), fun _ => .p (op_call0 (skewbackref11_power_spec e30) goes86 rfl rfl), fun _ => .p (op_add_str2 e31 rfl rfl), trivial⟩ ⟨_, by exact .p oa, rfl⟩ rfl (Fin.block_normal ?_)
        exact Fin.join [4, 5, 6, 8] [102, 103] x_25 (Option.some.inj h25) rfl
       ·refine Tri.skip (Fin.block_normal ?_)
        exact Fin.join [4, 5, 6, 8] [102, 103] out_16 (Option.some.inj h25) rfl
      ·rintro out_19 hv
       subst v24
       refine Tri.regionL (Oc om (Oc (op_add rfl rfl) (Oc oa ?_)))
       refine OpsL.nil ?_
       exact Fin.againJ [4, 5, 6, 8] [102, 103] (out_19, IntKind.i64.wrap (i_17 + 1)) (Option.some.inj h22) rfl
     ·refine Tri.exit (Fin.then_exit ?_)
      obtain rfl := hy23 _ (Option.some.inj h22).symm
      refine Fin.then_exit (Fin.block_exit ?_)
      exact Fin.join [6] [] out_16 rfl rfl
    ·rintro out_15 hv
     subst v19
     refine Tri.seq (Tri.regionL ?_)
     refine Oc om (Oc oa ?_)
     refine OpsL.nilS ⟨[(2, .b (.one (.str out_15)))], []⟩ rfl (Tri.ret ?_)
     obtain rfl := Option.some.inj h
     refine Fin.keepS ⟨[(2, .b (.one (.str out_15)))], []⟩ rfl (Fin.result' [.one (.str out_15)] (.inl rfl) rfl (.cons (.tmp rfl) .nil) ⟨rfl, rfl⟩)
def skewbacklaw11_UnitComputesAsSpecified_S (F : Nat) (u0 : MUnit) (v0 : MUnit) (n0 : Int) : Option Bool :=
 Option.bind (unit_Mul_S F u0 v0) (un2 fun x_1 x_2 => Option.bind (unit_Div_S F u0 v0) (un2 fun x_3 x_4 => Option.bind (unit_Pow_S F u0 n0) (un2 fun x_5 x_6 => (skewbackref11_Mul_S F u0 v0).bind fun x_7 => (skewbackref11_Div_S F u0 v0).bind fun x_8 => (skewbackref11_Pow_S F u0 n0).bind fun x_9 => (skewbacklaw11_sanity_S F).bind fun x_10 => (gcall ((((((x_10 && (decide (x_1 = x_7.U))) && (decide (x_2 = x_7.E))) && (decide (x_3 = x_8.U))) && (decide (x_4 = x_8.E))) && (decide (x_5 = x_9.U))) && (decide (x_6 = x_9.E))) (unit_Valid_S F u0)).bind fun x_11 => (gcall ((((((x_10 && (decide (x_1 = x_7.U))) && (decide (x_2 = x_7.E))) && (decide (x_3 = x_8.U))) && (decide (x_4 = x_8.E))) && (decide (x_5 = x_9.U))) && (decide (x_6 = x_9.E))) (skewbackref11_Valid_S F u0)).bind fun x_12 => (gcall (((((((x_10 && (decide (x_1 = x_7.U))) && (decide (x_2 = x_7.E))) && (decide (x_3 = x_8.U))) && (decide (x_4 = x_8.E))) && (decide (x_5 = x_9.U))) && (decide (x_6 = x_9.E))) && (x_11 == x_12)) (unit_Print_S F u0)).bind fun x_13 => (gcall (((((((x_10 && (decide (x_1 = x_7.U))) && (decide (x_2 = x_7.E))) && (decide (x_3 = x_8.U))) && (decide (x_4 = x_8.E))) && (decide (x_5 = x_9.U))) && (decide (x_6 = x_9.E))) && (x_11 == x_12)) (skewbackref11_Print_S F u0)).bind fun x_14 => some ((((((((x_10 && (decide (x_1 = x_7.U))) && (decide (x_2 = x_7.E))) && (decide (x_3 = x_8.U))) && (decide (x_4 = x_8.E))) && (decide (x_5 = x_9.U))) && (decide (x_6 = x_9.E))) && (x_11 == x_12)) && (decide (x_13 = x_14))))))
theorem skewbacklaw11_UnitComputesAsSpecified_spec {F : Nat} {u0 : MUnit} {v0 : MUnit} {n0 : Int} {r : Bool} (h : skewbacklaw11_UnitComputesAsSpecified_S F u0 v0 n0 = some r) : Meets Tryz.prog (tabs mx) 6 [] [.agg (eMUnit u0), .agg (eMUnit v0), .one (.i n0)] (Is [] (.b (.one (.bool r)))) := by
 unfold skewbacklaw11_UnitComputesAsSpecified_S at h
 refine Meets.intro 94 Tryz.func6 Tryz.ntmps6 rfl (by simp) fun E => ?_
 show Tri _ E ⟨94, [], []⟩ _ ⟨[(0, .b (.agg (eMUnit u0))), (1, .b (.agg (eMUnit v0))), (2, I n0)], []⟩ _
 refine Tri.seq (Tri.regionL ?_)
 refine Oc (op_box (k := 101) rfl rfl) (Oc (op_box (k := 102) rfl rfl) (Oc oa ?_))
 refine OpsL.nilS ⟨[(2, I n0), (3, Pt 101 0), (4, Pt 102 0)], [(101, .box 29 (eMUnit u0)), (102, .box 29 (eMUnit v0))]⟩ rfl (Tri.seq (Tri.regionL ?_))
 refine Oc (lp tyAgg29) (Oc (lp tyAgg29) ?_)
 obtain ⟨⟨x_1, x_2⟩, e1, h⟩ := bnd h
 refine Oc (op_call0 (unit_Mul_spec e1) goes26 rfl rfl) (Oc om (Oc (op_extract rfl rfl) ?_))
 refine OpsL.keepS ⟨[(2, I n0), (3, Pt 101 0), (4, Pt 102 0), (16, .tup [.agg (eMUnit x_1), .one (.i x_2)]), (20, .b (.agg (eMUnit x_1)))], [(101, .box 29 (eMUnit u0)), (102, .box 29 (eMUnit v0))]⟩ rfl (Oc (op_extract rfl rfl) (Oc (op_alloc (k := 103) tyZero29 rfl) (Oc (op_store_p tyAgg29 rfl rfl rfl rfl (Nat.le_of_ble_eq_true rfl) rfl) (Oc oa ?_))))
 refine OpsL.nilS ⟨[(2, I n0), (3, Pt 101 0), (4, Pt 102 0), (7, Pt 103 0), (8, I x_2)], [(101, .box 29 (eMUnit u0)), (102, .box 29 (eMUnit v0)), (103, .box 29 (eMUnit x_1))]⟩ rfl (Tri.seq (Tri.regionL ?_))
 refine Oc (lp tyAgg29) (Oc (lp tyAgg29) ?_)
 obtain ⟨⟨x_3, x_4⟩, e2, h⟩ := bnd h
 refine Oc (op_call0 (unit_Div_spec e2) goes27 rfl rfl) (Oc om (Oc (op_extract rfl rfl) ?_))
 refine OpsL.keepS ⟨[(2, I n0), (3, Pt 101 0), (4, Pt 102 0), (7, Pt 103 0), (8, I x_2), (22, .tup [.agg (eMUnit x_3), .one (.i x_4)]), (26, .b (.agg (eMUnit x_3)))], [(101, .box 29 (eMUnit u0)), (102, .box 29 (eMUnit v0)), (103, .box 29 (eMUnit x_1))]⟩ rfl (Oc (op_extract rfl rfl) (Oc (op_alloc (k := 104) tyZero29 rfl) (Oc (op_store_p tyAgg29 rfl rfl rfl rfl (Nat.le_of_ble_eq_true rfl) rfl) (Oc oa ?_))))
 refine OpsL.nilS ⟨[(2, I n0), (3, Pt 101 0), (4, Pt 102 0), (7, Pt 103 0), (8, I x_2), (9, Pt 104 0), (10, I x_4)], [(101, .box 29 (eMUnit u0)), (102, .box 29 (eMUnit v0)), (103, .box 29 (eMUnit x_1)), (104, .box 29 (eMUnit x_3))]⟩ rfl (Tri.seq (Tri.regionL ?_))
 refine Oc (lp tyAgg29) (Oc om ?_)
 obtain ⟨⟨x_5, x_6⟩, e3, h⟩ := bnd h
 refine Oc (op_call0 (unit_Pow_spec e3) goes28 rfl rfl) (Oc om (Oc (op_extract rfl rfl) ?_))
 refine OpsL.keepS ⟨[(2, I n0), (3, Pt 101 0), (4, Pt 102 0), (7, Pt 103 0), (8, I x_2), (9, Pt 104 0), (10, I x_4), (28, .tup [.agg (eMUnit x_5), .one (.i x_6)]), (32, .b (.agg (eMUnit x_5)))], [(101, .box 29 (eMUnit u0)), (102, .box 29 (eMUnit v0)), (103, .box 29 (eMUnit x_1)), (104, .box 29 (eMUnit x_3))]⟩ rfl (Oc (op_extract rfl rfl) (Oc (op_alloc (k := 105) tyZero29 rfl) (Oc (op_store_p tyAgg29 rfl rfl rfl rfl (Nat.le_of_ble_eq_true rfl) rfl) (Oc oa ?_))))
 refine OpsL.nilS ⟨[(2, I n0), (3, Pt 101 0), (4, Pt 102 0), (7, Pt 103 0), (8, I x_2), (9, Pt 104 0), (10, I x_4), (11, Pt 105 0), (12, I x_6)], [(101, .box 29 (eMUnit u0)), (102, .box 29 (eMUnit v0)), (103, .box 29 (eMUnit x_1)), (104, .box 29 (eMUnit x_3)), (105, .box 29 (eMUnit x_5))]⟩ rfl (Tri.seq (Tri.regionL ?_))
 refine Oc (lp tyAgg29) (Oc (lp tyAgg29) ?_)
 obtain ⟨x_7, e4, h⟩ := bnd h
 refine Oc (op_call0 (skewbackref11_Mul_spec e4) goes29 rfl rfl) (Oc (op_alloc (k := 106) tyZero57 rfl) (Oc (op_store_p tyAgg57 rfl rfl rfl rfl (Nat.le_of_ble_eq_true rfl) rfl) ?_))
 refine OpsL.nilS ⟨[(2, I n0), (3, Pt 101 0), (4, Pt 102 0), (7, Pt 103 0), (8, I x_2), (9, Pt 104 0), (10, I x_4), (11, Pt 105 0), (12, I x_6), (13, Pt 106 0)], [(101, .box 29 (eMUnit u0)), (102, .box 29 (eMUnit v0)), (103, .box 29 (eMUnit x_1)), (104, .box 29 (eMUnit x_3)), (105, .box 29 (eMUnit x_5)), (106, .box 57 (eMade x_7))]⟩ rfl (Tri.seq (Tri.regionL ?_))
 refine Oc (lp tyAgg29) (Oc (lp tyAgg29) ?_)
 obtain ⟨x_8, e5, h⟩ := bnd h
 refine Oc (op_call0 (skewbackref11_Div_spec e5) goes30 rfl rfl) (Oc (op_alloc (k := 107) tyZero57 rfl) (Oc (op_store_p tyAgg57 rfl rfl rfl rfl (Nat.le_of_ble_eq_true rfl) rfl) ?_))
 refine OpsL.nilS ⟨[(2, I n0), (3, Pt 101 0), (7, Pt 103 0), (8, I x_2), (9, Pt 104 0), (10, I x_4), (11, Pt 105 0), (12, I x_6), (13, Pt 106 0), (14, Pt 107 0)], [(101, .box 29 (eMUnit u0)), (103, .box 29 (eMUnit x_1)), (104, .box 29 (eMUnit x_3)), (105, .box 29 (eMUnit x_5)), (106, .box 57 (eMade x_7)), (107, .box 57 (eMade x_8))]⟩ rfl (Tri.seq (Tri.regionL ?_))
 refine Oc (lp tyAgg29) (Oc om ?_)
 obtain ⟨x_9, e6, h⟩ := bnd h
 refine Oc (op_call0 (skewbackref11_Pow_spec e6) goes31 rfl rfl) (Oc (op_alloc (k := 108) tyZero57 rfl) (Oc (op_store_p tyAgg57 rfl rfl rfl rfl (Nat.le_of_ble_eq_true rfl) rfl) ?_))
 refine OpsL.nilS ⟨[(3, Pt 101 0), (7, Pt 103 0), (8, I x_2), (9, Pt 104 0), (10, I x_4), (11, Pt 105 0), (12, I x_6), (13, Pt 106 0), (14, Pt 107 0), (15, Pt 108 0)], [(101, .box 29 (eMUnit u0)), (103, .box 29 (eMUnit x_1)), (104, .box 29 (eMUnit x_3)), (105, .box 29 (eMUnit x_5)), (106, .box 57 (eMade x_7)), (107, .box 57 (eMade x_8)), (108, .box 57 (eMade x_9))]⟩ rfl (Tri.seq ?_)
 obtain ⟨x_10, e7, h⟩ := bnd h
 obtain ⟨x_11, e34, h⟩ := bnd h
 obtain ⟨x_12, e37, h⟩ := bnd h
 obtain ⟨x_13, e41, h⟩ := bnd h
 obtain ⟨x_14, e44, h⟩ := bnd h
 refine Tri.regionY mixed 52 [B x_10, B x_10, .opt x_10 (.agg (eMUnit x_1)), .opt x_10 (.ptr 106 0), .opt x_10 (.agg (eMUnit x_7.U)), .opt x_10 (.one (.bool (decide (x_1 = x_7.U)))), B (x_10 && (decide (x_1 = x_7.U))), B (x_10 && (decide (x_1 = x_7.U))), .opt (x_10 && (decide (x_1 = x_7.U))) (.one (.i x_2)), .opt (x_10 && (decide (x_1 = x_7.U))) (.ptr 106 3), .opt (x_10 && (decide (x_1 = x_7.U))) (.one (.i x_7.E)), .opt (x_10 && (decide (x_1 = x_7.U))) (.one (.bool (decide (x_2 = x_7.E)))), B ((x_10 && (decide (x_1 = x_7.U))) && (decide (x_2 = x_7.E))), B ((x_10 && (decide (x_1 = x_7.U))) && (decide (x_2 = x_7.E))), .opt ((x_10 && (decide (x_1 = x_7.U))) && (decide (x_2 = x_7.E))) (.agg (eMUnit x_3)), .opt ((x_10 && (decide (x_1 = x_7.U))) && (decide (x_2 = x_7.E))) (.ptr 107 0), .opt ((x_10 && (decide (x_1 = x_7.U))) && (decide (x_2 = x_7.E))) (.agg (eMUnit x_8.U)), .opt ((x_10 && (decide (x_1 = x_7.U))) && (decide (x_2 = x_7.E))) (.one (.bool (decide (x_3 = x_8.U)))), B (((x_10 && (decide (x_1 = x_7.U))) && (decide (x_2 = x_7.E))) && (decide (x_3 = x_8.U))), B (((x_10 && (decide (x_1 = x_7.U))) && (decide (x_2 = x_7.E))) && (decide (x_3 = x_8.U))), .opt (((x_10 && (decide (x_1 = x_7.U))) && (decide (x_2 = x_7.E))) && (decide (x_3 = x_8.U))) (.one (.i x_4)), .opt (((x_10 && (decide (x_1 = x_7.U))) && (decide (x_2 = x_7.E))) && (decide (x_3 = x_8.U))) (.ptr 107 3), .opt (((x_10 && (decide (x_1 = x_7.U))) && (decide (x_2 = x_7.E))) && (decide (x_3 = x_8.U))) (.one (.i x_8.E)), .opt (((x_10 && (decide (x_1 = x_7.U))) && (decide (x_2 = x_7.E))) && (decide (x_3 = x_8.U))) (.one (.bool (decide (x_4 = x_8.E)))), B ((((x_10 && (decide (x_1 = x_7.U))) && (decide (x_2 = x_7.E))) && (decide (x_3 = x_8.U))) && (decide (x_4 = x_8.E))), B ((((x_10 && (decide (x_1 = x_7.U))) && (decide (x_2 = x_7.E))) && (decide (x_3 = x_8.U))) && (decide (x_4 = x_8.E))), .opt ((((x_10 && (decide (x_1 = x_7.U))) && (decide (x_2 = x_7.E))) && (decide (x_3 = x_8.U))) && (decide (x_4 = x_8.E))) (.agg (eMUnit x_5)), .opt ((((x_10 && (decide (x_1 = x_7.U))) && (decide (x_2 = x_7.E))) && (decide (x_3 = x_8.U))) && (decide (x_4 = x_8.E))) (.ptr 108 0), .opt ((((x_10 && (decide (x_1 = x_7.U))) && (decide (x_2 = x_7.E))) && (decide (x_3 = x_8.U))) && (decide (x_4 = x_8.E))) (.agg (eMUnit x_9.U)), .opt ((((x_10 && (decide (x_1 = x_7.U))) && (decide (x_2 = x_7.E))) && (decide (x_3 = x_8.U))) && (decide (x_4 = x_8.E))) (.one (.bool (decide (x_5 = x_9.U)))), B (((((x_10 && (decide (x_1 = x_7.U))) && (decide (x_2 = x_7.E))) && (decide (x_3 = x_8.U))) && (decide (x_4 = x_8.E))) && (decide (x_5 = x_9.U))), B (((((x_10 && (decide (x_1 = x_7.U))) && (decide (x_2 = x_7.E))) && (decide (x_3 = x_8.U))) && (decide (x_4 = x_8.E))) && (decide (x_5 = x_9.U))), .opt (((((x_10 && (decide (x_1 = x_7.U))) && (decide (x_2 = x_7.E))) && (decide (x_3 = x_8.U))) && (decide (x_4 = x_8.E))) && (decide (x_5 = x_9.U))) (.one (.i x_6)), .opt (((((x_10 && (decide (x_1 = x_7.U))) && (decide (x_2 = x_7.E))) && (decide (x_3 = x_8.U))) && (decide (x_4 = x_8.E))) && (decide (x_5 = x_9.U))) (.ptr 108 3), .opt (((((x_10 && (decide (x_1 = x_7.U))) && (decide (x_2 = x_7.E))) && (decide (x_3 = x_8.U))) && (decide (x_4 = x_8.E))) && (decide (x_5 = x_9.U))) (.one (.i x_9.E)), .opt (((((x_10 && (decide (x_1 = x_7.U))) && (decide (x_2 = x_7.E))) && (decide (x_3 = x_8.U))) && (decide (x_4 = x_8.E))) && (decide (x_5 = x_9.U))) (.one (.bool (decide (x_6 = x_9.E)))), B ((((((x_10 && (decide (x_1 = x_7.U))) && (decide (x_2 = x_7.E))) && (decide (x_3 = x_8.U))) && (decide (x_4 = x_8.E))) && (decide (x_5 = x_9.U))) && (decide (x_6 = x_9.E))), B ((((((x_10 && (decide (x_1 = x_7.U))) && (decide (x_2 = x_7.E))) && (decide (x_3 = x_8.U))) && (decide (x_4 = x_8.E))) && (decide (x_5 = x_9.U))) && (decide (x_6 = x_9.E))), .opt ((((((x_10 && (decide (x_1 = x_7.U))) && (decide (x_2 = x_7.E))) && (decide (x_3 = x_8.U))) && (decide (x_4 = x_8.E))) && (decide (x_5 = x_9.U))) && (decide (x_6 = x_9.E))) (.agg (eMUnit u0)), .opt ((((((x_10 && (decide (x_1 = x_7.U))) && (decide (x_2 = x_7.E))) && (decide (x_3 = x_8.U))) && (decide (x_4 = x_8.E))) && (decide (x_5 = x_9.U))) && (decide (x_6 = x_9.E))) (.one (.bool x_11)), .opt ((((((x_10 && (decide (x_1 = x_7.U))) && (decide (x_2 = x_7.E))) && (decide (x_3 = x_8.U))) && (decide (x_4 = x_8.E))) && (decide (x_5 = x_9.U))) && (decide (x_6 = x_9.E))) (.agg (eMUnit u0)), .opt ((((((x_10 && (decide (x_1 = x_7.U))) && (decide (x_2 = x_7.E))) && (decide (x_3 = x_8.U))) && (decide (x_4 = x_8.E))) && (decide (x_5 = x_9.U))) && (decide (x_6 = x_9.E))) (.one (.bool x_12)), .opt ((((((x_10 && (decide (x_1 = x_7.U))) && (decide (x_2 = x_7.E))) && (decide (x_3 = x_8.U))) && (decide (x_4 = x_8.E))) && (decide (x_5 = x_9.U))) && (decide (x_6 = x_9.E))) (.one (.bool (x_11 == x_12))), B (((((((x_10 && (decide (x_1 = x_7.U))) && (decide (x_2 = x_7.E))) && (decide (x_3 = x_8.U))) && (decide (x_4 = x_8.E))) && (decide (x_5 = x_9.U))) && (decide (x_6 = x_9.E))) && (x_11 == x_12)), B (((((((x_10 && (decide (x_1 = x_7.U))) && (decide (x_2 = x_7.E))) && (decide (x_3 = x_8.U))) && (decide (x_4 = x_8.E))) && (decide (x_5 = x_9.U))) && (decide (x_6 = x_9.E))) && (x_11 == x_12)), .opt (((((((x_10 && (decide (x_1 = x_7.U))) && (decide (x_2 = x_7.E))) && (decide (x_3 = x_8.U))) && (decide (x_4 = x_8.E))) && (decide (x_5 = x_9.U))) && (decide (x_6 = x_9.E))) && (x_11 == x_12)) (.agg (eMUnit u0)), .opt (((((((x_10 && (decide (x_1 = x_7.U))) && (decide (x_2 = x_7.E))) && (decide (x_3 = x_8.U))) && (decide (x_4 = x_8.E))) && (decide (x_5 = x_9.U))) && (decide (x_6 = x_9.E))) && (x_11 == x_12)) (.one (.str x_13)), .opt (((((((x_10 && (decide (x_1 = x_7.U))) && (decide (x_2 = x_7.E))) && (decide (x_3 = x_8.U))) && (decide (x_4 = x_8.E))) && (decide (x_5 = x_9.U))) && (decide (x_6 = x_9.E))) && (x_11 == x_12)) (.agg (eMUnit u0)), .opt (((((((x_10 && (decide (x_1 = x_7.U))) && (decide (x_2 = x_7.E))) && (decide (x_3 = x_8.U))) && (decide (x_4 = x_8.E))) && (decide (x_5 = x_9.U))) && (decide (x_6 = x_9.E))) && (x_11 == x_12)) (.one (.str x_14)), .opt (((((((x_10 && (decide (x_1 = x_7.U))) && (decide (x_2 = x_7.E))) && (decide (x_3 = x_8.U))) && (decide (x_4 = x_8.E))) && (decide (x_5 = x_9.U))) && (decide (x_6 = x_9.E))) && (x_11 == x_12)) (.one (.bool (decide (x_13 = x_14)))), B ((((((((x_10 && (decide (x_1 = x_7.U))) && (decide (x_2 = x_7.E))) && (decide (x_3 = x_8.U))) && (decide (x_4 = x_8.E))) && (decide (x_5 = x_9.U))) && (decide (x_6 = x_9.E))) && (x_11 == x_12)) && (decide (x_13 = x_14))), B ((((((((x_10 && (decide (x_1 = x_7.U))) && (decide (x_2 = x_7.E))) && (decide (x_3 = x_8.U))) && (decide (x_4 = x_8.E))) && (decide (x_5 = x_9.U))) && (decide (x_6 = x_9.E))) && (x_11 == x_12)) && (decide (x_13 = x_14)))] [6] [] (s' := ⟨[(6, B ((((((((x_10 && (decide (x_1 = x_7.U))) && (decide (x_2 = x_7.E))) && (decide (x_3 = x_8.U))) && (decide (x_4 = x_8.E))) && (decide (x_5 = x_9.U))) && (decide (x_6 = x_9.E))) && (x_11 == x_12)) && (decide (x_13 = x_14))))], []⟩) rfl ⟨fun _ => .p (op_call0 (skewbacklaw11_sanity_spec e7) goes10 rfl rfl), fun _ => .p om, fun _ => by exact .guard x_10 1 [] (.plain rfl) (eq_t _) rfl rfl (fun g8 => trivial) (fun g8 => lp tyAgg29), fun _ => by exact .guard x_10 1 [] (.plain rfl) (eq_t _) rfl rfl (fun g9 => trivial) (fun g9 => op_field_p tyFld57_0 rfl rfl), fun _ => by exact .guard x_10 2 [46] (.plain rfl) (eq_t _) rfl rfl (fun g10 => ⟨g10, trivial⟩) (fun g10 => lp tyAgg29), fun _ => by exact .guard x_10 3 [45, 47] (.plain rfl) (eq_t _) rfl rfl (fun g11 => ⟨g11, g11, trivial⟩) (fun g11 => op_eql_agg (eqAgg29 x_1 x_7.U) rfl rfl), fun _ => .p (op_pick_and (fun e => e) rfl rfl rfl rfl), fun _ => .p om, fun _ => by exact .guard (x_10 && (decide (x_1 = x_7.U))) 1 [] (.plain rfl) (eq_t _) rfl rfl (fun g12 => trivial) (fun g12 => om), fun _ => by exact .guard (x_10 && (decide (x_1 = x_7.U))) 1 [] (.plain rfl) (eq_t _) rfl rfl (fun g13 => trivial) (fun g13 => op_field_p tyFld57_1 rfl rfl), fun _ => by exact .guard (x_10 && (decide (x_1 = x_7.U))) 2 [52] (.plain rfl) (eq_t _) rfl rfl (fun g14 => ⟨g14, trivial⟩) (fun g14 => op_load_p1 tyOne33 rfl rfl rfl), fun _ => by exact .guard (x_10 && (decide (x_1 = x_7.U))) 3 [51, 53] (.plain rfl) (eq_t _) rfl rfl (fun g15 => ⟨g15, g15, trivial⟩) (fun g15 => op_eql rfl rfl), fun _ => .p (op_pick_and (fun e => e) rfl rfl rfl rfl), fun _ => .p om, fun _ => by exact .guard ((x_10 && (decide (x_1 = x_7.U))) && (decide (x_2 = x_7.E))) 1 [] (.plain rfl) (eq_t _) rfl rfl (fun g16 => trivial) (fun g16 => lp tyAgg29), fun _ => by exact .guard ((x_10 && (decide (x_1 = x_7.U))) && (decide (x_2 = x_7.E))) 1 [] (.plain rfl) (eq_t _) rfl rfl (fun g17 => trivial) (fun g17 => op_field_p tyFld57_0 rfl rfl), fun _ => by exact .guard ((x_10 && (decide (x_1 = x_7.U))) && (decide (x_2 = x_7.E))) 2 [58] (.plain rfl) (eq_t _) rfl rfl (fun g18 => ⟨g18, trivial⟩) (fun g18 => lp tyAgg29), fun _ => by exact .guard ((x_10 && (decide (x_1 = x_7.U))) && (decide (x_2 = x_7.E))) 3 [57, 59] (.plain rfl) (eq_t _) rfl rfl (fun g19 => ⟨g19, g19, trivial⟩) (fun g19 => op_eql_agg (eqAgg29 x_3 x_8.U) rfl rfl), fun _ => .p (op_pick_and (fun e => e) rfl rfl rfl rfl), fun _ => .p om, fun _ => by exact .guard (((x_10 && (decide (x_1 = x_7.U))) && (decide (x_2 = x_7.E))) && (decide (x_3 = x_8.U))) 1 [] (.plain rfl) (eq_t _) rfl rfl (fun g20 => trivial) (fun g20 => om), fun _ => by exact .guard (((x_10 && (decide (x_1 = x_7.U))) && (decide (x_2 = x_7.E))) && (decide (x_3 = x_8.U))) 1 [] (.plain rfl) (eq_t _) rfl rfl (fun g21 => trivial) (fun g21 => op_field_p tyFld57_1 rfl rfl), fun _ => by exact .guard (((x_10 && (decide (x_1 = x_7.U))) && (decide (x_2 = x_7.E))) && (decide (x_3 = x_8.U))) 2 [64] (.plain rfl) (eq_t _) rfl rfl (fun g22 => ⟨g22, trivial⟩) (fun g22 => op_load_p1 tyOne33 rfl rfl rfl), fun _ => by exact .guard (((x_10 && (decide (x_1 = x_7.U))) && (decide (x_2 = x_7.E))) && (decide (x_3 = x_8.U))) 3 [63, 65] (.plain rfl) (eq_t _) rfl rfl (fun g23 => ⟨g23, g23, trivial⟩) (fun g23 => op_eql rfl rfl), fun _ => .p (op_pick_and (fun e => e) rfl rfl rfl rfl), fun _ => .p om, fun _ => by exact .guard ((((x_10 && (decide (x_1 = x_7.U))) && (decide (x_2 = x_7.E))) && (decide (x_3 = x_8.U))) && (decide (x_4 = x_8.E))) 1 [] (.plain rfl) (eq_t _) rfl rfl (fun g24 => trivial) (fun g24 => lp tyAgg29), fun _ => by exact .guard ((((x_10 && (decide (x_1 = x_7.U))) && (decide (x_2 = x_7.E))) && (decide (x_3 = x_8.U))) && (decide (x_4 = x_8.E))) 1 [] (.plain rfl) (eq_t _) rfl rfl (fun g25 => trivial) (fun g25 => op_field_p tyFld57_0 rfl rfl), fun _ => by exact .guard ((((x_10 && (decide (x_1 = x_7.U))) && (decide (x_2 = x_7.E))) && (decide (x_3 = x_8.U))) && (decide (x_4 = x_8.E))) 2 [70] (.plain rfl) (eq_t _) rfl rfl (fun g26 => ⟨g26, trivial⟩) (fun g26 => lp tyAgg29), fun _ => by exact .guard ((((x_10 && (decide (x_1 = x_7.U))) && (decide (x_2 = x_7.E))) && (decide (x_3 = x_8.U))) && (decide (x_4 = x_8.E))) 3 [69, 71] (.plain rfl) (eq_t _) rfl rfl (fun g27 => ⟨g27, g27, trivial⟩) (fun g27 => op_eql_agg (eqAgg29 x_5 x_9.U) rfl rfl), fun _ => .p (op_pick_and (fun e => e) rfl rfl rfl rfl), fun _ => .p om, fun _ => by exact .guard (((((x_10 && (decide (x_1 = x_7.U))) && (decide (x_2 = x_7.E))) && (decide (x_3 = x_8.U))) && (decide (x_4 = x_8.E))) && (decide (x_5 = x_9.U))) 1 [] (.plain rfl) (eq_t _) rfl rfl (fun g28 => trivial) (fun g28 => om), fun _ => by exact .guard (((((x_10 && (decide (x_1 = x_7.U))) && (decide (x_2 = x_7.E))) && (decide (x_3 = x_8.U))) && (decide (x_4 = x_8.E))) && (decide (x_5 = x_9.U))) 1 [] (.plain rfl) (eq_t _) rfl rfl (fun g29 => trivial) (fun g29 => op_field_p tyFld57_1 rfl rfl), fun _ => by exact .guard (((((x_10 && (decide (x_1 = x_7.U))) && (decide (x_2 = x_7.E))) && (decide (x_3 = x_8.U))) && (decide (x_4 = x_8.E))) && (decide (x_5 = x_9.U))) 2 [76] (.plain rfl) (eq_t _) rfl rfl (fun g30 => ⟨g30, trivial⟩) (fun g30 => op_load_p1 tyOne33 rfl rfl rfl), fun _ => by exact .guard (((((x_10 && (decide (x_1 = x_7.U))) && (decide (x_2 = x_7.E))) && (decide (x_3 = x_8.U))) && (decide (x_4 = x_8.E))) && (decide (x_5 = x_9.U))) 3 [75, 77] (.plain rfl) (eq_t _) rfl rfl (fun g31 => ⟨g31, g31, trivial⟩) (fun g31 => op_eql rfl rfl), fun _ => .p (op_pick_and (fun e => e) rfl rfl rfl rfl), fun _ => .p om, fun _ => by exact .guard ((((((x_10 && (decide (x_1 = x_7.U))) && (decide (x_2 = x_7.E))) && (decide (x_3 = x_8.U))) && (decide (x_4 = x_8.E))) && (decide (x_5 = x_9.U))) && (decide (x_6 = x_9.E))) 1 [] (.plain rfl) (eq_t _) rfl rfl (fun g32 => trivial) (fun g32 => lp tyAgg29), fun _ => by exact .guard ((((((x_10 && (decide (x_1 = x_7.U))) && (decide (x_2 = x_7.E))) && (decide (x_3 = x_8.U))) && (decide (x_4 = x_8.E))) && (decide (x_5 = x_9.U))) && (decide (x_6 = x_9.E))) 3 [81] (.plain rfl) (eq_t _) rfl rfl (fun g33 => ⟨g33, trivial⟩) (fun g33 => op_call0 (unit_Valid_spec (gc e34 g33)) goes32 rfl rfl), fun _ => by exact .guard ((((((x_10 && (decide (x_1 = x_7.U))) && (decide (x_2 = x_7.E))) && (decide (x_3 = x_8.U))) && (decide (x_4 = x_8.E))) && (decide (x_5 = x_9.U))) && (decide (x_6 = x_9.E))) 1 [] (.plain rfl) (eq_t _) rfl rfl (fun g35 => trivial) (fun g35 => lp tyAgg29), fun _ => by exact .guard ((((((x_10 && (decide (x_1 = x_7.U))) && (decide (x_2 = x_7.E))) && (decide (x_3 = x_8.U))) && (decide (x_4 = x_8.E))) && (decide (x_5 = x_9.U))) && (decide (x_6 = x_9.E))) 3 [83] (.plain rfl) (eq_t _) rfl rfl (fun g36 => ⟨g36, trivial⟩) (fun g36 => op_call0 (skewbackref11_Valid_spec (gc e37 g36)) goes33 rfl rfl), fun _ => by exact .guard ((((((x_10 && (decide (x_1 = x_7.U))) && (decide (x_2 = x_7.E))) && (decide (x_3 = x_8.U))) && (decide (x_4 = x_8.E))) && (decide (x_5 = x_9.U))) && (decide (x_6 = x_9.E))) 3 [82, 84] (.plain rfl) (eq_t _) rfl rfl (fun g38 => ⟨g38, g38, trivial⟩) (fun g38 => op_eql_bool und4 rfl rfl), fun _ => .p (op_pick_and (fun e => e) rfl rfl rfl rfl), fun _ => .p om, fun _ => by exact .guard (((((((x_10 && (decide (x_1 = x_7.U))) && (decide (x_2 = x_7.E))) && (decide (x_3 = x_8.U))) && (decide (x_4 = x_8.E))) && (decide (x_5 = x_9.U))) && (decide (x_6 = x_9.E))) && (x_11 == x_12)) 1 [] (.plain rfl) (eq_t _) rfl rfl (fun g39 => trivial) (fun g39 => lp tyAgg29), fun _ => by exact .guard (((((((x_10 && (decide (x_1 = x_7.U))) && (decide (x_2 = x_7.E))) && (decide (x_3 = x_8.U))) && (decide (x_4 = x_8.E))) && (decide (x_5 = x_9.U))) && (decide (x_6 = x_9.E))) && (x_11 == x_12)) 3 [88] (.plain rfl) (eq_t _) rfl rfl (fun g40 => ⟨g40, trivial⟩) (fun g40 => op_call0 (unit_Print_spec (gc e41 g40)) goes18 rfl rfl), fun _ => by exact .guard (((((((x_10 && (decide (x_1 = x_7.U))) && (decide (x_2 = x_7.E))) && (decide (x_3 = x_8.U))) && (decide (x_4 = x_8.E))) && (decide (x_5 = x_9.U))) && (decide (x_6 = x_9.E))) && (x_11 == x_12)) 1 [] (.plain rfl) (eq_t _) rfl rfl (fun g42 => trivial) (fun g42 => lp tyAgg29), fun _ => by exact .guard (((((((x_10 && (decide (x_1 = x_7.U))) && (decide (x_2 = x_7.E))) && (decide (x_3 = x_8.U))) && (decide (x_4 = x_8.E))) && (decide (x_5 = x_9.U))) && (decide (x_6 = x_9.E))) && (x_11 == x_12)) 3 [90] (.plain rfl) (eq_t _) rfl rfl (fun g43 => ⟨g43, trivial⟩) (fun g43 => op_call0 (skewbackref11_Print_spec (gc e44 g43)) goes34 rfl rfl), fun _ => by exact .guard (((((((x_10 && (decide (x_1 = x_7.U))) && (decide (x_2 = x_7.E))) && (decide (x_3 = x_8.U))) && (decide (x_4 = x_8.E))) && (decide (x_5 = x_9.U))) && (decide (x_6 = x_9.E))) && (x_11 == x_12)) 3 [89, 91] (.plain rfl) (eq_t _) rfl rfl (fun g45 => ⟨g45, g45, trivial⟩) (fun g45 => op_eql_str rfl rfl), fun _ => .p (op_pick_and (fun e => e) rfl rfl rfl rfl), fun _ => .p oa, trivial⟩ rfl rfl ?_
 refine Tri.ret ?_
 obtain rfl := Option.some.inj h
 refine Fin.keepS ⟨[(6, B ((((((((x_10 && (decide (x_1 = x_7.U))) && (decide (x_2 = x_7.E))) && (decide (x_3 = x_8.U))) && (decide (x_4 = x_8.E))) && (decide (x_5 = x_9.U))) && (decide (x_6 = x_9.E))) && (x_11 == x_12)) && (decide (x_13 = x_14))))], []⟩ rfl (Fin.result' [.one (.bool ((((((((x_10 && (decide (x_1 = x_7.U))) && (decide (x_2 = x_7.E))) && (decide (x_3 = x_8.U))) && (decide (x_4 = x_8.E))) && (decide (x_5 = x_9.U))) && (decide (x_6 = x_9.E))) && (x_11 == x_12)) && (decide (x_13 = x_14))))] (.inl rfl) rfl (.cons (.tmp rfl) .nil) ⟨rfl, rfl⟩)
end Go.Proofs.YtcbbilehdaaffaaGreatDoor

