/- printed walks -/
import Derived.Test.YtcbbilehdaaffaaGreatDoorW3
namespace Go.Proofs.YtcbbilehdaaffaaGreatDoor
open Go.Sk
set_option maxHeartbeats 1000000
set_option maxRecDepth 4000
set_option linter.unusedSimpArgs false
set_option linter.unusedVariables false
variable {mx : Int}
def skewbacklaw11_sanity_S (F : Nat) : Option Bool :=
 Option.bind (unit_Parse_S F [107, 78, 47, 109, 109, 94, 50]) (un2 fun x_1 x_2 => (skewbacklaw11_of_S F 1000000000 1 (-1) 1 (-2)).bind fun x_3 => (unit_Print_S F (⟨1, 1, (-2)⟩ : MUnit)).bind fun x_4 => (gcall (decide (x_4 = [109, 42, 107, 103, 47, 115, 94, 50])) (unit_Print_S F (⟨(-1), 1, (-2)⟩ : MUnit))).bind fun x_5 => letN ((decide (x_4 = [109, 42, 107, 103, 47, 115, 94, 50])) && (decide (x_5 = [107, 103, 47, 109, 47, 115, 94, 50]))) fun x_6 => (gcall x_6 (unit_Print_S F (⟨0, 0, 0⟩ : MUnit))).bind fun x_7 => (gcall (x_6 && (decide (x_7 = [49]))) (unit_Print_S F (⟨(-2), 0, 0⟩ : MUnit))).bind fun x_8 => letN ((x_6 && (decide (x_7 = [49]))) && (decide (x_8 = [49, 47, 109, 94, 50]))) fun x_9 => (skewbacklaw11_of_S F 5 2 1 0 0).bind fun x_10 => (skewbacklaw11_reads_S F [50, 46, 53, 48, 32, 109] x_10).bind fun x_11 => (gcall x_11 (skewbacklaw11_of_S F 2500 1 1 1 (-2))).bind fun x_12 => (gcall x_11 (skewbacklaw11_reads_S F [53, 47, 50, 32, 107, 78] x_12)).bind fun x_13 => (gcall (x_11 && x_13) (skewbacklaw11_of_S F (-3) 1 0 0 0)).bind fun x_14 => (gcall (x_11 && x_13) (skewbacklaw11_reads_S F [45, 51] x_14)).bind fun x_15 => (gcall ((x_11 && x_13) && x_15) (skewbacklaw11_of_S F 1 40 1 0 0)).bind fun x_16 => (gcall ((x_11 && x_13) && x_15) (unit_Write_S F x_16)).bind fun x_17 => letN (((x_11 && x_13) && x_15) && (decide (x_17 = [49, 47, 52, 48, 32, 109]))) fun x_18 => (skewbacklaw11_of_S F 7200 1 0 0 1).bind fun x_19 => Option.bind (unit_In_S F x_19 [109, 105, 110]) (un2 fun x_20 x_21 => (skewbacklaw11_of_S F 7200 1 0 0 1).bind fun x_22 => Option.bind (unit_In_S F x_22 [109]) (un2 fun x_23 x_24 => (skewbacklaw11_of_S F 1 1 1 0 0).bind fun x_25 => (skewbacklaw11_of_S F 1 1 0 0 1).bind fun x_26 => Option.bind (unit_Add_S F x_25 x_26) (un2 fun x_27 x_28 => (skewbacklaw11_of_S F 1 1 1 0 0).bind fun x_29 => (skewbacklaw11_of_S F 0 1 0 0 1).bind fun x_30 => Option.bind (unit_Over_S F x_29 x_30) (un2 fun x_31 x_32 => (r4_Of_S F 120).bind fun x_33 => letN ((((decide (x_1 = x_3)) && (decide (x_2 = 0))) && x_9) && x_18) fun x_34 => letN (x_34 && (((((decide (x_20 = x_33)) && (decide (x_21 = 0))) && (decide (x_24 = 110))) && (decide (x_28 = 110))) && (decide (x_32 = 31)))) fun x_35 => (gcall x_35 (skewbacklaw11_refuses_S F [109, 94, 49, 55] 280)).bind fun x_36 => (gcall (x_35 && x_36) (skewbacklaw11_refuses_S F [109, 94, 49, 54, 42, 109] 2)).bind fun x_37 => (gcall ((x_35 && x_36) && x_37) (skewbacklaw11_refuses_S F [120] 5)).bind fun x_38 => (gcall (((x_35 && x_36) && x_37) && x_38) (skewbacklaw11_refuses_S F [109, 42, 42, 115] 280)).bind fun x_39 => (gcall ((((x_35 && x_36) && x_37) && x_38) && x_39) (skewbacklaw11_refuses_S F [109, 94, 45, 48] 280)).bind fun x_40 => some (((((x_35 && x_36) && x_37) && x_38) && x_39) && x_40))))))
theorem skewbacklaw11_sanity_spec {F : Nat} {r : Bool} (h : skewbacklaw11_sanity_S F = some r) : Meets Tryz.prog (tabs mx) 10 [] [] (Is [] (.b (.one (.bool r)))) := by
 unfold skewbacklaw11_sanity_S at h
 refine Meets.intro 125 Tryz.func10 Tryz.ntmps10 rfl (by simp) fun E => ?_
 show Tri _ E ⟨125, [], []⟩ _ ⟨[], []⟩ _
 refine Tri.seq (Tri.regionL ?_)
 refine Oc oa (OpsL.nilS ⟨[], []⟩ rfl (Tri.seq (Tri.regionL ?_)))
 obtain ⟨⟨x_1, x_2⟩, e1, h⟩ := bnd h
 refine Oc (op_call0 (unit_Parse_spec e1) goes17 rfl rfl) (Oc om (Oc (op_extract rfl rfl) (Oc (op_extract rfl rfl) ?_)))
 refine OpsL.keepS ⟨[(17, .b (.agg (eQuantity x_1))), (18, I x_2)], []⟩ rfl (Oc (op_alloc (k := 101) tyZero31 rfl) (Oc (op_store_p tyAgg31 rfl rfl rfl rfl (Nat.le_of_ble_eq_true rfl) rfl) (Oc oa ?_)))
 refine OpsL.nilS ⟨[(1, Pt 101 0), (2, I x_2)], [(101, .box 31 (eQuantity x_1))]⟩ rfl (Tri.seq ?_)
 obtain ⟨x_3, e2, h⟩ := bnd h
 refine Tri.regionY mixed 8 [.b (.agg (eQuantity x_1)), .b (.agg (eQuantity x_3)), B (decide (x_1 = x_3)), B (decide (x_1 = x_3)), .opt (decide (x_1 = x_3)) (.one (.i x_2)), .opt (decide (x_1 = x_3)) (.one (.bool (decide (x_2 = 0)))), B ((decide (x_1 = x_3)) && (decide (x_2 = 0))), B ((decide (x_1 = x_3)) && (decide (x_2 = 0)))] [3] [] (s' := ⟨[(3, B ((decide (x_1 = x_3)) && (decide (x_2 = 0))))], []⟩) rfl ⟨fun _ => .p (lp tyAgg31), fun _ => .p (op_call0 (skewbacklaw11_of_spec e2) goes50 rfl rfl), fun _ => .p (op_eql_agg (eqAgg31 x_1 x_3) rfl rfl), fun _ => .p om, fun _ => by exact .guard (decide (x_1 = x_3)) 1 [] (.plain rfl) (eq_t _) rfl rfl (fun g3 => trivial) (fun g3 => om), fun _ => by exact .guard (decide (x_1 = x_3)) 2 [23] (.plain rfl) (eq_t _) rfl rfl (fun g4 => ⟨g4, trivial⟩) (fun g4 => op_eql rfl rfl), fun _ => .p (op_pick_and (fun e => e) rfl rfl rfl rfl), fun _ => .p oa, trivial⟩ rfl rfl (Tri.seq (Tri.regionL ?_))
 refine Oc (op_build tyBuild29 rfl rfl) ?_
 obtain ⟨x_4, e5, h⟩ := bnd h
 refine Oc (op_call0 (unit_Print_spec e5) goes18 rfl rfl) (Oc (op_eql_str rfl rfl) (Oc om ?_))
 refine CgT (decide (x_4 = [109, 42, 107, 103, 47, 115, 94, 50])) [] (fun g6 => trivial) (fun g6 => op_build tyBuild29 rfl rfl) (OpsL.keepS ⟨[(3, B ((decide (x_1 = x_3)) && (decide (x_2 = 0)))), (29, B (decide (x_4 = [109, 42, 107, 103, 47, 115, 94, 50]))), (30, .opt (decide (x_4 = [109, 42, 107, 103, 47, 115, 94, 50])) (.agg [.i (-1), .i 1, .i (-2)]))], []⟩ rfl ?_)
 obtain ⟨x_5, e8, h⟩ := bnd h
 refine CgT (decide (x_4 = [109, 42, 107, 103, 47, 115, 94, 50])) [30] (fun g7 => ⟨g7, trivial⟩) (fun g7 => op_call0 (unit_Print_spec (gc e8 g7)) goes18 rfl rfl) (CgT (decide (x_4 = [109, 42, 107, 103, 47, 115, 94, 50])) [31] (fun g9 => ⟨g9, trivial⟩) (fun g9 => op_eql_str rfl rfl) (OpsL.consB h rfl (op_pick_and (fun e => e) rfl rfl rfl rfl) (fun x_6 h => ?_)))
 refine Oc om (CgT x_6 [] (fun g10 => by exact trivial) (fun g10 => op_build tyBuild29 rfl rfl) ?_)
 obtain ⟨x_7, e12, h⟩ := bnd h
 refine CgT x_6 [35] (fun g11 => ⟨g11, trivial⟩) (fun g11 => op_call0 (unit_Print_spec (gc e12 g11)) goes18 rfl rfl) (OpsL.keepS ⟨[(3, B ((decide (x_1 = x_3)) && (decide (x_2 = 0)))), (34, B x_6), (36, .opt x_6 (.one (.str x_7)))], []⟩ rfl (CgT x_6 [36] (fun g13 => ⟨g13, trivial⟩) (fun g13 => op_eql_str rfl rfl) (Oc (op_pick_and (fun e => e) rfl rfl rfl rfl) (Oc om ?_))))
 refine CgT (x_6 && (decide (x_7 = [49]))) [] (fun g14 => trivial) (fun g14 => op_build tyBuild29 rfl rfl) ?_
 obtain ⟨x_8, e16, h⟩ := bnd h
 refine CgT (x_6 && (decide (x_7 = [49]))) [40] (fun g15 => ⟨g15, trivial⟩) (fun g15 => op_call0 (unit_Print_spec (gc e16 g15)) goes18 rfl rfl) (CgT (x_6 && (decide (x_7 = [49]))) [41] (fun g17 => ⟨g17, trivial⟩) (fun g17 => op_eql_str rfl rfl) (OpsL.consB h rfl (op_pick_and (fun e => e) rfl rfl rfl rfl) (fun x_9 h => ?_)))
 refine Oc oa (OpsL.nilS ⟨[(3, B ((decide (x_1 = x_3)) && (decide (x_2 = 0)))), (4, B x_9)], []⟩ rfl (Tri.seq (Tri.regionL ?_)))
 obtain ⟨x_10, e18, h⟩ := bnd h
 refine Oc (op_call0 (skewbacklaw11_of_spec e18) goes50 rfl rfl) ?_
 obtain ⟨x_11, e19, h⟩ := bnd h
 refine Oc (op_call0 (skewbacklaw11_reads_spec e19) goes51 rfl rfl) (Oc om ?_)
 refine OpsL.keepS ⟨[(3, B ((decide (x_1 = x_3)) && (decide (x_2 = 0)))), (4, B x_9), (46, B x_11)], []⟩ rfl ?_
 obtain ⟨x_12, e21, h⟩ := bnd h
 refine CgT x_11 [] (fun g20 => trivial) (fun g20 => op_call0 (skewbacklaw11_of_spec (gc e21 g20)) goes50 rfl rfl) ?_
 obtain ⟨x_13, e23, h⟩ := bnd h
 refine CgT x_11 [47] (fun g22 => ⟨g22, trivial⟩) (fun g22 => op_call0 (skewbacklaw11_reads_spec (gc e23 g22)) goes51 rfl rfl) (Oc (op_pick_and (fun e => e) rfl rfl rfl rfl) (Oc om ?_))
 refine OpsL.keepS ⟨[(3, B ((decide (x_1 = x_3)) && (decide (x_2 = 0)))), (4, B x_9), (50, B (x_11 && x_13))], []⟩ rfl ?_
 obtain ⟨x_14, e25, h⟩ := bnd h
 refine CgT (x_11 && x_13) [] (fun g24 => trivial) (fun g24 => op_call0 (skewbacklaw11_of_spec (gc e25 g24)) goes50 rfl rfl) ?_
 obtain ⟨x_15, e27, h⟩ := bnd h
 refine CgT (x_11 && x_13) [51] (fun g26 => ⟨g26, trivial⟩) (fun g26 => op_call0 (skewbacklaw11_reads_spec (gc e27 g26)) goes51 rfl rfl) (Oc (op_pick_and (fun e => e) rfl rfl rfl rfl) (Oc om ?_))
 refine OpsL.keepS ⟨[(3, B ((decide (x_1 = x_3)) && (decide (x_2 = 0)))), (4, B x_9), (54, B ((x_11 && x_13) && x_15))], []⟩ rfl ?_
 obtain ⟨x_16, e29, h⟩ := bnd h
 refine CgT ((x_11 && x_13) && x_15) [] (fun g28 => trivial) (fun g28 => op_call0 (skewbacklaw11_of_spec (gc e29 g28)) goes50 rfl rfl) ?_
 obtain ⟨x_17, e31, h⟩ := bnd h
 refine CgT ((x_11 && x_13) && x_15) [55] (fun g30 => ⟨g30, trivial⟩) (fun g30 => op_call0 (unit_Write_spec (gc e31 g30)) goes19 rfl rfl) (CgT ((x_11 && x_13) && x_15) [56] (fun g32 => ⟨g32, trivial⟩) (fun g32 => op_eql_str rfl rfl) (OpsL.consB h rfl (op_pick_and (fun e => e) rfl rfl rfl rfl) (fun x_18 h => ?_)))
 refine Oc oa (OpsL.nilS ⟨[(3, B ((decide (x_1 = x_3)) && (decide (x_2 = 0)))), (4, B x_9), (5, B x_18)], []⟩ rfl (Tri.seq (Tri.regionL ?_)))
 obtain ⟨x_19, e33, h⟩ := bnd h
 refine Oc (op_call0 (skewbacklaw11_of_spec e33) goes50 rfl rfl) ?_
 obtain ⟨⟨x_20, x_21⟩, e34, h⟩ := bnd h
 refine Oc (op_call0 (unit_In_spec e34) goes11 rfl rfl) (Oc om ?_)
 refine OpsL.keepS ⟨[(3, B ((decide (x_1 = x_3)) && (decide (x_2 = 0)))), (4, B x_9), (5, B x_18), (59, .tup [.agg (eFrc x_20), .one (.i x_21)])], []⟩ rfl (Oc (op_extract rfl rfl) (Oc (op_extract rfl rfl) (Oc (op_alloc (k := 102) tyZero27 rfl) (Oc (op_store_p tyAgg27 rfl rfl rfl rfl (Nat.le_of_ble_eq_true rfl) rfl) (Oc oa ?_)))))
 refine OpsL.nilS ⟨[(3, B ((decide (x_1 = x_3)) && (decide (x_2 = 0)))), (4, B x_9), (5, B x_18), (6, Pt 102 0), (7, I x_21)], [(102, .box 27 (eFrc x_20))]⟩ rfl (Tri.seq (Tri.regionL ?_))
 obtain ⟨x_22, e35, h⟩ := bnd h
 refine Oc (op_call0 (skewbacklaw11_of_spec e35) goes50 rfl rfl) ?_
 obtain ⟨⟨x_23, x_24⟩, e36, h⟩ := bnd h
 refine Oc (op_call0 (unit_In_spec e36) goes11 rfl rfl) (Oc om ?_)
 refine OpsL.keepS ⟨[(3, B ((decide (x_1 = x_3)) && (decide (x_2 = 0)))), (4, B x_9), (5, B x_18), (6, Pt 102 0), (7, I x_21), (64, .tup [.agg (eFrc x_23), .one (.i x_24)])], [(102, .box 27 (eFrc x_20))]⟩ rfl (Oc (op_extract rfl rfl) (Oc (op_extract rfl rfl) (Oc (op_alloc (k := 103) tyZero27 rfl) (Oc (op_store_p tyAgg27 rfl rfl rfl rfl (Nat.le_of_ble_eq_true rfl) rfl) (Oc oa ?_)))))
 refine OpsL.nilS ⟨[(3, B ((decide (x_1 = x_3)) && (decide (x_2 = 0)))), (4, B x_9), (5, B x_18), (6, Pt 102 0), (7, I x_21), (9, I x_24)], [(102, .box 27 (eFrc x_20))]⟩ rfl (Tri.seq (Tri.regionL ?_))
 obtain ⟨x_25, e37, h⟩ := bnd h
 refine Oc (op_call0 (skewbacklaw11_of_spec e37) goes50 rfl rfl) ?_
 obtain ⟨x_26, e38, h⟩ := bnd h
 refine Oc (op_call0 (skewbacklaw11_of_spec e38) goes50 rfl rfl) (OpsL.keepS ⟨[(3, B ((decide (x_1 = x_3)) && (decide (x_2 = 0)))), (4, B x_9), (5, B x_18), (6, Pt 102 0), (7, I x_21), (9, I x_24), (70, .b (.agg (eQuantity x_25))), (71, .b (.agg (eQuantity x_26)))], [(102, .box 27 (eFrc x_20))]⟩ rfl ?_)
 obtain ⟨⟨x_27, x_28⟩, e39, h⟩ := bnd h
 refine Oc (op_call0 (unit_Add_spec e39) goes36 rfl rfl) (Oc om (Oc (op_extract rfl rfl) (Oc (op_extract rfl rfl) (Oc (op_alloc (k := 104) tyZero31 rfl) (Oc (op_store_p tyAgg31 rfl rfl rfl rfl (Nat.le_of_ble_eq_true rfl) rfl) ?_)))))
 refine Oc oa (OpsL.nilS ⟨[(3, B ((decide (x_1 = x_3)) && (decide (x_2 = 0)))), (4, B x_9), (5, B x_18), (6, Pt 102 0), (7, I x_21), (9, I x_24), (11, I x_28)], [(102, .box 27 (eFrc x_20))]⟩ rfl (Tri.seq (Tri.regionL ?_)))
 obtain ⟨x_29, e40, h⟩ := bnd h
 refine Oc (op_call0 (skewbacklaw11_of_spec e40) goes50 rfl rfl) ?_
 obtain ⟨x_30, e41, h⟩ := bnd h
 refine Oc (op_call0 (skewbacklaw11_of_spec e41) goes50 rfl rfl) (OpsL.keepS ⟨[(3, B ((decide (x_1 = x_3)) && (decide (x_2 = 0)))), (4, B x_9), (5, B x_18), (6, Pt 102 0), (7, I x_21), (9, I x_24), (11, I x_28), (76, .b (.agg (eQuantity x_29))), (77, .b (.agg (eQuantity x_30)))], [(102, .box 27 (eFrc x_20))]⟩ rfl ?_)
 obtain ⟨⟨x_31, x_32⟩, e42, h⟩ := bnd h
 refine Oc (op_call0 (unit_Over_spec e42) goes40 rfl rfl) (Oc om (Oc (op_extract rfl rfl) (Oc (op_extract rfl rfl) (Oc (op_alloc (k := 105) tyZero31 rfl) (Oc (op_store_p tyAgg31 rfl rfl rfl rfl (Nat.le_of_ble_eq_true rfl) rfl) ?_)))))
 refine Oc oa (OpsL.nilS ⟨[(3, B ((decide (x_1 = x_3)) && (decide (x_2 = 0)))), (4, B x_9), (5, B x_18), (6, Pt 102 0), (7, I x_21), (9, I x_24), (11, I x_28), (13, I x_32)], [(102, .box 27 (eFrc x_20))]⟩ rfl (Tri.seq ?_))
 obtain ⟨x_33, e43, h⟩ := bnd h
 refine Tri.regionY mixed 20 [.b (.agg (eFrc x_20)), .b (.agg (eFrc x_33)), B (decide (x_20 = x_33)), B (decide (x_20 = x_33)), .opt (decide (x_20 = x_33)) (.one (.i x_21)), .opt (decide (x_20 = x_33)) (.one (.bool (decide (x_21 = 0)))), B ((decide (x_20 = x_33)) && (decide (x_21 = 0))), B ((decide (x_20 = x_33)) && (decide (x_21 = 0))), .opt ((decide (x_20 = x_33)) && (decide (x_21 = 0))) (.one (.i x_24)), .opt ((decide (x_20 = x_33)) && (decide (x_21 = 0))) (.one (.bool (decide (x_24 = 110)))), B (((decide (x_20 = x_33)) && (decide (x_21 = 0))) && (decide (x_24 = 110))), B (((decide (x_20 = x_33)) && (decide (x_21 = 0))) && (decide (x_24 = 110))), .opt (((decide (x_20 = x_33)) && (decide (x_21 = 0))) && (decide (x_24 = 110))) (.one (.i x_28)), .opt (((decide (x_20 = x_33)) && (decide (x_21 = 0))) && (decide (x_24 = 110))) (.one (.bool (decide (x_28 = 110)))), B ((((decide (x_20 = x_33)) && (decide (x_21 = 0))) && (decide (x_24 = 110))) && (decide (x_28 = 110))), B ((((decide (x_20 = x_33)) && (decide (x_21 = 0))) && (decide (x_24 = 110))) && (decide (x_28 = 110))), .opt ((((decide (x_20 = x_33)) && (decide (x_21 = 0))) && (decide (x_24 = 110))) && (decide (x_28 = 110))) (.one (.i x_32)), .opt ((((decide (x_20 = x_33)) && (decide (x_21 = 0))) && (decide (x_24 = 110))) && (decide (x_28 = 110))) (.one (.bool (decide (x_32 = 31)))), B (((((decide (x_20 = x_33)) && (decide (x_21 = 0))) && (decide (x_24 = 110))) && (decide (x_28 = 110))) && (decide (x_32 = 31))), B (((((decide (x_20 = x_33)) && (decide (x_21 = 0))) && (decide (x_24 = 110))) && (decide (x_28 = 110))) && (decide (x_32 = 31)))] [3, 4, 5, 14] [] (s' := ⟨[(3, B ((decide (x_1 = x_3)) && (decide (x_2 = 0)))), (4, B x_9), (5, B x_18), (14, B (((((decide (x_20 = x_33)) && (decide (x_21 = 0))) && (decide (x_24 = 110))) && (decide (x_28 = 110))) && (decide (x_32 = 31))))], []⟩) rfl ⟨fun _ => .p (lp tyAgg27), fun _ => .p (op_call0 (r4_Of_spec e43) goes52 rfl rfl), fun _ => .p (op_eql_agg (eqAgg27 x_20 x_33) rfl rfl), fun _ => .p om, fun _ => by exact .guard (decide (x_20 = x_33)) 1 [] (.plain rfl) (eq_t _) rfl rfl (fun g44 => trivial) (fun g44 => om), fun _ => by exact .guard (decide (x_20 = x_33)) 2 [85] (.plain rfl) (eq_t _) rfl rfl (fun g45 => ⟨g45, trivial⟩) (fun g45 => op_eql rfl rfl), fun _ => .p (op_pick_and (fun e => e) rfl rfl rfl rfl), fun _ => .p om, fun _ => by exact .guard ((decide (x_20 = x_33)) && (decide (x_21 = 0))) 1 [] (.plain rfl) (eq_t _) rfl rfl (fun g46 => trivial) (fun g46 => om), fun _ => by exact .guard ((decide (x_20 = x_33)) && (decide (x_21 = 0))) 2 [89] (.plain rfl) (eq_t _) rfl rfl (fun g47 => ⟨g47, trivial⟩) (fun g47 => op_eql rfl rfl), fun _ => .p (op_pick_and (fun e => e) rfl rfl rfl rfl), fun _ => .p om, fun _ => by exact .guard (((decide (x_20 = x_33)) && (decide (x_21 = 0))) && (decide (x_24 = 110))) 1 [] (.plain rfl) (eq_t _) rfl rfl (fun g48 => trivial) (fun g48 => om), fun _ => by exact .guard (((decide (x_20 = x_33)) && (decide (x_21 = 0))) && (decide (x_24 = 110))) 2 [93] (.plain rfl) (eq_t _) rfl rfl (fun g49 => ⟨g49, trivial⟩) (fun g49 => op_eql rfl rfl), fun _ => .p (op_pick_and (fun e => e) rfl rfl rfl rfl), fun _ => .p om, fun _ => by exact .guard ((((decide (x_20 = x_33)) && (decide (x_21 = 0))) && (decide (x_24 = 110))) && (decide (x_28 = 110))) 1 [] (.plain rfl) (eq_t _) rfl rfl (fun g50 => trivial) (fun g50 => om), fun _ => by exact .guard ((((decide (x_20 = x_33)) && (decide (x_21 = 0))) && (decide (x_24 = 110))) && (decide (x_28 = 110))) 2 [97] (.plain rfl) (eq_t _) rfl rfl (fun g51 => ⟨g51, trivial⟩) (fun g51 => op_eql rfl rfl), fun _ => .p (op_pick_and (fun e => e) rfl rfl rfl rfl), fun _ => .p oa, trivial⟩ rfl rfl ?_
 refine Tri.seq (Tri.regionL ?_)
 refine Oc om (Oc om ?_)
 refine CgT ((decide (x_1 = x_3)) && (decide (x_2 = 0))) [] (fun g52 => trivial) (fun g52 => om) (Oc (op_pick_and (fun e => e) rfl rfl rfl rfl) (Oc om ?_))
 refine CgT (((decide (x_1 = x_3)) && (decide (x_2 = 0))) && x_9) [] (fun g53 => trivial) (fun g53 => om) (OpsL.consB h rfl (op_pick_and (fun e => e) rfl rfl rfl rfl) (fun x_34 h => ?_))
 refine OpsL.keepS ⟨[(14, B (((((decide (x_20 = x_33)) && (decide (x_21 = 0))) && (decide (x_24 = 110))) && (decide (x_28 = 110))) && (decide (x_32 = 31)))), (106, B x_34)], []⟩ rfl (Oc om (CgT x_34 [] (fun g54 => by exact trivial) (fun g54 => om) (OpsL.consB h rfl (op_pick_and (fun e => e) rfl rfl rfl rfl) (fun x_35 h => ?_))))
 refine Oc om ?_
 obtain ⟨x_36, e56, h⟩ := bnd h
 refine CgT x_35 [] (fun g55 => trivial) (fun g55 => op_call0 (skewbacklaw11_refuses_spec (gc e56 g55)) goes53 rfl rfl) (Oc (op_pick_and (fun e => e) rfl rfl rfl rfl) (OpsL.keepS ⟨[(112, B (x_35 && x_36))], []⟩ rfl (Oc om ?_)))
 obtain ⟨x_37, e58, h⟩ := bnd h
 refine CgT (x_35 && x_36) [] (fun g57 => trivial) (fun g57 => op_call0 (skewbacklaw11_refuses_spec (gc e58 g57)) goes53 rfl rfl) (Oc (op_pick_and (fun e => e) rfl rfl rfl rfl) (Oc om ?_))
 refine OpsL.keepS ⟨[(116, B ((x_35 && x_36) && x_37))], []⟩ rfl ?_
 obtain ⟨x_38, e60, h⟩ := bnd h
 refine CgT ((x_35 && x_36) && x_37) [] (fun g59 => trivial) (fun g59 => op_call0 (skewbacklaw11_refuses_spec (gc e60 g59)) goes53 rfl rfl) (Oc (op_pick_and (fun e => e) rfl rfl rfl rfl) (Oc om ?_))
 obtain ⟨x_39, e62, h⟩ := bnd h
 refine CgT (((x_35 && x_36) && x_37) && x_38) [] (fun g61 => trivial) (fun g61 => op_call0 (skewbacklaw11_refuses_spec (gc e62 g61)) goes53 rfl rfl) (Oc (op_pick_and (fun e => e) rfl rfl rfl rfl) (Oc om ?_))
 refine OpsL.keepS ⟨[(122, B ((((x_35 && x_36) && x_37) && x_38) && x_39))], []⟩ rfl ?_
 obtain ⟨x_40, e64, h⟩ := bnd h
 refine CgT ((((x_35 && x_36) && x_37) && x_38) && x_39) [] (fun g63 => trivial) (fun g63 => op_call0 (skewbacklaw11_refuses_spec (gc e64 g63)) goes53 rfl rfl) (Oc (op_pick_and (fun e => e) rfl rfl rfl rfl) (Oc oa ?_))
 refine OpsL.nilS ⟨[(0, B (((((x_35 && x_36) && x_37) && x_38) && x_39) && x_40))], []⟩ rfl (Tri.ret ?_)
 obtain rfl := Option.some.inj h
 refine Fin.keepS ⟨[(0, B (((((x_35 && x_36) && x_37) && x_38) && x_39) && x_40))], []⟩ rfl (Fin.result' [.one (.bool (((((x_35 && x_36) && x_37) && x_38) && x_39) && x_40))] (.inl rfl) rfl (.cons (.tmp rfl) .nil) ⟨rfl, rfl⟩)
def unit_Pow_S (F : Nat) (u0 : MUnit) (n0 : Int) : Option (MUnit × Int) :=
 Option.bind (unit_combine_S F (⟨0, 0, 0⟩ : MUnit) u0 n0) (un2 fun x_1 x_2 => some (x_1, x_2))
theorem unit_Pow_spec {F : Nat} {u0 : MUnit} {n0 : Int} {r : MUnit × Int} (h : unit_Pow_S F u0 n0 = some r) : Meets Tryz.prog (tabs mx) 28 [] [.agg (eMUnit u0), .one (.i n0)] (Is [] (.tup [.agg (eMUnit r.1), .one (.i r.2)])) := by
 unfold unit_Pow_S at h
 refine Meets.intro 12 Tryz.func28 Tryz.ntmps28 rfl (by simp) fun E => ?_
 show Tri _ E ⟨12, [], []⟩ _ ⟨[(0, .b (.agg (eMUnit u0))), (1, I n0)], []⟩ _
 refine Tri.seq (Tri.regionL ?_)
 refine Oc (op_box (k := 101) rfl rfl) (Oc (op_alloc (k := 102) tyZero29 rfl) (Oc oa ?_))
 refine OpsL.nilS ⟨[(1, I n0), (2, Pt 101 0), (4, Pt 102 0)], [(101, .box 29 (eMUnit u0)), (102, .box 29 [.i 0, .i 0, .i 0])]⟩ rfl (Tri.seq (Tri.regionL ?_))
 refine Oc (op_build tyBuild29 rfl rfl) (Oc (lp tyAgg29) (Oc om ?_))
 obtain ⟨⟨x_1, x_2⟩, e1, h⟩ := bnd h
 refine Oc (op_call0 (unit_combine_spec e1) goes82 rfl rfl) (Oc (op_extract rfl rfl) ?_)
 refine OpsL.keepS ⟨[(4, Pt 102 0), (9, .tup [.agg (eMUnit x_1), .one (.i x_2)]), (10, .b (.agg (eMUnit x_1)))], [(102, .box 29 [.i 0, .i 0, .i 0])]⟩ rfl (Oc (op_extract rfl rfl) (Oc (op_store_p tyAgg29 rfl rfl rfl rfl (Nat.le_of_ble_eq_true rfl) rfl) (Oc oa ?_)))
 refine OpsL.nilS ⟨[(4, Pt 102 0), (5, I x_2)], [(102, .box 29 (eMUnit x_1))]⟩ rfl (Tri.ret ?_)
 obtain rfl := Option.some.inj h
 refine Fin.keepS ⟨[(4, Pt 102 0), (5, I x_2)], [(102, .box 29 (eMUnit x_1))]⟩ rfl (Fin.result' [.agg (eMUnit x_1), .one (.i x_2)] (.inl rfl) rfl (.cons (.agg tyAgg29 rfl rfl rfl rfl) (.cons (.tmp rfl) .nil)) ⟨rfl, rfl⟩)
def skewbacklaw11_UnitIsAGroup_S (F : Nat) (u0 : MUnit) (v0 : MUnit) (w0 : MUnit) (n0 : Int) (m0 : Int) : Option Bool :=
 (unit_Valid_S F u0).bind fun x_1 => (gcall (!(!x_1)) (unit_Valid_S F v0)).bind fun x_2 => (gcall (!((!x_1) || (!x_2))) (unit_Valid_S F w0)).bind fun x_3 => if (((!x_1) || (!x_2)) || (!x_3)) = true then ((skewbacklaw11_sanity_S F).bind fun x_4 => some x_4) else (Option.bind (unit_Mul_S F u0 v0) (un2 fun x_5 x_6 => Option.bind (unit_Mul_S F v0 u0) (un2 fun x_7 x_8 => if ((decide (x_5 ≠ x_7)) || (decide (x_6 ≠ x_8))) = true then (some false) else (Option.bind (if (decide (x_6 = 0)) = true then (Option.bind (unit_Div_S F x_5 v0) (un2 fun x_9 x_10 => if ((decide (x_9 ≠ u0)) || (decide (x_10 ≠ 0))) = true then (some (.inr false)) else (Option.bind (unit_Mul_S F v0 w0) (un2 fun x_11 x_12 => Option.bind (unit_Mul_S F x_5 w0) (un2 fun x_13 x_14 => Option.bind (unit_Mul_S F u0 x_11) (un2 fun x_15 x_16 => letN ((decide (x_12 = 0)) && ((decide (x_13 ≠ x_15)) || (decide (x_14 ≠ x_16)))) fun x_17 => if x_17 = true then (some (.inr false)) else (some (.inl ())))))))) else (some (.inl ()))) (alt2 (fun _ => Option.bind (unit_Pow_S F u0 n0) (un2 fun x_18 x_19 => Option.bind (unit_Pow_S F u0 m0) (un2 fun x_20 x_21 => if ((decide (x_19 ≠ 0)) || (decide (x_21 ≠ 0))) = true then ((skewbacklaw11_sanity_S F).bind fun x_22 => some x_22) else (Option.bind (unit_Mul_S F x_18 x_20) (un2 fun x_23 x_24 => Option.bind (unit_Pow_S F u0 (IntKind.i64.wrap (n0 + m0))) (un2 fun x_25 x_26 => (skewbacklaw11_sanity_S F).bind fun x_27 => letN (x_27 && (((decide (x_24 ≠ 0)) || (decide (x_26 = 1))) || ((decide (x_26 = 0)) && (decide (x_23 = x_25))))) fun x_28 => some x_28)))))) (fun y => some y))))))
theorem skewbacklaw11_UnitIsAGroup_spec {F : Nat} {u0 : MUnit} {v0 : MUnit} {w0 : MUnit} {n0 : Int} {m0 : Int} {r : Bool} (h : skewbacklaw11_UnitIsAGroup_S F u0 v0 w0 n0 m0 = some r) : Meets Tryz.prog (tabs mx) 7 [] [.agg (eMUnit u0), .agg (eMUnit v0), .agg (eMUnit w0), .one (.i n0), .one (.i m0)] (Is [] (.b (.one (.bool r)))) := by
 unfold skewbacklaw11_UnitIsAGroup_S at h
 refine Meets.intro 161 Tryz.func7 Tryz.ntmps7 rfl (by simp) fun E => ?_
 show Tri _ E ⟨161, [], []⟩ _ ⟨[(0, .b (.agg (eMUnit u0))), (1, .b (.agg (eMUnit v0))), (2, .b (.agg (eMUnit w0))), (3, I n0), (4, I m0)], []⟩ _
 refine Tri.seq (Tri.regionL ?_)
 refine Oc (op_box (k := 101) rfl rfl) (Oc (op_box (k := 102) rfl rfl) (Oc (op_box (k := 103) rfl rfl) (Oc oa ?_)))
 refine OpsL.nilS ⟨[(3, I n0), (4, I m0), (5, Pt 101 0), (6, Pt 102 0), (7, Pt 103 0)], [(101, .box 29 (eMUnit u0)), (102, .box 29 (eMUnit v0)), (103, .box 29 (eMUnit w0))]⟩ rfl (Tri.seq (Tri.seq (Tri.regionL ?_)))
 refine Oc (lp tyAgg29) ?_
 obtain ⟨x_1, e1, h⟩ := bnd h
 refine Oc (op_call0 (unit_Valid_spec e1) goes32 rfl rfl) (Oc (op_not rfl) (Oc om ?_))
 refine CgF (!(!x_1)) [] (fun g2 => trivial) (fun g2 => lp tyAgg29) (OpsL.keepS ⟨[(3, I n0), (4, I m0), (5, Pt 101 0), (6, Pt 102 0), (7, Pt 103 0), (34, B (!x_1)), (35, .opt (!(!x_1)) (.agg (eMUnit v0)))], [(101, .box 29 (eMUnit u0)), (102, .box 29 (eMUnit v0)), (103, .box 29 (eMUnit w0))]⟩ rfl ?_)
 obtain ⟨x_2, e4, h⟩ := bnd h
 refine CgF (!(!x_1)) [35] (fun g3 => ⟨g3, trivial⟩) (fun g3 => op_call0 (unit_Valid_spec (gc e4 g3)) goes32 rfl rfl) (CgF (!(!x_1)) [36] (fun g5 => ⟨g5, trivial⟩) (fun g5 => op_not rfl) (Oc (op_pick_or (fun e => by rw [e]; rfl) rfl rfl rfl rfl) (Oc om ?_)))
 refine CgF (!((!x_1) || (!x_2))) [] (fun g6 => trivial) (fun g6 => lp tyAgg29) ?_
 obtain ⟨x_3, e8, h⟩ := bnd h
 refine CgF (!((!x_1) || (!x_2))) [40] (fun g7 => ⟨g7, trivial⟩) (fun g7 => op_call0 (unit_Valid_spec (gc e8 g7)) goes32 rfl rfl) (CgF (!((!x_1) || (!x_2))) [41] (fun g9 => ⟨g9, trivial⟩) (fun g9 => op_not rfl) (Oc (op_pick_or (fun e => by rw [e]; rfl) rfl rfl rfl rfl) (OpsL.nilS ⟨[(3, I n0), (4, I m0), (5, Pt 101 0), (6, Pt 102 0), (7, Pt 103 0), (43, B (((!x_1) || (!x_2)) || (!x_3)))], [(101, .box 29 (eMUnit u0)), (102, .box 29 (eMUnit v0)), (103, .box 29 (eMUnit w0))]⟩ rfl (Tri.ite h rfl (fun _ h => ?_) (fun _ h => ?_)))))
 ·refine Tri.seq (Tri.regionL ?_)
  obtain ⟨x_4, e10, h⟩ := bnd h
  refine Oc (op_call0 (skewbacklaw11_sanity_spec e10) goes10 rfl rfl) (Oc oa ?_)
  refine OpsL.nilS ⟨[(10, B x_4)], []⟩ rfl (Tri.ret (Fin.then_ret ?_))
  obtain rfl := Option.some.inj h
  refine Fin.keepS ⟨[(10, B x_4)], []⟩ rfl (Fin.result' [.one (.bool x_4)] (.inl rfl) rfl (.cons (.tmp rfl) .nil) ⟨rfl, rfl⟩)
 ·refine Tri.skip (Fin.keepS ⟨[(3, I n0), (4, I m0), (5, Pt 101 0), (6, Pt 102 0), (7, Pt 103 0)], [(101, .box 29 (eMUnit u0)), (102, .box 29 (eMUnit v0)), (103, .box 29 (eMUnit w0))]⟩ rfl (Fin.then (Tri.seq (Tri.regionL ?_))))
  refine Oc (lp tyAgg29) (Oc (lp tyAgg29) ?_)
  obtain ⟨⟨x_5, x_6⟩, e11, h⟩ := bnd h
  refine Oc (op_call0 (unit_Mul_spec e11) goes26 rfl rfl) (Oc om (Oc (op_extract rfl rfl) ?_))
  refine OpsL.keepS ⟨[(3, I n0), (4, I m0), (5, Pt 101 0), (6, Pt 102 0), (7, Pt 103 0), (45, .tup [.agg (eMUnit x_5), .one (.i x_6)]), (49, .b (.agg (eMUnit x_5)))], [(101, .box 29 (eMUnit u0)), (102, .box 29 (eMUnit v0)), (103, .box 29 (eMUnit w0))]⟩ rfl (Oc (op_extract rfl rfl) (Oc (op_alloc (k := 104) tyZero29 rfl) (Oc (op_store_p tyAgg29 rfl rfl rfl rfl (Nat.le_of_ble_eq_true rfl) rfl) (Oc oa ?_))))
  refine OpsL.nilS ⟨[(3, I n0), (4, I m0), (5, Pt 101 0), (6, Pt 102 0), (7, Pt 103 0), (11, Pt 104 0), (12, I x_6)], [(101, .box 29 (eMUnit u0)), (102, .box 29 (eMUnit v0)), (103, .box 29 (eMUnit w0)), (104, .box 29 (eMUnit x_5))]⟩ rfl (Tri.seq (Tri.regionL ?_))
  refine Oc (lp tyAgg29) (Oc (lp tyAgg29) ?_)
  obtain ⟨⟨x_7, x_8⟩, e12, h⟩ := bnd h
  refine Oc (op_call0 (unit_Mul_spec e12) goes26 rfl rfl) (Oc om (Oc (op_extract rfl rfl) ?_))
  refine OpsL.keepS ⟨[(3, I n0), (4, I m0), (5, Pt 101 0), (6, Pt 102 0), (7, Pt 103 0), (11, Pt 104 0), (12, I x_6), (51, .tup [.agg (eMUnit x_7), .one (.i x_8)]), (55, .b (.agg (eMUnit x_7)))], [(101, .box 29 (eMUnit u0)), (102, .box 29 (eMUnit v0)), (103, .box 29 (eMUnit w0)), (104, .box 29 (eMUnit x_5))]⟩ rfl (Oc (op_extract rfl rfl) (Oc (op_alloc (k := 105) tyZero29 rfl) (Oc (op_store_p tyAgg29 rfl rfl rfl rfl (Nat.le_of_ble_eq_true rfl) rfl) (Oc oa ?_))))
  refine OpsL.nilS ⟨[(3, I n0), (4, I m0), (5, Pt 101 0), (6, Pt 102 0), (7, Pt 103 0), (11, Pt 104 0), (12, I x_6), (13, Pt 105 0), (14, I x_8)], [(101, .box 29 (eMUnit u0)), (102, .box 29 (eMUnit v0)), (103, .box 29 (eMUnit w0)), (104, .box 29 (eMUnit x_5)), (105, .box 29 (eMUnit x_7))]⟩ rfl (Tri.seq (Tri.seq (Tri.regionL ?_)))
  refine Oc (lp tyAgg29) (Oc (lp tyAgg29) (Oc (op_neq_agg (eqAgg29 x_5 x_7) rfl rfl neg_dec) (Oc om ?_)))
  refine CgF (!(decide (x_5 ≠ x_7))) [] (fun g13 => trivial) (fun g13 => om) (CgF (!(decide (x_5 ≠ x_7))) [] (fun g14 => by exact trivial) (fun g14 => om) (CgF (!(decide (x_5 ≠ x_7))) [61, 62] (fun g15 => by exact ⟨g15, g15, trivial⟩) (fun g15 => op_neq rfl rfl) (Oc (op_pick_or (fun e => by rw [e]; rfl) rfl rfl rfl rfl) (OpsL.nilS ⟨[(3, I n0), (4, I m0), (5, Pt 101 0), (6, Pt 102 0), (7, Pt 103 0), (11, Pt 104 0), (12, I x_6), (64, B ((decide (x_5 ≠ x_7)) || (decide (x_6 ≠ x_8))))], [(101, .box 29 (eMUnit u0)), (102, .box 29 (eMUnit v0)), (103, .box 29 (eMUnit w0)), (104, .box 29 (eMUnit x_5))]⟩ rfl (Tri.ite h rfl (fun _ h => ?_) (fun _ h => ?_))))))
  ·refine Tri.seq (Tri.regionL ?_)
   refine Oc oa (OpsL.nilS ⟨[(10, B false)], []⟩ rfl (Tri.ret (Fin.then_ret ?_)))
   obtain rfl := Option.some.inj h
   refine Fin.keepS ⟨[(10, B false)], []⟩ rfl (Fin.result' [.one (.bool false)] (.inl rfl) rfl (.cons (.tmp rfl) .nil) ⟨rfl, rfl⟩)
  ·refine Tri.skip (Fin.keepS ⟨[(3, I n0), (4, I m0), (5, Pt 101 0), (6, Pt 102 0), (7, Pt 103 0), (11, Pt 104 0), (12, I x_6)], [(101, .box 29 (eMUnit u0)), (102, .box 29 (eMUnit v0)), (103, .box 29 (eMUnit w0)), (104, .box 29 (eMUnit x_5))]⟩ rfl (Fin.then ?_))
   obtain ⟨v16, h17, h⟩ := bnd h
   refine Tri.seqJ (v := v16) (fun (_ : Unit) => ⟨[(3, I n0), (4, I m0), (5, Pt 101 0)], [(101, .box 29 (eMUnit u0))]⟩) (fun z => .inl z) ?_ ?_
   ·refine Tri.seq (Tri.regionL ?_)
    refine Oc om (Oc (op_eql rfl rfl) ?_)
    refine OpsL.nilS ⟨[(3, I n0), (4, I m0), (5, Pt 101 0), (6, Pt 102 0), (7, Pt 103 0), (11, Pt 104 0), (66, B (decide (x_6 = 0)))], [(101, .box 29 (eMUnit u0)), (102, .box 29 (eMUnit v0)), (103, .box 29 (eMUnit w0)), (104, .box 29 (eMUnit x_5))]⟩ rfl (Tri.ite h17 rfl (fun _ h17 => ?_) (fun _ h17 => ?_))
    ·refine Tri.seq (Tri.regionL ?_)
     refine Oc (lp tyAgg29) (Oc (lp tyAgg29) ?_)
     obtain ⟨⟨x_9, x_10⟩, e18, h17⟩ := bnd h17
     refine Oc (op_call0 (unit_Div_spec e18) goes27 rfl rfl) (Oc om (Oc (op_extract rfl rfl) ?_))
     refine OpsL.keepS ⟨[(3, I n0), (4, I m0), (5, Pt 101 0), (6, Pt 102 0), (7, Pt 103 0), (11, Pt 104 0), (67, .tup [.agg (eMUnit x_9), .one (.i x_10)]), (71, .b (.agg (eMUnit x_9)))], [(101, .box 29 (eMUnit u0)), (102, .box 29 (eMUnit v0)), (103, .box 29 (eMUnit w0)), (104, .box 29 (eMUnit x_5))]⟩ rfl (Oc (op_extract rfl rfl) (Oc (op_alloc (k := 106) tyZero29 rfl) (Oc (op_store_p tyAgg29 rfl rfl rfl rfl (Nat.le_of_ble_eq_true rfl) rfl) (Oc oa ?_))))
     refine OpsL.nilS ⟨[(3, I n0), (4, I m0), (5, Pt 101 0), (6, Pt 102 0), (7, Pt 103 0), (11, Pt 104 0), (15, Pt 106 0), (16, I x_10)], [(101, .box 29 (eMUnit u0)), (102, .box 29 (eMUnit v0)), (103, .box 29 (eMUnit w0)), (104, .box 29 (eMUnit x_5)), (106, .box 29 (eMUnit x_9))]⟩ rfl (Tri.seq (Tri.seq (Tri.regionL ?_)))
     refine Oc (lp tyAgg29) (Oc (lp tyAgg29) (Oc (op_neq_agg (eqAgg29 x_9 u0) rfl rfl neg_dec) (Oc om ?_)))
     refine CgF (!(decide (x_9 ≠ u0))) [] (fun g19 => trivial) (fun g19 => om) (CgF (!(decide (x_9 ≠ u0))) [77] (fun g20 => by exact ⟨g20, trivial⟩) (fun g20 => op_neq rfl rfl) (Oc (op_pick_or (fun e => by rw [e]; rfl) rfl rfl rfl rfl) (OpsL.nilS ⟨[(3, I n0), (4, I m0), (5, Pt 101 0), (6, Pt 102 0), (7, Pt 103 0), (11, Pt 104 0), (79, B ((decide (x_9 ≠ u0)) || (decide (x_10 ≠ 0))))], [(101, .box 29 (eMUnit u0)), (102, .box 29 (eMUnit v0)), (103, .box 29 (eMUnit w0)), (104, .box 29 (eMUnit x_5))]⟩ rfl (Tri.ite h17 rfl (fun _ h17 => ?_) (fun _ h17 => ?_)))))
     ·refine Tri.seq (Tri.regionL ?_)
      refine Oc oa (OpsL.nilS ⟨[(10, B false)], []⟩ rfl (Tri.ret (Fin.then_ret ?_)))
      obtain rfl := Option.some.inj h17
      refine Fin.then_ret ?_
      obtain rfl := Option.some.inj h
      refine Fin.keepS ⟨[(10, B false)], []⟩ rfl (Fin.result' [.one (.bool false)] (.inl rfl) rfl (.cons (.tmp rfl) .nil) ⟨rfl, rfl⟩)
     ·refine Tri.skip (Fin.keepS ⟨[(3, I n0), (4, I m0), (5, Pt 101 0), (6, Pt 102 0), (7, Pt 103 0), (11, Pt 104 0)], [(101, .box 29 (eMUnit u0)), (102, .box 29 (eMUnit v0)), (103, .box 29 (eMUnit w0)), (104, .box 29 (eMUnit x_5))]⟩ rfl (Fin.then (Tri.seq (Tri.regionL ?_))))
      refine Oc (lp tyAgg29) (Oc (lp tyAgg29) ?_)
      obtain ⟨⟨x_11, x_12⟩, e21, h17⟩ := bnd h17
      refine Oc (op_call0 (unit_Mul_spec e21) goes26 rfl rfl) (Oc om (Oc (op_extract rfl rfl) ?_))
      refine OpsL.keepS ⟨[(3, I n0), (4, I m0), (5, Pt 101 0), (7, Pt 103 0), (11, Pt 104 0), (80, .tup [.agg (eMUnit x_11), .one (.i x_12)]), (84, .b (.agg (eMUnit x_11)))], [(101, .box 29 (eMUnit u0)), (103, .box 29 (eMUnit w0)), (104, .box 29 (eMUnit x_5))]⟩ rfl (Oc (op_extract rfl rfl) (Oc (op_alloc (k := 107) tyZero29 rfl) (Oc (op_store_p tyAgg29 rfl rfl rfl rfl (Nat.le_of_ble_eq_true rfl) rfl) (Oc oa ?_))))
      refine OpsL.nilS ⟨[(3, I n0), (4, I m0), (5, Pt 101 0), (7, Pt 103 0), (11, Pt 104 0), (17, Pt 107 0), (18, I x_12)], [(101, .box 29 (eMUnit u0)), (103, .box 29 (eMUnit w0)), (104, .box 29 (eMUnit x_5)), (107, .box 29 (eMUnit x_11))]⟩ rfl (Tri.seq (Tri.regionL ?_))
      refine Oc (lp tyAgg29) (Oc (lp tyAgg29) ?_)
      obtain ⟨⟨x_13, x_14⟩, e22, h17⟩ := bnd h17
      refine Oc (op_call0 (unit_Mul_spec e22) goes26 rfl rfl) (Oc om (Oc (op_extract rfl rfl) ?_))
      refine OpsL.keepS ⟨[(3, I n0), (4, I m0), (5, Pt 101 0), (17, Pt 107 0), (18, I x_12), (86, .tup [.agg (eMUnit x_13), .one (.i x_14)]), (90, .b (.agg (eMUnit x_13)))], [(101, .box 29 (eMUnit u0)), (107, .box 29 (eMUnit x_11))]⟩ rfl (Oc (op_extract rfl rfl) (Oc (op_alloc (k := 108) tyZero29 rfl) (Oc (op_store_p tyAgg29 rfl rfl rfl rfl (Nat.le_of_ble_eq_true rfl) rfl) (Oc oa ?_))))
      refine OpsL.nilS ⟨[(3, I n0), (4, I m0), (5, Pt 101 0), (17, Pt 107 0), (18, I x_12), (19, Pt 108 0), (20, I x_14)], [(101, .box 29 (eMUnit u0)), (107, .box 29 (eMUnit x_11)), (108, .box 29 (eMUnit x_13))]⟩ rfl (Tri.seq (Tri.regionL ?_))
      refine Oc (lp tyAgg29) (Oc (lp tyAgg29) ?_)
      obtain ⟨⟨x_15, x_16⟩, e23, h17⟩ := bnd h17
      refine Oc (op_call0 (unit_Mul_spec e23) goes26 rfl rfl) (Oc om (Oc (op_extract rfl rfl) ?_))
      refine OpsL.keepS ⟨[(3, I n0), (4, I m0), (5, Pt 101 0), (18, I x_12), (19, Pt 108 0), (20, I x_14), (92, .tup [.agg (eMUnit x_15), .one (.i x_16)]), (96, .b (.agg (eMUnit x_15)))], [(101, .box 29 (eMUnit u0)), (108, .box 29 (eMUnit x_13))]⟩ rfl (Oc (op_extract rfl rfl) (Oc (op_alloc (k := 109) tyZero29 rfl) (Oc (op_store_p tyAgg29 rfl rfl rfl rfl (Nat.le_of_ble_eq_true rfl) rfl) (Oc oa ?_))))
      refine OpsL.nilS ⟨[(3, I n0), (4, I m0), (5, Pt 101 0), (18, I x_12), (19, Pt 108 0), (20, I x_14), (21, Pt 109 0), (22, I x_16)], [(101, .box 29 (eMUnit u0)), (108, .box 29 (eMUnit x_13)), (109, .box 29 (eMUnit x_15))]⟩ rfl (Tri.seq (Tri.regionL ?_))
      refine Oc om (Oc (op_eql rfl rfl) (Oc om ?_))
      refine CgT (decide (x_12 = 0)) [] (fun g24 => trivial) (fun g24 => lp tyAgg29) (CgT (decide (x_12 = 0)) [] (fun g25 => by exact trivial) (fun g25 => lp tyAgg29) (CgT (decide (x_12 = 0)) [101, 102] (fun g26 => by exact ⟨g26, g26, trivial⟩) (fun g26 => op_neq_agg (eqAgg29 x_13 x_15) rfl rfl neg_dec) (CgT (decide (x_12 = 0)) [103] (fun g27 => by exact ⟨g27, trivial⟩) (fun g27 => om) (OpsL.keepS ⟨[(3, I n0), (4, I m0), (5, Pt 101 0), (20, I x_14), (22, I x_16), (100, B (decide (x_12 = 0))), (104, .opt (decide (x_12 = 0)) (.one (.bool (decide (x_13 ≠ x_15)))))], [(101, .box 29 (eMUnit u0))]⟩ rfl (OpsL.consG ((decide (x_12 = 0)) && !(decide (x_13 ≠ x_15))) 99 [] (.under rfl) (and_f _ _) rfl rfl (fun g28 => by exact trivial) (fun g28 => om) ?_)))))
      refine OpsL.consG ((decide (x_12 = 0)) && !(decide (x_13 ≠ x_15))) 99 [] (.under rfl) (and_f _ _) rfl rfl (fun g29 => trivial) (fun g29 => om) (OpsL.consG ((decide (x_12 = 0)) && !(decide (x_13 ≠ x_15))) 99 [105, 106] (.under rfl) (and_f _ _) rfl rfl (fun g30 => by exact ⟨g30, g30, trivial⟩) (fun g30 => op_neq rfl rfl) (CgT (decide (x_12 = 0)) [104] (fun g31 => by exact ⟨g31, trivial⟩) (fun g31 => op_pick_or (fun e => by rw [g31, e]; rfl) rfl rfl rfl rfl) (OpsL.consB h17 rfl (op_pick_and (fun e => e) rfl rfl rfl rfl) (fun x_17 h17 => ?_))))
      refine OpsL.nilS ⟨[(3, I n0), (4, I m0), (5, Pt 101 0), (109, B x_17)], [(101, .box 29 (eMUnit u0))]⟩ rfl (Tri.ite h17 rfl (fun _ h17 => ?_) (fun _ h17 => ?_))
      ·refine Tri.seq (Tri.regionL ?_)
       refine Oc oa (OpsL.nilS ⟨[(10, B false)], []⟩ rfl (Tri.ret ?_))
       obtain rfl := Option.some.inj h17
       refine Fin.then_ret ?_
       obtain rfl := Option.some.inj h
       refine Fin.keepS ⟨[(10, B false)], []⟩ rfl (Fin.result' [.one (.bool false)] (.inl rfl) rfl (.cons (.tmp rfl) .nil) ⟨rfl, rfl⟩)
      ·refine Tri.skip ?_
       exact Fin.join [3, 4, 5] [101] () (Option.some.inj h17) rfl
    ·refine Tri.skip ?_
     exact Fin.join [3, 4, 5] [101] () (Option.some.inj h17) rfl
   ·rintro _ hv
    subst v16
    refine Tri.seq (Tri.regionL ?_)
    refine Oc (lp tyAgg29) (Oc om ?_)
    obtain ⟨⟨x_18, x_19⟩, e32, h⟩ := bnd h
    refine Oc (op_call0 (unit_Pow_spec e32) goes28 rfl rfl) (Oc om (Oc (op_extract rfl rfl) ?_))
    refine OpsL.keepS ⟨[(3, I n0), (4, I m0), (5, Pt 101 0), (110, .tup [.agg (eMUnit x_18), .one (.i x_19)]), (114, .b (.agg (eMUnit x_18)))], [(101, .box 29 (eMUnit u0))]⟩ rfl (Oc (op_extract rfl rfl) (Oc (op_alloc (k := 110) tyZero29 rfl) (Oc (op_store_p tyAgg29 rfl rfl rfl rfl (Nat.le_of_ble_eq_true rfl) rfl) (Oc oa ?_))))
    refine OpsL.nilS ⟨[(3, I n0), (4, I m0), (5, Pt 101 0), (23, Pt 110 0), (24, I x_19)], [(101, .box 29 (eMUnit u0)), (110, .box 29 (eMUnit x_18))]⟩ rfl (Tri.seq (Tri.regionL ?_))
    refine Oc (lp tyAgg29) (Oc om ?_)
    obtain ⟨⟨x_20, x_21⟩, e33, h⟩ := bnd h
    refine Oc (op_call0 (unit_Pow_spec e33) goes28 rfl rfl) (Oc om (Oc (op_extract rfl rfl) ?_))
    refine OpsL.keepS ⟨[(3, I n0), (4, I m0), (5, Pt 101 0), (23, Pt 110 0), (24, I x_19), (116, .tup [.agg (eMUnit x_20), .one (.i x_21)]), (120, .b (.agg (eMUnit x_20)))], [(101, .box 29 (eMUnit u0)), (110, .box 29 (eMUnit x_18))]⟩ rfl (Oc (op_extract rfl rfl) (Oc (op_alloc (k := 111) tyZero29 rfl) (Oc (op_store_p tyAgg29 rfl rfl rfl rfl (Nat.le_of_ble_eq_true rfl) rfl) (Oc oa ?_))))
    refine OpsL.nilS ⟨[(3, I n0), (4, I m0), (5, Pt 101 0), (23, Pt 110 0), (24, I x_19), (25, Pt 111 0), (26, I x_21)], [(101, .box 29 (eMUnit u0)), (110, .box 29 (eMUnit x_18)), (111, .box 29 (eMUnit x_20))]⟩ rfl (Tri.seq (Tri.seq (Tri.regionL ?_)))
    refine Oc om (Oc (op_neq rfl rfl) (Oc om ?_))
    refine CgF (!(decide (x_19 ≠ 0))) [] (fun g34 => trivial) (fun g34 => om) (CgF (!(decide (x_19 ≠ 0))) [125] (fun g35 => by exact ⟨g35, trivial⟩) (fun g35 => op_neq rfl rfl) (Oc (op_pick_or (fun e => by rw [e]; rfl) rfl rfl rfl rfl) (OpsL.nilS ⟨[(3, I n0), (4, I m0), (5, Pt 101 0), (23, Pt 110 0), (25, Pt 111 0), (127, B ((decide (x_19 ≠ 0)) || (decide (x_21 ≠ 0))))], [(101, .box 29 (eMUnit u0)), (110, .box 29 (eMUnit x_18)), (111, .box 29 (eMUnit x_20))]⟩ rfl (Tri.ite h rfl (fun _ h => ?_) (fun _ h => ?_)))))
    ·refine Tri.seq (Tri.regionL ?_)
     obtain ⟨x_22, e36, h⟩ := bnd h
     refine Oc (op_call0 (skewbacklaw11_sanity_spec e36) goes10 rfl rfl) (Oc oa ?_)
     refine OpsL.nilS ⟨[(10, B x_22)], []⟩ rfl (Tri.ret (Fin.then_ret ?_))
     obtain rfl := Option.some.inj h
     refine Fin.keepS ⟨[(10, B x_22)], []⟩ rfl (Fin.result' [.one (.bool x_22)] (.inl rfl) rfl (.cons (.tmp rfl) .nil) ⟨rfl, rfl⟩)
    ·refine Tri.skip (Fin.keepS ⟨[(3, I n0), (4, I m0), (5, Pt 101 0), (23, Pt 110 0), (25, Pt 111 0)], [(101, .box 29 (eMUnit u0)), (110, .box 29 (eMUnit x_18)), (111, .box 29 (eMUnit x_20))]⟩ rfl (Fin.then (Tri.seq (Tri.regionL ?_))))
     refine Oc (lp tyAgg29) (Oc (lp tyAgg29) ?_)
     obtain ⟨⟨x_23, x_24⟩, e37, h⟩ := bnd h
     refine Oc (op_call0 (unit_Mul_spec e37) goes26 rfl rfl) (Oc om (Oc (op_extract rfl rfl) ?_))
     refine OpsL.keepS ⟨[(3, I n0), (4, I m0), (5, Pt 101 0), (129, .tup [.agg (eMUnit x_23), .one (.i x_24)]), (133, .b (.agg (eMUnit x_23)))], [(101, .box 29 (eMUnit u0))]⟩ rfl (Oc (op_extract rfl rfl) (Oc (op_alloc (k := 112) tyZero29 rfl) (Oc (op_store_p tyAgg29 rfl rfl rfl rfl (Nat.le_of_ble_eq_true rfl) rfl) (Oc oa ?_))))
     refine OpsL.nilS ⟨[(3, I n0), (4, I m0), (5, Pt 101 0), (27, Pt 112 0), (28, I x_24)], [(101, .box 29 (eMUnit u0)), (112, .box 29 (eMUnit x_23))]⟩ rfl (Tri.seq (Tri.regionL ?_))
     refine Oc (lp tyAgg29) (Oc om (Oc om (Oc (op_add rfl rfl) ?_)))
     obtain ⟨⟨x_25, x_26⟩, e38, h⟩ := bnd h
     refine Oc (op_call0 (unit_Pow_spec e38) goes28 rfl rfl) (OpsL.keepS ⟨[(27, Pt 112 0), (28, I x_24), (140, .tup [.agg (eMUnit x_25), .one (.i x_26)])], [(112, .box 29 (eMUnit x_23))]⟩ rfl (Oc om (Oc (op_extract rfl rfl) (Oc (op_extract rfl rfl) (Oc (op_alloc (k := 113) tyZero29 rfl) (Oc (op_store_p tyAgg29 rfl rfl rfl rfl (Nat.le_of_ble_eq_true rfl) rfl) (Oc oa ?_)))))))
     refine OpsL.nilS ⟨[(27, Pt 112 0), (28, I x_24), (29, Pt 113 0), (30, I x_26)], [(112, .box 29 (eMUnit x_23)), (113, .box 29 (eMUnit x_25))]⟩ rfl (Tri.seq (Tri.regionL ?_))
     obtain ⟨x_27, e39, h⟩ := bnd h
     refine Oc (op_call0 (skewbacklaw11_sanity_spec e39) goes10 rfl rfl) (Oc om ?_)
     refine CgT x_27 [] (fun g40 => trivial) (fun g40 => om) (CgT x_27 [145] (fun g41 => by exact ⟨g41, trivial⟩) (fun g41 => op_neq rfl rfl) (CgT x_27 [146] (fun g42 => by exact ⟨g42, trivial⟩) (fun g42 => om) (OpsL.keepS ⟨[(27, Pt 112 0), (29, Pt 113 0), (30, I x_26), (144, B x_27), (147, .opt x_27 (.one (.bool (decide (x_24 ≠ 0)))))], [(112, .box 29 (eMUnit x_23)), (113, .box 29 (eMUnit x_25))]⟩ rfl (OpsL.consG (x_27 && !(decide (x_24 ≠ 0))) 99 [] (.under rfl) (and_f _ _) rfl rfl (fun g43 => by exact trivial) (fun g43 => om) (OpsL.consG (x_27 && !(decide (x_24 ≠ 0))) 99 [148] (.under rfl) (and_f _ _) rfl rfl (fun g44 => by exact ⟨g44, trivial⟩) (fun g44 => op_eql rfl rfl) ?_)))))
     refine CgT x_27 [147] (fun g45 => ⟨g45, trivial⟩) (fun g45 => op_pick_or (fun e => by rw [g45, e]; rfl) rfl rfl rfl rfl) (CgT x_27 [150] (fun g46 => ⟨g46, trivial⟩) (fun g46 => om) (OpsL.consG (x_27 && !((decide (x_24 ≠ 0)) || (decide (x_26 = 1)))) 99 [] (.under rfl) (and_f _ _) rfl rfl (fun g47 => by exact trivial) (fun g47 => om) (OpsL.consG (x_27 && !((decide (x_24 ≠ 0)) || (decide (x_26 = 1)))) 99 [152] (.under rfl) (and_f _ _) rfl rfl (fun g48 => by exact ⟨g48, trivial⟩) (fun g48 => op_eql rfl rfl) (OpsL.consG (x_27 && !((decide (x_24 ≠ 0)) || (decide (x_26 = 1)))) 99 [153] (.under rfl) (and_f _ _) rfl rfl (fun g49 => by exact ⟨g49, trivial⟩) (fun g49 => om) (OpsL.consG ((x_27 && !((decide (x_24 ≠ 0)) || (decide (x_26 = 1)))) && (decide (x_26 = 0))) 99 [] (.under rfl) (and_t _ _) rfl rfl (fun g50 => by exact trivial) (fun g50 => lp tyAgg29) ?_)))))
     refine OpsL.keepS ⟨[(29, Pt 113 0), (144, B x_27), (151, .opt x_27 (.one (.bool ((decide (x_24 ≠ 0)) || (decide (x_26 = 1)))))), (154, .opt (x_27 && !((decide (x_24 ≠ 0)) || (decide (x_26 = 1)))) (.one (.bool (decide (x_26 = 0))))), (155, .opt ((x_27 && !((decide (x_24 ≠ 0)) || (decide (x_26 = 1)))) && (decide (x_26 = 0))) (.agg (eMUnit x_23)))], [(113, .box 29 (eMUnit x_25))]⟩ rfl (OpsL.consG ((x_27 && !((decide (x_24 ≠ 0)) || (decide (x_26 = 1)))) && (decide (x_26 = 0))) 99 [] (.under rfl) (and_t _ _) rfl rfl (fun g51 => trivial) (fun g51 => lp tyAgg29) (OpsL.consG ((x_27 && !((decide (x_24 ≠ 0)) || (decide (x_26 = 1)))) && (decide (x_26 = 0))) 99 [155, 156] (.under rfl) (and_t _ _) rfl rfl (fun g52 => by exact ⟨g52, g52, trivial⟩) (fun g52 => op_eql_agg (eqAgg29 x_23 x_25) rfl rfl) (OpsL.consG (x_27 && !((decide (x_24 ≠ 0)) || (decide (x_26 = 1)))) 99 [154] (.under rfl) (and_f _ _) rfl rfl (fun g53 => by exact ⟨g53, trivial⟩) (fun g53 => op_pick_and (fun e => by rw [g53, e]; rfl) rfl rfl rfl rfl) (CgT x_27 [151] (fun g54 => by exact ⟨g54, trivial⟩) (fun g54 => op_pick_or (fun e => by rw [g54, e]; rfl) rfl rfl rfl rfl) (OpsL.consB h rfl (op_pick_and (fun e => e) rfl rfl rfl rfl) (fun x_28 h => ?_))))))
     refine Oc oa (OpsL.nilS ⟨[(10, B x_28)], []⟩ rfl (Tri.ret ?_))
     obtain rfl := Option.some.inj h
     refine Fin.keepS ⟨[(10, B x_28)], []⟩ rfl (Fin.result' [.one (.bool x_28)] (.inl rfl) rfl (.cons (.tmp rfl) .nil) ⟨rfl, rfl⟩)
end Go.Proofs.YtcbbilehdaaffaaGreatDoor

