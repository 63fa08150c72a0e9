/- printed walks -/
import Derived.Test.YtdjnlmmhbeeihaaGreatDoorW3
namespace Go.Proofs.YtdjnlmmhbeeihaaGreatDoor
open Go.Sk
set_option maxHeartbeats 1000000
set_option maxRecDepth 4000
set_option linter.unusedSimpArgs false
set_option linter.unusedVariables false
variable {mx : Int}
def skewbacklaw04_sanity_S (F : Nat) : Option Bool :=
 Option.bind (ratio_Frac_S F 6 (-4)) (fun x_1 => Option.bind (skewbacklaw04_text_S F x_1 [45, 51, 47, 50]) (fun x_2 => Option.bind (gcall x_2 (ratio_Frac_S F 1 0)) (fun x_3 => Option.bind (gcall x_2 (ratio_Bad_S F)) (fun x_4 => Option.bind (gcall (x_2 && (decide (x_3 = x_4))) (ratio_Frac_S F 1 6)) (fun x_5 => Option.bind (gcall (x_2 && (decide (x_3 = x_4))) (ratio_Frac_S F 1 10)) (fun x_6 => Option.bind (gcall (x_2 && (decide (x_3 = x_4))) (ratio_Add_S F x_5 x_6)) (fun x_7 => Option.bind (gcall (x_2 && (decide (x_3 = x_4))) (skewbacklaw04_text_S F x_7 [52, 47, 49, 53])) (fun x_8 => Option.bind (gcall ((x_2 && (decide (x_3 = x_4))) && x_8) (ratio_Frac_S F 2 3)) (fun x_9 => Option.bind (gcall ((x_2 && (decide (x_3 = x_4))) && x_8) (ratio_Frac_S F 3 4)) (fun x_10 => Option.bind (gcall ((x_2 && (decide (x_3 = x_4))) && x_8) (ratio_Mul_S F x_9 x_10)) (fun x_11 => Option.bind (gcall ((x_2 && (decide (x_3 = x_4))) && x_8) (skewbacklaw04_text_S F x_11 [49, 47, 50])) (fun x_12 => Option.bind (gcall (((x_2 && (decide (x_3 = x_4))) && x_8) && x_12) (ratio_Frac_S F 1 1)) (fun x_13 => Option.bind (gcall (((x_2 && (decide (x_3 = x_4))) && x_8) && x_12) (ratio_Frac_S F 0 1)) (fun x_14 => Option.bind (gcall (((x_2 && (decide (x_3 = x_4))) && x_8) && x_12) (ratio_Div_S F x_13 x_14)) (fun x_15 => Option.bind (gcall (((x_2 && (decide (x_3 = x_4))) && x_8) && x_12) (ratio_Bad_S F)) (fun x_16 => letN ((((x_2 && (decide (x_3 = x_4))) && x_8) && x_12) && (decide (x_15 = x_16))) fun x_17 => Option.bind (ratio_Frac_S F (-7) 2) (fun x_18 => Option.bind (ratio_Floor_S F x_18) (fun x_19 => Option.bind (skewbackref03_Of_S F (-4)) (fun x_20 => Option.bind (gcall (decide (x_19 = x_20)) (ratio_Ceil_S F x_18)) (fun x_21 => Option.bind (gcall (decide (x_19 = x_20)) (skewbackref03_Of_S F (-3))) (fun x_22 => Option.bind (gcall ((decide (x_19 = x_20)) && (decide (x_21 = x_22))) (ratio_Near_S F x_18)) (fun x_23 => Option.bind (gcall ((decide (x_19 = x_20)) && (decide (x_21 = x_22))) (skewbackref03_Of_S F (-3))) (fun x_24 => letN (((decide (x_19 = x_20)) && (decide (x_21 = x_22))) && (decide (x_23 = x_24))) fun x_25 => Option.bind (gcall x_25 (ratio_Frac_S F 7 2)) (fun x_26 => Option.bind (gcall x_25 (ratio_Near_S F x_26)) (fun x_27 => Option.bind (gcall x_25 (skewbackref03_Of_S F 4)) (fun x_28 => Option.bind (ratio_Frac_S F 1 3) (fun x_29 => Option.bind (ratio_Dyadic_S F x_29 2) (un2 fun x_30 x_31 => Option.bind (skewbacklaw04_text_S F x_30 [49, 47, 52]) (fun x_32 => Option.bind (gcall x_32 (skewbacklaw04_text_S F x_31 [49, 47, 50])) (fun x_33 => Option.bind (gcall (x_32 && x_33) (ratio_Frac_S F 1 3)) (fun x_34 => Option.bind (gcall (x_32 && x_33) (ratio_Frac_S F 2 5)) (fun x_35 => Option.bind (gcall (x_32 && x_33) (ratio_Simplest_S F x_34 x_35)) (fun x_36 => Option.bind (gcall (x_32 && x_33) (skewbacklaw04_text_S F x_36 [49, 47, 51])) (fun x_37 => Option.bind (gcall ((x_32 && x_33) && x_37) (ratio_Frac_S F (-3) 1)) (fun x_38 => Option.bind (gcall ((x_32 && x_33) && x_37) (ratio_Frac_S F 5 2)) (fun x_39 => Option.bind (gcall ((x_32 && x_33) && x_37) (ratio_Simplest_S F x_38 x_39)) (fun x_40 => Option.bind (gcall ((x_32 && x_33) && x_37) (skewbacklaw04_text_S F x_40 [48])) (fun x_41 => Option.bind (gcall (((x_32 && x_33) && x_37) && x_41) (ratio_Frac_S F 7 5)) (fun x_42 => Option.bind (gcall (((x_32 && x_33) && x_37) && x_41) (ratio_Frac_S F 5 2)) (fun x_43 => Option.bind (gcall (((x_32 && x_33) && x_37) && x_41) (ratio_Simplest_S F x_42 x_43)) (fun x_44 => Option.bind (gcall (((x_32 && x_33) && x_37) && x_41) (skewbacklaw04_text_S F x_44 [50])) (fun x_45 => Option.bind (gcall ((((x_32 && x_33) && x_37) && x_41) && x_45) (ratio_Frac_S F 31 10)) (fun x_46 => Option.bind (gcall ((((x_32 && x_33) && x_37) && x_41) && x_45) (ratio_Frac_S F 32 10)) (fun x_47 => Option.bind (gcall ((((x_32 && x_33) && x_37) && x_41) && x_45) (ratio_Simplest_S F x_46 x_47)) (fun x_48 => Option.bind (gcall ((((x_32 && x_33) && x_37) && x_41) && x_45) (skewbacklaw04_text_S F x_48 [49, 54, 47, 53])) (fun x_49 => Option.bind (ratio_Parse_S F [50, 47, 52]) (un2 fun x_50 x_51 => Option.bind (ratio_Parse_S F [45, 51, 47, 50]) (un2 fun x_52 x_53 => Option.bind (gcall ((((x_17 && (x_25 && (decide (x_27 = x_28)))) && (((((x_32 && x_33) && x_37) && x_41) && x_45) && x_49)) && (decide (x_51 = 281))) && (decide (x_53 = 0))) (ratio_Frac_S F 6 (-4))) (fun x_54 => Option.bind (gcall (((((x_17 && (x_25 && (decide (x_27 = x_28)))) && (((((x_32 && x_33) && x_37) && x_41) && x_45) && x_49)) && (decide (x_51 = 281))) && (decide (x_53 = 0))) && (decide (x_52 = x_54))) (ratio_Frac_S F (-1) 1)) (fun x_55 => Option.bind (gcall (((((x_17 && (x_25 && (decide (x_27 = x_28)))) && (((((x_32 && x_33) && x_37) && x_41) && x_45) && x_49)) && (decide (x_51 = 281))) && (decide (x_53 = 0))) && (decide (x_52 = x_54))) (ratio_Cmp_S F x_52 x_55)) (fun x_56 => Option.bind (gcall ((((((x_17 && (x_25 && (decide (x_27 = x_28)))) && (((((x_32 && x_33) && x_37) && x_41) && x_45) && x_49)) && (decide (x_51 = 281))) && (decide (x_53 = 0))) && (decide (x_52 = x_54))) && (decide (x_56 = (-1)))) (ratio_Good_S F x_52)) (fun x_57 => Option.bind (gcall (((((((x_17 && (x_25 && (decide (x_27 = x_28)))) && (((((x_32 && x_33) && x_37) && x_41) && x_45) && x_49)) && (decide (x_51 = 281))) && (decide (x_53 = 0))) && (decide (x_52 = x_54))) && (decide (x_56 = (-1)))) && x_57) (ratio_Bad_S F)) (fun x_58 => Option.bind (gcall (((((((x_17 && (x_25 && (decide (x_27 = x_28)))) && (((((x_32 && x_33) && x_37) && x_41) && x_45) && x_49)) && (decide (x_51 = 281))) && (decide (x_53 = 0))) && (decide (x_52 = x_54))) && (decide (x_56 = (-1)))) && x_57) (ratio_Valid_S F x_58)) (fun x_59 => Option.bind (gcall ((((((((x_17 && (x_25 && (decide (x_27 = x_28)))) && (((((x_32 && x_33) && x_37) && x_41) && x_45) && x_49)) && (decide (x_51 = 281))) && (decide (x_53 = 0))) && (decide (x_52 = x_54))) && (decide (x_56 = (-1)))) && x_57) && x_59) (ratio_Bad_S F)) (fun x_60 => Option.bind (gcall ((((((((x_17 && (x_25 && (decide (x_27 = x_28)))) && (((((x_32 && x_33) && x_37) && x_41) && x_45) && x_49)) && (decide (x_51 = 281))) && (decide (x_53 = 0))) && (decide (x_52 = x_54))) && (decide (x_56 = (-1)))) && x_57) && x_59) (ratio_Good_S F x_60)) (fun x_61 => some (((((((((x_17 && (x_25 && (decide (x_27 = x_28)))) && (((((x_32 && x_33) && x_37) && x_41) && x_45) && x_49)) && (decide (x_51 = 281))) && (decide (x_53 = 0))) && (decide (x_52 = x_54))) && (decide (x_56 = (-1)))) && x_57) && x_59) && (!x_61))))))))))))))))))))))))))))))))))))))))))))))))))))))))))
theorem skewbacklaw04_sanity_spec {F : Nat} {r : Bool} (h : skewbacklaw04_sanity_S F = some r) : Meets Tryz.prog (tabs mx) 16 [] [] (Is [] (.b (.one (.bool r)))) := by
 unfold skewbacklaw04_sanity_S at h
 refine Meets.intro 164 Tryz.func16 Tryz.ntmps16 rfl (by simp) fun E => ?_
 show Tri _ E ⟨164, [], []⟩ _ ⟨[], []⟩ _
 refine Tri.seq (Tri.regionL ?_)
 refine Oc rfl (op_assign rfl) ?_
 refine OpsL.nilS ⟨[], []⟩ rfl ?_
 refine Tri.seq (Tri.regionL ?_)
 refine Oc rfl (op_assign rfl) ?_
 refine OpsL.nilS ⟨[(1, .b (.one (.raw (.func (.func 22) #[] #[]))))], []⟩ rfl ?_
 refine Tri.seq (Tri.regionL ?_)
 refine Oc rfl (op_move rfl) ?_
 obtain ⟨x_1, e1, h⟩ := bnd h
 refine Oc rfl (op_callv0 (ratio_Frac_spec e1) goes22 rfl rfl rfl) ?_
 obtain ⟨x_2, e2, h⟩ := bnd h
 refine Oc rfl (op_call0 (skewbacklaw04_text_spec e2) goes87 rfl rfl) ?_
 refine OpsL.keepS ⟨[(1, .b (.one (.raw (.func (.func 22) #[] #[])))), (14, B x_2)], []⟩ rfl ?_
 refine Oc rfl (op_move rfl) ?_
 refine OpsL.consG x_2 99 [] (.plain rfl) (eq_t _) rfl rfl (fun g3 => trivial) (fun g3 => op_move rfl) ?_
 obtain ⟨x_3, e5, h⟩ := bnd h
 refine OpsL.consG x_2 99 [16] (.plain rfl) (eq_t _) rfl rfl (fun g4 => ⟨g4, trivial⟩) (fun g4 => op_callv0 (ratio_Frac_spec (gc e5 g4)) goes22 rfl rfl rfl) ?_
 obtain ⟨x_4, e7, h⟩ := bnd h
 refine OpsL.consG x_2 99 [] (.plain rfl) (eq_t _) rfl rfl (fun g6 => trivial) (fun g6 => op_call0 (ratio_Bad_spec (gc e7 g6)) goes27 rfl rfl) ?_
 refine OpsL.keepS ⟨[(1, .b (.one (.raw (.func (.func 22) #[] #[])))), (15, B x_2), (17, .opt x_2 (.agg (eFrc x_3))), (18, .opt x_2 (.agg (eFrc x_4)))], []⟩ rfl ?_
 refine OpsL.consG x_2 99 [17, 18] (.plain rfl) (eq_t _) rfl rfl (fun g8 => ⟨g8, g8, trivial⟩) (fun g8 => op_eql_agg (eqAgg27 x_3 x_4) rfl rfl) ?_
 refine Oc rfl (op_pick_and (fun e => e) rfl rfl rfl rfl) (Oc rfl (op_move rfl) ?_)
 refine OpsL.consG (x_2 && (decide (x_3 = x_4))) 99 [] (.plain rfl) (eq_t _) rfl rfl (fun g9 => trivial) (fun g9 => op_move rfl) ?_
 obtain ⟨x_5, e11, h⟩ := bnd h
 refine OpsL.consG (x_2 && (decide (x_3 = x_4))) 99 [22] (.plain rfl) (eq_t _) rfl rfl (fun g10 => ⟨g10, trivial⟩) (fun g10 => op_callv0 (ratio_Frac_spec (gc e11 g10)) goes22 rfl rfl rfl) ?_
 refine OpsL.consG (x_2 && (decide (x_3 = x_4))) 99 [] (.plain rfl) (eq_t _) rfl rfl (fun g12 => trivial) (fun g12 => op_move rfl) ?_
 refine OpsL.keepS ⟨[(1, .b (.one (.raw (.func (.func 22) #[] #[])))), (21, B (x_2 && (decide (x_3 = x_4)))), (23, .opt (x_2 && (decide (x_3 = x_4))) (.agg (eFrc x_5))), (24, .opt (x_2 && (decide (x_3 = x_4))) (.one (.raw (.func (.func 22) #[] #[]))))], []⟩ rfl ?_
 obtain ⟨x_6, e14, h⟩ := bnd h
 refine OpsL.consG (x_2 && (decide (x_3 = x_4))) 99 [24] (.plain rfl) (eq_t _) rfl rfl (fun g13 => ⟨g13, trivial⟩) (fun g13 => op_callv0 (ratio_Frac_spec (gc e14 g13)) goes22 rfl rfl rfl) ?_
 obtain ⟨x_7, e16, h⟩ := bnd h
 refine OpsL.consG (x_2 && (decide (x_3 = x_4))) 99 [23, 25] (.plain rfl) (eq_t _) rfl rfl (fun g15 => ⟨g15, g15, trivial⟩) (fun g15 => op_call0 (ratio_Add_spec (gc e16 g15)) goes42 rfl rfl) ?_
 obtain ⟨x_8, e18, h⟩ := bnd h
 refine OpsL.consG (x_2 && (decide (x_3 = x_4))) 99 [26] (.plain rfl) (eq_t _) rfl rfl (fun g17 => ⟨g17, trivial⟩) (fun g17 => op_call0 (skewbacklaw04_text_spec (gc e18 g17)) goes87 rfl rfl) ?_
 refine Oc rfl (op_pick_and (fun e => e) rfl rfl rfl rfl) ?_
 refine OpsL.keepS ⟨[(1, .b (.one (.raw (.func (.func 22) #[] #[])))), (28, B ((x_2 && (decide (x_3 = x_4))) && x_8))], []⟩ rfl ?_
 refine Oc rfl (op_move rfl) ?_
 refine OpsL.consG ((x_2 && (decide (x_3 = x_4))) && x_8) 99 [] (.plain rfl) (eq_t _) rfl rfl (fun g19 => trivial) (fun g19 => op_move rfl) ?_
 obtain ⟨x_9, e21, h⟩ := bnd h
 refine OpsL.consG ((x_2 && (decide (x_3 = x_4))) && x_8) 99 [30] (.plain rfl) (eq_t _) rfl rfl (fun g20 => ⟨g20, trivial⟩) (fun g20 => op_callv0 (ratio_Frac_spec (gc e21 g20)) goes22 rfl rfl rfl) ?_
 refine OpsL.consG ((x_2 && (decide (x_3 = x_4))) && x_8) 99 [] (.plain rfl) (eq_t _) rfl rfl (fun g22 => trivial) (fun g22 => op_move rfl) ?_
 refine OpsL.keepS ⟨[(1, .b (.one (.raw (.func (.func 22) #[] #[])))), (29, B ((x_2 && (decide (x_3 = x_4))) && x_8)), (31, .opt ((x_2 && (decide (x_3 = x_4))) && x_8) (.agg (eFrc x_9))), (32, .opt ((x_2 && (decide (x_3 = x_4))) && x_8) (.one (.raw (.func (.func 22) #[] #[]))))], []⟩ rfl ?_
 obtain ⟨x_10, e24, h⟩ := bnd h
 refine OpsL.consG ((x_2 && (decide (x_3 = x_4))) && x_8) 99 [32] (.plain rfl) (eq_t _) rfl rfl (fun g23 => ⟨g23, trivial⟩) (fun g23 => op_callv0 (ratio_Frac_spec (gc e24 g23)) goes22 rfl rfl rfl) ?_
 obtain ⟨x_11, e26, h⟩ := bnd h
 refine OpsL.consG ((x_2 && (decide (x_3 = x_4))) && x_8) 99 [31, 33] (.plain rfl) (eq_t _) rfl rfl (fun g25 => ⟨g25, g25, trivial⟩) (fun g25 => op_call0 (ratio_Mul_spec (gc e26 g25)) goes45 rfl rfl) ?_
 obtain ⟨x_12, e28, h⟩ := bnd h
 refine OpsL.consG ((x_2 && (decide (x_3 = x_4))) && x_8) 99 [34] (.plain rfl) (eq_t _) rfl rfl (fun g27 => ⟨g27, trivial⟩) (fun g27 => op_call0 (skewbacklaw04_text_spec (gc e28 g27)) goes87 rfl rfl) ?_
 refine Oc rfl (op_pick_and (fun e => e) rfl rfl rfl rfl) ?_
 refine OpsL.keepS ⟨[(1, .b (.one (.raw (.func (.func 22) #[] #[])))), (36, B (((x_2 && (decide (x_3 = x_4))) && x_8) && x_12))], []⟩ rfl ?_
 refine Oc rfl (op_move rfl) ?_
 refine OpsL.consG (((x_2 && (decide (x_3 = x_4))) && x_8) && x_12) 99 [] (.plain rfl) (eq_t _) rfl rfl (fun g29 => trivial) (fun g29 => op_move rfl) ?_
 obtain ⟨x_13, e31, h⟩ := bnd h
 refine OpsL.consG (((x_2 && (decide (x_3 = x_4))) && x_8) && x_12) 99 [38] (.plain rfl) (eq_t _) rfl rfl (fun g30 => ⟨g30, trivial⟩) (fun g30 => op_callv0 (ratio_Frac_spec (gc e31 g30)) goes22 rfl rfl rfl) ?_
 refine OpsL.consG (((x_2 && (decide (x_3 = x_4))) && x_8) && x_12) 99 [] (.plain rfl) (eq_t _) rfl rfl (fun g32 => trivial) (fun g32 => op_move rfl) ?_
 refine OpsL.keepS ⟨[(1, .b (.one (.raw (.func (.func 22) #[] #[])))), (37, B (((x_2 && (decide (x_3 = x_4))) && x_8) && x_12)), (39, .opt (((x_2 && (decide (x_3 = x_4))) && x_8) && x_12) (.agg (eFrc x_13))), (40, .opt (((x_2 && (decide (x_3 = x_4))) && x_8) && x_12) (.one (.raw (.func (.func 22) #[] #[]))))], []⟩ rfl ?_
 obtain ⟨x_14, e34, h⟩ := bnd h
 refine OpsL.consG (((x_2 && (decide (x_3 = x_4))) && x_8) && x_12) 99 [40] (.plain rfl) (eq_t _) rfl rfl (fun g33 => ⟨g33, trivial⟩) (fun g33 => op_callv0 (ratio_Frac_spec (gc e34 g33)) goes22 rfl rfl rfl) ?_
 obtain ⟨x_15, e36, h⟩ := bnd h
 refine OpsL.consG (((x_2 && (decide (x_3 = x_4))) && x_8) && x_12) 99 [39, 41] (.plain rfl) (eq_t _) rfl rfl (fun g35 => ⟨g35, g35, trivial⟩) (fun g35 => op_call0 (ratio_Div_spec (gc e36 g35)) goes46 rfl rfl) ?_
 obtain ⟨x_16, e38, h⟩ := bnd h
 refine OpsL.consG (((x_2 && (decide (x_3 = x_4))) && x_8) && x_12) 99 [] (.plain rfl) (eq_t _) rfl rfl (fun g37 => trivial) (fun g37 => op_call0 (ratio_Bad_spec (gc e38 g37)) goes27 rfl rfl) ?_
 refine OpsL.consG (((x_2 && (decide (x_3 = x_4))) && x_8) && x_12) 99 [42, 43] (.plain rfl) (eq_t _) rfl rfl (fun g39 => ⟨g39, g39, trivial⟩) (fun g39 => op_eql_agg (eqAgg27 x_15 x_16) rfl rfl) ?_
 refine OpsL.consB h rfl (op_pick_and (fun e => e) rfl rfl rfl rfl) (fun x_17 h => ?_)
 refine Oc rfl (op_assign rfl) ?_
 refine OpsL.nilS ⟨[(1, .b (.one (.raw (.func (.func 22) #[] #[])))), (2, B x_17)], []⟩ rfl ?_
 refine Tri.seq (Tri.regionL ?_)
 refine Oc rfl (op_move rfl) ?_
 obtain ⟨x_18, e40, h⟩ := bnd h
 refine Oc rfl (op_callv0 (ratio_Frac_spec e40) goes22 rfl rfl rfl) (Oc rfl (op_alloc (k := 101) tyZero27 rfl) (Oc rfl (op_store_p tyAgg27 rfl rfl rfl rfl (Nat.le_of_ble_eq_true rfl) rfl) ?_))
 refine OpsL.nilS ⟨[(1, .b (.one (.raw (.func (.func 22) #[] #[])))), (2, B x_17), (3, Pt 101 0)], [(101, .box 27 (eFrc x_18))]⟩ rfl ?_
 refine Tri.seq (Tri.regionL ?_)
 refine Oc rfl (op_load_p tyAgg27 rfl rfl rfl rfl) ?_
 obtain ⟨x_19, e41, h⟩ := bnd h
 refine Oc rfl (op_call0 (ratio_Floor_spec e41) goes31 rfl rfl) ?_
 obtain ⟨x_20, e42, h⟩ := bnd h
 refine Oc rfl (op_call0 (skewbackref03_Of_spec e42) goes12 rfl rfl) ?_
 refine OpsL.keepS ⟨[(1, .b (.one (.raw (.func (.func 22) #[] #[])))), (2, B x_17), (3, Pt 101 0), (49, .b (.agg (eBig x_19))), (50, .b (.agg (eBig x_20)))], [(101, .box 27 (eFrc x_18))]⟩ rfl ?_
 refine Oc rfl (op_eql_agg (eqAgg25 x_19 x_20) rfl rfl) (Oc rfl (op_move rfl) ?_)
 refine OpsL.consG (decide (x_19 = x_20)) 99 [] (.plain rfl) (eq_t _) rfl rfl (fun g43 => trivial) (fun g43 => op_load_p tyAgg27 rfl rfl rfl rfl) ?_
 obtain ⟨x_21, e45, h⟩ := bnd h
 refine OpsL.consG (decide (x_19 = x_20)) 99 [53] (.plain rfl) (eq_t _) rfl rfl (fun g44 => ⟨g44, trivial⟩) (fun g44 => op_call0 (ratio_Ceil_spec (gc e45 g44)) goes33 rfl rfl) ?_
 refine OpsL.keepS ⟨[(1, .b (.one (.raw (.func (.func 22) #[] #[])))), (2, B x_17), (3, Pt 101 0), (52, B (decide (x_19 = x_20))), (54, .opt (decide (x_19 = x_20)) (.agg (eBig x_21)))], [(101, .box 27 (eFrc x_18))]⟩ rfl ?_
 obtain ⟨x_22, e47, h⟩ := bnd h
 refine OpsL.consG (decide (x_19 = x_20)) 99 [] (.plain rfl) (eq_t _) rfl rfl (fun g46 => trivial) (fun g46 => op_call0 (skewbackref03_Of_spec (gc e47 g46)) goes12 rfl rfl) ?_
 refine OpsL.consG (decide (x_19 = x_20)) 99 [54, 55] (.plain rfl) (eq_t _) rfl rfl (fun g48 => ⟨g48, g48, trivial⟩) (fun g48 => op_eql_agg (eqAgg25 x_21 x_22) rfl rfl) ?_
 refine Oc rfl (op_pick_and (fun e => e) rfl rfl rfl rfl) (Oc rfl (op_move rfl) ?_)
 refine OpsL.consG ((decide (x_19 = x_20)) && (decide (x_21 = x_22))) 99 [] (.plain rfl) (eq_t _) rfl rfl (fun g49 => trivial) (fun g49 => op_load_p tyAgg27 rfl rfl rfl rfl) ?_
 obtain ⟨x_23, e51, h⟩ := bnd h
 refine OpsL.consG ((decide (x_19 = x_20)) && (decide (x_21 = x_22))) 99 [59] (.plain rfl) (eq_t _) rfl rfl (fun g50 => ⟨g50, trivial⟩) (fun g50 => op_call0 (ratio_Near_spec (gc e51 g50)) goes35 rfl rfl) ?_
 refine OpsL.keepS ⟨[(1, .b (.one (.raw (.func (.func 22) #[] #[])))), (2, B x_17), (58, B ((decide (x_19 = x_20)) && (decide (x_21 = x_22)))), (60, .opt ((decide (x_19 = x_20)) && (decide (x_21 = x_22))) (.agg (eBig x_23)))], []⟩ rfl ?_
 obtain ⟨x_24, e53, h⟩ := bnd h
 refine OpsL.consG ((decide (x_19 = x_20)) && (decide (x_21 = x_22))) 99 [] (.plain rfl) (eq_t _) rfl rfl (fun g52 => trivial) (fun g52 => op_call0 (skewbackref03_Of_spec (gc e53 g52)) goes12 rfl rfl) ?_
 refine OpsL.consG ((decide (x_19 = x_20)) && (decide (x_21 = x_22))) 99 [60, 61] (.plain rfl) (eq_t _) rfl rfl (fun g54 => ⟨g54, g54, trivial⟩) (fun g54 => op_eql_agg (eqAgg25 x_23 x_24) rfl rfl) ?_
 refine OpsL.consB h rfl (op_pick_and (fun e => e) rfl rfl rfl rfl) (fun x_25 h => ?_)
 refine Oc rfl (op_move rfl) ?_
 refine OpsL.consG x_25 99 [] (.plain rfl) (eq_t _) rfl rfl (fun g55 => trivial) (fun g55 => op_move rfl) ?_
 obtain ⟨x_26, e57, h⟩ := bnd h
 refine OpsL.consG x_25 99 [65] (.plain rfl) (eq_t _) rfl rfl (fun g56 => ⟨g56, trivial⟩) (fun g56 => op_callv0 (ratio_Frac_spec (gc e57 g56)) goes22 rfl rfl rfl) ?_
 refine OpsL.keepS ⟨[(1, .b (.one (.raw (.func (.func 22) #[] #[])))), (2, B x_17), (64, B x_25), (66, .opt x_25 (.agg (eFrc x_26)))], []⟩ rfl ?_
 obtain ⟨x_27, e59, h⟩ := bnd h
 refine OpsL.consG x_25 99 [66] (.plain rfl) (eq_t _) rfl rfl (fun g58 => ⟨g58, trivial⟩) (fun g58 => op_call0 (ratio_Near_spec (gc e59 g58)) goes35 rfl rfl) ?_
 obtain ⟨x_28, e61, h⟩ := bnd h
 refine OpsL.consG x_25 99 [] (.plain rfl) (eq_t _) rfl rfl (fun g60 => trivial) (fun g60 => op_call0 (skewbackref03_Of_spec (gc e61 g60)) goes12 rfl rfl) ?_
 refine OpsL.consG x_25 99 [67, 68] (.plain rfl) (eq_t _) rfl rfl (fun g62 => ⟨g62, g62, trivial⟩) (fun g62 => op_eql_agg (eqAgg25 x_27 x_28) rfl rfl) ?_
 refine Oc rfl (op_pick_and (fun e => e) rfl rfl rfl rfl) (Oc rfl (op_assign rfl) ?_)
 refine OpsL.nilS ⟨[(1, .b (.one (.raw (.func (.func 22) #[] #[])))), (2, B x_17), (4, B (x_25 && (decide (x_27 = x_28))))], []⟩ rfl ?_
 refine Tri.seq (Tri.regionL ?_)
 refine Oc rfl (op_move rfl) ?_
 obtain ⟨x_29, e63, h⟩ := bnd h
 refine Oc rfl (op_callv0 (ratio_Frac_spec e63) goes22 rfl rfl rfl) ?_
 obtain ⟨⟨x_30, x_31⟩, e64, h⟩ := bnd h
 refine Oc rfl (op_call0 (ratio_Dyadic_spec e64) goes29 rfl rfl) ?_
 refine OpsL.keepS ⟨[(1, .b (.one (.raw (.func (.func 22) #[] #[])))), (2, B x_17), (4, B (x_25 && (decide (x_27 = x_28)))), (74, .tup [.agg (eFrc x_30), .agg (eFrc x_31)])], []⟩ rfl ?_
 refine Oc rfl (op_move rfl) (Oc rfl (op_extract rfl rfl) (Oc rfl (op_extract rfl rfl) (Oc rfl (op_alloc (k := 102) tyZero27 rfl) (Oc rfl (op_alloc (k := 103) tyZero27 rfl) (Oc rfl (op_store_p tyAgg27 rfl rfl rfl rfl (Nat.le_of_ble_eq_true rfl) rfl) ?_)))))
 refine Oc rfl (op_store_p tyAgg27 rfl rfl rfl rfl (Nat.le_of_ble_eq_true rfl) rfl) ?_
 refine OpsL.nilS ⟨[(1, .b (.one (.raw (.func (.func 22) #[] #[])))), (2, B x_17), (4, B (x_25 && (decide (x_27 = x_28)))), (5, Pt 102 0), (6, Pt 103 0)], [(102, .box 27 (eFrc x_30)), (103, .box 27 (eFrc x_31))]⟩ rfl ?_
 refine Tri.seq (Tri.regionL ?_)
 refine Oc rfl (op_load_p tyAgg27 rfl rfl rfl rfl) ?_
 obtain ⟨x_32, e65, h⟩ := bnd h
 refine Oc rfl (op_call0 (skewbacklaw04_text_spec e65) goes87 rfl rfl) (Oc rfl (op_move rfl) ?_)
 refine OpsL.consG x_32 99 [] (.plain rfl) (eq_t _) rfl rfl (fun g66 => trivial) (fun g66 => op_load_p tyAgg27 rfl rfl rfl rfl) ?_
 refine OpsL.keepS ⟨[(1, .b (.one (.raw (.func (.func 22) #[] #[])))), (2, B x_17), (4, B (x_25 && (decide (x_27 = x_28)))), (79, B x_32), (80, .opt x_32 (.agg (eFrc x_31)))], []⟩ rfl ?_
 obtain ⟨x_33, e68, h⟩ := bnd h
 refine OpsL.consG x_32 99 [80] (.plain rfl) (eq_t _) rfl rfl (fun g67 => ⟨g67, trivial⟩) (fun g67 => op_call0 (skewbacklaw04_text_spec (gc e68 g67)) goes87 rfl rfl) ?_
 refine Oc rfl (op_pick_and (fun e => e) rfl rfl rfl rfl) (Oc rfl (op_move rfl) ?_)
 refine OpsL.consG (x_32 && x_33) 99 [] (.plain rfl) (eq_t _) rfl rfl (fun g69 => trivial) (fun g69 => op_move rfl) ?_
 obtain ⟨x_34, e71, h⟩ := bnd h
 refine OpsL.consG (x_32 && x_33) 99 [84] (.plain rfl) (eq_t _) rfl rfl (fun g70 => ⟨g70, trivial⟩) (fun g70 => op_callv0 (ratio_Frac_spec (gc e71 g70)) goes22 rfl rfl rfl) ?_
 refine OpsL.consG (x_32 && x_33) 99 [] (.plain rfl) (eq_t _) rfl rfl (fun g72 => trivial) (fun g72 => op_move rfl) ?_
 refine OpsL.keepS ⟨[(1, .b (.one (.raw (.func (.func 22) #[] #[])))), (2, B x_17), (4, B (x_25 && (decide (x_27 = x_28)))), (83, B (x_32 && x_33)), (85, .opt (x_32 && x_33) (.agg (eFrc x_34))), (86, .opt (x_32 && x_33) (.one (.raw (.func (.func 22) #[] #[]))))], []⟩ rfl ?_
 obtain ⟨x_35, e74, h⟩ := bnd h
 refine OpsL.consG (x_32 && x_33) 99 [86] (.plain rfl) (eq_t _) rfl rfl (fun g73 => ⟨g73, trivial⟩) (fun g73 => op_callv0 (ratio_Frac_spec (gc e74 g73)) goes22 rfl rfl rfl) ?_
 obtain ⟨x_36, e76, h⟩ := bnd h
 refine OpsL.consG (x_32 && x_33) 99 [85, 87] (.plain rfl) (eq_t _) rfl rfl (fun g75 => ⟨g75, g75, trivial⟩) (fun g75 => op_call0 (ratio_Simplest_spec (gc e76 g75)) goes48 rfl rfl) ?_
 obtain ⟨x_37, e78, h⟩ := bnd h
 refine OpsL.consG (x_32 && x_33) 99 [88] (.plain rfl) (eq_t _) rfl rfl (fun g77 => ⟨g77, trivial⟩) (fun g77 => op_call0 (skewbacklaw04_text_spec (gc e78 g77)) goes87 rfl rfl) ?_
 refine Oc rfl (op_pick_and (fun e => e) rfl rfl rfl rfl) ?_
 refine OpsL.keepS ⟨[(1, .b (.one (.raw (.func (.func 22) #[] #[])))), (2, B x_17), (4, B (x_25 && (decide (x_27 = x_28)))), (90, B ((x_32 && x_33) && x_37))], []⟩ rfl ?_
 refine Oc rfl (op_move rfl) ?_
 refine OpsL.consG ((x_32 && x_33) && x_37) 99 [] (.plain rfl) (eq_t _) rfl rfl (fun g79 => trivial) (fun g79 => op_move rfl) ?_
 obtain ⟨x_38, e81, h⟩ := bnd h
 refine OpsL.consG ((x_32 && x_33) && x_37) 99 [92] (.plain rfl) (eq_t _) rfl rfl (fun g80 => ⟨g80, trivial⟩) (fun g80 => op_callv0 (ratio_Frac_spec (gc e81 g80)) goes22 rfl rfl rfl) ?_
 refine OpsL.consG ((x_32 && x_33) && x_37) 99 [] (.plain rfl) (eq_t _) rfl rfl (fun g82 => trivial) (fun g82 => op_move rfl) ?_
 refine OpsL.keepS ⟨[(1, .b (.one (.raw (.func (.func 22) #[] #[])))), (2, B x_17), (4, B (x_25 && (decide (x_27 = x_28)))), (91, B ((x_32 && x_33) && x_37)), (93, .opt ((x_32 && x_33) && x_37) (.agg (eFrc x_38))), (94, .opt ((x_32 && x_33) && x_37) (.one (.raw (.func (.func 22) #[] #[]))))], []⟩ rfl ?_
 obtain ⟨x_39, e84, h⟩ := bnd h
 refine OpsL.consG ((x_32 && x_33) && x_37) 99 [94] (.plain rfl) (eq_t _) rfl rfl (fun g83 => ⟨g83, trivial⟩) (fun g83 => op_callv0 (ratio_Frac_spec (gc e84 g83)) goes22 rfl rfl rfl) ?_
 obtain ⟨x_40, e86, h⟩ := bnd h
 refine OpsL.consG ((x_32 && x_33) && x_37) 99 [93, 95] (.plain rfl) (eq_t _) rfl rfl (fun g85 => ⟨g85, g85, trivial⟩) (fun g85 => op_call0 (ratio_Simplest_spec (gc e86 g85)) goes48 rfl rfl) ?_
 obtain ⟨x_41, e88, h⟩ := bnd h
 refine OpsL.consG ((x_32 && x_33) && x_37) 99 [96] (.plain rfl) (eq_t _) rfl rfl (fun g87 => ⟨g87, trivial⟩) (fun g87 => op_call0 (skewbacklaw04_text_spec (gc e88 g87)) goes87 rfl rfl) ?_
 refine Oc rfl (op_pick_and (fun e => e) rfl rfl rfl rfl) ?_
 refine OpsL.keepS ⟨[(1, .b (.one (.raw (.func (.func 22) #[] #[])))), (2, B x_17), (4, B (x_25 && (decide (x_27 = x_28)))), (98, B (((x_32 && x_33) && x_37) && x_41))], []⟩ rfl ?_
 refine Oc rfl (op_move rfl) ?_
 refine OpsL.consG (((x_32 && x_33) && x_37) && x_41) 99 [] (.plain rfl) (eq_t _) rfl rfl (fun g89 => trivial) (fun g89 => op_move rfl) ?_
 obtain ⟨x_42, e91, h⟩ := bnd h
 refine OpsL.consG (((x_32 && x_33) && x_37) && x_41) 99 [100] (.plain rfl) (eq_t _) rfl rfl (fun g90 => ⟨g90, trivial⟩) (fun g90 => op_callv0 (ratio_Frac_spec (gc e91 g90)) goes22 rfl rfl rfl) ?_
 refine OpsL.consG (((x_32 && x_33) && x_37) && x_41) 99 [] (.plain rfl) (eq_t _) rfl rfl (fun g92 => trivial) (fun g92 => op_move rfl) ?_
 refine OpsL.keepS ⟨[(1, .b (.one (.raw (.func (.func 22) #[] #[])))), (2, B x_17), (4, B (x_25 && (decide (x_27 = x_28)))), (99, B (((x_32 && x_33) && x_37) && x_41)), (101, .opt (((x_32 && x_33) && x_37) && x_41) (.agg (eFrc x_42))), (102, .opt (((x_32 && x_33) && x_37) && x_41) (.one (.raw (.func (.func 22) #[] #[]))))], []⟩ rfl ?_
 obtain ⟨x_43, e94, h⟩ := bnd h
 refine OpsL.consG (((x_32 && x_33) && x_37) && x_41) 99 [102] (.plain rfl) (eq_t _) rfl rfl (fun g93 => ⟨g93, trivial⟩) (fun g93 => op_callv0 (ratio_Frac_spec (gc e94 g93)) goes22 rfl rfl rfl) ?_
 obtain ⟨x_44, e96, h⟩ := bnd h
 refine OpsL.consG (((x_32 && x_33) && x_37) && x_41) 99 [101, 103] (.plain rfl) (eq_t _) rfl rfl (fun g95 => ⟨g95, g95, trivial⟩) (fun g95 => op_call0 (ratio_Simplest_spec (gc e96 g95)) goes48 rfl rfl) ?_
 obtain ⟨x_45, e98, h⟩ := bnd h
 refine OpsL.consG (((x_32 && x_33) && x_37) && x_41) 99 [104] (.plain rfl) (eq_t _) rfl rfl (fun g97 => ⟨g97, trivial⟩) (fun g97 => op_call0 (skewbacklaw04_text_spec (gc e98 g97)) goes87 rfl rfl) ?_
 refine Oc rfl (op_pick_and (fun e => e) rfl rfl rfl rfl) ?_
 refine OpsL.keepS ⟨[(1, .b (.one (.raw (.func (.func 22) #[] #[])))), (2, B x_17), (4, B (x_25 && (decide (x_27 = x_28)))), (106, B ((((x_32 && x_33) && x_37) && x_41) && x_45))], []⟩ rfl ?_
 refine Oc rfl (op_move rfl) ?_
 refine OpsL.consG ((((x_32 && x_33) && x_37) && x_41) && x_45) 99 [] (.plain rfl) (eq_t _) rfl rfl (fun g99 => trivial) (fun g99 => op_move rfl) ?_
 obtain ⟨x_46, e101, h⟩ := bnd h
 refine OpsL.consG ((((x_32 && x_33) && x_37) && x_41) && x_45) 99 [108] (.plain rfl) (eq_t _) rfl rfl (fun g100 => ⟨g100, trivial⟩) (fun g100 => op_callv0 (ratio_Frac_spec (gc e101 g100)) goes22 rfl rfl rfl) ?_
 refine OpsL.consG ((((x_32 && x_33) && x_37) && x_41) && x_45) 99 [] (.plain rfl) (eq_t _) rfl rfl (fun g102 => trivial) (fun g102 => op_move rfl) ?_
 refine OpsL.keepS ⟨[(1, .b (.one (.raw (.func (.func 22) #[] #[])))), (2, B x_17), (4, B (x_25 && (decide (x_27 = x_28)))), (107, B ((((x_32 && x_33) && x_37) && x_41) && x_45)), (109, .opt ((((x_32 && x_33) && x_37) && x_41) && x_45) (.agg (eFrc x_46))), (110, .opt ((((x_32 && x_33) && x_37) && x_41) && x_45) (.one (.raw (.func (.func 22) #[] #[]))))], []⟩ rfl ?_
 obtain ⟨x_47, e104, h⟩ := bnd h
 refine OpsL.consG ((((x_32 && x_33) && x_37) && x_41) && x_45) 99 [110] (.plain rfl) (eq_t _) rfl rfl (fun g103 => ⟨g103, trivial⟩) (fun g103 => op_callv0 (ratio_Frac_spec (gc e104 g103)) goes22 rfl rfl rfl) ?_
 obtain ⟨x_48, e106, h⟩ := bnd h
 refine OpsL.consG ((((x_32 && x_33) && x_37) && x_41) && x_45) 99 [109, 111] (.plain rfl) (eq_t _) rfl rfl (fun g105 => ⟨g105, g105, trivial⟩) (fun g105 => op_call0 (ratio_Simplest_spec (gc e106 g105)) goes48 rfl rfl) ?_
 obtain ⟨x_49, e108, h⟩ := bnd h
 refine OpsL.consG ((((x_32 && x_33) && x_37) && x_41) && x_45) 99 [112] (.plain rfl) (eq_t _) rfl rfl (fun g107 => ⟨g107, trivial⟩) (fun g107 => op_call0 (skewbacklaw04_text_spec (gc e108 g107)) goes87 rfl rfl) ?_
 refine Oc rfl (op_pick_and (fun e => e) rfl rfl rfl rfl) (Oc rfl (op_assign rfl) ?_)
 refine OpsL.nilS ⟨[(1, .b (.one (.raw (.func (.func 22) #[] #[])))), (2, B x_17), (4, B (x_25 && (decide (x_27 = x_28)))), (7, B (((((x_32 && x_33) && x_37) && x_41) && x_45) && x_49))], []⟩ rfl ?_
 refine Tri.seq (Tri.regionL ?_)
 obtain ⟨⟨x_50, x_51⟩, e109, h⟩ := bnd h
 refine Oc rfl (op_call0 (ratio_Parse_spec e109) goes52 rfl rfl) (Oc rfl (op_move rfl) (Oc rfl (op_extract rfl rfl) (Oc rfl (op_extract rfl rfl) ?_)))
 refine OpsL.keepS ⟨[(1, .b (.one (.raw (.func (.func 22) #[] #[])))), (2, B x_17), (4, B (x_25 && (decide (x_27 = x_28)))), (7, B (((((x_32 && x_33) && x_37) && x_41) && x_45) && x_49)), (117, .b (.agg (eFrc x_50))), (118, I x_51)], []⟩ rfl ?_
 refine Oc rfl (op_alloc (k := 104) tyZero27 rfl) (Oc rfl (op_store_p tyAgg27 rfl rfl rfl rfl (Nat.le_of_ble_eq_true rfl) rfl) (Oc rfl (op_assign rfl) ?_))
 refine OpsL.nilS ⟨[(1, .b (.one (.raw (.func (.func 22) #[] #[])))), (2, B x_17), (4, B (x_25 && (decide (x_27 = x_28)))), (7, B (((((x_32 && x_33) && x_37) && x_41) && x_45) && x_49)), (9, I x_51)], []⟩ rfl ?_
 refine Tri.seq (Tri.regionL ?_)
 obtain ⟨⟨x_52, x_53⟩, e110, h⟩ := bnd h
 refine Oc rfl (op_call0 (ratio_Parse_spec e110) goes52 rfl rfl) (Oc rfl (op_move rfl) (Oc rfl (op_extract rfl rfl) (Oc rfl (op_extract rfl rfl) ?_)))
 refine OpsL.keepS ⟨[(1, .b (.one (.raw (.func (.func 22) #[] #[])))), (2, B x_17), (4, B (x_25 && (decide (x_27 = x_28)))), (7, B (((((x_32 && x_33) && x_37) && x_41) && x_45) && x_49)), (9, I x_51), (121, .b (.agg (eFrc x_52))), (122, I x_53)], []⟩ rfl ?_
 refine Oc rfl (op_alloc (k := 105) tyZero27 rfl) (Oc rfl (op_store_p tyAgg27 rfl rfl rfl rfl (Nat.le_of_ble_eq_true rfl) rfl) (Oc rfl (op_assign rfl) ?_))
 refine OpsL.nilS ⟨[(1, .b (.one (.raw (.func (.func 22) #[] #[])))), (2, B x_17), (4, B (x_25 && (decide (x_27 = x_28)))), (7, B (((((x_32 && x_33) && x_37) && x_41) && x_45) && x_49)), (9, I x_51), (10, Pt 105 0), (11, I x_53)], [(105, .box 27 (eFrc x_52))]⟩ rfl ?_
 refine Tri.seq ?_
 refine Tri.keepS ⟨[(1, .b (.one (.raw (.func (.func 22) #[] #[])))), (2, B x_17), (4, B (x_25 && (decide (x_27 = x_28)))), (7, B (((((x_32 && x_33) && x_37) && x_41) && x_45) && x_49)), (9, I x_51), (10, Pt 105 0), (11, I x_53)], [(105, .box 27 (eFrc x_52))]⟩ rfl ?_
 obtain ⟨x_54, e120, h⟩ := bnd h
 obtain ⟨x_55, e125, h⟩ := bnd h
 obtain ⟨x_56, e127, h⟩ := bnd h
 obtain ⟨x_57, e131, h⟩ := bnd h
 obtain ⟨x_58, e133, h⟩ := bnd h
 obtain ⟨x_59, e135, h⟩ := bnd h
 obtain ⟨x_60, e137, h⟩ := bnd h
 obtain ⟨x_61, e139, h⟩ := bnd h
 refine Tri.regionY mixed 42 [B x_17, B x_17, .opt x_17 (.one (.bool (x_25 && (decide (x_27 = x_28))))), B (x_17 && (x_25 && (decide (x_27 = x_28)))), B (x_17 && (x_25 && (decide (x_27 = x_28)))), .opt (x_17 && (x_25 && (decide (x_27 = x_28)))) (.one (.bool (((((x_32 && x_33) && x_37) && x_41) && x_45) && x_49))), B ((x_17 && (x_25 && (decide (x_27 = x_28)))) && (((((x_32 && x_33) && x_37) && x_41) && x_45) && x_49)), B ((x_17 && (x_25 && (decide (x_27 = x_28)))) && (((((x_32 && x_33) && x_37) && x_41) && x_45) && x_49)), .opt ((x_17 && (x_25 && (decide (x_27 = x_28)))) && (((((x_32 && x_33) && x_37) && x_41) && x_45) && x_49)) (.one (.i x_51)), .opt ((x_17 && (x_25 && (decide (x_27 = x_28)))) && (((((x_32 && x_33) && x_37) && x_41) && x_45) && x_49)) (.one (.bool (decide (x_51 = 281)))), B (((x_17 && (x_25 && (decide (x_27 = x_28)))) && (((((x_32 && x_33) && x_37) && x_41) && x_45) && x_49)) && (decide (x_51 = 281))), B (((x_17 && (x_25 && (decide (x_27 = x_28)))) && (((((x_32 && x_33) && x_37) && x_41) && x_45) && x_49)) && (decide (x_51 = 281))), .opt (((x_17 && (x_25 && (decide (x_27 = x_28)))) && (((((x_32 && x_33) && x_37) && x_41) && x_45) && x_49)) && (decide (x_51 = 281))) (.one (.i x_53)), .opt (((x_17 && (x_25 && (decide (x_27 = x_28)))) && (((((x_32 && x_33) && x_37) && x_41) && x_45) && x_49)) && (decide (x_51 = 281))) (.one (.bool (decide (x_53 = 0)))), B ((((x_17 && (x_25 && (decide (x_27 = x_28)))) && (((((x_32 && x_33) && x_37) && x_41) && x_45) && x_49)) && (decide (x_51 = 281))) && (decide (x_53 = 0))), B ((((x_17 && (x_25 && (decide (x_27 = x_28)))) && (((((x_32 && x_33) && x_37) && x_41) && x_45) && x_49)) && (decide (x_51 = 281))) && (decide (x_53 = 0))), .opt ((((x_17 && (x_25 && (decide (x_27 = x_28)))) && (((((x_32 && x_33) && x_37) && x_41) && x_45) && x_49)) && (decide (x_51 = 281))) && (decide (x_53 = 0))) (.agg (eFrc x_52)), .opt ((((x_17 && (x_25 && (decide (x_27 = x_28)))) && (((((x_32 && x_33) && x_37) && x_41) && x_45) && x_49)) && (decide (x_51 = 281))) && (decide (x_53 = 0))) (.one (.raw (.func (.func 22) #[] #[]))), .opt ((((x_17 && (x_25 && (decide (x_27 = x_28)))) && (((((x_32 && x_33) && x_37) && x_41) && x_45) && x_49)) && (decide (x_51 = 281))) && (decide (x_53 = 0))) (.agg (eFrc x_54)), .opt ((((x_17 && (x_25 && (decide (x_27 = x_28)))) && (((((x_32 && x_33) && x_37) && x_41) && x_45) && x_49)) && (decide (x_51 = 281))) && (decide (x_53 = 0))) (.one (.bool (decide (x_52 = x_54)))), B (((((x_17 && (x_25 && (decide (x_27 = x_28)))) && (((((x_32 && x_33) && x_37) && x_41) && x_45) && x_49)) && (decide (x_51 = 281))) && (decide (x_53 = 0))) && (decide (x_52 = x_54))), B (((((x_17 && (x_25 && (decide (x_27 = x_28)))) && (((((x_32 && x_33) && x_37) && x_41) && x_45) && x_49)) && (decide (x_51 = 281))) && (decide (x_53 = 0))) && (decide (x_52 = x_54))), .opt (((((x_17 && (x_25 && (decide (x_27 = x_28)))) && (((((x_32 && x_33) && x_37) && x_41) && x_45) && x_49)) && (decide (x_51 = 281))) && (decide (x_53 = 0))) && (decide (x_52 = x_54))) (.agg (eFrc x_52)), .opt (((((x_17 && (x_25 && (decide (x_27 = x_28)))) && (((((x_32 && x_33) && x_37) && x_41) && x_45) && x_49)) && (decide (x_51 = 281))) && (decide (x_53 = 0))) && (decide (x_52 = x_54))) (.one (.raw (.func (.func 22) #[] #[]))), .opt (((((x_17 && (x_25 && (decide (x_27 = x_28)))) && (((((x_32 && x_33) && x_37) && x_41) && x_45) && x_49)) && (decide (x_51 = 281))) && (decide (x_53 = 0))) && (decide (x_52 = x_54))) (.agg (eFrc x_55)), .opt (((((x_17 && (x_25 && (decide (x_27 = x_28)))) && (((((x_32 && x_33) && x_37) && x_41) && x_45) && x_49)) && (decide (x_51 = 281))) && (decide (x_53 = 0))) && (decide (x_52 = x_54))) (.one (.i x_56)), .opt (((((x_17 && (x_25 && (decide (x_27 = x_28)))) && (((((x_32 && x_33) && x_37) && x_41) && x_45) && x_49)) && (decide (x_51 = 281))) && (decide (x_53 = 0))) && (decide (x_52 = x_54))) (.one (.bool (decide (x_56 = (-1))))), B ((((((x_17 && (x_25 && (decide (x_27 = x_28)))) && (((((x_32 && x_33) && x_37) && x_41) && x_45) && x_49)) && (decide (x_51 = 281))) && (decide (x_53 = 0))) && (decide (x_52 = x_54))) && (decide (x_56 = (-1)))), B ((((((x_17 && (x_25 && (decide (x_27 = x_28)))) && (((((x_32 && x_33) && x_37) && x_41) && x_45) && x_49)) && (decide (x_51 = 281))) && (decide (x_53 = 0))) && (decide (x_52 = x_54))) && (decide (x_56 = (-1)))), .opt ((((((x_17 && (x_25 && (decide (x_27 = x_28)))) && (((((x_32 && x_33) && x_37) && x_41) && x_45) && x_49)) && (decide (x_51 = 281))) && (decide (x_53 = 0))) && (decide (x_52 = x_54))) && (decide (x_56 = (-1)))) (.agg (eFrc x_52)), .opt ((((((x_17 && (x_25 && (decide (x_27 = x_28)))) && (((((x_32 && x_33) && x_37) && x_41) && x_45) && x_49)) && (decide (x_51 = 281))) && (decide (x_53 = 0))) && (decide (x_52 = x_54))) && (decide (x_56 = (-1)))) (.one (.bool x_57)), B (((((((x_17 && (x_25 && (decide (x_27 = x_28)))) && (((((x_32 && x_33) && x_37) && x_41) && x_45) && x_49)) && (decide (x_51 = 281))) && (decide (x_53 = 0))) && (decide (x_52 = x_54))) && (decide (x_56 = (-1)))) && x_57), B (((((((x_17 && (x_25 && (decide (x_27 = x_28)))) && (((((x_32 && x_33) && x_37) && x_41) && x_45) && x_49)) && (decide (x_51 = 281))) && (decide (x_53 = 0))) && (decide (x_52 = x_54))) && (decide (x_56 = (-1)))) && x_57), .opt (((((((x_17 && (x_25 && (decide (x_27 = x_28)))) && (((((x_32 && x_33) && x_37) && x_41) && x_45) && x_49)) && (decide (x_51 = 281))) && (decide (x_53 = 0))) && (decide (x_52 = x_54))) && (decide (x_56 = (-1)))) && x_57) (.agg (eFrc x_58)), .opt (((((((x_17 && (x_25 && (decide (x_27 = x_28)))) && (((((x_32 && x_33) && x_37) && x_41) && x_45) && x_49)) && (decide (x_51 = 281))) && (decide (x_53 = 0))) && (decide (x_52 = x_54))) && (decide (x_56 = (-1)))) && x_57) (.one (.bool x_59)), B ((((((((x_17 && (x_25 && (decide (x_27 = x_28)))) && (((((x_32 && x_33) && x_37) && x_41) && x_45) && x_49)) && (decide (x_51 = 281))) && (decide (x_53 = 0))) && (decide (x_52 = x_54))) && (decide (x_56 = (-1)))) && x_57) && x_59), B ((((((((x_17 && (x_25 && (decide (x_27 = x_28)))) && (((((x_32 && x_33) && x_37) && x_41) && x_45) && x_49)) && (decide (x_51 = 281))) && (decide (x_53 = 0))) && (decide (x_52 = x_54))) && (decide (x_56 = (-1)))) && x_57) && x_59), .opt ((((((((x_17 && (x_25 && (decide (x_27 = x_28)))) && (((((x_32 && x_33) && x_37) && x_41) && x_45) && x_49)) && (decide (x_51 = 281))) && (decide (x_53 = 0))) && (decide (x_52 = x_54))) && (decide (x_56 = (-1)))) && x_57) && x_59) (.agg (eFrc x_60)), .opt ((((((((x_17 && (x_25 && (decide (x_27 = x_28)))) && (((((x_32 && x_33) && x_37) && x_41) && x_45) && x_49)) && (decide (x_51 = 281))) && (decide (x_53 = 0))) && (decide (x_52 = x_54))) && (decide (x_56 = (-1)))) && x_57) && x_59) (.one (.bool x_61)), .opt ((((((((x_17 && (x_25 && (decide (x_27 = x_28)))) && (((((x_32 && x_33) && x_37) && x_41) && x_45) && x_49)) && (decide (x_51 = 281))) && (decide (x_53 = 0))) && (decide (x_52 = x_54))) && (decide (x_56 = (-1)))) && x_57) && x_59) (.one (.bool (!x_61))), B (((((((((x_17 && (x_25 && (decide (x_27 = x_28)))) && (((((x_32 && x_33) && x_37) && x_41) && x_45) && x_49)) && (decide (x_51 = 281))) && (decide (x_53 = 0))) && (decide (x_52 = x_54))) && (decide (x_56 = (-1)))) && x_57) && x_59) && (!x_61)), B (((((((((x_17 && (x_25 && (decide (x_27 = x_28)))) && (((((x_32 && x_33) && x_37) && x_41) && x_45) && x_49)) && (decide (x_51 = 281))) && (decide (x_53 = 0))) && (decide (x_52 = x_54))) && (decide (x_56 = (-1)))) && x_57) && x_59) && (!x_61))] [0] [] (s' := ⟨[(0, B (((((((((x_17 && (x_25 && (decide (x_27 = x_28)))) && (((((x_32 && x_33) && x_37) && x_41) && x_45) && x_49)) && (decide (x_51 = 281))) && (decide (x_53 = 0))) && (decide (x_52 = x_54))) && (decide (x_56 = (-1)))) && x_57) && x_59) && (!x_61)))], []⟩) rfl ⟨fun _ => .plain rfl (op_move rfl), fun _ => .plain rfl (op_move rfl), fun _ => by exact .guard x_17 1 [] (.plain rfl) (eq_t _) rfl rfl (fun g111 => trivial) (fun g111 => op_move rfl), fun _ => .plain rfl (op_pick_and (fun e => e) rfl rfl rfl rfl), fun _ => .plain rfl (op_move rfl), fun _ => by exact .guard (x_17 && (x_25 && (decide (x_27 = x_28)))) 1 [] (.plain rfl) (eq_t _) rfl rfl (fun g112 => trivial) (fun g112 => op_move rfl), fun _ => .plain rfl (op_pick_and (fun e => e) rfl rfl rfl rfl), fun _ => .plain rfl (op_move rfl), fun _ => by exact .guard ((x_17 && (x_25 && (decide (x_27 = x_28)))) && (((((x_32 && x_33) && x_37) && x_41) && x_45) && x_49)) 1 [] (.plain rfl) (eq_t _) rfl rfl (fun g113 => trivial) (fun g113 => op_move rfl), fun _ => by exact .guard ((x_17 && (x_25 && (decide (x_27 = x_28)))) && (((((x_32 && x_33) && x_37) && x_41) && x_45) && x_49)) 2 [131] (.plain rfl) (eq_t _) rfl rfl (fun g114 => ⟨g114, trivial⟩) (fun g114 => op_eql rfl rfl), fun _ => .plain rfl (op_pick_and (fun e => e) rfl rfl rfl rfl), fun _ => .plain rfl (op_move rfl), fun _ => by exact .guard (((x_17 && (x_25 && (decide (x_27 = x_28)))) && (((((x_32 && x_33) && x_37) && x_41) && x_45) && x_49)) && (decide (x_51 = 281))) 1 [] (.plain rfl) (eq_t _) rfl rfl (fun g115 => trivial) (fun g115 => op_move rfl), fun _ => by exact .guard (((x_17 && (x_25 && (decide (x_27 = x_28)))) && (((((x_32 && x_33) && x_37) && x_41) && x_45) && x_49)) && (decide (x_51 = 281))) 2 [135] (.plain rfl) (eq_t _) rfl rfl (fun g116 => ⟨g116, trivial⟩) (fun g116 => op_eql rfl rfl), fun _ => .plain rfl (op_pick_and (fun e => e) rfl rfl rfl rfl), fun _ => .plain rfl (op_move rfl), fun _ => by exact .guard ((((x_17 && (x_25 && (decide (x_27 = x_28)))) && (((((x_32 && x_33) && x_37) && x_41) && x_45) && x_49)) && (decide (x_51 = 281))) && (decide (x_53 = 0))) 1 [] (.plain rfl) (eq_t _) rfl rfl (fun g117 => trivial) (fun g117 => op_load_p tyAgg27 rfl rfl rfl rfl), fun _ => by exact .guard ((((x_17 && (x_25 && (decide (x_27 = x_28)))) && (((((x_32 && x_33) && x_37) && x_41) && x_45) && x_49)) && (decide (x_51 = 281))) && (decide (x_53 = 0))) 1 [] (.plain rfl) (eq_t _) rfl rfl (fun g118 => trivial) (fun g118 => op_move rfl), fun _ => by exact .guard ((((x_17 && (x_25 && (decide (x_27 = x_28)))) && (((((x_32 && x_33) && x_37) && x_41) && x_45) && x_49)) && (decide (x_51 = 281))) && (decide (x_53 = 0))) 3 [140] (.plain rfl) (eq_t _) rfl rfl (fun g119 => ⟨g119, trivial⟩) (fun g119 => op_callv0 (ratio_Frac_spec (gc e120 g119)) goes22 rfl rfl rfl), fun _ => by exact .guard ((((x_17 && (x_25 && (decide (x_27 = x_28)))) && (((((x_32 && x_33) && x_37) && x_41) && x_45) && x_49)) && (decide (x_51 = 281))) && (decide (x_53 = 0))) 3 [139, 141] (.plain rfl) (eq_t _) rfl rfl (fun g121 => ⟨g121, g121, trivial⟩) (fun g121 => op_eql_agg (eqAgg27 x_52 x_54) rfl rfl), fun _ => .plain rfl (op_pick_and (fun e => e) rfl rfl rfl rfl), fun _ => .plain rfl (op_move rfl), fun _ => by exact .guard (((((x_17 && (x_25 && (decide (x_27 = x_28)))) && (((((x_32 && x_33) && x_37) && x_41) && x_45) && x_49)) && (decide (x_51 = 281))) && (decide (x_53 = 0))) && (decide (x_52 = x_54))) 1 [] (.plain rfl) (eq_t _) rfl rfl (fun g122 => trivial) (fun g122 => op_load_p tyAgg27 rfl rfl rfl rfl), fun _ => by exact .guard (((((x_17 && (x_25 && (decide (x_27 = x_28)))) && (((((x_32 && x_33) && x_37) && x_41) && x_45) && x_49)) && (decide (x_51 = 281))) && (decide (x_53 = 0))) && (decide (x_52 = x_54))) 1 [] (.plain rfl) (eq_t _) rfl rfl (fun g123 => trivial) (fun g123 => op_move rfl), fun _ => by exact .guard (((((x_17 && (x_25 && (decide (x_27 = x_28)))) && (((((x_32 && x_33) && x_37) && x_41) && x_45) && x_49)) && (decide (x_51 = 281))) && (decide (x_53 = 0))) && (decide (x_52 = x_54))) 3 [146] (.plain rfl) (eq_t _) rfl rfl (fun g124 => ⟨g124, trivial⟩) (fun g124 => op_callv0 (ratio_Frac_spec (gc e125 g124)) goes22 rfl rfl rfl), fun _ => by exact .guard (((((x_17 && (x_25 && (decide (x_27 = x_28)))) && (((((x_32 && x_33) && x_37) && x_41) && x_45) && x_49)) && (decide (x_51 = 281))) && (decide (x_53 = 0))) && (decide (x_52 = x_54))) 4 [145, 147] (.plain rfl) (eq_t _) rfl rfl (fun g126 => ⟨g126, g126, g126, trivial⟩) (fun g126 => op_call0 (ratio_Cmp_spec (gc e127 g126)) goes39 rfl rfl), fun _ => by exact .guard (((((x_17 && (x_25 && (decide (x_27 = x_28)))) && (((((x_32 && x_33) && x_37) && x_41) && x_45) && x_49)) && (decide (x_51 = 281))) && (decide (x_53 = 0))) && (decide (x_52 = x_54))) 2 [148] (.plain rfl) (eq_t _) rfl rfl (fun g128 => ⟨g128, trivial⟩) (fun g128 => op_eql rfl rfl), fun _ => .plain rfl (op_pick_and (fun e => e) rfl rfl rfl rfl), fun _ => .plain rfl (op_move rfl), fun _ => by exact .guard ((((((x_17 && (x_25 && (decide (x_27 = x_28)))) && (((((x_32 && x_33) && x_37) && x_41) && x_45) && x_49)) && (decide (x_51 = 281))) && (decide (x_53 = 0))) && (decide (x_52 = x_54))) && (decide (x_56 = (-1)))) 1 [] (.plain rfl) (eq_t _) rfl rfl (fun g129 => trivial) (fun g129 => op_load_p tyAgg27 rfl rfl rfl rfl), fun _ => by exact .guard ((((((x_17 && (x_25 && (decide (x_27 = x_28)))) && (((((x_32 && x_33) && x_37) && x_41) && x_45) && x_49)) && (decide (x_51 = 281))) && (decide (x_53 = 0))) && (decide (x_52 = x_54))) && (decide (x_56 = (-1)))) 3 [152] (.plain rfl) (eq_t _) rfl rfl (fun g130 => ⟨g130, trivial⟩) (fun g130 => op_call0 (ratio_Good_spec (gc e131 g130)) goes26 rfl rfl), fun _ => .plain rfl (op_pick_and (fun e => e) rfl rfl rfl rfl), fun _ => .plain rfl (op_move rfl), fun _ => by exact .guard (((((((x_17 && (x_25 && (decide (x_27 = x_28)))) && (((((x_32 && x_33) && x_37) && x_41) && x_45) && x_49)) && (decide (x_51 = 281))) && (decide (x_53 = 0))) && (decide (x_52 = x_54))) && (decide (x_56 = (-1)))) && x_57) 2 [] (.plain rfl) (eq_t _) rfl rfl (fun g132 => trivial) (fun g132 => op_call0 (ratio_Bad_spec (gc e133 g132)) goes27 rfl rfl), fun _ => by exact .guard (((((((x_17 && (x_25 && (decide (x_27 = x_28)))) && (((((x_32 && x_33) && x_37) && x_41) && x_45) && x_49)) && (decide (x_51 = 281))) && (decide (x_53 = 0))) && (decide (x_52 = x_54))) && (decide (x_56 = (-1)))) && x_57) 3 [156] (.plain rfl) (eq_t _) rfl rfl (fun g134 => ⟨g134, g134, trivial⟩) (fun g134 => op_call0 (ratio_Valid_spec (gc e135 g134)) goes24 rfl rfl), fun _ => .plain rfl (op_pick_and (fun e => e) rfl rfl rfl rfl), fun _ => .plain rfl (op_move rfl), fun _ => by exact .guard ((((((((x_17 && (x_25 && (decide (x_27 = x_28)))) && (((((x_32 && x_33) && x_37) && x_41) && x_45) && x_49)) && (decide (x_51 = 281))) && (decide (x_53 = 0))) && (decide (x_52 = x_54))) && (decide (x_56 = (-1)))) && x_57) && x_59) 2 [] (.plain rfl) (eq_t _) rfl rfl (fun g136 => trivial) (fun g136 => op_call0 (ratio_Bad_spec (gc e137 g136)) goes27 rfl rfl), fun _ => by exact .guard ((((((((x_17 && (x_25 && (decide (x_27 = x_28)))) && (((((x_32 && x_33) && x_37) && x_41) && x_45) && x_49)) && (decide (x_51 = 281))) && (decide (x_53 = 0))) && (decide (x_52 = x_54))) && (decide (x_56 = (-1)))) && x_57) && x_59) 3 [160] (.plain rfl) (eq_t _) rfl rfl (fun g138 => ⟨g138, g138, trivial⟩) (fun g138 => op_call0 (ratio_Good_spec (gc e139 g138)) goes26 rfl rfl), fun _ => by exact .guard ((((((((x_17 && (x_25 && (decide (x_27 = x_28)))) && (((((x_32 && x_33) && x_37) && x_41) && x_45) && x_49)) && (decide (x_51 = 281))) && (decide (x_53 = 0))) && (decide (x_52 = x_54))) && (decide (x_56 = (-1)))) && x_57) && x_59) 2 [161] (.plain rfl) (eq_t _) rfl rfl (fun g140 => ⟨g140, trivial⟩) (fun g140 => op_not rfl), fun _ => .plain rfl (op_pick_and (fun e => e) rfl rfl rfl rfl), fun _ => .plain rfl (op_assign rfl), trivial⟩ rfl rfl ?_
 refine Tri.ret ?_
 obtain rfl := Option.some.inj h
 refine Fin.keepS ⟨[(0, B (((((((((x_17 && (x_25 && (decide (x_27 = x_28)))) && (((((x_32 && x_33) && x_37) && x_41) && x_45) && x_49)) && (decide (x_51 = 281))) && (decide (x_53 = 0))) && (decide (x_52 = x_54))) && (decide (x_56 = (-1)))) && x_57) && x_59) && (!x_61)))], []⟩ rfl ?_
 refine Fin.result' [.one (.bool (((((((((x_17 && (x_25 && (decide (x_27 = x_28)))) && (((((x_32 && x_33) && x_37) && x_41) && x_45) && x_49)) && (decide (x_51 = 281))) && (decide (x_53 = 0))) && (decide (x_52 = x_54))) && (decide (x_56 = (-1)))) && x_57) && x_59) && (!x_61)))] (.inl rfl) rfl (.cons (.tmp rfl) .nil) ⟨rfl, rfl⟩
def skewbackref04_Bad_S (F : Nat) : Option Frc :=
 Option.bind (skewbackref03_Bad_S F) (fun x_1 => Option.bind (skewbackref04_one_S F) (fun x_2 => some (⟨x_1, x_2⟩ : Frc)))
theorem skewbackref04_Bad_spec {F : Nat} {r : Frc} (h : skewbackref04_Bad_S F = some r) : Meets Tryz.prog (tabs mx) 28 [] [] (Is [] (.b (.agg (eFrc r)))) := by
 unfold skewbackref04_Bad_S at h
 refine Meets.intro 4 Tryz.func28 Tryz.ntmps28 rfl (by simp) fun E => ?_
 show Tri _ E ⟨4, [], []⟩ _ ⟨[], []⟩ _
 refine Tri.seq (Tri.regionL ?_)
 refine Oc rfl (op_alloc (k := 101) tyZero27 rfl) ?_
 refine OpsL.nilS ⟨[(0, Pt 101 0)], [(101, .box 27 (.bool false :: .bool false :: ((eA16 .u32) A16.zero ++ (.bool false :: .bool false :: ((eA16 .u32) A16.zero)))))]⟩ rfl ?_
 refine Tri.seq (Tri.regionL ?_)
 obtain ⟨x_1, e1, h⟩ := bnd h
 refine Oc rfl (op_call0 (skewbackref03_Bad_spec e1) goes83 rfl rfl) ?_
 obtain ⟨x_2, e2, h⟩ := bnd h
 refine Oc rfl (op_call0 (skewbackref04_one_spec e2) goes80 rfl rfl) (Oc rfl (op_build tyBuild27 rfl rfl) (Oc rfl (op_store_p tyAgg27 rfl rfl rfl rfl (Nat.le_of_ble_eq_true rfl) rfl) ?_))
 refine OpsL.nilS ⟨[(0, Pt 101 0)], [(101, .box 27 (eBig x_1 ++ (eBig x_2)))]⟩ rfl ?_
 refine Tri.ret ?_
 obtain rfl := Option.some.inj h
 refine Fin.keepS ⟨[(0, Pt 101 0)], [(101, .box 27 (eBig x_1 ++ (eBig x_2)))]⟩ rfl ?_
 refine Fin.result' [.agg (eBig x_1 ++ (eBig x_2))] (.inl rfl) rfl (.cons (.agg tyAgg27 rfl rfl rfl rfl) .nil) ⟨rfl, rfl⟩
def skewbackref03_Neg_S (F : Nat) (x0 : Big) : Option Big :=
 Option.bind (skewbackref03_Good_S F x0) (fun x_1 => if (!x_1) = true then (Option.bind (skewbackref03_Bad_S F) (fun x_2 => some x_2)) else (Option.bind (skewbackref03_digits_S F x0) (fun x_3 => Option.bind (skewbackref03_number_S F (!x0.Neg) x_3) (fun x_4 => some x_4))))
theorem skewbackref03_Neg_spec {F : Nat} {x0 : Big} {r : Big} (h : skewbackref03_Neg_S F x0 = some r) : Meets Tryz.prog (tabs mx) 88 [] [.agg (eBig x0)] (Is [] (.b (.agg (eBig r)))) := by
 unfold skewbackref03_Neg_S at h
 refine Meets.intro 13 Tryz.func88 Tryz.ntmps88 rfl (by simp) fun E => ?_
 show Tri _ E ⟨13, [], []⟩ _ ⟨[(0, .b (.agg (eBig x0)))], []⟩ _
 refine Tri.seq (Tri.regionL ?_)
 refine Oc rfl (op_box (k := 101) rfl rfl) (Oc rfl (op_alloc (k := 102) tyZero25 rfl) ?_)
 refine OpsL.nilS ⟨[(1, Pt 101 0), (2, Pt 102 0)], [(101, .box 25 (eBig x0)), (102, .box 25 (.bool false :: .bool false :: ((eA16 .u32) A16.zero)))]⟩ rfl ?_
 refine Tri.seq (Tri.seq (Tri.regionL ?_))
 refine Oc rfl (op_load_p tyAgg25 rfl rfl rfl rfl) ?_
 obtain ⟨x_1, e1, h⟩ := bnd h
 refine Oc rfl (op_call0 (skewbackref03_Good_spec e1) goes15 rfl rfl) (Oc rfl (op_not rfl) ?_)
 refine OpsL.nilS ⟨[(1, Pt 101 0), (2, Pt 102 0), (5, B (!x_1))], [(101, .box 25 (eBig x0)), (102, .box 25 (.bool false :: .bool false :: ((eA16 .u32) A16.zero)))]⟩ rfl ?_
 refine Tri.ite h rfl (fun _ h => ?_) (fun _ h => ?_)
 ·refine Tri.seq (Tri.regionL ?_)
  obtain ⟨x_2, e2, h⟩ := bnd h
  refine Oc rfl (op_call0 (skewbackref03_Bad_spec e2) goes83 rfl rfl) (Oc rfl (op_store_p tyAgg25 rfl rfl rfl rfl (Nat.le_of_ble_eq_true rfl) rfl) ?_)
  refine OpsL.nilS ⟨[(2, Pt 102 0)], [(102, .box 25 (eBig x_2))]⟩ rfl ?_
  refine Tri.ret ?_
  refine Fin.then_ret ?_
  obtain rfl := Option.some.inj h
  refine Fin.keepS ⟨[(2, Pt 102 0)], [(102, .box 25 (eBig x_2))]⟩ rfl ?_
  refine Fin.result' [.agg (eBig x_2)] (.inl rfl) rfl (.cons (.agg tyAgg25 rfl rfl rfl rfl) .nil) ⟨rfl, rfl⟩
 ·refine Tri.skip ?_
  refine Fin.keepS ⟨[(1, Pt 101 0), (2, Pt 102 0)], [(101, .box 25 (eBig x0)), (102, .box 25 (.bool false :: .bool false :: ((eA16 .u32) A16.zero)))]⟩ rfl ?_
  refine Fin.then (Tri.seq ?_)
  refine Tri.keepS ⟨[(1, Pt 101 0), (2, Pt 102 0)], [(101, .box 25 (eBig x0)), (102, .box 25 (.bool false :: .bool false :: ((eA16 .u32) A16.zero)))]⟩ rfl ?_
  obtain ⟨x_3, e3, h⟩ := bnd h
  obtain ⟨x_4, e4, h⟩ := bnd h
  refine Tri.regionY mixed 6 [Pt 101 1, B x0.Neg, B (!x0.Neg), .b (.agg (eBig x0)), .b (.one (.sl 1 (x_3.map eI))), .b (.agg (eBig x_4))] [2] [102] (s' := ⟨[(2, Pt 102 0)], [(102, .box 25 (eBig x_4))]⟩) rfl ⟨fun _ => .plain rfl (op_field_p tyFld25_1 rfl rfl), fun _ => .plain rfl (op_load_p1 tyOne4 rfl rfl rfl), fun _ => .plain rfl (op_not rfl), fun _ => .plain rfl (op_load_p tyAgg25 rfl rfl rfl rfl), fun _ => .plain rfl (op_call0 (skewbackref03_digits_spec e3) goes85 rfl rfl), fun _ => .plain rfl (op_call0 (skewbackref03_number_spec e4) goes76 rfl rfl), trivial⟩ ⟨_, by exact .plain rfl (op_store_p tyAgg25 rfl rfl rfl rfl (Nat.le_of_ble_eq_true rfl) rfl), rfl⟩ rfl ?_
  refine Tri.ret ?_
  obtain rfl := Option.some.inj h
  refine Fin.keepS ⟨[(2, Pt 102 0)], [(102, .box 25 (eBig x_4))]⟩ rfl ?_
  refine Fin.result' [.agg (eBig x_4)] (.inl rfl) rfl (.cons (.agg tyAgg25 rfl rfl rfl rfl) .nil) ⟨rfl, rfl⟩
def skewbackref03_floor_S (F : Nat) (n0 : Int) (m0 : Int) : Option Int :=
 Option.bind (quo? .i64 n0 m0) (fun x_1 => Option.bind (Option.bind (rem? n0 m0) (fun x_3 => letN ((decide (x_3 ≠ 0)) && ((decide (n0 < 0)) != (decide (m0 < 0)))) fun x_4 => if x_4 = true then (some (IntKind.i64.wrap (x_1 - 1))) else (some x_1))) (fun q_2 => some q_2))
theorem skewbackref03_floor_spec {F : Nat} {n0 : Int} {m0 : Int} {r : Int} (h : skewbackref03_floor_S F n0 m0 = some r) : Meets Tryz.prog (tabs mx) 122 [] [.one (.i n0), .one (.i m0)] (Is [] (.b (.one (.i r)))) := by
 unfold skewbackref03_floor_S at h
 refine Meets.intro 23 Tryz.func122 Tryz.ntmps122 rfl (by simp) fun E => ?_
 show Tri _ E ⟨23, [], []⟩ _ ⟨[(0, I n0), (1, I m0)], []⟩ _
 refine Tri.seq (Tri.regionL ?_)
 refine Oc rfl (op_assign rfl) ?_
 refine OpsL.nilS ⟨[(0, I n0), (1, I m0)], []⟩ rfl ?_
 refine Tri.seq (Tri.regionL ?_)
 refine Oc rfl (op_move rfl) (Oc rfl (op_move rfl) ?_)
 obtain ⟨x_1, e1, h⟩ := bnd h
 refine Oc rfl (op_quo2 e1 rfl rfl) (Oc rfl (op_assign rfl) ?_)
 refine OpsL.nilS ⟨[(0, I n0), (1, I m0), (5, I x_1)], []⟩ rfl ?_
 obtain ⟨v2, h3, h⟩ := bnd h
 refine Tri.seqJ (v := v2) (fun (q_2 : Int) => ⟨[(5, I q_2)], []⟩) (fun z => z) ?_ ?_
 ·refine Tri.seq (Tri.regionL ?_)
  refine Oc rfl (op_move rfl) (Oc rfl (op_move rfl) ?_)
  obtain ⟨x_3, e4, h3⟩ := bnd h3
  refine Oc rfl (op_rem2 e4 rfl rfl) (Oc rfl (op_neq rfl rfl) (Oc rfl (op_move rfl) ?_))
  refine OpsL.consG (decide (x_3 ≠ 0)) 99 [] (.plain rfl) (eq_t _) rfl rfl (fun g5 => trivial) (fun g5 => op_move rfl) ?_
  refine OpsL.consG (decide (x_3 ≠ 0)) 99 [14] (.plain rfl) (eq_t _) rfl rfl (fun g6 => ⟨g6, trivial⟩) (fun g6 => op_lss rfl rfl) ?_
  refine OpsL.keepS ⟨[(1, I m0), (5, I x_1), (13, B (decide (x_3 ≠ 0))), (15, .opt (decide (x_3 ≠ 0)) (.one (.bool (decide (n0 < 0)))))], []⟩ rfl ?_
  refine OpsL.consG (decide (x_3 ≠ 0)) 99 [] (.plain rfl) (eq_t _) rfl rfl (fun g7 => trivial) (fun g7 => op_move rfl) ?_
  refine OpsL.consG (decide (x_3 ≠ 0)) 99 [16] (.plain rfl) (eq_t _) rfl rfl (fun g8 => ⟨g8, trivial⟩) (fun g8 => op_lss rfl rfl) ?_
  refine OpsL.consG (decide (x_3 ≠ 0)) 99 [15, 17] (.plain rfl) (eq_t _) rfl rfl (fun g9 => ⟨g9, g9, trivial⟩) (fun g9 => op_neq_bool und4 rfl rfl) ?_
  refine OpsL.consB h3 rfl (op_pick_and (fun e => e) rfl rfl rfl rfl) (fun x_4 h3 => ?_)
  refine OpsL.nilS ⟨[(5, I x_1), (19, B x_4)], []⟩ rfl ?_
  refine Tri.ite h3 rfl (fun _ h3 => ?_) (fun _ h3 => ?_)
  ·refine Tri.regionL ?_
   refine Oc rfl (op_move rfl) (Oc rfl (op_sub rfl rfl) (Oc rfl (op_assign rfl) ?_))
   refine OpsL.nil ?_
   exact Fin.join [5] [] (IntKind.i64.wrap (x_1 - 1)) (Option.some.inj h3) rfl
  ·refine Tri.skip ?_
   exact Fin.join [5] [] x_1 (Option.some.inj h3) rfl
 ·rintro q_2 hv
  subst v2
  refine Tri.seq (Tri.regionL ?_)
  refine Oc rfl (op_move rfl) (Oc rfl (op_assign rfl) ?_)
  refine OpsL.nilS ⟨[(4, I q_2)], []⟩ rfl ?_
  refine Tri.ret ?_
  obtain rfl := Option.some.inj h
  refine Fin.keepS ⟨[(4, I q_2)], []⟩ rfl ?_
  refine Fin.result' [.one (.i q_2)] (.inl rfl) rfl (.cons (.tmp rfl) .nil) ⟨rfl, rfl⟩
def skewbackref03_Quo_S (F : Nat) (a0 : Big) (b0 : Big) : Option Big :=
 Option.bind (skewbackref03_word_S F a0) (un2 fun x_1 x_2 => Option.bind (skewbackref03_word_S F b0) (un2 fun x_3 x_4 => if ((x_2 && x_4) && (decide (x_3 ≠ 0))) = true then (Option.bind (skewbackref03_floor_S F x_1 x_3) (fun x_5 => Option.bind (skewbackref03_Of_S F x_5) (fun x_6 => some x_6))) else (Option.bind (skewbackref03_Good_S F a0) (fun x_7 => Option.bind (gcall (!(!x_7)) (skewbackref03_Good_S F b0)) (fun x_8 => Option.bind (gcall (!((!x_7) || (!x_8))) (skewbackref03_digits_S F b0)) (fun x_9 => if (((!x_7) || (!x_8)) || (decide ((x_9.length : Int) = 0))) = true then (Option.bind (skewbackref03_Bad_S F) (fun x_10 => some x_10)) else (Option.bind (skewbackref03_digits_S F a0) (fun x_11 => Option.bind (skewbackref03_digits_S F b0) (fun x_12 => Option.bind (skewbackref03_divide_S F x_11 x_12) (un2 fun x_13 x_14 => Option.bind (if ((a0.Neg != b0.Neg) && (decide (0 < (x_14.length : Int)))) = true then (Option.bind (skewbackref03_plus_S F x_13 [1]) (fun x_16 => some x_16)) else (some x_13)) (fun q_15 => Option.bind (skewbackref03_number_S F (a0.Neg != b0.Neg) q_15) (fun x_17 => some x_17))))))))))))
theorem skewbackref03_Quo_spec {F : Nat} {a0 : Big} {b0 : Big} {r : Big} (h : skewbackref03_Quo_S F a0 b0 = some r) : Meets Tryz.prog (tabs mx) 89 [] [.agg (eBig a0), .agg (eBig b0)] (Is [] (.b (.agg (eBig r)))) := by
 unfold skewbackref03_Quo_S at h
 refine Meets.intro 76 Tryz.func89 Tryz.ntmps89 rfl (by simp) fun E => ?_
 show Tri _ E ⟨76, [], []⟩ _ ⟨[(0, .b (.agg (eBig a0))), (1, .b (.agg (eBig b0)))], []⟩ _
 refine Tri.seq (Tri.regionL ?_)
 refine Oc rfl (op_box (k := 101) rfl rfl) (Oc rfl (op_box (k := 102) rfl rfl) (Oc rfl (op_alloc (k := 103) tyZero25 rfl) ?_))
 refine OpsL.nilS ⟨[(2, Pt 101 0), (3, Pt 102 0), (4, Pt 103 0)], [(101, .box 25 (eBig a0)), (102, .box 25 (eBig b0)), (103, .box 25 (.bool false :: .bool false :: ((eA16 .u32) A16.zero)))]⟩ rfl ?_
 refine Tri.seq (Tri.regionL ?_)
 refine Oc rfl (op_load_p tyAgg25 rfl rfl rfl rfl) ?_
 obtain ⟨⟨x_1, x_2⟩, e1, h⟩ := bnd h
 refine Oc rfl (op_call0 (skewbackref03_word_spec e1) goes81 rfl rfl) (Oc rfl (op_move rfl) (Oc rfl (op_extract rfl rfl) (Oc rfl (op_extract rfl rfl) (Oc rfl (op_assign rfl) (Oc rfl (op_assign rfl) ?_)))))
 refine OpsL.nilS ⟨[(2, Pt 101 0), (3, Pt 102 0), (4, Pt 103 0), (5, I x_1), (6, B x_2)], [(101, .box 25 (eBig a0)), (102, .box 25 (eBig b0)), (103, .box 25 (.bool false :: .bool false :: ((eA16 .u32) A16.zero)))]⟩ rfl ?_
 refine Tri.seq (Tri.regionL ?_)
 refine Oc rfl (op_load_p tyAgg25 rfl rfl rfl rfl) ?_
 obtain ⟨⟨x_3, x_4⟩, e2, h⟩ := bnd h
 refine Oc rfl (op_call0 (skewbackref03_word_spec e2) goes81 rfl rfl) (Oc rfl (op_move rfl) (Oc rfl (op_extract rfl rfl) (Oc rfl (op_extract rfl rfl) (Oc rfl (op_assign rfl) (Oc rfl (op_assign rfl) ?_)))))
 refine OpsL.nilS ⟨[(2, Pt 101 0), (3, Pt 102 0), (4, Pt 103 0), (5, I x_1), (6, B x_2), (7, I x_3), (8, B x_4)], [(101, .box 25 (eBig a0)), (102, .box 25 (eBig b0)), (103, .box 25 (.bool false :: .bool false :: ((eA16 .u32) A16.zero)))]⟩ rfl ?_
 refine Tri.seq (Tri.seq (Tri.regionL ?_))
 refine Oc rfl (op_move rfl) (Oc rfl (op_move rfl) ?_)
 refine OpsL.consG x_2 99 [] (.plain rfl) (eq_t _) rfl rfl (fun g3 => trivial) (fun g3 => op_move rfl) ?_
 refine Oc rfl (op_pick_and (fun e => e) rfl rfl rfl rfl) (Oc rfl (op_move rfl) ?_)
 refine OpsL.consG (x_2 && x_4) 99 [] (.plain rfl) (eq_t _) rfl rfl (fun g4 => trivial) (fun g4 => op_move rfl) ?_
 refine OpsL.consG (x_2 && x_4) 99 [26] (.plain rfl) (eq_t _) rfl rfl (fun g5 => ⟨g5, trivial⟩) (fun g5 => op_neq rfl rfl) ?_
 refine Oc rfl (op_pick_and (fun e => e) rfl rfl rfl rfl) ?_
 refine OpsL.nilS ⟨[(2, Pt 101 0), (3, Pt 102 0), (4, Pt 103 0), (5, I x_1), (7, I x_3), (28, B ((x_2 && x_4) && (decide (x_3 ≠ 0))))], [(101, .box 25 (eBig a0)), (102, .box 25 (eBig b0)), (103, .box 25 (.bool false :: .bool false :: ((eA16 .u32) A16.zero)))]⟩ rfl ?_
 refine Tri.ite h rfl (fun _ h => ?_) (fun _ h => ?_)
 ·refine Tri.seq (Tri.regionL ?_)
  refine Oc rfl (op_move rfl) (Oc rfl (op_move rfl) ?_)
  obtain ⟨x_5, e6, h⟩ := bnd h
  refine Oc rfl (op_call0 (skewbackref03_floor_spec e6) goes122 rfl rfl) ?_
  obtain ⟨x_6, e7, h⟩ := bnd h
  refine Oc rfl (op_call0 (skewbackref03_Of_spec e7) goes12 rfl rfl) (Oc rfl (op_store_p tyAgg25 rfl rfl rfl rfl (Nat.le_of_ble_eq_true rfl) rfl) ?_)
  refine OpsL.nilS ⟨[(4, Pt 103 0)], [(103, .box 25 (eBig x_6))]⟩ rfl ?_
  refine Tri.ret ?_
  refine Fin.then_ret ?_
  obtain rfl := Option.some.inj h
  refine Fin.keepS ⟨[(4, Pt 103 0)], [(103, .box 25 (eBig x_6))]⟩ rfl ?_
  refine Fin.result' [.agg (eBig x_6)] (.inl rfl) rfl (.cons (.agg tyAgg25 rfl rfl rfl rfl) .nil) ⟨rfl, rfl⟩
 ·refine Tri.skip ?_
  refine Fin.keepS ⟨[(2, Pt 101 0), (3, Pt 102 0), (4, Pt 103 0)], [(101, .box 25 (eBig a0)), (102, .box 25 (eBig b0)), (103, .box 25 (.bool false :: .bool false :: ((eA16 .u32) A16.zero)))]⟩ rfl ?_
  refine Fin.then (Tri.seq (Tri.seq (Tri.regionL ?_)))
  refine Oc rfl (op_load_p tyAgg25 rfl rfl rfl rfl) ?_
  obtain ⟨x_7, e8, h⟩ := bnd h
  refine Oc rfl (op_call0 (skewbackref03_Good_spec e8) goes15 rfl rfl) (Oc rfl (op_not rfl) (Oc rfl (op_move rfl) ?_))
  refine OpsL.consG (!(!x_7)) 99 [] (.plain rfl) (eq_f _) rfl rfl (fun g9 => trivial) (fun g9 => op_load_p tyAgg25 rfl rfl rfl rfl) ?_
  refine OpsL.keepS ⟨[(2, Pt 101 0), (3, Pt 102 0), (4, Pt 103 0), (36, B (!x_7)), (37, .opt (!(!x_7)) (.agg (eBig b0)))], [(101, .box 25 (eBig a0)), (102, .box 25 (eBig b0)), (103, .box 25 (.bool false :: .bool false :: ((eA16 .u32) A16.zero)))]⟩ rfl ?_
  obtain ⟨x_8, e11, h⟩ := bnd h
  refine OpsL.consG (!(!x_7)) 99 [37] (.plain rfl) (eq_f _) rfl rfl (fun g10 => ⟨g10, trivial⟩) (fun g10 => op_call0 (skewbackref03_Good_spec (gc e11 g10)) goes15 rfl rfl) ?_
  refine OpsL.consG (!(!x_7)) 99 [38] (.plain rfl) (eq_f _) rfl rfl (fun g12 => ⟨g12, trivial⟩) (fun g12 => op_not rfl) ?_
  refine Oc rfl (op_pick_or (fun e => by rw [e]; rfl) rfl rfl rfl rfl) (Oc rfl (op_move rfl) ?_)
  refine OpsL.consG (!((!x_7) || (!x_8))) 99 [] (.plain rfl) (eq_f _) rfl rfl (fun g13 => trivial) (fun g13 => op_load_p tyAgg25 rfl rfl rfl rfl) ?_
  obtain ⟨x_9, e15, h⟩ := bnd h
  refine OpsL.consG (!((!x_7) || (!x_8))) 99 [42] (.plain rfl) (eq_f _) rfl rfl (fun g14 => ⟨g14, trivial⟩) (fun g14 => op_call0 (skewbackref03_digits_spec (gc e15 g14)) goes85 rfl rfl) ?_
  refine OpsL.keepS ⟨[(2, Pt 101 0), (3, Pt 102 0), (4, Pt 103 0), (41, B ((!x_7) || (!x_8))), (43, .opt (!((!x_7) || (!x_8))) (.one (.sl 1 (x_9.map eI))))], [(101, .box 25 (eBig a0)), (102, .box 25 (eBig b0)), (103, .box 25 (.bool false :: .bool false :: ((eA16 .u32) A16.zero)))]⟩ rfl ?_
  refine OpsL.consG (!((!x_7) || (!x_8))) 99 [43] (.plain rfl) (eq_f _) rfl rfl (fun g16 => ⟨g16, trivial⟩) (fun g16 => op_len_e' und70 rfl (List.length_map _)) ?_
  refine OpsL.consG (!((!x_7) || (!x_8))) 99 [44] (.plain rfl) (eq_f _) rfl rfl (fun g17 => ⟨g17, trivial⟩) (fun g17 => op_eql rfl rfl) ?_
  refine Oc rfl (op_pick_or (fun e => by rw [e]; rfl) rfl rfl rfl rfl) ?_
  refine OpsL.nilS ⟨[(2, Pt 101 0), (3, Pt 102 0), (4, Pt 103 0), (46, B (((!x_7) || (!x_8)) || (decide ((x_9.length : Int) = 0))))], [(101, .box 25 (eBig a0)), (102, .box 25 (eBig b0)), (103, .box 25 (.bool false :: .bool false :: ((eA16 .u32) A16.zero)))]⟩ rfl ?_
  refine Tri.ite h rfl (fun _ h => ?_) (fun _ h => ?_)
  ·refine Tri.seq (Tri.regionL ?_)
   obtain ⟨x_10, e18, h⟩ := bnd h
   refine Oc rfl (op_call0 (skewbackref03_Bad_spec e18) goes83 rfl rfl) (Oc rfl (op_store_p tyAgg25 rfl rfl rfl rfl (Nat.le_of_ble_eq_true rfl) rfl) ?_)
   refine OpsL.nilS ⟨[(4, Pt 103 0)], [(103, .box 25 (eBig x_10))]⟩ rfl ?_
   refine Tri.ret ?_
   refine Fin.then_ret ?_
   obtain rfl := Option.some.inj h
   refine Fin.keepS ⟨[(4, Pt 103 0)], [(103, .box 25 (eBig x_10))]⟩ rfl ?_
   refine Fin.result' [.agg (eBig x_10)] (.inl rfl) rfl (.cons (.agg tyAgg25 rfl rfl rfl rfl) .nil) ⟨rfl, rfl⟩
  ·refine Tri.skip ?_
   refine Fin.keepS ⟨[(2, Pt 101 0), (3, Pt 102 0), (4, Pt 103 0)], [(101, .box 25 (eBig a0)), (102, .box 25 (eBig b0)), (103, .box 25 (.bool false :: .bool false :: ((eA16 .u32) A16.zero)))]⟩ rfl ?_
   refine Fin.then (Tri.seq ?_)
   refine Tri.keepS ⟨[(2, Pt 101 0), (3, Pt 102 0), (4, Pt 103 0)], [(101, .box 25 (eBig a0)), (102, .box 25 (eBig b0)), (103, .box 25 (.bool false :: .bool false :: ((eA16 .u32) A16.zero)))]⟩ rfl ?_
   obtain ⟨x_11, e19, h⟩ := bnd h
   obtain ⟨x_12, e20, h⟩ := bnd h
   obtain ⟨⟨x_13, x_14⟩, e21, h⟩ := bnd h
   refine Tri.regionY mixed 10 [.b (.agg (eBig a0)), .b (.one (.sl 1 (x_11.map eI))), .b (.agg (eBig b0)), .b (.one (.sl 1 (x_12.map eI))), .tup [.one (.sl 1 (x_13.map eI)), .one (.sl 1 (x_14.map eI))], .tup [.one (.sl 1 (x_13.map eI)), .one (.sl 1 (x_14.map eI))], .b (.one (.sl 1 (x_13.map eI))), .b (.one (.sl 1 (x_14.map eI))), .b (.one (.sl 1 (x_13.map eI))), .b (.one (.sl 1 (x_14.map eI)))] [2, 3, 4, 9, 10] [101, 102, 103] (s' := ⟨[(2, Pt 101 0), (3, Pt 102 0), (4, Pt 103 0), (9, .b (.one (.sl 1 (x_13.map eI)))), (10, .b (.one (.sl 1 (x_14.map eI))))], [(101, .box 25 (eBig a0)), (102, .box 25 (eBig b0)), (103, .box 25 (.bool false :: .bool false :: ((eA16 .u32) A16.zero)))]⟩) rfl ⟨fun _ => .plain rfl (op_load_p tyAgg25 rfl rfl rfl rfl), fun _ => .plain rfl (op_call0 (skewbackref03_digits_spec e19) goes85 rfl rfl), fun _ => .plain rfl (op_load_p tyAgg25 rfl rfl rfl rfl), fun _ => .plain rfl (op_call0 (skewbackref03_digits_spec e20) goes85 rfl rfl), fun _ => .plain rfl (op_call0 (skewbackref03_divide_spec e21) goes121 rfl rfl), fun _ => .plain rfl (op_move rfl), fun _ => .plain rfl (op_extract rfl rfl), fun _ => .plain rfl (op_extract rfl rfl), fun _ => .plain rfl (op_assign rfl), fun _ => .plain rfl (op_assign rfl), trivial⟩ rfl rfl ?_
   obtain ⟨v22, h23, h⟩ := bnd h
   refine Tri.seqJ (v := v22) (fun (q_15 : List Int) => ⟨[(2, Pt 101 0), (3, Pt 102 0), (4, Pt 103 0), (9, .b (.one (.sl 1 (q_15.map eI))))], [(101, .box 25 (eBig a0)), (102, .box 25 (eBig b0)), (103, .box 25 (.bool false :: .bool false :: ((eA16 .u32) A16.zero)))]⟩) (fun z => z) ?_ ?_
   ·refine Tri.seq (Tri.regionL ?_)
    refine Oc rfl (op_field_p tyFld25_1 rfl rfl) (Oc rfl (op_load_p1 tyOne4 rfl rfl rfl) (Oc rfl (op_field_p tyFld25_1 rfl rfl) (Oc rfl (op_load_p1 tyOne4 rfl rfl rfl) (Oc rfl (op_neq_bool und4 rfl rfl) (Oc rfl (op_move rfl) ?_)))))
    refine OpsL.consG (a0.Neg != b0.Neg) 99 [] (.plain rfl) (eq_t _) rfl rfl (fun g24 => trivial) (fun g24 => op_move rfl) ?_
    refine OpsL.keepS ⟨[(2, Pt 101 0), (3, Pt 102 0), (4, Pt 103 0), (9, .b (.one (.sl 1 (x_13.map eI)))), (61, B (a0.Neg != b0.Neg)), (62, .opt (a0.Neg != b0.Neg) (.one (.sl 1 (x_14.map eI))))], [(101, .box 25 (eBig a0)), (102, .box 25 (eBig b0)), (103, .box 25 (.bool false :: .bool false :: ((eA16 .u32) A16.zero)))]⟩ rfl ?_
    refine OpsL.consG (a0.Neg != b0.Neg) 99 [62] (.plain rfl) (eq_t _) rfl rfl (fun g25 => ⟨g25, trivial⟩) (fun g25 => op_len_e' und70 rfl (List.length_map _)) ?_
    refine OpsL.consG (a0.Neg != b0.Neg) 99 [63] (.plain rfl) (eq_t _) rfl rfl (fun g26 => ⟨g26, trivial⟩) (fun g26 => op_gtr rfl rfl) ?_
    refine Oc rfl (op_pick_and (fun e => e) rfl rfl rfl rfl) ?_
    refine OpsL.nilS ⟨[(2, Pt 101 0), (3, Pt 102 0), (4, Pt 103 0), (9, .b (.one (.sl 1 (x_13.map eI)))), (65, B ((a0.Neg != b0.Neg) && (decide (0 < (x_14.length : Int)))))], [(101, .box 25 (eBig a0)), (102, .box 25 (eBig b0)), (103, .box 25 (.bool false :: .bool false :: ((eA16 .u32) A16.zero)))]⟩ rfl ?_
    refine Tri.ite h23 rfl (fun _ h23 => ?_) (fun _ h23 => ?_)
    ·refine Tri.regionL ?_
     refine Oc rfl (op_move rfl) (Oc rfl (op_buildSlice (k := 104) (es := [1].map eI) tySl70 rfl rfl (uni_map fun _ => rfl) rfl (by decide) (by decide) rfl) ?_)
     refine OpsL.persist 104 rfl ?_
     obtain ⟨x_16, e27, h23⟩ := bnd h23
     refine Oc rfl (op_call0 (skewbackref03_plus_spec e27) goes77 rfl rfl) (Oc rfl (op_assign rfl) ?_)
     refine OpsL.nil ?_
     exact Fin.join [2, 3, 4, 9] [101, 102, 103] x_16 (Option.some.inj h23) rfl
    ·refine Tri.skip ?_
     exact Fin.join [2, 3, 4, 9] [101, 102, 103] x_13 (Option.some.inj h23) rfl
   ·rintro q_15 hv
    subst v22
    refine Tri.seq (Tri.regionL ?_)
    refine Oc rfl (op_field_p tyFld25_1 rfl rfl) (Oc rfl (op_load_p1 tyOne4 rfl rfl rfl) (Oc rfl (op_field_p tyFld25_1 rfl rfl) (Oc rfl (op_load_p1 tyOne4 rfl rfl rfl) (Oc rfl (op_neq_bool und4 rfl rfl) (Oc rfl (op_move rfl) ?_)))))
    obtain ⟨x_17, e28, h⟩ := bnd h
    refine Oc rfl (op_call0 (skewbackref03_number_spec e28) goes76 rfl rfl) (Oc rfl (op_store_p tyAgg25 rfl rfl rfl rfl (Nat.le_of_ble_eq_true rfl) rfl) ?_)
    refine OpsL.nilS ⟨[(4, Pt 103 0)], [(103, .box 25 (eBig x_17))]⟩ rfl ?_
    refine Tri.ret ?_
    obtain rfl := Option.some.inj h
    refine Fin.keepS ⟨[(4, Pt 103 0)], [(103, .box 25 (eBig x_17))]⟩ rfl ?_
    refine Fin.result' [.agg (eBig x_17)] (.inl rfl) rfl (.cons (.agg tyAgg25 rfl rfl rfl rfl) .nil) ⟨rfl, rfl⟩
def skewbackref04_Make_S (F : Nat) (n0 : Big) (d0 : Big) : Option Frc :=
 Option.bind (skewbackref03_Good_S F n0) (fun x_1 => Option.bind (gcall (!(!x_1)) (skewbackref03_Good_S F d0)) (fun x_2 => Option.bind (gcall (!((!x_1) || (!x_2))) (skewbackref03_Sign_S F d0)) (fun x_3 => if (((!x_1) || (!x_2)) || (decide (x_3 = 0))) = true then (Option.bind (skewbackref04_Bad_S F) (fun x_4 => some x_4)) else (Option.bind (skewbackref03_Gcd_S F n0 d0) (fun x_5 => Option.bind (Option.bind (skewbackref03_Sign_S F d0) (fun x_7 => if (decide (x_7 < 0)) = true then (Option.bind (skewbackref03_Neg_S F x_5) (fun x_8 => some x_8)) else (some x_5))) (fun g_6 => Option.bind (skewbackref03_Quo_S F n0 g_6) (fun x_9 => Option.bind (skewbackref03_Quo_S F d0 g_6) (fun x_10 => some (⟨x_9, x_10⟩ : Frc)))))))))
theorem skewbackref04_Make_spec {F : Nat} {n0 : Big} {d0 : Big} {r : Frc} (h : skewbackref04_Make_S F n0 d0 = some r) : Meets Tryz.prog (tabs mx) 17 [] [.agg (eBig n0), .agg (eBig d0)] (Is [] (.b (.agg (eFrc r)))) := by
 unfold skewbackref04_Make_S at h
 refine Meets.intro 35 Tryz.func17 Tryz.ntmps17 rfl (by simp) fun E => ?_
 show Tri _ E ⟨35, [], []⟩ _ ⟨[(0, .b (.agg (eBig n0))), (1, .b (.agg (eBig d0)))], []⟩ _
 refine Tri.seq (Tri.regionL ?_)
 refine Oc rfl (op_box (k := 101) rfl rfl) (Oc rfl (op_box (k := 102) rfl rfl) (Oc rfl (op_alloc (k := 103) tyZero27 rfl) ?_))
 refine OpsL.nilS ⟨[(2, Pt 101 0), (3, Pt 102 0), (4, Pt 103 0)], [(101, .box 25 (eBig n0)), (102, .box 25 (eBig d0)), (103, .box 27 (.bool false :: .bool false :: ((eA16 .u32) A16.zero ++ (.bool false :: .bool false :: ((eA16 .u32) A16.zero)))))]⟩ rfl ?_
 refine Tri.seq (Tri.seq (Tri.regionL ?_))
 refine Oc rfl (op_load_p tyAgg25 rfl rfl rfl rfl) ?_
 obtain ⟨x_1, e1, h⟩ := bnd h
 refine Oc rfl (op_call0 (skewbackref03_Good_spec e1) goes15 rfl rfl) (Oc rfl (op_not rfl) (Oc rfl (op_move rfl) ?_))
 refine OpsL.consG (!(!x_1)) 99 [] (.plain rfl) (eq_f _) rfl rfl (fun g2 => trivial) (fun g2 => op_load_p tyAgg25 rfl rfl rfl rfl) ?_
 refine OpsL.keepS ⟨[(2, Pt 101 0), (3, Pt 102 0), (4, Pt 103 0), (9, B (!x_1)), (10, .opt (!(!x_1)) (.agg (eBig d0)))], [(101, .box 25 (eBig n0)), (102, .box 25 (eBig d0)), (103, .box 27 (.bool false :: .bool false :: ((eA16 .u32) A16.zero ++ (.bool false :: .bool false :: ((eA16 .u32) A16.zero)))))]⟩ rfl ?_
 obtain ⟨x_2, e4, h⟩ := bnd h
 refine OpsL.consG (!(!x_1)) 99 [10] (.plain rfl) (eq_f _) rfl rfl (fun g3 => ⟨g3, trivial⟩) (fun g3 => op_call0 (skewbackref03_Good_spec (gc e4 g3)) goes15 rfl rfl) ?_
 refine OpsL.consG (!(!x_1)) 99 [11] (.plain rfl) (eq_f _) rfl rfl (fun g5 => ⟨g5, trivial⟩) (fun g5 => op_not rfl) ?_
 refine Oc rfl (op_pick_or (fun e => by rw [e]; rfl) rfl rfl rfl rfl) (Oc rfl (op_move rfl) ?_)
 refine OpsL.consG (!((!x_1) || (!x_2))) 99 [] (.plain rfl) (eq_f _) rfl rfl (fun g6 => trivial) (fun g6 => op_load_p tyAgg25 rfl rfl rfl rfl) ?_
 obtain ⟨x_3, e8, h⟩ := bnd h
 refine OpsL.consG (!((!x_1) || (!x_2))) 99 [15] (.plain rfl) (eq_f _) rfl rfl (fun g7 => ⟨g7, trivial⟩) (fun g7 => op_call0 (skewbackref03_Sign_spec (gc e8 g7)) goes78 rfl rfl) ?_
 refine OpsL.consG (!((!x_1) || (!x_2))) 99 [16] (.plain rfl) (eq_f _) rfl rfl (fun g9 => ⟨g9, trivial⟩) (fun g9 => op_eql rfl rfl) ?_
 refine Oc rfl (op_pick_or (fun e => by rw [e]; rfl) rfl rfl rfl rfl) ?_
 refine OpsL.nilS ⟨[(2, Pt 101 0), (3, Pt 102 0), (4, Pt 103 0), (18, B (((!x_1) || (!x_2)) || (decide (x_3 = 0))))], [(101, .box 25 (eBig n0)), (102, .box 25 (eBig d0)), (103, .box 27 (.bool false :: .bool false :: ((eA16 .u32) A16.zero ++ (.bool false :: .bool false :: ((eA16 .u32) A16.zero)))))]⟩ rfl ?_
 refine Tri.ite h rfl (fun _ h => ?_) (fun _ h => ?_)
 ·refine Tri.seq (Tri.regionL ?_)
  obtain ⟨x_4, e10, h⟩ := bnd h
  refine Oc rfl (op_call0 (skewbackref04_Bad_spec e10) goes28 rfl rfl) (Oc rfl (op_store_p tyAgg27 rfl rfl rfl rfl (Nat.le_of_ble_eq_true rfl) rfl) ?_)
  refine OpsL.nilS ⟨[(4, Pt 103 0)], [(103, .box 27 (eFrc x_4))]⟩ rfl ?_
  refine Tri.ret ?_
  refine Fin.then_ret ?_
  obtain rfl := Option.some.inj h
  refine Fin.keepS ⟨[(4, Pt 103 0)], [(103, .box 27 (eFrc x_4))]⟩ rfl ?_
  refine Fin.result' [.agg (eFrc x_4)] (.inl rfl) rfl (.cons (.agg tyAgg27 rfl rfl rfl rfl) .nil) ⟨rfl, rfl⟩
 ·refine Tri.skip ?_
  refine Fin.keepS ⟨[(2, Pt 101 0), (3, Pt 102 0), (4, Pt 103 0)], [(101, .box 25 (eBig n0)), (102, .box 25 (eBig d0)), (103, .box 27 (.bool false :: .bool false :: ((eA16 .u32) A16.zero ++ (.bool false :: .bool false :: ((eA16 .u32) A16.zero)))))]⟩ rfl ?_
  refine Fin.then (Tri.seq (Tri.regionL ?_))
  refine Oc rfl (op_load_p tyAgg25 rfl rfl rfl rfl) (Oc rfl (op_load_p tyAgg25 rfl rfl rfl rfl) ?_)
  obtain ⟨x_5, e11, h⟩ := bnd h
  refine Oc rfl (op_call0 (skewbackref03_Gcd_spec e11) goes79 rfl rfl) (Oc rfl (op_alloc (k := 104) tyZero25 rfl) (Oc rfl (op_store_p tyAgg25 rfl rfl rfl rfl (Nat.le_of_ble_eq_true rfl) rfl) ?_))
  refine OpsL.nilS ⟨[(2, Pt 101 0), (3, Pt 102 0), (4, Pt 103 0), (5, Pt 104 0)], [(101, .box 25 (eBig n0)), (102, .box 25 (eBig d0)), (103, .box 27 (.bool false :: .bool false :: ((eA16 .u32) A16.zero ++ (.bool false :: .bool false :: ((eA16 .u32) A16.zero))))), (104, .box 25 (eBig x_5))]⟩ rfl ?_
  obtain ⟨v12, h13, h⟩ := bnd h
  refine Tri.seqJ (v := v12) (fun (g_6 : Big) => ⟨[(2, Pt 101 0), (3, Pt 102 0), (4, Pt 103 0), (5, Pt 104 0)], [(101, .box 25 (eBig n0)), (102, .box 25 (eBig d0)), (103, .box 27 (.bool false :: .bool false :: ((eA16 .u32) A16.zero ++ (.bool false :: .bool false :: ((eA16 .u32) A16.zero))))), (104, .box 25 (eBig g_6))]⟩) (fun z => z) ?_ ?_
  ·refine Tri.seq (Tri.regionL ?_)
   refine Oc rfl (op_load_p tyAgg25 rfl rfl rfl rfl) ?_
   obtain ⟨x_7, e14, h13⟩ := bnd h13
   refine Oc rfl (op_call0 (skewbackref03_Sign_spec e14) goes78 rfl rfl) (Oc rfl (op_lss rfl rfl) ?_)
   refine OpsL.nilS ⟨[(2, Pt 101 0), (3, Pt 102 0), (4, Pt 103 0), (5, Pt 104 0), (25, B (decide (x_7 < 0)))], [(101, .box 25 (eBig n0)), (102, .box 25 (eBig d0)), (103, .box 27 (.bool false :: .bool false :: ((eA16 .u32) A16.zero ++ (.bool false :: .bool false :: ((eA16 .u32) A16.zero))))), (104, .box 25 (eBig x_5))]⟩ rfl ?_
   refine Tri.ite h13 rfl (fun _ h13 => ?_) (fun _ h13 => ?_)
   ·refine Tri.regionL ?_
    refine Oc rfl (op_load_p tyAgg25 rfl rfl rfl rfl) ?_
    obtain ⟨x_8, e15, h13⟩ := bnd h13
    refine Oc rfl (op_call0 (skewbackref03_Neg_spec e15) goes88 rfl rfl) (Oc rfl (op_store_p tyAgg25 rfl rfl rfl rfl (Nat.le_of_ble_eq_true rfl) rfl) ?_)
    refine OpsL.nil ?_
    exact Fin.join [2, 3, 4, 5] [101, 102, 103, 104] x_8 (Option.some.inj h13) rfl
   ·refine Tri.skip ?_
    exact Fin.join [2, 3, 4, 5] [101, 102, 103, 104] x_5 (Option.some.inj h13) rfl
  ·rintro g_6 hv
   subst v12
   refine Tri.seq ?_
   refine Tri.keepS ⟨[(2, Pt 101 0), (3, Pt 102 0), (4, Pt 103 0), (5, Pt 104 0)], [(101, .box 25 (eBig n0)), (102, .box 25 (eBig d0)), (103, .box 27 (.bool false :: .bool false :: ((eA16 .u32) A16.zero ++ (.bool false :: .bool false :: ((eA16 .u32) A16.zero))))), (104, .box 25 (eBig g_6))]⟩ rfl ?_
   obtain ⟨x_9, e16, h⟩ := bnd h
   obtain ⟨x_10, e17, h⟩ := bnd h
   refine Tri.regionY mixed 7 [.b (.agg (eBig n0)), .b (.agg (eBig g_6)), .b (.agg (eBig x_9)), .b (.agg (eBig d0)), .b (.agg (eBig g_6)), .b (.agg (eBig x_10)), .b (.agg (eBig x_9 ++ (eBig x_10)))] [4] [103] (s' := ⟨[(4, Pt 103 0)], [(103, .box 27 (eBig x_9 ++ (eBig x_10)))]⟩) rfl ⟨fun _ => .plain rfl (op_load_p tyAgg25 rfl rfl rfl rfl), fun _ => .plain rfl (op_load_p tyAgg25 rfl rfl rfl rfl), fun _ => .plain rfl (op_call0 (skewbackref03_Quo_spec e16) goes89 rfl rfl), fun _ => .plain rfl (op_load_p tyAgg25 rfl rfl rfl rfl), fun _ => .plain rfl (op_load_p tyAgg25 rfl rfl rfl rfl), fun _ => .plain rfl (op_call0 (skewbackref03_Quo_spec e17) goes89 rfl rfl), fun _ => .plain rfl (op_build tyBuild27 rfl rfl), trivial⟩ ⟨_, by exact .plain rfl (op_store_p tyAgg27 rfl rfl rfl rfl (Nat.le_of_ble_eq_true rfl) rfl), rfl⟩ rfl ?_
   refine Tri.ret ?_
   obtain rfl := Option.some.inj h
   refine Fin.keepS ⟨[(4, Pt 103 0)], [(103, .box 27 (eBig x_9 ++ (eBig x_10)))]⟩ rfl ?_
   refine Fin.result' [.agg (eBig x_9 ++ (eBig x_10))] (.inl rfl) rfl (.cons (.agg tyAgg27 rfl rfl rfl rfl) .nil) ⟨rfl, rfl⟩
def skewbackref04_Whole_S (F : Nat) (n0 : Big) : Option Frc :=
 Option.bind (skewbackref04_one_S F) (fun x_1 => Option.bind (skewbackref04_Make_S F n0 x_1) (fun x_2 => some x_2))
theorem skewbackref04_Whole_spec {F : Nat} {n0 : Big} {r : Frc} (h : skewbackref04_Whole_S F n0 = some r) : Meets Tryz.prog (tabs mx) 19 [] [.agg (eBig n0)] (Is [] (.b (.agg (eFrc r)))) := by
 unfold skewbackref04_Whole_S at h
 refine Meets.intro 6 Tryz.func19 Tryz.ntmps19 rfl (by simp) fun E => ?_
 show Tri _ E ⟨6, [], []⟩ _ ⟨[(0, .b (.agg (eBig n0)))], []⟩ _
 refine Tri.seq (Tri.regionL ?_)
 refine Oc rfl (op_box (k := 101) rfl rfl) (Oc rfl (op_alloc (k := 102) tyZero27 rfl) ?_)
 refine OpsL.nilS ⟨[(1, Pt 101 0), (2, Pt 102 0)], [(101, .box 25 (eBig n0)), (102, .box 27 (.bool false :: .bool false :: ((eA16 .u32) A16.zero ++ (.bool false :: .bool false :: ((eA16 .u32) A16.zero)))))]⟩ rfl ?_
 refine Tri.seq ?_
 refine Tri.keepS ⟨[(1, Pt 101 0), (2, Pt 102 0)], [(101, .box 25 (eBig n0)), (102, .box 27 (.bool false :: .bool false :: ((eA16 .u32) A16.zero ++ (.bool false :: .bool false :: ((eA16 .u32) A16.zero)))))]⟩ rfl ?_
 obtain ⟨x_1, e1, h⟩ := bnd h
 obtain ⟨x_2, e2, h⟩ := bnd h
 refine Tri.regionY mixed 3 [.b (.agg (eBig n0)), .b (.agg (eBig x_1)), .b (.agg (eFrc x_2))] [2] [102] (s' := ⟨[(2, Pt 102 0)], [(102, .box 27 (eFrc x_2))]⟩) rfl ⟨fun _ => .plain rfl (op_load_p tyAgg25 rfl rfl rfl rfl), fun _ => .plain rfl (op_call0 (skewbackref04_one_spec e1) goes80 rfl rfl), fun _ => .plain rfl (op_call0 (skewbackref04_Make_spec e2) goes17 rfl rfl), trivial⟩ ⟨_, by exact .plain rfl (op_store_p tyAgg27 rfl rfl rfl rfl (Nat.le_of_ble_eq_true rfl) rfl), rfl⟩ rfl ?_
 refine Tri.ret ?_
 obtain rfl := Option.some.inj h
 refine Fin.keepS ⟨[(2, Pt 102 0)], [(102, .box 27 (eFrc x_2))]⟩ rfl ?_
 refine Fin.result' [.agg (eFrc x_2)] (.inl rfl) rfl (.cons (.agg tyAgg27 rfl rfl rfl rfl) .nil) ⟨rfl, rfl⟩
def skewbackref04_Of_S (F : Nat) (n0 : Int) : Option Frc :=
 Option.bind (skewbackref03_Of_S F n0) (fun x_1 => Option.bind (skewbackref04_one_S F) (fun x_2 => Option.bind (skewbackref04_Make_S F x_1 x_2) (fun x_3 => some x_3)))
theorem skewbackref04_Of_spec {F : Nat} {n0 : Int} {r : Frc} (h : skewbackref04_Of_S F n0 = some r) : Meets Tryz.prog (tabs mx) 21 [] [.one (.i n0)] (Is [] (.b (.agg (eFrc r)))) := by
 unfold skewbackref04_Of_S at h
 refine Meets.intro 7 Tryz.func21 Tryz.ntmps21 rfl (by simp) fun E => ?_
 show Tri _ E ⟨7, [], []⟩ _ ⟨[(0, I n0)], []⟩ _
 refine Tri.seq (Tri.regionL ?_)
 refine Oc rfl (op_alloc (k := 101) tyZero27 rfl) ?_
 refine OpsL.nilS ⟨[(0, I n0), (2, Pt 101 0)], [(101, .box 27 (.bool false :: .bool false :: ((eA16 .u32) A16.zero ++ (.bool false :: .bool false :: ((eA16 .u32) A16.zero)))))]⟩ rfl ?_
 refine Tri.seq (Tri.regionL ?_)
 refine Oc rfl (op_move rfl) ?_
 obtain ⟨x_1, e1, h⟩ := bnd h
 refine Oc rfl (op_call0 (skewbackref03_Of_spec e1) goes12 rfl rfl) ?_
 obtain ⟨x_2, e2, h⟩ := bnd h
 refine Oc rfl (op_call0 (skewbackref04_one_spec e2) goes80 rfl rfl) ?_
 obtain ⟨x_3, e3, h⟩ := bnd h
 refine Oc rfl (op_call0 (skewbackref04_Make_spec e3) goes17 rfl rfl) (Oc rfl (op_store_p tyAgg27 rfl rfl rfl rfl (Nat.le_of_ble_eq_true rfl) rfl) ?_)
 refine OpsL.nilS ⟨[(2, Pt 101 0)], [(101, .box 27 (eFrc x_3))]⟩ rfl ?_
 refine Tri.ret ?_
 obtain rfl := Option.some.inj h
 refine Fin.keepS ⟨[(2, Pt 101 0)], [(101, .box 27 (eFrc x_3))]⟩ rfl ?_
 refine Fin.result' [.agg (eFrc x_3)] (.inl rfl) rfl (.cons (.agg tyAgg27 rfl rfl rfl rfl) .nil) ⟨rfl, rfl⟩
def skewbackref04_Frac_S (F : Nat) (a0 : Int) (b0 : Int) : Option Frc :=
 Option.bind (skewbackref03_Of_S F a0) (fun x_1 => Option.bind (skewbackref03_Of_S F b0) (fun x_2 => Option.bind (skewbackref04_Make_S F x_1 x_2) (fun x_3 => some x_3)))
theorem skewbackref04_Frac_spec {F : Nat} {a0 : Int} {b0 : Int} {r : Frc} (h : skewbackref04_Frac_S F a0 b0 = some r) : Meets Tryz.prog (tabs mx) 23 [] [.one (.i a0), .one (.i b0)] (Is [] (.b (.agg (eFrc r)))) := by
 unfold skewbackref04_Frac_S at h
 refine Meets.intro 10 Tryz.func23 Tryz.ntmps23 rfl (by simp) fun E => ?_
 show Tri _ E ⟨10, [], []⟩ _ ⟨[(0, I a0), (1, I b0)], []⟩ _
 refine Tri.seq (Tri.regionL ?_)
 refine Oc rfl (op_alloc (k := 101) tyZero27 rfl) ?_
 refine OpsL.nilS ⟨[(0, I a0), (1, I b0), (4, Pt 101 0)], [(101, .box 27 (.bool false :: .bool false :: ((eA16 .u32) A16.zero ++ (.bool false :: .bool false :: ((eA16 .u32) A16.zero)))))]⟩ rfl ?_
 refine Tri.seq (Tri.regionL ?_)
 refine Oc rfl (op_move rfl) ?_
 obtain ⟨x_1, e1, h⟩ := bnd h
 refine Oc rfl (op_call0 (skewbackref03_Of_spec e1) goes12 rfl rfl) (Oc rfl (op_move rfl) ?_)
 refine OpsL.keepS ⟨[(4, Pt 101 0), (6, .b (.agg (eBig x_1))), (7, I b0)], [(101, .box 27 (.bool false :: .bool false :: ((eA16 .u32) A16.zero ++ (.bool false :: .bool false :: ((eA16 .u32) A16.zero)))))]⟩ rfl ?_
 obtain ⟨x_2, e2, h⟩ := bnd h
 refine Oc rfl (op_call0 (skewbackref03_Of_spec e2) goes12 rfl rfl) ?_
 obtain ⟨x_3, e3, h⟩ := bnd h
 refine Oc rfl (op_call0 (skewbackref04_Make_spec e3) goes17 rfl rfl) (Oc rfl (op_store_p tyAgg27 rfl rfl rfl rfl (Nat.le_of_ble_eq_true rfl) rfl) ?_)
 refine OpsL.nilS ⟨[(4, Pt 101 0)], [(101, .box 27 (eFrc x_3))]⟩ rfl ?_
 refine Tri.ret ?_
 obtain rfl := Option.some.inj h
 refine Fin.keepS ⟨[(4, Pt 101 0)], [(101, .box 27 (eFrc x_3))]⟩ rfl ?_
 refine Fin.result' [.agg (eFrc x_3)] (.inl rfl) rfl (.cons (.agg tyAgg27 rfl rfl rfl rfl) .nil) ⟨rfl, rfl⟩
def skewbackref04_Valid_S (F : Nat) (x0 : Frc) : Option Bool :=
 Option.bind (skewbackref04_Good_S F x0) (fun x_1 => Option.bind (gcall (!x_1) (skewbackref04_Bad_S F)) (fun x_2 => some (x_1 || (decide (x0 = x_2)))))
theorem skewbackref04_Valid_spec {F : Nat} {x0 : Frc} {r : Bool} (h : skewbackref04_Valid_S F x0 = some r) : Meets Tryz.prog (tabs mx) 25 [] [.agg (eFrc x0)] (Is [] (.b (.one (.bool r)))) := by
 unfold skewbackref04_Valid_S at h
 refine Meets.intro 12 Tryz.func25 Tryz.ntmps25 rfl (by simp) fun E => ?_
 show Tri _ E ⟨12, [], []⟩ _ ⟨[(0, .b (.agg (eFrc x0)))], []⟩ _
 refine Tri.seq (Tri.regionL ?_)
 refine Oc rfl (op_box (k := 101) rfl rfl) (Oc rfl (op_assign rfl) ?_)
 refine OpsL.nilS ⟨[(1, Pt 101 0)], [(101, .box 27 (eFrc x0))]⟩ rfl ?_
 refine Tri.seq (Tri.regionL ?_)
 refine Oc rfl (op_load_p tyAgg27 rfl rfl rfl rfl) ?_
 obtain ⟨x_1, e1, h⟩ := bnd h
 refine Oc rfl (op_call0 (skewbackref04_Good_spec e1) goes13 rfl rfl) (Oc rfl (op_assign rfl) ?_)
 refine OpsL.nilS ⟨[(1, Pt 101 0), (3, B x_1)], [(101, .box 27 (eFrc x0))]⟩ rfl ?_
 refine Tri.seq ?_
 refine Tri.keepS ⟨[(1, Pt 101 0), (3, B x_1)], [(101, .box 27 (eFrc x0))]⟩ rfl ?_
 obtain ⟨x_2, e4, h⟩ := bnd h
 refine Tri.regionY mixed 7 [B x_1, B x_1, .opt (!x_1) (.agg (eFrc x0)), .opt (!x_1) (.agg (eFrc x_2)), .opt (!x_1) (.one (.bool (decide (x0 = x_2)))), B (x_1 || (decide (x0 = x_2))), B (x_1 || (decide (x0 = x_2)))] [2] [] (s' := ⟨[(2, B (x_1 || (decide (x0 = x_2))))], []⟩) rfl ⟨fun _ => .plain rfl (op_move rfl), fun _ => .plain rfl (op_move rfl), fun _ => by exact .guard (!x_1) 1 [] (.plain rfl) (eq_f _) rfl rfl (fun g2 => trivial) (fun g2 => op_load_p tyAgg27 rfl rfl rfl rfl), fun _ => by exact .guard (!x_1) 2 [] (.plain rfl) (eq_f _) rfl rfl (fun g3 => trivial) (fun g3 => op_call0 (skewbackref04_Bad_spec (gc e4 g3)) goes28 rfl rfl), fun _ => by exact .guard (!x_1) 3 [8, 9] (.plain rfl) (eq_f _) rfl rfl (fun g5 => ⟨g5, g5, trivial⟩) (fun g5 => op_eql_agg (eqAgg27 x0 x_2) rfl rfl), fun _ => .plain rfl (op_pick_or (fun e => by rw [e]; rfl) rfl rfl rfl rfl), fun _ => .plain rfl (op_assign rfl), trivial⟩ rfl rfl ?_
 refine Tri.ret ?_
 obtain rfl := Option.some.inj h
 refine Fin.keepS ⟨[(2, B (x_1 || (decide (x0 = x_2))))], []⟩ rfl ?_
 refine Fin.result' [.one (.bool (x_1 || (decide (x0 = x_2))))] (.inl rfl) rfl (.cons (.tmp rfl) .nil) ⟨rfl, rfl⟩
def skewbacklaw04_RatioMakesAsSpecified_S (F : Nat) (n0 : Big) (d0 : Big) (x0 : Frc) (a0 : Int) (b0 : Int) : Option Bool :=
 Option.bind (ratio_Make_S F n0 d0) (fun x_1 => Option.bind (skewbackref03_Of_S F 3) (fun x_2 => Option.bind (Option.bind (skewbackref04_Good_S F x_1) (fun x_3 => if x_3 = true then (Option.bind (skewbackref03_Mul_S F x_1.N x_2) (fun x_4 => Option.bind (skewbackref03_Mul_S F x_1.D x_2) (fun x_5 => Option.bind (skewbackref03_Good_S F x_4) (fun x_6 => Option.bind (gcall x_6 (skewbackref03_Good_S F x_5)) (fun x_7 => Option.bind (gcall (x_6 && x_7) (ratio_Make_S F x_4 x_5)) (fun x_8 => if ((x_6 && x_7) && (decide (x_8 ≠ x_1))) = true then (some (.inr false)) else (some (.inl ())))))))) else (some (.inl ())))) (alt2 (fun _ => Option.bind (skewbacklaw04_sanity_S F) (fun x_9 => Option.bind (gcall x_9 (skewbackref04_Make_S F n0 d0)) (fun x_10 => Option.bind (gcall (x_9 && (decide (x_1 = x_10))) (ratio_Whole_S F n0)) (fun x_11 => Option.bind (gcall (x_9 && (decide (x_1 = x_10))) (skewbackref04_Whole_S F n0)) (fun x_12 => Option.bind (gcall ((x_9 && (decide (x_1 = x_10))) && (decide (x_11 = x_12))) (ratio_Of_S F a0)) (fun x_13 => Option.bind (gcall ((x_9 && (decide (x_1 = x_10))) && (decide (x_11 = x_12))) (skewbackref04_Of_S F a0)) (fun x_14 => Option.bind (gcall (((x_9 && (decide (x_1 = x_10))) && (decide (x_11 = x_12))) && (decide (x_13 = x_14))) (ratio_Frac_S F a0 b0)) (fun x_15 => Option.bind (gcall (((x_9 && (decide (x_1 = x_10))) && (decide (x_11 = x_12))) && (decide (x_13 = x_14))) (skewbackref04_Frac_S F a0 b0)) (fun x_16 => Option.bind (gcall ((((x_9 && (decide (x_1 = x_10))) && (decide (x_11 = x_12))) && (decide (x_13 = x_14))) && (decide (x_15 = x_16))) (ratio_Valid_S F x0)) (fun x_17 => Option.bind (gcall ((((x_9 && (decide (x_1 = x_10))) && (decide (x_11 = x_12))) && (decide (x_13 = x_14))) && (decide (x_15 = x_16))) (skewbackref04_Valid_S F x0)) (fun x_18 => Option.bind (gcall (((((x_9 && (decide (x_1 = x_10))) && (decide (x_11 = x_12))) && (decide (x_13 = x_14))) && (decide (x_15 = x_16))) && (x_17 == x_18)) (ratio_Good_S F x0)) (fun x_19 => Option.bind (gcall (((((x_9 && (decide (x_1 = x_10))) && (decide (x_11 = x_12))) && (decide (x_13 = x_14))) && (decide (x_15 = x_16))) && (x_17 == x_18)) (skewbackref04_Good_S F x0)) (fun x_20 => Option.bind (gcall ((((((x_9 && (decide (x_1 = x_10))) && (decide (x_11 = x_12))) && (decide (x_13 = x_14))) && (decide (x_15 = x_16))) && (x_17 == x_18)) && (x_19 == x_20)) (ratio_Valid_S F x_1)) (fun x_21 => Option.bind (gcall (((((((x_9 && (decide (x_1 = x_10))) && (decide (x_11 = x_12))) && (decide (x_13 = x_14))) && (decide (x_15 = x_16))) && (x_17 == x_18)) && (x_19 == x_20)) && x_21) (ratio_Bad_S F)) (fun x_22 => Option.bind (gcall (((((((x_9 && (decide (x_1 = x_10))) && (decide (x_11 = x_12))) && (decide (x_13 = x_14))) && (decide (x_15 = x_16))) && (x_17 == x_18)) && (x_19 == x_20)) && x_21) (skewbackref04_Bad_S F)) (fun x_23 => some ((((((((x_9 && (decide (x_1 = x_10))) && (decide (x_11 = x_12))) && (decide (x_13 = x_14))) && (decide (x_15 = x_16))) && (x_17 == x_18)) && (x_19 == x_20)) && x_21) && (decide (x_22 = x_23))))))))))))))))))) (fun y => some y))))
theorem skewbacklaw04_RatioMakesAsSpecified_spec {F : Nat} {n0 : Big} {d0 : Big} {x0 : Frc} {a0 : Int} {b0 : Int} {r : Bool} (h : skewbacklaw04_RatioMakesAsSpecified_S F n0 d0 x0 a0 b0 = some r) : Meets Tryz.prog (tabs mx) 3 [] [.agg (eBig n0), .agg (eBig d0), .agg (eFrc x0), .one (.i a0), .one (.i b0)] (Is [] (.b (.one (.bool r)))) := by
 unfold skewbacklaw04_RatioMakesAsSpecified_S at h
 refine Meets.intro 96 Tryz.func3 Tryz.ntmps3 rfl (by simp) fun E => ?_
 show Tri _ E ⟨96, [], []⟩ _ ⟨[(0, .b (.agg (eBig n0))), (1, .b (.agg (eBig d0))), (2, .b (.agg (eFrc x0))), (3, I a0), (4, I b0)], []⟩ _
 refine Tri.seq (Tri.regionL ?_)
 refine Oc rfl (op_box (k := 101) rfl rfl) (Oc rfl (op_box (k := 102) rfl rfl) (Oc rfl (op_box (k := 103) rfl rfl) (Oc rfl (op_assign rfl) ?_)))
 refine OpsL.nilS ⟨[(3, I a0), (4, I b0), (5, Pt 101 0), (6, Pt 102 0), (7, Pt 103 0)], [(101, .box 25 (eBig n0)), (102, .box 25 (eBig d0)), (103, .box 27 (eFrc x0))]⟩ rfl ?_
 refine Tri.seq (Tri.regionL ?_)
 refine Oc rfl (op_load_p tyAgg25 rfl rfl rfl rfl) (Oc rfl (op_load_p tyAgg25 rfl rfl rfl rfl) ?_)
 obtain ⟨x_1, e1, h⟩ := bnd h
 refine Oc rfl (op_call0 (ratio_Make_spec e1) goes11 rfl rfl) (Oc rfl (op_alloc (k := 104) tyZero27 rfl) (Oc rfl (op_store_p tyAgg27 rfl rfl rfl rfl (Nat.le_of_ble_eq_true rfl) rfl) ?_))
 refine OpsL.nilS ⟨[(3, I a0), (4, I b0), (5, Pt 101 0), (6, Pt 102 0), (7, Pt 103 0), (11, Pt 104 0)], [(101, .box 25 (eBig n0)), (102, .box 25 (eBig d0)), (103, .box 27 (eFrc x0)), (104, .box 27 (eFrc x_1))]⟩ rfl ?_
 refine Tri.seq (Tri.regionL ?_)
 obtain ⟨x_2, e2, h⟩ := bnd h
 refine Oc rfl (op_call0 (skewbackref03_Of_spec e2) goes12 rfl rfl) (Oc rfl (op_alloc (k := 105) tyZero25 rfl) (Oc rfl (op_store_p tyAgg25 rfl rfl rfl rfl (Nat.le_of_ble_eq_true rfl) rfl) ?_))
 refine OpsL.nilS ⟨[(3, I a0), (4, I b0), (5, Pt 101 0), (6, Pt 102 0), (7, Pt 103 0), (11, Pt 104 0), (12, Pt 105 0)], [(101, .box 25 (eBig n0)), (102, .box 25 (eBig d0)), (103, .box 27 (eFrc x0)), (104, .box 27 (eFrc x_1)), (105, .box 25 (eBig x_2))]⟩ rfl ?_
 obtain ⟨v3, h4, h⟩ := bnd h
 refine Tri.seqJ (v := v3) (fun (_ : Unit) => ⟨[(3, I a0), (4, I b0), (5, Pt 101 0), (6, Pt 102 0), (7, Pt 103 0), (11, Pt 104 0)], [(101, .box 25 (eBig n0)), (102, .box 25 (eBig d0)), (103, .box 27 (eFrc x0)), (104, .box 27 (eFrc x_1))]⟩) (fun z => .inl z) ?_ ?_
 ·refine Tri.seq (Tri.regionL ?_)
  refine Oc rfl (op_load_p tyAgg27 rfl rfl rfl rfl) ?_
  obtain ⟨x_3, e5, h4⟩ := bnd h4
  refine Oc rfl (op_call0 (skewbackref04_Good_spec e5) goes13 rfl rfl) ?_
  refine OpsL.nilS ⟨[(3, I a0), (4, I b0), (5, Pt 101 0), (6, Pt 102 0), (7, Pt 103 0), (11, Pt 104 0), (12, Pt 105 0), (20, B x_3)], [(101, .box 25 (eBig n0)), (102, .box 25 (eBig d0)), (103, .box 27 (eFrc x0)), (104, .box 27 (eFrc x_1)), (105, .box 25 (eBig x_2))]⟩ rfl ?_
  refine Tri.ite h4 rfl (fun _ h4 => ?_) (fun _ h4 => ?_)
  ·refine Tri.seq ?_
   refine Tri.keepS ⟨[(3, I a0), (4, I b0), (5, Pt 101 0), (6, Pt 102 0), (7, Pt 103 0), (11, Pt 104 0), (12, Pt 105 0)], [(101, .box 25 (eBig n0)), (102, .box 25 (eBig d0)), (103, .box 27 (eFrc x0)), (104, .box 27 (eFrc x_1)), (105, .box 25 (eBig x_2))]⟩ rfl ?_
   obtain ⟨x_4, e6, h4⟩ := bnd h4
   obtain ⟨x_5, e7, h4⟩ := bnd h4
   refine Tri.regionW mixed [false, false, false, false, false, false, false, false, true, true, true, true] [Pt 104 0, .b (.agg (eBig x_1.N)), .b (.agg (eBig x_2)), .b (.agg (eBig x_4)), Pt 104 18, .b (.agg (eBig x_1.D)), .b (.agg (eBig x_2)), .b (.agg (eBig x_5)), Pt 106 0, Pt 107 0, B true, B true] [⟨[false, false, false, false, false, false, false, false, false, false, false, false], [(3, I a0), (4, I b0), (5, Pt 101 0), (6, Pt 102 0), (7, Pt 103 0), (11, Pt 104 0), (12, Pt 105 0)], [(101, .box 25 (eBig n0)), (102, .box 25 (eBig d0)), (103, .box 27 (eFrc x0)), (104, .box 27 (eFrc x_1)), (105, .box 25 (eBig x_2))], [true, true, true, true, true, true, true, true, true, true, true, true], []⟩, ⟨[false, false, false, false, false, false, false, false, true, false, false, false], [(3, I a0), (4, I b0), (5, Pt 101 0), (6, Pt 102 0), (7, Pt 103 0), (11, Pt 104 0), (12, Pt 105 0)], [(101, .box 25 (eBig n0)), (102, .box 25 (eBig d0)), (103, .box 27 (eFrc x0)), (104, .box 27 (eFrc x_1)), (105, .box 25 (eBig x_2)), (106, .box 25 (.bool false :: .bool false :: ((eA16 .u32) A16.zero)))], [true, true, true, true, true, true, true, true, true, true, true, true], [8]⟩, ⟨[false, false, false, false, false, false, false, false, false, true, false, false], [(3, I a0), (4, I b0), (5, Pt 101 0), (6, Pt 102 0), (7, Pt 103 0), (11, Pt 104 0), (12, Pt 105 0)], [(101, .box 25 (eBig n0)), (102, .box 25 (eBig d0)), (103, .box 27 (eFrc x0)), (104, .box 27 (eFrc x_1)), (105, .box 25 (eBig x_2)), (107, .box 25 (.bool false :: .bool false :: ((eA16 .u32) A16.zero)))], [true, true, true, true, true, true, true, true, true, true, true, true], [9]⟩, ⟨[false, false, false, false, false, false, false, false, true, true, false, false], [(3, I a0), (4, I b0), (5, Pt 101 0), (6, Pt 102 0), (7, Pt 103 0), (11, Pt 104 0), (12, Pt 105 0)], [(101, .box 25 (eBig n0)), (102, .box 25 (eBig d0)), (103, .box 27 (eFrc x0)), (104, .box 27 (eFrc x_1)), (105, .box 25 (eBig x_2)), (106, .box 25 (.bool false :: .bool false :: ((eA16 .u32) A16.zero))), (107, .box 25 (.bool false :: .bool false :: ((eA16 .u32) A16.zero)))], [true, true, true, true, true, true, true, true, true, true, true, true], [8, 9]⟩, ⟨[false, false, false, false, false, false, false, false, true, true, true, false], [(3, I a0), (4, I b0), (5, Pt 101 0), (6, Pt 102 0), (7, Pt 103 0), (11, Pt 104 0), (12, Pt 105 0)], [(101, .box 25 (eBig n0)), (102, .box 25 (eBig d0)), (103, .box 27 (eFrc x0)), (104, .box 27 (eFrc x_1)), (105, .box 25 (eBig x_2)), (106, .box 25 (eBig x_4)), (107, .box 25 (.bool false :: .bool false :: ((eA16 .u32) A16.zero)))], [true, true, true, true, true, true, true, true, true, true, true, true], [0, 1, 2, 3, 4, 5, 6, 7, 8, 9, 10]⟩, ⟨[false, false, false, false, false, false, false, false, true, true, true, true], [(3, I a0), (4, I b0), (5, Pt 101 0), (6, Pt 102 0), (7, Pt 103 0), (11, Pt 104 0), (12, Pt 105 0)], [(101, .box 25 (eBig n0)), (102, .box 25 (eBig d0)), (103, .box 27 (eFrc x0)), (104, .box 27 (eFrc x_1)), (105, .box 25 (eBig x_2)), (106, .box 25 (eBig x_4)), (107, .box 25 (eBig x_5))], [true, true, true, true, true, true, true, true, true, true, true, true], [0, 1, 2, 3, 4, 5, 6, 7, 8, 9, 10, 11]⟩] rfl (⟨by kernel_rfl, ⟨⟨Pt 104 0, fun _ => rfl, fun _ => .plain rfl (by exact op_field_p tyFld27_0 rfl rfl)⟩, ⟨.b (.agg (eBig x_1.N)), fun _ => rfl, fun _ => .plain rfl (by exact op_load_p tyAgg25 rfl rfl rfl rfl)⟩, ⟨.b (.agg (eBig x_2)), fun _ => rfl, fun _ => .plain rfl (by exact op_load_p tyAgg25 rfl rfl rfl rfl)⟩, ⟨.b (.agg (eBig x_4)), fun _ => rfl, fun _ => .plain rfl (by exact op_call0 (skewbackref03_Mul_spec e6) goes14 rfl rfl)⟩, ⟨Pt 104 18, fun _ => rfl, fun _ => .plain rfl (by exact op_field_p tyFld27_1 rfl rfl)⟩, ⟨.b (.agg (eBig x_1.D)), fun _ => rfl, fun _ => .plain rfl (by exact op_load_p tyAgg25 rfl rfl rfl rfl)⟩, ⟨.b (.agg (eBig x_2)), fun _ => rfl, fun _ => .plain rfl (by exact op_load_p tyAgg25 rfl rfl rfl rfl)⟩, ⟨.b (.agg (eBig x_5)), fun _ => rfl, fun _ => .plain rfl (by exact op_call0 (skewbackref03_Mul_spec e7) goes14 rfl rfl)⟩, ⟨_, some 106, Pt 106 0, rfl, fun _ => rfl, rfl, rfl, fun _ => .toO [101, 102, 103, 104, 105, 106] (by exact .plain rfl (by exact op_alloc (k := 106) tyZero25 rfl)) (by exact rfl)⟩, ⟨_, some 107, Pt 107 0, rfl, fun _ => rfl, rfl, rfl, fun _ => .toO [101, 102, 103, 104, 105, 107] (by exact .plain rfl (by exact op_alloc (k := 107) tyZero25 rfl)) (by exact rfl)⟩, trivial, trivial, trivial⟩, ⟨by kernel_rfl, ⟨⟨Pt 104 0, fun _ => rfl, fun _ => .plain rfl (by exact op_field_p tyFld27_0 rfl rfl)⟩, ⟨.b (.agg (eBig x_1.N)), fun _ => rfl, fun _ => .plain rfl (by exact op_load_p tyAgg25 rfl rfl rfl rfl)⟩, ⟨.b (.agg (eBig x_2)), fun _ => rfl, fun _ => .plain rfl (by exact op_load_p tyAgg25 rfl rfl rfl rfl)⟩, ⟨.b (.agg (eBig x_4)), fun _ => rfl, fun _ => .plain rfl (by exact op_call0 (skewbackref03_Mul_spec e6) goes14 rfl rfl)⟩, ⟨Pt 104 18, fun _ => rfl, fun _ => .plain rfl (by exact op_field_p tyFld27_1 rfl rfl)⟩, ⟨.b (.agg (eBig x_1.D)), fun _ => rfl, fun _ => .plain rfl (by exact op_load_p tyAgg25 rfl rfl rfl rfl)⟩, ⟨.b (.agg (eBig x_2)), fun _ => rfl, fun _ => .plain rfl (by exact op_load_p tyAgg25 rfl rfl rfl rfl)⟩, ⟨.b (.agg (eBig x_5)), fun _ => rfl, fun _ => .plain rfl (by exact op_call0 (skewbackref03_Mul_spec e7) goes14 rfl rfl)⟩, trivial, ⟨_, some 107, Pt 107 0, rfl, fun _ => rfl, rfl, rfl, fun _ => .toO [101, 102, 103, 104, 105, 106, 107] (by exact .plain rfl (by exact op_alloc (k := 107) tyZero25 rfl)) (by exact rfl)⟩, trivial, trivial, trivial⟩, ⟨by kernel_rfl, ⟨⟨Pt 104 0, fun _ => rfl, fun _ => .plain rfl (by exact op_field_p tyFld27_0 rfl rfl)⟩, ⟨.b (.agg (eBig x_1.N)), fun _ => rfl, fun _ => .plain rfl (by exact op_load_p tyAgg25 rfl rfl rfl rfl)⟩, ⟨.b (.agg (eBig x_2)), fun _ => rfl, fun _ => .plain rfl (by exact op_load_p tyAgg25 rfl rfl rfl rfl)⟩, ⟨.b (.agg (eBig x_4)), fun _ => rfl, fun _ => .plain rfl (by exact op_call0 (skewbackref03_Mul_spec e6) goes14 rfl rfl)⟩, ⟨Pt 104 18, fun _ => rfl, fun _ => .plain rfl (by exact op_field_p tyFld27_1 rfl rfl)⟩, ⟨.b (.agg (eBig x_1.D)), fun _ => rfl, fun _ => .plain rfl (by exact op_load_p tyAgg25 rfl rfl rfl rfl)⟩, ⟨.b (.agg (eBig x_2)), fun _ => rfl, fun _ => .plain rfl (by exact op_load_p tyAgg25 rfl rfl rfl rfl)⟩, ⟨.b (.agg (eBig x_5)), fun _ => rfl, fun _ => .plain rfl (by exact op_call0 (skewbackref03_Mul_spec e7) goes14 rfl rfl)⟩, ⟨_, some 106, Pt 106 0, rfl, fun _ => rfl, rfl, rfl, fun _ => .toO [101, 102, 103, 104, 105, 106, 107] (by exact .plain rfl (by exact op_alloc (k := 106) tyZero25 rfl)) (by exact rfl)⟩, trivial, trivial, trivial, trivial⟩, ⟨by kernel_rfl, ⟨⟨Pt 104 0, fun _ => rfl, fun _ => .plain rfl (by exact op_field_p tyFld27_0 rfl rfl)⟩, ⟨.b (.agg (eBig x_1.N)), fun _ => rfl, fun _ => .plain rfl (by exact op_load_p tyAgg25 rfl rfl rfl rfl)⟩, ⟨.b (.agg (eBig x_2)), fun _ => rfl, fun _ => .plain rfl (by exact op_load_p tyAgg25 rfl rfl rfl rfl)⟩, ⟨.b (.agg (eBig x_4)), fun _ => rfl, fun _ => .plain rfl (by exact op_call0 (skewbackref03_Mul_spec e6) goes14 rfl rfl)⟩, ⟨Pt 104 18, fun _ => rfl, fun _ => .plain rfl (by exact op_field_p tyFld27_1 rfl rfl)⟩, ⟨.b (.agg (eBig x_1.D)), fun _ => rfl, fun _ => .plain rfl (by exact op_load_p tyAgg25 rfl rfl rfl rfl)⟩, ⟨.b (.agg (eBig x_2)), fun _ => rfl, fun _ => .plain rfl (by exact op_load_p tyAgg25 rfl rfl rfl rfl)⟩, ⟨.b (.agg (eBig x_5)), fun _ => rfl, fun _ => .plain rfl (by exact op_call0 (skewbackref03_Mul_spec e7) goes14 rfl rfl)⟩, trivial, trivial, ⟨_, none, .b (.one .any), rfl, (fun e => by simp at e), rfl, rfl, fun _ => .toO [101, 102, 103, 104, 105, 106, 107] (by exact .plain rfl (by exact op_store_p tyAgg25 rfl rfl rfl rfl (Nat.le_of_ble_eq_true rfl) rfl)) (by exact rfl)⟩, trivial, trivial⟩, ⟨by kernel_rfl, ⟨trivial, trivial, trivial, trivial, trivial, trivial, trivial, trivial, trivial, trivial, trivial, ⟨_, none, .b (.one .any), rfl, (fun e => by simp at e), rfl, rfl, fun _ => .toO [101, 102, 103, 104, 105, 106, 107] (by exact .plain rfl (by exact op_store_p tyAgg25 rfl rfl rfl rfl (Nat.le_of_ble_eq_true rfl) rfl)) (by exact rfl)⟩, trivial⟩, ⟨by kernel_rfl, ⟨trivial, trivial, trivial, trivial, trivial, trivial, trivial, trivial, trivial, trivial, trivial, trivial, trivial⟩, trivial⟩⟩⟩⟩⟩⟩) rfl rfl rfl [3, 4, 5, 6, 7, 11, 13, 14] [101, 102, 103, 104, 106, 107] (s' := ⟨[(3, I a0), (4, I b0), (5, Pt 101 0), (6, Pt 102 0), (7, Pt 103 0), (11, Pt 104 0), (13, Pt 106 0), (14, Pt 107 0)], [(101, .box 25 (eBig n0)), (102, .box 25 (eBig d0)), (103, .box 27 (eFrc x0)), (104, .box 27 (eFrc x_1)), (106, .box 25 (eBig x_4)), (107, .box 25 (eBig x_5))]⟩) rfl ?_
   refine Tri.seq ?_
   refine Tri.keepS ⟨[(3, I a0), (4, I b0), (5, Pt 101 0), (6, Pt 102 0), (7, Pt 103 0), (11, Pt 104 0), (13, Pt 106 0), (14, Pt 107 0)], [(101, .box 25 (eBig n0)), (102, .box 25 (eBig d0)), (103, .box 27 (eFrc x0)), (104, .box 27 (eFrc x_1)), (106, .box 25 (eBig x_4)), (107, .box 25 (eBig x_5))]⟩ rfl ?_
   obtain ⟨x_6, e8, h4⟩ := bnd h4
   obtain ⟨x_7, e11, h4⟩ := bnd h4
   obtain ⟨x_8, e15, h4⟩ := bnd h4
   refine Tri.regionY mixed 13 [.b (.agg (eBig x_4)), B x_6, B x_6, .opt x_6 (.agg (eBig x_5)), .opt x_6 (.one (.bool x_7)), B (x_6 && x_7), B (x_6 && x_7), .opt (x_6 && x_7) (.agg (eBig x_4)), .opt (x_6 && x_7) (.agg (eBig x_5)), .opt (x_6 && x_7) (.agg (eFrc x_8)), .opt (x_6 && x_7) (.agg (eFrc x_1)), .opt (x_6 && x_7) (.one (.bool (decide (x_8 ≠ x_1)))), B ((x_6 && x_7) && (decide (x_8 ≠ x_1)))] [3, 4, 5, 6, 7, 11, 41] [101, 102, 103, 104] (s' := ⟨[(3, I a0), (4, I b0), (5, Pt 101 0), (6, Pt 102 0), (7, Pt 103 0), (11, Pt 104 0), (41, B ((x_6 && x_7) && (decide (x_8 ≠ x_1))))], [(101, .box 25 (eBig n0)), (102, .box 25 (eBig d0)), (103, .box 27 (eFrc x0)), (104, .box 27 (eFrc x_1))]⟩) rfl ⟨fun _ => .plain rfl (op_load_p tyAgg25 rfl rfl rfl rfl), fun _ => .plain rfl (op_call0 (skewbackref03_Good_spec e8) goes15 rfl rfl), fun _ => .plain rfl (op_move rfl), fun _ => by exact .guard x_6 1 [] (.plain rfl) (eq_t _) rfl rfl (fun g9 => trivial) (fun g9 => op_load_p tyAgg25 rfl rfl rfl rfl), fun _ => by exact .guard x_6 3 [32] (.plain rfl) (eq_t _) rfl rfl (fun g10 => ⟨g10, trivial⟩) (fun g10 => op_call0 (skewbackref03_Good_spec (gc e11 g10)) goes15 rfl rfl), fun _ => .plain rfl (op_pick_and (fun e => e) rfl rfl rfl rfl), fun _ => .plain rfl (op_move rfl), fun _ => by exact .guard (x_6 && x_7) 1 [] (.plain rfl) (eq_t _) rfl rfl (fun g12 => trivial) (fun g12 => op_load_p tyAgg25 rfl rfl rfl rfl), fun _ => by exact .guard (x_6 && x_7) 1 [] (.plain rfl) (eq_t _) rfl rfl (fun g13 => trivial) (fun g13 => op_load_p tyAgg25 rfl rfl rfl rfl), fun _ => by exact .guard (x_6 && x_7) 4 [36, 37] (.plain rfl) (eq_t _) rfl rfl (fun g14 => ⟨g14, g14, trivial⟩) (fun g14 => op_call0 (ratio_Make_spec (gc e15 g14)) goes11 rfl rfl), fun _ => by exact .guard (x_6 && x_7) 1 [] (.plain rfl) (eq_t _) rfl rfl (fun g16 => trivial) (fun g16 => op_load_p tyAgg27 rfl rfl rfl rfl), fun _ => by exact .guard (x_6 && x_7) 3 [38, 39] (.plain rfl) (eq_t _) rfl rfl (fun g17 => ⟨g17, g17, trivial⟩) (fun g17 => op_neq_agg (eqAgg27 x_8 x_1) rfl rfl neg_dec), fun _ => .plain rfl (op_pick_and (fun e => e) rfl rfl rfl rfl), trivial⟩ rfl rfl ?_
   refine Tri.ite h4 rfl (fun _ h4 => ?_) (fun _ h4 => ?_)
   ·refine Tri.seq (Tri.regionL ?_)
    refine Oc rfl (op_assign rfl) ?_
    refine OpsL.nilS ⟨[(10, B false)], []⟩ rfl ?_
    refine Tri.ret ?_
    obtain rfl := Option.some.inj h4
    refine Fin.then_ret ?_
    obtain rfl := Option.some.inj h
    refine Fin.keepS ⟨[(10, B false)], []⟩ rfl ?_
    refine Fin.result' [.one (.bool false)] (.inl rfl) rfl (.cons (.tmp rfl) .nil) ⟨rfl, rfl⟩
   ·refine Tri.skip ?_
    exact Fin.join [3, 4, 5, 6, 7, 11] [101, 102, 103, 104] () (Option.some.inj h4) rfl
  ·refine Tri.skip ?_
   exact Fin.join [3, 4, 5, 6, 7, 11] [101, 102, 103, 104] () (Option.some.inj h4) rfl
 ·rintro _ hv
  subst v3
  refine Tri.seq ?_
  refine Tri.keepS ⟨[(3, I a0), (4, I b0), (5, Pt 101 0), (6, Pt 102 0), (7, Pt 103 0), (11, Pt 104 0)], [(101, .box 25 (eBig n0)), (102, .box 25 (eBig d0)), (103, .box 27 (eFrc x0)), (104, .box 27 (eFrc x_1))]⟩ rfl ?_
  obtain ⟨x_9, e18, h⟩ := bnd h
  obtain ⟨x_10, e23, h⟩ := bnd h
  obtain ⟨x_11, e27, h⟩ := bnd h
  obtain ⟨x_12, e30, h⟩ := bnd h
  obtain ⟨x_13, e34, h⟩ := bnd h
  obtain ⟨x_14, e37, h⟩ := bnd h
  obtain ⟨x_15, e42, h⟩ := bnd h
  obtain ⟨x_16, e46, h⟩ := bnd h
  obtain ⟨x_17, e50, h⟩ := bnd h
  obtain ⟨x_18, e53, h⟩ := bnd h
  obtain ⟨x_19, e57, h⟩ := bnd h
  obtain ⟨x_20, e60, h⟩ := bnd h
  obtain ⟨x_21, e64, h⟩ := bnd h
  obtain ⟨x_22, e66, h⟩ := bnd h
  obtain ⟨x_23, e68, h⟩ := bnd h
  refine Tri.regionY mixed 55 [B x_9, B x_9, .opt x_9 (.agg (eFrc x_1)), .opt x_9 (.agg (eBig n0)), .opt x_9 (.agg (eBig d0)), .opt x_9 (.agg (eFrc x_10)), .opt x_9 (.one (.bool (decide (x_1 = x_10)))), B (x_9 && (decide (x_1 = x_10))), B (x_9 && (decide (x_1 = x_10))), .opt (x_9 && (decide (x_1 = x_10))) (.agg (eBig n0)), .opt (x_9 && (decide (x_1 = x_10))) (.agg (eFrc x_11)), .opt (x_9 && (decide (x_1 = x_10))) (.agg (eBig n0)), .opt (x_9 && (decide (x_1 = x_10))) (.agg (eFrc x_12)), .opt (x_9 && (decide (x_1 = x_10))) (.one (.bool (decide (x_11 = x_12)))), B ((x_9 && (decide (x_1 = x_10))) && (decide (x_11 = x_12))), B ((x_9 && (decide (x_1 = x_10))) && (decide (x_11 = x_12))), .opt ((x_9 && (decide (x_1 = x_10))) && (decide (x_11 = x_12))) (.one (.i a0)), .opt ((x_9 && (decide (x_1 = x_10))) && (decide (x_11 = x_12))) (.agg (eFrc x_13)), .opt ((x_9 && (decide (x_1 = x_10))) && (decide (x_11 = x_12))) (.one (.i a0)), .opt ((x_9 && (decide (x_1 = x_10))) && (decide (x_11 = x_12))) (.agg (eFrc x_14)), .opt ((x_9 && (decide (x_1 = x_10))) && (decide (x_11 = x_12))) (.one (.bool (decide (x_13 = x_14)))), B (((x_9 && (decide (x_1 = x_10))) && (decide (x_11 = x_12))) && (decide (x_13 = x_14))), B (((x_9 && (decide (x_1 = x_10))) && (decide (x_11 = x_12))) && (decide (x_13 = x_14))), .opt (((x_9 && (decide (x_1 = x_10))) && (decide (x_11 = x_12))) && (decide (x_13 = x_14))) (.one (.i a0)), .opt (((x_9 && (decide (x_1 = x_10))) && (decide (x_11 = x_12))) && (decide (x_13 = x_14))) (.one (.i b0)), .opt (((x_9 && (decide (x_1 = x_10))) && (decide (x_11 = x_12))) && (decide (x_13 = x_14))) (.agg (eFrc x_15)), .opt (((x_9 && (decide (x_1 = x_10))) && (decide (x_11 = x_12))) && (decide (x_13 = x_14))) (.one (.i a0)), .opt (((x_9 && (decide (x_1 = x_10))) && (decide (x_11 = x_12))) && (decide (x_13 = x_14))) (.one (.i b0)), .opt (((x_9 && (decide (x_1 = x_10))) && (decide (x_11 = x_12))) && (decide (x_13 = x_14))) (.agg (eFrc x_16)), .opt (((x_9 && (decide (x_1 = x_10))) && (decide (x_11 = x_12))) && (decide (x_13 = x_14))) (.one (.bool (decide (x_15 = x_16)))), B ((((x_9 && (decide (x_1 = x_10))) && (decide (x_11 = x_12))) && (decide (x_13 = x_14))) && (decide (x_15 = x_16))), B ((((x_9 && (decide (x_1 = x_10))) && (decide (x_11 = x_12))) && (decide (x_13 = x_14))) && (decide (x_15 = x_16))), .opt ((((x_9 && (decide (x_1 = x_10))) && (decide (x_11 = x_12))) && (decide (x_13 = x_14))) && (decide (x_15 = x_16))) (.agg (eFrc x0)), .opt ((((x_9 && (decide (x_1 = x_10))) && (decide (x_11 = x_12))) && (decide (x_13 = x_14))) && (decide (x_15 = x_16))) (.one (.bool x_17)), .opt ((((x_9 && (decide (x_1 = x_10))) && (decide (x_11 = x_12))) && (decide (x_13 = x_14))) && (decide (x_15 = x_16))) (.agg (eFrc x0)), .opt ((((x_9 && (decide (x_1 = x_10))) && (decide (x_11 = x_12))) && (decide (x_13 = x_14))) && (decide (x_15 = x_16))) (.one (.bool x_18)), .opt ((((x_9 && (decide (x_1 = x_10))) && (decide (x_11 = x_12))) && (decide (x_13 = x_14))) && (decide (x_15 = x_16))) (.one (.bool (x_17 == x_18))), B (((((x_9 && (decide (x_1 = x_10))) && (decide (x_11 = x_12))) && (decide (x_13 = x_14))) && (decide (x_15 = x_16))) && (x_17 == x_18)), B (((((x_9 && (decide (x_1 = x_10))) && (decide (x_11 = x_12))) && (decide (x_13 = x_14))) && (decide (x_15 = x_16))) && (x_17 == x_18)), .opt (((((x_9 && (decide (x_1 = x_10))) && (decide (x_11 = x_12))) && (decide (x_13 = x_14))) && (decide (x_15 = x_16))) && (x_17 == x_18)) (.agg (eFrc x0)), .opt (((((x_9 && (decide (x_1 = x_10))) && (decide (x_11 = x_12))) && (decide (x_13 = x_14))) && (decide (x_15 = x_16))) && (x_17 == x_18)) (.one (.bool x_19)), .opt (((((x_9 && (decide (x_1 = x_10))) && (decide (x_11 = x_12))) && (decide (x_13 = x_14))) && (decide (x_15 = x_16))) && (x_17 == x_18)) (.agg (eFrc x0)), .opt (((((x_9 && (decide (x_1 = x_10))) && (decide (x_11 = x_12))) && (decide (x_13 = x_14))) && (decide (x_15 = x_16))) && (x_17 == x_18)) (.one (.bool x_20)), .opt (((((x_9 && (decide (x_1 = x_10))) && (decide (x_11 = x_12))) && (decide (x_13 = x_14))) && (decide (x_15 = x_16))) && (x_17 == x_18)) (.one (.bool (x_19 == x_20))), B ((((((x_9 && (decide (x_1 = x_10))) && (decide (x_11 = x_12))) && (decide (x_13 = x_14))) && (decide (x_15 = x_16))) && (x_17 == x_18)) && (x_19 == x_20)), B ((((((x_9 && (decide (x_1 = x_10))) && (decide (x_11 = x_12))) && (decide (x_13 = x_14))) && (decide (x_15 = x_16))) && (x_17 == x_18)) && (x_19 == x_20)), .opt ((((((x_9 && (decide (x_1 = x_10))) && (decide (x_11 = x_12))) && (decide (x_13 = x_14))) && (decide (x_15 = x_16))) && (x_17 == x_18)) && (x_19 == x_20)) (.agg (eFrc x_1)), .opt ((((((x_9 && (decide (x_1 = x_10))) && (decide (x_11 = x_12))) && (decide (x_13 = x_14))) && (decide (x_15 = x_16))) && (x_17 == x_18)) && (x_19 == x_20)) (.one (.bool x_21)), B (((((((x_9 && (decide (x_1 = x_10))) && (decide (x_11 = x_12))) && (decide (x_13 = x_14))) && (decide (x_15 = x_16))) && (x_17 == x_18)) && (x_19 == x_20)) && x_21), B (((((((x_9 && (decide (x_1 = x_10))) && (decide (x_11 = x_12))) && (decide (x_13 = x_14))) && (decide (x_15 = x_16))) && (x_17 == x_18)) && (x_19 == x_20)) && x_21), .opt (((((((x_9 && (decide (x_1 = x_10))) && (decide (x_11 = x_12))) && (decide (x_13 = x_14))) && (decide (x_15 = x_16))) && (x_17 == x_18)) && (x_19 == x_20)) && x_21) (.agg (eFrc x_22)), .opt (((((((x_9 && (decide (x_1 = x_10))) && (decide (x_11 = x_12))) && (decide (x_13 = x_14))) && (decide (x_15 = x_16))) && (x_17 == x_18)) && (x_19 == x_20)) && x_21) (.agg (eFrc x_23)), .opt (((((((x_9 && (decide (x_1 = x_10))) && (decide (x_11 = x_12))) && (decide (x_13 = x_14))) && (decide (x_15 = x_16))) && (x_17 == x_18)) && (x_19 == x_20)) && x_21) (.one (.bool (decide (x_22 = x_23)))), B ((((((((x_9 && (decide (x_1 = x_10))) && (decide (x_11 = x_12))) && (decide (x_13 = x_14))) && (decide (x_15 = x_16))) && (x_17 == x_18)) && (x_19 == x_20)) && x_21) && (decide (x_22 = x_23))), B ((((((((x_9 && (decide (x_1 = x_10))) && (decide (x_11 = x_12))) && (decide (x_13 = x_14))) && (decide (x_15 = x_16))) && (x_17 == x_18)) && (x_19 == x_20)) && x_21) && (decide (x_22 = x_23)))] [10] [] (s' := ⟨[(10, B ((((((((x_9 && (decide (x_1 = x_10))) && (decide (x_11 = x_12))) && (decide (x_13 = x_14))) && (decide (x_15 = x_16))) && (x_17 == x_18)) && (x_19 == x_20)) && x_21) && (decide (x_22 = x_23))))], []⟩) rfl ⟨fun _ => .plain rfl (op_call0 (skewbacklaw04_sanity_spec e18) goes16 rfl rfl), fun _ => .plain rfl (op_move rfl), fun _ => by exact .guard x_9 1 [] (.plain rfl) (eq_t _) rfl rfl (fun g19 => trivial) (fun g19 => op_load_p tyAgg27 rfl rfl rfl rfl), fun _ => by exact .guard x_9 1 [] (.plain rfl) (eq_t _) rfl rfl (fun g20 => trivial) (fun g20 => op_load_p tyAgg25 rfl rfl rfl rfl), fun _ => by exact .guard x_9 1 [] (.plain rfl) (eq_t _) rfl rfl (fun g21 => trivial) (fun g21 => op_load_p tyAgg25 rfl rfl rfl rfl), fun _ => by exact .guard x_9 4 [45, 46] (.plain rfl) (eq_t _) rfl rfl (fun g22 => ⟨g22, g22, trivial⟩) (fun g22 => op_call0 (skewbackref04_Make_spec (gc e23 g22)) goes17 rfl rfl), fun _ => by exact .guard x_9 3 [44, 47] (.plain rfl) (eq_t _) rfl rfl (fun g24 => ⟨g24, g24, trivial⟩) (fun g24 => op_eql_agg (eqAgg27 x_1 x_10) rfl rfl), fun _ => .plain rfl (op_pick_and (fun e => e) rfl rfl rfl rfl), fun _ => .plain rfl (op_move rfl), fun _ => by exact .guard (x_9 && (decide (x_1 = x_10))) 1 [] (.plain rfl) (eq_t _) rfl rfl (fun g25 => trivial) (fun g25 => op_load_p tyAgg25 rfl rfl rfl rfl), fun _ => by exact .guard (x_9 && (decide (x_1 = x_10))) 3 [51] (.plain rfl) (eq_t _) rfl rfl (fun g26 => ⟨g26, trivial⟩) (fun g26 => op_call0 (ratio_Whole_spec (gc e27 g26)) goes18 rfl rfl), fun _ => by exact .guard (x_9 && (decide (x_1 = x_10))) 1 [] (.plain rfl) (eq_t _) rfl rfl (fun g28 => trivial) (fun g28 => op_load_p tyAgg25 rfl rfl rfl rfl), fun _ => by exact .guard (x_9 && (decide (x_1 = x_10))) 3 [53] (.plain rfl) (eq_t _) rfl rfl (fun g29 => ⟨g29, trivial⟩) (fun g29 => op_call0 (skewbackref04_Whole_spec (gc e30 g29)) goes19 rfl rfl), fun _ => by exact .guard (x_9 && (decide (x_1 = x_10))) 3 [52, 54] (.plain rfl) (eq_t _) rfl rfl (fun g31 => ⟨g31, g31, trivial⟩) (fun g31 => op_eql_agg (eqAgg27 x_11 x_12) rfl rfl), fun _ => .plain rfl (op_pick_and (fun e => e) rfl rfl rfl rfl), fun _ => .plain rfl (op_move rfl), fun _ => by exact .guard ((x_9 && (decide (x_1 = x_10))) && (decide (x_11 = x_12))) 1 [] (.plain rfl) (eq_t _) rfl rfl (fun g32 => trivial) (fun g32 => op_move rfl), fun _ => by exact .guard ((x_9 && (decide (x_1 = x_10))) && (decide (x_11 = x_12))) 3 [58] (.plain rfl) (eq_t _) rfl rfl (fun g33 => ⟨g33, trivial⟩) (fun g33 => op_call0 (ratio_Of_spec (gc e34 g33)) goes20 rfl rfl), fun _ => by exact .guard ((x_9 && (decide (x_1 = x_10))) && (decide (x_11 = x_12))) 1 [] (.plain rfl) (eq_t _) rfl rfl (fun g35 => trivial) (fun g35 => op_move rfl), fun _ => by exact .guard ((x_9 && (decide (x_1 = x_10))) && (decide (x_11 = x_12))) 3 [60] (.plain rfl) (eq_t _) rfl rfl (fun g36 => ⟨g36, trivial⟩) (fun g36 => op_call0 (skewbackref04_Of_spec (gc e37 g36)) goes21 rfl rfl), fun _ => by exact .guard ((x_9 && (decide (x_1 = x_10))) && (decide (x_11 = x_12))) 3 [59, 61] (.plain rfl) (eq_t _) rfl rfl (fun g38 => ⟨g38, g38, trivial⟩) (fun g38 => op_eql_agg (eqAgg27 x_13 x_14) rfl rfl), fun _ => .plain rfl (op_pick_and (fun e => e) rfl rfl rfl rfl), fun _ => .plain rfl (op_move rfl), fun _ => by exact .guard (((x_9 && (decide (x_1 = x_10))) && (decide (x_11 = x_12))) && (decide (x_13 = x_14))) 1 [] (.plain rfl) (eq_t _) rfl rfl (fun g39 => trivial) (fun g39 => op_move rfl), fun _ => by exact .guard (((x_9 && (decide (x_1 = x_10))) && (decide (x_11 = x_12))) && (decide (x_13 = x_14))) 1 [] (.plain rfl) (eq_t _) rfl rfl (fun g40 => trivial) (fun g40 => op_move rfl), fun _ => by exact .guard (((x_9 && (decide (x_1 = x_10))) && (decide (x_11 = x_12))) && (decide (x_13 = x_14))) 4 [65, 66] (.plain rfl) (eq_t _) rfl rfl (fun g41 => ⟨g41, g41, trivial⟩) (fun g41 => op_call0 (ratio_Frac_spec (gc e42 g41)) goes22 rfl rfl), fun _ => by exact .guard (((x_9 && (decide (x_1 = x_10))) && (decide (x_11 = x_12))) && (decide (x_13 = x_14))) 1 [] (.plain rfl) (eq_t _) rfl rfl (fun g43 => trivial) (fun g43 => op_move rfl), fun _ => by exact .guard (((x_9 && (decide (x_1 = x_10))) && (decide (x_11 = x_12))) && (decide (x_13 = x_14))) 1 [] (.plain rfl) (eq_t _) rfl rfl (fun g44 => trivial) (fun g44 => op_move rfl), fun _ => by exact .guard (((x_9 && (decide (x_1 = x_10))) && (decide (x_11 = x_12))) && (decide (x_13 = x_14))) 4 [68, 69] (.plain rfl) (eq_t _) rfl rfl (fun g45 => ⟨g45, g45, trivial⟩) (fun g45 => op_call0 (skewbackref04_Frac_spec (gc e46 g45)) goes23 rfl rfl), fun _ => by exact .guard (((x_9 && (decide (x_1 = x_10))) && (decide (x_11 = x_12))) && (decide (x_13 = x_14))) 3 [67, 70] (.plain rfl) (eq_t _) rfl rfl (fun g47 => ⟨g47, g47, trivial⟩) (fun g47 => op_eql_agg (eqAgg27 x_15 x_16) rfl rfl), fun _ => .plain rfl (op_pick_and (fun e => e) rfl rfl rfl rfl), fun _ => .plain rfl (op_move rfl), fun _ => by exact .guard ((((x_9 && (decide (x_1 = x_10))) && (decide (x_11 = x_12))) && (decide (x_13 = x_14))) && (decide (x_15 = x_16))) 1 [] (.plain rfl) (eq_t _) rfl rfl (fun g48 => trivial) (fun g48 => op_load_p tyAgg27 rfl rfl rfl rfl), fun _ => by exact .guard ((((x_9 && (decide (x_1 = x_10))) && (decide (x_11 = x_12))) && (decide (x_13 = x_14))) && (decide (x_15 = x_16))) 3 [74] (.plain rfl) (eq_t _) rfl rfl (fun g49 => ⟨g49, trivial⟩) (fun g49 => op_call0 (ratio_Valid_spec (gc e50 g49)) goes24 rfl rfl), fun _ => by exact .guard ((((x_9 && (decide (x_1 = x_10))) && (decide (x_11 = x_12))) && (decide (x_13 = x_14))) && (decide (x_15 = x_16))) 1 [] (.plain rfl) (eq_t _) rfl rfl (fun g51 => trivial) (fun g51 => op_load_p tyAgg27 rfl rfl rfl rfl), fun _ => by exact .guard ((((x_9 && (decide (x_1 = x_10))) && (decide (x_11 = x_12))) && (decide (x_13 = x_14))) && (decide (x_15 = x_16))) 3 [76] (.plain rfl) (eq_t _) rfl rfl (fun g52 => ⟨g52, trivial⟩) (fun g52 => op_call0 (skewbackref04_Valid_spec (gc e53 g52)) goes25 rfl rfl), fun _ => by exact .guard ((((x_9 && (decide (x_1 = x_10))) && (decide (x_11 = x_12))) && (decide (x_13 = x_14))) && (decide (x_15 = x_16))) 3 [75, 77] (.plain rfl) (eq_t _) rfl rfl (fun g54 => ⟨g54, g54, trivial⟩) (fun g54 => op_eql_bool und4 rfl rfl), fun _ => .plain rfl (op_pick_and (fun e => e) rfl rfl rfl rfl), fun _ => .plain rfl (op_move rfl), fun _ => by exact .guard (((((x_9 && (decide (x_1 = x_10))) && (decide (x_11 = x_12))) && (decide (x_13 = x_14))) && (decide (x_15 = x_16))) && (x_17 == x_18)) 1 [] (.plain rfl) (eq_t _) rfl rfl (fun g55 => trivial) (fun g55 => op_load_p tyAgg27 rfl rfl rfl rfl), fun _ => by exact .guard (((((x_9 && (decide (x_1 = x_10))) && (decide (x_11 = x_12))) && (decide (x_13 = x_14))) && (decide (x_15 = x_16))) && (x_17 == x_18)) 3 [81] (.plain rfl) (eq_t _) rfl rfl (fun g56 => ⟨g56, trivial⟩) (fun g56 => op_call0 (ratio_Good_spec (gc e57 g56)) goes26 rfl rfl), fun _ => by exact .guard (((((x_9 && (decide (x_1 = x_10))) && (decide (x_11 = x_12))) && (decide (x_13 = x_14))) && (decide (x_15 = x_16))) && (x_17 == x_18)) 1 [] (.plain rfl) (eq_t _) rfl rfl (fun g58 => trivial) (fun g58 => op_load_p tyAgg27 rfl rfl rfl rfl), fun _ => by exact .guard (((((x_9 && (decide (x_1 = x_10))) && (decide (x_11 = x_12))) && (decide (x_13 = x_14))) && (decide (x_15 = x_16))) && (x_17 == x_18)) 3 [83] (.plain rfl) (eq_t _) rfl rfl (fun g59 => ⟨g59, trivial⟩) (fun g59 => op_call0 (skewbackref04_Good_spec (gc e60 g59)) goes13 rfl rfl), fun _ => by exact .guard (((((x_9 && (decide (x_1 = x_10))) && (decide (x_11 = x_12))) && (decide (x_13 = x_14))) && (decide (x_15 = x_16))) && (x_17 == x_18)) 3 [82, 84] (.plain rfl) (eq_t _) rfl rfl (fun g61 => ⟨g61, g61, trivial⟩) (fun g61 => op_eql_bool und4 rfl rfl), fun _ => .plain rfl (op_pick_and (fun e => e) rfl rfl rfl rfl), fun _ => .plain rfl (op_move rfl), fun _ => by exact .guard ((((((x_9 && (decide (x_1 = x_10))) && (decide (x_11 = x_12))) && (decide (x_13 = x_14))) && (decide (x_15 = x_16))) && (x_17 == x_18)) && (x_19 == x_20)) 1 [] (.plain rfl) (eq_t _) rfl rfl (fun g62 => trivial) (fun g62 => op_load_p tyAgg27 rfl rfl rfl rfl), fun _ => by exact .guard ((((((x_9 && (decide (x_1 = x_10))) && (decide (x_11 = x_12))) && (decide (x_13 = x_14))) && (decide (x_15 = x_16))) && (x_17 == x_18)) && (x_19 == x_20)) 3 [88] (.plain rfl) (eq_t _) rfl rfl (fun g63 => ⟨g63, trivial⟩) (fun g63 => op_call0 (ratio_Valid_spec (gc e64 g63)) goes24 rfl rfl), fun _ => .plain rfl (op_pick_and (fun e => e) rfl rfl rfl rfl), fun _ => .plain rfl (op_move rfl), fun _ => by exact .guard (((((((x_9 && (decide (x_1 = x_10))) && (decide (x_11 = x_12))) && (decide (x_13 = x_14))) && (decide (x_15 = x_16))) && (x_17 == x_18)) && (x_19 == x_20)) && x_21) 2 [] (.plain rfl) (eq_t _) rfl rfl (fun g65 => trivial) (fun g65 => op_call0 (ratio_Bad_spec (gc e66 g65)) goes27 rfl rfl), fun _ => by exact .guard (((((((x_9 && (decide (x_1 = x_10))) && (decide (x_11 = x_12))) && (decide (x_13 = x_14))) && (decide (x_15 = x_16))) && (x_17 == x_18)) && (x_19 == x_20)) && x_21) 2 [] (.plain rfl) (eq_t _) rfl rfl (fun g67 => trivial) (fun g67 => op_call0 (skewbackref04_Bad_spec (gc e68 g67)) goes28 rfl rfl), fun _ => by exact .guard (((((((x_9 && (decide (x_1 = x_10))) && (decide (x_11 = x_12))) && (decide (x_13 = x_14))) && (decide (x_15 = x_16))) && (x_17 == x_18)) && (x_19 == x_20)) && x_21) 3 [92, 93] (.plain rfl) (eq_t _) rfl rfl (fun g69 => ⟨g69, g69, trivial⟩) (fun g69 => op_eql_agg (eqAgg27 x_22 x_23) rfl rfl), fun _ => .plain rfl (op_pick_and (fun e => e) rfl rfl rfl rfl), fun _ => .plain rfl (op_assign rfl), trivial⟩ rfl rfl ?_
  refine Tri.ret ?_
  obtain rfl := Option.some.inj h
  refine Fin.keepS ⟨[(10, B ((((((((x_9 && (decide (x_1 = x_10))) && (decide (x_11 = x_12))) && (decide (x_13 = x_14))) && (decide (x_15 = x_16))) && (x_17 == x_18)) && (x_19 == x_20)) && x_21) && (decide (x_22 = x_23))))], []⟩ rfl ?_
  refine Fin.result' [.one (.bool ((((((((x_9 && (decide (x_1 = x_10))) && (decide (x_11 = x_12))) && (decide (x_13 = x_14))) && (decide (x_15 = x_16))) && (x_17 == x_18)) && (x_19 == x_20)) && x_21) && (decide (x_22 = x_23))))] (.inl rfl) rfl (.cons (.tmp rfl) .nil) ⟨rfl, rfl⟩
end Go.Proofs.YtdjnlmmhbeeihaaGreatDoor

