/- printed walks -/
import Derived.Test.YtdjnlmmhbeeihaaGreatDoorW2
namespace Go.Proofs.YtdjnlmmhbeeihaaGreatDoor
open Go.Sk
set_option maxHeartbeats 1000000
set_option maxRecDepth 4000
set_option linter.unusedSimpArgs false
set_option linter.unusedVariables false
variable {mx : Int}
def q_Valid_S (F : Nat) (x0 : Frc) : Option Bool :=
 (q_Bad_S F).bind fun x_1 => (gcall (!(decide (x0 = x_1))) (q_Good_S F x0)).bind fun x_2 => some ((decide (x0 = x_1)) || x_2)
theorem q_Valid_spec {F : Nat} {x0 : Frc} {r : Bool} (h : q_Valid_S F x0 = some r) : Meets Tryz.prog (tabs mx) 24 [] [.agg (eFrc x0)] (Is [] (.b (.one (.bool r)))) := by
 unfold q_Valid_S at h
 refine Meets.intro 10 Tryz.func24 Tryz.ntmps24 rfl (by simp) fun E => ?_
 show Tri _ E ⟨10, [], []⟩ _ ⟨[(0, .b (.agg (eFrc x0)))], []⟩ _
 refine Tri.seq (Tri.regionL ?_)
 refine Oc (op_box (k := 101) rfl rfl) (Oc oa ?_)
 refine OpsL.nilS ⟨[(1, Pt 101 0)], [(101, .box 27 (eFrc x0))]⟩ rfl (Tri.seq ?_)
 obtain ⟨x_1, e1, h⟩ := bnd h
 obtain ⟨x_2, e4, h⟩ := bnd h
 refine Tri.regionY mixed 8 [.b (.agg (eFrc x0)), .b (.agg (eFrc x_1)), B (decide (x0 = x_1)), B (decide (x0 = x_1)), .opt (!(decide (x0 = x_1))) (.agg (eFrc x0)), .opt (!(decide (x0 = x_1))) (.one (.bool x_2)), B ((decide (x0 = x_1)) || x_2), B ((decide (x0 = x_1)) || x_2)] [2] [] (s' := ⟨[(2, B ((decide (x0 = x_1)) || x_2))], []⟩) rfl ⟨fun _ => .p (lp tyAgg27), fun _ => .p (op_call0 (q_Bad_spec e1) goes27 rfl rfl), fun _ => .p (op_eql_agg (eqAgg27 x0 x_1) rfl rfl), fun _ => .p om, fun _ => by exact .guard (!(decide (x0 = x_1))) 1 [] (.plain rfl) (eq_f _) rfl rfl (fun g2 => trivial) (fun g2 => lp tyAgg27), fun _ => by exact .guard (!(decide (x0 = x_1))) 3 [7] (.plain rfl) (eq_f _) rfl rfl (fun g3 => ⟨g3, trivial⟩) (fun g3 => op_call0 (q_Good_spec (gc e4 g3)) goes26 rfl rfl), fun _ => .p (op_pick_or (fun e => by rw [e]; rfl) rfl rfl rfl rfl), fun _ => .p oa, trivial⟩ rfl rfl (Tri.ret ?_)
 obtain rfl := Option.some.inj h
 refine Fin.keepS ⟨[(2, B ((decide (x0 = x_1)) || x_2))], []⟩ rfl (Fin.result' [.one (.bool ((decide (x0 = x_1)) || x_2))] (.inl rfl) rfl (.cons (.tmp rfl) .nil) ⟨rfl, rfl⟩)
def l4_sanity_S (F : Nat) : Option Bool :=
 (q_Frac_S F 6 (-4)).bind fun x_1 => (l4_text_S F x_1 [45, 51, 47, 50]).bind fun x_2 => (gcall x_2 (q_Frac_S F 1 0)).bind fun x_3 => (gcall x_2 (q_Bad_S F)).bind fun x_4 => (gcall (x_2 && (decide (x_3 = x_4))) (q_Frac_S F 1 6)).bind fun x_5 => (gcall (x_2 && (decide (x_3 = x_4))) (q_Frac_S F 1 10)).bind fun x_6 => (gcall (x_2 && (decide (x_3 = x_4))) (q_Add_S F x_5 x_6)).bind fun x_7 => (gcall (x_2 && (decide (x_3 = x_4))) (l4_text_S F x_7 [52, 47, 49, 53])).bind fun x_8 => (gcall ((x_2 && (decide (x_3 = x_4))) && x_8) (q_Frac_S F 2 3)).bind fun x_9 => (gcall ((x_2 && (decide (x_3 = x_4))) && x_8) (q_Frac_S F 3 4)).bind fun x_10 => (gcall ((x_2 && (decide (x_3 = x_4))) && x_8) (q_Mul_S F x_9 x_10)).bind fun x_11 => (gcall ((x_2 && (decide (x_3 = x_4))) && x_8) (l4_text_S F x_11 [49, 47, 50])).bind fun x_12 => (gcall (((x_2 && (decide (x_3 = x_4))) && x_8) && x_12) (q_Frac_S F 1 1)).bind fun x_13 => (gcall (((x_2 && (decide (x_3 = x_4))) && x_8) && x_12) (q_Frac_S F 0 1)).bind fun x_14 => (gcall (((x_2 && (decide (x_3 = x_4))) && x_8) && x_12) (q_Div_S F x_13 x_14)).bind fun x_15 => (gcall (((x_2 && (decide (x_3 = x_4))) && x_8) && x_12) (q_Bad_S F)).bind fun x_16 => letN ((((x_2 && (decide (x_3 = x_4))) && x_8) && x_12) && (decide (x_15 = x_16))) fun x_17 => (q_Frac_S F (-7) 2).bind fun x_18 => (q_Floor_S F x_18).bind fun x_19 => (r3_Of_S F (-4)).bind fun x_20 => (gcall (decide (x_19 = x_20)) (q_Ceil_S F x_18)).bind fun x_21 => (gcall (decide (x_19 = x_20)) (r3_Of_S F (-3))).bind fun x_22 => (gcall ((decide (x_19 = x_20)) && (decide (x_21 = x_22))) (q_Near_S F x_18)).bind fun x_23 => (gcall ((decide (x_19 = x_20)) && (decide (x_21 = x_22))) (r3_Of_S F (-3))).bind fun x_24 => letN (((decide (x_19 = x_20)) && (decide (x_21 = x_22))) && (decide (x_23 = x_24))) fun x_25 => (gcall x_25 (q_Frac_S F 7 2)).bind fun x_26 => (gcall x_25 (q_Near_S F x_26)).bind fun x_27 => (gcall x_25 (r3_Of_S F 4)).bind fun x_28 => (q_Frac_S F 1 3).bind fun x_29 => Option.bind (q_Dyadic_S F x_29 2) (un2 fun x_30 x_31 => (l4_text_S F x_30 [49, 47, 52]).bind fun x_32 => (gcall x_32 (l4_text_S F x_31 [49, 47, 50])).bind fun x_33 => (gcall (x_32 && x_33) (q_Frac_S F 1 3)).bind fun x_34 => (gcall (x_32 && x_33) (q_Frac_S F 2 5)).bind fun x_35 => (gcall (x_32 && x_33) (q_Simplest_S F x_34 x_35)).bind fun x_36 => (gcall (x_32 && x_33) (l4_text_S F x_36 [49, 47, 51])).bind fun x_37 => (gcall ((x_32 && x_33) && x_37) (q_Frac_S F (-3) 1)).bind fun x_38 => (gcall ((x_32 && x_33) && x_37) (q_Frac_S F 5 2)).bind fun x_39 => (gcall ((x_32 && x_33) && x_37) (q_Simplest_S F x_38 x_39)).bind fun x_40 => (gcall ((x_32 && x_33) && x_37) (l4_text_S F x_40 [48])).bind fun x_41 => (gcall (((x_32 && x_33) && x_37) && x_41) (q_Frac_S F 7 5)).bind fun x_42 => (gcall (((x_32 && x_33) && x_37) && x_41) (q_Frac_S F 5 2)).bind fun x_43 => (gcall (((x_32 && x_33) && x_37) && x_41) (q_Simplest_S F x_42 x_43)).bind fun x_44 => (gcall (((x_32 && x_33) && x_37) && x_41) (l4_text_S F x_44 [50])).bind fun x_45 => (gcall ((((x_32 && x_33) && x_37) && x_41) && x_45) (q_Frac_S F 31 10)).bind fun x_46 => (gcall ((((x_32 && x_33) && x_37) && x_41) && x_45) (q_Frac_S F 32 10)).bind fun x_47 => (gcall ((((x_32 && x_33) && x_37) && x_41) && x_45) (q_Simplest_S F x_46 x_47)).bind fun x_48 => (gcall ((((x_32 && x_33) && x_37) && x_41) && x_45) (l4_text_S F x_48 [49, 54, 47, 53])).bind fun x_49 => Option.bind (q_Parse_S F [50, 47, 52]) (un2 fun x_50 x_51 => Option.bind (q_Parse_S F [45, 51, 47, 50]) (un2 fun x_52 x_53 => (gcall ((((x_17 && (x_25 && (decide (x_27 = x_28)))) && (((((x_32 && x_33) && x_37) && x_41) && x_45) && x_49)) && (decide (x_51 = 281))) && (decide (x_53 = 0))) (q_Frac_S F 6 (-4))).bind fun x_54 => (gcall (((((x_17 && (x_25 && (decide (x_27 = x_28)))) && (((((x_32 && x_33) && x_37) && x_41) && x_45) && x_49)) && (decide (x_51 = 281))) && (decide (x_53 = 0))) && (decide (x_52 = x_54))) (q_Frac_S F (-1) 1)).bind fun x_55 => (gcall (((((x_17 && (x_25 && (decide (x_27 = x_28)))) && (((((x_32 && x_33) && x_37) && x_41) && x_45) && x_49)) && (decide (x_51 = 281))) && (decide (x_53 = 0))) && (decide (x_52 = x_54))) (q_Cmp_S F x_52 x_55)).bind fun x_56 => (gcall ((((((x_17 && (x_25 && (decide (x_27 = x_28)))) && (((((x_32 && x_33) && x_37) && x_41) && x_45) && x_49)) && (decide (x_51 = 281))) && (decide (x_53 = 0))) && (decide (x_52 = x_54))) && (decide (x_56 = (-1)))) (q_Good_S F x_52)).bind fun x_57 => (gcall (((((((x_17 && (x_25 && (decide (x_27 = x_28)))) && (((((x_32 && x_33) && x_37) && x_41) && x_45) && x_49)) && (decide (x_51 = 281))) && (decide (x_53 = 0))) && (decide (x_52 = x_54))) && (decide (x_56 = (-1)))) && x_57) (q_Bad_S F)).bind fun x_58 => (gcall (((((((x_17 && (x_25 && (decide (x_27 = x_28)))) && (((((x_32 && x_33) && x_37) && x_41) && x_45) && x_49)) && (decide (x_51 = 281))) && (decide (x_53 = 0))) && (decide (x_52 = x_54))) && (decide (x_56 = (-1)))) && x_57) (q_Valid_S F x_58)).bind fun x_59 => (gcall ((((((((x_17 && (x_25 && (decide (x_27 = x_28)))) && (((((x_32 && x_33) && x_37) && x_41) && x_45) && x_49)) && (decide (x_51 = 281))) && (decide (x_53 = 0))) && (decide (x_52 = x_54))) && (decide (x_56 = (-1)))) && x_57) && x_59) (q_Bad_S F)).bind fun x_60 => (gcall ((((((((x_17 && (x_25 && (decide (x_27 = x_28)))) && (((((x_32 && x_33) && x_37) && x_41) && x_45) && x_49)) && (decide (x_51 = 281))) && (decide (x_53 = 0))) && (decide (x_52 = x_54))) && (decide (x_56 = (-1)))) && x_57) && x_59) (q_Good_S F x_60)).bind fun x_61 => some (((((((((x_17 && (x_25 && (decide (x_27 = x_28)))) && (((((x_32 && x_33) && x_37) && x_41) && x_45) && x_49)) && (decide (x_51 = 281))) && (decide (x_53 = 0))) && (decide (x_52 = x_54))) && (decide (x_56 = (-1)))) && x_57) && x_59) && (!x_61)))))
theorem l4_sanity_spec {F : Nat} {r : Bool} (h : l4_sanity_S F = some r) : Meets Tryz.prog (tabs mx) 16 [] [] (Is [] (.b (.one (.bool r)))) := by
 unfold l4_sanity_S at h
 refine Meets.intro 164 Tryz.func16 Tryz.ntmps16 rfl (by simp) fun E => ?_
 show Tri _ E ⟨164, [], []⟩ _ ⟨[], []⟩ _
 refine Tri.seq (Tri.regionL ?_)
 refine Oc oa (OpsL.nilS ⟨[], []⟩ rfl (Tri.seq (Tri.regionL ?_)))
 refine Oc oa (OpsL.nilS ⟨[(1, .b (.one (.raw (.func (.func 22) #[] #[]))))], []⟩ rfl (Tri.seq (Tri.regionL ?_)))
 refine Oc om ?_
 obtain ⟨x_1, e1, h⟩ := bnd h
 refine Oc (op_callv0 (q_Frac_spec e1) goes22 rfl rfl rfl) ?_
 obtain ⟨x_2, e2, h⟩ := bnd h
 refine Oc (op_call0 (l4_text_spec e2) goes87 rfl rfl) (OpsL.keepS ⟨[(1, .b (.one (.raw (.func (.func 22) #[] #[])))), (14, B x_2)], []⟩ rfl (Oc om (CgT x_2 [] (fun g3 => by exact trivial) (fun g3 => om) ?_)))
 obtain ⟨x_3, e5, h⟩ := bnd h
 refine CgT x_2 [16] (fun g4 => ⟨g4, trivial⟩) (fun g4 => op_callv0 (q_Frac_spec (gc e5 g4)) goes22 rfl rfl rfl) ?_
 obtain ⟨x_4, e7, h⟩ := bnd h
 refine CgT x_2 [] (fun g6 => trivial) (fun g6 => op_call0 (q_Bad_spec (gc e7 g6)) goes27 rfl rfl) (OpsL.keepS ⟨[(1, .b (.one (.raw (.func (.func 22) #[] #[])))), (15, B x_2), (17, .opt x_2 (.agg (eFrc x_3))), (18, .opt x_2 (.agg (eFrc x_4)))], []⟩ rfl (CgT x_2 [17, 18] (fun g8 => ⟨g8, g8, trivial⟩) (fun g8 => op_eql_agg (eqAgg27 x_3 x_4) rfl rfl) (Oc (op_pick_and (fun e => e) rfl rfl rfl rfl) (Oc om ?_))))
 refine CgT (x_2 && (decide (x_3 = x_4))) [] (fun g9 => trivial) (fun g9 => om) ?_
 obtain ⟨x_5, e11, h⟩ := bnd h
 refine CgT (x_2 && (decide (x_3 = x_4))) [22] (fun g10 => ⟨g10, trivial⟩) (fun g10 => op_callv0 (q_Frac_spec (gc e11 g10)) goes22 rfl rfl rfl) (CgT (x_2 && (decide (x_3 = x_4))) [] (fun g12 => trivial) (fun g12 => om) (OpsL.keepS ⟨[(1, .b (.one (.raw (.func (.func 22) #[] #[])))), (21, B (x_2 && (decide (x_3 = x_4)))), (23, .opt (x_2 && (decide (x_3 = x_4))) (.agg (eFrc x_5))), (24, .opt (x_2 && (decide (x_3 = x_4))) (.one (.raw (.func (.func 22) #[] #[]))))], []⟩ rfl ?_))
 obtain ⟨x_6, e14, h⟩ := bnd h
 refine CgT (x_2 && (decide (x_3 = x_4))) [24] (fun g13 => ⟨g13, trivial⟩) (fun g13 => op_callv0 (q_Frac_spec (gc e14 g13)) goes22 rfl rfl rfl) ?_
 obtain ⟨x_7, e16, h⟩ := bnd h
 refine CgT (x_2 && (decide (x_3 = x_4))) [23, 25] (fun g15 => ⟨g15, g15, trivial⟩) (fun g15 => op_call0 (q_Add_spec (gc e16 g15)) goes42 rfl rfl) ?_
 obtain ⟨x_8, e18, h⟩ := bnd h
 refine CgT (x_2 && (decide (x_3 = x_4))) [26] (fun g17 => ⟨g17, trivial⟩) (fun g17 => op_call0 (l4_text_spec (gc e18 g17)) goes87 rfl rfl) (Oc (op_pick_and (fun e => e) rfl rfl rfl rfl) (OpsL.keepS ⟨[(1, .b (.one (.raw (.func (.func 22) #[] #[])))), (28, B ((x_2 && (decide (x_3 = x_4))) && x_8))], []⟩ rfl (Oc om (CgT ((x_2 && (decide (x_3 = x_4))) && x_8) [] (fun g19 => by exact trivial) (fun g19 => om) ?_))))
 obtain ⟨x_9, e21, h⟩ := bnd h
 refine CgT ((x_2 && (decide (x_3 = x_4))) && x_8) [30] (fun g20 => ⟨g20, trivial⟩) (fun g20 => op_callv0 (q_Frac_spec (gc e21 g20)) goes22 rfl rfl rfl) (CgT ((x_2 && (decide (x_3 = x_4))) && x_8) [] (fun g22 => trivial) (fun g22 => om) (OpsL.keepS ⟨[(1, .b (.one (.raw (.func (.func 22) #[] #[])))), (29, B ((x_2 && (decide (x_3 = x_4))) && x_8)), (31, .opt ((x_2 && (decide (x_3 = x_4))) && x_8) (.agg (eFrc x_9))), (32, .opt ((x_2 && (decide (x_3 = x_4))) && x_8) (.one (.raw (.func (.func 22) #[] #[]))))], []⟩ rfl ?_))
 obtain ⟨x_10, e24, h⟩ := bnd h
 refine CgT ((x_2 && (decide (x_3 = x_4))) && x_8) [32] (fun g23 => ⟨g23, trivial⟩) (fun g23 => op_callv0 (q_Frac_spec (gc e24 g23)) goes22 rfl rfl rfl) ?_
 obtain ⟨x_11, e26, h⟩ := bnd h
 refine CgT ((x_2 && (decide (x_3 = x_4))) && x_8) [31, 33] (fun g25 => ⟨g25, g25, trivial⟩) (fun g25 => op_call0 (q_Mul_spec (gc e26 g25)) goes45 rfl rfl) ?_
 obtain ⟨x_12, e28, h⟩ := bnd h
 refine CgT ((x_2 && (decide (x_3 = x_4))) && x_8) [34] (fun g27 => ⟨g27, trivial⟩) (fun g27 => op_call0 (l4_text_spec (gc e28 g27)) goes87 rfl rfl) (Oc (op_pick_and (fun e => e) rfl rfl rfl rfl) (OpsL.keepS ⟨[(1, .b (.one (.raw (.func (.func 22) #[] #[])))), (36, B (((x_2 && (decide (x_3 = x_4))) && x_8) && x_12))], []⟩ rfl (Oc om (CgT (((x_2 && (decide (x_3 = x_4))) && x_8) && x_12) [] (fun g29 => by exact trivial) (fun g29 => om) ?_))))
 obtain ⟨x_13, e31, h⟩ := bnd h
 refine CgT (((x_2 && (decide (x_3 = x_4))) && x_8) && x_12) [38] (fun g30 => ⟨g30, trivial⟩) (fun g30 => op_callv0 (q_Frac_spec (gc e31 g30)) goes22 rfl rfl rfl) (CgT (((x_2 && (decide (x_3 = x_4))) && x_8) && x_12) [] (fun g32 => trivial) (fun g32 => om) (OpsL.keepS ⟨[(1, .b (.one (.raw (.func (.func 22) #[] #[])))), (37, B (((x_2 && (decide (x_3 = x_4))) && x_8) && x_12)), (39, .opt (((x_2 && (decide (x_3 = x_4))) && x_8) && x_12) (.agg (eFrc x_13))), (40, .opt (((x_2 && (decide (x_3 = x_4))) && x_8) && x_12) (.one (.raw (.func (.func 22) #[] #[]))))], []⟩ rfl ?_))
 obtain ⟨x_14, e34, h⟩ := bnd h
 refine CgT (((x_2 && (decide (x_3 = x_4))) && x_8) && x_12) [40] (fun g33 => ⟨g33, trivial⟩) (fun g33 => op_callv0 (q_Frac_spec (gc e34 g33)) goes22 rfl rfl rfl) ?_
 obtain ⟨x_15, e36, h⟩ := bnd h
 refine CgT (((x_2 && (decide (x_3 = x_4))) && x_8) && x_12) [39, 41] (fun g35 => ⟨g35, g35, trivial⟩) (fun g35 => op_call0 (q_Div_spec (gc e36 g35)) goes46 rfl rfl) ?_
 obtain ⟨x_16, e38, h⟩ := bnd h
 refine CgT (((x_2 && (decide (x_3 = x_4))) && x_8) && x_12) [] (fun g37 => trivial) (fun g37 => op_call0 (q_Bad_spec (gc e38 g37)) goes27 rfl rfl) (CgT (((x_2 && (decide (x_3 = x_4))) && x_8) && x_12) [42, 43] (fun g39 => ⟨g39, g39, trivial⟩) (fun g39 => op_eql_agg (eqAgg27 x_15 x_16) rfl rfl) (OpsL.consB h rfl (op_pick_and (fun e => e) rfl rfl rfl rfl) (fun x_17 h => ?_)))
 refine Oc oa (OpsL.nilS ⟨[(1, .b (.one (.raw (.func (.func 22) #[] #[])))), (2, B x_17)], []⟩ rfl (Tri.seq (Tri.regionL ?_)))
 refine Oc om ?_
 obtain ⟨x_18, e40, h⟩ := bnd h
 refine Oc (op_callv0 (q_Frac_spec e40) goes22 rfl rfl rfl) (Oc (op_alloc (k := 101) tyZero27 rfl) (Oc (op_store_p tyAgg27 rfl rfl rfl rfl (Nat.le_of_ble_eq_true rfl) rfl) ?_))
 refine OpsL.nilS ⟨[(1, .b (.one (.raw (.func (.func 22) #[] #[])))), (2, B x_17), (3, Pt 101 0)], [(101, .box 27 (eFrc x_18))]⟩ rfl (Tri.seq (Tri.regionL ?_))
 refine Oc (lp tyAgg27) ?_
 obtain ⟨x_19, e41, h⟩ := bnd h
 refine Oc (op_call0 (q_Floor_spec e41) goes31 rfl rfl) ?_
 obtain ⟨x_20, e42, h⟩ := bnd h
 refine Oc (op_call0 (r3_Of_spec e42) goes12 rfl rfl) (OpsL.keepS ⟨[(1, .b (.one (.raw (.func (.func 22) #[] #[])))), (2, B x_17), (3, Pt 101 0), (49, .b (.agg (eBig x_19))), (50, .b (.agg (eBig x_20)))], [(101, .box 27 (eFrc x_18))]⟩ rfl (Oc (op_eql_agg (eqAgg25 x_19 x_20) rfl rfl) (Oc om ?_)))
 refine CgT (decide (x_19 = x_20)) [] (fun g43 => trivial) (fun g43 => lp tyAgg27) ?_
 obtain ⟨x_21, e45, h⟩ := bnd h
 refine CgT (decide (x_19 = x_20)) [53] (fun g44 => ⟨g44, trivial⟩) (fun g44 => op_call0 (q_Ceil_spec (gc e45 g44)) goes33 rfl rfl) (OpsL.keepS ⟨[(1, .b (.one (.raw (.func (.func 22) #[] #[])))), (2, B x_17), (3, Pt 101 0), (52, B (decide (x_19 = x_20))), (54, .opt (decide (x_19 = x_20)) (.agg (eBig x_21)))], [(101, .box 27 (eFrc x_18))]⟩ rfl ?_)
 obtain ⟨x_22, e47, h⟩ := bnd h
 refine CgT (decide (x_19 = x_20)) [] (fun g46 => trivial) (fun g46 => op_call0 (r3_Of_spec (gc e47 g46)) goes12 rfl rfl) (CgT (decide (x_19 = x_20)) [54, 55] (fun g48 => ⟨g48, g48, trivial⟩) (fun g48 => op_eql_agg (eqAgg25 x_21 x_22) rfl rfl) (Oc (op_pick_and (fun e => e) rfl rfl rfl rfl) (Oc om ?_)))
 refine CgT ((decide (x_19 = x_20)) && (decide (x_21 = x_22))) [] (fun g49 => trivial) (fun g49 => lp tyAgg27) ?_
 obtain ⟨x_23, e51, h⟩ := bnd h
 refine CgT ((decide (x_19 = x_20)) && (decide (x_21 = x_22))) [59] (fun g50 => ⟨g50, trivial⟩) (fun g50 => op_call0 (q_Near_spec (gc e51 g50)) goes35 rfl rfl) (OpsL.keepS ⟨[(1, .b (.one (.raw (.func (.func 22) #[] #[])))), (2, B x_17), (58, B ((decide (x_19 = x_20)) && (decide (x_21 = x_22)))), (60, .opt ((decide (x_19 = x_20)) && (decide (x_21 = x_22))) (.agg (eBig x_23)))], []⟩ rfl ?_)
 obtain ⟨x_24, e53, h⟩ := bnd h
 refine CgT ((decide (x_19 = x_20)) && (decide (x_21 = x_22))) [] (fun g52 => trivial) (fun g52 => op_call0 (r3_Of_spec (gc e53 g52)) goes12 rfl rfl) (CgT ((decide (x_19 = x_20)) && (decide (x_21 = x_22))) [60, 61] (fun g54 => ⟨g54, g54, trivial⟩) (fun g54 => op_eql_agg (eqAgg25 x_23 x_24) rfl rfl) (OpsL.consB h rfl (op_pick_and (fun e => e) rfl rfl rfl rfl) (fun x_25 h => ?_)))
 refine Oc om (CgT x_25 [] (fun g55 => by exact trivial) (fun g55 => om) ?_)
 obtain ⟨x_26, e57, h⟩ := bnd h
 refine CgT x_25 [65] (fun g56 => ⟨g56, trivial⟩) (fun g56 => op_callv0 (q_Frac_spec (gc e57 g56)) goes22 rfl rfl rfl) (OpsL.keepS ⟨[(1, .b (.one (.raw (.func (.func 22) #[] #[])))), (2, B x_17), (64, B x_25), (66, .opt x_25 (.agg (eFrc x_26)))], []⟩ rfl ?_)
 obtain ⟨x_27, e59, h⟩ := bnd h
 refine CgT x_25 [66] (fun g58 => ⟨g58, trivial⟩) (fun g58 => op_call0 (q_Near_spec (gc e59 g58)) goes35 rfl rfl) ?_
 obtain ⟨x_28, e61, h⟩ := bnd h
 refine CgT x_25 [] (fun g60 => trivial) (fun g60 => op_call0 (r3_Of_spec (gc e61 g60)) goes12 rfl rfl) (CgT x_25 [67, 68] (fun g62 => ⟨g62, g62, trivial⟩) (fun g62 => op_eql_agg (eqAgg25 x_27 x_28) rfl rfl) (Oc (op_pick_and (fun e => e) rfl rfl rfl rfl) (Oc oa ?_)))
 refine OpsL.nilS ⟨[(1, .b (.one (.raw (.func (.func 22) #[] #[])))), (2, B x_17), (4, B (x_25 && (decide (x_27 = x_28))))], []⟩ rfl (Tri.seq (Tri.regionL ?_))
 refine Oc om ?_
 obtain ⟨x_29, e63, h⟩ := bnd h
 refine Oc (op_callv0 (q_Frac_spec e63) goes22 rfl rfl rfl) ?_
 obtain ⟨⟨x_30, x_31⟩, e64, h⟩ := bnd h
 refine Oc (op_call0 (q_Dyadic_spec e64) goes29 rfl rfl) (OpsL.keepS ⟨[(1, .b (.one (.raw (.func (.func 22) #[] #[])))), (2, B x_17), (4, B (x_25 && (decide (x_27 = x_28)))), (74, .tup [.agg (eFrc x_30), .agg (eFrc x_31)])], []⟩ rfl (Oc om (Oc (op_extract rfl rfl) (Oc (op_extract rfl rfl) (Oc (op_alloc (k := 102) tyZero27 rfl) (Oc (op_alloc (k := 103) tyZero27 rfl) (Oc (op_store_p tyAgg27 rfl rfl rfl rfl (Nat.le_of_ble_eq_true rfl) rfl) ?_)))))))
 refine Oc (op_store_p tyAgg27 rfl rfl rfl rfl (Nat.le_of_ble_eq_true rfl) rfl) (OpsL.nilS ⟨[(1, .b (.one (.raw (.func (.func 22) #[] #[])))), (2, B x_17), (4, B (x_25 && (decide (x_27 = x_28)))), (5, Pt 102 0), (6, Pt 103 0)], [(102, .box 27 (eFrc x_30)), (103, .box 27 (eFrc x_31))]⟩ rfl (Tri.seq (Tri.regionL ?_)))
 refine Oc (lp tyAgg27) ?_
 obtain ⟨x_32, e65, h⟩ := bnd h
 refine Oc (op_call0 (l4_text_spec e65) goes87 rfl rfl) (Oc om ?_)
 refine CgT x_32 [] (fun g66 => trivial) (fun g66 => lp tyAgg27) (OpsL.keepS ⟨[(1, .b (.one (.raw (.func (.func 22) #[] #[])))), (2, B x_17), (4, B (x_25 && (decide (x_27 = x_28)))), (79, B x_32), (80, .opt x_32 (.agg (eFrc x_31)))], []⟩ rfl ?_)
 obtain ⟨x_33, e68, h⟩ := bnd h
 refine CgT x_32 [80] (fun g67 => ⟨g67, trivial⟩) (fun g67 => op_call0 (l4_text_spec (gc e68 g67)) goes87 rfl rfl) (Oc (op_pick_and (fun e => e) rfl rfl rfl rfl) (Oc om ?_))
 refine CgT (x_32 && x_33) [] (fun g69 => trivial) (fun g69 => om) ?_
 obtain ⟨x_34, e71, h⟩ := bnd h
 refine CgT (x_32 && x_33) [84] (fun g70 => ⟨g70, trivial⟩) (fun g70 => op_callv0 (q_Frac_spec (gc e71 g70)) goes22 rfl rfl rfl) (CgT (x_32 && x_33) [] (fun g72 => trivial) (fun g72 => om) (OpsL.keepS ⟨[(1, .b (.one (.raw (.func (.func 22) #[] #[])))), (2, B x_17), (4, B (x_25 && (decide (x_27 = x_28)))), (83, B (x_32 && x_33)), (85, .opt (x_32 && x_33) (.agg (eFrc x_34))), (86, .opt (x_32 && x_33) (.one (.raw (.func (.func 22) #[] #[]))))], []⟩ rfl ?_))
 obtain ⟨x_35, e74, h⟩ := bnd h
 refine CgT (x_32 && x_33) [86] (fun g73 => ⟨g73, trivial⟩) (fun g73 => op_callv0 (q_Frac_spec (gc e74 g73)) goes22 rfl rfl rfl) ?_
 obtain ⟨x_36, e76, h⟩ := bnd h
 refine CgT (x_32 && x_33) [85, 87] (fun g75 => ⟨g75, g75, trivial⟩) (fun g75 => op_call0 (q_Simplest_spec (gc e76 g75)) goes48 rfl rfl) ?_
 obtain ⟨x_37, e78, h⟩ := bnd h
 refine CgT (x_32 && x_33) [88] (fun g77 => ⟨g77, trivial⟩) (fun g77 => op_call0 (l4_text_spec (gc e78 g77)) goes87 rfl rfl) (Oc (op_pick_and (fun e => e) rfl rfl rfl rfl) (OpsL.keepS ⟨[(1, .b (.one (.raw (.func (.func 22) #[] #[])))), (2, B x_17), (4, B (x_25 && (decide (x_27 = x_28)))), (90, B ((x_32 && x_33) && x_37))], []⟩ rfl (Oc om (CgT ((x_32 && x_33) && x_37) [] (fun g79 => by exact trivial) (fun g79 => om) ?_))))
 obtain ⟨x_38, e81, h⟩ := bnd h
 refine CgT ((x_32 && x_33) && x_37) [92] (fun g80 => ⟨g80, trivial⟩) (fun g80 => op_callv0 (q_Frac_spec (gc e81 g80)) goes22 rfl rfl rfl) (CgT ((x_32 && x_33) && x_37) [] (fun g82 => trivial) (fun g82 => om) (OpsL.keepS ⟨[(1, .b (.one (.raw (.func (.func 22) #[] #[])))), (2, B x_17), (4, B (x_25 && (decide (x_27 = x_28)))), (91, B ((x_32 && x_33) && x_37)), (93, .opt ((x_32 && x_33) && x_37) (.agg (eFrc x_38))), (94, .opt ((x_32 && x_33) && x_37) (.one (.raw (.func (.func 22) #[] #[]))))], []⟩ rfl ?_))
 obtain ⟨x_39, e84, h⟩ := bnd h
 refine CgT ((x_32 && x_33) && x_37) [94] (fun g83 => ⟨g83, trivial⟩) (fun g83 => op_callv0 (q_Frac_spec (gc e84 g83)) goes22 rfl rfl rfl) ?_
 obtain ⟨x_40, e86, h⟩ := bnd h
 refine CgT ((x_32 && x_33) && x_37) [93, 95] (fun g85 => ⟨g85, g85, trivial⟩) (fun g85 => op_call0 (q_Simplest_spec (gc e86 g85)) goes48 rfl rfl) ?_
 obtain ⟨x_41, e88, h⟩ := bnd h
 refine CgT ((x_32 && x_33) && x_37) [96] (fun g87 => ⟨g87, trivial⟩) (fun g87 => op_call0 (l4_text_spec (gc e88 g87)) goes87 rfl rfl) (Oc (op_pick_and (fun e => e) rfl rfl rfl rfl) (OpsL.keepS ⟨[(1, .b (.one (.raw (.func (.func 22) #[] #[])))), (2, B x_17), (4, B (x_25 && (decide (x_27 = x_28)))), (98, B (((x_32 && x_33) && x_37) && x_41))], []⟩ rfl (Oc om (CgT (((x_32 && x_33) && x_37) && x_41) [] (fun g89 => by exact trivial) (fun g89 => om) ?_))))
 obtain ⟨x_42, e91, h⟩ := bnd h
 refine CgT (((x_32 && x_33) && x_37) && x_41) [100] (fun g90 => ⟨g90, trivial⟩) (fun g90 => op_callv0 (q_Frac_spec (gc e91 g90)) goes22 rfl rfl rfl) (CgT (((x_32 && x_33) && x_37) && x_41) [] (fun g92 => trivial) (fun g92 => om) (OpsL.keepS ⟨[(1, .b (.one (.raw (.func (.func 22) #[] #[])))), (2, B x_17), (4, B (x_25 && (decide (x_27 = x_28)))), (99, B (((x_32 && x_33) && x_37) && x_41)), (101, .opt (((x_32 && x_33) && x_37) && x_41) (.agg (eFrc x_42))), (102, .opt (((x_32 && x_33) && x_37) && x_41) (.one (.raw (.func (.func 22) #[] #[]))))], []⟩ rfl ?_))
 obtain ⟨x_43, e94, h⟩ := bnd h
 refine CgT (((x_32 && x_33) && x_37) && x_41) [102] (fun g93 => ⟨g93, trivial⟩) (fun g93 => op_callv0 (q_Frac_spec (gc e94 g93)) goes22 rfl rfl rfl) ?_
 obtain ⟨x_44, e96, h⟩ := bnd h
 refine CgT (((x_32 && x_33) && x_37) && x_41) [101, 103] (fun g95 => ⟨g95, g95, trivial⟩) (fun g95 => op_call0 (q_Simplest_spec (gc e96 g95)) goes48 rfl rfl) ?_
 obtain ⟨x_45, e98, h⟩ := bnd h
 refine CgT (((x_32 && x_33) && x_37) && x_41) [104] (fun g97 => ⟨g97, trivial⟩) (fun g97 => op_call0 (l4_text_spec (gc e98 g97)) goes87 rfl rfl) (Oc (op_pick_and (fun e => e) rfl rfl rfl rfl) (OpsL.keepS ⟨[(1, .b (.one (.raw (.func (.func 22) #[] #[])))), (2, B x_17), (4, B (x_25 && (decide (x_27 = x_28)))), (106, B ((((x_32 && x_33) && x_37) && x_41) && x_45))], []⟩ rfl (Oc om (CgT ((((x_32 && x_33) && x_37) && x_41) && x_45) [] (fun g99 => by exact trivial) (fun g99 => om) ?_))))
 obtain ⟨x_46, e101, h⟩ := bnd h
 refine CgT ((((x_32 && x_33) && x_37) && x_41) && x_45) [108] (fun g100 => ⟨g100, trivial⟩) (fun g100 => op_callv0 (q_Frac_spec (gc e101 g100)) goes22 rfl rfl rfl) (CgT ((((x_32 && x_33) && x_37) && x_41) && x_45) [] (fun g102 => trivial) (fun g102 => om) (OpsL.keepS ⟨[(1, .b (.one (.raw (.func (.func 22) #[] #[])))), (2, B x_17), (4, B (x_25 && (decide (x_27 = x_28)))), (107, B ((((x_32 && x_33) && x_37) && x_41) && x_45)), (109, .opt ((((x_32 && x_33) && x_37) && x_41) && x_45) (.agg (eFrc x_46))), (110, .opt ((((x_32 && x_33) && x_37) && x_41) && x_45) (.one (.raw (.func (.func 22) #[] #[]))))], []⟩ rfl ?_))
 obtain ⟨x_47, e104, h⟩ := bnd h
 refine CgT ((((x_32 && x_33) && x_37) && x_41) && x_45) [110] (fun g103 => ⟨g103, trivial⟩) (fun g103 => op_callv0 (q_Frac_spec (gc e104 g103)) goes22 rfl rfl rfl) ?_
 obtain ⟨x_48, e106, h⟩ := bnd h
 refine CgT ((((x_32 && x_33) && x_37) && x_41) && x_45) [109, 111] (fun g105 => ⟨g105, g105, trivial⟩) (fun g105 => op_call0 (q_Simplest_spec (gc e106 g105)) goes48 rfl rfl) ?_
 obtain ⟨x_49, e108, h⟩ := bnd h
 refine CgT ((((x_32 && x_33) && x_37) && x_41) && x_45) [112] (fun g107 => ⟨g107, trivial⟩) (fun g107 => op_call0 (l4_text_spec (gc e108 g107)) goes87 rfl rfl) (Oc (op_pick_and (fun e => e) rfl rfl rfl rfl) (Oc oa ?_))
 refine OpsL.nilS ⟨[(1, .b (.one (.raw (.func (.func 22) #[] #[])))), (2, B x_17), (4, B (x_25 && (decide (x_27 = x_28)))), (7, B (((((x_32 && x_33) && x_37) && x_41) && x_45) && x_49))], []⟩ rfl (Tri.seq (Tri.regionL ?_))
 obtain ⟨⟨x_50, x_51⟩, e109, h⟩ := bnd h
 refine Oc (op_call0 (q_Parse_spec e109) goes52 rfl rfl) (Oc om (Oc (op_extract rfl rfl) (Oc (op_extract rfl rfl) ?_)))
 refine OpsL.keepS ⟨[(1, .b (.one (.raw (.func (.func 22) #[] #[])))), (2, B x_17), (4, B (x_25 && (decide (x_27 = x_28)))), (7, B (((((x_32 && x_33) && x_37) && x_41) && x_45) && x_49)), (117, .b (.agg (eFrc x_50))), (118, I x_51)], []⟩ rfl (Oc (op_alloc (k := 104) tyZero27 rfl) (Oc (op_store_p tyAgg27 rfl rfl rfl rfl (Nat.le_of_ble_eq_true rfl) rfl) (Oc oa ?_)))
 refine OpsL.nilS ⟨[(1, .b (.one (.raw (.func (.func 22) #[] #[])))), (2, B x_17), (4, B (x_25 && (decide (x_27 = x_28)))), (7, B (((((x_32 && x_33) && x_37) && x_41) && x_45) && x_49)), (9, I x_51)], []⟩ rfl (Tri.seq (Tri.regionL ?_))
 obtain ⟨⟨x_52, x_53⟩, e110, h⟩ := bnd h
 refine Oc (op_call0 (q_Parse_spec e110) goes52 rfl rfl) (Oc om (Oc (op_extract rfl rfl) (Oc (op_extract rfl rfl) ?_)))
 refine OpsL.keepS ⟨[(1, .b (.one (.raw (.func (.func 22) #[] #[])))), (2, B x_17), (4, B (x_25 && (decide (x_27 = x_28)))), (7, B (((((x_32 && x_33) && x_37) && x_41) && x_45) && x_49)), (9, I x_51), (121, .b (.agg (eFrc x_52))), (122, I x_53)], []⟩ rfl (Oc (op_alloc (k := 105) tyZero27 rfl) (Oc (op_store_p tyAgg27 rfl rfl rfl rfl (Nat.le_of_ble_eq_true rfl) rfl) (Oc oa ?_)))
 refine OpsL.nilS ⟨[(1, .b (.one (.raw (.func (.func 22) #[] #[])))), (2, B x_17), (4, B (x_25 && (decide (x_27 = x_28)))), (7, B (((((x_32 && x_33) && x_37) && x_41) && x_45) && x_49)), (9, I x_51), (10, Pt 105 0), (11, I x_53)], [(105, .box 27 (eFrc x_52))]⟩ rfl (Tri.seq ?_)
 obtain ⟨x_54, e120, h⟩ := bnd h
 obtain ⟨x_55, e125, h⟩ := bnd h
 obtain ⟨x_56, e127, h⟩ := bnd h
 obtain ⟨x_57, e131, h⟩ := bnd h
 obtain ⟨x_58, e133, h⟩ := bnd h
 obtain ⟨x_59, e135, h⟩ := bnd h
 obtain ⟨x_60, e137, h⟩ := bnd h
 obtain ⟨x_61, e139, h⟩ := bnd h
 refine Tri.regionY mixed 42 [B x_17, B x_17, .opt x_17 (.one (.bool (x_25 && (decide (x_27 = x_28))))), B (x_17 && (x_25 && (decide (x_27 = x_28)))), B (x_17 && (x_25 && (decide (x_27 = x_28)))), .opt (x_17 && (x_25 && (decide (x_27 = x_28)))) (.one (.bool (((((x_32 && x_33) && x_37) && x_41) && x_45) && x_49))), B ((x_17 && (x_25 && (decide (x_27 = x_28)))) && (((((x_32 && x_33) && x_37) && x_41) && x_45) && x_49)), B ((x_17 && (x_25 && (decide (x_27 = x_28)))) && (((((x_32 && x_33) && x_37) && x_41) && x_45) && x_49)), .opt ((x_17 && (x_25 && (decide (x_27 = x_28)))) && (((((x_32 && x_33) && x_37) && x_41) && x_45) && x_49)) (.one (.i x_51)), .opt ((x_17 && (x_25 && (decide (x_27 = x_28)))) && (((((x_32 && x_33) && x_37) && x_41) && x_45) && x_49)) (.one (.bool (decide (x_51 = 281)))), B (((x_17 && (x_25 && (decide (x_27 = x_28)))) && (((((x_32 && x_33) && x_37) && x_41) && x_45) && x_49)) && (decide (x_51 = 281))), B (((x_17 && (x_25 && (decide (x_27 = x_28)))) && (((((x_32 && x_33) && x_37) && x_41) && x_45) && x_49)) && (decide (x_51 = 281))), .opt (((x_17 && (x_25 && (decide (x_27 = x_28)))) && (((((x_32 && x_33) && x_37) && x_41) && x_45) && x_49)) && (decide (x_51 = 281))) (.one (.i x_53)), .opt (((x_17 && (x_25 && (decide (x_27 = x_28)))) && (((((x_32 && x_33) && x_37) && x_41) && x_45) && x_49)) && (decide (x_51 = 281))) (.one (.bool (decide (x_53 = 0)))), B ((((x_17 && (x_25 && (decide (x_27 = x_28)))) && (((((x_32 && x_33) && x_37) && x_41) && x_45) && x_49)) && (decide (x_51 = 281))) && (decide (x_53 = 0))), B ((((x_17 && (x_25 && (decide (x_27 = x_28)))) && (((((x_32 && x_33) && x_37) && x_41) && x_45) && x_49)) && (decide (x_51 = 281))) && (decide (x_53 = 0))), .opt ((((x_17 && (x_25 && (decide (x_27 = x_28)))) && (((((x_32 && x_33) && x_37) && x_41) && x_45) && x_49)) && (decide (x_51 = 281))) && (decide (x_53 = 0))) (.agg (eFrc x_52)), .opt ((((x_17 && (x_25 && (decide (x_27 = x_28)))) && (((((x_32 && x_33) && x_37) && x_41) && x_45) && x_49)) && (decide (x_51 = 281))) && (decide (x_53 = 0))) (.one (.raw (.func (.func 22) #[] #[]))), .opt ((((x_17 && (x_25 && (decide (x_27 = x_28)))) && (((((x_32 && x_33) && x_37) && x_41) && x_45) && x_49)) && (decide (x_51 = 281))) && (decide (x_53 = 0))) (.agg (eFrc x_54)), .opt ((((x_17 && (x_25 && (decide (x_27 = x_28)))) && (((((x_32 && x_33) && x_37) && x_41) && x_45) && x_49)) && (decide (x_51 = 281))) && (decide (x_53 = 0))) (.one (.bool (decide (x_52 = x_54)))), B (((((x_17 && (x_25 && (decide (x_27 = x_28)))) && (((((x_32 && x_33) && x_37) && x_41) && x_45) && x_49)) && (decide (x_51 = 281))) && (decide (x_53 = 0))) && (decide (x_52 = x_54))), B (((((x_17 && (x_25 && (decide (x_27 = x_28)))) && (((((x_32 && x_33) && x_37) && x_41) && x_45) && x_49)) && (decide (x_51 = 281))) && (decide (x_53 = 0))) && (decide (x_52 = x_54))), .opt (((((x_17 && (x_25 && (decide (x_27 = x_28)))) && (((((x_32 && x_33) && x_37) && x_41) && x_45) && x_49)) && (decide (x_51 = 281))) && (decide (x_53 = 0))) && (decide (x_52 = x_54))) (.agg (eFrc x_52)), .opt (((((x_17 && (x_25 && (decide (x_27 = x_28)))) && (((((x_32 && x_33) && x_37) && x_41) && x_45) && x_49)) && (decide (x_51 = 281))) && (decide (x_53 = 0))) && (decide (x_52 = x_54))) (.one (.raw (.func (.func 22) #[] #[]))), .opt (((((x_17 && (x_25 && (decide (x_27 = x_28)))) && (((((x_32 && x_33) && x_37) && x_41) && x_45) && x_49)) && (decide (x_51 = 281))) && (decide (x_53 = 0))) && (decide (x_52 = x_54))) (.agg (eFrc x_55)), .opt (((((x_17 && (x_25 && (decide (x_27 = x_28)))) && (((((x_32 && x_33) && x_37) && x_41) && x_45) && x_49)) && (decide (x_51 = 281))) && (decide (x_53 = 0))) && (decide (x_52 = x_54))) (.one (.i x_56)), .opt (((((x_17 && (x_25 && (decide (x_27 = x_28)))) && (((((x_32 && x_33) && x_37) && x_41) && x_45) && x_49)) && (decide (x_51 = 281))) && (decide (x_53 = 0))) && (decide (x_52 = x_54))) (.one (.bool (decide (x_56 = (-1))))), B ((((((x_17 && (x_25 && (decide (x_27 = x_28)))) && (((((x_32 && x_33) && x_37) && x_41) && x_45) && x_49)) && (decide (x_51 = 281))) && (decide (x_53 = 0))) && (decide (x_52 = x_54))) && (decide (x_56 = (-1)))), B ((((((x_17 && (x_25 && (decide (x_27 = x_28)))) && (((((x_32 && x_33) && x_37) && x_41) && x_45) && x_49)) && (decide (x_51 = 281))) && (decide (x_53 = 0))) && (decide (x_52 = x_54))) && (decide (x_56 = (-1)))), .opt ((((((x_17 && (x_25 && (decide (x_27 = x_28)))) && (((((x_32 && x_33) && x_37) && x_41) && x_45) && x_49)) && (decide (x_51 = 281))) && (decide (x_53 = 0))) && (decide (x_52 = x_54))) && (decide (x_56 = (-1)))) (.agg (eFrc x_52)), .opt ((((((x_17 && (x_25 && (decide (x_27 = x_28)))) && (((((x_32 && x_33) && x_37) && x_41) && x_45) && x_49)) && (decide (x_51 = 281))) && (decide (x_53 = 0))) && (decide (x_52 = x_54))) && (decide (x_56 = (-1)))) (.one (.bool x_57)), B (((((((x_17 && (x_25 && (decide (x_27 = x_28)))) && (((((x_32 && x_33) && x_37) && x_41) && x_45) && x_49)) && (decide (x_51 = 281))) && (decide (x_53 = 0))) && (decide (x_52 = x_54))) && (decide (x_56 = (-1)))) && x_57), B (((((((x_17 && (x_25 && (decide (x_27 = x_28)))) && (((((x_32 && x_33) && x_37) && x_41) && x_45) && x_49)) && (decide (x_51 = 281))) && (decide (x_53 = 0))) && (decide (x_52 = x_54))) && (decide (x_56 = (-1)))) && x_57), .opt (((((((x_17 && (x_25 && (decide (x_27 = x_28)))) && (((((x_32 && x_33) && x_37) && x_41) && x_45) && x_49)) && (decide (x_51 = 281))) && (decide (x_53 = 0))) && (decide (x_52 = x_54))) && (decide (x_56 = (-1)))) && x_57) (.agg (eFrc x_58)), .opt (((((((x_17 && (x_25 && (decide (x_27 = x_28)))) && (((((x_32 && x_33) && x_37) && x_41) && x_45) && x_49)) && (decide (x_51 = 281))) && (decide (x_53 = 0))) && (decide (x_52 = x_54))) && (decide (x_56 = (-1)))) && x_57) (.one (.bool x_59)), B ((((((((x_17 && (x_25 && (decide (x_27 = x_28)))) && (((((x_32 && x_33) && x_37) && x_41) && x_45) && x_49)) && (decide (x_51 = 281))) && (decide (x_53 = 0))) && (decide (x_52 = x_54))) && (decide (x_56 = (-1)))) && x_57) && x_59), B ((((((((x_17 && (x_25 && (decide (x_27 = x_28)))) && (((((x_32 && x_33) && x_37) && x_41) && x_45) && x_49)) && (decide (x_51 = 281))) && (decide (x_53 = 0))) && (decide (x_52 = x_54))) && (decide (x_56 = (-1)))) && x_57) && x_59), .opt ((((((((x_17 && (x_25 && (decide (x_27 = x_28)))) && (((((x_32 && x_33) && x_37) && x_41) && x_45) && x_49)) && (decide (x_51 = 281))) && (decide (x_53 = 0))) && (decide (x_52 = x_54))) && (decide (x_56 = (-1)))) && x_57) && x_59) (.agg (eFrc x_60)), .opt ((((((((x_17 && (x_25 && (decide (x_27 = x_28)))) && (((((x_32 && x_33) && x_37) && x_41) && x_45) && x_49)) && (decide (x_51 = 281))) && (decide (x_53 = 0))) && (decide (x_52 = x_54))) && (decide (x_56 = (-1)))) && x_57) && x_59) (.one (.bool x_61)), .opt ((((((((x_17 && (x_25 && (decide (x_27 = x_28)))) && (((((x_32 && x_33) && x_37) && x_41) && x_45) && x_49)) && (decide (x_51 = 281))) && (decide (x_53 = 0))) && (decide (x_52 = x_54))) && (decide (x_56 = (-1)))) && x_57) && x_59) (.one (.bool (!x_61))), B (((((((((x_17 && (x_25 && (decide (x_27 = x_28)))) && (((((x_32 && x_33) && x_37) && x_41) && x_45) && x_49)) && (decide (x_51 = 281))) && (decide (x_53 = 0))) && (decide (x_52 = x_54))) && (decide (x_56 = (-1)))) && x_57) && x_59) && (!x_61)), B (((((((((x_17 && (x_25 && (decide (x_27 = x_28)))) && (((((x_32 && x_33) && x_37) && x_41) && x_45) && x_49)) && (decide (x_51 = 281))) && (decide (x_53 = 0))) && (decide (x_52 = x_54))) && (decide (x_56 = (-1)))) && x_57) && x_59) && (!x_61))] [0] [] (s' := ⟨[(0, B (((((((((x_17 && (x_25 && (decide (x_27 = x_28)))) && (((((x_32 && x_33) && x_37) && x_41) && x_45) && x_49)) && (decide (x_51 = 281))) && (decide (x_53 = 0))) && (decide (x_52 = x_54))) && (decide (x_56 = (-1)))) && x_57) && x_59) && (!x_61)))], []⟩) rfl ⟨fun _ => .p om, fun _ => .p om, fun _ => by exact .guard x_17 1 [] (.plain rfl) (eq_t _) rfl rfl (fun g111 => trivial) (fun g111 => om), fun _ => .p (op_pick_and (fun e => e) rfl rfl rfl rfl), fun _ => .p om, fun _ => by exact .guard (x_17 && (x_25 && (decide (x_27 = x_28)))) 1 [] (.plain rfl) (eq_t _) rfl rfl (fun g112 => trivial) (fun g112 => om), fun _ => .p (op_pick_and (fun e => e) rfl rfl rfl rfl), fun _ => .p om, fun _ => by exact .guard ((x_17 && (x_25 && (decide (x_27 = x_28)))) && (((((x_32 && x_33) && x_37) && x_41) && x_45) && x_49)) 1 [] (.plain rfl) (eq_t _) rfl rfl (fun g113 => trivial) (fun g113 => om), fun _ => by exact .guard ((x_17 && (x_25 && (decide (x_27 = x_28)))) && (((((x_32 && x_33) && x_37) && x_41) && x_45) && x_49)) 2 [131] (.plain rfl) (eq_t _) rfl rfl (fun g114 => ⟨g114, trivial⟩) (fun g114 => op_eql rfl rfl), fun _ => .p (op_pick_and (fun e => e) rfl rfl rfl rfl), fun _ => .p om, fun _ => by exact .guard (((x_17 && (x_25 && (decide (x_27 = x_28)))) && (((((x_32 && x_33) && x_37) && x_41) && x_45) && x_49)) && (decide (x_51 = 281))) 1 [] (.plain rfl) (eq_t _) rfl rfl (fun g115 => trivial) (fun g115 => om), fun _ => by exact .guard (((x_17 && (x_25 && (decide (x_27 = x_28)))) && (((((x_32 && x_33) && x_37) && x_41) && x_45) && x_49)) && (decide (x_51 = 281))) 2 [135] (.plain rfl) (eq_t _) rfl rfl (fun g116 => ⟨g116, trivial⟩) (fun g116 => op_eql rfl rfl), fun _ => .p (op_pick_and (fun e => e) rfl rfl rfl rfl), fun _ => .p om, fun _ => by exact .guard ((((x_17 && (x_25 && (decide (x_27 = x_28)))) && (((((x_32 && x_33) && x_37) && x_41) && x_45) && x_49)) && (decide (x_51 = 281))) && (decide (x_53 = 0))) 1 [] (.plain rfl) (eq_t _) rfl rfl (fun g117 => trivial) (fun g117 => lp tyAgg27), fun _ => by exact .guard ((((x_17 && (x_25 && (decide (x_27 = x_28)))) && (((((x_32 && x_33) && x_37) && x_41) && x_45) && x_49)) && (decide (x_51 = 281))) && (decide (x_53 = 0))) 1 [] (.plain rfl) (eq_t _) rfl rfl (fun g118 => trivial) (fun g118 => om), fun _ => by exact .guard ((((x_17 && (x_25 && (decide (x_27 = x_28)))) && (((((x_32 && x_33) && x_37) && x_41) && x_45) && x_49)) && (decide (x_51 = 281))) && (decide (x_53 = 0))) 3 [140] (.plain rfl) (eq_t _) rfl rfl (fun g119 => ⟨g119, trivial⟩) (fun g119 => op_callv0 (q_Frac_spec (gc e120 g119)) goes22 rfl rfl rfl), fun _ => by exact .guard ((((x_17 && (x_25 && (decide (x_27 = x_28)))) && (((((x_32 && x_33) && x_37) && x_41) && x_45) && x_49)) && (decide (x_51 = 281))) && (decide (x_53 = 0))) 3 [139, 141] (.plain rfl) (eq_t _) rfl rfl (fun g121 => ⟨g121, g121, trivial⟩) (fun g121 => op_eql_agg (eqAgg27 x_52 x_54) rfl rfl), fun _ => .p (op_pick_and (fun e => e) rfl rfl rfl rfl), fun _ => .p om, fun _ => by exact .guard (((((x_17 && (x_25 && (decide (x_27 = x_28)))) && (((((x_32 && x_33) && x_37) && x_41) && x_45) && x_49)) && (decide (x_51 = 281))) && (decide (x_53 = 0))) && (decide (x_52 = x_54))) 1 [] (.plain rfl) (eq_t _) rfl rfl (fun g122 => trivial) (fun g122 => lp tyAgg27), fun _ => by exact .guard (((((x_17 && (x_25 && (decide (x_27 = x_28)))) && (((((x_32 && x_33) && x_37) && x_41) && x_45) && x_49)) && (decide (x_51 = 281))) && (decide (x_53 = 0))) && (decide (x_52 = x_54))) 1 [] (.plain rfl) (eq_t _) rfl rfl (fun g123 => trivial) (fun g123 => om), fun _ => by exact .guard (((((x_17 && (x_25 && (decide (x_27 = x_28)))) && (((((x_32 && x_33) && x_37) && x_41) && x_45) && x_49)) && (decide (x_51 = 281))) && (decide (x_53 = 0))) && (decide (x_52 = x_54))) 3 [146] (.plain rfl) (eq_t _) rfl rfl (fun g124 => ⟨g124, trivial⟩) (fun g124 => op_callv0 (q_Frac_spec (gc e125 g124)) goes22 rfl rfl rfl), fun _ => by exact .guard (((((x_17 && (x_25 && (decide (x_27 = x_28)))) && (((((x_32 && x_33) && x_37) && x_41) && x_45) && x_49)) && (decide (x_51 = 281))) && (decide (x_53 = 0))) && (decide (x_52 = x_54))) 4 [145, 147] (.plain rfl) (eq_t _) rfl rfl (fun g126 => ⟨g126, g126, g126, trivial⟩) (fun g126 => op_call0 (q_Cmp_spec (gc e127 g126)) goes39 rfl rfl), fun _ => by exact .guard (((((x_17 && (x_25 && (decide (x_27 = x_28)))) && (((((x_32 && x_33) && x_37) && x_41) && x_45) && x_49)) && (decide (x_51 = 281))) && (decide (x_53 = 0))) && (decide (x_52 = x_54))) 2 [148] (.plain rfl) (eq_t _) rfl rfl (fun g128 => ⟨g128, trivial⟩) (fun g128 => op_eql rfl rfl), fun _ => .p (op_pick_and (fun e => e) rfl rfl rfl rfl), fun _ => .p om, fun _ => by exact .guard ((((((x_17 && (x_25 && (decide (x_27 = x_28)))) && (((((x_32 && x_33) && x_37) && x_41) && x_45) && x_49)) && (decide (x_51 = 281))) && (decide (x_53 = 0))) && (decide (x_52 = x_54))) && (decide (x_56 = (-1)))) 1 [] (.plain rfl) (eq_t _) rfl rfl (fun g129 => trivial) (fun g129 => lp tyAgg27), fun _ => by exact .guard ((((((x_17 && (x_25 && (decide (x_27 = x_28)))) && (((((x_32 && x_33) && x_37) && x_41) && x_45) && x_49)) && (decide (x_51 = 281))) && (decide (x_53 = 0))) && (decide (x_52 = x_54))) && (decide (x_56 = (-1)))) 3 [152] (.plain rfl) (eq_t _) rfl rfl (fun g130 => ⟨g130, trivial⟩) (fun g130 => op_call0 (q_Good_spec (gc e131 g130)) goes26 rfl rfl), fun _ => .p (op_pick_and (fun e => e) rfl rfl rfl rfl), fun _ => .p om, fun _ => by exact .guard (((((((x_17 && (x_25 && (decide (x_27 = x_28)))) && (((((x_32 && x_33) && x_37) && x_41) && x_45) && x_49)) && (decide (x_51 = 281))) && (decide (x_53 = 0))) && (decide (x_52 = x_54))) && (decide (x_56 = (-1)))) && x_57) 2 [] (.plain rfl) (eq_t _) rfl rfl (fun g132 => trivial) (fun g132 => op_call0 (q_Bad_spec (gc e133 g132)) goes27 rfl rfl), fun _ => by exact .guard (((((((x_17 && (x_25 && (decide (x_27 = x_28)))) && (((((x_32 && x_33) && x_37) && x_41) && x_45) && x_49)) && (decide (x_51 = 281))) && (decide (x_53 = 0))) && (decide (x_52 = x_54))) && (decide (x_56 = (-1)))) && x_57) 3 [156] (.plain rfl) (eq_t _) rfl rfl (fun g134 => ⟨g134, g134, trivial⟩) (fun g134 => op_call0 (q_Valid_spec (gc e135 g134)) goes24 rfl rfl), fun _ => .p (op_pick_and (fun e => e) rfl rfl rfl rfl), fun _ => .p om, fun _ => by exact .guard ((((((((x_17 && (x_25 && (decide (x_27 = x_28)))) && (((((x_32 && x_33) && x_37) && x_41) && x_45) && x_49)) && (decide (x_51 = 281))) && (decide (x_53 = 0))) && (decide (x_52 = x_54))) && (decide (x_56 = (-1)))) && x_57) && x_59) 2 [] (.plain rfl) (eq_t _) rfl rfl (fun g136 => trivial) (fun g136 => op_call0 (q_Bad_spec (gc e137 g136)) goes27 rfl rfl), fun _ => by exact .guard ((((((((x_17 && (x_25 && (decide (x_27 = x_28)))) && (((((x_32 && x_33) && x_37) && x_41) && x_45) && x_49)) && (decide (x_51 = 281))) && (decide (x_53 = 0))) && (decide (x_52 = x_54))) && (decide (x_56 = (-1)))) && x_57) && x_59) 3 [160] (.plain rfl) (eq_t _) rfl rfl (fun g138 => ⟨g138, g138, trivial⟩) (fun g138 => op_call0 (q_Good_spec (gc e139 g138)) goes26 rfl rfl), fun _ => by exact .guard ((((((((x_17 && (x_25 && (decide (x_27 = x_28)))) && (((((x_32 && x_33) && x_37) && x_41) && x_45) && x_49)) && (decide (x_51 = 281))) && (decide (x_53 = 0))) && (decide (x_52 = x_54))) && (decide (x_56 = (-1)))) && x_57) && x_59) 2 [161] (.plain rfl) (eq_t _) rfl rfl (fun g140 => ⟨g140, trivial⟩) (fun g140 => op_not rfl), fun _ => .p (op_pick_and (fun e => e) rfl rfl rfl rfl), fun _ => .p oa, trivial⟩ rfl rfl ?_
 refine Tri.ret ?_
 obtain rfl := Option.some.inj h
 refine Fin.keepS ⟨[(0, B (((((((((x_17 && (x_25 && (decide (x_27 = x_28)))) && (((((x_32 && x_33) && x_37) && x_41) && x_45) && x_49)) && (decide (x_51 = 281))) && (decide (x_53 = 0))) && (decide (x_52 = x_54))) && (decide (x_56 = (-1)))) && x_57) && x_59) && (!x_61)))], []⟩ rfl (Fin.result' [.one (.bool (((((((((x_17 && (x_25 && (decide (x_27 = x_28)))) && (((((x_32 && x_33) && x_37) && x_41) && x_45) && x_49)) && (decide (x_51 = 281))) && (decide (x_53 = 0))) && (decide (x_52 = x_54))) && (decide (x_56 = (-1)))) && x_57) && x_59) && (!x_61)))] (.inl rfl) rfl (.cons (.tmp rfl) .nil) ⟨rfl, rfl⟩)
def r3_Valid_S (F : Nat) (x0 : Big) : Option Bool :=
 Option.bind (iter F (un2 fun zero_2 k_3 => if (decide (k_3 < 16)) = true then ((gcall zero_2 (idx? x0.W.l k_3)).bind fun x_5 => some (.inl (zero_2 && (decide (x_5 = 0)), IntKind.i64.wrap (k_3 + 1)))) else (some (.inr zero_2))) (true, 0)) (fun zero_1 => if x0.Bad = true then (some (zero_1 && (!x0.Neg))) else (some ((!zero_1) || (!x0.Neg))))
theorem r3_Valid_spec {F : Nat} {x0 : Big} {r : Bool} (h : r3_Valid_S F x0 = some r) : Meets Tryz.prog (tabs mx) 86 [] [.agg (eBig x0)] (Is [] (.b (.one (.bool r)))) := by
 unfold r3_Valid_S at h
 refine Meets.intro 32 Tryz.func86 Tryz.ntmps86 rfl (by simp) fun E => ?_
 show Tri _ E ⟨32, [], []⟩ _ ⟨[(0, .b (.agg (eBig x0)))], []⟩ _
 refine Tri.seq (Tri.regionL ?_)
 refine Oc (op_box (k := 101) rfl rfl) (Oc oa ?_)
 refine OpsL.nilS ⟨[(1, Pt 101 0)], [(101, .box 25 (eBig x0))]⟩ rfl (Tri.seq (Tri.regionL ?_))
 refine Oc oa (OpsL.nilS ⟨[(1, Pt 101 0), (3, B true)], [(101, .box 25 (eBig x0))]⟩ rfl ?_)
 obtain ⟨v1, h2, h⟩ := bnd h
 refine Tri.seqJ (v := v1) (fun (zero_1 : Bool) => ⟨[(1, Pt 101 0), (3, B zero_1)], [(101, .box 25 (eBig x0))]⟩) (fun z => z) ?_ ?_
 ·refine Tri.seq (Tri.regionL ?_)
  refine Oc oa (OpsL.nilS ⟨[(1, Pt 101 0), (3, B true), (4, I 0)], [(101, .box 25 (eBig x0))]⟩ rfl (Tri.block (Tri.loopJ h2 (un2 fun (zero_2 : Bool) (k_3 : Int) => ⟨[(1, Pt 101 0), (3, B zero_2), (4, I k_3)], [(101, .box 25 (eBig x0))]⟩) [1, 3, 4] [101] rfl ?_)))
  rintro ⟨zero_2, k_3⟩ o3 h4 hy5
  refine Tri.seq (Tri.seq (Tri.regionL ?_))
  refine Oc om (Oc (op_lss rfl rfl) ?_)
  refine OpsL.nilS ⟨[(1, Pt 101 0), (3, B zero_2), (4, I k_3), (6, B (decide (k_3 < 16)))], [(101, .box 25 (eBig x0))]⟩ rfl (Tri.ite h4 rfl (fun _ h4 => ?_) (fun _ h4 => ?_))
  ·refine Tri.skip (Fin.keepS ⟨[(1, Pt 101 0), (3, B zero_2), (4, I k_3)], [(101, .box 25 (eBig x0))]⟩ rfl (Fin.then (Tri.seq (Tri.block (Tri.regionL ?_)))))
   refine Oc om (Oc om ?_)
   refine CgT zero_2 [] (fun g6 => trivial) (fun g6 => om) (CgT zero_2 [] (fun g7 => by exact trivial) (fun g7 => op_field_p tyFld25_2 rfl rfl) ?_)
   obtain ⟨x_5, e9, h4⟩ := bnd h4
   refine CgT zero_2 [11, 12] (fun g8 => ⟨g8, g8, trivial⟩) (fun g8 => op_index_p tyArr23 (ix_lo (gc e9 g8)) (ix_hi (gc e9 g8)) rfl rfl rfl) (CgT zero_2 [13] (fun g10 => ⟨g10, trivial⟩) (fun g10 => op_load_p1 tyOne22 rfl rfl (arr_get (post := []) (k := .u32) [.bool x0.Bad, .bool x0.Neg] (gc e9 g10) rfl rfl rfl)) (CgT zero_2 [14] (fun g11 => ⟨g11, trivial⟩) (fun g11 => op_eql rfl rfl) (Oc (op_pick_and (fun e => e) rfl rfl rfl rfl) (Oc oa ?_))))
   refine OpsL.nil (Fin.block_normal (Fin.keepS ⟨[(1, Pt 101 0), (3, B (zero_2 && (decide (x_5 = 0)))), (4, I k_3)], [(101, .box 25 (eBig x0))]⟩ rfl (Fin.then (Tri.regionL ?_))))
   refine Oc om (Oc (op_add rfl rfl) (Oc oa ?_))
   refine OpsL.nil ?_
   exact Fin.againJ [1, 3, 4] [101] (zero_2 && (decide (x_5 = 0)), IntKind.i64.wrap (k_3 + 1)) (Option.some.inj h4) rfl
  ·refine Tri.exit (Fin.then_exit ?_)
   obtain rfl := hy5 _ (Option.some.inj h4).symm
   refine Fin.then_exit (Fin.block_exit ?_)
   exact Fin.join [1, 3] [101] zero_2 rfl rfl
 ·rintro zero_1 hv
  subst v1
  refine Tri.seq (Tri.seq (Tri.regionL ?_))
  refine Oc (op_field_p tyFld25_0 rfl rfl) (Oc (op_load_p1 tyOne4 rfl rfl rfl) ?_)
  refine OpsL.nilS ⟨[(1, Pt 101 0), (3, B zero_1), (18, B x0.Bad)], [(101, .box 25 (eBig x0))]⟩ rfl (Tri.ite h rfl (fun _ h => ?_) (fun _ h => ?_))
  ·refine Tri.seq (Tri.regionL ?_)
   refine Oc om (Oc om ?_)
   refine CgT zero_1 [] (fun g12 => trivial) (fun g12 => op_field_p tyFld25_1 rfl rfl) (CgT zero_1 [21] (fun g13 => ⟨g13, trivial⟩) (fun g13 => op_load_p1 tyOne4 rfl rfl rfl) (CgT zero_1 [22] (fun g14 => ⟨g14, trivial⟩) (fun g14 => op_not rfl) (Oc (op_pick_and (fun e => e) rfl rfl rfl rfl) (Oc oa ?_))))
   refine OpsL.nilS ⟨[(2, B (zero_1 && (!x0.Neg)))], []⟩ rfl (Tri.ret (Fin.then_ret ?_))
   obtain rfl := Option.some.inj h
   refine Fin.keepS ⟨[(2, B (zero_1 && (!x0.Neg)))], []⟩ rfl (Fin.result' [.one (.bool (zero_1 && (!x0.Neg)))] (.inl rfl) rfl (.cons (.tmp rfl) .nil) ⟨rfl, rfl⟩)
  ·refine Tri.skip (Fin.keepS ⟨[(1, Pt 101 0), (3, B zero_1)], [(101, .box 25 (eBig x0))]⟩ rfl (Fin.then (Tri.seq (Tri.regionL ?_))))
   refine Oc om (Oc (op_not rfl) (Oc om ?_))
   refine CgF (!(!zero_1)) [] (fun g15 => trivial) (fun g15 => op_field_p tyFld25_1 rfl rfl) (CgF (!(!zero_1)) [28] (fun g16 => ⟨g16, trivial⟩) (fun g16 => op_load_p1 tyOne4 rfl rfl rfl) (CgF (!(!zero_1)) [29] (fun g17 => ⟨g17, trivial⟩) (fun g17 => op_not rfl) (Oc (op_pick_or (fun e => by rw [e]; rfl) rfl rfl rfl rfl) (Oc oa ?_))))
   refine OpsL.nilS ⟨[(2, B ((!zero_1) || (!x0.Neg)))], []⟩ rfl (Tri.ret ?_)
   obtain rfl := Option.some.inj h
   refine Fin.keepS ⟨[(2, B ((!zero_1) || (!x0.Neg)))], []⟩ rfl (Fin.result' [.one (.bool ((!zero_1) || (!x0.Neg)))] (.inl rfl) rfl (.cons (.tmp rfl) .nil) ⟨rfl, rfl⟩)
def r3_Good_S (F : Nat) (x0 : Big) : Option Bool :=
 (r3_Valid_S F x0).bind fun x_1 => some (x_1 && (!x0.Bad))
theorem r3_Good_spec {F : Nat} {x0 : Big} {r : Bool} (h : r3_Good_S F x0 = some r) : Meets Tryz.prog (tabs mx) 15 [] [.agg (eBig x0)] (Is [] (.b (.one (.bool r)))) := by
 unfold r3_Good_S at h
 refine Meets.intro 12 Tryz.func15 Tryz.ntmps15 rfl (by simp) fun E => ?_
 show Tri _ E ⟨12, [], []⟩ _ ⟨[(0, .b (.agg (eBig x0)))], []⟩ _
 refine Tri.seq (Tri.regionL ?_)
 refine Oc (op_box (k := 101) rfl rfl) (Oc oa ?_)
 refine OpsL.nilS ⟨[(1, Pt 101 0)], [(101, .box 25 (eBig x0))]⟩ rfl (Tri.seq (Tri.regionL ?_))
 refine Oc (lp tyAgg25) ?_
 obtain ⟨x_1, e1, h⟩ := bnd h
 refine Oc (op_call0 (r3_Valid_spec e1) goes86 rfl rfl) (Oc oa ?_)
 refine OpsL.nilS ⟨[(1, Pt 101 0), (3, B x_1)], [(101, .box 25 (eBig x0))]⟩ rfl (Tri.seq (Tri.regionL ?_))
 refine Oc om (Oc om ?_)
 refine CgT x_1 [] (fun g2 => trivial) (fun g2 => op_field_p tyFld25_0 rfl rfl) (CgT x_1 [8] (fun g3 => ⟨g3, trivial⟩) (fun g3 => op_load_p1 tyOne4 rfl rfl rfl) (CgT x_1 [9] (fun g4 => ⟨g4, trivial⟩) (fun g4 => op_not rfl) (Oc (op_pick_and (fun e => e) rfl rfl rfl rfl) (Oc oa ?_))))
 refine OpsL.nilS ⟨[(2, B (x_1 && (!x0.Bad)))], []⟩ rfl (Tri.ret ?_)
 obtain rfl := Option.some.inj h
 refine Fin.keepS ⟨[(2, B (x_1 && (!x0.Bad)))], []⟩ rfl (Fin.result' [.one (.bool (x_1 && (!x0.Bad)))] (.inl rfl) rfl (.cons (.tmp rfl) .nil) ⟨rfl, rfl⟩)
def r3_digits_S (F : Nat) (x0 : Big) : Option (List Int) :=
 Option.bind (iter F (un2 fun out_2 k_3 => if (decide (k_3 < 16)) = true then ((idx? x0.W.l k_3).bind fun x_5 => (idx? x0.W.l k_3).bind fun x_6 => (quo? .u32 x_6 65536).bind fun x_7 => (app? out_2 [IntKind.i64.wrap (Int.tmod x_5 65536), IntKind.i64.wrap x_7]).bind fun x_8 => some (.inl (x_8, IntKind.i64.wrap (k_3 + 1)))) else (some (.inr out_2))) ([], 0)) (fun out_1 => (r3_trim_S F out_1).bind fun x_9 => some x_9)
theorem r3_digits_spec {F : Nat} {x0 : Big} {r : (List Int)} (h : r3_digits_S F x0 = some r) : Meets Tryz.prog (tabs mx) 85 [] [.agg (eBig x0)] (Is [] (.b (.one (.sl 1 (r.map eI))))) := by
 unfold r3_digits_S at h
 refine Meets.intro 26 Tryz.func85 Tryz.ntmps85 rfl (by simp) fun E => ?_
 show Tri _ E ⟨26, [], []⟩ _ ⟨[(0, .b (.agg (eBig x0)))], []⟩ _
 refine Tri.seq (Tri.regionL ?_)
 refine Oc (op_box (k := 101) rfl rfl) (Oc oa ?_)
 refine OpsL.nilS ⟨[(1, Pt 101 0)], [(101, .box 25 (eBig x0))]⟩ rfl (Tri.seq (Tri.regionL ?_))
 refine Oc oa (OpsL.nilS ⟨[(1, Pt 101 0), (3, .b (.one (.nil)))], [(101, .box 25 (eBig x0))]⟩ rfl ?_)
 obtain ⟨v1, h2, h⟩ := bnd h
 refine Tri.seqJ (v := v1) (fun (out_1 : List Int) => ⟨[(3, .b (.row 103))], [(103, .row 3 1 (out_1.map eI))]⟩) (fun z => z) ?_ ?_
 ·refine Tri.seq (Tri.regionL ?_)
  refine Oc oa (OpsL.nilS ⟨[(1, Pt 101 0), (3, .b (.one (.nil))), (4, I 0)], [(101, .box 25 (eBig x0))]⟩ rfl (Tri.block (Tri.nilrow 3 103 1 3 rfl (by decide) rfl (Tri.loopJ h2 (un2 fun (out_2 : List Int) (k_3 : Int) => ⟨[(1, Pt 101 0), (3, .b (.row 103)), (4, I k_3)], [(101, .box 25 (eBig x0)), (103, .row 3 1 (out_2.map eI))]⟩) [1, 3, 4] [101, 103] rfl ?_))))
  rintro ⟨out_2, k_3⟩ o3 h4 hy5
  refine Tri.seq (Tri.seq (Tri.regionL ?_))
  refine Oc om (Oc (op_lss rfl rfl) ?_)
  refine OpsL.nilS ⟨[(1, Pt 101 0), (3, .b (.row 103)), (4, I k_3), (6, B (decide (k_3 < 16)))], [(101, .box 25 (eBig x0)), (103, .row 3 1 (out_2.map eI))]⟩ rfl (Tri.ite h4 rfl (fun _ h4 => ?_) (fun _ h4 => ?_))
  ·refine Tri.skip (Fin.keepS ⟨[(1, Pt 101 0), (3, .b (.row 103)), (4, I k_3)], [(101, .box 25 (eBig x0)), (103, .row 3 1 (out_2.map eI))]⟩ rfl (Fin.then (Tri.seq (Tri.block ?_))))
   refine Tri.keepS ⟨[(1, Pt 101 0), (3, .b (.row 103)), (4, I k_3)], [(101, .box 25 (eBig x0)), (103, .row 3 1 (out_2.map eI))]⟩ rfl ?_
   obtain ⟨x_5, e6, h4⟩ := bnd h4
   obtain ⟨x_6, e7, h4⟩ := bnd h4
   obtain ⟨x_7, e8, h4⟩ := bnd h4
   obtain ⟨x_8, e9, h4⟩ := bnd h4
   refine Tri.regionYF mixed 14 [.b (.row 103), I k_3, Pt 101 2, .b (.ptr 101 (2 + (k_3 : Int).toNat * 1)), .b (.one (.int .u32 x_5)), .b (.one (.int .u32 (Int.tmod x_5 65536))), I (IntKind.i64.wrap (Int.tmod x_5 65536)), I k_3, Pt 101 2, .b (.ptr 101 (2 + (k_3 : Int).toNat * 1)), .b (.one (.int .u32 x_6)), .b (.one (.int .u32 x_7)), I (IntKind.i64.wrap x_7), .b (.one (.sl 1 ([IntKind.i64.wrap (Int.tmod x_5 65536), IntKind.i64.wrap x_7].map eI)))] [1, 3, 4] [101, 103] (s' := ⟨[(1, Pt 101 0), (3, .b (.row 103)), (4, I k_3)], [(101, .box 25 (eBig x0)), (103, .row 3 1 (x_8.map eI))]⟩) rfl ⟨fun _ => .p om, fun _ => .p om, fun _ => .p (op_field_p tyFld25_2 rfl rfl), fun _ => .p (op_index_p tyArr23 (ix_lo e6) (ix_hi e6) rfl rfl rfl), fun _ => .p (op_load_p1 tyOne22 rfl rfl (arr_get (post := []) (k := .u32) [.bool x0.Bad, .bool x0.Neg] e6 rfl rfl rfl)), fun _ => .p (op_rem (by decide) rfl rfl), fun _ => .p (op_conv_wrap undi22 undi3 rfl), fun _ => .p om, fun _ => .p (op_field_p tyFld25_2 rfl rfl), fun _ => .p (op_index_p tyArr23 (ix_lo e7) (ix_hi e7) rfl rfl rfl), fun _ => .p (op_load_p1 tyOne22 rfl rfl (arr_get (post := []) (k := .u32) [.bool x0.Bad, .bool x0.Neg] e7 rfl rfl rfl)), fun _ => .p (op_quo2 e8 rfl rfl), fun _ => .p (op_conv_wrap undi22 undi3 rfl), fun _ => .p (op_buildSliceP (es := [IntKind.i64.wrap (Int.tmod x_5 65536), IntKind.i64.wrap x_7].map eI) tySl70 rfl rfl (uni_map fun _ => rfl) rfl (by decide) (by decide)), trivial⟩ ⟨_, by exact .p (op_append tySl70 (app_b e9) (app_m e9) rfl rfl rfl (app_map e9) rfl), ⟨_, by exact .p oa, rfl⟩⟩ rfl (Fin.block_normal (Fin.keepS ⟨[(1, Pt 101 0), (3, .b (.row 103)), (4, I k_3)], [(101, .box 25 (eBig x0)), (103, .row 3 1 (x_8.map eI))]⟩ rfl (Fin.then (Tri.regionL ?_))))
   refine Oc om (Oc (op_add rfl rfl) (Oc oa ?_))
   refine OpsL.nil ?_
   exact Fin.againJ [1, 3, 4] [101, 103] (x_8, IntKind.i64.wrap (k_3 + 1)) (Option.some.inj h4) rfl
  ·refine Tri.exit (Fin.then_exit ?_)
   obtain rfl := hy5 _ (Option.some.inj h4).symm
   refine Fin.then_exit (Fin.block_exit ?_)
   exact Fin.join [3] [103] out_2 rfl rfl
 ·rintro out_1 hv
  subst v1
  refine Tri.seq (Tri.regionL ?_)
  refine Oc om (OpsL.persist 103 rfl ?_)
  obtain ⟨x_9, e10, h⟩ := bnd h
  refine Oc (op_call0 (r3_trim_spec e10) goes119 rfl rfl) (Oc oa ?_)
  refine OpsL.nilS ⟨[(2, .b (.one (.sl 1 (x_9.map eI))))], []⟩ rfl (Tri.ret ?_)
  obtain rfl := Option.some.inj h
  refine Fin.keepS ⟨[(2, .b (.one (.sl 1 (x_9.map eI))))], []⟩ rfl (Fin.result' [.one (.sl 1 (x_9.map eI))] (.inl rfl) rfl (.cons (.tmp rfl) .nil) ⟨rfl, rfl⟩)
def r3_Sign_S (F : Nat) (x0 : Big) : Option Int :=
 (r3_Good_S F x0).bind fun x_1 => (gcall (!(!x_1)) (r3_digits_S F x0)).bind fun x_2 => if ((!x_1) || (decide ((x_2.length : Int) = 0))) = true then (some 0) else (if x0.Neg = true then (some (-1)) else (some 1))
theorem r3_Sign_spec {F : Nat} {x0 : Big} {r : Int} (h : r3_Sign_S F x0 = some r) : Meets Tryz.prog (tabs mx) 78 [] [.agg (eBig x0)] (Is [] (.b (.one (.i r)))) := by
 unfold r3_Sign_S at h
 refine Meets.intro 14 Tryz.func78 Tryz.ntmps78 rfl (by simp) fun E => ?_
 show Tri _ E ⟨14, [], []⟩ _ ⟨[(0, .b (.agg (eBig x0)))], []⟩ _
 refine Tri.seq (Tri.regionL ?_)
 refine Oc (op_box (k := 101) rfl rfl) (Oc oa ?_)
 refine OpsL.nilS ⟨[(1, Pt 101 0)], [(101, .box 25 (eBig x0))]⟩ rfl (Tri.seq (Tri.seq (Tri.regionL ?_)))
 refine Oc (lp tyAgg25) ?_
 obtain ⟨x_1, e1, h⟩ := bnd h
 refine Oc (op_call0 (r3_Good_spec e1) goes15 rfl rfl) (Oc (op_not rfl) (Oc om ?_))
 refine CgF (!(!x_1)) [] (fun g2 => trivial) (fun g2 => lp tyAgg25) (OpsL.keepS ⟨[(1, Pt 101 0), (6, B (!x_1)), (7, .opt (!(!x_1)) (.agg (eBig x0)))], [(101, .box 25 (eBig x0))]⟩ rfl ?_)
 obtain ⟨x_2, e4, h⟩ := bnd h
 refine CgF (!(!x_1)) [7] (fun g3 => ⟨g3, trivial⟩) (fun g3 => op_call0 (r3_digits_spec (gc e4 g3)) goes85 rfl rfl) (CgF (!(!x_1)) [8] (fun g5 => ⟨g5, trivial⟩) (fun g5 => op_len_e' und70 rfl (List.length_map _)) (CgF (!(!x_1)) [9] (fun g6 => ⟨g6, trivial⟩) (fun g6 => op_eql rfl rfl) (Oc (op_pick_or (fun e => by rw [e]; rfl) rfl rfl rfl rfl) (OpsL.nilS ⟨[(1, Pt 101 0), (11, B ((!x_1) || (decide ((x_2.length : Int) = 0))))], [(101, .box 25 (eBig x0))]⟩ rfl (Tri.ite h rfl (fun _ h => ?_) (fun _ h => ?_))))))
 ·refine Tri.seq (Tri.regionL ?_)
  refine Oc oa (OpsL.nilS ⟨[(2, I 0)], []⟩ rfl (Tri.ret (Fin.then_ret ?_)))
  obtain rfl := Option.some.inj h
  refine Fin.keepS ⟨[(2, I 0)], []⟩ rfl (Fin.result' [.one (.i 0)] (.inl rfl) rfl (.cons (.tmp rfl) .nil) ⟨rfl, rfl⟩)
 ·refine Tri.skip (Fin.keepS ⟨[(1, Pt 101 0)], [(101, .box 25 (eBig x0))]⟩ rfl (Fin.then (Tri.seq (Tri.seq (Tri.regionL ?_)))))
  refine Oc (op_field_p tyFld25_1 rfl rfl) (Oc (op_load_p1 tyOne4 rfl rfl rfl) ?_)
  refine OpsL.nilS ⟨[(13, B x0.Neg)], []⟩ rfl (Tri.ite h rfl (fun _ h => ?_) (fun _ h => ?_))
  ·refine Tri.seq (Tri.regionL ?_)
   refine Oc oa (OpsL.nilS ⟨[(2, I (-1))], []⟩ rfl (Tri.ret (Fin.then_ret ?_)))
   obtain rfl := Option.some.inj h
   refine Fin.keepS ⟨[(2, I (-1))], []⟩ rfl (Fin.result' [.one (.i (-1))] (.inl rfl) rfl (.cons (.tmp rfl) .nil) ⟨rfl, rfl⟩)
  ·refine Tri.skip (Fin.keepS ⟨[], []⟩ rfl (Fin.then (Tri.seq (Tri.regionL ?_))))
   refine Oc oa (OpsL.nilS ⟨[(2, I 1)], []⟩ rfl (Tri.ret ?_))
   obtain rfl := Option.some.inj h
   refine Fin.keepS ⟨[(2, I 1)], []⟩ rfl (Fin.result' [.one (.i 1)] (.inl rfl) rfl (.cons (.tmp rfl) .nil) ⟨rfl, rfl⟩)
def r3_word_S (F : Nat) (x0 : Big) : Option (Int × Bool) :=
 (r3_Good_S F x0).bind fun x_1 => if ((!x_1) || (decide (1073741824 ≤ x0.W.a1))) = true then (some (0, false)) else (Option.bind (iter F (fun k_2 => if (decide (k_2 < 16)) = true then ((idx? x0.W.l k_2).bind fun x_3 => if (decide (x_3 ≠ 0)) = true then (some (.inr (.inr (0, false)))) else (some (.inl (IntKind.i64.wrap (k_2 + 1))))) else (some (.inr (.inl ())))) 2) (alt2 (fun _ => letN (IntKind.i64.wrap ((IntKind.i64.wrap x0.W.a1) * 4294967296)) fun x_4 => letN (IntKind.i64.wrap (x_4 + (IntKind.i64.wrap x0.W.a0))) fun x_5 => if x0.Neg = true then (some (IntKind.i64.wrap (-x_5), true)) else (some (x_5, true))) (fun y => some y)))
theorem r3_word_spec {F : Nat} {x0 : Big} {r : Int × Bool} (h : r3_word_S F x0 = some r) : Meets Tryz.prog (tabs mx) 81 [] [.agg (eBig x0)] (Is [] (.tup [.one (.i r.1), .one (.bool r.2)])) := by
 unfold r3_word_S at h
 refine Meets.intro 41 Tryz.func81 Tryz.ntmps81 rfl (by simp) fun E => ?_
 show Tri _ E ⟨41, [], []⟩ _ ⟨[(0, .b (.agg (eBig x0)))], []⟩ _
 refine Tri.seq (Tri.regionL ?_)
 refine Oc (op_box (k := 101) rfl rfl) (Oc oa (Oc oa ?_))
 refine OpsL.nilS ⟨[(1, Pt 101 0)], [(101, .box 25 (eBig x0))]⟩ rfl (Tri.seq (Tri.regionL ?_))
 refine Oc (lp tyAgg25) ?_
 obtain ⟨x_1, e1, h⟩ := bnd h
 refine Oc (op_call0 (r3_Good_spec e1) goes15 rfl rfl) (Oc oa ?_)
 refine OpsL.nilS ⟨[(1, Pt 101 0), (4, B x_1)], [(101, .box 25 (eBig x0))]⟩ rfl (Tri.seq (Tri.seq (Tri.regionL ?_)))
 refine Oc om (Oc (op_not rfl) (Oc om ?_))
 refine CgF (!(!x_1)) [] (fun g2 => trivial) (fun g2 => op_field_p tyFld25_2 rfl rfl) (CgF (!(!x_1)) [12] (fun g3 => ⟨g3, trivial⟩) (fun g3 => op_index_p tyArr23 (by decide) (by decide) rfl rfl rfl) (CgF (!(!x_1)) [13] (fun g4 => ⟨g4, trivial⟩) (fun g4 => op_load_p1 tyOne22 rfl rfl rfl) (CgF (!(!x_1)) [14] (fun g5 => ⟨g5, trivial⟩) (fun g5 => op_geq rfl rfl) (Oc (op_pick_or (fun e => by rw [e]; rfl) rfl rfl rfl rfl) (OpsL.nilS ⟨[(1, Pt 101 0), (16, B ((!x_1) || (decide (1073741824 ≤ x0.W.a1))))], [(101, .box 25 (eBig x0))]⟩ rfl ?_)))))
 refine Tri.ite h rfl (fun _ h => ?_) (fun _ h => ?_)
 ·refine Tri.seq (Tri.regionL ?_)
  refine Oc oa (Oc oa ?_)
  refine OpsL.nilS ⟨[(2, I 0), (3, B false)], []⟩ rfl (Tri.ret (Fin.then_ret ?_))
  obtain rfl := Option.some.inj h
  refine Fin.keepS ⟨[(2, I 0), (3, B false)], []⟩ rfl (Fin.result' [.one (.i 0), .one (.bool false)] (.inl rfl) rfl (.cons (.tmp rfl) (.cons (.tmp rfl) .nil)) ⟨rfl, rfl⟩)
 ·refine Tri.skip (Fin.keepS ⟨[(1, Pt 101 0)], [(101, .box 25 (eBig x0))]⟩ rfl (Fin.then ?_))
  obtain ⟨v6, h7, h⟩ := bnd h
  refine Tri.seqJ (v := v6) (fun (_ : Unit) => ⟨[(1, Pt 101 0)], [(101, .box 25 (eBig x0))]⟩) (fun z => .inl z) ?_ ?_
  ·refine Tri.seq (Tri.regionL ?_)
   refine Oc oa (OpsL.nilS ⟨[(1, Pt 101 0), (5, I 2)], [(101, .box 25 (eBig x0))]⟩ rfl (Tri.block (Tri.loopJ h7 (fun (k_2 : Int) => ⟨[(1, Pt 101 0), (5, I k_2)], [(101, .box 25 (eBig x0))]⟩) [1, 5] [101] rfl ?_)))
   rintro k_2 o8 h9 hy10
   refine Tri.seq (Tri.seq (Tri.regionL ?_))
   refine Oc om (Oc (op_lss rfl rfl) ?_)
   refine OpsL.nilS ⟨[(1, Pt 101 0), (5, I k_2), (18, B (decide (k_2 < 16)))], [(101, .box 25 (eBig x0))]⟩ rfl (Tri.ite h9 rfl (fun _ h9 => ?_) (fun _ h9 => ?_))
   ·refine Tri.skip (Fin.keepS ⟨[(1, Pt 101 0), (5, I k_2)], [(101, .box 25 (eBig x0))]⟩ rfl (Fin.then (Tri.seq (Tri.block (Tri.seq (Tri.regionL ?_))))))
    refine Oc om (Oc (op_field_p tyFld25_2 rfl rfl) ?_)
    obtain ⟨x_3, e11, h9⟩ := bnd h9
    refine Oc (op_index_p tyArr23 (ix_lo e11) (ix_hi e11) rfl rfl rfl) (Oc (op_load_p1 tyOne22 rfl rfl (arr_get (post := []) (k := .u32) [.bool x0.Bad, .bool x0.Neg] e11 rfl rfl rfl)) (Oc (op_neq rfl rfl) ?_))
    refine OpsL.nilS ⟨[(1, Pt 101 0), (5, I k_2), (25, B (decide (x_3 ≠ 0)))], [(101, .box 25 (eBig x0))]⟩ rfl (Tri.ite h9 rfl (fun _ h9 => ?_) (fun _ h9 => ?_))
    ·refine Tri.seq (Tri.regionL ?_)
     refine Oc oa (Oc oa ?_)
     refine OpsL.nilS ⟨[(2, I 0), (3, B false)], []⟩ rfl (Tri.ret (Fin.block_ret (Fin.then_ret ?_)))
     obtain rfl := hy10 _ (Option.some.inj h9).symm
     refine Fin.then_ret (Fin.block_ret (Fin.then_ret ?_))
     obtain rfl := Option.some.inj h
     refine Fin.keepS ⟨[(2, I 0), (3, B false)], []⟩ rfl (Fin.result' [.one (.i 0), .one (.bool false)] (.inl rfl) rfl (.cons (.tmp rfl) (.cons (.tmp rfl) .nil)) ⟨rfl, rfl⟩)
    ·refine Tri.skip (Fin.block_normal (Fin.keepS ⟨[(1, Pt 101 0), (5, I k_2)], [(101, .box 25 (eBig x0))]⟩ rfl (Fin.then (Tri.regionL ?_))))
     refine Oc om (Oc (op_add rfl rfl) (Oc oa ?_))
     refine OpsL.nil ?_
     exact Fin.againJ [1, 5] [101] (IntKind.i64.wrap (k_2 + 1)) (Option.some.inj h9) rfl
   ·refine Tri.exit (Fin.then_exit ?_)
    obtain rfl := hy10 _ (Option.some.inj h9).symm
    refine Fin.then_exit (Fin.block_exit ?_)
    exact Fin.join [1] [101] () rfl rfl
  ·rintro _ hv
   subst v6
   refine Tri.seq (Tri.regionL ?_)
   refine Oc (op_field_p tyFld25_2 rfl rfl) (Oc (op_index_p tyArr23 (by decide) (by decide) rfl rfl rfl) (Oc (op_load_p1 tyOne22 rfl rfl rfl) (Oc (op_conv_wrap undi22 undi3 rfl) ?_)))
   refine OpsL.consI .i64 h rfl (op_mul rfl rfl) (fun x_4 h => ?_)
   refine Oc (op_field_p tyFld25_2 rfl rfl) (Oc (op_index_p tyArr23 (by decide) (by decide) rfl rfl rfl) ?_)
   refine OpsL.keepS ⟨[(1, Pt 101 0), (30, I x_4), (32, Pt 101 2)], [(101, .box 25 (eBig x0))]⟩ rfl (Oc (op_load_p1 tyOne22 rfl rfl rfl) (Oc (op_conv_wrap undi22 undi3 rfl) ?_))
   refine OpsL.consI .i64 h rfl (op_add rfl rfl) (fun x_5 h => ?_)
   refine Oc oa (OpsL.nilS ⟨[(1, Pt 101 0), (6, I x_5)], [(101, .box 25 (eBig x0))]⟩ rfl (Tri.seq (Tri.seq (Tri.regionL ?_))))
   refine Oc (op_field_p tyFld25_1 rfl rfl) (Oc (op_load_p1 tyOne4 rfl rfl rfl) ?_)
   refine OpsL.nilS ⟨[(6, I x_5), (37, B x0.Neg)], []⟩ rfl (Tri.ite h rfl (fun _ h => ?_) (fun _ h => ?_))
   ·refine Tri.seq (Tri.regionL ?_)
    refine Oc om (Oc (op_neg rfl) (Oc oa (Oc oa ?_)))
    refine OpsL.nilS ⟨[(2, I (IntKind.i64.wrap (-x_5))), (3, B true)], []⟩ rfl (Tri.ret (Fin.then_ret ?_))
    obtain rfl := Option.some.inj h
    refine Fin.keepS ⟨[(2, I (IntKind.i64.wrap (-x_5))), (3, B true)], []⟩ rfl (Fin.result' [.one (.i (IntKind.i64.wrap (-x_5))), .one (.bool true)] (.inl rfl) rfl (.cons (.tmp rfl) (.cons (.tmp rfl) .nil)) ⟨rfl, rfl⟩)
   ·refine Tri.skip (Fin.keepS ⟨[(6, I x_5)], []⟩ rfl (Fin.then (Tri.seq (Tri.regionL ?_))))
    refine Oc om (Oc oa (Oc oa ?_))
    refine OpsL.nilS ⟨[(2, I x_5), (3, B true)], []⟩ rfl (Tri.ret ?_)
    obtain rfl := Option.some.inj h
    refine Fin.keepS ⟨[(2, I x_5), (3, B true)], []⟩ rfl (Fin.result' [.one (.i x_5), .one (.bool true)] (.inl rfl) rfl (.cons (.tmp rfl) (.cons (.tmp rfl) .nil)) ⟨rfl, rfl⟩)
def r3_Abs_S (F : Nat) (x0 : Big) : Option Big :=
 (r3_Good_S F x0).bind fun x_1 => if (!x_1) = true then ((r3_Bad_S F).bind fun x_2 => some x_2) else ((r3_digits_S F x0).bind fun x_3 => (r3_number_S F false x_3).bind fun x_4 => some x_4)
theorem r3_Abs_spec {F : Nat} {x0 : Big} {r : Big} (h : r3_Abs_S F x0 = some r) : Meets Tryz.prog (tabs mx) 111 [] [.agg (eBig x0)] (Is [] (.b (.agg (eBig r)))) := by
 unfold r3_Abs_S at h
 refine Meets.intro 10 Tryz.func111 Tryz.ntmps111 rfl (by simp) fun E => ?_
 show Tri _ E ⟨10, [], []⟩ _ ⟨[(0, .b (.agg (eBig x0)))], []⟩ _
 refine Tri.seq (Tri.regionL ?_)
 refine Oc (op_box (k := 101) rfl rfl) (Oc (op_alloc (k := 102) tyZero25 rfl) ?_)
 refine OpsL.nilS ⟨[(1, Pt 101 0), (2, Pt 102 0)], [(101, .box 25 (eBig x0)), (102, .box 25 zBig)]⟩ rfl (Tri.seq (Tri.seq (Tri.regionL ?_)))
 refine Oc (lp tyAgg25) ?_
 obtain ⟨x_1, e1, h⟩ := bnd h
 refine Oc (op_call0 (r3_Good_spec e1) goes15 rfl rfl) (Oc (op_not rfl) ?_)
 refine OpsL.nilS ⟨[(1, Pt 101 0), (2, Pt 102 0), (5, B (!x_1))], [(101, .box 25 (eBig x0)), (102, .box 25 zBig)]⟩ rfl (Tri.ite h rfl (fun _ h => ?_) (fun _ h => ?_))
 ·refine Tri.seq (Tri.regionL ?_)
  obtain ⟨x_2, e2, h⟩ := bnd h
  refine Oc (op_call0 (r3_Bad_spec e2) goes83 rfl rfl) (Oc (op_store_p tyAgg25 rfl rfl rfl rfl (Nat.le_of_ble_eq_true rfl) rfl) ?_)
  refine OpsL.nilS ⟨[(2, Pt 102 0)], [(102, .box 25 (eBig x_2))]⟩ rfl (Tri.ret (Fin.then_ret ?_))
  obtain rfl := Option.some.inj h
  refine Fin.keepS ⟨[(2, Pt 102 0)], [(102, .box 25 (eBig x_2))]⟩ rfl (Fin.result' [.agg (eBig x_2)] (.inl rfl) rfl (.cons (.agg tyAgg25 rfl rfl rfl rfl) .nil) ⟨rfl, rfl⟩)
 ·refine Tri.skip (Fin.keepS ⟨[(1, Pt 101 0), (2, Pt 102 0)], [(101, .box 25 (eBig x0)), (102, .box 25 zBig)]⟩ rfl (Fin.then (Tri.seq (Tri.regionL ?_))))
  refine Oc (lp tyAgg25) ?_
  obtain ⟨x_3, e3, h⟩ := bnd h
  refine Oc (op_call0 (r3_digits_spec e3) goes85 rfl rfl) ?_
  obtain ⟨x_4, e4, h⟩ := bnd h
  refine Oc (op_call0 (r3_number_spec e4) goes76 rfl rfl) (Oc (op_store_p tyAgg25 rfl rfl rfl rfl (Nat.le_of_ble_eq_true rfl) rfl) ?_)
  refine OpsL.nilS ⟨[(2, Pt 102 0)], [(102, .box 25 (eBig x_4))]⟩ rfl (Tri.ret ?_)
  obtain rfl := Option.some.inj h
  refine Fin.keepS ⟨[(2, Pt 102 0)], [(102, .box 25 (eBig x_4))]⟩ rfl (Fin.result' [.agg (eBig x_4)] (.inl rfl) rfl (.cons (.agg tyAgg25 rfl rfl rfl rfl) .nil) ⟨rfl, rfl⟩)
def r3_at_S (F : Nat) (l0 : List Int) (k0 : Int) : Option Int :=
 if (decide (k0 < 0)) = true then (some 0) else ((r3_digit_S F l0 k0).bind fun x_1 => some x_1)
theorem r3_at_spec {F : Nat} {l0 : List Int} {k0 : Int} {r : Int} (h : r3_at_S F l0 k0 = some r) : Meets Tryz.prog (tabs mx) 144 [] [.one (.sl 1 (l0.map eI)), .one (.i k0)] (Is [] (.b (.one (.i r)))) := by
 unfold r3_at_S at h
 refine Meets.intro 10 Tryz.func144 Tryz.ntmps144 rfl (by simp) fun E => ?_
 show Tri _ E ⟨10, [], []⟩ _ ⟨[(0, .b (.one (.sl 1 (l0.map eI)))), (1, I k0)], []⟩ _
 refine Tri.seq (Tri.regionL ?_)
 refine Oc oa (OpsL.nilS ⟨[(0, .b (.one (.sl 1 (l0.map eI)))), (1, I k0)], []⟩ rfl (Tri.seq (Tri.seq (Tri.regionL ?_))))
 refine Oc om (Oc (op_lss rfl rfl) ?_)
 refine OpsL.nilS ⟨[(0, .b (.one (.sl 1 (l0.map eI)))), (1, I k0), (6, B (decide (k0 < 0)))], []⟩ rfl (Tri.ite h rfl (fun _ h => ?_) (fun _ h => ?_))
 ·refine Tri.seq (Tri.regionL ?_)
  refine Oc oa (OpsL.nilS ⟨[(4, I 0)], []⟩ rfl (Tri.ret (Fin.then_ret ?_)))
  obtain rfl := Option.some.inj h
  refine Fin.keepS ⟨[(4, I 0)], []⟩ rfl (Fin.result' [.one (.i 0)] (.inl rfl) rfl (.cons (.tmp rfl) .nil) ⟨rfl, rfl⟩)
 ·refine Tri.skip (Fin.keepS ⟨[(0, .b (.one (.sl 1 (l0.map eI)))), (1, I k0)], []⟩ rfl (Fin.then (Tri.seq (Tri.regionL ?_))))
  refine Oc om (Oc om ?_)
  obtain ⟨x_1, e1, h⟩ := bnd h
  refine Oc (op_call0 (r3_digit_spec e1) goes120 rfl rfl) (Oc oa ?_)
  refine OpsL.nilS ⟨[(4, I x_1)], []⟩ rfl (Tri.ret ?_)
  obtain rfl := Option.some.inj h
  refine Fin.keepS ⟨[(4, I x_1)], []⟩ rfl (Fin.result' [.one (.i x_1)] (.inl rfl) rfl (.cons (.tmp rfl) .nil) ⟨rfl, rfl⟩)
def r3_times_S (F : Nat) (a0 : List Int) (b0 : List Int) : Option (List Int) :=
 letN (IntKind.i64.wrap ((a0.length : Int) + (b0.length : Int))) fun x_1 => Option.bind (mk? (0 : Int) (IntKind.i64.wrap (x_1 + 1)) (IntKind.i64.wrap (x_1 + 1))) (fun x_2 => Option.bind (iter F (un2 fun out_4 i_5 => if (decide (i_5 < (a0.length : Int))) = true then (Option.bind (Option.bind (iter F (un2 fun out_9 k_10 => if (decide (k_10 < (b0.length : Int))) = true then ((idx? out_9 (IntKind.i64.wrap (i_5 + k_10))).bind fun x_12 => (idx? a0 i_5).bind fun x_13 => (idx? b0 k_10).bind fun x_14 => (idx? out_9 (IntKind.i64.wrap (i_5 + k_10))).bind fun x_15 => some (.inl (out_9.set (IntKind.i64.wrap (i_5 + k_10) : Int).toNat (IntKind.i64.wrap (x_12 + (IntKind.i64.wrap (x_13 * x_14)))), IntKind.i64.wrap (k_10 + 1)))) else (some (.inr out_9))) (out_4, 0)) (fun out_8 => Option.bind (iter F (un3 fun out_16 carry_17 k_18 => if (decide (k_18 < (out_16.length : Int))) = true then ((idx? out_16 k_18).bind fun x_20 => letN (Int.tmod (IntKind.i64.wrap (x_20 + carry_17)) 65536) fun x_21 => (idx? out_16 k_18).bind fun x_22 => (quo? .i64 (IntKind.i64.wrap (x_20 + carry_17)) 65536).bind fun x_23 => some (.inl (out_16.set (k_18 : Int).toNat x_21, x_23, IntKind.i64.wrap (k_18 + 1)))) else (some (.inr out_16))) (out_8, 0, 0)) (fun out_19 => some out_19))) (fun out_7 => some (.inl (out_7, IntKind.i64.wrap (i_5 + 1))))) else (some (.inr out_4))) (x_2, 0)) (fun out_3 => (r3_trim_S F out_3).bind fun x_24 => some x_24))
theorem r3_times_spec {F : Nat} {a0 : List Int} {b0 : List Int} {r : (List Int)} (h : r3_times_S F a0 b0 = some r) : Meets Tryz.prog (tabs mx) 84 [] [.one (.sl 1 (a0.map eI)), .one (.sl 1 (b0.map eI))] (Is [] (.b (.one (.sl 1 (r.map eI))))) := by
 unfold r3_times_S at h
 refine Meets.intro 72 Tryz.func84 Tryz.ntmps84 rfl (by simp) fun E => ?_
 show Tri _ E ⟨72, [], []⟩ _ ⟨[(0, .b (.one (.sl 1 (a0.map eI)))), (1, .b (.one (.sl 1 (b0.map eI))))], []⟩ _
 refine Tri.seq (Tri.regionL ?_)
 refine Oc oa (OpsL.nilS ⟨[(0, .b (.one (.sl 1 (a0.map eI)))), (1, .b (.one (.sl 1 (b0.map eI))))], []⟩ rfl (Tri.seq (Tri.regionL ?_)))
 refine Oc om (Oc (op_len_e' und70 rfl (List.length_map _)) (Oc om (Oc (op_len_e' und70 rfl (List.length_map _)) ?_)))
 refine OpsL.consI .i64 h rfl (op_add rfl rfl) (fun x_1 h => ?_)
 refine OpsL.keepS ⟨[(0, .b (.one (.sl 1 (a0.map eI)))), (1, .b (.one (.sl 1 (b0.map eI)))), (15, I x_1)], []⟩ rfl (Oc (op_add rfl rfl) ?_)
 obtain ⟨x_2, e1, h⟩ := bnd h
 refine Oc (op_makeSlice (k := 101) (enc := eI) tySl70 e1 (by decide) (.cons .refl .nil) rfl rfl rfl) (Oc oa ?_)
 refine OpsL.nilS ⟨[(0, .b (.one (.sl 1 (a0.map eI)))), (1, .b (.one (.sl 1 (b0.map eI)))), (5, .b (.row 101))], [(101, .row 3 1 (x_2.map eI))]⟩ rfl ?_
 obtain ⟨v2, h3, h⟩ := bnd h
 refine Tri.seqJ (v := v2) (fun (out_3 : List Int) => ⟨[(5, .b (.row 101))], [(101, .row 3 1 (out_3.map eI))]⟩) (fun z => z) ?_ ?_
 ·refine Tri.seq (Tri.regionL ?_)
  refine Oc oa (OpsL.nilS ⟨[(0, .b (.one (.sl 1 (a0.map eI)))), (1, .b (.one (.sl 1 (b0.map eI)))), (5, .b (.row 101)), (6, I 0)], [(101, .row 3 1 (x_2.map eI))]⟩ rfl (Tri.block (Tri.loopJ h3 (un2 fun (out_4 : List Int) (i_5 : Int) => ⟨[(0, .b (.one (.sl 1 (a0.map eI)))), (1, .b (.one (.sl 1 (b0.map eI)))), (5, .b (.row 101)), (6, I i_5)], [(101, .row 3 1 (out_4.map eI))]⟩) [0, 1, 5, 6] [101] rfl ?_)))
  rintro ⟨out_4, i_5⟩ o4 h5 hy6
  refine Tri.seq (Tri.seq (Tri.regionL ?_))
  refine Oc om (Oc om (Oc (op_len_e' und70 rfl (List.length_map _)) (Oc (op_lss rfl rfl) ?_)))
  refine OpsL.nilS ⟨[(0, .b (.one (.sl 1 (a0.map eI)))), (1, .b (.one (.sl 1 (b0.map eI)))), (5, .b (.row 101)), (6, I i_5), (21, B (decide (i_5 < (a0.length : Int))))], [(101, .row 3 1 (out_4.map eI))]⟩ rfl (Tri.ite h5 rfl (fun _ h5 => ?_) (fun _ h5 => ?_))
  ·refine Tri.skip (Fin.keepS ⟨[(0, .b (.one (.sl 1 (a0.map eI)))), (1, .b (.one (.sl 1 (b0.map eI)))), (5, .b (.row 101)), (6, I i_5)], [(101, .row 3 1 (out_4.map eI))]⟩ rfl (Fin.then ?_))
   obtain ⟨v7, h8, h5⟩ := bnd h5
   refine Tri.seqJ (v := v7) (fun (out_7 : List Int) => ⟨[(0, .b (.one (.sl 1 (a0.map eI)))), (1, .b (.one (.sl 1 (b0.map eI)))), (5, .b (.row 101)), (6, I i_5)], [(101, .row 3 1 (out_7.map eI))]⟩) (fun z => z) ?_ ?_
   ·refine Tri.block ?_
    obtain ⟨v9, h10, h8⟩ := bnd h8
    refine Tri.seqJ (v := v9) (fun (out_8 : List Int) => ⟨[(0, .b (.one (.sl 1 (a0.map eI)))), (1, .b (.one (.sl 1 (b0.map eI)))), (5, .b (.row 101)), (6, I i_5)], [(101, .row 3 1 (out_8.map eI))]⟩) (fun z => z) ?_ ?_
    ·refine Tri.seq (Tri.regionL ?_)
     refine Oc oa (OpsL.nilS ⟨[(0, .b (.one (.sl 1 (a0.map eI)))), (1, .b (.one (.sl 1 (b0.map eI)))), (5, .b (.row 101)), (6, I i_5), (7, I 0)], [(101, .row 3 1 (out_4.map eI))]⟩ rfl (Tri.block (Tri.loopJ h10 (un2 fun (out_9 : List Int) (k_10 : Int) => ⟨[(0, .b (.one (.sl 1 (a0.map eI)))), (1, .b (.one (.sl 1 (b0.map eI)))), (5, .b (.row 101)), (6, I i_5), (7, I k_10)], [(101, .row 3 1 (out_9.map eI))]⟩) [0, 1, 5, 6, 7] [101] rfl ?_)))
     rintro ⟨out_9, k_10⟩ o11 h12 hy13
     refine Tri.seq (Tri.seq (Tri.regionL ?_))
     refine Oc om (Oc om (Oc (op_len_e' und70 rfl (List.length_map _)) (Oc (op_lss rfl rfl) ?_)))
     refine OpsL.nilS ⟨[(0, .b (.one (.sl 1 (a0.map eI)))), (1, .b (.one (.sl 1 (b0.map eI)))), (5, .b (.row 101)), (6, I i_5), (7, I k_10), (27, B (decide (k_10 < (b0.length : Int))))], [(101, .row 3 1 (out_9.map eI))]⟩ rfl (Tri.ite h12 rfl (fun _ h12 => ?_) (fun _ h12 => ?_))
     ·refine Tri.skip (Fin.keepS ⟨[(0, .b (.one (.sl 1 (a0.map eI)))), (1, .b (.one (.sl 1 (b0.map eI)))), (5, .b (.row 101)), (6, I i_5), (7, I k_10)], [(101, .row 3 1 (out_9.map eI))]⟩ rfl (Fin.then (Tri.seq (Tri.block ?_))))
      refine Tri.keepS ⟨[(0, .b (.one (.sl 1 (a0.map eI)))), (1, .b (.one (.sl 1 (b0.map eI)))), (5, .b (.row 101)), (6, I i_5), (7, I k_10)], [(101, .row 3 1 (out_9.map eI))]⟩ rfl ?_
      obtain ⟨x_12, e14, h12⟩ := bnd h12
      obtain ⟨x_13, e15, h12⟩ := bnd h12
      obtain ⟨x_14, e16, h12⟩ := bnd h12
      obtain ⟨x_15, e17, h12⟩ := bnd h12
      refine Tri.regionYF mixed 21 [.b (.row 101), I i_5, I k_10, I (IntKind.i64.wrap (i_5 + k_10)), .b (.row 101), I i_5, I k_10, I (IntKind.i64.wrap (i_5 + k_10)), .b (.rptr 101 ((IntKind.i64.wrap (i_5 + k_10) : Int).toNat * 1)), I x_12, .b (.one (.sl 1 (a0.map eI))), I i_5, .b (.eptr [.i x_13]), I x_13, .b (.one (.sl 1 (b0.map eI))), I k_10, .b (.eptr [.i x_14]), I x_14, I (IntKind.i64.wrap (x_13 * x_14)), I (IntKind.i64.wrap (x_12 + (IntKind.i64.wrap (x_13 * x_14)))), .b (.rptr 101 ((IntKind.i64.wrap (i_5 + k_10) : Int).toNat * 1))] [0, 1, 5, 6, 7] [101] (s' := ⟨[(0, .b (.one (.sl 1 (a0.map eI)))), (1, .b (.one (.sl 1 (b0.map eI)))), (5, .b (.row 101)), (6, I i_5), (7, I k_10)], [(101, .row 3 1 ((out_9.set (IntKind.i64.wrap (i_5 + k_10) : Int).toNat (IntKind.i64.wrap (x_12 + (IntKind.i64.wrap (x_13 * x_14))))).map eI))]⟩) rfl ⟨fun _ => .p om, fun _ => .p om, fun _ => .p om, fun _ => .p (op_add rfl rfl), fun _ => .p om, fun _ => .p om, fun _ => .p om, fun _ => .p (op_add rfl rfl), fun _ => .p (op_index_r tySl70 (ix_lo e14) (ix_lt' e14) rfl rfl rfl rfl), fun _ => .p (op_load_r1 (i := (IntKind.i64.wrap (i_5 + k_10) : Int).toNat) (f := 0) tyOne3 rfl rfl rfl (ix_map (e := eI) e14) rfl), fun _ => .p om, fun _ => .p om, fun _ => .p (op_index_e tySl70 (ix_lo e15) (ix_map (e := eI) e15) rfl rfl), fun _ => .p (op_load_e1 tyOne3 rfl rfl), fun _ => .p om, fun _ => .p om, fun _ => .p (op_index_e tySl70 (ix_lo e16) (ix_map (e := eI) e16) rfl rfl), fun _ => .p (op_load_e1 tyOne3 rfl rfl), fun _ => .p (op_mul rfl rfl), fun _ => .p (op_add rfl rfl), fun _ => .p (op_index_r tySl70 (ix_lo e17) (ix_lt' e17) rfl rfl rfl rfl), trivial⟩ ⟨_, by exact .p (op_store_r1 (i := (IntKind.i64.wrap (i_5 + k_10) : Int).toNat) tyOne3 rfl rfl rfl rfl (ix_lt e17) (map_set _ _ _ _)), rfl⟩ rfl (Fin.block_normal (Fin.keepS ⟨[(0, .b (.one (.sl 1 (a0.map eI)))), (1, .b (.one (.sl 1 (b0.map eI)))), (5, .b (.row 101)), (6, I i_5), (7, I k_10)], [(101, .row 3 1 ((out_9.set (IntKind.i64.wrap (i_5 + k_10) : Int).toNat (IntKind.i64.wrap (x_12 + (IntKind.i64.wrap (x_13 * x_14))))).map eI))]⟩ rfl (Fin.then (Tri.regionL ?_))))
      refine Oc om (Oc (op_add rfl rfl) (Oc oa ?_))
      refine OpsL.nil ?_
      exact Fin.againJ [0, 1, 5, 6, 7] [101] (out_9.set (IntKind.i64.wrap (i_5 + k_10) : Int).toNat (IntKind.i64.wrap (x_12 + (IntKind.i64.wrap (x_13 * x_14)))), IntKind.i64.wrap (k_10 + 1)) (Option.some.inj h12) rfl
     ·refine Tri.exit (Fin.then_exit ?_)
      obtain rfl := hy13 _ (Option.some.inj h12).symm
      refine Fin.then_exit (Fin.block_exit ?_)
      exact Fin.join [0, 1, 5, 6] [101] out_9 rfl rfl
    ·rintro out_8 hv
     subst v9
     refine Tri.seq (Tri.regionL ?_)
     refine Oc oa (OpsL.nilS ⟨[(0, .b (.one (.sl 1 (a0.map eI)))), (1, .b (.one (.sl 1 (b0.map eI)))), (5, .b (.row 101)), (6, I i_5), (8, I 0)], [(101, .row 3 1 (out_8.map eI))]⟩ rfl (Tri.seq (Tri.regionL ?_)))
     refine Oc oa (OpsL.nilS ⟨[(0, .b (.one (.sl 1 (a0.map eI)))), (1, .b (.one (.sl 1 (b0.map eI)))), (5, .b (.row 101)), (6, I i_5), (8, I 0), (9, I 0)], [(101, .row 3 1 (out_8.map eI))]⟩ rfl (Tri.block ?_))
     obtain ⟨v18, h19, h8⟩ := bnd h8
     refine Tri.loopJ h19 (un3 fun (out_16 : List Int) (carry_17 : Int) (k_18 : Int) => ⟨[(0, .b (.one (.sl 1 (a0.map eI)))), (1, .b (.one (.sl 1 (b0.map eI)))), (5, .b (.row 101)), (6, I i_5), (8, I carry_17), (9, I k_18)], [(101, .row 3 1 (out_16.map eI))]⟩) [0, 1, 5, 6, 8, 9] [101] rfl ?_
     rintro ⟨out_16, carry_17, k_18⟩ o20 h21 hy22
     refine Tri.seq (Tri.seq (Tri.regionL ?_))
     refine Oc om (Oc om (Oc (op_len_r' und70 rfl rfl (List.length_map _)) (Oc (op_lss rfl rfl) ?_)))
     refine OpsL.nilS ⟨[(0, .b (.one (.sl 1 (a0.map eI)))), (1, .b (.one (.sl 1 (b0.map eI)))), (5, .b (.row 101)), (6, I i_5), (8, I carry_17), (9, I k_18), (54, B (decide (k_18 < (out_16.length : Int))))], [(101, .row 3 1 (out_16.map eI))]⟩ rfl (Tri.ite h21 rfl (fun _ h21 => ?_) (fun _ h21 => ?_))
     ·refine Tri.skip (Fin.keepS ⟨[(0, .b (.one (.sl 1 (a0.map eI)))), (1, .b (.one (.sl 1 (b0.map eI)))), (5, .b (.row 101)), (6, I i_5), (8, I carry_17), (9, I k_18)], [(101, .row 3 1 (out_16.map eI))]⟩ rfl (Fin.then (Tri.seq (Tri.block (Tri.seq (Tri.regionL ?_))))))
      refine Oc om (Oc om ?_)
      obtain ⟨x_20, e23, h21⟩ := bnd h21
      refine Oc (op_index_r tySl70 (ix_lo e23) (ix_lt' e23) rfl rfl rfl rfl) (Oc (op_load_r1 (i := (k_18 : Int).toNat) (f := 0) tyOne3 rfl rfl rfl (ix_map (e := eI) e23) rfl) (Oc om (Oc (op_add rfl rfl) (Oc oa ?_))))
      refine OpsL.nilS ⟨[(0, .b (.one (.sl 1 (a0.map eI)))), (1, .b (.one (.sl 1 (b0.map eI)))), (5, .b (.row 101)), (6, I i_5), (9, I k_18), (10, I (IntKind.i64.wrap (x_20 + carry_17)))], [(101, .row 3 1 (out_16.map eI))]⟩ rfl (Tri.seq (Tri.regionL ?_))
      refine Oc om (Oc om (Oc om ?_))
      refine OpsL.consI .i64 h21 rfl (op_rem (by decide) rfl rfl) (fun x_21 h21 => ?_)
      obtain ⟨x_22, e24, h21⟩ := bnd h21
      refine Oc (op_index_r tySl70 (ix_lo e24) (ix_lt' e24) rfl rfl rfl rfl) (Oc (op_store_r1 (i := (k_18 : Int).toNat) tyOne3 rfl rfl rfl rfl (ix_lt e24) (map_set _ _ _ _)) ?_)
      refine OpsL.nilS ⟨[(0, .b (.one (.sl 1 (a0.map eI)))), (1, .b (.one (.sl 1 (b0.map eI)))), (5, .b (.row 101)), (6, I i_5), (9, I k_18), (10, I (IntKind.i64.wrap (x_20 + carry_17)))], [(101, .row 3 1 ((out_16.set (k_18 : Int).toNat x_21).map eI))]⟩ rfl (Tri.regionL (Oc om ?_))
      obtain ⟨x_23, e25, h21⟩ := bnd h21
      refine Oc (op_quo2 e25 rfl rfl) (Oc oa ?_)
      refine OpsL.nil (Fin.block_normal (Fin.keepS ⟨[(0, .b (.one (.sl 1 (a0.map eI)))), (1, .b (.one (.sl 1 (b0.map eI)))), (5, .b (.row 101)), (6, I i_5), (8, I x_23), (9, I k_18)], [(101, .row 3 1 ((out_16.set (k_18 : Int).toNat x_21).map eI))]⟩ rfl (Fin.then (Tri.regionL ?_))))
      refine Oc om (Oc (op_add rfl rfl) (Oc oa ?_))
      refine OpsL.nil ?_
      exact Fin.againJ [0, 1, 5, 6, 8, 9] [101] (out_16.set (k_18 : Int).toNat x_21, x_23, IntKind.i64.wrap (k_18 + 1)) (Option.some.inj h21) rfl
     ·refine Tri.exit (Fin.then_exit ?_)
      obtain rfl := hy22 _ (Option.some.inj h21).symm
      refine Fin.then_exit (Fin.block_exit (Fin.block_normal ?_))
      exact Fin.join [0, 1, 5, 6] [101] out_16 (Option.some.inj h8) rfl
   ·rintro out_7 hv
    subst v7
    refine Tri.regionL (Oc om (Oc (op_add rfl rfl) (Oc oa ?_)))
    refine OpsL.nil ?_
    exact Fin.againJ [0, 1, 5, 6] [101] (out_7, IntKind.i64.wrap (i_5 + 1)) (Option.some.inj h5) rfl
  ·refine Tri.exit (Fin.then_exit ?_)
   obtain rfl := hy6 _ (Option.some.inj h5).symm
   refine Fin.then_exit (Fin.block_exit ?_)
   exact Fin.join [5] [101] out_4 rfl rfl
 ·rintro out_3 hv
  subst v2
  refine Tri.seq (Tri.regionL ?_)
  refine Oc om (OpsL.persist 101 rfl ?_)
  obtain ⟨x_24, e26, h⟩ := bnd h
  refine Oc (op_call0 (r3_trim_spec e26) goes119 rfl rfl) (Oc oa ?_)
  refine OpsL.nilS ⟨[(4, .b (.one (.sl 1 (x_24.map eI))))], []⟩ rfl (Tri.ret ?_)
  obtain rfl := Option.some.inj h
  refine Fin.keepS ⟨[(4, .b (.one (.sl 1 (x_24.map eI))))], []⟩ rfl (Fin.result' [.one (.sl 1 (x_24.map eI))] (.inl rfl) rfl (.cons (.tmp rfl) .nil) ⟨rfl, rfl⟩)
def r3_less_S (F : Nat) (a0 : List Int) (b0 : List Int) : Option Bool :=
 Option.bind (letN (max (a0.length : Int) (b0.length : Int)) fun x_1 => iter F (fun k_2 => if (decide (0 ≤ k_2)) = true then ((r3_digit_S F a0 k_2).bind fun x_3 => (r3_digit_S F b0 k_2).bind fun x_4 => if (decide (x_3 ≠ x_4)) = true then ((r3_digit_S F a0 k_2).bind fun x_5 => (r3_digit_S F b0 k_2).bind fun x_6 => some (.inr (.inr (decide (x_5 < x_6))))) else (some (.inl (IntKind.i64.wrap (k_2 - 1))))) else (some (.inr (.inl ())))) (IntKind.i64.wrap (x_1 - 1))) (alt2 (fun _ => some false) (fun y => some y))
theorem r3_less_spec {F : Nat} {a0 : List Int} {b0 : List Int} {r : Bool} (h : r3_less_S F a0 b0 = some r) : Meets Tryz.prog (tabs mx) 131 [] [.one (.sl 1 (a0.map eI)), .one (.sl 1 (b0.map eI))] (Is [] (.b (.one (.bool r)))) := by
 unfold r3_less_S at h
 refine Meets.intro 30 Tryz.func131 Tryz.ntmps131 rfl (by simp) fun E => ?_
 show Tri _ E ⟨30, [], []⟩ _ ⟨[(0, .b (.one (.sl 1 (a0.map eI)))), (1, .b (.one (.sl 1 (b0.map eI))))], []⟩ _
 refine Tri.seq (Tri.regionL ?_)
 refine Oc oa (OpsL.nilS ⟨[(0, .b (.one (.sl 1 (a0.map eI)))), (1, .b (.one (.sl 1 (b0.map eI))))], []⟩ rfl ?_)
 obtain ⟨v1, h2, h⟩ := bnd h
 refine Tri.seqJ (v := v1) (fun (_ : Unit) => ⟨[], []⟩) (fun z => .inl z) ?_ ?_
 ·refine Tri.seq (Tri.regionL ?_)
  refine Oc om (Oc (op_len_e' und70 rfl (List.length_map _)) (Oc om (Oc (op_len_e' und70 rfl (List.length_map _)) ?_)))
  refine OpsL.keepS ⟨[(0, .b (.one (.sl 1 (a0.map eI)))), (1, .b (.one (.sl 1 (b0.map eI)))), (7, I (a0.length : Int)), (9, I (b0.length : Int))], []⟩ rfl (OpsL.consI .i64 h2 rfl (op_max rfl rfl) (fun x_1 h2 => ?_))
  refine Oc (op_sub rfl rfl) (Oc oa ?_)
  refine OpsL.nilS ⟨[(0, .b (.one (.sl 1 (a0.map eI)))), (1, .b (.one (.sl 1 (b0.map eI)))), (5, I (IntKind.i64.wrap (x_1 - 1)))], []⟩ rfl (Tri.block (Tri.loopJ h2 (fun (k_2 : Int) => ⟨[(0, .b (.one (.sl 1 (a0.map eI)))), (1, .b (.one (.sl 1 (b0.map eI)))), (5, I k_2)], []⟩) [0, 1, 5] [] rfl ?_))
  rintro k_2 o3 h4 hy5
  refine Tri.seq (Tri.seq (Tri.regionL ?_))
  refine Oc om (Oc (op_geq rfl rfl) ?_)
  refine OpsL.nilS ⟨[(0, .b (.one (.sl 1 (a0.map eI)))), (1, .b (.one (.sl 1 (b0.map eI)))), (5, I k_2), (13, B (decide (0 ≤ k_2)))], []⟩ rfl (Tri.ite h4 rfl (fun _ h4 => ?_) (fun _ h4 => ?_))
  ·refine Tri.skip (Fin.keepS ⟨[(0, .b (.one (.sl 1 (a0.map eI)))), (1, .b (.one (.sl 1 (b0.map eI)))), (5, I k_2)], []⟩ rfl (Fin.then (Tri.seq (Tri.block (Tri.seq (Tri.regionL ?_))))))
   refine Oc om (Oc om ?_)
   obtain ⟨x_3, e6, h4⟩ := bnd h4
   refine Oc (op_call0 (r3_digit_spec e6) goes120 rfl rfl) (Oc om (Oc om ?_))
   obtain ⟨x_4, e7, h4⟩ := bnd h4
   refine Oc (op_call0 (r3_digit_spec e7) goes120 rfl rfl) (Oc (op_neq rfl rfl) ?_)
   refine OpsL.nilS ⟨[(0, .b (.one (.sl 1 (a0.map eI)))), (1, .b (.one (.sl 1 (b0.map eI)))), (5, I k_2), (22, B (decide (x_3 ≠ x_4)))], []⟩ rfl (Tri.ite h4 rfl (fun _ h4 => ?_) (fun _ h4 => ?_))
   ·refine Tri.seq (Tri.regionL ?_)
    refine Oc om (Oc om ?_)
    obtain ⟨x_5, e8, h4⟩ := bnd h4
    refine Oc (op_call0 (r3_digit_spec e8) goes120 rfl rfl) (Oc om (Oc om ?_))
    refine OpsL.keepS ⟨[(25, I x_5), (26, .b (.one (.sl 1 (b0.map eI)))), (27, I k_2)], []⟩ rfl ?_
    obtain ⟨x_6, e9, h4⟩ := bnd h4
    refine Oc (op_call0 (r3_digit_spec e9) goes120 rfl rfl) (Oc (op_lss rfl rfl) (Oc oa ?_))
    refine OpsL.nilS ⟨[(4, B (decide (x_5 < x_6)))], []⟩ rfl (Tri.ret (Fin.block_ret (Fin.then_ret ?_)))
    obtain rfl := hy5 _ (Option.some.inj h4).symm
    refine Fin.then_ret (Fin.block_ret (Fin.then_ret ?_))
    obtain rfl := Option.some.inj h
    refine Fin.keepS ⟨[(4, B (decide (x_5 < x_6)))], []⟩ rfl (Fin.result' [.one (.bool (decide (x_5 < x_6)))] (.inl rfl) rfl (.cons (.tmp rfl) .nil) ⟨rfl, rfl⟩)
   ·refine Tri.skip (Fin.block_normal (Fin.keepS ⟨[(0, .b (.one (.sl 1 (a0.map eI)))), (1, .b (.one (.sl 1 (b0.map eI)))), (5, I k_2)], []⟩ rfl (Fin.then (Tri.regionL ?_))))
    refine Oc om (Oc (op_sub rfl rfl) (Oc oa ?_))
    refine OpsL.nil ?_
    exact Fin.againJ [0, 1, 5] [] (IntKind.i64.wrap (k_2 - 1)) (Option.some.inj h4) rfl
  ·refine Tri.exit (Fin.then_exit ?_)
   obtain rfl := hy5 _ (Option.some.inj h4).symm
   refine Fin.then_exit (Fin.block_exit ?_)
   exact Fin.join [] [] () rfl rfl
 ·rintro _ hv
  subst v1
  refine Tri.seq (Tri.regionL ?_)
  refine Oc oa (OpsL.nilS ⟨[(4, B false)], []⟩ rfl (Tri.ret ?_))
  obtain rfl := Option.some.inj h
  refine Fin.keepS ⟨[(4, B false)], []⟩ rfl (Fin.result' [.one (.bool false)] (.inl rfl) rfl (.cons (.tmp rfl) .nil) ⟨rfl, rfl⟩)
def r3_minus_S (F : Nat) (a0 : List Int) (b0 : List Int) : Option (List Int) :=
 Option.bind (iter F (un3 fun out_2 borrow_3 k_4 => if (decide (k_4 < (a0.length : Int))) = true then (Option.bind ((idx? a0 k_4).bind fun x_8 => (r3_digit_S F b0 k_4).bind fun x_9 => Option.bind (letN (IntKind.i64.wrap ((IntKind.i64.wrap (x_8 - x_9)) - borrow_3)) fun x_12 => if (decide (x_12 < 0)) = true then (letN (IntKind.i64.wrap ((IntKind.i64.wrap (x_8 - x_9)) - borrow_3)) fun x_13 => some (1, IntKind.i64.wrap (x_13 + 65536))) else (some (0, IntKind.i64.wrap ((IntKind.i64.wrap (x_8 - x_9)) - borrow_3)))) (un2 fun borrow_10 n_11 => (app? out_2 [n_11]).bind fun x_14 => some (x_14, borrow_10))) (un2 fun out_6 borrow_7 => some (.inl (out_6, borrow_7, IntKind.i64.wrap (k_4 + 1))))) else (some (.inr out_2))) ([], 0, 0)) (fun out_1 => (r3_trim_S F out_1).bind fun x_15 => some x_15)
theorem r3_minus_spec {F : Nat} {a0 : List Int} {b0 : List Int} {r : (List Int)} (h : r3_minus_S F a0 b0 = some r) : Meets Tryz.prog (tabs mx) 130 [] [.one (.sl 1 (a0.map eI)), .one (.sl 1 (b0.map eI))] (Is [] (.b (.one (.sl 1 (r.map eI))))) := by
 unfold r3_minus_S at h
 refine Meets.intro 35 Tryz.func130 Tryz.ntmps130 rfl (by simp) fun E => ?_
 show Tri _ E ⟨35, [], []⟩ _ ⟨[(0, .b (.one (.sl 1 (a0.map eI)))), (1, .b (.one (.sl 1 (b0.map eI))))], []⟩ _
 refine Tri.seq (Tri.regionL ?_)
 refine Oc oa (OpsL.nilS ⟨[(0, .b (.one (.sl 1 (a0.map eI)))), (1, .b (.one (.sl 1 (b0.map eI))))], []⟩ rfl (Tri.seq (Tri.regionL ?_)))
 refine Oc oa (OpsL.nilS ⟨[(0, .b (.one (.sl 1 (a0.map eI)))), (1, .b (.one (.sl 1 (b0.map eI)))), (5, .b (.one (.nil)))], []⟩ rfl (Tri.seq (Tri.regionL ?_)))
 refine Oc oa (OpsL.nilS ⟨[(0, .b (.one (.sl 1 (a0.map eI)))), (1, .b (.one (.sl 1 (b0.map eI)))), (5, .b (.one (.nil))), (6, I 0)], []⟩ rfl ?_)
 obtain ⟨v1, h2, h⟩ := bnd h
 refine Tri.seqJ (v := v1) (fun (out_1 : List Int) => ⟨[(5, .b (.row 102))], [(102, .row 3 1 (out_1.map eI))]⟩) (fun z => z) ?_ ?_
 ·refine Tri.seq (Tri.regionL ?_)
  refine Oc oa (OpsL.nilS ⟨[(0, .b (.one (.sl 1 (a0.map eI)))), (1, .b (.one (.sl 1 (b0.map eI)))), (5, .b (.one (.nil))), (6, I 0), (7, I 0)], []⟩ rfl (Tri.block (Tri.nilrow 5 102 1 3 rfl (by decide) rfl (Tri.loopJ h2 (un3 fun (out_2 : List Int) (borrow_3 : Int) (k_4 : Int) => ⟨[(0, .b (.one (.sl 1 (a0.map eI)))), (1, .b (.one (.sl 1 (b0.map eI)))), (5, .b (.row 102)), (6, I borrow_3), (7, I k_4)], [(102, .row 3 1 (out_2.map eI))]⟩) [0, 1, 5, 6, 7] [102] rfl ?_))))
  rintro ⟨out_2, borrow_3, k_4⟩ o3 h4 hy5
  refine Tri.seq (Tri.seq (Tri.regionL ?_))
  refine Oc om (Oc om (Oc (op_len_e' und70 rfl (List.length_map _)) (Oc (op_lss rfl rfl) ?_)))
  refine OpsL.nilS ⟨[(0, .b (.one (.sl 1 (a0.map eI)))), (1, .b (.one (.sl 1 (b0.map eI)))), (5, .b (.row 102)), (6, I borrow_3), (7, I k_4), (12, B (decide (k_4 < (a0.length : Int))))], [(102, .row 3 1 (out_2.map eI))]⟩ rfl (Tri.ite h4 rfl (fun _ h4 => ?_) (fun _ h4 => ?_))
  ·refine Tri.skip (Fin.keepS ⟨[(0, .b (.one (.sl 1 (a0.map eI)))), (1, .b (.one (.sl 1 (b0.map eI)))), (5, .b (.row 102)), (6, I borrow_3), (7, I k_4)], [(102, .row 3 1 (out_2.map eI))]⟩ rfl (Fin.then ?_))
   obtain ⟨v6, h7, h4⟩ := bnd h4
   refine Tri.seqJ (v := v6) (un2 fun (out_6 : List Int) (borrow_7 : Int) => ⟨[(0, .b (.one (.sl 1 (a0.map eI)))), (1, .b (.one (.sl 1 (b0.map eI)))), (5, .b (.row 102)), (6, I borrow_7), (7, I k_4)], [(102, .row 3 1 (out_6.map eI))]⟩) (fun z => z) ?_ ?_
   ·refine Tri.block (Tri.seq ?_)
    refine Tri.keepS ⟨[(0, .b (.one (.sl 1 (a0.map eI)))), (1, .b (.one (.sl 1 (b0.map eI)))), (5, .b (.row 102)), (6, I borrow_3), (7, I k_4)], [(102, .row 3 1 (out_2.map eI))]⟩ rfl ?_
    obtain ⟨x_8, e8, h7⟩ := bnd h7
    obtain ⟨x_9, e9, h7⟩ := bnd h7
    refine Tri.regionY mixed 11 [.b (.one (.sl 1 (a0.map eI))), I k_4, .b (.eptr [.i x_8]), I x_8, .b (.one (.sl 1 (b0.map eI))), I k_4, I x_9, I (IntKind.i64.wrap (x_8 - x_9)), I borrow_3, I (IntKind.i64.wrap ((IntKind.i64.wrap (x_8 - x_9)) - borrow_3)), I (IntKind.i64.wrap ((IntKind.i64.wrap (x_8 - x_9)) - borrow_3))] [0, 1, 5, 7, 8] [102] (s' := ⟨[(0, .b (.one (.sl 1 (a0.map eI)))), (1, .b (.one (.sl 1 (b0.map eI)))), (5, .b (.row 102)), (7, I k_4), (8, I (IntKind.i64.wrap ((IntKind.i64.wrap (x_8 - x_9)) - borrow_3)))], [(102, .row 3 1 (out_2.map eI))]⟩) rfl ⟨fun _ => .p om, fun _ => .p om, fun _ => .p (op_index_e tySl70 (ix_lo e8) (ix_map (e := eI) e8) rfl rfl), fun _ => .p (op_load_e1 tyOne3 rfl rfl), fun _ => .p om, fun _ => .p om, fun _ => .p (op_call0 (r3_digit_spec e9) goes120 rfl rfl), fun _ => .p (op_sub rfl rfl), fun _ => .p om, fun _ => .p (op_sub rfl rfl), fun _ => .p oa, trivial⟩ rfl rfl (Tri.seq (Tri.regionL ?_))
    refine Oc oa (OpsL.nilS ⟨[(0, .b (.one (.sl 1 (a0.map eI)))), (1, .b (.one (.sl 1 (b0.map eI)))), (5, .b (.row 102)), (6, I 0), (7, I k_4), (8, I (IntKind.i64.wrap ((IntKind.i64.wrap (x_8 - x_9)) - borrow_3)))], [(102, .row 3 1 (out_2.map eI))]⟩ rfl ?_)
    obtain ⟨v10, h11, h7⟩ := bnd h7
    refine Tri.seqJ (v := v10) (un2 fun (borrow_10 : Int) (n_11 : Int) => ⟨[(0, .b (.one (.sl 1 (a0.map eI)))), (1, .b (.one (.sl 1 (b0.map eI)))), (5, .b (.row 102)), (6, I borrow_10), (7, I k_4), (8, I n_11)], [(102, .row 3 1 (out_2.map eI))]⟩) (fun z => z) ?_ ?_
    ·refine Tri.seq (Tri.regionL ?_)
     refine OpsL.consI .i64 h11 rfl om (fun x_12 h11 => ?_)
     refine Oc (op_lss rfl rfl) (OpsL.nilS ⟨[(0, .b (.one (.sl 1 (a0.map eI)))), (1, .b (.one (.sl 1 (b0.map eI)))), (5, .b (.row 102)), (6, I 0), (7, I k_4), (8, I (IntKind.i64.wrap ((IntKind.i64.wrap (x_8 - x_9)) - borrow_3))), (26, B (decide (x_12 < 0)))], [(102, .row 3 1 (out_2.map eI))]⟩ rfl (Tri.ite h11 rfl (fun _ h11 => ?_) (fun _ h11 => ?_)))
     ·refine Tri.seq (Tri.regionL ?_)
      refine OpsL.consI .i64 h11 rfl om (fun x_13 h11 => ?_)
      refine Oc (op_add rfl rfl) (Oc oa ?_)
      refine OpsL.nilS ⟨[(0, .b (.one (.sl 1 (a0.map eI)))), (1, .b (.one (.sl 1 (b0.map eI)))), (5, .b (.row 102)), (7, I k_4), (8, I (IntKind.i64.wrap (x_13 + 65536)))], [(102, .row 3 1 (out_2.map eI))]⟩ rfl (Tri.regionL (Oc oa (OpsL.nil ?_)))
      exact Fin.join [0, 1, 5, 6, 7, 8] [102] (1, IntKind.i64.wrap (x_13 + 65536)) (Option.some.inj h11) rfl
     ·refine Tri.skip ?_
      exact Fin.join [0, 1, 5, 6, 7, 8] [102] (0, IntKind.i64.wrap ((IntKind.i64.wrap (x_8 - x_9)) - borrow_3)) (Option.some.inj h11) rfl
    ·rintro ⟨borrow_10, n_11⟩ hv
     subst v10
     refine Tri.regionL (Oc om (Oc om (Oc (op_buildSlice (k := 103) (es := [n_11].map eI) tySl70 rfl rfl (uni_map fun _ => rfl) rfl (by decide) (by decide) rfl) ?_)))
     obtain ⟨x_14, e12, h7⟩ := bnd h7
     refine Oc (op_append_r tySl70 (app_b e12) (app_m e12) rfl rfl rfl rfl (app_map e12) rfl) (Oc oa ?_)
     refine OpsL.nil (Fin.block_normal ?_)
     exact Fin.join [0, 1, 5, 6, 7] [102] (x_14, borrow_10) (Option.some.inj h7) rfl
   ·rintro ⟨out_6, borrow_7⟩ hv
    subst v6
    refine Tri.regionL (Oc om (Oc (op_add rfl rfl) (Oc oa ?_)))
    refine OpsL.nil ?_
    exact Fin.againJ [0, 1, 5, 6, 7] [102] (out_6, borrow_7, IntKind.i64.wrap (k_4 + 1)) (Option.some.inj h4) rfl
  ·refine Tri.exit (Fin.then_exit ?_)
   obtain rfl := hy5 _ (Option.some.inj h4).symm
   refine Fin.then_exit (Fin.block_exit ?_)
   exact Fin.join [5] [102] out_2 rfl rfl
 ·rintro out_1 hv
  subst v1
  refine Tri.seq (Tri.regionL ?_)
  refine Oc om (OpsL.persist 102 rfl ?_)
  obtain ⟨x_15, e13, h⟩ := bnd h
  refine Oc (op_call0 (r3_trim_spec e13) goes119 rfl rfl) (Oc oa ?_)
  refine OpsL.nilS ⟨[(4, .b (.one (.sl 1 (x_15.map eI))))], []⟩ rfl (Tri.ret ?_)
  obtain rfl := Option.some.inj h
  refine Fin.keepS ⟨[(4, .b (.one (.sl 1 (x_15.map eI))))], []⟩ rfl (Fin.result' [.one (.sl 1 (x_15.map eI))] (.inl rfl) rfl (.cons (.tmp rfl) .nil) ⟨rfl, rfl⟩)
def r3_divide_S (F : Nat) (a0 : List Int) (b0 : List Int) : Option ((List Int) × (List Int)) :=
 Option.bind (mk? (0 : Int) (a0.length : Int) (a0.length : Int)) (fun x_1 => (idx? b0 (IntKind.i64.wrap ((b0.length : Int) - 1))).bind fun x_2 => (r3_at_S F b0 (IntKind.i64.wrap ((b0.length : Int) - 2))).bind fun x_3 => Option.bind (letN (IntKind.i64.wrap ((a0.length : Int) - 1)) fun x_6 => iter F (un3 fun q_7 r_8 k_9 => if (decide (0 ≤ k_9)) = true then (Option.bind ((idx? a0 k_9).bind fun x_14 => (app? [x_14] r_8).bind fun x_15 => (r3_trim_S F x_15).bind fun x_16 => (r3_at_S F x_16 (b0.length : Int)).bind fun x_17 => letN (IntKind.i64.wrap ((b0.length : Int) - 1)) fun x_18 => (r3_at_S F x_16 x_18).bind fun x_19 => letN (IntKind.i64.wrap ((IntKind.i64.wrap (x_17 * 4294967296)) + (IntKind.i64.wrap (x_19 * 65536)))) fun x_20 => letN (IntKind.i64.wrap ((b0.length : Int) - 2)) fun x_21 => (r3_at_S F x_16 x_21).bind fun x_22 => letN (IntKind.i64.wrap ((IntKind.i64.wrap (x_2 * 65536)) + x_3)) fun x_23 => (quo? .i64 (IntKind.i64.wrap (x_20 + x_22)) x_23).bind fun x_24 => (r3_times_S F b0 [min 65535 x_24]).bind fun x_25 => Option.bind (iter F (un2 fun d_28 part_29 => (r3_less_S F x_16 part_29).bind fun x_32 => if x_32 = true then ((r3_minus_S F part_29 b0).bind fun x_33 => some (.inl (IntKind.i64.wrap (d_28 - 1), x_33))) else (some (.inr (d_28, part_29)))) (min 65535 x_24, x_25)) (un2 fun d_26 part_27 => (idx? q_7 k_9).bind fun x_34 => (r3_minus_S F x_16 part_27).bind fun x_35 => some (q_7.set (k_9 : Int).toNat d_26, x_35))) (un2 fun q_12 r_13 => some (.inl (q_12, r_13, IntKind.i64.wrap (k_9 - 1))))) else (some (.inr (q_7, r_8)))) (x_1, [], x_6)) (un2 fun q_4 r_5 => (r3_trim_S F q_4).bind fun x_36 => some (x_36, r_5)))
theorem r3_divide_spec {F : Nat} {a0 : List Int} {b0 : List Int} {r : (List Int) × (List Int)} (h : r3_divide_S F a0 b0 = some r) : Meets Tryz.prog (tabs mx) 121 [] [.one (.sl 1 (a0.map eI)), .one (.sl 1 (b0.map eI))] (Is [] (.tup [.one (.sl 1 (r.1.map eI)), .one (.sl 1 (r.2.map eI))])) := by
 unfold r3_divide_S at h
 refine Meets.intro 84 Tryz.func121 Tryz.ntmps121 rfl (by simp) fun E => ?_
 show Tri _ E ⟨84, [], []⟩ _ ⟨[(0, .b (.one (.sl 1 (a0.map eI)))), (1, .b (.one (.sl 1 (b0.map eI))))], []⟩ _
 refine Tri.seq (Tri.regionL ?_)
 refine Oc oa (Oc oa ?_)
 refine OpsL.nilS ⟨[(0, .b (.one (.sl 1 (a0.map eI)))), (1, .b (.one (.sl 1 (b0.map eI))))], []⟩ rfl (Tri.seq (Tri.regionL ?_))
 refine Oc om (Oc (op_len_e' und70 rfl (List.length_map _)) ?_)
 obtain ⟨x_1, e1, h⟩ := bnd h
 refine Oc (op_makeSlice (k := 101) (enc := eI) tySl70 e1 (by decide) (.cons .refl .nil) rfl rfl rfl) (Oc oa ?_)
 refine OpsL.nilS ⟨[(0, .b (.one (.sl 1 (a0.map eI)))), (1, .b (.one (.sl 1 (b0.map eI)))), (6, .b (.row 101))], [(101, .row 3 1 (x_1.map eI))]⟩ rfl (Tri.seq (Tri.regionL ?_))
 refine Oc om (Oc (op_len_e' und70 rfl (List.length_map _)) (Oc oa ?_))
 refine OpsL.nilS ⟨[(0, .b (.one (.sl 1 (a0.map eI)))), (1, .b (.one (.sl 1 (b0.map eI)))), (6, .b (.row 101)), (7, I (b0.length : Int))], [(101, .row 3 1 (x_1.map eI))]⟩ rfl (Tri.seq ?_)
 obtain ⟨x_2, e2, h⟩ := bnd h
 obtain ⟨x_3, e3, h⟩ := bnd h
 refine Tri.regionY mixed 12 [.b (.one (.sl 1 (b0.map eI))), I (b0.length : Int), I (IntKind.i64.wrap ((b0.length : Int) - 1)), .b (.eptr [.i x_2]), I x_2, I (IntKind.i64.wrap (x_2 * 65536)), .b (.one (.sl 1 (b0.map eI))), I (b0.length : Int), I (IntKind.i64.wrap ((b0.length : Int) - 2)), I x_3, I (IntKind.i64.wrap ((IntKind.i64.wrap (x_2 * 65536)) + x_3)), I (IntKind.i64.wrap ((IntKind.i64.wrap (x_2 * 65536)) + x_3))] [0, 1, 6, 7, 8] [101] (s' := ⟨[(0, .b (.one (.sl 1 (a0.map eI)))), (1, .b (.one (.sl 1 (b0.map eI)))), (6, .b (.row 101)), (7, I (b0.length : Int)), (8, I (IntKind.i64.wrap ((IntKind.i64.wrap (x_2 * 65536)) + x_3)))], [(101, .row 3 1 (x_1.map eI))]⟩) rfl ⟨fun _ => .p om, fun _ => .p om, fun _ => .p (op_sub rfl rfl), fun _ => .p (op_index_e tySl70 (ix_lo e2) (ix_map (e := eI) e2) rfl rfl), fun _ => .p (op_load_e1 tyOne3 rfl rfl), fun _ => .p (op_mul rfl rfl), fun _ => .p om, fun _ => .p om, fun _ => .p (op_sub rfl rfl), fun _ => .p (op_call0 (r3_at_spec e3) goes144 rfl rfl), fun _ => .p (op_add rfl rfl), fun _ => .p oa, trivial⟩ rfl rfl (Tri.seq (Tri.regionL ?_))
 refine Oc oa (OpsL.nilS ⟨[(0, .b (.one (.sl 1 (a0.map eI)))), (1, .b (.one (.sl 1 (b0.map eI)))), (6, .b (.row 101)), (7, I (b0.length : Int)), (8, I (IntKind.i64.wrap ((IntKind.i64.wrap (x_2 * 65536)) + x_3))), (9, .b (.one (.nil)))], [(101, .row 3 1 (x_1.map eI))]⟩ rfl ?_)
 obtain ⟨v4, h5, h⟩ := bnd h
 refine Tri.seqJ (v := v4) (un2 fun (q_4 : List Int) (r_5 : List Int) => ⟨[(6, .b (.row 101)), (9, .b (.one (.sl 1 (r_5.map eI))))], [(101, .row 3 1 (q_4.map eI))]⟩) (fun z => z) ?_ ?_
 ·refine Tri.seq (Tri.regionL ?_)
  refine Oc om (Oc (op_len_e' und70 rfl (List.length_map _)) ?_)
  refine OpsL.consI .i64 h5 rfl (op_sub rfl rfl) (fun x_6 h5 => ?_)
  refine Oc oa (OpsL.nilS ⟨[(0, .b (.one (.sl 1 (a0.map eI)))), (1, .b (.one (.sl 1 (b0.map eI)))), (6, .b (.row 101)), (7, I (b0.length : Int)), (8, I (IntKind.i64.wrap ((IntKind.i64.wrap (x_2 * 65536)) + x_3))), (9, .b (.one (.nil))), (10, I x_6)], [(101, .row 3 1 (x_1.map eI))]⟩ rfl (Tri.block (Tri.nilsl 9 1 rfl (by decide) (Tri.loopJ h5 (un3 fun (q_7 : List Int) (r_8 : List Int) (k_9 : Int) => ⟨[(0, .b (.one (.sl 1 (a0.map eI)))), (1, .b (.one (.sl 1 (b0.map eI)))), (6, .b (.row 101)), (7, I (b0.length : Int)), (8, I (IntKind.i64.wrap ((IntKind.i64.wrap (x_2 * 65536)) + x_3))), (9, .b (.one (.sl 1 (r_8.map eI)))), (10, I k_9)], [(101, .row 3 1 (q_7.map eI))]⟩) [0, 1, 6, 7, 8, 9, 10] [101] rfl ?_))))
  rintro ⟨q_7, r_8, k_9⟩ o6 h7 hy8
  refine Tri.seq (Tri.seq (Tri.regionL ?_))
  refine Oc om (Oc (op_geq rfl rfl) ?_)
  refine OpsL.nilS ⟨[(0, .b (.one (.sl 1 (a0.map eI)))), (1, .b (.one (.sl 1 (b0.map eI)))), (6, .b (.row 101)), (7, I (b0.length : Int)), (8, I (IntKind.i64.wrap ((IntKind.i64.wrap (x_2 * 65536)) + x_3))), (9, .b (.one (.sl 1 (r_8.map eI)))), (10, I k_9), (33, B (decide (0 ≤ k_9)))], [(101, .row 3 1 (q_7.map eI))]⟩ rfl (Tri.ite h7 rfl (fun _ h7 => ?_) (fun _ h7 => ?_))
  ·refine Tri.skip (Fin.keepS ⟨[(0, .b (.one (.sl 1 (a0.map eI)))), (1, .b (.one (.sl 1 (b0.map eI)))), (6, .b (.row 101)), (7, I (b0.length : Int)), (8, I (IntKind.i64.wrap ((IntKind.i64.wrap (x_2 * 65536)) + x_3))), (9, .b (.one (.sl 1 (r_8.map eI)))), (10, I k_9)], [(101, .row 3 1 (q_7.map eI))]⟩ rfl (Fin.then ?_))
   obtain ⟨v9, h10, h7⟩ := bnd h7
   refine Tri.seqJ (v := v9) (un2 fun (q_12 : List Int) (r_13 : List Int) => ⟨[(0, .b (.one (.sl 1 (a0.map eI)))), (1, .b (.one (.sl 1 (b0.map eI)))), (6, .b (.row 101)), (7, I (b0.length : Int)), (8, I (IntKind.i64.wrap ((IntKind.i64.wrap (x_2 * 65536)) + x_3))), (9, .b (.one (.sl 1 (r_13.map eI)))), (10, I k_9)], [(101, .row 3 1 (q_12.map eI))]⟩) (fun z => z) ?_ ?_
   ·refine Tri.block (Tri.seq (Tri.regionL ?_))
    refine Oc om (Oc om ?_)
    obtain ⟨x_14, e11, h10⟩ := bnd h10
    refine Oc (op_index_e tySl70 (ix_lo e11) (ix_map (e := eI) e11) rfl rfl) (Oc (op_load_e1 tyOne3 rfl rfl) (Oc (op_buildSlice (k := 102) (es := [x_14].map eI) tySl70 rfl rfl (uni_map fun _ => rfl) rfl (by decide) (by decide) rfl) (Oc om ?_)))
    refine OpsL.keepS ⟨[(0, .b (.one (.sl 1 (a0.map eI)))), (1, .b (.one (.sl 1 (b0.map eI)))), (6, .b (.row 101)), (7, I (b0.length : Int)), (8, I (IntKind.i64.wrap ((IntKind.i64.wrap (x_2 * 65536)) + x_3))), (9, .b (.one (.sl 1 (r_8.map eI)))), (10, I k_9), (40, .b (.row 102)), (41, .b (.one (.sl 1 (r_8.map eI))))], [(101, .row 3 1 (q_7.map eI)), (102, .row 3 1 ([x_14].map eI))]⟩ rfl ?_
    obtain ⟨x_15, e12, h10⟩ := bnd h10
    refine Oc (op_append tySl70 (app_b e12) (app_m e12) rfl rfl rfl (app_map e12) rfl) (OpsL.persist 102 rfl ?_)
    obtain ⟨x_16, e13, h10⟩ := bnd h10
    refine Oc (op_call0 (r3_trim_spec e13) goes119 rfl rfl) (Oc oa ?_)
    refine OpsL.nilS ⟨[(0, .b (.one (.sl 1 (a0.map eI)))), (1, .b (.one (.sl 1 (b0.map eI)))), (6, .b (.row 101)), (7, I (b0.length : Int)), (8, I (IntKind.i64.wrap ((IntKind.i64.wrap (x_2 * 65536)) + x_3))), (9, .b (.one (.sl 1 (x_16.map eI)))), (10, I k_9)], [(101, .row 3 1 (q_7.map eI))]⟩ rfl (Tri.seq (Tri.regionL ?_))
    refine Oc om (Oc om ?_)
    obtain ⟨x_17, e14, h10⟩ := bnd h10
    refine Oc (op_call0 (r3_at_spec e14) goes144 rfl rfl) (Oc (op_mul rfl rfl) (Oc om ?_))
    refine OpsL.keepS ⟨[(0, .b (.one (.sl 1 (a0.map eI)))), (1, .b (.one (.sl 1 (b0.map eI)))), (6, .b (.row 101)), (7, I (b0.length : Int)), (8, I (IntKind.i64.wrap ((IntKind.i64.wrap (x_2 * 65536)) + x_3))), (9, .b (.one (.sl 1 (x_16.map eI)))), (10, I k_9), (47, I (IntKind.i64.wrap (x_17 * 4294967296))), (48, .b (.one (.sl 1 (x_16.map eI))))], [(101, .row 3 1 (q_7.map eI))]⟩ rfl (Oc om (OpsL.consI .i64 h10 rfl (op_sub rfl rfl) (fun x_18 h10 => ?_)))
    obtain ⟨x_19, e15, h10⟩ := bnd h10
    refine Oc (op_call0 (r3_at_spec e15) goes144 rfl rfl) (Oc (op_mul rfl rfl) ?_)
    refine OpsL.consI .i64 h10 rfl (op_add rfl rfl) (fun x_20 h10 => ?_)
    refine Oc om (OpsL.keepS ⟨[(0, .b (.one (.sl 1 (a0.map eI)))), (1, .b (.one (.sl 1 (b0.map eI)))), (6, .b (.row 101)), (7, I (b0.length : Int)), (8, I (IntKind.i64.wrap ((IntKind.i64.wrap (x_2 * 65536)) + x_3))), (9, .b (.one (.sl 1 (x_16.map eI)))), (10, I k_9), (53, I x_20), (54, .b (.one (.sl 1 (x_16.map eI))))], [(101, .row 3 1 (q_7.map eI))]⟩ rfl (Oc om (OpsL.consI .i64 h10 rfl (op_sub rfl rfl) (fun x_21 h10 => ?_))))
    obtain ⟨x_22, e16, h10⟩ := bnd h10
    refine Oc (op_call0 (r3_at_spec e16) goes144 rfl rfl) (Oc (op_add rfl rfl) ?_)
    refine OpsL.consI .i64 h10 rfl om (fun x_23 h10 => ?_)
    obtain ⟨x_24, e17, h10⟩ := bnd h10
    refine Oc (op_quo2 e17 rfl rfl) (Oc (op_min rfl rfl) (Oc oa ?_))
    refine OpsL.nilS ⟨[(0, .b (.one (.sl 1 (a0.map eI)))), (1, .b (.one (.sl 1 (b0.map eI)))), (6, .b (.row 101)), (7, I (b0.length : Int)), (8, I (IntKind.i64.wrap ((IntKind.i64.wrap (x_2 * 65536)) + x_3))), (9, .b (.one (.sl 1 (x_16.map eI)))), (10, I k_9), (11, I (min 65535 x_24))], [(101, .row 3 1 (q_7.map eI))]⟩ rfl (Tri.seq (Tri.regionL ?_))
    refine Oc om (Oc om (Oc (op_buildSlice (k := 103) (es := [min 65535 x_24].map eI) tySl70 rfl rfl (uni_map fun _ => rfl) rfl (by decide) (by decide) rfl) ?_))
    refine OpsL.persist 103 rfl ?_
    obtain ⟨x_25, e18, h10⟩ := bnd h10
    refine Oc (op_call0 (r3_times_spec e18) goes84 rfl rfl) (Oc oa ?_)
    refine OpsL.nilS ⟨[(0, .b (.one (.sl 1 (a0.map eI)))), (1, .b (.one (.sl 1 (b0.map eI)))), (6, .b (.row 101)), (7, I (b0.length : Int)), (8, I (IntKind.i64.wrap ((IntKind.i64.wrap (x_2 * 65536)) + x_3))), (9, .b (.one (.sl 1 (x_16.map eI)))), (10, I k_9), (11, I (min 65535 x_24)), (12, .b (.one (.sl 1 (x_25.map eI))))], [(101, .row 3 1 (q_7.map eI))]⟩ rfl ?_
    obtain ⟨v19, h20, h10⟩ := bnd h10
    refine Tri.seqJ (v := v19) (un2 fun (d_26 : Int) (part_27 : List Int) => ⟨[(0, .b (.one (.sl 1 (a0.map eI)))), (1, .b (.one (.sl 1 (b0.map eI)))), (6, .b (.row 101)), (7, I (b0.length : Int)), (8, I (IntKind.i64.wrap ((IntKind.i64.wrap (x_2 * 65536)) + x_3))), (9, .b (.one (.sl 1 (x_16.map eI)))), (10, I k_9), (11, I d_26), (12, .b (.one (.sl 1 (part_27.map eI))))], [(101, .row 3 1 (q_7.map eI))]⟩) (fun z => z) ?_ ?_
    ·refine Tri.block (Tri.loopJ h20 (un2 fun (d_28 : Int) (part_29 : List Int) => ⟨[(0, .b (.one (.sl 1 (a0.map eI)))), (1, .b (.one (.sl 1 (b0.map eI)))), (6, .b (.row 101)), (7, I (b0.length : Int)), (8, I (IntKind.i64.wrap ((IntKind.i64.wrap (x_2 * 65536)) + x_3))), (9, .b (.one (.sl 1 (x_16.map eI)))), (10, I k_9), (11, I d_28), (12, .b (.one (.sl 1 (part_29.map eI))))], [(101, .row 3 1 (q_7.map eI))]⟩) [0, 1, 6, 7, 8, 9, 10, 11, 12] [101] rfl ?_)
     rintro ⟨d_28, part_29⟩ o21 h22 hy23
     refine Tri.seq (Tri.seq (Tri.regionL ?_))
     refine Oc om (Oc om ?_)
     obtain ⟨x_32, e24, h22⟩ := bnd h22
     refine Oc (op_call0 (r3_less_spec e24) goes131 rfl rfl) (OpsL.nilS ⟨[(0, .b (.one (.sl 1 (a0.map eI)))), (1, .b (.one (.sl 1 (b0.map eI)))), (6, .b (.row 101)), (7, I (b0.length : Int)), (8, I (IntKind.i64.wrap ((IntKind.i64.wrap (x_2 * 65536)) + x_3))), (9, .b (.one (.sl 1 (x_16.map eI)))), (10, I k_9), (11, I d_28), (12, .b (.one (.sl 1 (part_29.map eI)))), (68, B x_32)], [(101, .row 3 1 (q_7.map eI))]⟩ rfl (Tri.ite h22 rfl (fun _ h22 => ?_) (fun _ h22 => ?_)))
     ·refine Tri.skip (Fin.keepS ⟨[(0, .b (.one (.sl 1 (a0.map eI)))), (1, .b (.one (.sl 1 (b0.map eI)))), (6, .b (.row 101)), (7, I (b0.length : Int)), (8, I (IntKind.i64.wrap ((IntKind.i64.wrap (x_2 * 65536)) + x_3))), (9, .b (.one (.sl 1 (x_16.map eI)))), (10, I k_9), (11, I d_28), (12, .b (.one (.sl 1 (part_29.map eI))))], [(101, .row 3 1 (q_7.map eI))]⟩ rfl (Fin.then (Tri.block (Tri.seq (Tri.regionL ?_)))))
      refine Oc om (Oc (op_sub rfl rfl) (Oc oa ?_))
      refine OpsL.nilS ⟨[(0, .b (.one (.sl 1 (a0.map eI)))), (1, .b (.one (.sl 1 (b0.map eI)))), (6, .b (.row 101)), (7, I (b0.length : Int)), (8, I (IntKind.i64.wrap ((IntKind.i64.wrap (x_2 * 65536)) + x_3))), (9, .b (.one (.sl 1 (x_16.map eI)))), (10, I k_9), (11, I (IntKind.i64.wrap (d_28 - 1))), (12, .b (.one (.sl 1 (part_29.map eI))))], [(101, .row 3 1 (q_7.map eI))]⟩ rfl (Tri.regionL (Oc om (Oc om ?_)))
      obtain ⟨x_33, e25, h22⟩ := bnd h22
      refine Oc (op_call0 (r3_minus_spec e25) goes130 rfl rfl) (Oc oa ?_)
      refine OpsL.nil (Fin.block_normal ?_)
      exact Fin.againJ [0, 1, 6, 7, 8, 9, 10, 11, 12] [101] (IntKind.i64.wrap (d_28 - 1), x_33) (Option.some.inj h22) rfl
     ·refine Tri.exit (Fin.then_exit ?_)
      obtain rfl := hy23 _ (Option.some.inj h22).symm
      refine Fin.then_exit (Fin.block_exit ?_)
      exact Fin.join [0, 1, 6, 7, 8, 9, 10, 11, 12] [101] (d_28, part_29) rfl rfl
    ·rintro ⟨d_26, part_27⟩ hv
     subst v19
     refine Tri.seq (Tri.regionL ?_)
     refine Oc om (Oc om (Oc om ?_))
     obtain ⟨x_34, e26, h10⟩ := bnd h10
     refine Oc (op_index_r tySl70 (ix_lo e26) (ix_lt' e26) rfl rfl rfl rfl) (Oc (op_store_r1 (i := (k_9 : Int).toNat) tyOne3 rfl rfl rfl rfl (ix_lt e26) (map_set _ _ _ _)) ?_)
     refine OpsL.nilS ⟨[(0, .b (.one (.sl 1 (a0.map eI)))), (1, .b (.one (.sl 1 (b0.map eI)))), (6, .b (.row 101)), (7, I (b0.length : Int)), (8, I (IntKind.i64.wrap ((IntKind.i64.wrap (x_2 * 65536)) + x_3))), (9, .b (.one (.sl 1 (x_16.map eI)))), (10, I k_9), (12, .b (.one (.sl 1 (part_27.map eI))))], [(101, .row 3 1 ((q_7.set (k_9 : Int).toNat d_26).map eI))]⟩ rfl (Tri.regionL (Oc om (Oc om ?_)))
     obtain ⟨x_35, e27, h10⟩ := bnd h10
     refine Oc (op_call0 (r3_minus_spec e27) goes130 rfl rfl) (Oc oa ?_)
     refine OpsL.nil (Fin.block_normal ?_)
     exact Fin.join [0, 1, 6, 7, 8, 9, 10] [101] (q_7.set (k_9 : Int).toNat d_26, x_35) (Option.some.inj h10) rfl
   ·rintro ⟨q_12, r_13⟩ hv
    subst v9
    refine Tri.regionL (Oc om (Oc (op_sub rfl rfl) (Oc oa ?_)))
    refine OpsL.nil ?_
    exact Fin.againJ [0, 1, 6, 7, 8, 9, 10] [101] (q_12, r_13, IntKind.i64.wrap (k_9 - 1)) (Option.some.inj h7) rfl
  ·refine Tri.exit (Fin.then_exit ?_)
   obtain rfl := hy8 _ (Option.some.inj h7).symm
   refine Fin.then_exit (Fin.block_exit ?_)
   exact Fin.join [6, 9] [101] (q_7, r_8) rfl rfl
 ·rintro ⟨q_4, r_5⟩ hv
  subst v4
  refine Tri.seq (Tri.regionL ?_)
  refine Oc om (OpsL.persist 101 rfl ?_)
  obtain ⟨x_36, e28, h⟩ := bnd h
  refine Oc (op_call0 (r3_trim_spec e28) goes119 rfl rfl) (Oc om (Oc oa (Oc oa ?_)))
  refine OpsL.nilS ⟨[(4, .b (.one (.sl 1 (x_36.map eI)))), (5, .b (.one (.sl 1 (r_5.map eI))))], []⟩ rfl (Tri.ret ?_)
  obtain rfl := Option.some.inj h
  refine Fin.keepS ⟨[(4, .b (.one (.sl 1 (x_36.map eI)))), (5, .b (.one (.sl 1 (r_5.map eI))))], []⟩ rfl (Fin.result' [.one (.sl 1 (x_36.map eI)), .one (.sl 1 (r_5.map eI))] (.inl rfl) rfl (.cons (.tmp rfl) (.cons (.tmp rfl) .nil)) ⟨rfl, rfl⟩)
def r3_Gcd_S (F : Nat) (a0 : Big) (b0 : Big) : Option Big :=
 Option.bind (r3_word_S F a0) (un2 fun x_1 x_2 => Option.bind (r3_word_S F b0) (un2 fun x_3 x_4 => Option.bind (if (x_2 && x_4) = true then (Option.bind (iter F (un2 fun n_6 m_7 => if (decide (m_7 ≠ 0)) = true then ((rem? n_6 m_7).bind fun x_9 => some (.inl (m_7, x_9))) else (some (.inr n_6))) (x_1, x_3)) (fun n_5 => (r3_Of_S F n_5).bind fun x_10 => (r3_Abs_S F x_10).bind fun x_11 => some (.inr x_11))) else (some (.inl ()))) (alt2 (fun _ => (r3_Good_S F a0).bind fun x_12 => (gcall (!(!x_12)) (r3_Good_S F b0)).bind fun x_13 => if ((!x_12) || (!x_13)) = true then ((r3_Bad_S F).bind fun x_14 => some x_14) else ((r3_digits_S F a0).bind fun x_15 => (r3_digits_S F b0).bind fun x_16 => Option.bind (iter F (un2 fun x_18 y_19 => if (decide (0 < (y_19.length : Int))) = true then (Option.bind (r3_divide_S F x_18 y_19) (un2 fun x_21 x_22 => some (.inl (y_19, x_22)))) else (some (.inr x_18))) (x_15, x_16)) (fun x_17 => (r3_number_S F false x_17).bind fun x_23 => some x_23))) (fun y => some y))))
theorem r3_Gcd_spec {F : Nat} {a0 : Big} {b0 : Big} {r : Big} (h : r3_Gcd_S F a0 b0 = some r) : Meets Tryz.prog (tabs mx) 79 [] [.agg (eBig a0), .agg (eBig b0)] (Is [] (.b (.agg (eBig r)))) := by
 unfold r3_Gcd_S at h
 refine Meets.intro 64 Tryz.func79 Tryz.ntmps79 rfl (by simp) fun E => ?_
 show Tri _ E ⟨64, [], []⟩ _ ⟨[(0, .b (.agg (eBig a0))), (1, .b (.agg (eBig b0)))], []⟩ _
 refine Tri.seq (Tri.regionL ?_)
 refine Oc (op_box (k := 101) rfl rfl) (Oc (op_box (k := 102) rfl rfl) (Oc (op_alloc (k := 103) tyZero25 rfl) ?_))
 refine OpsL.nilS ⟨[(2, Pt 101 0), (3, Pt 102 0), (4, Pt 103 0)], [(101, .box 25 (eBig a0)), (102, .box 25 (eBig b0)), (103, .box 25 zBig)]⟩ rfl (Tri.seq (Tri.regionL ?_))
 refine Oc (lp tyAgg25) ?_
 obtain ⟨⟨x_1, x_2⟩, e1, h⟩ := bnd h
 refine Oc (op_call0 (r3_word_spec e1) goes81 rfl rfl) (Oc om (Oc (op_extract rfl rfl) (Oc (op_extract rfl rfl) (Oc oa (Oc oa ?_)))))
 refine OpsL.nilS ⟨[(2, Pt 101 0), (3, Pt 102 0), (4, Pt 103 0), (5, I x_1), (6, B x_2)], [(101, .box 25 (eBig a0)), (102, .box 25 (eBig b0)), (103, .box 25 zBig)]⟩ rfl (Tri.seq (Tri.regionL ?_))
 refine Oc (lp tyAgg25) ?_
 obtain ⟨⟨x_3, x_4⟩, e2, h⟩ := bnd h
 refine Oc (op_call0 (r3_word_spec e2) goes81 rfl rfl) (Oc om (Oc (op_extract rfl rfl) (Oc (op_extract rfl rfl) (Oc oa (Oc oa ?_)))))
 refine OpsL.nilS ⟨[(2, Pt 101 0), (3, Pt 102 0), (4, Pt 103 0), (5, I x_1), (6, B x_2), (7, I x_3), (8, B x_4)], [(101, .box 25 (eBig a0)), (102, .box 25 (eBig b0)), (103, .box 25 zBig)]⟩ rfl ?_
 obtain ⟨v3, h4, h⟩ := bnd h
 refine Tri.seqJ (v := v3) (fun (_ : Unit) => ⟨[(2, Pt 101 0), (3, Pt 102 0), (4, Pt 103 0)], [(101, .box 25 (eBig a0)), (102, .box 25 (eBig b0)), (103, .box 25 zBig)]⟩) (fun z => .inl z) ?_ ?_
 ·refine Tri.seq (Tri.regionL ?_)
  refine Oc om (Oc om ?_)
  refine CgT x_2 [] (fun g5 => trivial) (fun g5 => om) (Oc (op_pick_and (fun e => e) rfl rfl rfl rfl) (OpsL.nilS ⟨[(2, Pt 101 0), (3, Pt 102 0), (4, Pt 103 0), (5, I x_1), (7, I x_3), (27, B (x_2 && x_4))], [(101, .box 25 (eBig a0)), (102, .box 25 (eBig b0)), (103, .box 25 zBig)]⟩ rfl (Tri.ite h4 rfl (fun _ h4 => ?_) (fun _ h4 => ?_))))
  ·obtain ⟨v6, h7, h4⟩ := bnd h4
   refine Tri.seqJ (v := v6) (fun (n_5 : Int) => ⟨[(4, Pt 103 0), (5, I n_5)], [(103, .box 25 zBig)]⟩) (fun z => z) ?_ ?_
   ·refine Tri.block (Tri.loopJ h7 (un2 fun (n_6 : Int) (m_7 : Int) => ⟨[(4, Pt 103 0), (5, I n_6), (7, I m_7)], [(103, .box 25 zBig)]⟩) [4, 5, 7] [103] rfl ?_)
    rintro ⟨n_6, m_7⟩ o8 h9 hy10
    refine Tri.seq (Tri.seq (Tri.regionL ?_))
    refine Oc om (Oc (op_neq rfl rfl) ?_)
    refine OpsL.nilS ⟨[(4, Pt 103 0), (5, I n_6), (7, I m_7), (29, B (decide (m_7 ≠ 0)))], [(103, .box 25 zBig)]⟩ rfl (Tri.ite h9 rfl (fun _ h9 => ?_) (fun _ h9 => ?_))
    ·refine Tri.skip (Fin.keepS ⟨[(4, Pt 103 0), (5, I n_6), (7, I m_7)], [(103, .box 25 zBig)]⟩ rfl (Fin.then (Tri.block (Tri.seq (Tri.regionL ?_)))))
     refine Oc om (Oc om ?_)
     obtain ⟨x_9, e11, h9⟩ := bnd h9
     refine Oc (op_rem2 e11 rfl rfl) (Oc oa ?_)
     refine OpsL.nilS ⟨[(4, Pt 103 0), (7, I m_7), (9, I x_9)], [(103, .box 25 zBig)]⟩ rfl (Tri.seq (Tri.regionL ?_))
     refine Oc om (Oc oa ?_)
     refine OpsL.nilS ⟨[(4, Pt 103 0), (5, I m_7), (9, I x_9)], [(103, .box 25 zBig)]⟩ rfl (Tri.regionL (Oc om (Oc oa ?_)))
     refine OpsL.nil (Fin.block_normal ?_)
     exact Fin.againJ [4, 5, 7] [103] (m_7, x_9) (Option.some.inj h9) rfl
    ·refine Tri.exit (Fin.then_exit ?_)
     obtain rfl := hy10 _ (Option.some.inj h9).symm
     refine Fin.then_exit (Fin.block_exit ?_)
     exact Fin.join [4, 5] [103] n_6 rfl rfl
   ·rintro n_5 hv
    subst v6
    refine Tri.seq (Tri.regionL ?_)
    refine Oc om ?_
    obtain ⟨x_10, e12, h4⟩ := bnd h4
    refine Oc (op_call0 (r3_Of_spec e12) goes12 rfl rfl) ?_
    obtain ⟨x_11, e13, h4⟩ := bnd h4
    refine Oc (op_call0 (r3_Abs_spec e13) goes111 rfl rfl) (Oc (op_store_p tyAgg25 rfl rfl rfl rfl (Nat.le_of_ble_eq_true rfl) rfl) ?_)
    refine OpsL.nilS ⟨[(4, Pt 103 0)], [(103, .box 25 (eBig x_11))]⟩ rfl (Tri.ret ?_)
    obtain rfl := Option.some.inj h4
    refine Fin.then_ret ?_
    obtain rfl := Option.some.inj h
    refine Fin.keepS ⟨[(4, Pt 103 0)], [(103, .box 25 (eBig x_11))]⟩ rfl (Fin.result' [.agg (eBig x_11)] (.inl rfl) rfl (.cons (.agg tyAgg25 rfl rfl rfl rfl) .nil) ⟨rfl, rfl⟩)
  ·refine Tri.skip ?_
   exact Fin.join [2, 3, 4] [101, 102, 103] () (Option.some.inj h4) rfl
 ·rintro _ hv
  subst v3
  refine Tri.seq (Tri.seq (Tri.regionL ?_))
  refine Oc (lp tyAgg25) ?_
  obtain ⟨x_12, e14, h⟩ := bnd h
  refine Oc (op_call0 (r3_Good_spec e14) goes15 rfl rfl) (Oc (op_not rfl) (Oc om ?_))
  refine CgF (!(!x_12)) [] (fun g15 => trivial) (fun g15 => lp tyAgg25) (OpsL.keepS ⟨[(2, Pt 101 0), (3, Pt 102 0), (4, Pt 103 0), (41, B (!x_12)), (42, .opt (!(!x_12)) (.agg (eBig b0)))], [(101, .box 25 (eBig a0)), (102, .box 25 (eBig b0)), (103, .box 25 zBig)]⟩ rfl ?_)
  obtain ⟨x_13, e17, h⟩ := bnd h
  refine CgF (!(!x_12)) [42] (fun g16 => ⟨g16, trivial⟩) (fun g16 => op_call0 (r3_Good_spec (gc e17 g16)) goes15 rfl rfl) (CgF (!(!x_12)) [43] (fun g18 => ⟨g18, trivial⟩) (fun g18 => op_not rfl) (Oc (op_pick_or (fun e => by rw [e]; rfl) rfl rfl rfl rfl) (OpsL.nilS ⟨[(2, Pt 101 0), (3, Pt 102 0), (4, Pt 103 0), (45, B ((!x_12) || (!x_13)))], [(101, .box 25 (eBig a0)), (102, .box 25 (eBig b0)), (103, .box 25 zBig)]⟩ rfl (Tri.ite h rfl (fun _ h => ?_) (fun _ h => ?_)))))
  ·refine Tri.seq (Tri.regionL ?_)
   obtain ⟨x_14, e19, h⟩ := bnd h
   refine Oc (op_call0 (r3_Bad_spec e19) goes83 rfl rfl) (Oc (op_store_p tyAgg25 rfl rfl rfl rfl (Nat.le_of_ble_eq_true rfl) rfl) ?_)
   refine OpsL.nilS ⟨[(4, Pt 103 0)], [(103, .box 25 (eBig x_14))]⟩ rfl (Tri.ret (Fin.then_ret ?_))
   obtain rfl := Option.some.inj h
   refine Fin.keepS ⟨[(4, Pt 103 0)], [(103, .box 25 (eBig x_14))]⟩ rfl (Fin.result' [.agg (eBig x_14)] (.inl rfl) rfl (.cons (.agg tyAgg25 rfl rfl rfl rfl) .nil) ⟨rfl, rfl⟩)
  ·refine Tri.skip (Fin.keepS ⟨[(2, Pt 101 0), (3, Pt 102 0), (4, Pt 103 0)], [(101, .box 25 (eBig a0)), (102, .box 25 (eBig b0)), (103, .box 25 zBig)]⟩ rfl (Fin.then (Tri.seq (Tri.regionL ?_))))
   refine Oc (lp tyAgg25) ?_
   obtain ⟨x_15, e20, h⟩ := bnd h
   refine Oc (op_call0 (r3_digits_spec e20) goes85 rfl rfl) (Oc oa ?_)
   refine OpsL.nilS ⟨[(3, Pt 102 0), (4, Pt 103 0), (10, .b (.one (.sl 1 (x_15.map eI))))], [(102, .box 25 (eBig b0)), (103, .box 25 zBig)]⟩ rfl (Tri.seq (Tri.regionL ?_))
   refine Oc (lp tyAgg25) ?_
   obtain ⟨x_16, e21, h⟩ := bnd h
   refine Oc (op_call0 (r3_digits_spec e21) goes85 rfl rfl) (Oc oa ?_)
   refine OpsL.nilS ⟨[(4, Pt 103 0), (10, .b (.one (.sl 1 (x_15.map eI)))), (11, .b (.one (.sl 1 (x_16.map eI))))], [(103, .box 25 zBig)]⟩ rfl ?_
   obtain ⟨v22, h23, h⟩ := bnd h
   refine Tri.seqJ (v := v22) (fun (x_17 : List Int) => ⟨[(4, Pt 103 0), (10, .b (.one (.sl 1 (x_17.map eI))))], [(103, .box 25 zBig)]⟩) (fun z => z) ?_ ?_
   ·refine Tri.block (Tri.loopJ h23 (un2 fun (x_18 : List Int) (y_19 : List Int) => ⟨[(4, Pt 103 0), (10, .b (.one (.sl 1 (x_18.map eI)))), (11, .b (.one (.sl 1 (y_19.map eI))))], [(103, .box 25 zBig)]⟩) [4, 10, 11] [103] rfl ?_)
    rintro ⟨x_18, y_19⟩ o24 h25 hy26
    refine Tri.seq (Tri.seq (Tri.regionL ?_))
    refine Oc om (Oc (op_len_e' und70 rfl (List.length_map _)) (Oc (op_gtr rfl rfl) ?_))
    refine OpsL.nilS ⟨[(4, Pt 103 0), (10, .b (.one (.sl 1 (x_18.map eI)))), (11, .b (.one (.sl 1 (y_19.map eI)))), (53, B (decide (0 < (y_19.length : Int))))], [(103, .box 25 zBig)]⟩ rfl (Tri.ite h25 rfl (fun _ h25 => ?_) (fun _ h25 => ?_))
    ·refine Tri.skip (Fin.keepS ⟨[(4, Pt 103 0), (10, .b (.one (.sl 1 (x_18.map eI)))), (11, .b (.one (.sl 1 (y_19.map eI))))], [(103, .box 25 zBig)]⟩ rfl (Fin.then (Tri.block (Tri.seq (Tri.regionL ?_)))))
     refine Oc om (Oc om ?_)
     obtain ⟨⟨x_21, x_22⟩, e27, h25⟩ := bnd h25
     refine Oc (op_call0 (r3_divide_spec e27) goes121 rfl rfl) (Oc om (Oc (op_extract rfl rfl) ?_))
     refine OpsL.keepS ⟨[(4, Pt 103 0), (11, .b (.one (.sl 1 (y_19.map eI)))), (54, .tup [.one (.sl 1 (x_21.map eI)), .one (.sl 1 (x_22.map eI))]), (58, .b (.one (.sl 1 (x_21.map eI))))], [(103, .box 25 zBig)]⟩ rfl (Oc (op_extract rfl rfl) (Oc oa (Oc oa ?_)))
     refine OpsL.nilS ⟨[(4, Pt 103 0), (11, .b (.one (.sl 1 (y_19.map eI)))), (13, .b (.one (.sl 1 (x_22.map eI))))], [(103, .box 25 zBig)]⟩ rfl (Tri.seq (Tri.regionL ?_))
     refine Oc om (Oc oa ?_)
     refine OpsL.nilS ⟨[(4, Pt 103 0), (10, .b (.one (.sl 1 (y_19.map eI)))), (13, .b (.one (.sl 1 (x_22.map eI))))], [(103, .box 25 zBig)]⟩ rfl (Tri.regionL (Oc om (Oc oa ?_)))
     refine OpsL.nil (Fin.block_normal ?_)
     exact Fin.againJ [4, 10, 11] [103] (y_19, x_22) (Option.some.inj h25) rfl
    ·refine Tri.exit (Fin.then_exit ?_)
     obtain rfl := hy26 _ (Option.some.inj h25).symm
     refine Fin.then_exit (Fin.block_exit ?_)
     exact Fin.join [4, 10] [103] x_18 rfl rfl
   ·rintro x_17 hv
    subst v22
    refine Tri.seq (Tri.regionL ?_)
    refine Oc om ?_
    obtain ⟨x_23, e28, h⟩ := bnd h
    refine Oc (op_call0 (r3_number_spec e28) goes76 rfl rfl) (Oc (op_store_p tyAgg25 rfl rfl rfl rfl (Nat.le_of_ble_eq_true rfl) rfl) ?_)
    refine OpsL.nilS ⟨[(4, Pt 103 0)], [(103, .box 25 (eBig x_23))]⟩ rfl (Tri.ret ?_)
    obtain rfl := Option.some.inj h
    refine Fin.keepS ⟨[(4, Pt 103 0)], [(103, .box 25 (eBig x_23))]⟩ rfl (Fin.result' [.agg (eBig x_23)] (.inl rfl) rfl (.cons (.agg tyAgg25 rfl rfl rfl rfl) .nil) ⟨rfl, rfl⟩)
def r4_one_S (F : Nat) : Option Big :=
 (r3_Of_S F 1).bind fun x_1 => some x_1
theorem r4_one_spec {F : Nat} {r : Big} (h : r4_one_S F = some r) : Meets Tryz.prog (tabs mx) 80 [] [] (Is [] (.b (.agg (eBig r)))) := by
 unfold r4_one_S at h
 refine Meets.intro 2 Tryz.func80 Tryz.ntmps80 rfl (by simp) fun E => ?_
 show Tri _ E ⟨2, [], []⟩ _ ⟨[], []⟩ _
 refine Tri.seq (Tri.regionL ?_)
 refine Oc (op_alloc (k := 101) tyZero25 rfl) (OpsL.nilS ⟨[(0, Pt 101 0)], [(101, .box 25 zBig)]⟩ rfl (Tri.seq (Tri.regionL ?_)))
 obtain ⟨x_1, e1, h⟩ := bnd h
 refine Oc (op_call0 (r3_Of_spec e1) goes12 rfl rfl) (Oc (op_store_p tyAgg25 rfl rfl rfl rfl (Nat.le_of_ble_eq_true rfl) rfl) ?_)
 refine OpsL.nilS ⟨[(0, Pt 101 0)], [(101, .box 25 (eBig x_1))]⟩ rfl (Tri.ret ?_)
 obtain rfl := Option.some.inj h
 refine Fin.keepS ⟨[(0, Pt 101 0)], [(101, .box 25 (eBig x_1))]⟩ rfl (Fin.result' [.agg (eBig x_1)] (.inl rfl) rfl (.cons (.agg tyAgg25 rfl rfl rfl rfl) .nil) ⟨rfl, rfl⟩)
def r4_Good_S (F : Nat) (x0 : Frc) : Option Bool :=
 (r3_Good_S F x0.N).bind fun x_1 => (gcall (!(!x_1)) (r3_Good_S F x0.D)).bind fun x_2 => if ((!x_1) || (!x_2)) = true then (some false) else ((r3_Sign_S F x0.D).bind fun x_3 => (gcall (decide (0 < x_3)) (r3_Gcd_S F x0.N x0.D)).bind fun x_4 => (gcall (decide (0 < x_3)) (r4_one_S F)).bind fun x_5 => some ((decide (0 < x_3)) && (decide (x_4 = x_5))))
theorem r4_Good_spec {F : Nat} {x0 : Frc} {r : Bool} (h : r4_Good_S F x0 = some r) : Meets Tryz.prog (tabs mx) 13 [] [.agg (eFrc x0)] (Is [] (.b (.one (.bool r)))) := by
 unfold r4_Good_S at h
 refine Meets.intro 26 Tryz.func13 Tryz.ntmps13 rfl (by simp) fun E => ?_
 show Tri _ E ⟨26, [], []⟩ _ ⟨[(0, .b (.agg (eFrc x0)))], []⟩ _
 refine Tri.seq (Tri.regionL ?_)
 refine Oc (op_box (k := 101) rfl rfl) (Oc oa ?_)
 refine OpsL.nilS ⟨[(1, Pt 101 0)], [(101, .box 27 (eFrc x0))]⟩ rfl (Tri.seq (Tri.seq (Tri.regionL ?_)))
 refine Oc (op_field_p tyFld27_0 rfl rfl) (Oc (lp tyAgg25) ?_)
 obtain ⟨x_1, e1, h⟩ := bnd h
 refine Oc (op_call0 (r3_Good_spec e1) goes15 rfl rfl) (Oc (op_not rfl) (Oc om ?_))
 refine OpsL.keepS ⟨[(1, Pt 101 0), (7, B (!x_1))], [(101, .box 27 (eFrc x0))]⟩ rfl (CgF (!(!x_1)) [] (fun g2 => trivial) (fun g2 => op_field_p tyFld27_1 rfl rfl) (CgF (!(!x_1)) [8] (fun g3 => ⟨g3, trivial⟩) (fun g3 => lp tyAgg25) ?_))
 obtain ⟨x_2, e5, h⟩ := bnd h
 refine CgF (!(!x_1)) [9] (fun g4 => ⟨g4, trivial⟩) (fun g4 => op_call0 (r3_Good_spec (gc e5 g4)) goes15 rfl rfl) (CgF (!(!x_1)) [10] (fun g6 => ⟨g6, trivial⟩) (fun g6 => op_not rfl) (Oc (op_pick_or (fun e => by rw [e]; rfl) rfl rfl rfl rfl) (OpsL.nilS ⟨[(1, Pt 101 0), (12, B ((!x_1) || (!x_2)))], [(101, .box 27 (eFrc x0))]⟩ rfl (Tri.ite h rfl (fun _ h => ?_) (fun _ h => ?_)))))
 ·refine Tri.seq (Tri.regionL ?_)
  refine Oc oa (OpsL.nilS ⟨[(2, B false)], []⟩ rfl (Tri.ret (Fin.then_ret ?_)))
  obtain rfl := Option.some.inj h
  refine Fin.keepS ⟨[(2, B false)], []⟩ rfl (Fin.result' [.one (.bool false)] (.inl rfl) rfl (.cons (.tmp rfl) .nil) ⟨rfl, rfl⟩)
 ·refine Tri.skip (Fin.keepS ⟨[(1, Pt 101 0)], [(101, .box 27 (eFrc x0))]⟩ rfl (Fin.then (Tri.seq (Tri.regionL ?_))))
  refine Oc (op_field_p tyFld27_1 rfl rfl) (Oc (lp tyAgg25) ?_)
  obtain ⟨x_3, e7, h⟩ := bnd h
  refine Oc (op_call0 (r3_Sign_spec e7) goes78 rfl rfl) (Oc (op_gtr rfl rfl) (Oc om ?_))
  refine OpsL.keepS ⟨[(1, Pt 101 0), (17, B (decide (0 < x_3)))], [(101, .box 27 (eFrc x0))]⟩ rfl (CgT (decide (0 < x_3)) [] (fun g8 => trivial) (fun g8 => op_field_p tyFld27_0 rfl rfl) (CgT (decide (0 < x_3)) [18] (fun g9 => ⟨g9, trivial⟩) (fun g9 => lp tyAgg25) (CgT (decide (0 < x_3)) [] (fun g10 => by exact trivial) (fun g10 => op_field_p tyFld27_1 rfl rfl) (CgT (decide (0 < x_3)) [20] (fun g11 => by exact ⟨g11, trivial⟩) (fun g11 => lp tyAgg25) ?_))))
  obtain ⟨x_4, e13, h⟩ := bnd h
  refine CgT (decide (0 < x_3)) [19, 21] (fun g12 => ⟨g12, g12, trivial⟩) (fun g12 => op_call0 (r3_Gcd_spec (gc e13 g12)) goes79 rfl rfl) (OpsL.keepS ⟨[(17, B (decide (0 < x_3))), (22, .opt (decide (0 < x_3)) (.agg (eBig x_4)))], []⟩ rfl ?_)
  obtain ⟨x_5, e15, h⟩ := bnd h
  refine CgT (decide (0 < x_3)) [] (fun g14 => trivial) (fun g14 => op_call0 (r4_one_spec (gc e15 g14)) goes80 rfl rfl) (CgT (decide (0 < x_3)) [22, 23] (fun g16 => ⟨g16, g16, trivial⟩) (fun g16 => op_eql_agg (eqAgg25 x_4 x_5) rfl rfl) (Oc (op_pick_and (fun e => e) rfl rfl rfl rfl) (Oc oa ?_)))
  refine OpsL.nilS ⟨[(2, B ((decide (0 < x_3)) && (decide (x_4 = x_5))))], []⟩ rfl (Tri.ret ?_)
  obtain rfl := Option.some.inj h
  refine Fin.keepS ⟨[(2, B ((decide (0 < x_3)) && (decide (x_4 = x_5))))], []⟩ rfl (Fin.result' [.one (.bool ((decide (0 < x_3)) && (decide (x_4 = x_5))))] (.inl rfl) rfl (.cons (.tmp rfl) .nil) ⟨rfl, rfl⟩)
def r4_Bad_S (F : Nat) : Option Frc :=
 (r3_Bad_S F).bind fun x_1 => (r4_one_S F).bind fun x_2 => some (⟨x_1, x_2⟩ : Frc)
theorem r4_Bad_spec {F : Nat} {r : Frc} (h : r4_Bad_S F = some r) : Meets Tryz.prog (tabs mx) 28 [] [] (Is [] (.b (.agg (eFrc r)))) := by
 unfold r4_Bad_S at h
 refine Meets.intro 4 Tryz.func28 Tryz.ntmps28 rfl (by simp) fun E => ?_
 show Tri _ E ⟨4, [], []⟩ _ ⟨[], []⟩ _
 refine Tri.seq (Tri.regionL ?_)
 refine Oc (op_alloc (k := 101) tyZero27 rfl) (OpsL.nilS ⟨[(0, Pt 101 0)], [(101, .box 27 zFrc)]⟩ rfl (Tri.seq (Tri.regionL ?_)))
 obtain ⟨x_1, e1, h⟩ := bnd h
 refine Oc (op_call0 (r3_Bad_spec e1) goes83 rfl rfl) ?_
 obtain ⟨x_2, e2, h⟩ := bnd h
 refine Oc (op_call0 (r4_one_spec e2) goes80 rfl rfl) (Oc (op_build tyBuild27 rfl rfl) (Oc (op_store_p tyAgg27 rfl rfl rfl rfl (Nat.le_of_ble_eq_true rfl) rfl) ?_))
 refine OpsL.nilS ⟨[(0, Pt 101 0)], [(101, .box 27 (eBig x_1 ++ (eBig x_2)))]⟩ rfl (Tri.ret ?_)
 obtain rfl := Option.some.inj h
 refine Fin.keepS ⟨[(0, Pt 101 0)], [(101, .box 27 (eBig x_1 ++ (eBig x_2)))]⟩ rfl (Fin.result' [.agg (eBig x_1 ++ (eBig x_2))] (.inl rfl) rfl (.cons (.agg tyAgg27 rfl rfl rfl rfl) .nil) ⟨rfl, rfl⟩)
def r3_floor_S (F : Nat) (n0 : Int) (m0 : Int) : Option Int :=
 (quo? .i64 n0 m0).bind fun x_1 => Option.bind ((rem? n0 m0).bind fun x_3 => letN ((decide (x_3 ≠ 0)) && ((decide (n0 < 0)) != (decide (m0 < 0)))) fun x_4 => if x_4 = true then (some (IntKind.i64.wrap (x_1 - 1))) else (some x_1)) (fun q_2 => some q_2)
theorem r3_floor_spec {F : Nat} {n0 : Int} {m0 : Int} {r : Int} (h : r3_floor_S F n0 m0 = some r) : Meets Tryz.prog (tabs mx) 122 [] [.one (.i n0), .one (.i m0)] (Is [] (.b (.one (.i r)))) := by
 unfold r3_floor_S at h
 refine Meets.intro 23 Tryz.func122 Tryz.ntmps122 rfl (by simp) fun E => ?_
 show Tri _ E ⟨23, [], []⟩ _ ⟨[(0, I n0), (1, I m0)], []⟩ _
 refine Tri.seq (Tri.regionL ?_)
 refine Oc oa (OpsL.nilS ⟨[(0, I n0), (1, I m0)], []⟩ rfl (Tri.seq (Tri.regionL ?_)))
 refine Oc om (Oc om ?_)
 obtain ⟨x_1, e1, h⟩ := bnd h
 refine Oc (op_quo2 e1 rfl rfl) (Oc oa ?_)
 refine OpsL.nilS ⟨[(0, I n0), (1, I m0), (5, I x_1)], []⟩ rfl ?_
 obtain ⟨v2, h3, h⟩ := bnd h
 refine Tri.seqJ (v := v2) (fun (q_2 : Int) => ⟨[(5, I q_2)], []⟩) (fun z => z) ?_ ?_
 ·refine Tri.seq (Tri.regionL ?_)
  refine Oc om (Oc om ?_)
  obtain ⟨x_3, e4, h3⟩ := bnd h3
  refine Oc (op_rem2 e4 rfl rfl) (Oc (op_neq rfl rfl) (Oc om ?_))
  refine CgT (decide (x_3 ≠ 0)) [] (fun g5 => trivial) (fun g5 => om) (CgT (decide (x_3 ≠ 0)) [14] (fun g6 => by exact ⟨g6, trivial⟩) (fun g6 => op_lss rfl rfl) (OpsL.keepS ⟨[(1, I m0), (5, I x_1), (13, B (decide (x_3 ≠ 0))), (15, .opt (decide (x_3 ≠ 0)) (.one (.bool (decide (n0 < 0)))))], []⟩ rfl (CgT (decide (x_3 ≠ 0)) [] (fun g7 => by exact trivial) (fun g7 => om) (CgT (decide (x_3 ≠ 0)) [16] (fun g8 => by exact ⟨g8, trivial⟩) (fun g8 => op_lss rfl rfl) (CgT (decide (x_3 ≠ 0)) [15, 17] (fun g9 => by exact ⟨g9, g9, trivial⟩) (fun g9 => op_neq_bool und4 rfl rfl) ?_)))))
  refine OpsL.consB h3 rfl (op_pick_and (fun e => e) rfl rfl rfl rfl) (fun x_4 h3 => ?_)
  refine OpsL.nilS ⟨[(5, I x_1), (19, B x_4)], []⟩ rfl (Tri.ite h3 rfl (fun _ h3 => ?_) (fun _ h3 => ?_))
  ·refine Tri.regionL (Oc om (Oc (op_sub rfl rfl) (Oc oa ?_)))
   refine OpsL.nil ?_
   exact Fin.join [5] [] (IntKind.i64.wrap (x_1 - 1)) (Option.some.inj h3) rfl
  ·refine Tri.skip ?_
   exact Fin.join [5] [] x_1 (Option.some.inj h3) rfl
 ·rintro q_2 hv
  subst v2
  refine Tri.seq (Tri.regionL ?_)
  refine Oc om (Oc oa ?_)
  refine OpsL.nilS ⟨[(4, I q_2)], []⟩ rfl (Tri.ret ?_)
  obtain rfl := Option.some.inj h
  refine Fin.keepS ⟨[(4, I q_2)], []⟩ rfl (Fin.result' [.one (.i q_2)] (.inl rfl) rfl (.cons (.tmp rfl) .nil) ⟨rfl, rfl⟩)
def r3_Quo_S (F : Nat) (a0 : Big) (b0 : Big) : Option Big :=
 Option.bind (r3_word_S F a0) (un2 fun x_1 x_2 => Option.bind (r3_word_S F b0) (un2 fun x_3 x_4 => if ((x_2 && x_4) && (decide (x_3 ≠ 0))) = true then ((r3_floor_S F x_1 x_3).bind fun x_5 => (r3_Of_S F x_5).bind fun x_6 => some x_6) else ((r3_Good_S F a0).bind fun x_7 => (gcall (!(!x_7)) (r3_Good_S F b0)).bind fun x_8 => (gcall (!((!x_7) || (!x_8))) (r3_digits_S F b0)).bind fun x_9 => if (((!x_7) || (!x_8)) || (decide ((x_9.length : Int) = 0))) = true then ((r3_Bad_S F).bind fun x_10 => some x_10) else ((r3_digits_S F a0).bind fun x_11 => (r3_digits_S F b0).bind fun x_12 => Option.bind (r3_divide_S F x_11 x_12) (un2 fun x_13 x_14 => Option.bind (if ((a0.Neg != b0.Neg) && (decide (0 < (x_14.length : Int)))) = true then ((r3_plus_S F x_13 [1]).bind fun x_16 => some x_16) else (some x_13)) (fun q_15 => (r3_number_S F (a0.Neg != b0.Neg) q_15).bind fun x_17 => some x_17))))))
theorem r3_Quo_spec {F : Nat} {a0 : Big} {b0 : Big} {r : Big} (h : r3_Quo_S F a0 b0 = some r) : Meets Tryz.prog (tabs mx) 89 [] [.agg (eBig a0), .agg (eBig b0)] (Is [] (.b (.agg (eBig r)))) := by
 unfold r3_Quo_S at h
 refine Meets.intro 76 Tryz.func89 Tryz.ntmps89 rfl (by simp) fun E => ?_
 show Tri _ E ⟨76, [], []⟩ _ ⟨[(0, .b (.agg (eBig a0))), (1, .b (.agg (eBig b0)))], []⟩ _
 refine Tri.seq (Tri.regionL ?_)
 refine Oc (op_box (k := 101) rfl rfl) (Oc (op_box (k := 102) rfl rfl) (Oc (op_alloc (k := 103) tyZero25 rfl) ?_))
 refine OpsL.nilS ⟨[(2, Pt 101 0), (3, Pt 102 0), (4, Pt 103 0)], [(101, .box 25 (eBig a0)), (102, .box 25 (eBig b0)), (103, .box 25 zBig)]⟩ rfl (Tri.seq (Tri.regionL ?_))
 refine Oc (lp tyAgg25) ?_
 obtain ⟨⟨x_1, x_2⟩, e1, h⟩ := bnd h
 refine Oc (op_call0 (r3_word_spec e1) goes81 rfl rfl) (Oc om (Oc (op_extract rfl rfl) (Oc (op_extract rfl rfl) (Oc oa (Oc oa ?_)))))
 refine OpsL.nilS ⟨[(2, Pt 101 0), (3, Pt 102 0), (4, Pt 103 0), (5, I x_1), (6, B x_2)], [(101, .box 25 (eBig a0)), (102, .box 25 (eBig b0)), (103, .box 25 zBig)]⟩ rfl (Tri.seq (Tri.regionL ?_))
 refine Oc (lp tyAgg25) ?_
 obtain ⟨⟨x_3, x_4⟩, e2, h⟩ := bnd h
 refine Oc (op_call0 (r3_word_spec e2) goes81 rfl rfl) (Oc om (Oc (op_extract rfl rfl) (Oc (op_extract rfl rfl) (Oc oa (Oc oa ?_)))))
 refine OpsL.nilS ⟨[(2, Pt 101 0), (3, Pt 102 0), (4, Pt 103 0), (5, I x_1), (6, B x_2), (7, I x_3), (8, B x_4)], [(101, .box 25 (eBig a0)), (102, .box 25 (eBig b0)), (103, .box 25 zBig)]⟩ rfl (Tri.seq (Tri.seq (Tri.regionL ?_)))
 refine Oc om (Oc om ?_)
 refine CgT x_2 [] (fun g3 => trivial) (fun g3 => om) (Oc (op_pick_and (fun e => e) rfl rfl rfl rfl) (Oc om ?_))
 refine CgT (x_2 && x_4) [] (fun g4 => trivial) (fun g4 => om) (CgT (x_2 && x_4) [26] (fun g5 => by exact ⟨g5, trivial⟩) (fun g5 => op_neq rfl rfl) (Oc (op_pick_and (fun e => e) rfl rfl rfl rfl) (OpsL.nilS ⟨[(2, Pt 101 0), (3, Pt 102 0), (4, Pt 103 0), (5, I x_1), (7, I x_3), (28, B ((x_2 && x_4) && (decide (x_3 ≠ 0))))], [(101, .box 25 (eBig a0)), (102, .box 25 (eBig b0)), (103, .box 25 zBig)]⟩ rfl (Tri.ite h rfl (fun _ h => ?_) (fun _ h => ?_)))))
 ·refine Tri.seq (Tri.regionL ?_)
  refine Oc om (Oc om ?_)
  obtain ⟨x_5, e6, h⟩ := bnd h
  refine Oc (op_call0 (r3_floor_spec e6) goes122 rfl rfl) ?_
  obtain ⟨x_6, e7, h⟩ := bnd h
  refine Oc (op_call0 (r3_Of_spec e7) goes12 rfl rfl) (Oc (op_store_p tyAgg25 rfl rfl rfl rfl (Nat.le_of_ble_eq_true rfl) rfl) ?_)
  refine OpsL.nilS ⟨[(4, Pt 103 0)], [(103, .box 25 (eBig x_6))]⟩ rfl (Tri.ret (Fin.then_ret ?_))
  obtain rfl := Option.some.inj h
  refine Fin.keepS ⟨[(4, Pt 103 0)], [(103, .box 25 (eBig x_6))]⟩ rfl (Fin.result' [.agg (eBig x_6)] (.inl rfl) rfl (.cons (.agg tyAgg25 rfl rfl rfl rfl) .nil) ⟨rfl, rfl⟩)
 ·refine Tri.skip (Fin.keepS ⟨[(2, Pt 101 0), (3, Pt 102 0), (4, Pt 103 0)], [(101, .box 25 (eBig a0)), (102, .box 25 (eBig b0)), (103, .box 25 zBig)]⟩ rfl (Fin.then (Tri.seq (Tri.seq (Tri.regionL ?_)))))
  refine Oc (lp tyAgg25) ?_
  obtain ⟨x_7, e8, h⟩ := bnd h
  refine Oc (op_call0 (r3_Good_spec e8) goes15 rfl rfl) (Oc (op_not rfl) (Oc om ?_))
  refine CgF (!(!x_7)) [] (fun g9 => trivial) (fun g9 => lp tyAgg25) (OpsL.keepS ⟨[(2, Pt 101 0), (3, Pt 102 0), (4, Pt 103 0), (36, B (!x_7)), (37, .opt (!(!x_7)) (.agg (eBig b0)))], [(101, .box 25 (eBig a0)), (102, .box 25 (eBig b0)), (103, .box 25 zBig)]⟩ rfl ?_)
  obtain ⟨x_8, e11, h⟩ := bnd h
  refine CgF (!(!x_7)) [37] (fun g10 => ⟨g10, trivial⟩) (fun g10 => op_call0 (r3_Good_spec (gc e11 g10)) goes15 rfl rfl) (CgF (!(!x_7)) [38] (fun g12 => ⟨g12, trivial⟩) (fun g12 => op_not rfl) (Oc (op_pick_or (fun e => by rw [e]; rfl) rfl rfl rfl rfl) (Oc om ?_)))
  refine CgF (!((!x_7) || (!x_8))) [] (fun g13 => trivial) (fun g13 => lp tyAgg25) ?_
  obtain ⟨x_9, e15, h⟩ := bnd h
  refine CgF (!((!x_7) || (!x_8))) [42] (fun g14 => ⟨g14, trivial⟩) (fun g14 => op_call0 (r3_digits_spec (gc e15 g14)) goes85 rfl rfl) (OpsL.keepS ⟨[(2, Pt 101 0), (3, Pt 102 0), (4, Pt 103 0), (41, B ((!x_7) || (!x_8))), (43, .opt (!((!x_7) || (!x_8))) (.one (.sl 1 (x_9.map eI))))], [(101, .box 25 (eBig a0)), (102, .box 25 (eBig b0)), (103, .box 25 zBig)]⟩ rfl (CgF (!((!x_7) || (!x_8))) [43] (fun g16 => ⟨g16, trivial⟩) (fun g16 => op_len_e' und70 rfl (List.length_map _)) (CgF (!((!x_7) || (!x_8))) [44] (fun g17 => ⟨g17, trivial⟩) (fun g17 => op_eql rfl rfl) (Oc (op_pick_or (fun e => by rw [e]; rfl) rfl rfl rfl rfl) (OpsL.nilS ⟨[(2, Pt 101 0), (3, Pt 102 0), (4, Pt 103 0), (46, B (((!x_7) || (!x_8)) || (decide ((x_9.length : Int) = 0))))], [(101, .box 25 (eBig a0)), (102, .box 25 (eBig b0)), (103, .box 25 zBig)]⟩ rfl ?_)))))
  refine Tri.ite h rfl (fun _ h => ?_) (fun _ h => ?_)
  ·refine Tri.seq (Tri.regionL ?_)
   obtain ⟨x_10, e18, h⟩ := bnd h
   refine Oc (op_call0 (r3_Bad_spec e18) goes83 rfl rfl) (Oc (op_store_p tyAgg25 rfl rfl rfl rfl (Nat.le_of_ble_eq_true rfl) rfl) ?_)
   refine OpsL.nilS ⟨[(4, Pt 103 0)], [(103, .box 25 (eBig x_10))]⟩ rfl (Tri.ret (Fin.then_ret ?_))
   obtain rfl := Option.some.inj h
   refine Fin.keepS ⟨[(4, Pt 103 0)], [(103, .box 25 (eBig x_10))]⟩ rfl (Fin.result' [.agg (eBig x_10)] (.inl rfl) rfl (.cons (.agg tyAgg25 rfl rfl rfl rfl) .nil) ⟨rfl, rfl⟩)
  ·refine Tri.skip (Fin.keepS ⟨[(2, Pt 101 0), (3, Pt 102 0), (4, Pt 103 0)], [(101, .box 25 (eBig a0)), (102, .box 25 (eBig b0)), (103, .box 25 zBig)]⟩ rfl (Fin.then (Tri.seq ?_)))
   refine Tri.keepS ⟨[(2, Pt 101 0), (3, Pt 102 0), (4, Pt 103 0)], [(101, .box 25 (eBig a0)), (102, .box 25 (eBig b0)), (103, .box 25 zBig)]⟩ rfl ?_
   obtain ⟨x_11, e19, h⟩ := bnd h
   obtain ⟨x_12, e20, h⟩ := bnd h
   obtain ⟨⟨x_13, x_14⟩, e21, h⟩ := bnd h
   refine Tri.regionY mixed 10 [.b (.agg (eBig a0)), .b (.one (.sl 1 (x_11.map eI))), .b (.agg (eBig b0)), .b (.one (.sl 1 (x_12.map eI))), .tup [.one (.sl 1 (x_13.map eI)), .one (.sl 1 (x_14.map eI))], .tup [.one (.sl 1 (x_13.map eI)), .one (.sl 1 (x_14.map eI))], .b (.one (.sl 1 (x_13.map eI))), .b (.one (.sl 1 (x_14.map eI))), .b (.one (.sl 1 (x_13.map eI))), .b (.one (.sl 1 (x_14.map eI)))] [2, 3, 4, 9, 10] [101, 102, 103] (s' := ⟨[(2, Pt 101 0), (3, Pt 102 0), (4, Pt 103 0), (9, .b (.one (.sl 1 (x_13.map eI)))), (10, .b (.one (.sl 1 (x_14.map eI))))], [(101, .box 25 (eBig a0)), (102, .box 25 (eBig b0)), (103, .box 25 zBig)]⟩) rfl ⟨fun _ => .p (lp tyAgg25), fun _ => .p (op_call0 (r3_digits_spec e19) goes85 rfl rfl), fun _ => .p (lp tyAgg25), fun _ => .p (op_call0 (r3_digits_spec e20) goes85 rfl rfl), fun _ => .p (op_call0 (r3_divide_spec e21) goes121 rfl rfl), fun _ => .p om, fun _ => .p (op_extract rfl rfl), fun _ => .p (op_extract rfl rfl), fun _ => .p oa, fun _ => .p oa, trivial⟩ rfl rfl ?_
   obtain ⟨v22, h23, h⟩ := bnd h
   refine Tri.seqJ (v := v22) (fun (q_15 : List Int) => ⟨[(2, Pt 101 0), (3, Pt 102 0), (4, Pt 103 0), (9, .b (.one (.sl 1 (q_15.map eI))))], [(101, .box 25 (eBig a0)), (102, .box 25 (eBig b0)), (103, .box 25 zBig)]⟩) (fun z => z) ?_ ?_
   ·refine Tri.seq (Tri.regionL ?_)
    refine Oc (op_field_p tyFld25_1 rfl rfl) (Oc (op_load_p1 tyOne4 rfl rfl rfl) (Oc (op_field_p tyFld25_1 rfl rfl) (Oc (op_load_p1 tyOne4 rfl rfl rfl) (Oc (op_neq_bool und4 rfl rfl) (Oc om ?_)))))
    refine CgT (a0.Neg != b0.Neg) [] (fun g24 => trivial) (fun g24 => om) (OpsL.keepS ⟨[(2, Pt 101 0), (3, Pt 102 0), (4, Pt 103 0), (9, .b (.one (.sl 1 (x_13.map eI)))), (61, B (a0.Neg != b0.Neg)), (62, .opt (a0.Neg != b0.Neg) (.one (.sl 1 (x_14.map eI))))], [(101, .box 25 (eBig a0)), (102, .box 25 (eBig b0)), (103, .box 25 zBig)]⟩ rfl (CgT (a0.Neg != b0.Neg) [62] (fun g25 => by exact ⟨g25, trivial⟩) (fun g25 => op_len_e' und70 rfl (List.length_map _)) (CgT (a0.Neg != b0.Neg) [63] (fun g26 => by exact ⟨g26, trivial⟩) (fun g26 => op_gtr rfl rfl) (Oc (op_pick_and (fun e => e) rfl rfl rfl rfl) (OpsL.nilS ⟨[(2, Pt 101 0), (3, Pt 102 0), (4, Pt 103 0), (9, .b (.one (.sl 1 (x_13.map eI)))), (65, B ((a0.Neg != b0.Neg) && (decide (0 < (x_14.length : Int)))))], [(101, .box 25 (eBig a0)), (102, .box 25 (eBig b0)), (103, .box 25 zBig)]⟩ rfl ?_)))))
    refine Tri.ite h23 rfl (fun _ h23 => ?_) (fun _ h23 => ?_)
    ·refine Tri.regionL (Oc om (Oc (op_buildSlice (k := 104) (es := [1].map eI) tySl70 rfl rfl (uni_map fun _ => rfl) rfl (by decide) (by decide) rfl) ?_))
     refine OpsL.persist 104 rfl ?_
     obtain ⟨x_16, e27, h23⟩ := bnd h23
     refine Oc (op_call0 (r3_plus_spec e27) goes77 rfl rfl) (Oc oa ?_)
     refine OpsL.nil ?_
     exact Fin.join [2, 3, 4, 9] [101, 102, 103] x_16 (Option.some.inj h23) rfl
    ·refine Tri.skip ?_
     exact Fin.join [2, 3, 4, 9] [101, 102, 103] x_13 (Option.some.inj h23) rfl
   ·rintro q_15 hv
    subst v22
    refine Tri.seq (Tri.regionL ?_)
    refine Oc (op_field_p tyFld25_1 rfl rfl) (Oc (op_load_p1 tyOne4 rfl rfl rfl) (Oc (op_field_p tyFld25_1 rfl rfl) (Oc (op_load_p1 tyOne4 rfl rfl rfl) (Oc (op_neq_bool und4 rfl rfl) (Oc om ?_)))))
    obtain ⟨x_17, e28, h⟩ := bnd h
    refine Oc (op_call0 (r3_number_spec e28) goes76 rfl rfl) (Oc (op_store_p tyAgg25 rfl rfl rfl rfl (Nat.le_of_ble_eq_true rfl) rfl) ?_)
    refine OpsL.nilS ⟨[(4, Pt 103 0)], [(103, .box 25 (eBig x_17))]⟩ rfl (Tri.ret ?_)
    obtain rfl := Option.some.inj h
    refine Fin.keepS ⟨[(4, Pt 103 0)], [(103, .box 25 (eBig x_17))]⟩ rfl (Fin.result' [.agg (eBig x_17)] (.inl rfl) rfl (.cons (.agg tyAgg25 rfl rfl rfl rfl) .nil) ⟨rfl, rfl⟩)
def r3_half_S (F : Nat) (n0 : Int) : Option Bool :=
 some ((decide (n0 < 2147483648)) && (decide ((-2147483648) < n0)))
theorem r3_half_spec {F : Nat} {n0 : Int} {r : Bool} (h : r3_half_S F n0 = some r) : Meets Tryz.prog (tabs mx) 82 [] [.one (.i n0)] (Is [] (.b (.one (.bool r)))) := by
 unfold r3_half_S at h
 refine Meets.intro 9 Tryz.func82 Tryz.ntmps82 rfl (by simp) fun E => ?_
 show Tri _ E ⟨9, [], []⟩ _ ⟨[(0, I n0)], []⟩ _
 refine Tri.seq (Tri.regionL ?_)
 refine Oc oa (OpsL.nilS ⟨[(0, I n0)], []⟩ rfl (Tri.seq (Tri.regionL ?_)))
 refine Oc om (Oc (op_lss rfl rfl) (Oc om ?_))
 refine CgT (decide (n0 < 2147483648)) [] (fun g1 => trivial) (fun g1 => om) (CgT (decide (n0 < 2147483648)) [6] (fun g2 => by exact ⟨g2, trivial⟩) (fun g2 => op_gtr rfl rfl) (Oc (op_pick_and (fun e => e) rfl rfl rfl rfl) (Oc oa ?_)))
 refine OpsL.nilS ⟨[(2, B ((decide (n0 < 2147483648)) && (decide ((-2147483648) < n0))))], []⟩ rfl (Tri.ret ?_)
 obtain rfl := Option.some.inj h
 refine Fin.keepS ⟨[(2, B ((decide (n0 < 2147483648)) && (decide ((-2147483648) < n0))))], []⟩ rfl (Fin.result' [.one (.bool ((decide (n0 < 2147483648)) && (decide ((-2147483648) < n0))))] (.inl rfl) rfl (.cons (.tmp rfl) .nil) ⟨rfl, rfl⟩)
def r3_Mul_S (F : Nat) (a0 : Big) (b0 : Big) : Option Big :=
 Option.bind (r3_word_S F a0) (un2 fun x_1 x_2 => Option.bind (r3_word_S F b0) (un2 fun x_3 x_4 => (gcall (x_2 && x_4) (r3_half_S F x_1)).bind fun x_5 => (gcall ((x_2 && x_4) && x_5) (r3_half_S F x_3)).bind fun x_6 => if (((x_2 && x_4) && x_5) && x_6) = true then ((r3_Of_S F (IntKind.i64.wrap (x_1 * x_3))).bind fun x_7 => some x_7) else ((r3_Good_S F a0).bind fun x_8 => (gcall (!(!x_8)) (r3_Good_S F b0)).bind fun x_9 => if ((!x_8) || (!x_9)) = true then ((r3_Bad_S F).bind fun x_10 => some x_10) else ((r3_digits_S F a0).bind fun x_11 => (r3_digits_S F b0).bind fun x_12 => (r3_times_S F x_11 x_12).bind fun x_13 => (r3_number_S F (a0.Neg != b0.Neg) x_13).bind fun x_14 => some x_14))))
theorem r3_Mul_spec {F : Nat} {a0 : Big} {b0 : Big} {r : Big} (h : r3_Mul_S F a0 b0 = some r) : Meets Tryz.prog (tabs mx) 14 [] [.agg (eBig a0), .agg (eBig b0)] (Is [] (.b (.agg (eBig r)))) := by
 unfold r3_Mul_S at h
 refine Meets.intro 55 Tryz.func14 Tryz.ntmps14 rfl (by simp) fun E => ?_
 show Tri _ E ⟨55, [], []⟩ _ ⟨[(0, .b (.agg (eBig a0))), (1, .b (.agg (eBig b0)))], []⟩ _
 refine Tri.seq (Tri.regionL ?_)
 refine Oc (op_box (k := 101) rfl rfl) (Oc (op_box (k := 102) rfl rfl) (Oc (op_alloc (k := 103) tyZero25 rfl) ?_))
 refine OpsL.nilS ⟨[(2, Pt 101 0), (3, Pt 102 0), (4, Pt 103 0)], [(101, .box 25 (eBig a0)), (102, .box 25 (eBig b0)), (103, .box 25 zBig)]⟩ rfl (Tri.seq (Tri.regionL ?_))
 refine Oc (lp tyAgg25) ?_
 obtain ⟨⟨x_1, x_2⟩, e1, h⟩ := bnd h
 refine Oc (op_call0 (r3_word_spec e1) goes81 rfl rfl) (Oc om (Oc (op_extract rfl rfl) (Oc (op_extract rfl rfl) (Oc oa (Oc oa ?_)))))
 refine OpsL.nilS ⟨[(2, Pt 101 0), (3, Pt 102 0), (4, Pt 103 0), (5, I x_1), (6, B x_2)], [(101, .box 25 (eBig a0)), (102, .box 25 (eBig b0)), (103, .box 25 zBig)]⟩ rfl (Tri.seq (Tri.regionL ?_))
 refine Oc (lp tyAgg25) ?_
 obtain ⟨⟨x_3, x_4⟩, e2, h⟩ := bnd h
 refine Oc (op_call0 (r3_word_spec e2) goes81 rfl rfl) (Oc om (Oc (op_extract rfl rfl) (Oc (op_extract rfl rfl) (Oc oa (Oc oa ?_)))))
 refine OpsL.nilS ⟨[(2, Pt 101 0), (3, Pt 102 0), (4, Pt 103 0), (5, I x_1), (6, B x_2), (7, I x_3), (8, B x_4)], [(101, .box 25 (eBig a0)), (102, .box 25 (eBig b0)), (103, .box 25 zBig)]⟩ rfl (Tri.seq (Tri.seq (Tri.regionL ?_)))
 refine Oc om (Oc om ?_)
 refine CgT x_2 [] (fun g3 => trivial) (fun g3 => om) (Oc (op_pick_and (fun e => e) rfl rfl rfl rfl) (Oc om ?_))
 refine CgT (x_2 && x_4) [] (fun g4 => trivial) (fun g4 => om) (OpsL.keepS ⟨[(2, Pt 101 0), (3, Pt 102 0), (4, Pt 103 0), (5, I x_1), (7, I x_3), (23, B (x_2 && x_4)), (24, .opt (x_2 && x_4) (.one (.i x_1)))], [(101, .box 25 (eBig a0)), (102, .box 25 (eBig b0)), (103, .box 25 zBig)]⟩ rfl ?_)
 obtain ⟨x_5, e6, h⟩ := bnd h
 refine CgT (x_2 && x_4) [24] (fun g5 => ⟨g5, trivial⟩) (fun g5 => op_call0 (r3_half_spec (gc e6 g5)) goes82 rfl rfl) (Oc (op_pick_and (fun e => e) rfl rfl rfl rfl) (Oc om ?_))
 refine CgT ((x_2 && x_4) && x_5) [] (fun g7 => trivial) (fun g7 => om) ?_
 obtain ⟨x_6, e9, h⟩ := bnd h
 refine CgT ((x_2 && x_4) && x_5) [28] (fun g8 => ⟨g8, trivial⟩) (fun g8 => op_call0 (r3_half_spec (gc e9 g8)) goes82 rfl rfl) (Oc (op_pick_and (fun e => e) rfl rfl rfl rfl) (OpsL.nilS ⟨[(2, Pt 101 0), (3, Pt 102 0), (4, Pt 103 0), (5, I x_1), (7, I x_3), (30, B (((x_2 && x_4) && x_5) && x_6))], [(101, .box 25 (eBig a0)), (102, .box 25 (eBig b0)), (103, .box 25 zBig)]⟩ rfl (Tri.ite h rfl (fun _ h => ?_) (fun _ h => ?_))))
 ·refine Tri.seq (Tri.regionL ?_)
  refine Oc om (Oc om (Oc (op_mul rfl rfl) ?_))
  obtain ⟨x_7, e10, h⟩ := bnd h
  refine Oc (op_call0 (r3_Of_spec e10) goes12 rfl rfl) (Oc (op_store_p tyAgg25 rfl rfl rfl rfl (Nat.le_of_ble_eq_true rfl) rfl) ?_)
  refine OpsL.nilS ⟨[(4, Pt 103 0)], [(103, .box 25 (eBig x_7))]⟩ rfl (Tri.ret (Fin.then_ret ?_))
  obtain rfl := Option.some.inj h
  refine Fin.keepS ⟨[(4, Pt 103 0)], [(103, .box 25 (eBig x_7))]⟩ rfl (Fin.result' [.agg (eBig x_7)] (.inl rfl) rfl (.cons (.agg tyAgg25 rfl rfl rfl rfl) .nil) ⟨rfl, rfl⟩)
 ·refine Tri.skip (Fin.keepS ⟨[(2, Pt 101 0), (3, Pt 102 0), (4, Pt 103 0)], [(101, .box 25 (eBig a0)), (102, .box 25 (eBig b0)), (103, .box 25 zBig)]⟩ rfl (Fin.then (Tri.seq (Tri.seq (Tri.regionL ?_)))))
  refine Oc (lp tyAgg25) ?_
  obtain ⟨x_8, e11, h⟩ := bnd h
  refine Oc (op_call0 (r3_Good_spec e11) goes15 rfl rfl) (Oc (op_not rfl) (Oc om ?_))
  refine CgF (!(!x_8)) [] (fun g12 => trivial) (fun g12 => lp tyAgg25) (OpsL.keepS ⟨[(2, Pt 101 0), (3, Pt 102 0), (4, Pt 103 0), (38, B (!x_8)), (39, .opt (!(!x_8)) (.agg (eBig b0)))], [(101, .box 25 (eBig a0)), (102, .box 25 (eBig b0)), (103, .box 25 zBig)]⟩ rfl ?_)
  obtain ⟨x_9, e14, h⟩ := bnd h
  refine CgF (!(!x_8)) [39] (fun g13 => ⟨g13, trivial⟩) (fun g13 => op_call0 (r3_Good_spec (gc e14 g13)) goes15 rfl rfl) (CgF (!(!x_8)) [40] (fun g15 => ⟨g15, trivial⟩) (fun g15 => op_not rfl) (Oc (op_pick_or (fun e => by rw [e]; rfl) rfl rfl rfl rfl) (OpsL.nilS ⟨[(2, Pt 101 0), (3, Pt 102 0), (4, Pt 103 0), (42, B ((!x_8) || (!x_9)))], [(101, .box 25 (eBig a0)), (102, .box 25 (eBig b0)), (103, .box 25 zBig)]⟩ rfl (Tri.ite h rfl (fun _ h => ?_) (fun _ h => ?_)))))
  ·refine Tri.seq (Tri.regionL ?_)
   obtain ⟨x_10, e16, h⟩ := bnd h
   refine Oc (op_call0 (r3_Bad_spec e16) goes83 rfl rfl) (Oc (op_store_p tyAgg25 rfl rfl rfl rfl (Nat.le_of_ble_eq_true rfl) rfl) ?_)
   refine OpsL.nilS ⟨[(4, Pt 103 0)], [(103, .box 25 (eBig x_10))]⟩ rfl (Tri.ret (Fin.then_ret ?_))
   obtain rfl := Option.some.inj h
   refine Fin.keepS ⟨[(4, Pt 103 0)], [(103, .box 25 (eBig x_10))]⟩ rfl (Fin.result' [.agg (eBig x_10)] (.inl rfl) rfl (.cons (.agg tyAgg25 rfl rfl rfl rfl) .nil) ⟨rfl, rfl⟩)
  ·refine Tri.skip (Fin.keepS ⟨[(2, Pt 101 0), (3, Pt 102 0), (4, Pt 103 0)], [(101, .box 25 (eBig a0)), (102, .box 25 (eBig b0)), (103, .box 25 zBig)]⟩ rfl (Fin.then (Tri.seq ?_)))
   refine Tri.keepS ⟨[(2, Pt 101 0), (3, Pt 102 0), (4, Pt 103 0)], [(101, .box 25 (eBig a0)), (102, .box 25 (eBig b0)), (103, .box 25 zBig)]⟩ rfl ?_
   obtain ⟨x_11, e17, h⟩ := bnd h
   obtain ⟨x_12, e18, h⟩ := bnd h
   obtain ⟨x_13, e19, h⟩ := bnd h
   obtain ⟨x_14, e20, h⟩ := bnd h
   refine Tri.regionY mixed 11 [Pt 101 1, B a0.Neg, Pt 102 1, B b0.Neg, B (a0.Neg != b0.Neg), .b (.agg (eBig a0)), .b (.one (.sl 1 (x_11.map eI))), .b (.agg (eBig b0)), .b (.one (.sl 1 (x_12.map eI))), .b (.one (.sl 1 (x_13.map eI))), .b (.agg (eBig x_14))] [4] [103] (s' := ⟨[(4, Pt 103 0)], [(103, .box 25 (eBig x_14))]⟩) rfl ⟨fun _ => .p (op_field_p tyFld25_1 rfl rfl), fun _ => .p (op_load_p1 tyOne4 rfl rfl rfl), fun _ => .p (op_field_p tyFld25_1 rfl rfl), fun _ => .p (op_load_p1 tyOne4 rfl rfl rfl), fun _ => .p (op_neq_bool und4 rfl rfl), fun _ => .p (lp tyAgg25), fun _ => .p (op_call0 (r3_digits_spec e17) goes85 rfl rfl), fun _ => .p (lp tyAgg25), fun _ => .p (op_call0 (r3_digits_spec e18) goes85 rfl rfl), fun _ => .p (op_call0 (r3_times_spec e19) goes84 rfl rfl), fun _ => .p (op_call0 (r3_number_spec e20) goes76 rfl rfl), trivial⟩ ⟨_, by exact .p (op_store_p tyAgg25 rfl rfl rfl rfl (Nat.le_of_ble_eq_true rfl) rfl), rfl⟩ rfl (Tri.ret ?_)
   obtain rfl := Option.some.inj h
   refine Fin.keepS ⟨[(4, Pt 103 0)], [(103, .box 25 (eBig x_14))]⟩ rfl (Fin.result' [.agg (eBig x_14)] (.inl rfl) rfl (.cons (.agg tyAgg25 rfl rfl rfl rfl) .nil) ⟨rfl, rfl⟩)
def r3_Add_S (F : Nat) (a0 : Big) (b0 : Big) : Option Big :=
 Option.bind (r3_word_S F a0) (un2 fun x_1 x_2 => Option.bind (r3_word_S F b0) (un2 fun x_3 x_4 => if (x_2 && x_4) = true then ((r3_Of_S F (IntKind.i64.wrap (x_1 + x_3))).bind fun x_5 => some x_5) else ((r3_Good_S F a0).bind fun x_6 => (gcall (!(!x_6)) (r3_Good_S F b0)).bind fun x_7 => if ((!x_6) || (!x_7)) = true then ((r3_Bad_S F).bind fun x_8 => some x_8) else ((r3_digits_S F a0).bind fun x_9 => (r3_digits_S F b0).bind fun x_10 => if (a0.Neg == b0.Neg) = true then ((r3_plus_S F x_9 x_10).bind fun x_11 => (r3_number_S F a0.Neg x_11).bind fun x_12 => some x_12) else ((r3_less_S F x_9 x_10).bind fun x_13 => if x_13 = true then ((r3_minus_S F x_10 x_9).bind fun x_14 => (r3_number_S F b0.Neg x_14).bind fun x_15 => some x_15) else ((r3_minus_S F x_9 x_10).bind fun x_16 => (r3_number_S F a0.Neg x_16).bind fun x_17 => some x_17))))))
theorem r3_Add_spec {F : Nat} {a0 : Big} {b0 : Big} {r : Big} (h : r3_Add_S F a0 b0 = some r) : Meets Tryz.prog (tabs mx) 100 [] [.agg (eBig a0), .agg (eBig b0)] (Is [] (.b (.agg (eBig r)))) := by
 unfold r3_Add_S at h
 refine Meets.intro 70 Tryz.func100 Tryz.ntmps100 rfl (by simp) fun E => ?_
 show Tri _ E ⟨70, [], []⟩ _ ⟨[(0, .b (.agg (eBig a0))), (1, .b (.agg (eBig b0)))], []⟩ _
 refine Tri.seq (Tri.regionL ?_)
 refine Oc (op_box (k := 101) rfl rfl) (Oc (op_box (k := 102) rfl rfl) (Oc (op_alloc (k := 103) tyZero25 rfl) ?_))
 refine OpsL.nilS ⟨[(2, Pt 101 0), (3, Pt 102 0), (4, Pt 103 0)], [(101, .box 25 (eBig a0)), (102, .box 25 (eBig b0)), (103, .box 25 zBig)]⟩ rfl (Tri.seq (Tri.regionL ?_))
 refine Oc (lp tyAgg25) ?_
 obtain ⟨⟨x_1, x_2⟩, e1, h⟩ := bnd h
 refine Oc (op_call0 (r3_word_spec e1) goes81 rfl rfl) (Oc om (Oc (op_extract rfl rfl) (Oc (op_extract rfl rfl) (Oc oa (Oc oa ?_)))))
 refine OpsL.nilS ⟨[(2, Pt 101 0), (3, Pt 102 0), (4, Pt 103 0), (5, I x_1), (6, B x_2)], [(101, .box 25 (eBig a0)), (102, .box 25 (eBig b0)), (103, .box 25 zBig)]⟩ rfl (Tri.seq (Tri.regionL ?_))
 refine Oc (lp tyAgg25) ?_
 obtain ⟨⟨x_3, x_4⟩, e2, h⟩ := bnd h
 refine Oc (op_call0 (r3_word_spec e2) goes81 rfl rfl) (Oc om (Oc (op_extract rfl rfl) (Oc (op_extract rfl rfl) (Oc oa (Oc oa ?_)))))
 refine OpsL.nilS ⟨[(2, Pt 101 0), (3, Pt 102 0), (4, Pt 103 0), (5, I x_1), (6, B x_2), (7, I x_3), (8, B x_4)], [(101, .box 25 (eBig a0)), (102, .box 25 (eBig b0)), (103, .box 25 zBig)]⟩ rfl (Tri.seq (Tri.seq (Tri.regionL ?_)))
 refine Oc om (Oc om ?_)
 refine CgT x_2 [] (fun g3 => trivial) (fun g3 => om) (Oc (op_pick_and (fun e => e) rfl rfl rfl rfl) (OpsL.nilS ⟨[(2, Pt 101 0), (3, Pt 102 0), (4, Pt 103 0), (5, I x_1), (7, I x_3), (25, B (x_2 && x_4))], [(101, .box 25 (eBig a0)), (102, .box 25 (eBig b0)), (103, .box 25 zBig)]⟩ rfl (Tri.ite h rfl (fun _ h => ?_) (fun _ h => ?_))))
 ·refine Tri.seq (Tri.regionL ?_)
  refine Oc om (Oc om (Oc (op_add rfl rfl) ?_))
  obtain ⟨x_5, e4, h⟩ := bnd h
  refine Oc (op_call0 (r3_Of_spec e4) goes12 rfl rfl) (Oc (op_store_p tyAgg25 rfl rfl rfl rfl (Nat.le_of_ble_eq_true rfl) rfl) ?_)
  refine OpsL.nilS ⟨[(4, Pt 103 0)], [(103, .box 25 (eBig x_5))]⟩ rfl (Tri.ret (Fin.then_ret ?_))
  obtain rfl := Option.some.inj h
  refine Fin.keepS ⟨[(4, Pt 103 0)], [(103, .box 25 (eBig x_5))]⟩ rfl (Fin.result' [.agg (eBig x_5)] (.inl rfl) rfl (.cons (.agg tyAgg25 rfl rfl rfl rfl) .nil) ⟨rfl, rfl⟩)
 ·refine Tri.skip (Fin.keepS ⟨[(2, Pt 101 0), (3, Pt 102 0), (4, Pt 103 0)], [(101, .box 25 (eBig a0)), (102, .box 25 (eBig b0)), (103, .box 25 zBig)]⟩ rfl (Fin.then (Tri.seq (Tri.seq (Tri.regionL ?_)))))
  refine Oc (lp tyAgg25) ?_
  obtain ⟨x_6, e5, h⟩ := bnd h
  refine Oc (op_call0 (r3_Good_spec e5) goes15 rfl rfl) (Oc (op_not rfl) (Oc om ?_))
  refine CgF (!(!x_6)) [] (fun g6 => trivial) (fun g6 => lp tyAgg25) (OpsL.keepS ⟨[(2, Pt 101 0), (3, Pt 102 0), (4, Pt 103 0), (33, B (!x_6)), (34, .opt (!(!x_6)) (.agg (eBig b0)))], [(101, .box 25 (eBig a0)), (102, .box 25 (eBig b0)), (103, .box 25 zBig)]⟩ rfl ?_)
  obtain ⟨x_7, e8, h⟩ := bnd h
  refine CgF (!(!x_6)) [34] (fun g7 => ⟨g7, trivial⟩) (fun g7 => op_call0 (r3_Good_spec (gc e8 g7)) goes15 rfl rfl) (CgF (!(!x_6)) [35] (fun g9 => ⟨g9, trivial⟩) (fun g9 => op_not rfl) (Oc (op_pick_or (fun e => by rw [e]; rfl) rfl rfl rfl rfl) (OpsL.nilS ⟨[(2, Pt 101 0), (3, Pt 102 0), (4, Pt 103 0), (37, B ((!x_6) || (!x_7)))], [(101, .box 25 (eBig a0)), (102, .box 25 (eBig b0)), (103, .box 25 zBig)]⟩ rfl (Tri.ite h rfl (fun _ h => ?_) (fun _ h => ?_)))))
  ·refine Tri.seq (Tri.regionL ?_)
   obtain ⟨x_8, e10, h⟩ := bnd h
   refine Oc (op_call0 (r3_Bad_spec e10) goes83 rfl rfl) (Oc (op_store_p tyAgg25 rfl rfl rfl rfl (Nat.le_of_ble_eq_true rfl) rfl) ?_)
   refine OpsL.nilS ⟨[(4, Pt 103 0)], [(103, .box 25 (eBig x_8))]⟩ rfl (Tri.ret (Fin.then_ret ?_))
   obtain rfl := Option.some.inj h
   refine Fin.keepS ⟨[(4, Pt 103 0)], [(103, .box 25 (eBig x_8))]⟩ rfl (Fin.result' [.agg (eBig x_8)] (.inl rfl) rfl (.cons (.agg tyAgg25 rfl rfl rfl rfl) .nil) ⟨rfl, rfl⟩)
  ·refine Tri.skip (Fin.keepS ⟨[(2, Pt 101 0), (3, Pt 102 0), (4, Pt 103 0)], [(101, .box 25 (eBig a0)), (102, .box 25 (eBig b0)), (103, .box 25 zBig)]⟩ rfl (Fin.then (Tri.seq (Tri.regionL ?_))))
   refine Oc (lp tyAgg25) ?_
   obtain ⟨x_9, e11, h⟩ := bnd h
   refine Oc (op_call0 (r3_digits_spec e11) goes85 rfl rfl) (Oc oa ?_)
   refine OpsL.nilS ⟨[(2, Pt 101 0), (3, Pt 102 0), (4, Pt 103 0), (9, .b (.one (.sl 1 (x_9.map eI))))], [(101, .box 25 (eBig a0)), (102, .box 25 (eBig b0)), (103, .box 25 zBig)]⟩ rfl (Tri.seq (Tri.regionL ?_))
   refine Oc (lp tyAgg25) ?_
   obtain ⟨x_10, e12, h⟩ := bnd h
   refine Oc (op_call0 (r3_digits_spec e12) goes85 rfl rfl) (Oc oa ?_)
   refine OpsL.nilS ⟨[(2, Pt 101 0), (3, Pt 102 0), (4, Pt 103 0), (9, .b (.one (.sl 1 (x_9.map eI)))), (10, .b (.one (.sl 1 (x_10.map eI))))], [(101, .box 25 (eBig a0)), (102, .box 25 (eBig b0)), (103, .box 25 zBig)]⟩ rfl (Tri.seq (Tri.seq (Tri.regionL ?_)))
   refine Oc (op_field_p tyFld25_1 rfl rfl) (Oc (op_load_p1 tyOne4 rfl rfl rfl) (Oc (op_field_p tyFld25_1 rfl rfl) (Oc (op_load_p1 tyOne4 rfl rfl rfl) (Oc (op_eql_bool und4 rfl rfl) ?_))))
   refine OpsL.nilS ⟨[(2, Pt 101 0), (3, Pt 102 0), (4, Pt 103 0), (9, .b (.one (.sl 1 (x_9.map eI)))), (10, .b (.one (.sl 1 (x_10.map eI)))), (47, B (a0.Neg == b0.Neg))], [(101, .box 25 (eBig a0)), (102, .box 25 (eBig b0)), (103, .box 25 zBig)]⟩ rfl (Tri.ite h rfl (fun _ h => ?_) (fun _ h => ?_))
   ·refine Tri.seq (Tri.keepS ⟨[(2, Pt 101 0), (4, Pt 103 0), (9, .b (.one (.sl 1 (x_9.map eI)))), (10, .b (.one (.sl 1 (x_10.map eI))))], [(101, .box 25 (eBig a0)), (103, .box 25 zBig)]⟩ rfl ?_)
    obtain ⟨x_11, e13, h⟩ := bnd h
    obtain ⟨x_12, e14, h⟩ := bnd h
    refine Tri.regionY mixed 6 [Pt 101 1, B a0.Neg, .b (.one (.sl 1 (x_9.map eI))), .b (.one (.sl 1 (x_10.map eI))), .b (.one (.sl 1 (x_11.map eI))), .b (.agg (eBig x_12))] [4] [103] (s' := ⟨[(4, Pt 103 0)], [(103, .box 25 (eBig x_12))]⟩) rfl ⟨fun _ => .p (op_field_p tyFld25_1 rfl rfl), fun _ => .p (op_load_p1 tyOne4 rfl rfl rfl), fun _ => .p om, fun _ => .p om, fun _ => .p (op_call0 (r3_plus_spec e13) goes77 rfl rfl), fun _ => .p (op_call0 (r3_number_spec e14) goes76 rfl rfl), trivial⟩ ⟨_, by exact .p (op_store_p tyAgg25 rfl rfl rfl rfl (Nat.le_of_ble_eq_true rfl) rfl), rfl⟩ rfl (Tri.ret (Fin.then_ret ?_))
    obtain rfl := Option.some.inj h
    refine Fin.keepS ⟨[(4, Pt 103 0)], [(103, .box 25 (eBig x_12))]⟩ rfl (Fin.result' [.agg (eBig x_12)] (.inl rfl) rfl (.cons (.agg tyAgg25 rfl rfl rfl rfl) .nil) ⟨rfl, rfl⟩)
   ·refine Tri.skip (Fin.keepS ⟨[(2, Pt 101 0), (3, Pt 102 0), (4, Pt 103 0), (9, .b (.one (.sl 1 (x_9.map eI)))), (10, .b (.one (.sl 1 (x_10.map eI))))], [(101, .box 25 (eBig a0)), (102, .box 25 (eBig b0)), (103, .box 25 zBig)]⟩ rfl (Fin.then (Tri.seq (Tri.regionL ?_))))
    refine Oc om (Oc om ?_)
    obtain ⟨x_13, e15, h⟩ := bnd h
    refine Oc (op_call0 (r3_less_spec e15) goes131 rfl rfl) (Oc oa ?_)
    refine OpsL.nilS ⟨[(2, Pt 101 0), (3, Pt 102 0), (4, Pt 103 0), (9, .b (.one (.sl 1 (x_9.map eI)))), (10, .b (.one (.sl 1 (x_10.map eI)))), (11, B x_13)], [(101, .box 25 (eBig a0)), (102, .box 25 (eBig b0)), (103, .box 25 zBig)]⟩ rfl (Tri.seq (Tri.seq (Tri.regionL ?_)))
    refine Oc om (OpsL.nilS ⟨[(2, Pt 101 0), (3, Pt 102 0), (4, Pt 103 0), (9, .b (.one (.sl 1 (x_9.map eI)))), (10, .b (.one (.sl 1 (x_10.map eI)))), (57, B x_13)], [(101, .box 25 (eBig a0)), (102, .box 25 (eBig b0)), (103, .box 25 zBig)]⟩ rfl (Tri.ite h rfl (fun _ h => ?_) (fun _ h => ?_)))
    ·refine Tri.seq (Tri.keepS ⟨[(3, Pt 102 0), (4, Pt 103 0), (9, .b (.one (.sl 1 (x_9.map eI)))), (10, .b (.one (.sl 1 (x_10.map eI))))], [(102, .box 25 (eBig b0)), (103, .box 25 zBig)]⟩ rfl ?_)
     obtain ⟨x_14, e16, h⟩ := bnd h
     obtain ⟨x_15, e17, h⟩ := bnd h
     refine Tri.regionY mixed 6 [Pt 102 1, B b0.Neg, .b (.one (.sl 1 (x_10.map eI))), .b (.one (.sl 1 (x_9.map eI))), .b (.one (.sl 1 (x_14.map eI))), .b (.agg (eBig x_15))] [4] [103] (s' := ⟨[(4, Pt 103 0)], [(103, .box 25 (eBig x_15))]⟩) rfl ⟨fun _ => .p (op_field_p tyFld25_1 rfl rfl), fun _ => .p (op_load_p1 tyOne4 rfl rfl rfl), fun _ => .p om, fun _ => .p om, fun _ => .p (op_call0 (r3_minus_spec e16) goes130 rfl rfl), fun _ => .p (op_call0 (r3_number_spec e17) goes76 rfl rfl), trivial⟩ ⟨_, by exact .p (op_store_p tyAgg25 rfl rfl rfl rfl (Nat.le_of_ble_eq_true rfl) rfl), rfl⟩ rfl (Tri.ret (Fin.then_ret ?_))
     obtain rfl := Option.some.inj h
     refine Fin.keepS ⟨[(4, Pt 103 0)], [(103, .box 25 (eBig x_15))]⟩ rfl (Fin.result' [.agg (eBig x_15)] (.inl rfl) rfl (.cons (.agg tyAgg25 rfl rfl rfl rfl) .nil) ⟨rfl, rfl⟩)
    ·refine Tri.skip (Fin.keepS ⟨[(2, Pt 101 0), (4, Pt 103 0), (9, .b (.one (.sl 1 (x_9.map eI)))), (10, .b (.one (.sl 1 (x_10.map eI))))], [(101, .box 25 (eBig a0)), (103, .box 25 zBig)]⟩ rfl (Fin.then (Tri.seq ?_)))
     refine Tri.keepS ⟨[(2, Pt 101 0), (4, Pt 103 0), (9, .b (.one (.sl 1 (x_9.map eI)))), (10, .b (.one (.sl 1 (x_10.map eI))))], [(101, .box 25 (eBig a0)), (103, .box 25 zBig)]⟩ rfl ?_
     obtain ⟨x_16, e18, h⟩ := bnd h
     obtain ⟨x_17, e19, h⟩ := bnd h
     refine Tri.regionY mixed 6 [Pt 101 1, B a0.Neg, .b (.one (.sl 1 (x_9.map eI))), .b (.one (.sl 1 (x_10.map eI))), .b (.one (.sl 1 (x_16.map eI))), .b (.agg (eBig x_17))] [4] [103] (s' := ⟨[(4, Pt 103 0)], [(103, .box 25 (eBig x_17))]⟩) rfl ⟨fun _ => .p (op_field_p tyFld25_1 rfl rfl), fun _ => .p (op_load_p1 tyOne4 rfl rfl rfl), fun _ => .p om, fun _ => .p om, fun _ => .p (op_call0 (r3_minus_spec e18) goes130 rfl rfl), fun _ => .p (op_call0 (r3_number_spec e19) goes76 rfl rfl), trivial⟩ ⟨_, by exact .p (op_store_p tyAgg25 rfl rfl rfl rfl (Nat.le_of_ble_eq_true rfl) rfl), rfl⟩ rfl (Tri.ret ?_)
     obtain rfl := Option.some.inj h
     refine Fin.keepS ⟨[(4, Pt 103 0)], [(103, .box 25 (eBig x_17))]⟩ rfl (Fin.result' [.agg (eBig x_17)] (.inl rfl) rfl (.cons (.agg tyAgg25 rfl rfl rfl rfl) .nil) ⟨rfl, rfl⟩)
def r3_Neg_S (F : Nat) (x0 : Big) : Option Big :=
 (r3_Good_S F x0).bind fun x_1 => if (!x_1) = true then ((r3_Bad_S F).bind fun x_2 => some x_2) else ((r3_digits_S F x0).bind fun x_3 => (r3_number_S F (!x0.Neg) x_3).bind fun x_4 => some x_4)
theorem r3_Neg_spec {F : Nat} {x0 : Big} {r : Big} (h : r3_Neg_S F x0 = some r) : Meets Tryz.prog (tabs mx) 88 [] [.agg (eBig x0)] (Is [] (.b (.agg (eBig r)))) := by
 unfold r3_Neg_S at h
 refine Meets.intro 13 Tryz.func88 Tryz.ntmps88 rfl (by simp) fun E => ?_
 show Tri _ E ⟨13, [], []⟩ _ ⟨[(0, .b (.agg (eBig x0)))], []⟩ _
 refine Tri.seq (Tri.regionL ?_)
 refine Oc (op_box (k := 101) rfl rfl) (Oc (op_alloc (k := 102) tyZero25 rfl) ?_)
 refine OpsL.nilS ⟨[(1, Pt 101 0), (2, Pt 102 0)], [(101, .box 25 (eBig x0)), (102, .box 25 zBig)]⟩ rfl (Tri.seq (Tri.seq (Tri.regionL ?_)))
 refine Oc (lp tyAgg25) ?_
 obtain ⟨x_1, e1, h⟩ := bnd h
 refine Oc (op_call0 (r3_Good_spec e1) goes15 rfl rfl) (Oc (op_not rfl) ?_)
 refine OpsL.nilS ⟨[(1, Pt 101 0), (2, Pt 102 0), (5, B (!x_1))], [(101, .box 25 (eBig x0)), (102, .box 25 zBig)]⟩ rfl (Tri.ite h rfl (fun _ h => ?_) (fun _ h => ?_))
 ·refine Tri.seq (Tri.regionL ?_)
  obtain ⟨x_2, e2, h⟩ := bnd h
  refine Oc (op_call0 (r3_Bad_spec e2) goes83 rfl rfl) (Oc (op_store_p tyAgg25 rfl rfl rfl rfl (Nat.le_of_ble_eq_true rfl) rfl) ?_)
  refine OpsL.nilS ⟨[(2, Pt 102 0)], [(102, .box 25 (eBig x_2))]⟩ rfl (Tri.ret (Fin.then_ret ?_))
  obtain rfl := Option.some.inj h
  refine Fin.keepS ⟨[(2, Pt 102 0)], [(102, .box 25 (eBig x_2))]⟩ rfl (Fin.result' [.agg (eBig x_2)] (.inl rfl) rfl (.cons (.agg tyAgg25 rfl rfl rfl rfl) .nil) ⟨rfl, rfl⟩)
 ·refine Tri.skip (Fin.keepS ⟨[(1, Pt 101 0), (2, Pt 102 0)], [(101, .box 25 (eBig x0)), (102, .box 25 zBig)]⟩ rfl (Fin.then (Tri.seq ?_)))
  refine Tri.keepS ⟨[(1, Pt 101 0), (2, Pt 102 0)], [(101, .box 25 (eBig x0)), (102, .box 25 zBig)]⟩ rfl ?_
  obtain ⟨x_3, e3, h⟩ := bnd h
  obtain ⟨x_4, e4, h⟩ := bnd h
  refine Tri.regionY mixed 6 [Pt 101 1, B x0.Neg, B (!x0.Neg), .b (.agg (eBig x0)), .b (.one (.sl 1 (x_3.map eI))), .b (.agg (eBig x_4))] [2] [102] (s' := ⟨[(2, Pt 102 0)], [(102, .box 25 (eBig x_4))]⟩) rfl ⟨fun _ => .p (op_field_p tyFld25_1 rfl rfl), fun _ => .p (op_load_p1 tyOne4 rfl rfl rfl), fun _ => .p (op_not rfl), fun _ => .p (lp tyAgg25), fun _ => .p (op_call0 (r3_digits_spec e3) goes85 rfl rfl), fun _ => .p (op_call0 (r3_number_spec e4) goes76 rfl rfl), trivial⟩ ⟨_, by exact .p (op_store_p tyAgg25 rfl rfl rfl rfl (Nat.le_of_ble_eq_true rfl) rfl), rfl⟩ rfl (Tri.ret ?_)
  obtain rfl := Option.some.inj h
  refine Fin.keepS ⟨[(2, Pt 102 0)], [(102, .box 25 (eBig x_4))]⟩ rfl (Fin.result' [.agg (eBig x_4)] (.inl rfl) rfl (.cons (.agg tyAgg25 rfl rfl rfl rfl) .nil) ⟨rfl, rfl⟩)
def r4_Make_S (F : Nat) (n0 : Big) (d0 : Big) : Option Frc :=
 (r3_Good_S F n0).bind fun x_1 => (gcall (!(!x_1)) (r3_Good_S F d0)).bind fun x_2 => (gcall (!((!x_1) || (!x_2))) (r3_Sign_S F d0)).bind fun x_3 => if (((!x_1) || (!x_2)) || (decide (x_3 = 0))) = true then ((r4_Bad_S F).bind fun x_4 => some x_4) else ((r3_Gcd_S F n0 d0).bind fun x_5 => Option.bind ((r3_Sign_S F d0).bind fun x_7 => if (decide (x_7 < 0)) = true then ((r3_Neg_S F x_5).bind fun x_8 => some x_8) else (some x_5)) (fun g_6 => (r3_Quo_S F n0 g_6).bind fun x_9 => (r3_Quo_S F d0 g_6).bind fun x_10 => some (⟨x_9, x_10⟩ : Frc)))
theorem r4_Make_spec {F : Nat} {n0 : Big} {d0 : Big} {r : Frc} (h : r4_Make_S F n0 d0 = some r) : Meets Tryz.prog (tabs mx) 17 [] [.agg (eBig n0), .agg (eBig d0)] (Is [] (.b (.agg (eFrc r)))) := by
 unfold r4_Make_S at h
 refine Meets.intro 35 Tryz.func17 Tryz.ntmps17 rfl (by simp) fun E => ?_
 show Tri _ E ⟨35, [], []⟩ _ ⟨[(0, .b (.agg (eBig n0))), (1, .b (.agg (eBig d0)))], []⟩ _
 refine Tri.seq (Tri.regionL ?_)
 refine Oc (op_box (k := 101) rfl rfl) (Oc (op_box (k := 102) rfl rfl) (Oc (op_alloc (k := 103) tyZero27 rfl) ?_))
 refine OpsL.nilS ⟨[(2, Pt 101 0), (3, Pt 102 0), (4, Pt 103 0)], [(101, .box 25 (eBig n0)), (102, .box 25 (eBig d0)), (103, .box 27 zFrc)]⟩ rfl (Tri.seq (Tri.seq (Tri.regionL ?_)))
 refine Oc (lp tyAgg25) ?_
 obtain ⟨x_1, e1, h⟩ := bnd h
 refine Oc (op_call0 (r3_Good_spec e1) goes15 rfl rfl) (Oc (op_not rfl) (Oc om ?_))
 refine CgF (!(!x_1)) [] (fun g2 => trivial) (fun g2 => lp tyAgg25) (OpsL.keepS ⟨[(2, Pt 101 0), (3, Pt 102 0), (4, Pt 103 0), (9, B (!x_1)), (10, .opt (!(!x_1)) (.agg (eBig d0)))], [(101, .box 25 (eBig n0)), (102, .box 25 (eBig d0)), (103, .box 27 zFrc)]⟩ rfl ?_)
 obtain ⟨x_2, e4, h⟩ := bnd h
 refine CgF (!(!x_1)) [10] (fun g3 => ⟨g3, trivial⟩) (fun g3 => op_call0 (r3_Good_spec (gc e4 g3)) goes15 rfl rfl) (CgF (!(!x_1)) [11] (fun g5 => ⟨g5, trivial⟩) (fun g5 => op_not rfl) (Oc (op_pick_or (fun e => by rw [e]; rfl) rfl rfl rfl rfl) (Oc om ?_)))
 refine CgF (!((!x_1) || (!x_2))) [] (fun g6 => trivial) (fun g6 => lp tyAgg25) ?_
 obtain ⟨x_3, e8, h⟩ := bnd h
 refine CgF (!((!x_1) || (!x_2))) [15] (fun g7 => ⟨g7, trivial⟩) (fun g7 => op_call0 (r3_Sign_spec (gc e8 g7)) goes78 rfl rfl) (CgF (!((!x_1) || (!x_2))) [16] (fun g9 => ⟨g9, trivial⟩) (fun g9 => op_eql rfl rfl) (Oc (op_pick_or (fun e => by rw [e]; rfl) rfl rfl rfl rfl) (OpsL.nilS ⟨[(2, Pt 101 0), (3, Pt 102 0), (4, Pt 103 0), (18, B (((!x_1) || (!x_2)) || (decide (x_3 = 0))))], [(101, .box 25 (eBig n0)), (102, .box 25 (eBig d0)), (103, .box 27 zFrc)]⟩ rfl (Tri.ite h rfl (fun _ h => ?_) (fun _ h => ?_)))))
 ·refine Tri.seq (Tri.regionL ?_)
  obtain ⟨x_4, e10, h⟩ := bnd h
  refine Oc (op_call0 (r4_Bad_spec e10) goes28 rfl rfl) (Oc (op_store_p tyAgg27 rfl rfl rfl rfl (Nat.le_of_ble_eq_true rfl) rfl) ?_)
  refine OpsL.nilS ⟨[(4, Pt 103 0)], [(103, .box 27 (eFrc x_4))]⟩ rfl (Tri.ret (Fin.then_ret ?_))
  obtain rfl := Option.some.inj h
  refine Fin.keepS ⟨[(4, Pt 103 0)], [(103, .box 27 (eFrc x_4))]⟩ rfl (Fin.result' [.agg (eFrc x_4)] (.inl rfl) rfl (.cons (.agg tyAgg27 rfl rfl rfl rfl) .nil) ⟨rfl, rfl⟩)
 ·refine Tri.skip (Fin.keepS ⟨[(2, Pt 101 0), (3, Pt 102 0), (4, Pt 103 0)], [(101, .box 25 (eBig n0)), (102, .box 25 (eBig d0)), (103, .box 27 zFrc)]⟩ rfl (Fin.then (Tri.seq (Tri.regionL ?_))))
  refine Oc (lp tyAgg25) (Oc (lp tyAgg25) ?_)
  obtain ⟨x_5, e11, h⟩ := bnd h
  refine Oc (op_call0 (r3_Gcd_spec e11) goes79 rfl rfl) (Oc (op_alloc (k := 104) tyZero25 rfl) (Oc (op_store_p tyAgg25 rfl rfl rfl rfl (Nat.le_of_ble_eq_true rfl) rfl) ?_))
  refine OpsL.nilS ⟨[(2, Pt 101 0), (3, Pt 102 0), (4, Pt 103 0), (5, Pt 104 0)], [(101, .box 25 (eBig n0)), (102, .box 25 (eBig d0)), (103, .box 27 zFrc), (104, .box 25 (eBig x_5))]⟩ rfl ?_
  obtain ⟨v12, h13, h⟩ := bnd h
  refine Tri.seqJ (v := v12) (fun (g_6 : Big) => ⟨[(2, Pt 101 0), (3, Pt 102 0), (4, Pt 103 0), (5, Pt 104 0)], [(101, .box 25 (eBig n0)), (102, .box 25 (eBig d0)), (103, .box 27 zFrc), (104, .box 25 (eBig g_6))]⟩) (fun z => z) ?_ ?_
  ·refine Tri.seq (Tri.regionL ?_)
   refine Oc (lp tyAgg25) ?_
   obtain ⟨x_7, e14, h13⟩ := bnd h13
   refine Oc (op_call0 (r3_Sign_spec e14) goes78 rfl rfl) (Oc (op_lss rfl rfl) ?_)
   refine OpsL.nilS ⟨[(2, Pt 101 0), (3, Pt 102 0), (4, Pt 103 0), (5, Pt 104 0), (25, B (decide (x_7 < 0)))], [(101, .box 25 (eBig n0)), (102, .box 25 (eBig d0)), (103, .box 27 zFrc), (104, .box 25 (eBig x_5))]⟩ rfl (Tri.ite h13 rfl (fun _ h13 => ?_) (fun _ h13 => ?_))
   ·refine Tri.regionL (Oc (lp tyAgg25) ?_)
    obtain ⟨x_8, e15, h13⟩ := bnd h13
    refine Oc (op_call0 (r3_Neg_spec e15) goes88 rfl rfl) (Oc (op_store_p tyAgg25 rfl rfl rfl rfl (Nat.le_of_ble_eq_true rfl) rfl) ?_)
    refine OpsL.nil ?_
    exact Fin.join [2, 3, 4, 5] [101, 102, 103, 104] x_8 (Option.some.inj h13) rfl
   ·refine Tri.skip ?_
    exact Fin.join [2, 3, 4, 5] [101, 102, 103, 104] x_5 (Option.some.inj h13) rfl
  ·rintro g_6 hv
   subst v12
   refine Tri.seq (Tri.keepS ⟨[(2, Pt 101 0), (3, Pt 102 0), (4, Pt 103 0), (5, Pt 104 0)], [(101, .box 25 (eBig n0)), (102, .box 25 (eBig d0)), (103, .box 27 zFrc), (104, .box 25 (eBig g_6))]⟩ rfl ?_)
   obtain ⟨x_9, e16, h⟩ := bnd h
   obtain ⟨x_10, e17, h⟩ := bnd h
   refine Tri.regionY mixed 7 [.b (.agg (eBig n0)), .b (.agg (eBig g_6)), .b (.agg (eBig x_9)), .b (.agg (eBig d0)), .b (.agg (eBig g_6)), .b (.agg (eBig x_10)), .b (.agg (eBig x_9 ++ (eBig x_10)))] [4] [103] (s' := ⟨[(4, Pt 103 0)], [(103, .box 27 (eBig x_9 ++ (eBig x_10)))]⟩) rfl ⟨fun _ => .p (lp tyAgg25), fun _ => .p (lp tyAgg25), fun _ => .p (op_call0 (r3_Quo_spec e16) goes89 rfl rfl), fun _ => .p (lp tyAgg25), fun _ => .p (lp tyAgg25), fun _ => .p (op_call0 (r3_Quo_spec e17) goes89 rfl rfl), fun _ => .p (op_build tyBuild27 rfl rfl), trivial⟩ ⟨_, by exact .p (op_store_p tyAgg27 rfl rfl rfl rfl (Nat.le_of_ble_eq_true rfl) rfl), rfl⟩ rfl (Tri.ret ?_)
   obtain rfl := Option.some.inj h
   refine Fin.keepS ⟨[(4, Pt 103 0)], [(103, .box 27 (eBig x_9 ++ (eBig x_10)))]⟩ rfl (Fin.result' [.agg (eBig x_9 ++ (eBig x_10))] (.inl rfl) rfl (.cons (.agg tyAgg27 rfl rfl rfl rfl) .nil) ⟨rfl, rfl⟩)
def r4_Add_S (F : Nat) (x0 : Frc) (y0 : Frc) : Option Frc :=
 (r4_Good_S F x0).bind fun x_1 => (gcall (!(!x_1)) (r4_Good_S F y0)).bind fun x_2 => if ((!x_1) || (!x_2)) = true then ((r4_Bad_S F).bind fun x_3 => some x_3) else ((r3_Gcd_S F x0.D y0.D).bind fun x_4 => (r3_Quo_S F x0.D x_4).bind fun x_5 => (r3_Quo_S F y0.D x_4).bind fun x_6 => (r3_Mul_S F x0.N x_6).bind fun x_7 => (r3_Mul_S F y0.N x_5).bind fun x_8 => (r3_Add_S F x_7 x_8).bind fun x_9 => (r3_Mul_S F x_5 y0.D).bind fun x_10 => (r4_Make_S F x_9 x_10).bind fun x_11 => some x_11)
theorem r4_Add_spec {F : Nat} {x0 : Frc} {y0 : Frc} {r : Frc} (h : r4_Add_S F x0 y0 = some r) : Meets Tryz.prog (tabs mx) 56 [] [.agg (eFrc x0), .agg (eFrc y0)] (Is [] (.b (.agg (eFrc r)))) := by
 unfold r4_Add_S at h
 refine Meets.intro 44 Tryz.func56 Tryz.ntmps56 rfl (by simp) fun E => ?_
 show Tri _ E ⟨44, [], []⟩ _ ⟨[(0, .b (.agg (eFrc x0))), (1, .b (.agg (eFrc y0)))], []⟩ _
 refine Tri.seq (Tri.regionL ?_)
 refine Oc (op_box (k := 101) rfl rfl) (Oc (op_box (k := 102) rfl rfl) (Oc (op_alloc (k := 103) tyZero27 rfl) ?_))
 refine OpsL.nilS ⟨[(2, Pt 101 0), (3, Pt 102 0), (4, Pt 103 0)], [(101, .box 27 (eFrc x0)), (102, .box 27 (eFrc y0)), (103, .box 27 zFrc)]⟩ rfl (Tri.seq (Tri.seq (Tri.regionL ?_)))
 refine Oc (lp tyAgg27) ?_
 obtain ⟨x_1, e1, h⟩ := bnd h
 refine Oc (op_call0 (r4_Good_spec e1) goes13 rfl rfl) (Oc (op_not rfl) (Oc om ?_))
 refine CgF (!(!x_1)) [] (fun g2 => trivial) (fun g2 => lp tyAgg27) (OpsL.keepS ⟨[(2, Pt 101 0), (3, Pt 102 0), (4, Pt 103 0), (11, B (!x_1)), (12, .opt (!(!x_1)) (.agg (eFrc y0)))], [(101, .box 27 (eFrc x0)), (102, .box 27 (eFrc y0)), (103, .box 27 zFrc)]⟩ rfl ?_)
 obtain ⟨x_2, e4, h⟩ := bnd h
 refine CgF (!(!x_1)) [12] (fun g3 => ⟨g3, trivial⟩) (fun g3 => op_call0 (r4_Good_spec (gc e4 g3)) goes13 rfl rfl) (CgF (!(!x_1)) [13] (fun g5 => ⟨g5, trivial⟩) (fun g5 => op_not rfl) (Oc (op_pick_or (fun e => by rw [e]; rfl) rfl rfl rfl rfl) (OpsL.nilS ⟨[(2, Pt 101 0), (3, Pt 102 0), (4, Pt 103 0), (15, B ((!x_1) || (!x_2)))], [(101, .box 27 (eFrc x0)), (102, .box 27 (eFrc y0)), (103, .box 27 zFrc)]⟩ rfl (Tri.ite h rfl (fun _ h => ?_) (fun _ h => ?_)))))
 ·refine Tri.seq (Tri.regionL ?_)
  obtain ⟨x_3, e6, h⟩ := bnd h
  refine Oc (op_call0 (r4_Bad_spec e6) goes28 rfl rfl) (Oc (op_store_p tyAgg27 rfl rfl rfl rfl (Nat.le_of_ble_eq_true rfl) rfl) ?_)
  refine OpsL.nilS ⟨[(4, Pt 103 0)], [(103, .box 27 (eFrc x_3))]⟩ rfl (Tri.ret (Fin.then_ret ?_))
  obtain rfl := Option.some.inj h
  refine Fin.keepS ⟨[(4, Pt 103 0)], [(103, .box 27 (eFrc x_3))]⟩ rfl (Fin.result' [.agg (eFrc x_3)] (.inl rfl) rfl (.cons (.agg tyAgg27 rfl rfl rfl rfl) .nil) ⟨rfl, rfl⟩)
 ·refine Tri.skip (Fin.keepS ⟨[(2, Pt 101 0), (3, Pt 102 0), (4, Pt 103 0)], [(101, .box 27 (eFrc x0)), (102, .box 27 (eFrc y0)), (103, .box 27 zFrc)]⟩ rfl (Fin.then (Tri.seq (Tri.regionL ?_))))
  refine Oc (op_field_p tyFld27_1 rfl rfl) (Oc (lp tyAgg25) (Oc (op_field_p tyFld27_1 rfl rfl) (Oc (lp tyAgg25) ?_)))
  obtain ⟨x_4, e7, h⟩ := bnd h
  refine Oc (op_call0 (r3_Gcd_spec e7) goes79 rfl rfl) (Oc (op_alloc (k := 104) tyZero25 rfl) (Oc (op_store_p tyAgg25 rfl rfl rfl rfl (Nat.le_of_ble_eq_true rfl) rfl) ?_))
  refine OpsL.nilS ⟨[(2, Pt 101 0), (3, Pt 102 0), (4, Pt 103 0), (5, Pt 104 0)], [(101, .box 27 (eFrc x0)), (102, .box 27 (eFrc y0)), (103, .box 27 zFrc), (104, .box 25 (eBig x_4))]⟩ rfl (Tri.seq (Tri.regionL ?_))
  refine Oc (op_field_p tyFld27_1 rfl rfl) (Oc (lp tyAgg25) (Oc (lp tyAgg25) ?_))
  obtain ⟨x_5, e8, h⟩ := bnd h
  refine Oc (op_call0 (r3_Quo_spec e8) goes89 rfl rfl) (Oc (op_alloc (k := 105) tyZero25 rfl) (Oc (op_store_p tyAgg25 rfl rfl rfl rfl (Nat.le_of_ble_eq_true rfl) rfl) ?_))
  refine OpsL.nilS ⟨[(2, Pt 101 0), (3, Pt 102 0), (4, Pt 103 0), (5, Pt 104 0), (6, Pt 105 0)], [(101, .box 27 (eFrc x0)), (102, .box 27 (eFrc y0)), (103, .box 27 zFrc), (104, .box 25 (eBig x_4)), (105, .box 25 (eBig x_5))]⟩ rfl (Tri.seq (Tri.regionL ?_))
  refine Oc (op_field_p tyFld27_1 rfl rfl) (Oc (lp tyAgg25) (Oc (lp tyAgg25) ?_))
  obtain ⟨x_6, e9, h⟩ := bnd h
  refine Oc (op_call0 (r3_Quo_spec e9) goes89 rfl rfl) (Oc (op_alloc (k := 106) tyZero25 rfl) (Oc (op_store_p tyAgg25 rfl rfl rfl rfl (Nat.le_of_ble_eq_true rfl) rfl) ?_))
  refine OpsL.nilS ⟨[(2, Pt 101 0), (3, Pt 102 0), (4, Pt 103 0), (6, Pt 105 0), (7, Pt 106 0)], [(101, .box 27 (eFrc x0)), (102, .box 27 (eFrc y0)), (103, .box 27 zFrc), (105, .box 25 (eBig x_5)), (106, .box 25 (eBig x_6))]⟩ rfl (Tri.seq ?_)
  obtain ⟨x_7, e10, h⟩ := bnd h
  obtain ⟨x_8, e11, h⟩ := bnd h
  obtain ⟨x_9, e12, h⟩ := bnd h
  obtain ⟨x_10, e13, h⟩ := bnd h
  obtain ⟨x_11, e14, h⟩ := bnd h
  refine Tri.regionY mixed 14 [Pt 101 0, .b (.agg (eBig x0.N)), .b (.agg (eBig x_6)), .b (.agg (eBig x_7)), Pt 102 0, .b (.agg (eBig y0.N)), .b (.agg (eBig x_5)), .b (.agg (eBig x_8)), .b (.agg (eBig x_9)), .b (.agg (eBig x_5)), Pt 102 18, .b (.agg (eBig y0.D)), .b (.agg (eBig x_10)), .b (.agg (eFrc x_11))] [4] [103] (s' := ⟨[(4, Pt 103 0)], [(103, .box 27 (eFrc x_11))]⟩) rfl ⟨fun _ => .p (op_field_p tyFld27_0 rfl rfl), fun _ => .p (lp tyAgg25), fun _ => .p (lp tyAgg25), fun _ => .p (op_call0 (r3_Mul_spec e10) goes14 rfl rfl), fun _ => .p (op_field_p tyFld27_0 rfl rfl), fun _ => .p (lp tyAgg25), fun _ => .p (lp tyAgg25), fun _ => .p (op_call0 (r3_Mul_spec e11) goes14 rfl rfl), fun _ => .p (op_call0 (r3_Add_spec e12) goes100 rfl rfl), fun _ => .p (lp tyAgg25), fun _ => .p (op_field_p tyFld27_1 rfl rfl), fun _ => .p (lp tyAgg25), fun _ => .p (op_call0 (r3_Mul_spec e13) goes14 rfl rfl), fun _ => .p (op_call0 (r4_Make_spec e14) goes17 rfl rfl), trivial⟩ ⟨_, by exact .p (op_store_p tyAgg27 rfl rfl rfl rfl (Nat.le_of_ble_eq_true rfl) rfl), rfl⟩ rfl (Tri.ret ?_)
  obtain rfl := Option.some.inj h
  refine Fin.keepS ⟨[(4, Pt 103 0)], [(103, .box 27 (eFrc x_11))]⟩ rfl (Fin.result' [.agg (eFrc x_11)] (.inl rfl) rfl (.cons (.agg tyAgg27 rfl rfl rfl rfl) .nil) ⟨rfl, rfl⟩)
def r4_Neg_S (F : Nat) (x0 : Frc) : Option Frc :=
 (r4_Good_S F x0).bind fun x_1 => if (!x_1) = true then ((r4_Bad_S F).bind fun x_2 => some x_2) else ((r3_Neg_S F x0.N).bind fun x_3 => some (⟨x_3, x0.D⟩ : Frc))
theorem r4_Neg_spec {F : Nat} {x0 : Frc} {r : Frc} (h : r4_Neg_S F x0 = some r) : Meets Tryz.prog (tabs mx) 60 [] [.agg (eFrc x0)] (Is [] (.b (.agg (eFrc r)))) := by
 unfold r4_Neg_S at h
 refine Meets.intro 13 Tryz.func60 Tryz.ntmps60 rfl (by simp) fun E => ?_
 show Tri _ E ⟨13, [], []⟩ _ ⟨[(0, .b (.agg (eFrc x0)))], []⟩ _
 refine Tri.seq (Tri.regionL ?_)
 refine Oc (op_box (k := 101) rfl rfl) (Oc (op_alloc (k := 102) tyZero27 rfl) ?_)
 refine OpsL.nilS ⟨[(1, Pt 101 0), (2, Pt 102 0)], [(101, .box 27 (eFrc x0)), (102, .box 27 zFrc)]⟩ rfl (Tri.seq (Tri.seq (Tri.regionL ?_)))
 refine Oc (lp tyAgg27) ?_
 obtain ⟨x_1, e1, h⟩ := bnd h
 refine Oc (op_call0 (r4_Good_spec e1) goes13 rfl rfl) (Oc (op_not rfl) ?_)
 refine OpsL.nilS ⟨[(1, Pt 101 0), (2, Pt 102 0), (5, B (!x_1))], [(101, .box 27 (eFrc x0)), (102, .box 27 zFrc)]⟩ rfl (Tri.ite h rfl (fun _ h => ?_) (fun _ h => ?_))
 ·refine Tri.seq (Tri.regionL ?_)
  obtain ⟨x_2, e2, h⟩ := bnd h
  refine Oc (op_call0 (r4_Bad_spec e2) goes28 rfl rfl) (Oc (op_store_p tyAgg27 rfl rfl rfl rfl (Nat.le_of_ble_eq_true rfl) rfl) ?_)
  refine OpsL.nilS ⟨[(2, Pt 102 0)], [(102, .box 27 (eFrc x_2))]⟩ rfl (Tri.ret (Fin.then_ret ?_))
  obtain rfl := Option.some.inj h
  refine Fin.keepS ⟨[(2, Pt 102 0)], [(102, .box 27 (eFrc x_2))]⟩ rfl (Fin.result' [.agg (eFrc x_2)] (.inl rfl) rfl (.cons (.agg tyAgg27 rfl rfl rfl rfl) .nil) ⟨rfl, rfl⟩)
 ·refine Tri.skip (Fin.keepS ⟨[(1, Pt 101 0), (2, Pt 102 0)], [(101, .box 27 (eFrc x0)), (102, .box 27 zFrc)]⟩ rfl (Fin.then (Tri.seq ?_)))
  refine Tri.keepS ⟨[(1, Pt 101 0), (2, Pt 102 0)], [(101, .box 27 (eFrc x0)), (102, .box 27 zFrc)]⟩ rfl ?_
  obtain ⟨x_3, e3, h⟩ := bnd h
  refine Tri.regionY mixed 6 [Pt 101 0, .b (.agg (eBig x0.N)), .b (.agg (eBig x_3)), Pt 101 18, .b (.agg (eBig x0.D)), .b (.agg (eBig x_3 ++ (eBig x0.D)))] [2] [102] (s' := ⟨[(2, Pt 102 0)], [(102, .box 27 (eBig x_3 ++ (eBig x0.D)))]⟩) rfl ⟨fun _ => .p (op_field_p tyFld27_0 rfl rfl), fun _ => .p (lp tyAgg25), fun _ => .p (op_call0 (r3_Neg_spec e3) goes88 rfl rfl), fun _ => .p (op_field_p tyFld27_1 rfl rfl), fun _ => .p (lp tyAgg25), fun _ => .p (op_build tyBuild27 rfl rfl), trivial⟩ ⟨_, by exact .p (op_store_p tyAgg27 rfl rfl rfl rfl (Nat.le_of_ble_eq_true rfl) rfl), rfl⟩ rfl (Tri.ret ?_)
  obtain rfl := Option.some.inj h
  refine Fin.keepS ⟨[(2, Pt 102 0)], [(102, .box 27 (eBig x_3 ++ (eBig x0.D)))]⟩ rfl (Fin.result' [.agg (eBig x_3 ++ (eBig x0.D))] (.inl rfl) rfl (.cons (.agg tyAgg27 rfl rfl rfl rfl) .nil) ⟨rfl, rfl⟩)
def r4_Sub_S (F : Nat) (x0 : Frc) (y0 : Frc) : Option Frc :=
 (r4_Neg_S F y0).bind fun x_1 => (r4_Add_S F x0 x_1).bind fun x_2 => some x_2
theorem r4_Sub_spec {F : Nat} {x0 : Frc} {y0 : Frc} {r : Frc} (h : r4_Sub_S F x0 y0 = some r) : Meets Tryz.prog (tabs mx) 57 [] [.agg (eFrc x0), .agg (eFrc y0)] (Is [] (.b (.agg (eFrc r)))) := by
 unfold r4_Sub_S at h
 refine Meets.intro 9 Tryz.func57 Tryz.ntmps57 rfl (by simp) fun E => ?_
 show Tri _ E ⟨9, [], []⟩ _ ⟨[(0, .b (.agg (eFrc x0))), (1, .b (.agg (eFrc y0)))], []⟩ _
 refine Tri.seq (Tri.regionL ?_)
 refine Oc (op_box (k := 101) rfl rfl) (Oc (op_box (k := 102) rfl rfl) (Oc (op_alloc (k := 103) tyZero27 rfl) ?_))
 refine OpsL.nilS ⟨[(2, Pt 101 0), (3, Pt 102 0), (4, Pt 103 0)], [(101, .box 27 (eFrc x0)), (102, .box 27 (eFrc y0)), (103, .box 27 zFrc)]⟩ rfl (Tri.seq ?_)
 obtain ⟨x_1, e1, h⟩ := bnd h
 obtain ⟨x_2, e2, h⟩ := bnd h
 refine Tri.regionY mixed 4 [.b (.agg (eFrc x0)), .b (.agg (eFrc y0)), .b (.agg (eFrc x_1)), .b (.agg (eFrc x_2))] [4] [103] (s' := ⟨[(4, Pt 103 0)], [(103, .box 27 (eFrc x_2))]⟩) rfl ⟨fun _ => .p (lp tyAgg27), fun _ => .p (lp tyAgg27), fun _ => .p (op_call0 (r4_Neg_spec e1) goes60 rfl rfl), fun _ => .p (op_call0 (r4_Add_spec e2) goes56 rfl rfl), trivial⟩ ⟨_, by exact .p (op_store_p tyAgg27 rfl rfl rfl rfl (Nat.le_of_ble_eq_true rfl) rfl), rfl⟩ rfl (Tri.ret ?_)
 obtain rfl := Option.some.inj h
 refine Fin.keepS ⟨[(4, Pt 103 0)], [(103, .box 27 (eFrc x_2))]⟩ rfl (Fin.result' [.agg (eFrc x_2)] (.inl rfl) rfl (.cons (.agg tyAgg27 rfl rfl rfl rfl) .nil) ⟨rfl, rfl⟩)
def r4_Mul_S (F : Nat) (x0 : Frc) (y0 : Frc) : Option Frc :=
 (r4_Good_S F x0).bind fun x_1 => (gcall (!(!x_1)) (r4_Good_S F y0)).bind fun x_2 => if ((!x_1) || (!x_2)) = true then ((r4_Bad_S F).bind fun x_3 => some x_3) else ((r4_Make_S F x0.N y0.D).bind fun x_4 => (r4_Make_S F y0.N x0.D).bind fun x_5 => (r3_Mul_S F x_4.N x_5.N).bind fun x_6 => (r3_Mul_S F x_4.D x_5.D).bind fun x_7 => (r4_Make_S F x_6 x_7).bind fun x_8 => some x_8)
theorem r4_Mul_spec {F : Nat} {x0 : Frc} {y0 : Frc} {r : Frc} (h : r4_Mul_S F x0 y0 = some r) : Meets Tryz.prog (tabs mx) 58 [] [.agg (eFrc x0), .agg (eFrc y0)] (Is [] (.b (.agg (eFrc r)))) := by
 unfold r4_Mul_S at h
 refine Meets.intro 41 Tryz.func58 Tryz.ntmps58 rfl (by simp) fun E => ?_
 show Tri _ E ⟨41, [], []⟩ _ ⟨[(0, .b (.agg (eFrc x0))), (1, .b (.agg (eFrc y0)))], []⟩ _
 refine Tri.seq (Tri.regionL ?_)
 refine Oc (op_box (k := 101) rfl rfl) (Oc (op_box (k := 102) rfl rfl) (Oc (op_alloc (k := 103) tyZero27 rfl) ?_))
 refine OpsL.nilS ⟨[(2, Pt 101 0), (3, Pt 102 0), (4, Pt 103 0)], [(101, .box 27 (eFrc x0)), (102, .box 27 (eFrc y0)), (103, .box 27 zFrc)]⟩ rfl (Tri.seq (Tri.seq (Tri.regionL ?_)))
 refine Oc (lp tyAgg27) ?_
 obtain ⟨x_1, e1, h⟩ := bnd h
 refine Oc (op_call0 (r4_Good_spec e1) goes13 rfl rfl) (Oc (op_not rfl) (Oc om ?_))
 refine CgF (!(!x_1)) [] (fun g2 => trivial) (fun g2 => lp tyAgg27) (OpsL.keepS ⟨[(2, Pt 101 0), (3, Pt 102 0), (4, Pt 103 0), (12, B (!x_1)), (13, .opt (!(!x_1)) (.agg (eFrc y0)))], [(101, .box 27 (eFrc x0)), (102, .box 27 (eFrc y0)), (103, .box 27 zFrc)]⟩ rfl ?_)
 obtain ⟨x_2, e4, h⟩ := bnd h
 refine CgF (!(!x_1)) [13] (fun g3 => ⟨g3, trivial⟩) (fun g3 => op_call0 (r4_Good_spec (gc e4 g3)) goes13 rfl rfl) (CgF (!(!x_1)) [14] (fun g5 => ⟨g5, trivial⟩) (fun g5 => op_not rfl) (Oc (op_pick_or (fun e => by rw [e]; rfl) rfl rfl rfl rfl) (OpsL.nilS ⟨[(2, Pt 101 0), (3, Pt 102 0), (4, Pt 103 0), (16, B ((!x_1) || (!x_2)))], [(101, .box 27 (eFrc x0)), (102, .box 27 (eFrc y0)), (103, .box 27 zFrc)]⟩ rfl (Tri.ite h rfl (fun _ h => ?_) (fun _ h => ?_)))))
 ·refine Tri.seq (Tri.regionL ?_)
  obtain ⟨x_3, e6, h⟩ := bnd h
  refine Oc (op_call0 (r4_Bad_spec e6) goes28 rfl rfl) (Oc (op_store_p tyAgg27 rfl rfl rfl rfl (Nat.le_of_ble_eq_true rfl) rfl) ?_)
  refine OpsL.nilS ⟨[(4, Pt 103 0)], [(103, .box 27 (eFrc x_3))]⟩ rfl (Tri.ret (Fin.then_ret ?_))
  obtain rfl := Option.some.inj h
  refine Fin.keepS ⟨[(4, Pt 103 0)], [(103, .box 27 (eFrc x_3))]⟩ rfl (Fin.result' [.agg (eFrc x_3)] (.inl rfl) rfl (.cons (.agg tyAgg27 rfl rfl rfl rfl) .nil) ⟨rfl, rfl⟩)
 ·refine Tri.skip (Fin.keepS ⟨[(2, Pt 101 0), (3, Pt 102 0), (4, Pt 103 0)], [(101, .box 27 (eFrc x0)), (102, .box 27 (eFrc y0)), (103, .box 27 zFrc)]⟩ rfl (Fin.then (Tri.seq (Tri.regionL ?_))))
  refine Oc (op_field_p tyFld27_0 rfl rfl) (Oc (lp tyAgg25) (Oc (op_field_p tyFld27_1 rfl rfl) (Oc (lp tyAgg25) ?_)))
  obtain ⟨x_4, e7, h⟩ := bnd h
  refine Oc (op_call0 (r4_Make_spec e7) goes17 rfl rfl) (Oc (op_alloc (k := 104) tyZero27 rfl) (Oc (op_store_p tyAgg27 rfl rfl rfl rfl (Nat.le_of_ble_eq_true rfl) rfl) ?_))
  refine OpsL.nilS ⟨[(2, Pt 101 0), (3, Pt 102 0), (4, Pt 103 0), (5, Pt 104 0)], [(101, .box 27 (eFrc x0)), (102, .box 27 (eFrc y0)), (103, .box 27 zFrc), (104, .box 27 (eFrc x_4))]⟩ rfl (Tri.seq (Tri.regionL ?_))
  refine Oc (op_field_p tyFld27_0 rfl rfl) (Oc (lp tyAgg25) (Oc (op_field_p tyFld27_1 rfl rfl) (Oc (lp tyAgg25) ?_)))
  obtain ⟨x_5, e8, h⟩ := bnd h
  refine Oc (op_call0 (r4_Make_spec e8) goes17 rfl rfl) (Oc (op_alloc (k := 105) tyZero27 rfl) (Oc (op_store_p tyAgg27 rfl rfl rfl rfl (Nat.le_of_ble_eq_true rfl) rfl) ?_))
  refine OpsL.nilS ⟨[(4, Pt 103 0), (5, Pt 104 0), (6, Pt 105 0)], [(103, .box 27 zFrc), (104, .box 27 (eFrc x_4)), (105, .box 27 (eFrc x_5))]⟩ rfl (Tri.seq (Tri.regionL ?_))
  refine Oc (op_field_p tyFld27_0 rfl rfl) (Oc (lp tyAgg25) (Oc (op_field_p tyFld27_0 rfl rfl) (Oc (lp tyAgg25) ?_)))
  obtain ⟨x_6, e9, h⟩ := bnd h
  refine Oc (op_call0 (r3_Mul_spec e9) goes14 rfl rfl) (Oc (op_alloc (k := 106) tyZero25 rfl) (Oc (op_store_p tyAgg25 rfl rfl rfl rfl (Nat.le_of_ble_eq_true rfl) rfl) ?_))
  refine OpsL.nilS ⟨[(4, Pt 103 0), (5, Pt 104 0), (6, Pt 105 0), (7, Pt 106 0)], [(103, .box 27 zFrc), (104, .box 27 (eFrc x_4)), (105, .box 27 (eFrc x_5)), (106, .box 25 (eBig x_6))]⟩ rfl (Tri.seq (Tri.regionL ?_))
  refine Oc (op_field_p tyFld27_1 rfl rfl) (Oc (lp tyAgg25) (Oc (op_field_p tyFld27_1 rfl rfl) (Oc (lp tyAgg25) ?_)))
  obtain ⟨x_7, e10, h⟩ := bnd h
  refine Oc (op_call0 (r3_Mul_spec e10) goes14 rfl rfl) (Oc (op_alloc (k := 107) tyZero25 rfl) (Oc (op_store_p tyAgg25 rfl rfl rfl rfl (Nat.le_of_ble_eq_true rfl) rfl) ?_))
  refine OpsL.nilS ⟨[(4, Pt 103 0), (7, Pt 106 0), (8, Pt 107 0)], [(103, .box 27 zFrc), (106, .box 25 (eBig x_6)), (107, .box 25 (eBig x_7))]⟩ rfl (Tri.seq (Tri.regionL ?_))
  refine Oc (lp tyAgg25) (Oc (lp tyAgg25) ?_)
  obtain ⟨x_8, e11, h⟩ := bnd h
  refine Oc (op_call0 (r4_Make_spec e11) goes17 rfl rfl) (Oc (op_store_p tyAgg27 rfl rfl rfl rfl (Nat.le_of_ble_eq_true rfl) rfl) ?_)
  refine OpsL.nilS ⟨[(4, Pt 103 0)], [(103, .box 27 (eFrc x_8))]⟩ rfl (Tri.ret ?_)
  obtain rfl := Option.some.inj h
  refine Fin.keepS ⟨[(4, Pt 103 0)], [(103, .box 27 (eFrc x_8))]⟩ rfl (Fin.result' [.agg (eFrc x_8)] (.inl rfl) rfl (.cons (.agg tyAgg27 rfl rfl rfl rfl) .nil) ⟨rfl, rfl⟩)
def r4_Div_S (F : Nat) (x0 : Frc) (y0 : Frc) : Option Frc :=
 (r4_Good_S F y0).bind fun x_1 => if (!x_1) = true then ((r4_Bad_S F).bind fun x_2 => some x_2) else ((r4_Make_S F y0.D y0.N).bind fun x_3 => (r4_Mul_S F x0 x_3).bind fun x_4 => some x_4)
theorem r4_Div_spec {F : Nat} {x0 : Frc} {y0 : Frc} {r : Frc} (h : r4_Div_S F x0 y0 = some r) : Meets Tryz.prog (tabs mx) 59 [] [.agg (eFrc x0), .agg (eFrc y0)] (Is [] (.b (.agg (eFrc r)))) := by
 unfold r4_Div_S at h
 refine Meets.intro 16 Tryz.func59 Tryz.ntmps59 rfl (by simp) fun E => ?_
 show Tri _ E ⟨16, [], []⟩ _ ⟨[(0, .b (.agg (eFrc x0))), (1, .b (.agg (eFrc y0)))], []⟩ _
 refine Tri.seq (Tri.regionL ?_)
 refine Oc (op_box (k := 101) rfl rfl) (Oc (op_box (k := 102) rfl rfl) (Oc (op_alloc (k := 103) tyZero27 rfl) ?_))
 refine OpsL.nilS ⟨[(2, Pt 101 0), (3, Pt 102 0), (4, Pt 103 0)], [(101, .box 27 (eFrc x0)), (102, .box 27 (eFrc y0)), (103, .box 27 zFrc)]⟩ rfl (Tri.seq (Tri.seq (Tri.regionL ?_)))
 refine Oc (lp tyAgg27) ?_
 obtain ⟨x_1, e1, h⟩ := bnd h
 refine Oc (op_call0 (r4_Good_spec e1) goes13 rfl rfl) (Oc (op_not rfl) ?_)
 refine OpsL.nilS ⟨[(2, Pt 101 0), (3, Pt 102 0), (4, Pt 103 0), (7, B (!x_1))], [(101, .box 27 (eFrc x0)), (102, .box 27 (eFrc y0)), (103, .box 27 zFrc)]⟩ rfl (Tri.ite h rfl (fun _ h => ?_) (fun _ h => ?_))
 ·refine Tri.seq (Tri.regionL ?_)
  obtain ⟨x_2, e2, h⟩ := bnd h
  refine Oc (op_call0 (r4_Bad_spec e2) goes28 rfl rfl) (Oc (op_store_p tyAgg27 rfl rfl rfl rfl (Nat.le_of_ble_eq_true rfl) rfl) ?_)
  refine OpsL.nilS ⟨[(4, Pt 103 0)], [(103, .box 27 (eFrc x_2))]⟩ rfl (Tri.ret (Fin.then_ret ?_))
  obtain rfl := Option.some.inj h
  refine Fin.keepS ⟨[(4, Pt 103 0)], [(103, .box 27 (eFrc x_2))]⟩ rfl (Fin.result' [.agg (eFrc x_2)] (.inl rfl) rfl (.cons (.agg tyAgg27 rfl rfl rfl rfl) .nil) ⟨rfl, rfl⟩)
 ·refine Tri.skip (Fin.keepS ⟨[(2, Pt 101 0), (3, Pt 102 0), (4, Pt 103 0)], [(101, .box 27 (eFrc x0)), (102, .box 27 (eFrc y0)), (103, .box 27 zFrc)]⟩ rfl (Fin.then (Tri.seq ?_)))
  refine Tri.keepS ⟨[(2, Pt 101 0), (3, Pt 102 0), (4, Pt 103 0)], [(101, .box 27 (eFrc x0)), (102, .box 27 (eFrc y0)), (103, .box 27 zFrc)]⟩ rfl ?_
  obtain ⟨x_3, e3, h⟩ := bnd h
  obtain ⟨x_4, e4, h⟩ := bnd h
  refine Tri.regionY mixed 7 [.b (.agg (eFrc x0)), Pt 102 18, .b (.agg (eBig y0.D)), Pt 102 0, .b (.agg (eBig y0.N)), .b (.agg (eFrc x_3)), .b (.agg (eFrc x_4))] [4] [103] (s' := ⟨[(4, Pt 103 0)], [(103, .box 27 (eFrc x_4))]⟩) rfl ⟨fun _ => .p (lp tyAgg27), fun _ => .p (op_field_p tyFld27_1 rfl rfl), fun _ => .p (lp tyAgg25), fun _ => .p (op_field_p tyFld27_0 rfl rfl), fun _ => .p (lp tyAgg25), fun _ => .p (op_call0 (r4_Make_spec e3) goes17 rfl rfl), fun _ => .p (op_call0 (r4_Mul_spec e4) goes58 rfl rfl), trivial⟩ ⟨_, by exact .p (op_store_p tyAgg27 rfl rfl rfl rfl (Nat.le_of_ble_eq_true rfl) rfl), rfl⟩ rfl (Tri.ret ?_)
  obtain rfl := Option.some.inj h
  refine Fin.keepS ⟨[(4, Pt 103 0)], [(103, .box 27 (eFrc x_4))]⟩ rfl (Fin.result' [.agg (eFrc x_4)] (.inl rfl) rfl (.cons (.agg tyAgg27 rfl rfl rfl rfl) .nil) ⟨rfl, rfl⟩)
def q_Abs_S (F : Nat) (x0 : Frc) : Option Frc :=
 (q_Sign_S F x0).bind fun x_1 => if (decide (x_1 < 0)) = true then ((q_Neg_S F x0).bind fun x_2 => some x_2) else ((q_Neg_S F x0).bind fun x_3 => (q_Neg_S F x_3).bind fun x_4 => some x_4)
theorem q_Abs_spec {F : Nat} {x0 : Frc} {r : Frc} (h : q_Abs_S F x0 = some r) : Meets Tryz.prog (tabs mx) 61 [] [.agg (eFrc x0)] (Is [] (.b (.agg (eFrc r)))) := by
 unfold q_Abs_S at h
 refine Meets.intro 11 Tryz.func61 Tryz.ntmps61 rfl (by simp) fun E => ?_
 show Tri _ E ⟨11, [], []⟩ _ ⟨[(0, .b (.agg (eFrc x0)))], []⟩ _
 refine Tri.seq (Tri.regionL ?_)
 refine Oc (op_box (k := 101) rfl rfl) (Oc (op_alloc (k := 102) tyZero27 rfl) ?_)
 refine OpsL.nilS ⟨[(1, Pt 101 0), (2, Pt 102 0)], [(101, .box 27 (eFrc x0)), (102, .box 27 zFrc)]⟩ rfl (Tri.seq (Tri.seq (Tri.regionL ?_)))
 refine Oc (lp tyAgg27) ?_
 obtain ⟨x_1, e1, h⟩ := bnd h
 refine Oc (op_call0 (q_Sign_spec e1) goes37 rfl rfl) (Oc (op_lss rfl rfl) ?_)
 refine OpsL.nilS ⟨[(1, Pt 101 0), (2, Pt 102 0), (5, B (decide (x_1 < 0)))], [(101, .box 27 (eFrc x0)), (102, .box 27 zFrc)]⟩ rfl (Tri.ite h rfl (fun _ h => ?_) (fun _ h => ?_))
 ·refine Tri.seq (Tri.regionL ?_)
  refine Oc (lp tyAgg27) ?_
  obtain ⟨x_2, e2, h⟩ := bnd h
  refine Oc (op_call0 (q_Neg_spec e2) goes43 rfl rfl) (Oc (op_store_p tyAgg27 rfl rfl rfl rfl (Nat.le_of_ble_eq_true rfl) rfl) ?_)
  refine OpsL.nilS ⟨[(2, Pt 102 0)], [(102, .box 27 (eFrc x_2))]⟩ rfl (Tri.ret (Fin.then_ret ?_))
  obtain rfl := Option.some.inj h
  refine Fin.keepS ⟨[(2, Pt 102 0)], [(102, .box 27 (eFrc x_2))]⟩ rfl (Fin.result' [.agg (eFrc x_2)] (.inl rfl) rfl (.cons (.agg tyAgg27 rfl rfl rfl rfl) .nil) ⟨rfl, rfl⟩)
 ·refine Tri.skip (Fin.keepS ⟨[(1, Pt 101 0), (2, Pt 102 0)], [(101, .box 27 (eFrc x0)), (102, .box 27 zFrc)]⟩ rfl (Fin.then (Tri.seq (Tri.regionL ?_))))
  refine Oc (lp tyAgg27) ?_
  obtain ⟨x_3, e3, h⟩ := bnd h
  refine Oc (op_call0 (q_Neg_spec e3) goes43 rfl rfl) ?_
  obtain ⟨x_4, e4, h⟩ := bnd h
  refine Oc (op_call0 (q_Neg_spec e4) goes43 rfl rfl) (Oc (op_store_p tyAgg27 rfl rfl rfl rfl (Nat.le_of_ble_eq_true rfl) rfl) ?_)
  refine OpsL.nilS ⟨[(2, Pt 102 0)], [(102, .box 27 (eFrc x_4))]⟩ rfl (Tri.ret ?_)
  obtain rfl := Option.some.inj h
  refine Fin.keepS ⟨[(2, Pt 102 0)], [(102, .box 27 (eFrc x_4))]⟩ rfl (Fin.result' [.agg (eFrc x_4)] (.inl rfl) rfl (.cons (.agg tyAgg27 rfl rfl rfl rfl) .nil) ⟨rfl, rfl⟩)
def r4_Abs_S (F : Nat) (x0 : Frc) : Option Frc :=
 (r4_Good_S F x0).bind fun x_1 => if (!x_1) = true then ((r4_Bad_S F).bind fun x_2 => some x_2) else ((r3_Abs_S F x0.N).bind fun x_3 => some (⟨x_3, x0.D⟩ : Frc))
theorem r4_Abs_spec {F : Nat} {x0 : Frc} {r : Frc} (h : r4_Abs_S F x0 = some r) : Meets Tryz.prog (tabs mx) 62 [] [.agg (eFrc x0)] (Is [] (.b (.agg (eFrc r)))) := by
 unfold r4_Abs_S at h
 refine Meets.intro 13 Tryz.func62 Tryz.ntmps62 rfl (by simp) fun E => ?_
 show Tri _ E ⟨13, [], []⟩ _ ⟨[(0, .b (.agg (eFrc x0)))], []⟩ _
 refine Tri.seq (Tri.regionL ?_)
 refine Oc (op_box (k := 101) rfl rfl) (Oc (op_alloc (k := 102) tyZero27 rfl) ?_)
 refine OpsL.nilS ⟨[(1, Pt 101 0), (2, Pt 102 0)], [(101, .box 27 (eFrc x0)), (102, .box 27 zFrc)]⟩ rfl (Tri.seq (Tri.seq (Tri.regionL ?_)))
 refine Oc (lp tyAgg27) ?_
 obtain ⟨x_1, e1, h⟩ := bnd h
 refine Oc (op_call0 (r4_Good_spec e1) goes13 rfl rfl) (Oc (op_not rfl) ?_)
 refine OpsL.nilS ⟨[(1, Pt 101 0), (2, Pt 102 0), (5, B (!x_1))], [(101, .box 27 (eFrc x0)), (102, .box 27 zFrc)]⟩ rfl (Tri.ite h rfl (fun _ h => ?_) (fun _ h => ?_))
 ·refine Tri.seq (Tri.regionL ?_)
  obtain ⟨x_2, e2, h⟩ := bnd h
  refine Oc (op_call0 (r4_Bad_spec e2) goes28 rfl rfl) (Oc (op_store_p tyAgg27 rfl rfl rfl rfl (Nat.le_of_ble_eq_true rfl) rfl) ?_)
  refine OpsL.nilS ⟨[(2, Pt 102 0)], [(102, .box 27 (eFrc x_2))]⟩ rfl (Tri.ret (Fin.then_ret ?_))
  obtain rfl := Option.some.inj h
  refine Fin.keepS ⟨[(2, Pt 102 0)], [(102, .box 27 (eFrc x_2))]⟩ rfl (Fin.result' [.agg (eFrc x_2)] (.inl rfl) rfl (.cons (.agg tyAgg27 rfl rfl rfl rfl) .nil) ⟨rfl, rfl⟩)
 ·refine Tri.skip (Fin.keepS ⟨[(1, Pt 101 0), (2, Pt 102 0)], [(101, .box 27 (eFrc x0)), (102, .box 27 zFrc)]⟩ rfl (Fin.then (Tri.seq ?_)))
  refine Tri.keepS ⟨[(1, Pt 101 0), (2, Pt 102 0)], [(101, .box 27 (eFrc x0)), (102, .box 27 zFrc)]⟩ rfl ?_
  obtain ⟨x_3, e3, h⟩ := bnd h
  refine Tri.regionY mixed 6 [Pt 101 0, .b (.agg (eBig x0.N)), .b (.agg (eBig x_3)), Pt 101 18, .b (.agg (eBig x0.D)), .b (.agg (eBig x_3 ++ (eBig x0.D)))] [2] [102] (s' := ⟨[(2, Pt 102 0)], [(102, .box 27 (eBig x_3 ++ (eBig x0.D)))]⟩) rfl ⟨fun _ => .p (op_field_p tyFld27_0 rfl rfl), fun _ => .p (lp tyAgg25), fun _ => .p (op_call0 (r3_Abs_spec e3) goes111 rfl rfl), fun _ => .p (op_field_p tyFld27_1 rfl rfl), fun _ => .p (lp tyAgg25), fun _ => .p (op_build tyBuild27 rfl rfl), trivial⟩ ⟨_, by exact .p (op_store_p tyAgg27 rfl rfl rfl rfl (Nat.le_of_ble_eq_true rfl) rfl), rfl⟩ rfl (Tri.ret ?_)
  obtain rfl := Option.some.inj h
  refine Fin.keepS ⟨[(2, Pt 102 0)], [(102, .box 27 (eBig x_3 ++ (eBig x0.D)))]⟩ rfl (Fin.result' [.agg (eBig x_3 ++ (eBig x0.D))] (.inl rfl) rfl (.cons (.agg tyAgg27 rfl rfl rfl rfl) .nil) ⟨rfl, rfl⟩)
def q_Sum_S (F : Nat) (l0 : List Frc) : Option Frc :=
 (q_Of_S F 0).bind fun x_1 => Option.bind (iter F (un2 fun out_3 x_4 => if (decide (x_4 < (l0.length : Int))) = true then ((idx? l0 x_4).bind fun x_6 => (q_Add_S F out_3 x_6).bind fun x_7 => some (.inl (x_7, IntKind.i64.wrap (x_4 + 1)))) else (some (.inr out_3))) (x_1, 0)) (fun out_2 => some out_2)
theorem q_Sum_spec {F : Nat} {l0 : List Frc} {r : Frc} (h : q_Sum_S F l0 = some r) : Meets Tryz.prog (tabs mx) 63 [] [.one (.sl 36 (l0.map eFrc))] (Is [] (.b (.agg (eFrc r)))) := by
 unfold q_Sum_S at h
 refine Meets.intro 18 Tryz.func63 Tryz.ntmps63 rfl (by simp) fun E => ?_
 show Tri _ E ⟨18, [], []⟩ _ ⟨[(0, .b (.one (.sl 36 (l0.map eFrc))))], []⟩ _
 refine Tri.seq (Tri.regionL ?_)
 refine Oc (op_alloc (k := 101) tyZero27 rfl) (OpsL.nilS ⟨[(0, .b (.one (.sl 36 (l0.map eFrc)))), (2, Pt 101 0)], [(101, .box 27 zFrc)]⟩ rfl (Tri.seq (Tri.regionL ?_)))
 obtain ⟨x_1, e1, h⟩ := bnd h
 refine Oc (op_call0 (q_Of_spec e1) goes20 rfl rfl) (Oc (op_alloc (k := 102) tyZero27 rfl) (Oc (op_store_p tyAgg27 rfl rfl rfl rfl (Nat.le_of_ble_eq_true rfl) rfl) ?_))
 refine OpsL.nilS ⟨[(0, .b (.one (.sl 36 (l0.map eFrc)))), (2, Pt 101 0), (3, Pt 102 0)], [(101, .box 27 zFrc), (102, .box 27 (eFrc x_1))]⟩ rfl ?_
 obtain ⟨v2, h3, h⟩ := bnd h
 refine Tri.seqJ (v := v2) (fun (out_2 : Frc) => ⟨[(2, Pt 101 0), (3, Pt 102 0)], [(101, .box 27 zFrc), (102, .box 27 (eFrc out_2))]⟩) (fun z => z) ?_ ?_
 ·refine Tri.seq (Tri.regionL ?_)
  refine Oc om (Oc (op_len_e' und64 rfl (List.length_map _)) (Oc om ?_))
  refine OpsL.nilS ⟨[(2, Pt 101 0), (3, Pt 102 0), (7, .b (.one (.sl 36 (l0.map eFrc)))), (8, I (l0.length : Int)), (9, I 0)], [(101, .box 27 zFrc), (102, .box 27 (eFrc x_1))]⟩ rfl (Tri.block (Tri.loopJ h3 (un2 fun (out_3 : Frc) (x_4 : Int) => ⟨[(2, Pt 101 0), (3, Pt 102 0), (7, .b (.one (.sl 36 (l0.map eFrc)))), (8, I (l0.length : Int)), (9, I x_4)], [(101, .box 27 zFrc), (102, .box 27 (eFrc out_3))]⟩) [2, 3, 7, 8, 9] [101, 102] rfl ?_))
  rintro ⟨out_3, x_4⟩ o4 h5 hy6
  refine Tri.seq (Tri.regionL ?_)
  refine Oc (op_lss rfl rfl) (OpsL.nilS ⟨[(2, Pt 101 0), (3, Pt 102 0), (7, .b (.one (.sl 36 (l0.map eFrc)))), (8, I (l0.length : Int)), (9, I x_4), (10, B (decide (x_4 < (l0.length : Int))))], [(101, .box 27 zFrc), (102, .box 27 (eFrc out_3))]⟩ rfl (Tri.seq (Tri.ite h5 rfl (fun _ h5 => ?_) (fun _ h5 => ?_))))
  ·refine Tri.skip (Fin.keepS ⟨[(2, Pt 101 0), (3, Pt 102 0), (7, .b (.one (.sl 36 (l0.map eFrc)))), (8, I (l0.length : Int)), (9, I x_4)], [(101, .box 27 zFrc), (102, .box 27 (eFrc out_3))]⟩ rfl (Fin.then (Tri.seq (Tri.block (Tri.seq (Tri.regionL ?_))))))
   obtain ⟨x_6, e7, h5⟩ := bnd h5
   refine Oc (op_index_e tySl64 (ix_lo e7) (ix_map (e := eFrc) e7) rfl rfl) (Oc (op_load_e tyAgg27 rfl rfl rfl) (Oc (op_alloc (k := 103) tyZero27 rfl) (Oc (op_store_p tyAgg27 rfl rfl rfl rfl (Nat.le_of_ble_eq_true rfl) rfl) ?_)))
   refine OpsL.nilS ⟨[(2, Pt 101 0), (3, Pt 102 0), (5, Pt 103 0), (7, .b (.one (.sl 36 (l0.map eFrc)))), (8, I (l0.length : Int)), (9, I x_4)], [(101, .box 27 zFrc), (102, .box 27 (eFrc out_3)), (103, .box 27 (eFrc x_6))]⟩ rfl (Tri.regionL (Oc (lp tyAgg27) (Oc (lp tyAgg27) ?_)))
   obtain ⟨x_7, e8, h5⟩ := bnd h5
   refine Oc (op_call0 (q_Add_spec e8) goes42 rfl rfl) (Oc (op_store_p tyAgg27 rfl rfl rfl rfl (Nat.le_of_ble_eq_true rfl) rfl) ?_)
   refine OpsL.nil (Fin.block_normal (Fin.keepS ⟨[(2, Pt 101 0), (3, Pt 102 0), (7, .b (.one (.sl 36 (l0.map eFrc)))), (8, I (l0.length : Int)), (9, I x_4)], [(101, .box 27 zFrc), (102, .box 27 (eFrc x_7))]⟩ rfl (Fin.then (Tri.regionL ?_))))
   refine Oc (op_add rfl rfl) (Oc om ?_)
   refine OpsL.nil ?_
   exact Fin.againJ [2, 3, 7, 8, 9] [101, 102] (x_7, IntKind.i64.wrap (x_4 + 1)) (Option.some.inj h5) rfl
  ·refine Tri.exit (Fin.then_exit ?_)
   obtain rfl := hy6 _ (Option.some.inj h5).symm
   refine Fin.then_exit (Fin.block_exit ?_)
   exact Fin.join [2, 3] [101, 102] out_3 rfl rfl
 ·rintro out_2 hv
  subst v2
  refine Tri.seq (Tri.regionL ?_)
  refine Oc (lp tyAgg27) (Oc (op_store_p tyAgg27 rfl rfl rfl rfl (Nat.le_of_ble_eq_true rfl) rfl) ?_)
  refine OpsL.nilS ⟨[(2, Pt 101 0)], [(101, .box 27 (eFrc out_2))]⟩ rfl (Tri.ret ?_)
  obtain rfl := Option.some.inj h
  refine Fin.keepS ⟨[(2, Pt 101 0)], [(101, .box 27 (eFrc out_2))]⟩ rfl (Fin.result' [.agg (eFrc out_2)] (.inl rfl) rfl (.cons (.agg tyAgg27 rfl rfl rfl rfl) .nil) ⟨rfl, rfl⟩)
def r4_Of_S (F : Nat) (n0 : Int) : Option Frc :=
 (r3_Of_S F n0).bind fun x_1 => (r4_one_S F).bind fun x_2 => (r4_Make_S F x_1 x_2).bind fun x_3 => some x_3
theorem r4_Of_spec {F : Nat} {n0 : Int} {r : Frc} (h : r4_Of_S F n0 = some r) : Meets Tryz.prog (tabs mx) 21 [] [.one (.i n0)] (Is [] (.b (.agg (eFrc r)))) := by
 unfold r4_Of_S at h
 refine Meets.intro 7 Tryz.func21 Tryz.ntmps21 rfl (by simp) fun E => ?_
 show Tri _ E ⟨7, [], []⟩ _ ⟨[(0, I n0)], []⟩ _
 refine Tri.seq (Tri.regionL ?_)
 refine Oc (op_alloc (k := 101) tyZero27 rfl) (OpsL.nilS ⟨[(0, I n0), (2, Pt 101 0)], [(101, .box 27 zFrc)]⟩ rfl (Tri.seq (Tri.regionL ?_)))
 refine Oc om ?_
 obtain ⟨x_1, e1, h⟩ := bnd h
 refine Oc (op_call0 (r3_Of_spec e1) goes12 rfl rfl) ?_
 obtain ⟨x_2, e2, h⟩ := bnd h
 refine Oc (op_call0 (r4_one_spec e2) goes80 rfl rfl) ?_
 obtain ⟨x_3, e3, h⟩ := bnd h
 refine Oc (op_call0 (r4_Make_spec e3) goes17 rfl rfl) (Oc (op_store_p tyAgg27 rfl rfl rfl rfl (Nat.le_of_ble_eq_true rfl) rfl) ?_)
 refine OpsL.nilS ⟨[(2, Pt 101 0)], [(101, .box 27 (eFrc x_3))]⟩ rfl (Tri.ret ?_)
 obtain rfl := Option.some.inj h
 refine Fin.keepS ⟨[(2, Pt 101 0)], [(101, .box 27 (eFrc x_3))]⟩ rfl (Fin.result' [.agg (eFrc x_3)] (.inl rfl) rfl (.cons (.agg tyAgg27 rfl rfl rfl rfl) .nil) ⟨rfl, rfl⟩)
def r4_Sum_S (F : Nat) (l0 : List Frc) : Option Frc :=
 (r4_Of_S F 0).bind fun x_1 => Option.bind (iter F (un2 fun out_3 i_4 => if (decide (i_4 < (l0.length : Int))) = true then ((idx? l0 i_4).bind fun x_6 => (r4_Add_S F out_3 x_6).bind fun x_7 => some (.inl (x_7, IntKind.i64.wrap (i_4 + 1)))) else (some (.inr out_3))) (x_1, 0)) (fun out_2 => some out_2)
theorem r4_Sum_spec {F : Nat} {l0 : List Frc} {r : Frc} (h : r4_Sum_S F l0 = some r) : Meets Tryz.prog (tabs mx) 64 [] [.one (.sl 36 (l0.map eFrc))] (Is [] (.b (.agg (eFrc r)))) := by
 unfold r4_Sum_S at h
 refine Meets.intro 19 Tryz.func64 Tryz.ntmps64 rfl (by simp) fun E => ?_
 show Tri _ E ⟨19, [], []⟩ _ ⟨[(0, .b (.one (.sl 36 (l0.map eFrc))))], []⟩ _
 refine Tri.seq (Tri.regionL ?_)
 refine Oc (op_alloc (k := 101) tyZero27 rfl) (OpsL.nilS ⟨[(0, .b (.one (.sl 36 (l0.map eFrc)))), (2, Pt 101 0)], [(101, .box 27 zFrc)]⟩ rfl (Tri.seq (Tri.regionL ?_)))
 obtain ⟨x_1, e1, h⟩ := bnd h
 refine Oc (op_call0 (r4_Of_spec e1) goes21 rfl rfl) (Oc (op_alloc (k := 102) tyZero27 rfl) (Oc (op_store_p tyAgg27 rfl rfl rfl rfl (Nat.le_of_ble_eq_true rfl) rfl) ?_))
 refine OpsL.nilS ⟨[(0, .b (.one (.sl 36 (l0.map eFrc)))), (2, Pt 101 0), (3, Pt 102 0)], [(101, .box 27 zFrc), (102, .box 27 (eFrc x_1))]⟩ rfl ?_
 obtain ⟨v2, h3, h⟩ := bnd h
 refine Tri.seqJ (v := v2) (fun (out_2 : Frc) => ⟨[(2, Pt 101 0), (3, Pt 102 0)], [(101, .box 27 zFrc), (102, .box 27 (eFrc out_2))]⟩) (fun z => z) ?_ ?_
 ·refine Tri.seq (Tri.regionL ?_)
  refine Oc oa (OpsL.nilS ⟨[(0, .b (.one (.sl 36 (l0.map eFrc)))), (2, Pt 101 0), (3, Pt 102 0), (4, I 0)], [(101, .box 27 zFrc), (102, .box 27 (eFrc x_1))]⟩ rfl (Tri.block (Tri.loopJ h3 (un2 fun (out_3 : Frc) (i_4 : Int) => ⟨[(0, .b (.one (.sl 36 (l0.map eFrc)))), (2, Pt 101 0), (3, Pt 102 0), (4, I i_4)], [(101, .box 27 zFrc), (102, .box 27 (eFrc out_3))]⟩) [0, 2, 3, 4] [101, 102] rfl ?_)))
  rintro ⟨out_3, i_4⟩ o4 h5 hy6
  refine Tri.seq (Tri.seq (Tri.regionL ?_))
  refine Oc om (Oc om (Oc (op_len_e' und64 rfl (List.length_map _)) (Oc (op_lss rfl rfl) ?_)))
  refine OpsL.nilS ⟨[(0, .b (.one (.sl 36 (l0.map eFrc)))), (2, Pt 101 0), (3, Pt 102 0), (4, I i_4), (9, B (decide (i_4 < (l0.length : Int))))], [(101, .box 27 zFrc), (102, .box 27 (eFrc out_3))]⟩ rfl (Tri.ite h5 rfl (fun _ h5 => ?_) (fun _ h5 => ?_))
  ·refine Tri.skip (Fin.keepS ⟨[(0, .b (.one (.sl 36 (l0.map eFrc)))), (2, Pt 101 0), (3, Pt 102 0), (4, I i_4)], [(101, .box 27 zFrc), (102, .box 27 (eFrc out_3))]⟩ rfl (Fin.then (Tri.seq (Tri.block ?_))))
   refine Tri.keepS ⟨[(0, .b (.one (.sl 36 (l0.map eFrc)))), (2, Pt 101 0), (3, Pt 102 0), (4, I i_4)], [(101, .box 27 zFrc), (102, .box 27 (eFrc out_3))]⟩ rfl ?_
   obtain ⟨x_6, e7, h5⟩ := bnd h5
   obtain ⟨x_7, e8, h5⟩ := bnd h5
   refine Tri.regionYF mixed 6 [.b (.agg (eFrc out_3)), .b (.one (.sl 36 (l0.map eFrc))), I i_4, .b (.eptr (eFrc x_6)), .b (.agg (eFrc x_6)), .b (.agg (eFrc x_7))] [0, 2, 3, 4] [101, 102] (s' := ⟨[(0, .b (.one (.sl 36 (l0.map eFrc)))), (2, Pt 101 0), (3, Pt 102 0), (4, I i_4)], [(101, .box 27 zFrc), (102, .box 27 (eFrc x_7))]⟩) rfl ⟨fun _ => .p (lp tyAgg27), fun _ => .p om, fun _ => .p om, fun _ => .p (op_index_e tySl64 (ix_lo e7) (ix_map (e := eFrc) e7) rfl rfl), fun _ => .p (op_load_e tyAgg27 rfl rfl rfl), fun _ => .p (op_call0 (r4_Add_spec e8) goes56 rfl rfl), trivial⟩ ⟨_, by exact .p (op_store_p tyAgg27 rfl rfl rfl rfl (Nat.le_of_ble_eq_true rfl) rfl), rfl⟩ rfl (Fin.block_normal (Fin.keepS ⟨[(0, .b (.one (.sl 36 (l0.map eFrc)))), (2, Pt 101 0), (3, Pt 102 0), (4, I i_4)], [(101, .box 27 zFrc), (102, .box 27 (eFrc x_7))]⟩ rfl (Fin.then (Tri.regionL ?_))))
   refine Oc om (Oc (op_add rfl rfl) (Oc oa ?_))
   refine OpsL.nil ?_
   exact Fin.againJ [0, 2, 3, 4] [101, 102] (x_7, IntKind.i64.wrap (i_4 + 1)) (Option.some.inj h5) rfl
  ·refine Tri.exit (Fin.then_exit ?_)
   obtain rfl := hy6 _ (Option.some.inj h5).symm
   refine Fin.then_exit (Fin.block_exit ?_)
   exact Fin.join [2, 3] [101, 102] out_3 rfl rfl
 ·rintro out_2 hv
  subst v2
  refine Tri.seq (Tri.regionL ?_)
  refine Oc (lp tyAgg27) (Oc (op_store_p tyAgg27 rfl rfl rfl rfl (Nat.le_of_ble_eq_true rfl) rfl) ?_)
  refine OpsL.nilS ⟨[(2, Pt 101 0)], [(101, .box 27 (eFrc out_2))]⟩ rfl (Tri.ret ?_)
  obtain rfl := Option.some.inj h
  refine Fin.keepS ⟨[(2, Pt 101 0)], [(101, .box 27 (eFrc out_2))]⟩ rfl (Fin.result' [.agg (eFrc out_2)] (.inl rfl) rfl (.cons (.agg tyAgg27 rfl rfl rfl rfl) .nil) ⟨rfl, rfl⟩)
def q_Mid_S (F : Nat) (x0 : Frc) (y0 : Frc) : Option Frc :=
 (q_Add_S F x0 y0).bind fun x_1 => (q_Frac_S F 1 2).bind fun x_2 => (q_Mul_S F x_1 x_2).bind fun x_3 => some x_3
theorem q_Mid_spec {F : Nat} {x0 : Frc} {y0 : Frc} {r : Frc} (h : q_Mid_S F x0 y0 = some r) : Meets Tryz.prog (tabs mx) 65 [] [.agg (eFrc x0), .agg (eFrc y0)] (Is [] (.b (.agg (eFrc r)))) := by
 unfold q_Mid_S at h
 refine Meets.intro 10 Tryz.func65 Tryz.ntmps65 rfl (by simp) fun E => ?_
 show Tri _ E ⟨10, [], []⟩ _ ⟨[(0, .b (.agg (eFrc x0))), (1, .b (.agg (eFrc y0)))], []⟩ _
 refine Tri.seq (Tri.regionL ?_)
 refine Oc (op_box (k := 101) rfl rfl) (Oc (op_box (k := 102) rfl rfl) (Oc (op_alloc (k := 103) tyZero27 rfl) ?_))
 refine OpsL.nilS ⟨[(2, Pt 101 0), (3, Pt 102 0), (4, Pt 103 0)], [(101, .box 27 (eFrc x0)), (102, .box 27 (eFrc y0)), (103, .box 27 zFrc)]⟩ rfl (Tri.seq (Tri.regionL ?_))
 refine Oc (lp tyAgg27) (Oc (lp tyAgg27) ?_)
 obtain ⟨x_1, e1, h⟩ := bnd h
 refine Oc (op_call0 (q_Add_spec e1) goes42 rfl rfl) (OpsL.keepS ⟨[(4, Pt 103 0), (7, .b (.agg (eFrc x_1)))], [(103, .box 27 zFrc)]⟩ rfl ?_)
 obtain ⟨x_2, e2, h⟩ := bnd h
 refine Oc (op_call0 (q_Frac_spec e2) goes22 rfl rfl) ?_
 obtain ⟨x_3, e3, h⟩ := bnd h
 refine Oc (op_call0 (q_Mul_spec e3) goes45 rfl rfl) (Oc (op_store_p tyAgg27 rfl rfl rfl rfl (Nat.le_of_ble_eq_true rfl) rfl) ?_)
 refine OpsL.nilS ⟨[(4, Pt 103 0)], [(103, .box 27 (eFrc x_3))]⟩ rfl (Tri.ret ?_)
 obtain rfl := Option.some.inj h
 refine Fin.keepS ⟨[(4, Pt 103 0)], [(103, .box 27 (eFrc x_3))]⟩ rfl (Fin.result' [.agg (eFrc x_3)] (.inl rfl) rfl (.cons (.agg tyAgg27 rfl rfl rfl rfl) .nil) ⟨rfl, rfl⟩)
def r4_Frac_S (F : Nat) (a0 : Int) (b0 : Int) : Option Frc :=
 (r3_Of_S F a0).bind fun x_1 => (r3_Of_S F b0).bind fun x_2 => (r4_Make_S F x_1 x_2).bind fun x_3 => some x_3
theorem r4_Frac_spec {F : Nat} {a0 : Int} {b0 : Int} {r : Frc} (h : r4_Frac_S F a0 b0 = some r) : Meets Tryz.prog (tabs mx) 23 [] [.one (.i a0), .one (.i b0)] (Is [] (.b (.agg (eFrc r)))) := by
 unfold r4_Frac_S at h
 refine Meets.intro 10 Tryz.func23 Tryz.ntmps23 rfl (by simp) fun E => ?_
 show Tri _ E ⟨10, [], []⟩ _ ⟨[(0, I a0), (1, I b0)], []⟩ _
 refine Tri.seq (Tri.regionL ?_)
 refine Oc (op_alloc (k := 101) tyZero27 rfl) (OpsL.nilS ⟨[(0, I a0), (1, I b0), (4, Pt 101 0)], [(101, .box 27 zFrc)]⟩ rfl (Tri.seq (Tri.regionL ?_)))
 refine Oc om ?_
 obtain ⟨x_1, e1, h⟩ := bnd h
 refine Oc (op_call0 (r3_Of_spec e1) goes12 rfl rfl) (Oc om ?_)
 refine OpsL.keepS ⟨[(4, Pt 101 0), (6, .b (.agg (eBig x_1))), (7, I b0)], [(101, .box 27 zFrc)]⟩ rfl ?_
 obtain ⟨x_2, e2, h⟩ := bnd h
 refine Oc (op_call0 (r3_Of_spec e2) goes12 rfl rfl) ?_
 obtain ⟨x_3, e3, h⟩ := bnd h
 refine Oc (op_call0 (r4_Make_spec e3) goes17 rfl rfl) (Oc (op_store_p tyAgg27 rfl rfl rfl rfl (Nat.le_of_ble_eq_true rfl) rfl) ?_)
 refine OpsL.nilS ⟨[(4, Pt 101 0)], [(101, .box 27 (eFrc x_3))]⟩ rfl (Tri.ret ?_)
 obtain rfl := Option.some.inj h
 refine Fin.keepS ⟨[(4, Pt 101 0)], [(101, .box 27 (eFrc x_3))]⟩ rfl (Fin.result' [.agg (eFrc x_3)] (.inl rfl) rfl (.cons (.agg tyAgg27 rfl rfl rfl rfl) .nil) ⟨rfl, rfl⟩)
def r4_Mid_S (F : Nat) (x0 : Frc) (y0 : Frc) : Option Frc :=
 (r4_Add_S F x0 y0).bind fun x_1 => (r4_Frac_S F 1 2).bind fun x_2 => (r4_Mul_S F x_1 x_2).bind fun x_3 => some x_3
theorem r4_Mid_spec {F : Nat} {x0 : Frc} {y0 : Frc} {r : Frc} (h : r4_Mid_S F x0 y0 = some r) : Meets Tryz.prog (tabs mx) 66 [] [.agg (eFrc x0), .agg (eFrc y0)] (Is [] (.b (.agg (eFrc r)))) := by
 unfold r4_Mid_S at h
 refine Meets.intro 10 Tryz.func66 Tryz.ntmps66 rfl (by simp) fun E => ?_
 show Tri _ E ⟨10, [], []⟩ _ ⟨[(0, .b (.agg (eFrc x0))), (1, .b (.agg (eFrc y0)))], []⟩ _
 refine Tri.seq (Tri.regionL ?_)
 refine Oc (op_box (k := 101) rfl rfl) (Oc (op_box (k := 102) rfl rfl) (Oc (op_alloc (k := 103) tyZero27 rfl) ?_))
 refine OpsL.nilS ⟨[(2, Pt 101 0), (3, Pt 102 0), (4, Pt 103 0)], [(101, .box 27 (eFrc x0)), (102, .box 27 (eFrc y0)), (103, .box 27 zFrc)]⟩ rfl (Tri.seq (Tri.regionL ?_))
 refine Oc (lp tyAgg27) (Oc (lp tyAgg27) ?_)
 obtain ⟨x_1, e1, h⟩ := bnd h
 refine Oc (op_call0 (r4_Add_spec e1) goes56 rfl rfl) (OpsL.keepS ⟨[(4, Pt 103 0), (7, .b (.agg (eFrc x_1)))], [(103, .box 27 zFrc)]⟩ rfl ?_)
 obtain ⟨x_2, e2, h⟩ := bnd h
 refine Oc (op_call0 (r4_Frac_spec e2) goes23 rfl rfl) ?_
 obtain ⟨x_3, e3, h⟩ := bnd h
 refine Oc (op_call0 (r4_Mul_spec e3) goes58 rfl rfl) (Oc (op_store_p tyAgg27 rfl rfl rfl rfl (Nat.le_of_ble_eq_true rfl) rfl) ?_)
 refine OpsL.nilS ⟨[(4, Pt 103 0)], [(103, .box 27 (eFrc x_3))]⟩ rfl (Tri.ret ?_)
 obtain rfl := Option.some.inj h
 refine Fin.keepS ⟨[(4, Pt 103 0)], [(103, .box 27 (eFrc x_3))]⟩ rfl (Fin.result' [.agg (eFrc x_3)] (.inl rfl) rfl (.cons (.agg tyAgg27 rfl rfl rfl rfl) .nil) ⟨rfl, rfl⟩)
def q_Min_S (F : Nat) (x0 : Frc) (y0 : Frc) : Option Frc :=
 (q_Good_S F x0).bind fun x_1 => (gcall (!(!x_1)) (q_Good_S F y0)).bind fun x_2 => if ((!x_1) || (!x_2)) = true then ((q_Bad_S F).bind fun x_3 => some x_3) else ((q_Cmp_S F x0 y0).bind fun x_4 => if (decide (0 < x_4)) = true then (some y0) else (some x0))
theorem q_Min_spec {F : Nat} {x0 : Frc} {y0 : Frc} {r : Frc} (h : q_Min_S F x0 y0 = some r) : Meets Tryz.prog (tabs mx) 67 [] [.agg (eFrc x0), .agg (eFrc y0)] (Is [] (.b (.agg (eFrc r)))) := by
 unfold q_Min_S at h
 refine Meets.intro 22 Tryz.func67 Tryz.ntmps67 rfl (by simp) fun E => ?_
 show Tri _ E ⟨22, [], []⟩ _ ⟨[(0, .b (.agg (eFrc x0))), (1, .b (.agg (eFrc y0)))], []⟩ _
 refine Tri.seq (Tri.regionL ?_)
 refine Oc (op_box (k := 101) rfl rfl) (Oc (op_box (k := 102) rfl rfl) (Oc (op_alloc (k := 103) tyZero27 rfl) ?_))
 refine OpsL.nilS ⟨[(2, Pt 101 0), (3, Pt 102 0), (4, Pt 103 0)], [(101, .box 27 (eFrc x0)), (102, .box 27 (eFrc y0)), (103, .box 27 zFrc)]⟩ rfl (Tri.seq (Tri.block (Tri.seq (Tri.regionL ?_))))
 refine Oc (lp tyAgg27) ?_
 obtain ⟨x_1, e1, h⟩ := bnd h
 refine Oc (op_call0 (q_Good_spec e1) goes26 rfl rfl) (Oc (op_not rfl) (Oc om ?_))
 refine CgF (!(!x_1)) [] (fun g2 => trivial) (fun g2 => lp tyAgg27) (OpsL.keepS ⟨[(2, Pt 101 0), (3, Pt 102 0), (4, Pt 103 0), (9, B (!x_1)), (10, .opt (!(!x_1)) (.agg (eFrc y0)))], [(101, .box 27 (eFrc x0)), (102, .box 27 (eFrc y0)), (103, .box 27 zFrc)]⟩ rfl ?_)
 obtain ⟨x_2, e4, h⟩ := bnd h
 refine CgF (!(!x_1)) [10] (fun g3 => ⟨g3, trivial⟩) (fun g3 => op_call0 (q_Good_spec (gc e4 g3)) goes26 rfl rfl) (CgF (!(!x_1)) [11] (fun g5 => ⟨g5, trivial⟩) (fun g5 => op_not rfl) (Oc (op_pick_or (fun e => by rw [e]; rfl) rfl rfl rfl rfl) (Oc oa ?_)))
 refine OpsL.nilS ⟨[(2, Pt 101 0), (3, Pt 102 0), (4, Pt 103 0), (5, B ((!x_1) || (!x_2)))], [(101, .box 27 (eFrc x0)), (102, .box 27 (eFrc y0)), (103, .box 27 zFrc)]⟩ rfl (Tri.ite h rfl (fun _ h => ?_) (fun _ h => ?_))
 ·refine Tri.seq (Tri.regionL ?_)
  obtain ⟨x_3, e6, h⟩ := bnd h
  refine Oc (op_call0 (q_Bad_spec e6) goes27 rfl rfl) (Oc (op_store_p tyAgg27 rfl rfl rfl rfl (Nat.le_of_ble_eq_true rfl) rfl) ?_)
  refine OpsL.nilS ⟨[(4, Pt 103 0)], [(103, .box 27 (eFrc x_3))]⟩ rfl (Tri.ret (Fin.block_ret (Fin.then_ret ?_)))
  obtain rfl := Option.some.inj h
  refine Fin.keepS ⟨[(4, Pt 103 0)], [(103, .box 27 (eFrc x_3))]⟩ rfl (Fin.result' [.agg (eFrc x_3)] (.inl rfl) rfl (.cons (.agg tyAgg27 rfl rfl rfl rfl) .nil) ⟨rfl, rfl⟩)
 ·refine Tri.seq (Tri.regionL ?_)
  refine Oc (lp tyAgg27) (Oc (lp tyAgg27) ?_)
  obtain ⟨x_4, e7, h⟩ := bnd h
  refine Oc (op_call0 (q_Cmp_spec e7) goes39 rfl rfl) (Oc (op_gtr rfl rfl) (Oc oa ?_))
  refine OpsL.nilS ⟨[(2, Pt 101 0), (3, Pt 102 0), (4, Pt 103 0), (15, B (decide (0 < x_4)))], [(101, .box 27 (eFrc x0)), (102, .box 27 (eFrc y0)), (103, .box 27 zFrc)]⟩ rfl (Tri.ite h rfl (fun _ h => ?_) (fun _ h => ?_))
  ·refine Tri.seq (Tri.regionL ?_)
   refine Oc (lp tyAgg27) (Oc (op_store_p tyAgg27 rfl rfl rfl rfl (Nat.le_of_ble_eq_true rfl) rfl) ?_)
   refine OpsL.nilS ⟨[(4, Pt 103 0)], [(103, .box 27 (eFrc y0))]⟩ rfl (Tri.ret (Fin.block_ret (Fin.then_ret ?_)))
   obtain rfl := Option.some.inj h
   refine Fin.keepS ⟨[(4, Pt 103 0)], [(103, .box 27 (eFrc y0))]⟩ rfl (Fin.result' [.agg (eFrc y0)] (.inl rfl) rfl (.cons (.agg tyAgg27 rfl rfl rfl rfl) .nil) ⟨rfl, rfl⟩)
  ·refine Tri.skip (Fin.block_normal (Fin.keepS ⟨[(2, Pt 101 0), (4, Pt 103 0)], [(101, .box 27 (eFrc x0)), (103, .box 27 zFrc)]⟩ rfl (Fin.then (Tri.seq (Tri.regionL ?_)))))
   refine Oc (lp tyAgg27) (Oc (op_store_p tyAgg27 rfl rfl rfl rfl (Nat.le_of_ble_eq_true rfl) rfl) ?_)
   refine OpsL.nilS ⟨[(4, Pt 103 0)], [(103, .box 27 (eFrc x0))]⟩ rfl (Tri.ret ?_)
   obtain rfl := Option.some.inj h
   refine Fin.keepS ⟨[(4, Pt 103 0)], [(103, .box 27 (eFrc x0))]⟩ rfl (Fin.result' [.agg (eFrc x0)] (.inl rfl) rfl (.cons (.agg tyAgg27 rfl rfl rfl rfl) .nil) ⟨rfl, rfl⟩)
def r4_kept_S (F : Nat) (x0 : Frc) (good0 : Bool) : Option Big :=
 if good0 = true then ((r3_Of_S F 0).bind fun x_1 => some x_1) else ((r3_Bad_S F).bind fun x_2 => some x_2)
theorem r4_kept_spec {F : Nat} {x0 : Frc} {good0 : Bool} {r : Big} (h : r4_kept_S F x0 good0 = some r) : Meets Tryz.prog (tabs mx) 101 [] [.agg (eFrc x0), .one (.bool good0)] (Is [] (.b (.agg (eBig r)))) := by
 unfold r4_kept_S at h
 refine Meets.intro 8 Tryz.func101 Tryz.ntmps101 rfl (by simp) fun E => ?_
 show Tri _ E ⟨8, [], []⟩ _ ⟨[(0, .b (.agg (eFrc x0))), (1, B good0)], []⟩ _
 refine Tri.seq (Tri.regionL ?_)
 refine Oc (op_box (k := 101) rfl rfl) (Oc (op_alloc (k := 102) tyZero25 rfl) ?_)
 refine OpsL.nilS ⟨[(1, B good0), (4, Pt 102 0)], [(102, .box 25 zBig)]⟩ rfl (Tri.seq (Tri.seq (Tri.regionL ?_)))
 refine Oc om (OpsL.nilS ⟨[(4, Pt 102 0), (5, B good0)], [(102, .box 25 zBig)]⟩ rfl (Tri.ite h rfl (fun _ h => ?_) (fun _ h => ?_)))
 ·refine Tri.seq (Tri.regionL ?_)
  obtain ⟨x_1, e1, h⟩ := bnd h
  refine Oc (op_call0 (r3_Of_spec e1) goes12 rfl rfl) (Oc (op_store_p tyAgg25 rfl rfl rfl rfl (Nat.le_of_ble_eq_true rfl) rfl) ?_)
  refine OpsL.nilS ⟨[(4, Pt 102 0)], [(102, .box 25 (eBig x_1))]⟩ rfl (Tri.ret (Fin.then_ret ?_))
  obtain rfl := Option.some.inj h
  refine Fin.keepS ⟨[(4, Pt 102 0)], [(102, .box 25 (eBig x_1))]⟩ rfl (Fin.result' [.agg (eBig x_1)] (.inl rfl) rfl (.cons (.agg tyAgg25 rfl rfl rfl rfl) .nil) ⟨rfl, rfl⟩)
 ·refine Tri.skip (Fin.keepS ⟨[(4, Pt 102 0)], [(102, .box 25 zBig)]⟩ rfl (Fin.then (Tri.seq (Tri.regionL ?_))))
  obtain ⟨x_2, e2, h⟩ := bnd h
  refine Oc (op_call0 (r3_Bad_spec e2) goes83 rfl rfl) (Oc (op_store_p tyAgg25 rfl rfl rfl rfl (Nat.le_of_ble_eq_true rfl) rfl) ?_)
  refine OpsL.nilS ⟨[(4, Pt 102 0)], [(102, .box 25 (eBig x_2))]⟩ rfl (Tri.ret ?_)
  obtain rfl := Option.some.inj h
  refine Fin.keepS ⟨[(4, Pt 102 0)], [(102, .box 25 (eBig x_2))]⟩ rfl (Fin.result' [.agg (eBig x_2)] (.inl rfl) rfl (.cons (.agg tyAgg25 rfl rfl rfl rfl) .nil) ⟨rfl, rfl⟩)
def r3_Cmp_S (F : Nat) (a0 : Big) (b0 : Big) : Option Int :=
 (r3_Good_S F a0).bind fun x_1 => (gcall (!x_1) (r3_Good_S F b0)).bind fun x_2 => if ((!x_1) && (!x_2)) = true then (some 0) else ((r3_Good_S F a0).bind fun x_3 => if (!x_3) = true then (some (-1)) else ((r3_Good_S F b0).bind fun x_4 => if (!x_4) = true then (some 1) else (if (a0.Neg != b0.Neg) = true then (if a0.Neg = true then (some (-1)) else (some 1)) else ((r3_digits_S F a0).bind fun x_5 => (r3_digits_S F b0).bind fun x_6 => Option.bind (if a0.Neg = true then ((r3_digits_S F b0).bind fun x_9 => (r3_digits_S F a0).bind fun x_10 => some (x_9, x_10)) else (some (x_5, x_6))) (un2 fun x_7 y_8 => (r3_less_S F x_7 y_8).bind fun x_11 => (r3_less_S F y_8 x_7).bind fun x_12 => if x_11 = true then (some (-1)) else (if x_12 = true then (some 1) else (some 0)))))))
theorem r3_Cmp_spec {F : Nat} {a0 : Big} {b0 : Big} {r : Int} (h : r3_Cmp_S F a0 b0 = some r) : Meets Tryz.prog (tabs mx) 99 [] [.agg (eBig a0), .agg (eBig b0)] (Is [] (.b (.one (.i r)))) := by
 unfold r3_Cmp_S at h
 refine Meets.intro 48 Tryz.func99 Tryz.ntmps99 rfl (by simp) fun E => ?_
 show Tri _ E ⟨48, [], []⟩ _ ⟨[(0, .b (.agg (eBig a0))), (1, .b (.agg (eBig b0)))], []⟩ _
 refine Tri.seq (Tri.regionL ?_)
 refine Oc (op_box (k := 101) rfl rfl) (Oc (op_box (k := 102) rfl rfl) (Oc oa ?_))
 refine OpsL.nilS ⟨[(2, Pt 101 0), (3, Pt 102 0)], [(101, .box 25 (eBig a0)), (102, .box 25 (eBig b0))]⟩ rfl (Tri.seq (Tri.seq (Tri.regionL ?_)))
 refine Oc (lp tyAgg25) ?_
 obtain ⟨x_1, e1, h⟩ := bnd h
 refine Oc (op_call0 (r3_Good_spec e1) goes15 rfl rfl) (Oc (op_not rfl) (Oc om ?_))
 refine CgT (!x_1) [] (fun g2 => trivial) (fun g2 => lp tyAgg25) (OpsL.keepS ⟨[(2, Pt 101 0), (3, Pt 102 0), (12, B (!x_1)), (13, .opt (!x_1) (.agg (eBig b0)))], [(101, .box 25 (eBig a0)), (102, .box 25 (eBig b0))]⟩ rfl ?_)
 obtain ⟨x_2, e4, h⟩ := bnd h
 refine CgT (!x_1) [13] (fun g3 => ⟨g3, trivial⟩) (fun g3 => op_call0 (r3_Good_spec (gc e4 g3)) goes15 rfl rfl) (CgT (!x_1) [14] (fun g5 => ⟨g5, trivial⟩) (fun g5 => op_not rfl) (Oc (op_pick_and (fun e => e) rfl rfl rfl rfl) (OpsL.nilS ⟨[(2, Pt 101 0), (3, Pt 102 0), (16, B ((!x_1) && (!x_2)))], [(101, .box 25 (eBig a0)), (102, .box 25 (eBig b0))]⟩ rfl (Tri.ite h rfl (fun _ h => ?_) (fun _ h => ?_)))))
 ·refine Tri.seq (Tri.regionL ?_)
  refine Oc oa (OpsL.nilS ⟨[(4, I 0)], []⟩ rfl (Tri.ret (Fin.then_ret ?_)))
  obtain rfl := Option.some.inj h
  refine Fin.keepS ⟨[(4, I 0)], []⟩ rfl (Fin.result' [.one (.i 0)] (.inl rfl) rfl (.cons (.tmp rfl) .nil) ⟨rfl, rfl⟩)
 ·refine Tri.skip (Fin.keepS ⟨[(2, Pt 101 0), (3, Pt 102 0)], [(101, .box 25 (eBig a0)), (102, .box 25 (eBig b0))]⟩ rfl (Fin.then (Tri.seq (Tri.seq (Tri.regionL ?_)))))
  refine Oc (lp tyAgg25) ?_
  obtain ⟨x_3, e6, h⟩ := bnd h
  refine Oc (op_call0 (r3_Good_spec e6) goes15 rfl rfl) (Oc (op_not rfl) ?_)
  refine OpsL.nilS ⟨[(2, Pt 101 0), (3, Pt 102 0), (19, B (!x_3))], [(101, .box 25 (eBig a0)), (102, .box 25 (eBig b0))]⟩ rfl (Tri.ite h rfl (fun _ h => ?_) (fun _ h => ?_))
  ·refine Tri.seq (Tri.regionL ?_)
   refine Oc oa (OpsL.nilS ⟨[(4, I (-1))], []⟩ rfl (Tri.ret (Fin.then_ret ?_)))
   obtain rfl := Option.some.inj h
   refine Fin.keepS ⟨[(4, I (-1))], []⟩ rfl (Fin.result' [.one (.i (-1))] (.inl rfl) rfl (.cons (.tmp rfl) .nil) ⟨rfl, rfl⟩)
  ·refine Tri.skip (Fin.keepS ⟨[(2, Pt 101 0), (3, Pt 102 0)], [(101, .box 25 (eBig a0)), (102, .box 25 (eBig b0))]⟩ rfl (Fin.then (Tri.seq (Tri.seq (Tri.regionL ?_)))))
   refine Oc (lp tyAgg25) ?_
   obtain ⟨x_4, e7, h⟩ := bnd h
   refine Oc (op_call0 (r3_Good_spec e7) goes15 rfl rfl) (Oc (op_not rfl) ?_)
   refine OpsL.nilS ⟨[(2, Pt 101 0), (3, Pt 102 0), (22, B (!x_4))], [(101, .box 25 (eBig a0)), (102, .box 25 (eBig b0))]⟩ rfl (Tri.ite h rfl (fun _ h => ?_) (fun _ h => ?_))
   ·refine Tri.seq (Tri.regionL ?_)
    refine Oc oa (OpsL.nilS ⟨[(4, I 1)], []⟩ rfl (Tri.ret (Fin.then_ret ?_)))
    obtain rfl := Option.some.inj h
    refine Fin.keepS ⟨[(4, I 1)], []⟩ rfl (Fin.result' [.one (.i 1)] (.inl rfl) rfl (.cons (.tmp rfl) .nil) ⟨rfl, rfl⟩)
   ·refine Tri.skip (Fin.keepS ⟨[(2, Pt 101 0), (3, Pt 102 0)], [(101, .box 25 (eBig a0)), (102, .box 25 (eBig b0))]⟩ rfl (Fin.then (Tri.seq (Tri.seq (Tri.regionL ?_)))))
    refine Oc (op_field_p tyFld25_1 rfl rfl) (Oc (op_load_p1 tyOne4 rfl rfl rfl) (Oc (op_field_p tyFld25_1 rfl rfl) (Oc (op_load_p1 tyOne4 rfl rfl rfl) (Oc (op_neq_bool und4 rfl rfl) ?_))))
    refine OpsL.nilS ⟨[(2, Pt 101 0), (3, Pt 102 0), (27, B (a0.Neg != b0.Neg))], [(101, .box 25 (eBig a0)), (102, .box 25 (eBig b0))]⟩ rfl (Tri.ite h rfl (fun _ h => ?_) (fun _ h => ?_))
    ·refine Tri.seq (Tri.seq (Tri.regionL ?_))
     refine Oc (op_field_p tyFld25_1 rfl rfl) (Oc (op_load_p1 tyOne4 rfl rfl rfl) ?_)
     refine OpsL.nilS ⟨[(29, B a0.Neg)], []⟩ rfl (Tri.ite h rfl (fun _ h => ?_) (fun _ h => ?_))
     ·refine Tri.seq (Tri.regionL ?_)
      refine Oc oa (OpsL.nilS ⟨[(4, I (-1))], []⟩ rfl (Tri.ret (Fin.then_ret (Fin.then_ret ?_))))
      obtain rfl := Option.some.inj h
      refine Fin.keepS ⟨[(4, I (-1))], []⟩ rfl (Fin.result' [.one (.i (-1))] (.inl rfl) rfl (.cons (.tmp rfl) .nil) ⟨rfl, rfl⟩)
     ·refine Tri.skip (Fin.keepS ⟨[], []⟩ rfl (Fin.then (Tri.seq (Tri.regionL ?_))))
      refine Oc oa (OpsL.nilS ⟨[(4, I 1)], []⟩ rfl (Tri.ret (Fin.then_ret ?_)))
      obtain rfl := Option.some.inj h
      refine Fin.keepS ⟨[(4, I 1)], []⟩ rfl (Fin.result' [.one (.i 1)] (.inl rfl) rfl (.cons (.tmp rfl) .nil) ⟨rfl, rfl⟩)
    ·refine Tri.skip (Fin.keepS ⟨[(2, Pt 101 0), (3, Pt 102 0)], [(101, .box 25 (eBig a0)), (102, .box 25 (eBig b0))]⟩ rfl (Fin.then (Tri.seq (Tri.regionL ?_))))
     refine Oc (lp tyAgg25) ?_
     obtain ⟨x_5, e8, h⟩ := bnd h
     refine Oc (op_call0 (r3_digits_spec e8) goes85 rfl rfl) (Oc oa ?_)
     refine OpsL.nilS ⟨[(2, Pt 101 0), (3, Pt 102 0), (5, .b (.one (.sl 1 (x_5.map eI))))], [(101, .box 25 (eBig a0)), (102, .box 25 (eBig b0))]⟩ rfl (Tri.seq (Tri.regionL ?_))
     refine Oc (lp tyAgg25) ?_
     obtain ⟨x_6, e9, h⟩ := bnd h
     refine Oc (op_call0 (r3_digits_spec e9) goes85 rfl rfl) (Oc oa ?_)
     refine OpsL.nilS ⟨[(2, Pt 101 0), (3, Pt 102 0), (5, .b (.one (.sl 1 (x_5.map eI)))), (6, .b (.one (.sl 1 (x_6.map eI))))], [(101, .box 25 (eBig a0)), (102, .box 25 (eBig b0))]⟩ rfl ?_
     obtain ⟨v10, h11, h⟩ := bnd h
     refine Tri.seqJ (v := v10) (un2 fun (x_7 : List Int) (y_8 : List Int) => ⟨[(5, .b (.one (.sl 1 (x_7.map eI)))), (6, .b (.one (.sl 1 (y_8.map eI))))], []⟩) (fun z => z) ?_ ?_
     ·refine Tri.seq (Tri.regionL ?_)
      refine Oc (op_field_p tyFld25_1 rfl rfl) (Oc (op_load_p1 tyOne4 rfl rfl rfl) ?_)
      refine OpsL.nilS ⟨[(2, Pt 101 0), (3, Pt 102 0), (5, .b (.one (.sl 1 (x_5.map eI)))), (6, .b (.one (.sl 1 (x_6.map eI)))), (35, B a0.Neg)], [(101, .box 25 (eBig a0)), (102, .box 25 (eBig b0))]⟩ rfl (Tri.ite h11 rfl (fun _ h11 => ?_) (fun _ h11 => ?_))
      ·refine Tri.seq (Tri.regionL ?_)
       refine Oc (lp tyAgg25) ?_
       obtain ⟨x_9, e12, h11⟩ := bnd h11
       refine Oc (op_call0 (r3_digits_spec e12) goes85 rfl rfl) (Oc oa ?_)
       refine OpsL.nilS ⟨[(2, Pt 101 0), (5, .b (.one (.sl 1 (x_9.map eI))))], [(101, .box 25 (eBig a0))]⟩ rfl (Tri.regionL (Oc (lp tyAgg25) ?_))
       obtain ⟨x_10, e13, h11⟩ := bnd h11
       refine Oc (op_call0 (r3_digits_spec e13) goes85 rfl rfl) (Oc oa ?_)
       refine OpsL.nil ?_
       exact Fin.join [5, 6] [] (x_9, x_10) (Option.some.inj h11) rfl
      ·refine Tri.skip ?_
       exact Fin.join [5, 6] [] (x_5, x_6) (Option.some.inj h11) rfl
     ·rintro ⟨x_7, y_8⟩ hv
      subst v10
      refine Tri.seq (Tri.regionL ?_)
      refine Oc om (Oc om ?_)
      obtain ⟨x_11, e14, h⟩ := bnd h
      refine Oc (op_call0 (r3_less_spec e14) goes131 rfl rfl) (Oc oa ?_)
      refine OpsL.nilS ⟨[(5, .b (.one (.sl 1 (x_7.map eI)))), (6, .b (.one (.sl 1 (y_8.map eI)))), (7, B x_11)], []⟩ rfl (Tri.seq (Tri.regionL ?_))
      refine Oc om (Oc om ?_)
      obtain ⟨x_12, e15, h⟩ := bnd h
      refine Oc (op_call0 (r3_less_spec e15) goes131 rfl rfl) (Oc oa ?_)
      refine OpsL.nilS ⟨[(7, B x_11), (8, B x_12)], []⟩ rfl (Tri.seq (Tri.seq (Tri.regionL ?_)))
      refine Oc om (OpsL.nilS ⟨[(8, B x_12), (46, B x_11)], []⟩ rfl (Tri.ite h rfl (fun _ h => ?_) (fun _ h => ?_)))
      ·refine Tri.seq (Tri.regionL ?_)
       refine Oc oa (OpsL.nilS ⟨[(4, I (-1))], []⟩ rfl (Tri.ret (Fin.then_ret ?_)))
       obtain rfl := Option.some.inj h
       refine Fin.keepS ⟨[(4, I (-1))], []⟩ rfl (Fin.result' [.one (.i (-1))] (.inl rfl) rfl (.cons (.tmp rfl) .nil) ⟨rfl, rfl⟩)
      ·refine Tri.skip (Fin.keepS ⟨[(8, B x_12)], []⟩ rfl (Fin.then (Tri.seq (Tri.seq (Tri.regionL ?_)))))
       refine Oc om (OpsL.nilS ⟨[(47, B x_12)], []⟩ rfl (Tri.ite h rfl (fun _ h => ?_) (fun _ h => ?_)))
       ·refine Tri.seq (Tri.regionL ?_)
        refine Oc oa (OpsL.nilS ⟨[(4, I 1)], []⟩ rfl (Tri.ret (Fin.then_ret ?_)))
        obtain rfl := Option.some.inj h
        refine Fin.keepS ⟨[(4, I 1)], []⟩ rfl (Fin.result' [.one (.i 1)] (.inl rfl) rfl (.cons (.tmp rfl) .nil) ⟨rfl, rfl⟩)
       ·refine Tri.skip (Fin.keepS ⟨[], []⟩ rfl (Fin.then (Tri.seq (Tri.regionL ?_))))
        refine Oc oa (OpsL.nilS ⟨[(4, I 0)], []⟩ rfl (Tri.ret ?_))
        obtain rfl := Option.some.inj h
        refine Fin.keepS ⟨[(4, I 0)], []⟩ rfl (Fin.result' [.one (.i 0)] (.inl rfl) rfl (.cons (.tmp rfl) .nil) ⟨rfl, rfl⟩)
end Go.Proofs.YtdjnlmmhbeeihaaGreatDoor

