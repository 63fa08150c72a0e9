/- printed walks -/
import Derived.Test.YtcbbilehdaaffaaGreatDoorW3
namespace Go.Proofs.YtcbbilehdaaffaaGreatDoor
open Go.Sk
set_option maxHeartbeats 1000000
set_option maxRecDepth 4000
set_option linter.unusedSimpArgs false
set_option linter.unusedVariables false
variable {mx : Int}
def skewbacklaw11_UnitNeverMixes_S (F : Nat) (a0 : Quantity) (b0 : Quantity) (c0 : Quantity) : Option Bool :=
 (skewbacklaw11_few_S F a0).bind fun x_1 => (gcall (!(!x_1)) (skewbacklaw11_few_S F b0)).bind fun x_2 => (gcall (!((!x_1) || (!x_2))) (skewbacklaw11_few_S F c0)).bind fun x_3 => if (((!x_1) || (!x_2)) || (!x_3)) = true then ((skewbacklaw11_sanity_S F).bind fun x_4 => some x_4) else (Option.bind (unit_Add_S F a0 b0) (un2 fun x_5 x_6 => Option.bind (unit_Add_S F b0 a0) (un2 fun x_7 x_8 => Option.bind (unit_Cmp_S F a0 b0) (un2 fun x_9 x_10 => letN (((decide (x_6 = 110)) != (decide (a0.U ≠ b0.U))) || (decide (x_6 ≠ x_8))) fun x_11 => letN ((x_11 || (decide (x_5 ≠ x_7))) || ((decide (x_10 = 110)) != (decide (a0.U ≠ b0.U)))) fun x_12 => if x_12 = true then (some false) else (Option.bind (unit_Times_S F a0 c0) (un2 fun x_13 x_14 => Option.bind ((gcall (decide (x_14 = 0)) (q_Sign_S F c0.V)).bind fun x_15 => if ((decide (x_14 = 0)) && (decide (x_15 ≠ 0))) = true then (Option.bind (unit_Over_S F x_13 c0) (un2 fun x_16 x_17 => if ((decide (x_17 ≠ 0)) || (decide (x_16 ≠ a0))) = true then (some (.inr false)) else (some (.inl ())))) else (some (.inl ()))) (alt2 (fun _ => if (decide (x_6 ≠ 0)) = true then ((skewbacklaw11_sanity_S F).bind fun x_18 => letN (x_18 && (decide (x_5 = (⟨(⟨(⟨false, false, A16.zero⟩ : Big), (⟨false, false, A16.zero⟩ : Big)⟩ : Frc), (⟨0, 0, 0⟩ : MUnit)⟩ : Quantity)))) fun x_19 => some x_19) else (Option.bind (unit_Times_S F x_5 c0) (un2 fun x_20 x_21 => Option.bind (unit_Times_S F b0 c0) (un2 fun x_22 x_23 => if ((decide (x_14 ≠ x_23)) || (decide (x_21 ≠ x_14))) = true then (some false) else (if (decide (x_14 ≠ 0)) = true then ((skewbacklaw11_sanity_S F).bind fun x_24 => some (x_24 && (decide (x_14 = 2)))) else (Option.bind (unit_Add_S F x_13 x_22) (un2 fun x_25 x_26 => (skewbacklaw11_sanity_S F).bind fun x_27 => some ((x_27 && (decide (x_26 = 0))) && (decide (x_25 = x_20)))))))))) (fun y => some y))))))))
theorem skewbacklaw11_UnitNeverMixes_spec {F : Nat} {a0 : Quantity} {b0 : Quantity} {c0 : Quantity} {r : Bool} (h : skewbacklaw11_UnitNeverMixes_S F a0 b0 c0 = some r) : Meets Tryz.prog (tabs mx) 8 [] [.agg (eQuantity a0), .agg (eQuantity b0), .agg (eQuantity c0)] (Is [] (.b (.one (.bool r)))) := by
 unfold skewbacklaw11_UnitNeverMixes_S at h
 refine Meets.intro 161 Tryz.func8 Tryz.ntmps8 rfl (by simp) fun E => ?_
 show Tri _ E ⟨161, [], []⟩ _ ⟨[(0, .b (.agg (eQuantity a0))), (1, .b (.agg (eQuantity b0))), (2, .b (.agg (eQuantity c0)))], []⟩ _
 refine Tri.seq (Tri.regionL ?_)
 refine Oc (op_box (k := 101) rfl rfl) (Oc (op_box (k := 102) rfl rfl) (Oc (op_box (k := 103) rfl rfl) (Oc oa ?_)))
 refine OpsL.nilS ⟨[(3, Pt 101 0), (4, Pt 102 0), (5, Pt 103 0)], [(101, .box 31 (eQuantity a0)), (102, .box 31 (eQuantity b0)), (103, .box 31 (eQuantity c0))]⟩ rfl (Tri.seq (Tri.seq (Tri.regionL ?_)))
 refine Oc (lp tyAgg31) ?_
 obtain ⟨x_1, e1, h⟩ := bnd h
 refine Oc (op_call0 (skewbacklaw11_few_spec e1) goes35 rfl rfl) (Oc (op_not rfl) (Oc om ?_))
 refine CgF (!(!x_1)) [] (fun g2 => trivial) (fun g2 => lp tyAgg31) (OpsL.keepS ⟨[(3, _), (4, _), (5, _), (26, B (!x_1)), (27, .opt (!(!x_1)) (.agg (eQuantity b0)))], [(101, _), (102, _), (103, _)]⟩ rfl ?_)
 obtain ⟨x_2, e4, h⟩ := bnd h
 refine CgF (!(!x_1)) [27] (fun g3 => ⟨g3, trivial⟩) (fun g3 => op_call0 (skewbacklaw11_few_spec (gc e4 g3)) goes35 rfl rfl) (CgF (!(!x_1)) [28] (fun g5 => ⟨g5, trivial⟩) (fun g5 => op_not rfl) (Oc (op_pick_or (fun e => by rw [e]; rfl) rfl rfl rfl rfl) (Oc om ?_)))
 refine CgF (!((!x_1) || (!x_2))) [] (fun g6 => trivial) (fun g6 => lp tyAgg31) ?_
 obtain ⟨x_3, e8, h⟩ := bnd h
 refine CgF (!((!x_1) || (!x_2))) [32] (fun g7 => ⟨g7, trivial⟩) (fun g7 => op_call0 (skewbacklaw11_few_spec (gc e8 g7)) goes35 rfl rfl) (CgF (!((!x_1) || (!x_2))) [33] (fun g9 => ⟨g9, trivial⟩) (fun g9 => op_not rfl) (Oc (op_pick_or (fun e => by rw [e]; rfl) rfl rfl rfl rfl) (OpsL.nilS ⟨[(3, _), (4, _), (5, _), (35, B (((!x_1) || (!x_2)) || (!x_3)))], [(101, _), (102, _), (103, _)]⟩ rfl (Tri.ite h rfl (fun _ h => ?_) (fun _ h => ?_)))))
 ·refine Tri.seq (Tri.regionL ?_)
  obtain ⟨x_4, e10, h⟩ := bnd h
  refine Oc (op_call0 (skewbacklaw11_sanity_spec e10) goes10 rfl rfl) (Oc oa ?_)
  refine OpsL.nilS ⟨[(6, B x_4)], []⟩ rfl (Tri.ret (Fin.then_ret ?_))
  obtain rfl := Option.some.inj h
  refine Fin.keepS ⟨[(6, _)], []⟩ rfl (Fin.result' [.one (.bool x_4)] (.inl rfl) rfl (.cons (.tmp rfl) .nil) ⟨rfl, rfl⟩)
 ·refine Tri.skip (Fin.keepS ⟨[(3, _), (4, _), (5, _)], [(101, _), (102, _), (103, _)]⟩ rfl (Fin.then (Tri.seq (Tri.regionL ?_))))
  refine Oc (lp tyAgg31) (Oc (lp tyAgg31) ?_)
  obtain ⟨⟨x_5, x_6⟩, e11, h⟩ := bnd h
  refine Oc (op_call0 (unit_Add_spec e11) goes36 rfl rfl) (Oc om (Oc (op_extract rfl rfl) ?_))
  refine OpsL.keepS ⟨[(3, _), (4, _), (5, _), (37, .tup [.agg (eQuantity x_5), .one (.i x_6)]), (41, .b (.agg (eQuantity x_5)))], [(101, _), (102, _), (103, _)]⟩ rfl (Oc (op_extract rfl rfl) (Oc (op_alloc (k := 104) tyZero31 rfl) (Oc (op_store_p tyAgg31 rfl rfl rfl rfl (Nat.le_of_ble_eq_true rfl) rfl) (Oc oa ?_))))
  refine OpsL.nilS ⟨[(3, _), (4, _), (5, _), (7, Pt 104 0), (8, I x_6)], [(101, _), (102, _), (103, _), (104, .box 31 (eQuantity x_5))]⟩ rfl (Tri.seq (Tri.regionL ?_))
  refine Oc (lp tyAgg31) (Oc (lp tyAgg31) ?_)
  obtain ⟨⟨x_7, x_8⟩, e12, h⟩ := bnd h
  refine Oc (op_call0 (unit_Add_spec e12) goes36 rfl rfl) (Oc om (Oc (op_extract rfl rfl) ?_))
  refine OpsL.keepS ⟨[(3, _), (4, _), (5, _), (7, _), (8, _), (43, .tup [.agg (eQuantity x_7), .one (.i x_8)]), (47, .b (.agg (eQuantity x_7)))], [(101, _), (102, _), (103, _), (104, _)]⟩ rfl (Oc (op_extract rfl rfl) (Oc (op_alloc (k := 105) tyZero31 rfl) (Oc (op_store_p tyAgg31 rfl rfl rfl rfl (Nat.le_of_ble_eq_true rfl) rfl) (Oc oa ?_))))
  refine OpsL.nilS ⟨[(3, _), (4, _), (5, _), (7, _), (8, _), (9, Pt 105 0), (10, I x_8)], [(101, _), (102, _), (103, _), (104, _), (105, .box 31 (eQuantity x_7))]⟩ rfl (Tri.seq (Tri.regionL ?_))
  refine Oc (lp tyAgg31) (Oc (lp tyAgg31) ?_)
  obtain ⟨⟨x_9, x_10⟩, e13, h⟩ := bnd h
  refine Oc (op_call0 (unit_Cmp_spec e13) goes37 rfl rfl) (Oc om (Oc (op_extract rfl rfl) ?_))
  refine OpsL.keepS ⟨[(3, _), (4, _), (5, _), (7, _), (8, _), (9, _), (10, _), (49, .tup [.one (.i x_9), .one (.i x_10)]), (53, I x_9)], [(101, _), (102, _), (103, _), (104, _), (105, _)]⟩ rfl (Oc (op_extract rfl rfl) (Oc oa (Oc oa ?_)))
  refine OpsL.nilS ⟨[(3, _), (4, _), (5, _), (7, _), (8, _), (9, _), (10, _), (12, I x_10)], [(101, _), (102, _), (103, _), (104, _), (105, _)]⟩ rfl (Tri.seq (Tri.seq (Tri.regionL ?_)))
  refine Oc om (Oc (op_eql rfl rfl) (Oc (op_field_p tyFld31_1 rfl rfl) (Oc (lp tyAgg29) (Oc (op_field_p tyFld31_1 rfl rfl) (Oc (lp tyAgg29) ?_)))))
  refine Oc (op_neq_agg (eqAgg29 a0.U b0.U) rfl rfl neg_dec) (OpsL.keepS ⟨[(3, _), (4, _), (5, _), (7, _), (8, _), (9, _), (10, _), (12, _), (56, B (decide (x_6 = 110))), (61, B (decide (a0.U ≠ b0.U)))], [(101, _), (102, _), (103, _), (104, _), (105, _)]⟩ rfl (Oc (op_neq_bool und4 rfl rfl) (Oc om ?_)))
  refine CgF (!((decide (x_6 = 110)) != (decide (a0.U ≠ b0.U)))) [] (fun g14 => trivial) (fun g14 => om) (CgF (!((decide (x_6 = 110)) != (decide (a0.U ≠ b0.U)))) [] (fun g15 => by exact trivial) (fun g15 => om) (CgF (!((decide (x_6 = 110)) != (decide (a0.U ≠ b0.U)))) [64, 65] (fun g16 => by exact ⟨g16, g16, trivial⟩) (fun g16 => op_neq rfl rfl) (OpsL.consB h rfl (op_pick_or (fun e => by rw [e]; rfl) rfl rfl rfl rfl) (fun x_11 h => ?_))))
  refine Oc om (CgF (!x_11) [] (fun g17 => by exact trivial) (fun g17 => lp tyAgg31) (OpsL.keepS ⟨[(3, _), (4, _), (5, _), (7, _), (8, _), (9, _), (12, _), (68, B x_11), (69, .opt (!x_11) (.agg (eQuantity x_5)))], [(101, _), (102, _), (103, _), (104, _), (105, _)]⟩ rfl (CgF (!x_11) [] (fun g18 => by exact trivial) (fun g18 => lp tyAgg31) (CgF (!x_11) [69, 70] (fun g19 => by exact ⟨g19, g19, trivial⟩) (fun g19 => op_neq_agg (eqAgg31 x_5 x_7) rfl rfl neg_dec) (Oc (op_pick_or (fun e => by rw [e]; rfl) rfl rfl rfl rfl) (Oc om ?_))))))
  refine CgF (!(x_11 || (decide (x_5 ≠ x_7)))) [] (fun g20 => trivial) (fun g20 => om) (CgF (!(x_11 || (decide (x_5 ≠ x_7)))) [74] (fun g21 => by exact ⟨g21, trivial⟩) (fun g21 => op_eql rfl rfl) (CgF (!(x_11 || (decide (x_5 ≠ x_7)))) [] (fun g22 => by exact trivial) (fun g22 => op_field_p tyFld31_1 rfl rfl) (CgF (!(x_11 || (decide (x_5 ≠ x_7)))) [76] (fun g23 => by exact ⟨g23, trivial⟩) (fun g23 => lp tyAgg29) (OpsL.keepS ⟨[(3, _), (4, _), (5, _), (7, _), (8, _), (73, B (x_11 || (decide (x_5 ≠ x_7)))), (75, .opt (!(x_11 || (decide (x_5 ≠ x_7)))) (.one (.bool (decide (x_10 = 110))))), (77, .opt (!(x_11 || (decide (x_5 ≠ x_7)))) (.agg (eMUnit a0.U)))], [(101, _), (102, _), (103, _), (104, _)]⟩ rfl (CgF (!(x_11 || (decide (x_5 ≠ x_7)))) [] (fun g24 => by exact trivial) (fun g24 => op_field_p tyFld31_1 rfl rfl) ?_)))))
  refine CgF (!(x_11 || (decide (x_5 ≠ x_7)))) [78] (fun g25 => ⟨g25, trivial⟩) (fun g25 => lp tyAgg29) (CgF (!(x_11 || (decide (x_5 ≠ x_7)))) [77, 79] (fun g26 => by exact ⟨g26, g26, trivial⟩) (fun g26 => op_neq_agg (eqAgg29 a0.U b0.U) rfl rfl neg_dec) (CgF (!(x_11 || (decide (x_5 ≠ x_7)))) [75, 80] (fun g27 => by exact ⟨g27, g27, trivial⟩) (fun g27 => op_neq_bool und4 rfl rfl) (OpsL.consB h rfl (op_pick_or (fun e => by rw [e]; rfl) rfl rfl rfl rfl) (fun x_12 h => ?_))))
  refine OpsL.nilS ⟨[(3, _), (4, _), (5, _), (7, _), (8, _), (82, B x_12)], [(101, _), (102, _), (103, _), (104, _)]⟩ rfl (Tri.ite h rfl (fun _ h => ?_) (fun _ h => ?_))
  ·refine Tri.seq (Tri.regionL ?_)
   refine Oc oa (OpsL.nilS ⟨[(6, B false)], []⟩ rfl (Tri.ret (Fin.then_ret ?_)))
   obtain rfl := Option.some.inj h
   refine Fin.keepS ⟨[(6, _)], []⟩ rfl (Fin.result' [.one (.bool false)] (.inl rfl) rfl (.cons (.tmp rfl) .nil) ⟨rfl, rfl⟩)
  ·refine Tri.skip (Fin.keepS ⟨[(3, _), (4, _), (5, _), (7, _), (8, _)], [(101, _), (102, _), (103, _), (104, _)]⟩ rfl (Fin.then (Tri.seq (Tri.regionL ?_))))
   refine Oc (lp tyAgg31) (Oc (lp tyAgg31) ?_)
   obtain ⟨⟨x_13, x_14⟩, e28, h⟩ := bnd h
   refine Oc (op_call0 (unit_Times_spec e28) goes38 rfl rfl) (Oc om (Oc (op_extract rfl rfl) ?_))
   refine OpsL.keepS ⟨[(3, _), (4, _), (5, _), (7, _), (8, _), (83, .tup [.agg (eQuantity x_13), .one (.i x_14)]), (87, .b (.agg (eQuantity x_13)))], [(101, _), (102, _), (103, _), (104, _)]⟩ rfl (Oc (op_extract rfl rfl) (Oc (op_alloc (k := 106) tyZero31 rfl) (Oc (op_store_p tyAgg31 rfl rfl rfl rfl (Nat.le_of_ble_eq_true rfl) rfl) (Oc oa ?_))))
   refine OpsL.nilS ⟨[(3, _), (4, _), (5, _), (7, _), (8, _), (13, Pt 106 0), (14, I x_14)], [(101, _), (102, _), (103, _), (104, _), (106, .box 31 (eQuantity x_13))]⟩ rfl ?_
   obtain ⟨v29, h30, h⟩ := bnd h
   refine Tri.seqJ (v := v29) (fun (_ : Unit) => ⟨[(4, Pt 102 0), (5, Pt 103 0), (7, Pt 104 0), (8, I x_6), (13, Pt 106 0), (14, I x_14)], [(102, .box 31 (eQuantity b0)), (103, .box 31 (eQuantity c0)), (104, .box 31 (eQuantity x_5)), (106, .box 31 (eQuantity x_13))]⟩) (fun z => .inl z) ?_ ?_
   ·refine Tri.seq (Tri.regionL ?_)
    refine Oc om (Oc (op_eql rfl rfl) (Oc om ?_))
    refine CgT (decide (x_14 = 0)) [] (fun g31 => trivial) (fun g31 => op_field_p tyFld31_0 rfl rfl) (CgT (decide (x_14 = 0)) [92] (fun g32 => ⟨g32, trivial⟩) (fun g32 => lp tyAgg27) (OpsL.keepS ⟨[(3, _), (4, _), (5, _), (7, _), (8, _), (13, _), (14, _), (91, B (decide (x_14 = 0))), (93, .opt (decide (x_14 = 0)) (.agg (eFrc c0.V)))], [(101, _), (102, _), (103, _), (104, _), (106, _)]⟩ rfl ?_))
    obtain ⟨x_15, e34, h30⟩ := bnd h30
    refine CgT (decide (x_14 = 0)) [93] (fun g33 => ⟨g33, trivial⟩) (fun g33 => op_call0 (q_Sign_spec (gc e34 g33)) goes39 rfl rfl) (CgT (decide (x_14 = 0)) [94] (fun g35 => ⟨g35, trivial⟩) (fun g35 => op_neq rfl rfl) (Oc (op_pick_and (fun e => e) rfl rfl rfl rfl) (OpsL.nilS ⟨[(3, _), (4, _), (5, _), (7, _), (8, _), (13, _), (14, _), (96, B ((decide (x_14 = 0)) && (decide (x_15 ≠ 0))))], [(101, _), (102, _), (103, _), (104, _), (106, _)]⟩ rfl (Tri.ite h30 rfl (fun _ h30 => ?_) (fun _ h30 => ?_)))))
    ·refine Tri.seq (Tri.regionL ?_)
     refine Oc (lp tyAgg31) (Oc (lp tyAgg31) ?_)
     obtain ⟨⟨x_16, x_17⟩, e36, h30⟩ := bnd h30
     refine Oc (op_call0 (unit_Over_spec e36) goes40 rfl rfl) (Oc om (Oc (op_extract rfl rfl) ?_))
     refine OpsL.keepS ⟨[(3, _), (4, _), (5, _), (7, _), (8, _), (13, _), (14, _), (97, .tup [.agg (eQuantity x_16), .one (.i x_17)]), (101, .b (.agg (eQuantity x_16)))], [(101, _), (102, _), (103, _), (104, _), (106, _)]⟩ rfl (Oc (op_extract rfl rfl) (Oc (op_alloc (k := 107) tyZero31 rfl) (Oc (op_store_p tyAgg31 rfl rfl rfl rfl (Nat.le_of_ble_eq_true rfl) rfl) (Oc oa ?_))))
     refine OpsL.nilS ⟨[(3, _), (4, _), (5, _), (7, _), (8, _), (13, _), (14, _), (15, Pt 107 0), (16, I x_17)], [(101, _), (102, _), (103, _), (104, _), (106, _), (107, .box 31 (eQuantity x_16))]⟩ rfl (Tri.seq (Tri.regionL ?_))
     refine Oc om (Oc (op_neq rfl rfl) (Oc om ?_))
     refine CgF (!(decide (x_17 ≠ 0))) [] (fun g37 => trivial) (fun g37 => lp tyAgg31) (CgF (!(decide (x_17 ≠ 0))) [] (fun g38 => by exact trivial) (fun g38 => lp tyAgg31) (CgF (!(decide (x_17 ≠ 0))) [106, 107] (fun g39 => by exact ⟨g39, g39, trivial⟩) (fun g39 => op_neq_agg (eqAgg31 x_16 a0) rfl rfl neg_dec) (Oc (op_pick_or (fun e => by rw [e]; rfl) rfl rfl rfl rfl) (OpsL.nilS ⟨[(4, _), (5, _), (7, _), (8, _), (13, _), (14, _), (109, B ((decide (x_17 ≠ 0)) || (decide (x_16 ≠ a0))))], [(102, _), (103, _), (104, _), (106, _)]⟩ rfl (Tri.ite h30 rfl (fun _ h30 => ?_) (fun _ h30 => ?_))))))
     ·refine Tri.seq (Tri.regionL ?_)
      refine Oc oa (OpsL.nilS ⟨[(6, B false)], []⟩ rfl (Tri.ret ?_))
      obtain rfl := Option.some.inj h30
      refine Fin.then_ret ?_
      obtain rfl := Option.some.inj h
      refine Fin.keepS ⟨[(6, _)], []⟩ rfl (Fin.result' [.one (.bool false)] (.inl rfl) rfl (.cons (.tmp rfl) .nil) ⟨rfl, rfl⟩)
     ·refine Tri.skip ?_
      exact Fin.join [4, 5, 7, 8, 13, 14] [102, 103, 104, 106] () (Option.some.inj h30) rfl
    ·refine Tri.skip ?_
     exact Fin.join [4, 5, 7, 8, 13, 14] [102, 103, 104, 106] () (Option.some.inj h30) rfl
   ·rintro _ hv
    subst v29
    refine Tri.seq (Tri.seq (Tri.regionL ?_))
    refine Oc om (Oc (op_neq rfl rfl) ?_)
    refine OpsL.nilS ⟨[(4, _), (5, _), (7, _), (13, _), (14, _), (111, B (decide (x_6 ≠ 0)))], [(102, _), (103, _), (104, _), (106, _)]⟩ rfl (Tri.ite h rfl (fun _ h => ?_) (fun _ h => ?_))
    ·refine Tri.seq (Tri.regionL ?_)
     obtain ⟨x_18, e40, h⟩ := bnd h
     refine Oc (op_call0 (skewbacklaw11_sanity_spec e40) goes10 rfl rfl) (Oc om ?_)
     refine CgT x_18 [] (fun g41 => trivial) (fun g41 => lp tyAgg31) (CgT x_18 [] (fun g42 => by exact trivial) (fun g42 => op_build tyBuild31 rfl rfl) (CgT x_18 [114, 115] (fun g43 => by exact ⟨g43, g43, trivial⟩) (fun g43 => op_eql_agg (eqAgg31 x_5 (⟨(⟨(⟨false, false, A16.zero⟩ : Big), (⟨false, false, A16.zero⟩ : Big)⟩ : Frc), (⟨0, 0, 0⟩ : MUnit)⟩ : Quantity)) rfl rfl) (OpsL.consB h rfl (op_pick_and (fun e => e) rfl rfl rfl rfl) (fun x_19 h => ?_))))
     refine Oc oa (OpsL.nilS ⟨[(6, B x_19)], []⟩ rfl (Tri.ret (Fin.then_ret ?_)))
     obtain rfl := Option.some.inj h
     refine Fin.keepS ⟨[(6, _)], []⟩ rfl (Fin.result' [.one (.bool x_19)] (.inl rfl) rfl (.cons (.tmp rfl) .nil) ⟨rfl, rfl⟩)
    ·refine Tri.skip (Fin.keepS ⟨[(4, _), (5, _), (7, _), (13, _), (14, _)], [(102, _), (103, _), (104, _), (106, _)]⟩ rfl (Fin.then (Tri.seq (Tri.regionL ?_))))
     refine Oc (lp tyAgg31) (Oc (lp tyAgg31) ?_)
     obtain ⟨⟨x_20, x_21⟩, e44, h⟩ := bnd h
     refine Oc (op_call0 (unit_Times_spec e44) goes38 rfl rfl) (Oc om (Oc (op_extract rfl rfl) ?_))
     refine OpsL.keepS ⟨[(4, _), (5, _), (13, _), (14, _), (118, .tup [.agg (eQuantity x_20), .one (.i x_21)]), (122, .b (.agg (eQuantity x_20)))], [(102, _), (103, _), (106, _)]⟩ rfl (Oc (op_extract rfl rfl) (Oc (op_alloc (k := 108) tyZero31 rfl) (Oc (op_store_p tyAgg31 rfl rfl rfl rfl (Nat.le_of_ble_eq_true rfl) rfl) (Oc oa ?_))))
     refine OpsL.nilS ⟨[(4, _), (5, _), (13, _), (14, _), (17, Pt 108 0), (18, I x_21)], [(102, _), (103, _), (106, _), (108, .box 31 (eQuantity x_20))]⟩ rfl (Tri.seq (Tri.regionL ?_))
     refine Oc (lp tyAgg31) (Oc (lp tyAgg31) ?_)
     obtain ⟨⟨x_22, x_23⟩, e45, h⟩ := bnd h
     refine Oc (op_call0 (unit_Times_spec e45) goes38 rfl rfl) (Oc om (Oc (op_extract rfl rfl) ?_))
     refine OpsL.keepS ⟨[(13, _), (14, _), (17, _), (18, _), (124, .tup [.agg (eQuantity x_22), .one (.i x_23)]), (128, .b (.agg (eQuantity x_22)))], [(106, _), (108, _)]⟩ rfl (Oc (op_extract rfl rfl) (Oc (op_alloc (k := 109) tyZero31 rfl) (Oc (op_store_p tyAgg31 rfl rfl rfl rfl (Nat.le_of_ble_eq_true rfl) rfl) (Oc oa ?_))))
     refine OpsL.nilS ⟨[(13, _), (14, _), (17, _), (18, _), (19, Pt 109 0), (20, I x_23)], [(106, _), (108, _), (109, .box 31 (eQuantity x_22))]⟩ rfl (Tri.seq (Tri.seq (Tri.regionL ?_)))
     refine Oc om (Oc om (Oc (op_neq rfl rfl) (Oc om ?_)))
     refine CgF (!(decide (x_14 ≠ x_23))) [] (fun g46 => trivial) (fun g46 => om) (CgF (!(decide (x_14 ≠ x_23))) [] (fun g47 => by exact trivial) (fun g47 => om) (CgF (!(decide (x_14 ≠ x_23))) [134, 135] (fun g48 => by exact ⟨g48, g48, trivial⟩) (fun g48 => op_neq rfl rfl) (Oc (op_pick_or (fun e => by rw [e]; rfl) rfl rfl rfl rfl) (OpsL.nilS ⟨[(13, _), (14, _), (17, _), (19, _), (137, B ((decide (x_14 ≠ x_23)) || (decide (x_21 ≠ x_14))))], [(106, _), (108, _), (109, _)]⟩ rfl (Tri.ite h rfl (fun _ h => ?_) (fun _ h => ?_))))))
     ·refine Tri.seq (Tri.regionL ?_)
      refine Oc oa (OpsL.nilS ⟨[(6, B false)], []⟩ rfl (Tri.ret (Fin.then_ret ?_)))
      obtain rfl := Option.some.inj h
      refine Fin.keepS ⟨[(6, _)], []⟩ rfl (Fin.result' [.one (.bool false)] (.inl rfl) rfl (.cons (.tmp rfl) .nil) ⟨rfl, rfl⟩)
     ·refine Tri.skip (Fin.keepS ⟨[(13, _), (14, _), (17, _), (19, _)], [(106, _), (108, _), (109, _)]⟩ rfl (Fin.then (Tri.seq (Tri.seq (Tri.regionL ?_)))))
      refine Oc om (Oc (op_neq rfl rfl) ?_)
      refine OpsL.nilS ⟨[(13, _), (14, _), (17, _), (19, _), (139, B (decide (x_14 ≠ 0)))], [(106, _), (108, _), (109, _)]⟩ rfl (Tri.ite h rfl (fun _ h => ?_) (fun _ h => ?_))
      ·refine Tri.seq (Tri.regionL ?_)
       obtain ⟨x_24, e49, h⟩ := bnd h
       refine Oc (op_call0 (skewbacklaw11_sanity_spec e49) goes10 rfl rfl) (Oc om ?_)
       refine CgT x_24 [] (fun g50 => trivial) (fun g50 => om) (CgT x_24 [142] (fun g51 => by exact ⟨g51, trivial⟩) (fun g51 => op_eql rfl rfl) (Oc (op_pick_and (fun e => e) rfl rfl rfl rfl) (Oc oa ?_)))
       refine OpsL.nilS ⟨[(6, B (x_24 && (decide (x_14 = 2))))], []⟩ rfl (Tri.ret (Fin.then_ret ?_))
       obtain rfl := Option.some.inj h
       refine Fin.keepS ⟨[(6, _)], []⟩ rfl (Fin.result' [.one (.bool (x_24 && (decide (x_14 = 2))))] (.inl rfl) rfl (.cons (.tmp rfl) .nil) ⟨rfl, rfl⟩)
      ·refine Tri.skip (Fin.keepS ⟨[(13, _), (17, _), (19, _)], [(106, _), (108, _), (109, _)]⟩ rfl (Fin.then (Tri.seq (Tri.regionL ?_))))
       refine Oc (lp tyAgg31) (Oc (lp tyAgg31) ?_)
       obtain ⟨⟨x_25, x_26⟩, e52, h⟩ := bnd h
       refine Oc (op_call0 (unit_Add_spec e52) goes36 rfl rfl) (Oc om (Oc (op_extract rfl rfl) ?_))
       refine OpsL.keepS ⟨[(17, _), (145, .tup [.agg (eQuantity x_25), .one (.i x_26)]), (149, .b (.agg (eQuantity x_25)))], [(108, _)]⟩ rfl (Oc (op_extract rfl rfl) (Oc (op_alloc (k := 110) tyZero31 rfl) (Oc (op_store_p tyAgg31 rfl rfl rfl rfl (Nat.le_of_ble_eq_true rfl) rfl) (Oc oa ?_))))
       refine OpsL.nilS ⟨[(17, _), (21, Pt 110 0), (22, I x_26)], [(108, _), (110, .box 31 (eQuantity x_25))]⟩ rfl (Tri.seq (Tri.regionL ?_))
       obtain ⟨x_27, e53, h⟩ := bnd h
       refine Oc (op_call0 (skewbacklaw11_sanity_spec e53) goes10 rfl rfl) (Oc om ?_)
       refine CgT x_27 [] (fun g54 => trivial) (fun g54 => om) (CgT x_27 [153] (fun g55 => by exact ⟨g55, trivial⟩) (fun g55 => op_eql rfl rfl) (Oc (op_pick_and (fun e => e) rfl rfl rfl rfl) (OpsL.keepS ⟨[(17, _), (21, _), (155, B (x_27 && (decide (x_26 = 0))))], [(108, _), (110, _)]⟩ rfl (Oc om (CgT (x_27 && (decide (x_26 = 0))) [] (fun g56 => by exact trivial) (fun g56 => lp tyAgg31) ?_)))))
       refine CgT (x_27 && (decide (x_26 = 0))) [] (fun g57 => trivial) (fun g57 => lp tyAgg31) (CgT (x_27 && (decide (x_26 = 0))) [157, 158] (fun g58 => by exact ⟨g58, g58, trivial⟩) (fun g58 => op_eql_agg (eqAgg31 x_25 x_20) rfl rfl) (Oc (op_pick_and (fun e => e) rfl rfl rfl rfl) (Oc oa ?_)))
       refine OpsL.nilS ⟨[(6, B ((x_27 && (decide (x_26 = 0))) && (decide (x_25 = x_20))))], []⟩ rfl (Tri.ret ?_)
       obtain rfl := Option.some.inj h
       refine Fin.keepS ⟨[(6, _)], []⟩ rfl (Fin.result' [.one (.bool ((x_27 && (decide (x_26 = 0))) && (decide (x_25 = x_20))))] (.inl rfl) rfl (.cons (.tmp rfl) .nil) ⟨rfl, rfl⟩)
end Go.Proofs.YtcbbilehdaaffaaGreatDoor

