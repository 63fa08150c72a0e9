/- printed walks -/
import Derived.Test.YtbcdabflmkgkiaaGreatDoorW2
namespace Go.Proofs.YtbcdabflmkgkiaaGreatDoor
open Go.Sk
set_option maxHeartbeats 4000000
set_option maxRecDepth 4000
set_option linter.unusedSimpArgs false
set_option linter.unusedVariables false
variable {mx : Int}
def w_divided_S (F : Nat) (a0 : Big) (b0 : Big) : Option (Big × Big) :=
 (w_good_S F [a0, b0]).bind fun x_1 => (gcall (!(!x_1)) (w_Sign_S F b0)).bind fun x_2 => if ((!x_1) || (decide (x_2 = 0))) = true then ((w_Bad_S F).bind fun x_3 => (w_Bad_S F).bind fun x_4 => some (x_3, x_4)) else (Option.bind (Option.bind (w_Small_S F a0) (un2 fun x_5 x_6 => if (x_6 && (decide (x_5 ≠ (-9223372036854775808)))) = true then (Option.bind (w_Small_S F b0) (un2 fun x_7 x_8 => if (x_8 && (decide (x_7 ≠ (-9223372036854775808)))) = true then ((quo? .i64 x_5 x_7).bind fun x_9 => (rem? x_5 x_7).bind fun x_10 => Option.bind (letN ((decide (x_10 ≠ 0)) && ((decide (x_10 < 0)) != (decide (x_7 < 0)))) fun x_13 => if x_13 = true then (some (IntKind.i64.wrap (x_9 - 1), IntKind.i64.wrap (x_10 + x_7))) else (some (x_9, x_10))) (un2 fun q_11 r_12 => (w_Of_S F q_11).bind fun x_14 => (w_Of_S F r_12).bind fun x_15 => some (.inr (x_14, x_15)))) else (some (.inl ())))) else (some (.inl ())))) (alt2 (fun _ => Option.bind (w_quotient_S F a0.W b0.W) (un2 fun x_16 x_17 => (w_signed_S F (a0.Neg != b0.Neg) x_16).bind fun x_18 => Option.bind (if ((decide (x_17 ≠ A16.zero)) && (a0.Neg != b0.Neg)) = true then ((w_Of_S F 1).bind fun x_21 => (w_Sub_S F x_18 x_21).bind fun x_22 => (w_minus_S F b0.W x_17).bind fun x_23 => some (x_23, x_22)) else (some (x_17, x_18))) (un2 fun r_19 q_20 => (w_signed_S F b0.Neg r_19).bind fun x_24 => some (q_20, x_24)))) (fun y => some y)))
theorem w_divided_spec {F : Nat} {a0 : Big} {b0 : Big} {r : Big × Big} (h : w_divided_S F a0 b0 = some r) : Meets Tryz.prog (tabs mx) 107 [] [.agg (eBig a0), .agg (eBig b0)] (Is [] (.tup [.agg (eBig r.1), .agg (eBig r.2)])) := by
 unfold w_divided_S at h
 refine Meets.intro 108 Tryz.func107 Tryz.ntmps107 rfl (by simp) fun E => ?_
 show Tri _ E ⟨108, [], [], []⟩ _ ⟨[(0, .b (.agg (eBig a0))), (1, .b (.agg (eBig b0)))], []⟩ _
 refine Tri.seq (Tri.regionL ?_)
 refine Oc (op_box (k := 101) rfl rfl) (Oc (op_box (k := 102) rfl rfl) (Oc (op_alloc (k := 103) tyZero35 rfl) (Oc (op_alloc (k := 104) tyZero35 rfl) ?_)))
 refine OpsL.nilS ⟨[(2, Pt 101 0), (3, Pt 102 0), (4, Pt 103 0), (5, Pt 104 0)], [(101, .box 35 (eBig a0)), (102, .box 35 (eBig b0)), (103, .box 35 zBig), (104, .box 35 zBig)]⟩ rfl (Tri.seq (Tri.seq (Tri.regionL ?_)))
 refine Oc (lp tyAgg35) (Oc (lp tyAgg35) (Oc (op_buildSlice (k := 105) (es := [a0, b0].map eBig) tySl178 rfl rfl (uni_map fun _ => rfl) rfl (by decide) (by decide) rfl) ?_))
 obtain ⟨x_1, e1, h⟩ := bnd h
 refine Oc (op_callB (w_good_spec e1) goes103 rfl CP.flat_bool) (OpsL.keepS ⟨[(2, _), (3, _), (4, _), (5, _), (18, B x_1)], [(101, _), (102, _), (103, _), (104, _)]⟩ rfl (Oc (op_not rfl) (Oc om ?_)))
 refine CgF (!(!x_1)) [] (fun g2 => trivial) (fun g2 => lp tyAgg35) ?_
 obtain ⟨x_2, e4, h⟩ := bnd h
 refine CgF (!(!x_1)) [21] (fun g3 => ⟨g3, trivial⟩) (fun g3 => op_call0 (w_Sign_spec (gc e4 g3)) goes74 rfl rfl) (CgF (!(!x_1)) [22] (fun g5 => ⟨g5, trivial⟩) (fun g5 => op_eql rfl rfl) (Oc (op_pick_or (fun e => by first | (rw [e]; rfl) | (simp only at e; rw [e]; rfl)) rfl rfl rfl rfl) (OpsL.nilS ⟨[(2, _), (3, _), (4, _), (5, _), (24, B ((!x_1) || (decide (x_2 = 0))))], [(101, _), (102, _), (103, _), (104, _)]⟩ rfl (Tri.ite h rfl (fun _ h => ?_) (fun _ h => ?_)))))
 ·refine Tri.seq (Tri.regionL ?_)
  obtain ⟨x_3, e6, h⟩ := bnd h
  refine Oc (op_call0 (w_Bad_spec e6) goes68 rfl rfl) ?_
  obtain ⟨x_4, e7, h⟩ := bnd h
  refine Oc (op_call0 (w_Bad_spec e7) goes68 rfl rfl) (Oc (op_store_p tyAgg35 rfl rfl rfl rfl (Nat.le_of_ble_eq_true rfl) rfl) (Oc (op_store_p tyAgg35 rfl rfl rfl rfl (Nat.le_of_ble_eq_true rfl) rfl) ?_))
  refine OpsL.nilS ⟨[(4, _), (5, _)], [(103, .box 35 (eBig x_3)), (104, .box 35 (eBig x_4))]⟩ rfl (Tri.ret (Fin.then_ret ?_))
  obtain rfl := Option.some.inj h
  refine Fin.keepS ⟨[(4, _), (5, _)], [(103, _), (104, _)]⟩ rfl (Fin.result' [.agg (eBig x_3), .agg (eBig x_4)] (.inl rfl) rfl (.cons (.agg tyAgg35 rfl rfl rfl rfl) (.cons (.agg tyAgg35 rfl rfl rfl rfl) .nil)) ⟨rfl, rfl⟩)
 ·refine Tri.skip (Fin.keepS ⟨[(2, _), (3, _), (4, _), (5, _)], [(101, _), (102, _), (103, _), (104, _)]⟩ rfl (Fin.then ?_))
  obtain ⟨v8, h9, h⟩ := bnd h
  refine Tri.seqJ (v := v8) (fun (_ : Unit) => ⟨[(2, Pt 101 0), (3, Pt 102 0), (4, Pt 103 0), (5, Pt 104 0)], [(101, .box 35 (eBig a0)), (102, .box 35 (eBig b0)), (103, .box 35 zBig), (104, .box 35 zBig)]⟩) (fun z => .inl z) ?_ ?_
  ·refine Tri.seq (Tri.regionL ?_)
   refine Oc (lp tyAgg35) ?_
   obtain ⟨⟨x_5, x_6⟩, e10, h9⟩ := bnd h9
   refine Oc (op_call0 (w_Small_spec e10) goes146 rfl rfl) (Oc om (Oc (op_extract rfl rfl) (Oc (op_extract rfl rfl) (Oc oa (Oc oa ?_)))))
   refine OpsL.nilS ⟨[(2, _), (3, _), (4, _), (5, _), (6, I x_5), (7, B x_6)], [(101, _), (102, _), (103, _), (104, _)]⟩ rfl (Tri.seq (Tri.regionL ?_))
   refine Oc om (Oc om ?_)
   refine CgT x_6 [] (fun g11 => trivial) (fun g11 => om) (CgT x_6 [34] (fun g12 => by exact ⟨g12, trivial⟩) (fun g12 => op_neq rfl rfl) (Oc (op_pick_and (fun e => e) rfl rfl rfl rfl) (OpsL.nilS ⟨[(2, _), (3, _), (4, _), (5, _), (6, _), (36, B (x_6 && (decide (x_5 ≠ (-9223372036854775808)))))], [(101, _), (102, _), (103, _), (104, _)]⟩ rfl (Tri.ite h9 rfl (fun _ h9 => ?_) (fun _ h9 => ?_)))))
   ·refine Tri.seq (Tri.regionL ?_)
    refine Oc (lp tyAgg35) ?_
    obtain ⟨⟨x_7, x_8⟩, e13, h9⟩ := bnd h9
    refine Oc (op_call0 (w_Small_spec e13) goes146 rfl rfl) (Oc om (Oc (op_extract rfl rfl) (Oc (op_extract rfl rfl) (Oc oa (Oc oa ?_)))))
    refine OpsL.nilS ⟨[(2, _), (3, _), (4, _), (5, _), (6, _), (8, I x_7), (9, B x_8)], [(101, _), (102, _), (103, _), (104, _)]⟩ rfl (Tri.seq (Tri.regionL ?_))
    refine Oc om (Oc om ?_)
    refine CgT x_8 [] (fun g14 => trivial) (fun g14 => om) (CgT x_8 [44] (fun g15 => by exact ⟨g15, trivial⟩) (fun g15 => op_neq rfl rfl) (Oc (op_pick_and (fun e => e) rfl rfl rfl rfl) (OpsL.nilS ⟨[(2, _), (3, _), (4, _), (5, _), (6, _), (8, _), (46, B (x_8 && (decide (x_7 ≠ (-9223372036854775808)))))], [(101, _), (102, _), (103, _), (104, _)]⟩ rfl (Tri.ite h9 rfl (fun _ h9 => ?_) (fun _ h9 => ?_)))))
    ·refine Tri.seq (Tri.keepS ⟨[(4, _), (5, _), (6, _), (8, _)], [(103, _), (104, _)]⟩ rfl ?_)
     obtain ⟨x_9, e16, h9⟩ := bnd h9
     obtain ⟨x_10, e17, h9⟩ := bnd h9
     refine Tri.regionY mixed 8 [I x_5, I x_7, I x_9, I x_5, I x_7, I x_10, I x_9, I x_10] [4, 5, 8, 10, 11] [103, 104] (s' := ⟨[(4, _), (5, _), (8, _), (10, I x_9), (11, I x_10)], [(103, _), (104, _)]⟩) rfl ⟨fun _ => .p om, fun _ => .p om, fun _ => .p (op_quo2 e16 rfl rfl), fun _ => .p om, fun _ => .p om, fun _ => .p (op_rem2 e17 rfl rfl), fun _ => .p oa, fun _ => .p oa, trivial⟩ rfl rfl ?_
     obtain ⟨v18, h19, h9⟩ := bnd h9
     refine Tri.seqJ (v := v18) (un2 fun (q_11 : Int) (r_12 : Int) => ⟨[(4, Pt 103 0), (5, Pt 104 0), (10, I q_11), (11, I r_12)], [(103, .box 35 zBig), (104, .box 35 zBig)]⟩) (fun z => z) ?_ ?_
     ·refine Tri.seq (Tri.regionL ?_)
      refine Oc om (Oc (op_neq rfl rfl) (Oc om ?_))
      refine CgT (decide (x_10 ≠ 0)) [] (fun g20 => trivial) (fun g20 => om) (CgT (decide (x_10 ≠ 0)) [56] (fun g21 => by exact ⟨g21, trivial⟩) (fun g21 => op_lss rfl rfl) (CgT (decide (x_10 ≠ 0)) [] (fun g22 => by exact trivial) (fun g22 => om) (CgT (decide (x_10 ≠ 0)) [58] (fun g23 => by exact ⟨g23, trivial⟩) (fun g23 => op_lss rfl rfl) (CgT (decide (x_10 ≠ 0)) [57, 59] (fun g24 => by exact ⟨g24, g24, trivial⟩) (fun g24 => op_neq_bool und4 rfl rfl) (OpsL.consB h19 rfl (op_pick_and (fun e => e) rfl rfl rfl rfl) (fun x_13 h19 => ?_))))))
      refine OpsL.nilS ⟨[(4, _), (5, _), (8, _), (10, _), (11, _), (61, B x_13)], [(103, _), (104, _)]⟩ rfl (Tri.ite h19 rfl (fun _ h19 => ?_) (fun _ h19 => ?_))
      ·refine Tri.regionL (Oc om (Oc (op_sub rfl rfl) (Oc om (Oc om (Oc (op_add rfl rfl) (Oc oa ?_))))))
       refine Oc oa (OpsL.nil ?_)
       exact Fin.join [4, 5, 10, 11] [103, 104] (IntKind.i64.wrap (x_9 - 1), IntKind.i64.wrap (x_10 + x_7)) (Option.some.inj h19) rfl
      ·refine Tri.skip ?_
       exact Fin.join [4, 5, 10, 11] [103, 104] (x_9, x_10) (Option.some.inj h19) rfl
     ·rintro ⟨q_11, r_12⟩ hv
      subst v18
      refine Tri.seq (Tri.regionL ?_)
      refine Oc om ?_
      obtain ⟨x_14, e25, h9⟩ := bnd h9
      refine Oc (op_call0 (w_Of_spec e25) goes47 rfl rfl) (Oc om ?_)
      refine OpsL.keepS ⟨[(4, _), (5, _), (68, .b (.agg (eBig x_14))), (69, I r_12)], [(103, _), (104, _)]⟩ rfl ?_
      obtain ⟨x_15, e26, h9⟩ := bnd h9
      refine Oc (op_call0 (w_Of_spec e26) goes47 rfl rfl) (Oc (op_store_p tyAgg35 rfl rfl rfl rfl (Nat.le_of_ble_eq_true rfl) rfl) (Oc (op_store_p tyAgg35 rfl rfl rfl rfl (Nat.le_of_ble_eq_true rfl) rfl) ?_))
      refine OpsL.nilS ⟨[(4, _), (5, _)], [(103, .box 35 (eBig x_14)), (104, .box 35 (eBig x_15))]⟩ rfl (Tri.ret ?_)
      obtain rfl := Option.some.inj h9
      refine Fin.then_ret ?_
      obtain rfl := Option.some.inj h
      refine Fin.keepS ⟨[(4, _), (5, _)], [(103, _), (104, _)]⟩ rfl (Fin.result' [.agg (eBig x_14), .agg (eBig x_15)] (.inl rfl) rfl (.cons (.agg tyAgg35 rfl rfl rfl rfl) (.cons (.agg tyAgg35 rfl rfl rfl rfl) .nil)) ⟨rfl, rfl⟩)
    ·refine Tri.skip ?_
     exact Fin.join [2, 3, 4, 5] [101, 102, 103, 104] () (Option.some.inj h9) rfl
   ·refine Tri.skip ?_
    exact Fin.join [2, 3, 4, 5] [101, 102, 103, 104] () (Option.some.inj h9) rfl
  ·rintro _ hv
   subst v8
   refine Tri.seq (Tri.regionL ?_)
   refine Oc (op_field_p tyFld35_2 rfl rfl) (Oc (lp tyAgg33) (Oc (op_field_p tyFld35_2 rfl rfl) (Oc (lp tyAgg33) ?_)))
   obtain ⟨⟨x_16, x_17⟩, e27, h⟩ := bnd h
   refine Oc (op_call0 (w_quotient_spec e27) goes105 rfl rfl) (OpsL.keepS ⟨[(2, _), (3, _), (4, _), (5, _), (76, .tup [.agg (eW x_16), .agg (eW x_17)])], [(101, _), (102, _), (103, _), (104, _)]⟩ rfl (Oc om (Oc (op_extract rfl rfl) (Oc (op_extract rfl rfl) (Oc (op_alloc (k := 106) tyZero33 rfl) (Oc (op_alloc (k := 107) tyZero33 rfl) (Oc (op_store_p tyAgg33 rfl rfl rfl rfl (Nat.le_of_ble_eq_true rfl) rfl) ?_)))))))
   refine Oc (op_store_p tyAgg33 rfl rfl rfl rfl (Nat.le_of_ble_eq_true rfl) rfl) (OpsL.nilS ⟨[(2, _), (3, _), (4, _), (5, _), (12, Pt 106 0), (13, Pt 107 0)], [(101, _), (102, _), (103, _), (104, _), (106, .box 33 (eW x_16)), (107, .box 33 (eW x_17))]⟩ rfl (Tri.seq (Tri.regionL ?_)))
   refine Oc (op_field_p tyFld35_1 rfl rfl) (Oc (op_load_p1 tyOne4 rfl rfl rfl) (Oc (op_field_p tyFld35_1 rfl rfl) (Oc (op_load_p1 tyOne4 rfl rfl rfl) (Oc (op_neq_bool und4 rfl rfl) (Oc (lp tyAgg33) ?_)))))
   refine OpsL.keepS ⟨[(2, _), (3, _), (4, _), (5, _), (13, _), (83, B (a0.Neg != b0.Neg)), (84, .b (.agg (eW x_16)))], [(101, _), (102, _), (103, _), (104, _), (107, _)]⟩ rfl ?_
   obtain ⟨x_18, e28, h⟩ := bnd h
   refine Oc (op_call0 (w_signed_spec e28) goes69 rfl rfl) (Oc (op_alloc (k := 108) tyZero35 rfl) (Oc (op_store_p tyAgg35 rfl rfl rfl rfl (Nat.le_of_ble_eq_true rfl) rfl) ?_))
   refine OpsL.nilS ⟨[(2, _), (3, _), (4, _), (5, _), (13, _), (14, Pt 108 0)], [(101, _), (102, _), (103, _), (104, _), (107, _), (108, .box 35 (eBig x_18))]⟩ rfl ?_
   obtain ⟨v29, h30, h⟩ := bnd h
   refine Tri.seqJ (v := v29) (un2 fun (r_19 : A16) (q_20 : Big) => ⟨[(3, Pt 102 0), (4, Pt 103 0), (5, Pt 104 0), (13, Pt 107 0), (14, Pt 108 0)], [(102, .box 35 (eBig b0)), (103, .box 35 zBig), (104, .box 35 zBig), (107, .box 33 (eW r_19)), (108, .box 35 (eBig q_20))]⟩) (fun z => z) ?_ ?_
   ·refine Tri.seq (Tri.regionL ?_)
    refine Oc (lp tyAgg33) (Oc (op_buildA tyBuild33 rfl rfl) (Oc (op_neq_agg (eqAgg33 x_17 A16.zero) rfl rfl neg_dec) (Oc om ?_)))
    refine CgT (decide (x_17 ≠ A16.zero)) [] (fun g31 => trivial) (fun g31 => op_field_p tyFld35_1 rfl rfl) (CgT (decide (x_17 ≠ A16.zero)) [90] (fun g32 => ⟨g32, trivial⟩) (fun g32 => op_load_p1 tyOne4 rfl rfl rfl) (CgT (decide (x_17 ≠ A16.zero)) [] (fun g33 => trivial) (fun g33 => op_field_p tyFld35_1 rfl rfl) (OpsL.keepS ⟨[(3, _), (4, _), (5, _), (13, _), (14, _), (89, B (decide (x_17 ≠ A16.zero))), (91, .opt (decide (x_17 ≠ A16.zero)) (.one (.bool a0.Neg))), (92, .opt (decide (x_17 ≠ A16.zero)) (.ptr 102 1))], [(102, _), (103, _), (104, _), (107, _), (108, _)]⟩ rfl (CgT (decide (x_17 ≠ A16.zero)) [92] (fun g34 => ⟨g34, trivial⟩) (fun g34 => op_load_p1 tyOne4 rfl rfl rfl) (CgT (decide (x_17 ≠ A16.zero)) [91, 93] (fun g35 => ⟨g35, g35, trivial⟩) (fun g35 => op_neq_bool und4 rfl rfl) ?_)))))
    refine Oc (op_pick_and (fun e => e) rfl rfl rfl rfl) (OpsL.nilS ⟨[(3, _), (4, _), (5, _), (13, _), (14, _), (95, B ((decide (x_17 ≠ A16.zero)) && (a0.Neg != b0.Neg)))], [(102, _), (103, _), (104, _), (107, _), (108, _)]⟩ rfl (Tri.ite h30 rfl (fun _ h30 => ?_) (fun _ h30 => ?_)))
    ·refine Tri.keepS ⟨[(3, _), (4, _), (5, _), (13, _), (14, _)], [(102, _), (103, _), (104, _), (107, _), (108, _)]⟩ rfl ?_
     obtain ⟨x_21, e36, h30⟩ := bnd h30
     obtain ⟨x_22, e37, h30⟩ := bnd h30
     obtain ⟨x_23, e38, h30⟩ := bnd h30
     refine Tri.regionYF mixed 7 [.b (.agg (eBig x_18)), .b (.agg (eBig x_21)), .b (.agg (eBig x_22)), Pt 102 2, .b (.agg (eW b0.W)), .b (.agg (eW x_17)), .b (.agg (eW x_23))] [3, 4, 5, 13, 14] [102, 103, 104, 107, 108] (s' := ⟨[(3, _), (4, _), (5, _), (13, _), (14, _)], [(102, _), (103, _), (104, _), (107, .box 33 (eW x_23)), (108, .box 35 (eBig x_22))]⟩) rfl ⟨fun _ => .p (lp tyAgg35), fun _ => .p (op_call0 (w_Of_spec e36) goes47 rfl rfl), fun _ => .p (op_call0 (w_Sub_spec e37) goes147 rfl rfl), fun _ => .p (op_field_p tyFld35_2 rfl rfl), fun _ => .p (lp tyAgg33), fun _ => .p (lp tyAgg33), fun _ => .p (op_call0 (w_minus_spec e38) goes110 rfl rfl), trivial⟩ ⟨_, by exact .p (op_store_p tyAgg35 rfl rfl rfl rfl (Nat.le_of_ble_eq_true rfl) rfl), ⟨_, by exact .p (op_store_p tyAgg33 rfl rfl rfl rfl (Nat.le_of_ble_eq_true rfl) rfl), rfl⟩⟩ rfl ?_
     exact Fin.join [3, 4, 5, 13, 14] [102, 103, 104, 107, 108] (x_23, x_22) (Option.some.inj h30) rfl
    ·refine Tri.skip ?_
     exact Fin.join [3, 4, 5, 13, 14] [102, 103, 104, 107, 108] (x_17, x_18) (Option.some.inj h30) rfl
   ·rintro ⟨r_19, q_20⟩ hv
    subst v29
    refine Tri.seq (Tri.keepS ⟨[(3, _), (4, _), (5, _), (13, _), (14, _)], [(102, _), (103, _), (104, _), (107, _), (108, _)]⟩ rfl ?_)
    obtain ⟨x_24, e39, h⟩ := bnd h
    refine Tri.regionY mixed 5 [.b (.agg (eBig q_20)), Pt 102 1, B b0.Neg, .b (.agg (eW r_19)), .b (.agg (eBig x_24))] [4, 5] [103, 104] (s' := ⟨[(4, _), (5, _)], [(103, .box 35 (eBig q_20)), (104, .box 35 (eBig x_24))]⟩) rfl ⟨fun _ => .p (lp tyAgg35), fun _ => .p (op_field_p tyFld35_1 rfl rfl), fun _ => .p (op_load_p1 tyOne4 rfl rfl rfl), fun _ => .p (lp tyAgg33), fun _ => .p (op_call0 (w_signed_spec e39) goes69 rfl rfl), trivial⟩ ⟨_, by exact .p (op_store_p tyAgg35 rfl rfl rfl rfl (Nat.le_of_ble_eq_true rfl) rfl), ⟨_, by exact .p (op_store_p tyAgg35 rfl rfl rfl rfl (Nat.le_of_ble_eq_true rfl) rfl), rfl⟩⟩ rfl (Tri.ret ?_)
    obtain rfl := Option.some.inj h
    refine Fin.keepS ⟨[(4, _), (5, _)], [(103, _), (104, _)]⟩ rfl (Fin.result' [.agg (eBig q_20), .agg (eBig x_24)] (.inl rfl) rfl (.cons (.agg tyAgg35 rfl rfl rfl rfl) (.cons (.agg tyAgg35 rfl rfl rfl rfl) .nil)) ⟨rfl, rfl⟩)
def w_Quo_S (F : Nat) (a0 : Big) (b0 : Big) : Option Big :=
 Option.bind (w_divided_S F a0 b0) (un2 fun x_1 x_2 => some x_1)
theorem w_Quo_spec {F : Nat} {a0 : Big} {b0 : Big} {r : Big} (h : w_Quo_S F a0 b0 = some r) : Meets Tryz.prog (tabs mx) 52 [] [.agg (eBig a0), .agg (eBig b0)] (Is [] (.b (.agg (eBig r)))) := by
 unfold w_Quo_S at h
 refine Meets.intro 14 Tryz.func52 Tryz.ntmps52 rfl (by simp) fun E => ?_
 show Tri _ E ⟨14, [], [], []⟩ _ ⟨[(0, .b (.agg (eBig a0))), (1, .b (.agg (eBig b0)))], []⟩ _
 refine Tri.seq (Tri.regionL ?_)
 refine Oc (op_box (k := 101) rfl rfl) (Oc (op_box (k := 102) rfl rfl) (Oc (op_alloc (k := 103) tyZero35 rfl) ?_))
 refine OpsL.nilS ⟨[(2, Pt 101 0), (3, Pt 102 0), (4, Pt 103 0)], [(101, .box 35 (eBig a0)), (102, .box 35 (eBig b0)), (103, .box 35 zBig)]⟩ rfl (Tri.seq (Tri.regionL ?_))
 refine Oc (lp tyAgg35) (Oc (lp tyAgg35) ?_)
 obtain ⟨⟨x_1, x_2⟩, e1, h⟩ := bnd h
 refine Oc (op_call0 (w_divided_spec e1) goes107 rfl rfl) (Oc om (Oc (op_extract rfl rfl) ?_))
 refine OpsL.keepS ⟨[(4, _), (7, .tup [.agg (eBig x_1), .agg (eBig x_2)]), (11, .b (.agg (eBig x_1)))], [(103, _)]⟩ rfl (Oc (op_extract rfl rfl) (Oc (op_alloc (k := 104) tyZero35 rfl) (Oc (op_alloc (k := 105) tyZero35 rfl) (Oc (op_store_p tyAgg35 rfl rfl rfl rfl (Nat.le_of_ble_eq_true rfl) rfl) (Oc (op_store_p tyAgg35 rfl rfl rfl rfl (Nat.le_of_ble_eq_true rfl) rfl) ?_)))))
 refine OpsL.nilS ⟨[(4, _), (5, Pt 104 0)], [(103, _), (104, .box 35 (eBig x_1))]⟩ rfl (Tri.seq (Tri.regionL ?_))
 refine Oc (lp tyAgg35) (Oc (op_store_p tyAgg35 rfl rfl rfl rfl (Nat.le_of_ble_eq_true rfl) rfl) ?_)
 refine OpsL.nilS ⟨[(4, _)], [(103, .box 35 (eBig x_1))]⟩ rfl (Tri.ret ?_)
 obtain rfl := Option.some.inj h
 refine Fin.keepS ⟨[(4, _)], [(103, _)]⟩ rfl (Fin.result' [.agg (eBig x_1)] (.inl rfl) rfl (.cons (.agg tyAgg35 rfl rfl rfl rfl) .nil) ⟨rfl, rfl⟩)
def q_Make_S (F : Nat) (n0 : Big) (d0 : Big) : Option Frc :=
 (q_good_S F n0).bind fun x_1 => (gcall (!(!x_1)) (q_good_S F d0)).bind fun x_2 => (gcall (!((!x_1) || (!x_2))) (w_Sign_S F d0)).bind fun x_3 => if (((!x_1) || (!x_2)) || (decide (x_3 = 0))) = true then ((q_Bad_S F).bind fun x_4 => some x_4) else ((w_Gcd_S F n0 d0).bind fun x_5 => Option.bind ((w_Sign_S F d0).bind fun x_7 => if (decide (x_7 < 0)) = true then ((w_Neg_S F x_5).bind fun x_8 => some x_8) else (some x_5)) (fun g_6 => (w_Quo_S F n0 g_6).bind fun x_9 => (w_Quo_S F d0 g_6).bind fun x_10 => some (⟨x_9, x_10⟩ : Frc)))
theorem q_Make_spec {F : Nat} {n0 : Big} {d0 : Big} {r : Frc} (h : q_Make_S F n0 d0 = some r) : Meets Tryz.prog (tabs mx) 35 [] [.agg (eBig n0), .agg (eBig d0)] (Is [] (.b (.agg (eFrc r)))) := by
 unfold q_Make_S at h
 refine Meets.intro 35 Tryz.func35 Tryz.ntmps35 rfl (by simp) fun E => ?_
 show Tri _ E ⟨35, [], [], []⟩ _ ⟨[(0, .b (.agg (eBig n0))), (1, .b (.agg (eBig d0)))], []⟩ _
 refine Tri.seq (Tri.regionL ?_)
 refine Oc (op_box (k := 101) rfl rfl) (Oc (op_box (k := 102) rfl rfl) (Oc (op_alloc (k := 103) tyZero37 rfl) ?_))
 refine OpsL.nilS ⟨[(2, Pt 101 0), (3, Pt 102 0), (4, Pt 103 0)], [(101, .box 35 (eBig n0)), (102, .box 35 (eBig d0)), (103, .box 37 zFrc)]⟩ rfl (Tri.seq (Tri.seq (Tri.regionL ?_)))
 refine Oc (lp tyAgg35) ?_
 obtain ⟨x_1, e1, h⟩ := bnd h
 refine Oc (op_call0 (q_good_spec e1) goes73 rfl rfl) (Oc (op_not rfl) (Oc om ?_))
 refine CgF (!(!x_1)) [] (fun g2 => trivial) (fun g2 => lp tyAgg35) (OpsL.keepS ⟨[(2, _), (3, _), (4, _), (9, B (!x_1)), (10, .opt (!(!x_1)) (.agg (eBig d0)))], [(101, _), (102, _), (103, _)]⟩ rfl ?_)
 obtain ⟨x_2, e4, h⟩ := bnd h
 refine CgF (!(!x_1)) [10] (fun g3 => ⟨g3, trivial⟩) (fun g3 => op_call0 (q_good_spec (gc e4 g3)) goes73 rfl rfl) (CgF (!(!x_1)) [11] (fun g5 => ⟨g5, trivial⟩) (fun g5 => op_not rfl) (Oc (op_pick_or (fun e => by first | (rw [e]; rfl) | (simp only at e; rw [e]; rfl)) rfl rfl rfl rfl) (Oc om ?_)))
 refine CgF (!((!x_1) || (!x_2))) [] (fun g6 => trivial) (fun g6 => lp tyAgg35) ?_
 obtain ⟨x_3, e8, h⟩ := bnd h
 refine CgF (!((!x_1) || (!x_2))) [15] (fun g7 => ⟨g7, trivial⟩) (fun g7 => op_call0 (w_Sign_spec (gc e8 g7)) goes74 rfl rfl) (CgF (!((!x_1) || (!x_2))) [16] (fun g9 => ⟨g9, trivial⟩) (fun g9 => op_eql rfl rfl) (Oc (op_pick_or (fun e => by first | (rw [e]; rfl) | (simp only at e; rw [e]; rfl)) rfl rfl rfl rfl) (OpsL.nilS ⟨[(2, _), (3, _), (4, _), (18, B (((!x_1) || (!x_2)) || (decide (x_3 = 0))))], [(101, _), (102, _), (103, _)]⟩ rfl (Tri.ite h rfl (fun _ h => ?_) (fun _ h => ?_)))))
 ·refine Tri.seq (Tri.regionL ?_)
  obtain ⟨x_4, e10, h⟩ := bnd h
  refine Oc (op_call0 (q_Bad_spec e10) goes49 rfl rfl) (Oc (op_store_p tyAgg37 rfl rfl rfl rfl (Nat.le_of_ble_eq_true rfl) rfl) ?_)
  refine OpsL.nilS ⟨[(4, _)], [(103, .box 37 (eFrc x_4))]⟩ rfl (Tri.ret (Fin.then_ret ?_))
  obtain rfl := Option.some.inj h
  refine Fin.keepS ⟨[(4, _)], [(103, _)]⟩ rfl (Fin.result' [.agg (eFrc x_4)] (.inl rfl) rfl (.cons (.agg tyAgg37 rfl rfl rfl rfl) .nil) ⟨rfl, rfl⟩)
 ·refine Tri.skip (Fin.keepS ⟨[(2, _), (3, _), (4, _)], [(101, _), (102, _), (103, _)]⟩ rfl (Fin.then (Tri.seq (Tri.regionL ?_))))
  refine Oc (lp tyAgg35) (Oc (lp tyAgg35) ?_)
  obtain ⟨x_5, e11, h⟩ := bnd h
  refine Oc (op_call0 (w_Gcd_spec e11) goes51 rfl rfl) (Oc (op_alloc (k := 104) tyZero35 rfl) (Oc (op_store_p tyAgg35 rfl rfl rfl rfl (Nat.le_of_ble_eq_true rfl) rfl) ?_))
  refine OpsL.nilS ⟨[(2, _), (3, _), (4, _), (5, Pt 104 0)], [(101, _), (102, _), (103, _), (104, .box 35 (eBig x_5))]⟩ rfl ?_
  obtain ⟨v12, h13, h⟩ := bnd h
  refine Tri.seqJ (v := v12) (fun (g_6 : Big) => ⟨[(2, Pt 101 0), (3, Pt 102 0), (4, Pt 103 0), (5, Pt 104 0)], [(101, .box 35 (eBig n0)), (102, .box 35 (eBig d0)), (103, .box 37 zFrc), (104, .box 35 (eBig g_6))]⟩) (fun z => z) ?_ ?_
  ·refine Tri.seq (Tri.regionL ?_)
   refine Oc (lp tyAgg35) ?_
   obtain ⟨x_7, e14, h13⟩ := bnd h13
   refine Oc (op_call0 (w_Sign_spec e14) goes74 rfl rfl) (Oc (op_lss rfl rfl) ?_)
   refine OpsL.nilS ⟨[(2, _), (3, _), (4, _), (5, _), (25, B (decide (x_7 < 0)))], [(101, _), (102, _), (103, _), (104, _)]⟩ rfl (Tri.ite h13 rfl (fun _ h13 => ?_) (fun _ h13 => ?_))
   ·refine Tri.regionL (Oc (lp tyAgg35) ?_)
    obtain ⟨x_8, e15, h13⟩ := bnd h13
    refine Oc (op_call0 (w_Neg_spec e15) goes75 rfl rfl) (Oc (op_store_p tyAgg35 rfl rfl rfl rfl (Nat.le_of_ble_eq_true rfl) rfl) ?_)
    refine OpsL.nil ?_
    exact Fin.join [2, 3, 4, 5] [101, 102, 103, 104] x_8 (Option.some.inj h13) rfl
   ·refine Tri.skip ?_
    exact Fin.join [2, 3, 4, 5] [101, 102, 103, 104] x_5 (Option.some.inj h13) rfl
  ·rintro g_6 hv
   subst v12
   refine Tri.seq (Tri.keepS ⟨[(2, _), (3, _), (4, _), (5, _)], [(101, _), (102, _), (103, _), (104, _)]⟩ rfl ?_)
   obtain ⟨x_9, e16, h⟩ := bnd h
   obtain ⟨x_10, e17, h⟩ := bnd h
   refine Tri.regionY mixed 7 [.b (.agg (eBig n0)), .b (.agg (eBig g_6)), .b (.agg (eBig x_9)), .b (.agg (eBig d0)), .b (.agg (eBig g_6)), .b (.agg (eBig x_10)), .b (.agg (eBig x_9 ++ (eBig x_10)))] [4] [103] (s' := ⟨[(4, _)], [(103, .box 37 (eBig x_9 ++ (eBig x_10)))]⟩) rfl ⟨fun _ => .p (lp tyAgg35), fun _ => .p (lp tyAgg35), fun _ => .p (op_call0 (w_Quo_spec e16) goes52 rfl rfl), fun _ => .p (lp tyAgg35), fun _ => .p (lp tyAgg35), fun _ => .p (op_call0 (w_Quo_spec e17) goes52 rfl rfl), fun _ => .p (op_build tyBuild37 rfl rfl), trivial⟩ ⟨_, by exact .p (op_store_p tyAgg37 rfl rfl rfl rfl (Nat.le_of_ble_eq_true rfl) rfl), rfl⟩ rfl (Tri.ret ?_)
   obtain rfl := Option.some.inj h
   refine Fin.keepS ⟨[(4, _)], [(103, _)]⟩ rfl (Fin.result' [.agg (eBig x_9 ++ (eBig x_10))] (.inl rfl) rfl (.cons (.agg tyAgg37 rfl rfl rfl rfl) .nil) ⟨rfl, rfl⟩)
def lexer_Value_S (F : Nat) (t0 : Token) : Option (Frc × Int) :=
 (gcall (!(decide (t0.Kind ≠ 3))) (lexer_possible_S F t0)).bind fun x_1 => if ((decide (t0.Kind ≠ 3)) || (!x_1)) = true then (letN (⟨(⟨false, false, A16.zero⟩ : Big), (⟨false, false, A16.zero⟩ : Big)⟩ : Frc) fun x_2 => some (x_2, 1)) else (Option.bind (strings_Cut_S F t0.S [46]) (un3 fun x_3 x_4 x_5 => (app? x_3 x_4).bind fun x_6 => (strings_TrimLeft_S F x_6 [48]).bind fun x_7 => Option.bind (if (decide (x_7 = [])) = true then (some [48]) else (some x_7)) (fun all_8 => Option.bind (w_Parse_S F all_8) (un2 fun x_9 x_10 => (strings_Repeat_S F [48] (x_4.length : Int)).bind fun x_11 => (app? [49] x_11).bind fun x_12 => Option.bind (w_Parse_S F x_12) (un2 fun x_13 x_14 => (q_Make_S F x_9 x_13).bind fun x_15 => some (x_15, 0))))))
theorem lexer_Value_spec {F : Nat} {t0 : Token} {r : Frc × Int} (h : lexer_Value_S F t0 = some r) : Meets Tryz.prog (tabs mx) 11 [] [.agg (eToken t0)] (Is [] (.tup [.agg (eFrc r.1), .one (.i r.2)])) := by
 unfold lexer_Value_S at h
 refine Meets.intro 50 Tryz.func11 Tryz.ntmps11 rfl (by simp) fun E => ?_
 show Tri _ E ⟨50, [], [], []⟩ _ ⟨[(0, .b (.agg (eToken t0)))], []⟩ _
 refine Tri.seq (Tri.regionL ?_)
 refine Oc (op_box (k := 101) rfl rfl) (Oc (op_alloc (k := 102) tyZero37 rfl) (Oc oa ?_))
 refine OpsL.nilS ⟨[(1, Pt 101 0), (2, Pt 102 0)], [(101, .box 31 (eToken t0)), (102, .box 37 zFrc)]⟩ rfl (Tri.seq (Tri.seq (Tri.regionL ?_)))
 refine Oc (op_field_p tyFld31_0 rfl rfl) (Oc (op_load_p1 tyOne3 rfl rfl rfl) (Oc (op_neq rfl rfl) (Oc om ?_)))
 refine CgF (!(decide (t0.Kind ≠ 3))) [] (fun g1 => trivial) (fun g1 => lp tyAgg31) (OpsL.keepS ⟨[(1, _), (2, _), (15, B (decide (t0.Kind ≠ 3))), (16, .opt (!(decide (t0.Kind ≠ 3))) (.agg (eToken t0)))], [(101, _), (102, _)]⟩ rfl ?_)
 obtain ⟨x_1, e3, h⟩ := bnd h
 refine CgF (!(decide (t0.Kind ≠ 3))) [16] (fun g2 => ⟨g2, trivial⟩) (fun g2 => op_call0 (lexer_possible_spec (gc e3 g2)) goes26 rfl rfl) (CgF (!(decide (t0.Kind ≠ 3))) [17] (fun g4 => ⟨g4, trivial⟩) (fun g4 => op_not rfl) (Oc (op_pick_or (fun e => by first | (rw [e]; rfl) | (simp only at e; rw [e]; rfl)) rfl rfl rfl rfl) (OpsL.nilS ⟨[(1, _), (2, _), (19, B ((decide (t0.Kind ≠ 3)) || (!x_1)))], [(101, _), (102, _)]⟩ rfl (Tri.ite h rfl (fun _ h => ?_) (fun _ h => ?_)))))
 ·refine Tri.seq (Tri.regionL ?_)
  refine OpsL.consA eFrc h rfl (op_build tyBuild37 rfl rfl) (fun x_2 h => ?_)
  refine Oc (op_store_p tyAgg37 rfl rfl rfl rfl (Nat.le_of_ble_eq_true rfl) rfl) (Oc oa ?_)
  refine OpsL.nilS ⟨[(2, _), (3, I 1)], [(102, .box 37 (eFrc x_2))]⟩ rfl (Tri.ret (Fin.then_ret ?_))
  obtain rfl := Option.some.inj h
  refine Fin.keepS ⟨[(2, _), (3, _)], [(102, _)]⟩ rfl (Fin.result' [.agg (eFrc x_2), .one (.i 1)] (.inl rfl) rfl (.cons (.agg tyAgg37 rfl rfl rfl rfl) (.cons (.tmp rfl) .nil)) ⟨rfl, rfl⟩)
 ·refine Tri.skip (Fin.keepS ⟨[(1, _), (2, _)], [(101, _), (102, _)]⟩ rfl (Fin.then (Tri.seq (Tri.regionL ?_))))
  refine Oc (op_field_p tyFld31_2 rfl rfl) (Oc (op_load_p1 tyOne9 rfl rfl rfl) ?_)
  obtain ⟨⟨x_3, x_4, x_5⟩, e5, h⟩ := bnd h
  refine Oc (op_call0 (strings_Cut_spec e5) goes31 rfl rfl) (Oc om (Oc (op_extract rfl rfl) ?_))
  refine OpsL.keepS ⟨[(2, _), (21, .tup [.one (.str x_3), .one (.str x_4), .one (.bool x_5)]), (25, .b (.one (.str x_3)))], [(102, _)]⟩ rfl (Oc (op_extract rfl rfl) (Oc (op_extract rfl rfl) (Oc oa (Oc oa (Oc oa ?_)))))
  refine OpsL.nilS ⟨[(2, _), (4, .b (.one (.str x_3))), (5, .b (.one (.str x_4)))], [(102, _)]⟩ rfl (Tri.seq (Tri.regionL ?_))
  refine Oc om (Oc om ?_)
  obtain ⟨x_6, e6, h⟩ := bnd h
  refine Oc (op_add_str2 e6 rfl rfl) ?_
  obtain ⟨x_7, e7, h⟩ := bnd h
  refine Oc (op_call0 (strings_TrimLeft_spec e7) goes32 rfl rfl) (Oc oa ?_)
  refine OpsL.nilS ⟨[(2, _), (5, _), (7, .b (.one (.str x_7)))], [(102, _)]⟩ rfl ?_
  obtain ⟨v8, h9, h⟩ := bnd h
  refine Tri.seqJ (v := v8) (fun (all_8 : Str) => ⟨[(2, Pt 102 0), (5, .b (.one (.str x_4))), (7, .b (.one (.str all_8)))], [(102, .box 37 zFrc)]⟩) (fun z => z) ?_ ?_
  ·refine Tri.seq (Tri.regionL ?_)
   refine Oc om (Oc (op_eql_str rfl rfl) ?_)
   refine OpsL.nilS ⟨[(2, _), (5, _), (7, _), (33, B (decide (x_7 = [])))], [(102, _)]⟩ rfl (Tri.ite h9 rfl (fun _ h9 => ?_) (fun _ h9 => ?_))
   ·refine Tri.regionL (Oc oa (OpsL.nil ?_))
    exact Fin.join [2, 5, 7] [102] [48] (Option.some.inj h9) rfl
   ·refine Tri.skip ?_
    exact Fin.join [2, 5, 7] [102] x_7 (Option.some.inj h9) rfl
  ·rintro all_8 hv
   subst v8
   refine Tri.seq (Tri.regionL ?_)
   refine Oc om ?_
   obtain ⟨⟨x_9, x_10⟩, e10, h⟩ := bnd h
   refine Oc (op_call0 (w_Parse_spec e10) goes33 rfl rfl) (Oc om (Oc (op_extract rfl rfl) (Oc (op_extract rfl rfl) ?_)))
   refine OpsL.keepS ⟨[(2, _), (5, _), (37, .b (.agg (eBig x_9))), (38, I x_10)], [(102, _)]⟩ rfl (Oc (op_alloc (k := 103) tyZero35 rfl) (Oc (op_store_p tyAgg35 rfl rfl rfl rfl (Nat.le_of_ble_eq_true rfl) rfl) (Oc oa ?_)))
   refine OpsL.nilS ⟨[(2, _), (5, _), (8, Pt 103 0)], [(102, _), (103, .box 35 (eBig x_9))]⟩ rfl (Tri.seq (Tri.regionL ?_))
   refine Oc om (Oc (op_len_str und9 rfl) ?_)
   obtain ⟨x_11, e11, h⟩ := bnd h
   refine Oc (op_call0 (strings_Repeat_spec e11) goes34 rfl rfl) ?_
   obtain ⟨x_12, e12, h⟩ := bnd h
   refine Oc (op_add_str2 e12 rfl rfl) (OpsL.keepS ⟨[(2, _), (8, _), (43, .b (.one (.str x_12)))], [(102, _), (103, _)]⟩ rfl ?_)
   obtain ⟨⟨x_13, x_14⟩, e13, h⟩ := bnd h
   refine Oc (op_call0 (w_Parse_spec e13) goes33 rfl rfl) (Oc om (Oc (op_extract rfl rfl) (Oc (op_extract rfl rfl) (Oc (op_alloc (k := 104) tyZero35 rfl) (Oc (op_store_p tyAgg35 rfl rfl rfl rfl (Nat.le_of_ble_eq_true rfl) rfl) ?_)))))
   refine Oc oa (OpsL.nilS ⟨[(2, _), (8, _), (10, Pt 104 0)], [(102, _), (103, _), (104, .box 35 (eBig x_13))]⟩ rfl (Tri.seq (Tri.regionL ?_)))
   refine Oc (lp tyAgg35) (Oc (lp tyAgg35) ?_)
   obtain ⟨x_15, e14, h⟩ := bnd h
   refine Oc (op_call0 (q_Make_spec e14) goes35 rfl rfl) (Oc (op_store_p tyAgg37 rfl rfl rfl rfl (Nat.le_of_ble_eq_true rfl) rfl) (Oc oa ?_))
   refine OpsL.nilS ⟨[(2, _), (3, I 0)], [(102, .box 37 (eFrc x_15))]⟩ rfl (Tri.ret ?_)
   obtain rfl := Option.some.inj h
   refine Fin.keepS ⟨[(2, _), (3, _)], [(102, _)]⟩ rfl (Fin.result' [.agg (eFrc x_15), .one (.i 0)] (.inl rfl) rfl (.cons (.agg tyAgg37 rfl rfl rfl rfl) (.cons (.tmp rfl) .nil)) ⟨rfl, rfl⟩)
def lexer_Text_S (F : Nat) (l0 : List Token) : Option (Str × Int) :=
 Option.bind (iter F (un3 fun parts_3 size_4 x_5 => if (decide (x_5 < (l0.length : Int))) = true then ((idx? l0 x_5).bind fun x_8 => (lexer_possible_S F x_8).bind fun x_9 => if (!x_9) = true then (some (.inr (.inr ([], 1)))) else ((lexer_written_S F x_8).bind fun x_10 => (app? parts_3 [x_10]).bind fun x_11 => letN (IntKind.i64.wrap ((x_11.length : Int) - 1)) fun x_12 => (idx? x_11 x_12).bind fun x_13 => letN (IntKind.i64.wrap ((x_13.length : Int) + 1)) fun x_14 => some (.inl (x_11, IntKind.i64.wrap (size_4 + x_14), IntKind.i64.wrap (x_5 + 1))))) else (some (.inr (.inl (parts_3, size_4))))) ([], (-1), 0)) (alt2 (un2 fun parts_1 size_2 => if (decide (100000 < size_2)) = true then (some ([], 2)) else ((strings_Join_S F parts_1 [32]).bind fun x_15 => some (x_15, 0))) (fun y => some y))
theorem lexer_Text_spec {F : Nat} {l0 : List Token} {r : Str × Int} (h : lexer_Text_S F l0 = some r) : Meets Tryz.prog (tabs mx) 9 [] [.one (.sl 3 (l0.map eToken))] (Is [] (.tup [.one (.str r.1), .one (.i r.2)])) := by
 unfold lexer_Text_S at h
 refine Meets.intro 37 Tryz.func9 Tryz.ntmps9 rfl (by simp) fun E => ?_
 show Tri _ E ⟨37, [], [], []⟩ _ ⟨[(0, .b (.one (.sl 3 (l0.map eToken))))], []⟩ _
 refine Tri.seq (Tri.regionL ?_)
 refine Oc oa (Oc oa ?_)
 refine OpsL.nilS ⟨[(0, .b (.one (.sl 3 (l0.map eToken))))], []⟩ rfl (Tri.seq (Tri.regionL ?_))
 refine Oc oa (OpsL.nilS ⟨[(0, _), (4, .b (.one (.nil)))], []⟩ rfl (Tri.seq (Tri.regionL ?_)))
 refine Oc oa (OpsL.nilS ⟨[(0, _), (4, _), (5, I (-1))], []⟩ rfl ?_)
 obtain ⟨v1, h2, h⟩ := bnd h
 refine Tri.seqJ (v := v1) (un2 fun (parts_1 : List Str) (size_2 : Int) => ⟨[(4, .b (.row 103)), (5, I size_2)], [(103, .row 9 1 (parts_1.map eS))]⟩) (fun z => .inl z) ?_ ?_
 ·refine Tri.seq (Tri.regionL ?_)
  refine Oc om (Oc (op_len_e' und22 rfl (List.length_map _)) (Oc om ?_))
  refine OpsL.nilS ⟨[(4, _), (5, _), (8, .b (.one (.sl 3 (l0.map eToken)))), (9, I (l0.length : Int)), (10, I 0)], []⟩ rfl (Tri.block (Tri.nilrow 4 103 1 9 rfl (by decide) rfl (Tri.loopJ h2 (un3 fun (parts_3 : List Str) (size_4 : Int) (x_5 : Int) => ⟨[(4, .b (.row 103)), (5, I size_4), (8, .b (.one (.sl 3 (l0.map eToken)))), (9, I (l0.length : Int)), (10, I x_5)], [(103, .row 9 1 (parts_3.map eS))]⟩) [4, 5, 8, 9, 10] [103] rfl ?_)))
  rintro ⟨parts_3, size_4, x_5⟩ o3 h4 hy5
  refine Tri.seq (Tri.regionL ?_)
  refine Oc (op_lss rfl rfl) (OpsL.nilS ⟨[(4, _), (5, _), (8, _), (9, _), (10, _), (11, B (decide (x_5 < (l0.length : Int))))], [(103, _)]⟩ rfl (Tri.seq (Tri.ite h4 rfl (fun _ h4 => ?_) (fun _ h4 => ?_))))
  ·refine Tri.skip (Fin.keepS ⟨[(4, _), (5, _), (8, _), (9, _), (10, _)], [(103, _)]⟩ rfl (Fin.then (Tri.seq (Tri.block (Tri.seq (Tri.regionL ?_))))))
   obtain ⟨x_8, e6, h4⟩ := bnd h4
   refine Oc (op_index_e tySl22 (ix_lo e6) (ix_map (e := eToken) e6) rfl rfl) (Oc (op_load_e tyAgg31 rfl rfl rfl) (Oc (op_alloc (k := 104) tyZero31 rfl) (Oc (op_store_p tyAgg31 rfl rfl rfl rfl (Nat.le_of_ble_eq_true rfl) rfl) ?_)))
   refine OpsL.nilS ⟨[(4, _), (5, _), (7, Pt 104 0), (8, _), (9, _), (10, _)], [(103, _), (104, .box 31 (eToken x_8))]⟩ rfl (Tri.seq (Tri.seq (Tri.regionL ?_)))
   refine Oc (lp tyAgg31) ?_
   obtain ⟨x_9, e7, h4⟩ := bnd h4
   refine Oc (op_call0 (lexer_possible_spec e7) goes26 rfl rfl) (Oc (op_not rfl) ?_)
   refine OpsL.nilS ⟨[(4, _), (5, _), (7, _), (8, _), (9, _), (10, _), (16, B (!x_9))], [(103, _), (104, _)]⟩ rfl (Tri.ite h4 rfl (fun _ h4 => ?_) (fun _ h4 => ?_))
   ·refine Tri.seq (Tri.regionL ?_)
    refine Oc oa (Oc oa ?_)
    refine OpsL.nilS ⟨[(2, .b (.one (.str []))), (3, I 1)], []⟩ rfl (Tri.ret (Fin.then_ret (Fin.block_ret (Fin.then_ret ?_))))
    obtain rfl := hy5 _ (Option.some.inj h4).symm
    refine Fin.then_ret (Fin.block_ret (Fin.then_ret ?_))
    obtain rfl := Option.some.inj h
    refine Fin.keepS ⟨[(2, _), (3, _)], []⟩ rfl (Fin.result' [.one (.str []), .one (.i 1)] (.inl rfl) rfl (.cons (.tmp rfl) (.cons (.tmp rfl) .nil)) ⟨rfl, rfl⟩)
   ·refine Tri.skip (Fin.keepS ⟨[(4, _), (5, _), (7, _), (8, _), (9, _), (10, _)], [(103, _), (104, _)]⟩ rfl (Fin.then (Tri.seq (Tri.regionL ?_))))
    refine Oc om (Oc (lp tyAgg31) ?_)
    obtain ⟨x_10, e8, h4⟩ := bnd h4
    refine Oc (op_call0 (lexer_written_spec e8) goes27 rfl rfl) (Oc (op_buildSlice (k := 105) (es := [x_10].map eS) tySl44 rfl rfl (uni_map fun _ => rfl) rfl (by decide) (by decide) rfl) ?_)
    obtain ⟨x_11, e9, h4⟩ := bnd h4
    refine Oc (op_append_r tySl44 (app_b e9) (app_m e9) rfl rfl rfl rfl (app_map e9) rfl) (Oc oa ?_)
    refine OpsL.nilS ⟨[(4, _), (5, _), (8, _), (9, _), (10, _)], [(103, .row 9 1 (x_11.map eS))]⟩ rfl (Tri.regionL (Oc om (Oc om (Oc om (Oc (op_len_r' und44 rfl rfl (List.length_map _)) ?_)))))
    refine OpsL.consI .i64 h4 rfl (op_sub rfl rfl) (fun x_12 h4 => ?_)
    obtain ⟨x_13, e10, h4⟩ := bnd h4
    refine Oc (op_index_r tySl44 (ix_lo e10) (ix_lt' e10) rfl rfl rfl rfl) (OpsL.keepS ⟨[(4, _), (5, _), (8, _), (9, _), (10, _), (22, I size_4), (27, .b (.rptr 103 ((x_12 : Int).toNat * 1)))], [(103, _)]⟩ rfl (Oc (op_load_r1 (i := (x_12 : Int).toNat) (f := 0) tyOne9 rfl rfl rfl (ix_map (e := eS) e10) rfl) (Oc (op_len_str und9 rfl) ?_)))
    refine OpsL.consI .i64 h4 rfl (op_add rfl rfl) (fun x_14 h4 => ?_)
    refine Oc (op_add rfl rfl) (Oc oa ?_)
    refine OpsL.nil (Fin.block_normal (Fin.keepS ⟨[(4, _), (5, I (IntKind.i64.wrap (size_4 + x_14))), (8, _), (9, _), (10, _)], [(103, _)]⟩ rfl (Fin.then (Tri.regionL ?_))))
    refine Oc (op_add rfl rfl) (Oc om ?_)
    refine OpsL.nil ?_
    exact Fin.againJ [4, 5, 8, 9, 10] [103] (x_11, IntKind.i64.wrap (size_4 + x_14), IntKind.i64.wrap (x_5 + 1)) (Option.some.inj h4) rfl
  ·refine Tri.exit (Fin.then_exit ?_)
   obtain rfl := hy5 _ (Option.some.inj h4).symm
   refine Fin.then_exit (Fin.block_exit ?_)
   exact Fin.join [4, 5] [103] (parts_3, size_4) rfl rfl
 ·rintro ⟨parts_1, size_2⟩ hv
  subst v1
  refine Tri.seq (Tri.seq (Tri.regionL ?_))
  refine Oc om (Oc (op_gtr rfl rfl) ?_)
  refine OpsL.nilS ⟨[(4, _), (34, B (decide (100000 < size_2)))], [(103, _)]⟩ rfl (Tri.ite h rfl (fun _ h => ?_) (fun _ h => ?_))
  ·refine Tri.seq (Tri.regionL ?_)
   refine Oc oa (Oc oa ?_)
   refine OpsL.nilS ⟨[(2, .b (.one (.str []))), (3, I 2)], []⟩ rfl (Tri.ret (Fin.then_ret ?_))
   obtain rfl := Option.some.inj h
   refine Fin.keepS ⟨[(2, _), (3, _)], []⟩ rfl (Fin.result' [.one (.str []), .one (.i 2)] (.inl rfl) rfl (.cons (.tmp rfl) (.cons (.tmp rfl) .nil)) ⟨rfl, rfl⟩)
  ·refine Tri.skip (Fin.keepS ⟨[(4, _)], [(103, _)]⟩ rfl (Fin.then (Tri.seq (Tri.regionL ?_))))
   refine Oc om ?_
   obtain ⟨x_15, e11, h⟩ := bnd h
   refine Oc (op_callB (strings_Join_spec e11) goes28 rfl CP.flat_str) (Oc oa (Oc oa ?_))
   refine OpsL.nilS ⟨[(2, .b (.one (.str x_15))), (3, I 0)], []⟩ rfl (Tri.ret ?_)
   obtain rfl := Option.some.inj h
   refine Fin.keepS ⟨[(2, _), (3, _)], []⟩ rfl (Fin.result' [.one (.str x_15), .one (.i 0)] (.inl rfl) rfl (.cons (.tmp rfl) (.cons (.tmp rfl) .nil)) ⟨rfl, rfl⟩)
def bytealg_LastIndexByteString_S (F : Nat) (s0 : Str) (c0 : Int) : Option Int :=
 Option.bind (letN (IntKind.i64.wrap ((s0.length : Int) - 1)) fun x_1 => iter F (fun i_2 => if (decide (0 ≤ i_2)) = true then ((idx? s0 i_2).bind fun x_3 => if (decide ((x_3.toNat : Int) = c0)) = true then (some (.inr (.inr i_2))) else (some (.inl (IntKind.i64.wrap (i_2 - 1))))) else (some (.inr (.inl ())))) x_1) (alt2 (fun _ => some (-1)) (fun y => some y))
theorem bytealg_LastIndexByteString_spec {F : Nat} {s0 : Str} {c0 : Int} {r : Int} (h : bytealg_LastIndexByteString_S F s0 c0 = some r) : Meets Tryz.prog (tabs mx) 114 [] [.one (.str s0), .one (.int .u8 c0)] (Is [] (.b (.one (.i r)))) := by
 unfold bytealg_LastIndexByteString_S at h
 refine Meets.intro 19 Tryz.func114 Tryz.ntmps114 rfl (by simp) fun E => ?_
 show Tri _ E ⟨19, [], [], []⟩ _ ⟨[(0, .b (.one (.str s0))), (1, .b (.one (.int .u8 c0)))], []⟩ _
 refine Tri.seq (Tri.regionL ?_)
 refine Oc oa (OpsL.nilS ⟨[(0, .b (.one (.str s0))), (1, .b (.one (.int .u8 c0)))], []⟩ rfl ?_)
 obtain ⟨v1, h2, h⟩ := bnd h
 refine Tri.seqJ (v := v1) (fun (_ : Unit) => ⟨[], []⟩) (fun z => .inl z) ?_ ?_
 ·refine Tri.seq (Tri.regionL ?_)
  refine Oc om (Oc (op_len_str und9 rfl) ?_)
  refine OpsL.consI .i64 h2 rfl (op_sub rfl rfl) (fun x_1 h2 => ?_)
  refine Oc oa (OpsL.nilS ⟨[(0, _), (1, _), (5, I x_1)], []⟩ rfl (Tri.block (Tri.loopJ h2 (fun (i_2 : Int) => ⟨[(0, .b (.one (.str s0))), (1, .b (.one (.int .u8 c0))), (5, I i_2)], []⟩) [0, 1, 5] [] rfl ?_)))
  rintro i_2 o3 h4 hy5
  refine Tri.seq (Tri.seq (Tri.regionL ?_))
  refine Oc om (Oc (op_geq rfl rfl) ?_)
  refine OpsL.nilS ⟨[(0, _), (1, _), (5, _), (10, B (decide (0 ≤ i_2)))], []⟩ rfl (Tri.ite h4 rfl (fun _ h4 => ?_) (fun _ h4 => ?_))
  ·refine Tri.skip (Fin.keepS ⟨[(0, _), (1, _), (5, _)], []⟩ rfl (Fin.then (Tri.seq (Tri.block (Tri.seq (Tri.regionL ?_))))))
   refine Oc om (Oc om ?_)
   obtain ⟨x_3, e6, h4⟩ := bnd h4
   refine Oc (op_index_str und9 rfl rfl (ix_lo e6) (ix_get e6)) (Oc om (Oc (op_eql rfl rfl) ?_))
   refine OpsL.nilS ⟨[(0, _), (1, _), (5, _), (17, B (decide ((x_3.toNat : Int) = c0)))], []⟩ rfl (Tri.ite h4 rfl (fun _ h4 => ?_) (fun _ h4 => ?_))
   ·refine Tri.seq (Tri.regionL ?_)
    refine Oc om (Oc oa ?_)
    refine OpsL.nilS ⟨[(4, I i_2)], []⟩ rfl (Tri.ret (Fin.block_ret (Fin.then_ret ?_)))
    obtain rfl := hy5 _ (Option.some.inj h4).symm
    refine Fin.then_ret (Fin.block_ret (Fin.then_ret ?_))
    obtain rfl := Option.some.inj h
    refine Fin.keepS ⟨[(4, _)], []⟩ rfl (Fin.result' [.one (.i i_2)] (.inl rfl) rfl (.cons (.tmp rfl) .nil) ⟨rfl, rfl⟩)
   ·refine Tri.skip (Fin.block_normal (Fin.keepS ⟨[(0, _), (1, _), (5, _)], []⟩ rfl (Fin.then (Tri.regionL ?_))))
    refine Oc om (Oc (op_sub rfl rfl) (Oc oa ?_))
    refine OpsL.nil ?_
    exact Fin.againJ [0, 1, 5] [] (IntKind.i64.wrap (i_2 - 1)) (Option.some.inj h4) rfl
  ·refine Tri.exit (Fin.then_exit ?_)
   obtain rfl := hy5 _ (Option.some.inj h4).symm
   refine Fin.then_exit (Fin.block_exit ?_)
   exact Fin.join [] [] () rfl rfl
 ·rintro _ hv
  subst v1
  refine Tri.seq (Tri.regionL ?_)
  refine Oc oa (OpsL.nilS ⟨[(4, I (-1))], []⟩ rfl (Tri.ret ?_))
  obtain rfl := Option.some.inj h
  refine Fin.keepS ⟨[(4, _)], []⟩ rfl (Fin.result' [.one (.i (-1))] (.inl rfl) rfl (.cons (.tmp rfl) .nil) ⟨rfl, rfl⟩)
def strings_LastIndexByte_S (F : Nat) (s0 : Str) (c0 : Int) : Option Int :=
 (bytealg_LastIndexByteString_S F s0 c0).bind fun x_1 => some x_1
theorem strings_LastIndexByte_spec {F : Nat} {s0 : Str} {c0 : Int} {r : Int} (h : strings_LastIndexByte_S F s0 c0 = some r) : Meets Tryz.prog (tabs mx) 55 [] [.one (.str s0), .one (.int .u8 c0)] (Is [] (.b (.one (.i r)))) := by
 unfold strings_LastIndexByte_S at h
 refine Meets.intro 8 Tryz.func55 Tryz.ntmps55 rfl (by simp) fun E => ?_
 show Tri _ E ⟨8, [], [], []⟩ _ ⟨[(0, .b (.one (.str s0))), (1, .b (.one (.int .u8 c0)))], []⟩ _
 refine Tri.seq (Tri.regionL ?_)
 refine Oc oa (OpsL.nilS ⟨[(0, .b (.one (.str s0))), (1, .b (.one (.int .u8 c0)))], []⟩ rfl (Tri.seq (Tri.regionL ?_)))
 refine Oc om (Oc om ?_)
 obtain ⟨x_1, e1, h⟩ := bnd h
 refine Oc (op_call0 (bytealg_LastIndexByteString_spec e1) goes114 rfl rfl) (Oc oa ?_)
 refine OpsL.nilS ⟨[(4, I x_1)], []⟩ rfl (Tri.ret ?_)
 obtain rfl := Option.some.inj h
 refine Fin.keepS ⟨[(4, _)], []⟩ rfl (Fin.result' [.one (.i x_1)] (.inl rfl) rfl (.cons (.tmp rfl) .nil) ⟨rfl, rfl⟩)
def lexer_Place_S (F : Nat) (s0 : Str) (at0 : Int) : Option (Int × Int) :=
 if ((decide (at0 < 0)) || (decide ((s0.length : Int) < at0))) = true then (some (0, 0)) else ((take? s0 at0).bind fun x_1 => (strings_Count_S F x_1 [10]).bind fun x_2 => (take? s0 at0).bind fun x_3 => (strings_LastIndexByte_S F x_3 10).bind fun x_4 => some (IntKind.i64.wrap (1 + x_2), IntKind.i64.wrap (at0 - x_4)))
theorem lexer_Place_spec {F : Nat} {s0 : Str} {at0 : Int} {r : Int × Int} (h : lexer_Place_S F s0 at0 = some r) : Meets Tryz.prog (tabs mx) 23 [] [.one (.str s0), .one (.i at0)] (Is [] (.tup [.one (.i r.1), .one (.i r.2)])) := by
 unfold lexer_Place_S at h
 refine Meets.intro 25 Tryz.func23 Tryz.ntmps23 rfl (by simp) fun E => ?_
 show Tri _ E ⟨25, [], [], []⟩ _ ⟨[(0, .b (.one (.str s0))), (1, I at0)], []⟩ _
 refine Tri.seq (Tri.regionL ?_)
 refine Oc oa (Oc oa ?_)
 refine OpsL.nilS ⟨[(0, .b (.one (.str s0))), (1, I at0)], []⟩ rfl (Tri.seq (Tri.seq (Tri.regionL ?_)))
 refine Oc om (Oc (op_lss rfl rfl) (Oc om ?_))
 refine CgF (!(decide (at0 < 0))) [] (fun g1 => trivial) (fun g1 => om) (CgF (!(decide (at0 < 0))) [] (fun g2 => by exact trivial) (fun g2 => om) (CgF (!(decide (at0 < 0))) [10] (fun g3 => by exact ⟨g3, trivial⟩) (fun g3 => op_len_str und9 rfl) (CgF (!(decide (at0 < 0))) [9, 11] (fun g4 => by exact ⟨g4, g4, trivial⟩) (fun g4 => op_gtr rfl rfl) (Oc (op_pick_or (fun e => by first | (rw [e]; rfl) | (simp only at e; rw [e]; rfl)) rfl rfl rfl rfl) (OpsL.nilS ⟨[(0, _), (1, _), (13, B ((decide (at0 < 0)) || (decide ((s0.length : Int) < at0))))], []⟩ rfl ?_)))))
 refine Tri.ite h rfl (fun _ h => ?_) (fun _ h => ?_)
 ·refine Tri.seq (Tri.regionL ?_)
  refine Oc oa (Oc oa ?_)
  refine OpsL.nilS ⟨[(4, I 0), (5, I 0)], []⟩ rfl (Tri.ret (Fin.then_ret ?_))
  obtain rfl := Option.some.inj h
  refine Fin.keepS ⟨[(4, _), (5, _)], []⟩ rfl (Fin.result' [.one (.i 0), .one (.i 0)] (.inl rfl) rfl (.cons (.tmp rfl) (.cons (.tmp rfl) .nil)) ⟨rfl, rfl⟩)
 ·refine Tri.skip (Fin.keepS ⟨[(0, _), (1, _)], []⟩ rfl (Fin.then (Tri.seq ?_)))
  refine Tri.keepS ⟨[(0, _), (1, _)], []⟩ rfl ?_
  obtain ⟨x_1, e5, h⟩ := bnd h
  obtain ⟨x_2, e6, h⟩ := bnd h
  obtain ⟨x_3, e7, h⟩ := bnd h
  obtain ⟨x_4, e8, h⟩ := bnd h
  refine Tri.regionY mixed 13 [.b (.one (.str s0)), I at0, .b (.one (.str x_1)), I x_2, I (IntKind.i64.wrap (1 + x_2)), I at0, .b (.one (.str s0)), I at0, .b (.one (.str x_3)), I x_4, I (IntKind.i64.wrap (at0 - x_4)), I (IntKind.i64.wrap (1 + x_2)), I (IntKind.i64.wrap (at0 - x_4))] [4, 5] [] (s' := ⟨[(4, I (IntKind.i64.wrap (1 + x_2))), (5, I (IntKind.i64.wrap (at0 - x_4)))], []⟩) rfl ⟨fun _ => .p om, fun _ => .p om, fun _ => .p (op_slice_str_h und9 e5 rfl rfl), fun _ => .p (op_call0 (strings_Count_spec e6) goes54 rfl rfl), fun _ => .p (op_add rfl rfl), fun _ => .p om, fun _ => .p om, fun _ => .p om, fun _ => .p (op_slice_str_h und9 e7 rfl rfl), fun _ => .p (op_call0 (strings_LastIndexByte_spec e8) goes55 rfl rfl), fun _ => .p (op_sub rfl rfl), fun _ => .p oa, fun _ => .p oa, trivial⟩ rfl rfl (Tri.ret ?_)
  obtain rfl := Option.some.inj h
  refine Fin.keepS ⟨[(4, _), (5, _)], []⟩ rfl (Fin.result' [.one (.i (IntKind.i64.wrap (1 + x_2))), .one (.i (IntKind.i64.wrap (at0 - x_4)))] (.inl rfl) rfl (.cons (.tmp rfl) (.cons (.tmp rfl) .nil)) ⟨rfl, rfl⟩)
def q_Frac_S (F : Nat) (a0 : Int) (b0 : Int) : Option Frc :=
 (w_Of_S F a0).bind fun x_1 => (w_Of_S F b0).bind fun x_2 => (q_Make_S F x_1 x_2).bind fun x_3 => some x_3
theorem q_Frac_spec {F : Nat} {a0 : Int} {b0 : Int} {r : Frc} (h : q_Frac_S F a0 b0 = some r) : Meets Tryz.prog (tabs mx) 24 [] [.one (.i a0), .one (.i b0)] (Is [] (.b (.agg (eFrc r)))) := by
 unfold q_Frac_S at h
 refine Meets.intro 10 Tryz.func24 Tryz.ntmps24 rfl (by simp) fun E => ?_
 show Tri _ E ⟨10, [], [], []⟩ _ ⟨[(0, I a0), (1, I b0)], []⟩ _
 refine Tri.seq (Tri.regionL ?_)
 refine Oc (op_alloc (k := 101) tyZero37 rfl) (OpsL.nilS ⟨[(0, I a0), (1, I b0), (4, Pt 101 0)], [(101, .box 37 zFrc)]⟩ rfl (Tri.seq (Tri.regionL ?_)))
 refine Oc om ?_
 obtain ⟨x_1, e1, h⟩ := bnd h
 refine Oc (op_call0 (w_Of_spec e1) goes47 rfl rfl) (Oc om ?_)
 refine OpsL.keepS ⟨[(4, _), (6, .b (.agg (eBig x_1))), (7, I b0)], [(101, _)]⟩ rfl ?_
 obtain ⟨x_2, e2, h⟩ := bnd h
 refine Oc (op_call0 (w_Of_spec e2) goes47 rfl rfl) ?_
 obtain ⟨x_3, e3, h⟩ := bnd h
 refine Oc (op_call0 (q_Make_spec e3) goes35 rfl rfl) (Oc (op_store_p tyAgg37 rfl rfl rfl rfl (Nat.le_of_ble_eq_true rfl) rfl) ?_)
 refine OpsL.nilS ⟨[(4, _)], [(101, .box 37 (eFrc x_3))]⟩ rfl (Tri.ret ?_)
 obtain rfl := Option.some.inj h
 refine Fin.keepS ⟨[(4, _)], [(101, _)]⟩ rfl (Fin.result' [.agg (eFrc x_3)] (.inl rfl) rfl (.cons (.agg tyAgg37 rfl rfl rfl rfl) .nil) ⟨rfl, rfl⟩)
def skewbacklaw28_sanity_S (F : Nat) : Option Bool :=
 Option.bind (lexer_Tokens_S F [109, 111, 118, 101, 32, 98, 49, 32, 116, 111, 32, 50, 46, 53, 48, 32, 109, 59]) (un2 fun x_1 x_2 => (gcall (!(decide (x_2 ≠ (⟨0, 0⟩ : Problem)))) (skewbackref28_Same_S F x_1 [(⟨2, 0, [109, 111, 118, 101]⟩ : Token), (⟨2, 0, [98, 49]⟩ : Token), (⟨1, 0, [116, 111]⟩ : Token), (⟨3, 0, [50, 46, 53, 48]⟩ : Token), (⟨2, 0, [109]⟩ : Token), (⟨5, 0, [59]⟩ : Token)])).bind fun x_3 => letN (((decide (x_2 ≠ (⟨0, 0⟩ : Problem))) || (!x_3)) || (decide ((x_1.length : Int) ≠ 6))) fun x_4 => (gcall (!x_4) (idx? x_1 3)).bind fun x_5 => if (x_4 || (decide (x_5.At ≠ 11))) = true then (some false) else ((idx? x_1 3).bind fun x_6 => Option.bind (lexer_Value_S F x_6) (un2 fun x_7 x_8 => Option.bind (lexer_Tokens_S F [97, 46, 46, 98, 32, 35, 32, 99]) (un2 fun x_9 x_10 => Option.bind (lexer_Tokens_S F [48, 48, 55]) (un2 fun x_11 x_12 => Option.bind (lexer_Tokens_S F [51, 109]) (un2 fun x_13 x_14 => Option.bind (lexer_Tokens_S F [120, 32, 63]) (un2 fun x_15 x_16 => Option.bind (lexer_Tokens_S F [34, 97]) (un2 fun x_17 x_18 => letN (⟨4, 0, [115, 97, 121, 32, 34, 120, 34]⟩ : Token) fun x_19 => Option.bind (lexer_Text_S F [(⟨2, 0, [97]⟩ : Token), x_19]) (un2 fun x_20 x_21 => Option.bind (lexer_Place_S F [97, 10, 98, 99] 3) (un2 fun x_22 x_23 => (q_Frac_S F 5 2).bind fun x_24 => (gcall (((decide (x_7 = x_24)) && (decide (x_8 = 0))) && (decide (x_10 = (⟨0, 0⟩ : Problem)))) (skewbackref28_Same_S F x_9 [(⟨2, 0, [97]⟩ : Token), (⟨5, 0, [46, 46]⟩ : Token), (⟨2, 0, [98]⟩ : Token)])).bind fun x_25 => letN ((decide (x_12 = (⟨0, 281⟩ : Problem))) && (decide (x_14 = (⟨0, 281⟩ : Problem)))) fun x_26 => letN ((x_26 && (decide (x_16 = (⟨2, 280⟩ : Problem)))) && (decide (x_18 = (⟨0, 280⟩ : Problem)))) fun x_27 => letN ((((decide (x_7 = x_24)) && (decide (x_8 = 0))) && (decide (x_10 = (⟨0, 0⟩ : Problem)))) && x_25) fun x_28 => letN ((x_28 && x_27) && (decide (x_20 = [97, 32, 34, 115, 97, 121, 32, 92, 34, 120, 92, 34, 34]))) fun x_29 => letN (((x_29 && (decide (x_21 = 0))) && (decide (x_22 = 2))) && (decide (x_23 = 2))) fun x_30 => (gcall x_30 (lexer_Word_S F [121, 97, 114, 100])).bind fun x_31 => (gcall (x_30 && x_31) (lexer_Word_S F [121, 97, 114, 100, 115])).bind fun x_32 => some ((x_30 && x_31) && (!x_32))))))))))))
theorem skewbacklaw28_sanity_spec {F : Nat} {r : Bool} (h : skewbacklaw28_sanity_S F = some r) : Meets Tryz.prog (tabs mx) 8 [] [] (Is [] (.b (.one (.bool r)))) := by
 unfold skewbacklaw28_sanity_S at h
 refine Meets.intro 157 Tryz.func8 Tryz.ntmps8 rfl (by simp) fun E => ?_
 show Tri _ E ⟨157, [], [], []⟩ _ ⟨[], []⟩ _
 refine Tri.seq (Tri.regionL ?_)
 refine Oc oa (OpsL.nilS ⟨[], []⟩ rfl (Tri.seq (Tri.regionL ?_)))
 obtain ⟨⟨x_1, x_2⟩, e1, h⟩ := bnd h
 refine Oc (op_call0 (lexer_Tokens_spec e1) goes13 rfl rfl) (Oc om (Oc (op_extract rfl rfl) (Oc (op_extract rfl rfl) ?_)))
 refine OpsL.keepS ⟨[(24, .b (.one (.sl 3 (x_1.map eToken)))), (25, .b (.agg (eProblem x_2)))], []⟩ rfl (Oc (op_alloc (k := 101) tyZero46 rfl) (Oc oa (Oc (op_store_p tyAgg46 rfl rfl rfl rfl (Nat.le_of_ble_eq_true rfl) rfl) ?_)))
 refine OpsL.nilS ⟨[(1, .b (.one (.sl 3 (x_1.map eToken)))), (2, Pt 101 0)], [(101, .box 46 (eProblem x_2))]⟩ rfl (Tri.seq (Tri.regionL ?_))
 refine Oc (op_build tyBuild31 rfl rfl) (Oc (op_build tyBuild31 rfl rfl) (Oc (op_build tyBuild31 rfl rfl) (Oc (op_build tyBuild31 rfl rfl) (Oc (op_build tyBuild31 rfl rfl) (Oc (op_build tyBuild31 rfl rfl) ?_)))))
 refine Oc (op_buildSlice (k := 102) (es := [(⟨2, 0, [109, 111, 118, 101]⟩ : Token), (⟨2, 0, [98, 49]⟩ : Token), (⟨1, 0, [116, 111]⟩ : Token), (⟨3, 0, [50, 46, 53, 48]⟩ : Token), (⟨2, 0, [109]⟩ : Token), (⟨5, 0, [59]⟩ : Token)].map eToken) tySl22 rfl rfl (uni_map fun _ => rfl) rfl (by decide) (by decide) rfl) (Oc oa ?_)
 refine OpsL.nilS ⟨[(1, _), (2, _), (3, .b (.row 102))], [(101, _), (102, .row 31 3 ([(⟨2, 0, [109, 111, 118, 101]⟩ : Token), (⟨2, 0, [98, 49]⟩ : Token), (⟨1, 0, [116, 111]⟩ : Token), (⟨3, 0, [50, 46, 53, 48]⟩ : Token), (⟨2, 0, [109]⟩ : Token), (⟨5, 0, [59]⟩ : Token)].map eToken))]⟩ rfl (Tri.seq (Tri.seq (Tri.regionL ?_)))
 refine Oc (lp tyAgg46) (Oc (op_build tyBuild46 rfl rfl) (Oc (op_neq_agg (eqAgg46 x_2 (⟨0, 0⟩ : Problem)) rfl rfl neg_dec) (Oc om ?_)))
 refine CgF (!(decide (x_2 ≠ (⟨0, 0⟩ : Problem)))) [] (fun g2 => trivial) (fun g2 => om) (CgF (!(decide (x_2 ≠ (⟨0, 0⟩ : Problem)))) [] (fun g3 => by exact trivial) (fun g3 => om) (OpsL.keepS ⟨[(1, _), (36, B (decide (x_2 ≠ (⟨0, 0⟩ : Problem)))), (37, .opt (!(decide (x_2 ≠ (⟨0, 0⟩ : Problem)))) (.one (.sl 3 (x_1.map eToken)))), (38, .opt (!(decide (x_2 ≠ (⟨0, 0⟩ : Problem)))) (.row 102))], [(102, _)]⟩ rfl ?_))
 obtain ⟨x_3, e5, h⟩ := bnd h
 refine CgF (!(decide (x_2 ≠ (⟨0, 0⟩ : Problem)))) [37, 38] (fun g4 => ⟨g4, g4, trivial⟩) (fun g4 => op_callB (skewbackref28_Same_spec (gc e5 g4)) goes14 rfl CP.flat_bool) (CgF (!(decide (x_2 ≠ (⟨0, 0⟩ : Problem)))) [39] (fun g6 => ⟨g6, trivial⟩) (fun g6 => op_not rfl) (Oc (op_pick_or (fun e => by first | (rw [e]; rfl) | (simp only at e; rw [e]; rfl)) rfl rfl rfl rfl) (Oc om ?_)))
 refine CgF (!((decide (x_2 ≠ (⟨0, 0⟩ : Problem))) || (!x_3))) [] (fun g7 => trivial) (fun g7 => om) (CgF (!((decide (x_2 ≠ (⟨0, 0⟩ : Problem))) || (!x_3))) [43] (fun g8 => by exact ⟨g8, trivial⟩) (fun g8 => op_len_e' und22 rfl (List.length_map _)) (CgF (!((decide (x_2 ≠ (⟨0, 0⟩ : Problem))) || (!x_3))) [44] (fun g9 => by exact ⟨g9, trivial⟩) (fun g9 => op_neq rfl rfl) (OpsL.keepS ⟨[(1, _), (42, B ((decide (x_2 ≠ (⟨0, 0⟩ : Problem))) || (!x_3))), (45, .opt (!((decide (x_2 ≠ (⟨0, 0⟩ : Problem))) || (!x_3))) (.one (.bool (decide ((x_1.length : Int) ≠ 6)))))], []⟩ rfl (OpsL.consB h rfl (op_pick_or (fun e => by first | (rw [e]; rfl) | (simp only at e; rw [e]; rfl)) rfl rfl rfl rfl) (fun x_4 h => ?_)))))
 refine Oc om (CgF (!x_4) [] (fun g10 => by exact trivial) (fun g10 => om) ?_)
 obtain ⟨x_5, e12, h⟩ := bnd h
 refine CgF (!x_4) [48] (fun g11 => ⟨g11, trivial⟩) (fun g11 => op_index_e tySl22 (ix_lo (gc e12 g11)) (ix_map (e := eToken) (gc e12 g11)) rfl rfl) (CgF (!x_4) [49] (fun g13 => ⟨g13, trivial⟩) (fun g13 => op_field_e tyFld31_1 rfl rfl) (CgF (!x_4) [50] (fun g14 => ⟨g14, trivial⟩) (fun g14 => op_load_e1 tyOne3 rfl rfl) (CgF (!x_4) [51] (fun g15 => ⟨g15, trivial⟩) (fun g15 => op_neq rfl rfl) (Oc (op_pick_or (fun e => by first | (rw [e]; rfl) | (simp only at e; rw [e]; rfl)) rfl rfl rfl rfl) (OpsL.nilS ⟨[(1, _), (53, B (x_4 || (decide (x_5.At ≠ 11))))], []⟩ rfl ?_)))))
 refine Tri.ite h rfl (fun _ h => ?_) (fun _ h => ?_)
 ·refine Tri.seq (Tri.regionL ?_)
  refine Oc oa (OpsL.nilS ⟨[(0, B false)], []⟩ rfl (Tri.ret (Fin.then_ret ?_)))
  obtain rfl := Option.some.inj h
  refine Fin.keepS ⟨[(0, _)], []⟩ rfl (Fin.result' [.one (.bool false)] (.inl rfl) rfl (.cons (.tmp rfl) .nil) ⟨rfl, rfl⟩)
 ·refine Tri.skip (Fin.keepS ⟨[(1, _)], []⟩ rfl (Fin.then (Tri.seq (Tri.regionL ?_))))
  refine Oc om ?_
  obtain ⟨x_6, e16, h⟩ := bnd h
  refine Oc (op_index_e tySl22 (ix_lo e16) (ix_map (e := eToken) e16) rfl rfl) (Oc (op_load_e tyAgg31 rfl rfl rfl) ?_)
  obtain ⟨⟨x_7, x_8⟩, e17, h⟩ := bnd h
  refine Oc (op_call0 (lexer_Value_spec e17) goes11 rfl rfl) (Oc om ?_)
  refine OpsL.keepS ⟨[(54, .tup [.agg (eFrc x_7), .one (.i x_8)])], []⟩ rfl (Oc (op_extract rfl rfl) (Oc (op_extract rfl rfl) (Oc (op_alloc (k := 103) tyZero37 rfl) (Oc (op_store_p tyAgg37 rfl rfl rfl rfl (Nat.le_of_ble_eq_true rfl) rfl) (Oc oa ?_)))))
  refine OpsL.nilS ⟨[(4, Pt 103 0), (5, I x_8)], [(103, .box 37 (eFrc x_7))]⟩ rfl (Tri.seq (Tri.regionL ?_))
  obtain ⟨⟨x_9, x_10⟩, e18, h⟩ := bnd h
  refine Oc (op_call0 (lexer_Tokens_spec e18) goes13 rfl rfl) (Oc om (Oc (op_extract rfl rfl) (Oc (op_extract rfl rfl) ?_)))
  refine OpsL.keepS ⟨[(4, _), (5, _), (63, .b (.one (.sl 3 (x_9.map eToken)))), (64, .b (.agg (eProblem x_10)))], [(103, _)]⟩ rfl (Oc (op_alloc (k := 104) tyZero46 rfl) (Oc oa (Oc (op_store_p tyAgg46 rfl rfl rfl rfl (Nat.le_of_ble_eq_true rfl) rfl) ?_)))
  refine OpsL.nilS ⟨[(4, _), (5, _), (6, .b (.one (.sl 3 (x_9.map eToken)))), (7, Pt 104 0)], [(103, _), (104, .box 46 (eProblem x_10))]⟩ rfl (Tri.seq (Tri.regionL ?_))
  obtain ⟨⟨x_11, x_12⟩, e19, h⟩ := bnd h
  refine Oc (op_call0 (lexer_Tokens_spec e19) goes13 rfl rfl) (Oc om (Oc (op_extract rfl rfl) (Oc (op_extract rfl rfl) ?_)))
  refine OpsL.keepS ⟨[(4, _), (5, _), (6, _), (7, _), (67, .b (.one (.sl 3 (x_11.map eToken)))), (68, .b (.agg (eProblem x_12)))], [(103, _), (104, _)]⟩ rfl (Oc (op_alloc (k := 105) tyZero46 rfl) (Oc oa (Oc (op_store_p tyAgg46 rfl rfl rfl rfl (Nat.le_of_ble_eq_true rfl) rfl) ?_)))
  refine OpsL.nilS ⟨[(4, _), (5, _), (6, _), (7, _), (9, Pt 105 0)], [(103, _), (104, _), (105, .box 46 (eProblem x_12))]⟩ rfl (Tri.seq (Tri.regionL ?_))
  obtain ⟨⟨x_13, x_14⟩, e20, h⟩ := bnd h
  refine Oc (op_call0 (lexer_Tokens_spec e20) goes13 rfl rfl) (Oc om (Oc (op_extract rfl rfl) (Oc (op_extract rfl rfl) ?_)))
  refine OpsL.keepS ⟨[(4, _), (5, _), (6, _), (7, _), (9, _), (71, .b (.one (.sl 3 (x_13.map eToken)))), (72, .b (.agg (eProblem x_14)))], [(103, _), (104, _), (105, _)]⟩ rfl (Oc (op_alloc (k := 106) tyZero46 rfl) (Oc oa (Oc (op_store_p tyAgg46 rfl rfl rfl rfl (Nat.le_of_ble_eq_true rfl) rfl) ?_)))
  refine OpsL.nilS ⟨[(4, _), (5, _), (6, _), (7, _), (9, _), (11, Pt 106 0)], [(103, _), (104, _), (105, _), (106, .box 46 (eProblem x_14))]⟩ rfl (Tri.seq (Tri.regionL ?_))
  obtain ⟨⟨x_15, x_16⟩, e21, h⟩ := bnd h
  refine Oc (op_call0 (lexer_Tokens_spec e21) goes13 rfl rfl) (Oc om (Oc (op_extract rfl rfl) (Oc (op_extract rfl rfl) ?_)))
  refine OpsL.keepS ⟨[(4, _), (5, _), (6, _), (7, _), (9, _), (11, _), (75, .b (.one (.sl 3 (x_15.map eToken)))), (76, .b (.agg (eProblem x_16)))], [(103, _), (104, _), (105, _), (106, _)]⟩ rfl (Oc (op_alloc (k := 107) tyZero46 rfl) (Oc oa (Oc (op_store_p tyAgg46 rfl rfl rfl rfl (Nat.le_of_ble_eq_true rfl) rfl) ?_)))
  refine OpsL.nilS ⟨[(4, _), (5, _), (6, _), (7, _), (9, _), (11, _), (13, Pt 107 0)], [(103, _), (104, _), (105, _), (106, _), (107, .box 46 (eProblem x_16))]⟩ rfl (Tri.seq (Tri.regionL ?_))
  obtain ⟨⟨x_17, x_18⟩, e22, h⟩ := bnd h
  refine Oc (op_call0 (lexer_Tokens_spec e22) goes13 rfl rfl) (Oc om (Oc (op_extract rfl rfl) (Oc (op_extract rfl rfl) ?_)))
  refine OpsL.keepS ⟨[(4, _), (5, _), (6, _), (7, _), (9, _), (11, _), (13, _), (79, .b (.one (.sl 3 (x_17.map eToken)))), (80, .b (.agg (eProblem x_18)))], [(103, _), (104, _), (105, _), (106, _), (107, _)]⟩ rfl (Oc (op_alloc (k := 108) tyZero46 rfl) (Oc oa (Oc (op_store_p tyAgg46 rfl rfl rfl rfl (Nat.le_of_ble_eq_true rfl) rfl) ?_)))
  refine OpsL.nilS ⟨[(4, _), (5, _), (6, _), (7, _), (9, _), (11, _), (13, _), (15, Pt 108 0)], [(103, _), (104, _), (105, _), (106, _), (107, _), (108, .box 46 (eProblem x_18))]⟩ rfl (Tri.seq (Tri.regionL ?_))
  refine Oc (op_build tyBuild31 rfl rfl) (OpsL.consA eToken h rfl (op_build tyBuild31 rfl rfl) (fun x_19 h => ?_))
  refine Oc (op_buildSlice (k := 109) (es := [(⟨2, 0, [97]⟩ : Token), x_19].map eToken) tySl22 rfl rfl (uni_map fun _ => rfl) rfl (by decide) (by decide) rfl) ?_
  obtain ⟨⟨x_20, x_21⟩, e23, h⟩ := bnd h
  refine Oc (op_callB (lexer_Text_spec e23) goes9 rfl (flat_tup ⟨CP.flat_str, CP.flat_int, trivial⟩)) (OpsL.keepS ⟨[(4, _), (5, _), (6, _), (7, _), (9, _), (11, _), (13, _), (15, _), (85, .tup [.one (.str x_20), .one (.i x_21)])], [(103, _), (104, _), (105, _), (106, _), (107, _), (108, _)]⟩ rfl (Oc om (Oc (op_extract rfl rfl) (Oc (op_extract rfl rfl) (Oc oa (Oc oa ?_))))))
  refine OpsL.nilS ⟨[(4, _), (5, _), (6, _), (7, _), (9, _), (11, _), (13, _), (15, _), (16, .b (.one (.str x_20))), (17, I x_21)], [(103, _), (104, _), (105, _), (106, _), (107, _), (108, _)]⟩ rfl (Tri.seq (Tri.regionL ?_))
  obtain ⟨⟨x_22, x_23⟩, e24, h⟩ := bnd h
  refine Oc (op_call0 (lexer_Place_spec e24) goes23 rfl rfl) (Oc om (Oc (op_extract rfl rfl) (Oc (op_extract rfl rfl) (Oc oa (Oc oa ?_)))))
  refine OpsL.nilS ⟨[(4, _), (5, _), (6, _), (7, _), (9, _), (11, _), (13, _), (15, _), (16, _), (17, _), (18, I x_22), (19, I x_23)], [(103, _), (104, _), (105, _), (106, _), (107, _), (108, _)]⟩ rfl (Tri.seq ?_)
  obtain ⟨x_24, e25, h⟩ := bnd h
  obtain ⟨x_25, e37, h⟩ := bnd h
  refine Tri.regionY mixed 21 [.b (.agg (eFrc x_7)), .b (.agg (eFrc x_24)), B (decide (x_7 = x_24)), B (decide (x_7 = x_24)), .opt (decide (x_7 = x_24)) (.one (.i x_8)), .opt (decide (x_7 = x_24)) (.one (.bool (decide (x_8 = 0)))), B ((decide (x_7 = x_24)) && (decide (x_8 = 0))), B ((decide (x_7 = x_24)) && (decide (x_8 = 0))), .opt ((decide (x_7 = x_24)) && (decide (x_8 = 0))) (.agg (eProblem x_10)), .opt ((decide (x_7 = x_24)) && (decide (x_8 = 0))) (.agg [.i 0, .i 0]), .opt ((decide (x_7 = x_24)) && (decide (x_8 = 0))) (.one (.bool (decide (x_10 = (⟨0, 0⟩ : Problem))))), B (((decide (x_7 = x_24)) && (decide (x_8 = 0))) && (decide (x_10 = (⟨0, 0⟩ : Problem)))), B (((decide (x_7 = x_24)) && (decide (x_8 = 0))) && (decide (x_10 = (⟨0, 0⟩ : Problem)))), .opt (((decide (x_7 = x_24)) && (decide (x_8 = 0))) && (decide (x_10 = (⟨0, 0⟩ : Problem)))) (.one (.sl 3 (x_9.map eToken))), .opt (((decide (x_7 = x_24)) && (decide (x_8 = 0))) && (decide (x_10 = (⟨0, 0⟩ : Problem)))) (.agg [.i 2, .i 0, .str [97]]), .opt (((decide (x_7 = x_24)) && (decide (x_8 = 0))) && (decide (x_10 = (⟨0, 0⟩ : Problem)))) (.agg [.i 5, .i 0, .str [46, 46]]), .opt (((decide (x_7 = x_24)) && (decide (x_8 = 0))) && (decide (x_10 = (⟨0, 0⟩ : Problem)))) (.agg [.i 2, .i 0, .str [98]]), .opt (((decide (x_7 = x_24)) && (decide (x_8 = 0))) && (decide (x_10 = (⟨0, 0⟩ : Problem)))) (.one (.sl 3 ([(⟨2, 0, [97]⟩ : Token), (⟨5, 0, [46, 46]⟩ : Token), (⟨2, 0, [98]⟩ : Token)].map eToken))), .opt (((decide (x_7 = x_24)) && (decide (x_8 = 0))) && (decide (x_10 = (⟨0, 0⟩ : Problem)))) (.one (.bool x_25)), B ((((decide (x_7 = x_24)) && (decide (x_8 = 0))) && (decide (x_10 = (⟨0, 0⟩ : Problem)))) && x_25), B ((((decide (x_7 = x_24)) && (decide (x_8 = 0))) && (decide (x_10 = (⟨0, 0⟩ : Problem)))) && x_25)] [9, 11, 13, 15, 16, 17, 18, 19, 20] [105, 106, 107, 108] (s' := ⟨[(9, _), (11, _), (13, _), (15, _), (16, _), (17, _), (18, _), (19, _), (20, B ((((decide (x_7 = x_24)) && (decide (x_8 = 0))) && (decide (x_10 = (⟨0, 0⟩ : Problem)))) && x_25))], [(105, _), (106, _), (107, _), (108, _)]⟩) rfl ⟨fun _ => .p (lp tyAgg37), fun _ => .p (op_call0 (q_Frac_spec e25) goes24 rfl rfl), fun _ => .p (op_eql_agg (eqAgg37 x_7 x_24) rfl rfl), fun _ => .p om, fun _ => by exact .guard (decide (x_7 = x_24)) 1 [] (.plain rfl) (eq_t _) rfl rfl (fun g26 => trivial) (fun g26 => om), fun _ => by exact .guard (decide (x_7 = x_24)) 2 [96] (.plain rfl) (eq_t _) rfl rfl (fun g27 => ⟨g27, trivial⟩) (fun g27 => op_eql rfl rfl), fun _ => .p (op_pick_and (fun e => e) rfl rfl rfl rfl), fun _ => .p om, fun _ => by exact .guard ((decide (x_7 = x_24)) && (decide (x_8 = 0))) 1 [] (.plain rfl) (eq_t _) rfl rfl (fun g28 => trivial) (fun g28 => lp tyAgg46), fun _ => by exact .guard ((decide (x_7 = x_24)) && (decide (x_8 = 0))) 1 [] (.plain rfl) (eq_t _) rfl rfl (fun g29 => trivial) (fun g29 => op_build tyBuild46 rfl rfl), fun _ => by exact .guard ((decide (x_7 = x_24)) && (decide (x_8 = 0))) 3 [100, 101] (.plain rfl) (eq_t _) rfl rfl (fun g30 => ⟨g30, g30, trivial⟩) (fun g30 => op_eql_agg (eqAgg46 x_10 (⟨0, 0⟩ : Problem)) rfl rfl), fun _ => .p (op_pick_and (fun e => e) rfl rfl rfl rfl), fun _ => .p om, fun _ => by exact .guard (((decide (x_7 = x_24)) && (decide (x_8 = 0))) && (decide (x_10 = (⟨0, 0⟩ : Problem)))) 1 [] (.plain rfl) (eq_t _) rfl rfl (fun g31 => trivial) (fun g31 => om), fun _ => by exact .guard (((decide (x_7 = x_24)) && (decide (x_8 = 0))) && (decide (x_10 = (⟨0, 0⟩ : Problem)))) 1 [] (.plain rfl) (eq_t _) rfl rfl (fun g32 => trivial) (fun g32 => op_build tyBuild31 rfl rfl), fun _ => by exact .guard (((decide (x_7 = x_24)) && (decide (x_8 = 0))) && (decide (x_10 = (⟨0, 0⟩ : Problem)))) 1 [] (.plain rfl) (eq_t _) rfl rfl (fun g33 => trivial) (fun g33 => op_build tyBuild31 rfl rfl), fun _ => by exact .guard (((decide (x_7 = x_24)) && (decide (x_8 = 0))) && (decide (x_10 = (⟨0, 0⟩ : Problem)))) 1 [] (.plain rfl) (eq_t _) rfl rfl (fun g34 => trivial) (fun g34 => op_build tyBuild31 rfl rfl), fun _ => by exact .guard (((decide (x_7 = x_24)) && (decide (x_8 = 0))) && (decide (x_10 = (⟨0, 0⟩ : Problem)))) 4 [106, 107, 108] (.plain rfl) (eq_t _) rfl rfl (fun g35 => ⟨g35, g35, g35, trivial⟩) (fun g35 => op_buildSliceP (es := [(⟨2, 0, [97]⟩ : Token), (⟨5, 0, [46, 46]⟩ : Token), (⟨2, 0, [98]⟩ : Token)].map eToken) tySl22 rfl rfl (uni_map fun _ => rfl) rfl (by decide) (by decide)), fun _ => by exact .guard (((decide (x_7 = x_24)) && (decide (x_8 = 0))) && (decide (x_10 = (⟨0, 0⟩ : Problem)))) 4 [105, 109] (.plain rfl) (eq_t _) rfl rfl (fun g36 => ⟨g36, g36, trivial⟩) (fun g36 => op_call0 (skewbackref28_Same_spec (gc e37 g36)) goes14 rfl rfl), fun _ => .p (op_pick_and (fun e => e) rfl rfl rfl rfl), fun _ => .p oa, trivial⟩ rfl rfl ?_
  refine Tri.seq (Tri.regionL ?_)
  refine Oc (lp tyAgg46) (Oc (op_build tyBuild46 rfl rfl) (Oc (op_eql_agg (eqAgg46 x_12 (⟨0, 281⟩ : Problem)) rfl rfl) (Oc om ?_)))
  refine CgT (decide (x_12 = (⟨0, 281⟩ : Problem))) [] (fun g38 => trivial) (fun g38 => lp tyAgg46) (CgT (decide (x_12 = (⟨0, 281⟩ : Problem))) [] (fun g39 => by exact trivial) (fun g39 => op_build tyBuild46 rfl rfl) (CgT (decide (x_12 = (⟨0, 281⟩ : Problem))) [116, 117] (fun g40 => by exact ⟨g40, g40, trivial⟩) (fun g40 => op_eql_agg (eqAgg46 x_14 (⟨0, 281⟩ : Problem)) rfl rfl) (OpsL.keepS ⟨[(13, _), (15, _), (16, _), (17, _), (18, _), (19, _), (20, _), (115, B (decide (x_12 = (⟨0, 281⟩ : Problem)))), (118, .opt (decide (x_12 = (⟨0, 281⟩ : Problem))) (.one (.bool (decide (x_14 = (⟨0, 281⟩ : Problem))))))], [(107, _), (108, _)]⟩ rfl (OpsL.consB h rfl (op_pick_and (fun e => e) rfl rfl rfl rfl) (fun x_26 h => ?_)))))
  refine Oc om (CgT x_26 [] (fun g41 => by exact trivial) (fun g41 => lp tyAgg46) (CgT x_26 [] (fun g42 => by exact trivial) (fun g42 => op_build tyBuild46 rfl rfl) (CgT x_26 [121, 122] (fun g43 => by exact ⟨g43, g43, trivial⟩) (fun g43 => op_eql_agg (eqAgg46 x_16 (⟨2, 280⟩ : Problem)) rfl rfl) (Oc (op_pick_and (fun e => e) rfl rfl rfl rfl) (Oc om ?_)))))
  refine CgT (x_26 && (decide (x_16 = (⟨2, 280⟩ : Problem)))) [] (fun g44 => trivial) (fun g44 => lp tyAgg46) (OpsL.keepS ⟨[(16, _), (17, _), (18, _), (19, _), (20, _), (125, B (x_26 && (decide (x_16 = (⟨2, 280⟩ : Problem))))), (126, .opt (x_26 && (decide (x_16 = (⟨2, 280⟩ : Problem)))) (.agg (eProblem x_18)))], []⟩ rfl (CgT (x_26 && (decide (x_16 = (⟨2, 280⟩ : Problem)))) [] (fun g45 => by exact trivial) (fun g45 => op_build tyBuild46 rfl rfl) (CgT (x_26 && (decide (x_16 = (⟨2, 280⟩ : Problem)))) [126, 127] (fun g46 => by exact ⟨g46, g46, trivial⟩) (fun g46 => op_eql_agg (eqAgg46 x_18 (⟨0, 280⟩ : Problem)) rfl rfl) (OpsL.consB h rfl (op_pick_and (fun e => e) rfl rfl rfl rfl) (fun x_27 h => ?_)))))
  refine Oc oa (OpsL.nilS ⟨[(16, _), (17, _), (18, _), (19, _), (20, _), (21, B x_27)], []⟩ rfl (Tri.seq (Tri.regionL ?_)))
  refine OpsL.consB h rfl om (fun x_28 h => ?_)
  refine Oc om (CgT x_28 [] (fun g47 => by exact trivial) (fun g47 => om) (Oc (op_pick_and (fun e => e) rfl rfl rfl rfl) (Oc om ?_)))
  refine CgT (x_28 && x_27) [] (fun g48 => trivial) (fun g48 => om) (CgT (x_28 && x_27) [135] (fun g49 => by exact ⟨g49, trivial⟩) (fun g49 => op_eql_str rfl rfl) (OpsL.keepS ⟨[(17, _), (18, _), (19, _), (134, B (x_28 && x_27)), (136, .opt (x_28 && x_27) (.one (.bool (decide (x_20 = [97, 32, 34, 115, 97, 121, 32, 92, 34, 120, 92, 34, 34])))))], []⟩ rfl (OpsL.consB h rfl (op_pick_and (fun e => e) rfl rfl rfl rfl) (fun x_29 h => ?_))))
  refine Oc om (CgT x_29 [] (fun g50 => by exact trivial) (fun g50 => om) (CgT x_29 [139] (fun g51 => by exact ⟨g51, trivial⟩) (fun g51 => op_eql rfl rfl) (Oc (op_pick_and (fun e => e) rfl rfl rfl rfl) (Oc om ?_))))
  refine CgT (x_29 && (decide (x_21 = 0))) [] (fun g52 => trivial) (fun g52 => om) (CgT (x_29 && (decide (x_21 = 0))) [143] (fun g53 => by exact ⟨g53, trivial⟩) (fun g53 => op_eql rfl rfl) (OpsL.keepS ⟨[(19, _), (142, B (x_29 && (decide (x_21 = 0)))), (144, .opt (x_29 && (decide (x_21 = 0))) (.one (.bool (decide (x_22 = 2)))))], []⟩ rfl (Oc (op_pick_and (fun e => e) rfl rfl rfl rfl) (Oc om ?_))))
  refine CgT ((x_29 && (decide (x_21 = 0))) && (decide (x_22 = 2))) [] (fun g54 => trivial) (fun g54 => om) (CgT ((x_29 && (decide (x_21 = 0))) && (decide (x_22 = 2))) [147] (fun g55 => by exact ⟨g55, trivial⟩) (fun g55 => op_eql rfl rfl) (OpsL.consB h rfl (op_pick_and (fun e => e) rfl rfl rfl rfl) (fun x_30 h => ?_)))
  refine Oc om (OpsL.keepS ⟨[(150, B x_30)], []⟩ rfl ?_)
  obtain ⟨x_31, e57, h⟩ := bnd h
  refine CgT x_30 [] (fun g56 => trivial) (fun g56 => op_call0 (lexer_Word_spec (gc e57 g56)) goes25 rfl rfl) (Oc (op_pick_and (fun e => e) rfl rfl rfl rfl) (Oc om ?_))
  obtain ⟨x_32, e59, h⟩ := bnd h
  refine CgT (x_30 && x_31) [] (fun g58 => trivial) (fun g58 => op_call0 (lexer_Word_spec (gc e59 g58)) goes25 rfl rfl) (CgT (x_30 && x_31) [154] (fun g60 => ⟨g60, trivial⟩) (fun g60 => op_not rfl) (Oc (op_pick_and (fun e => e) rfl rfl rfl rfl) (Oc oa ?_)))
  refine OpsL.nilS ⟨[(0, B ((x_30 && x_31) && (!x_32)))], []⟩ rfl (Tri.ret ?_)
  obtain rfl := Option.some.inj h
  refine Fin.keepS ⟨[(0, _)], []⟩ rfl (Fin.result' [.one (.bool ((x_30 && x_31) && (!x_32)))] (.inl rfl) rfl (.cons (.tmp rfl) .nil) ⟨rfl, rfl⟩)
def skewbacklaw28_blank_S (F : Nat) (s0 : Str) : Option Bool :=
 Option.bind (iter F (fun x_1 => if (decide (x_1 < (s0.length : Int))) = true then (Option.bind (Option.bind ((idx? s0 x_1).bind fun x_2 => if (decide ((x_2.toNat : Int) = 35)) = true then (Option.bind ((drop? s0 x_1).bind fun x_3 => iter F (fun x_4 => if (decide (x_4 < ((ofStr x_3).length : Int))) = true then ((idx? (ofStr x_3) x_4).bind fun x_5 => if (decide (x_5 = 10)) = true then (some (.inr (.inr false))) else (some (.inl (IntKind.i64.wrap (x_4 + 1))))) else (some (.inr (.inl ())))) 0) (alt2 (fun _ => some (.inr true)) (fun y => some (.inr y)))) else (some (.inl ()))) (alt2 (fun _ => (idx? s0 x_1).bind fun x_6 => (gcall (decide ((x_6.toNat : Int) ≠ 32)) (idx? s0 x_1)).bind fun x_7 => letN ((decide ((x_6.toNat : Int) ≠ 32)) && (decide ((x_7.toNat : Int) ≠ 9))) fun x_8 => (gcall x_8 (idx? s0 x_1)).bind fun x_9 => (gcall (x_8 && (decide ((x_9.toNat : Int) ≠ 10))) (idx? s0 x_1)).bind fun x_10 => letN ((x_8 && (decide ((x_9.toNat : Int) ≠ 10))) && (decide ((x_10.toNat : Int) ≠ 13))) fun x_11 => if x_11 = true then (some (.inr false)) else (some (.inl ()))) (fun y => some (.inr y)))) (alt2 (fun _ => some (.inl (IntKind.i64.wrap (x_1 + 1)))) (fun y => some (.inr (.inr y))))) else (some (.inr (.inl ())))) 0) (alt2 (fun _ => some true) (fun y => some y))
theorem skewbacklaw28_blank_spec {F : Nat} {s0 : Str} {r : Bool} (h : skewbacklaw28_blank_S F s0 = some r) : Meets Tryz.prog (tabs mx) 15 [] [.one (.str s0)] (Is [] (.b (.one (.bool r)))) := by
 unfold skewbacklaw28_blank_S at h
 refine Meets.intro 50 Tryz.func15 Tryz.ntmps15 rfl (by simp) fun E => ?_
 show Tri _ E ⟨50, [], [], []⟩ _ ⟨[(0, .b (.one (.str s0)))], []⟩ _
 refine Tri.seq (Tri.regionL ?_)
 refine Oc oa (OpsL.nilS ⟨[(0, .b (.one (.str s0)))], []⟩ rfl ?_)
 obtain ⟨v1, h2, h⟩ := bnd h
 refine Tri.seqJ (v := v1) (fun (_ : Unit) => ⟨[], []⟩) (fun z => .inl z) ?_ ?_
 ·refine Tri.seq (Tri.regionL ?_)
  refine Oc om (Oc (op_len_str und9 rfl) (Oc om ?_))
  refine OpsL.nilS ⟨[(0, _), (7, I (s0.length : Int)), (8, I 0)], []⟩ rfl (Tri.block (Tri.loopJ h2 (fun (x_1 : Int) => ⟨[(0, .b (.one (.str s0))), (7, I (s0.length : Int)), (8, I x_1)], []⟩) [0, 7, 8] [] rfl ?_))
  rintro x_1 o3 h4 hy5
  refine Tri.seq (Tri.regionL ?_)
  refine Oc (op_lss rfl rfl) (OpsL.nilS ⟨[(0, _), (7, _), (8, _), (9, B (decide (x_1 < (s0.length : Int))))], []⟩ rfl (Tri.seq (Tri.ite h4 rfl (fun _ h4 => ?_) (fun _ h4 => ?_))))
  ·refine Tri.skip (Fin.keepS ⟨[(0, _), (7, _), (8, _)], []⟩ rfl (Fin.then ?_))
   obtain ⟨v6, h7, h4⟩ := bnd h4
   refine Tri.seqJ (v := v6) (fun (_ : Unit) => ⟨[(0, .b (.one (.str s0))), (7, I (s0.length : Int)), (8, I x_1)], []⟩) (fun z => .inl z) ?_ ?_
   ·refine Tri.block (Tri.seq (Tri.regionL ?_))
    refine Oc om (Oc oa ?_)
    refine OpsL.nilS ⟨[(0, _), (3, I x_1), (7, _), (8, _)], []⟩ rfl ?_
    obtain ⟨v8, h9, h7⟩ := bnd h7
    refine Tri.seqJ (v := v8) (fun (_ : Unit) => ⟨[(0, .b (.one (.str s0))), (3, I x_1), (7, I (s0.length : Int)), (8, I x_1)], []⟩) (fun z => .inl z) ?_ ?_
    ·refine Tri.seq (Tri.regionL ?_)
     refine Oc om (Oc om ?_)
     obtain ⟨x_2, e10, h9⟩ := bnd h9
     refine Oc (op_index_str und9 rfl rfl (ix_lo e10) (ix_get e10)) (Oc (op_eql rfl rfl) ?_)
     refine OpsL.nilS ⟨[(0, _), (3, _), (7, _), (8, _), (14, B (decide ((x_2.toNat : Int) = 35)))], []⟩ rfl (Tri.ite h9 rfl (fun _ h9 => ?_) (fun _ h9 => ?_))
     ·obtain ⟨v11, h12, h9⟩ := bnd h9
      refine Tri.seqJ (v := v11) (fun (_ : Unit) => ⟨[], []⟩) (fun z => .inl z) ?_ ?_
      ·refine Tri.seq (Tri.regionL ?_)
       refine Oc om (Oc om ?_)
       obtain ⟨x_3, e13, h12⟩ := bnd h12
       refine Oc (op_slice_str_l und9 e13 rfl rfl) (Oc (op_conv_str und9 und50 undi5 rfl) (Oc (op_len_e' und50 rfl (List.length_map _)) (Oc om ?_)))
       refine OpsL.nilS ⟨[(18, .b (.one (.sl 1 ((ofStr x_3).map (eK .u8))))), (19, I ((ofStr x_3).length : Int)), (20, I 0)], []⟩ rfl (Tri.block (Tri.loopJ h12 (fun (x_4 : Int) => ⟨[(18, .b (.one (.sl 1 ((ofStr x_3).map (eK .u8))))), (19, I ((ofStr x_3).length : Int)), (20, I x_4)], []⟩) [18, 19, 20] [] rfl ?_))
       rintro x_4 o14 h15 hy16
       refine Tri.seq (Tri.regionL ?_)
       refine Oc (op_lss rfl rfl) (OpsL.nilS ⟨[(18, _), (19, _), (20, _), (21, B (decide (x_4 < ((ofStr x_3).length : Int))))], []⟩ rfl (Tri.seq (Tri.ite h15 rfl (fun _ h15 => ?_) (fun _ h15 => ?_))))
       ·refine Tri.skip (Fin.keepS ⟨[(18, _), (19, _), (20, _)], []⟩ rfl (Fin.then (Tri.seq (Tri.block (Tri.seq (Tri.regionL ?_))))))
        obtain ⟨x_5, e17, h15⟩ := bnd h15
        refine Oc (op_index_e tySl50 (ix_lo e17) (ix_map (e := (eK .u8)) e17) rfl rfl) (Oc (op_load_e1 tyOne5 rfl rfl) (Oc oa ?_))
        refine OpsL.nilS ⟨[(5, .b (.one (.int .u8 x_5))), (18, _), (19, _), (20, _)], []⟩ rfl (Tri.seq (Tri.regionL ?_))
        refine Oc om (Oc (op_eql rfl rfl) ?_)
        refine OpsL.nilS ⟨[(18, _), (19, _), (20, _), (25, B (decide (x_5 = 10)))], []⟩ rfl (Tri.ite h15 rfl (fun _ h15 => ?_) (fun _ h15 => ?_))
        ·refine Tri.seq (Tri.regionL ?_)
         refine Oc oa (OpsL.nilS ⟨[(2, B false)], []⟩ rfl (Tri.ret (Fin.block_ret (Fin.then_ret ?_))))
         obtain rfl := hy16 _ (Option.some.inj h15).symm
         refine Fin.then_ret (Fin.block_ret (Fin.then_ret ?_))
         obtain rfl := Option.some.inj h9
         refine Fin.then_ret (Fin.block_ret ?_)
         obtain rfl := Option.some.inj h7
         refine Fin.then_ret ?_
         obtain rfl := hy5 _ (Option.some.inj h4).symm
         refine Fin.then_ret (Fin.block_ret (Fin.then_ret ?_))
         obtain rfl := Option.some.inj h
         refine Fin.keepS ⟨[(2, _)], []⟩ rfl (Fin.result' [.one (.bool false)] (.inl rfl) rfl (.cons (.tmp rfl) .nil) ⟨rfl, rfl⟩)
        ·refine Tri.skip (Fin.block_normal (Fin.keepS ⟨[(18, _), (19, _), (20, _)], []⟩ rfl (Fin.then (Tri.regionL ?_))))
         refine Oc (op_add rfl rfl) (Oc om ?_)
         refine OpsL.nil ?_
         exact Fin.againJ [18, 19, 20] [] (IntKind.i64.wrap (x_4 + 1)) (Option.some.inj h15) rfl
       ·refine Tri.exit (Fin.then_exit ?_)
        obtain rfl := hy16 _ (Option.some.inj h15).symm
        refine Fin.then_exit (Fin.block_exit ?_)
        exact Fin.join [] [] () rfl rfl
      ·rintro _ hv
       subst v11
       refine Tri.seq (Tri.regionL ?_)
       refine Oc oa (OpsL.nilS ⟨[(2, B true)], []⟩ rfl (Tri.ret ?_))
       obtain rfl := Option.some.inj h9
       refine Fin.then_ret (Fin.block_ret ?_)
       obtain rfl := Option.some.inj h7
       refine Fin.then_ret ?_
       obtain rfl := hy5 _ (Option.some.inj h4).symm
       refine Fin.then_ret (Fin.block_ret (Fin.then_ret ?_))
       obtain rfl := Option.some.inj h
       refine Fin.keepS ⟨[(2, _)], []⟩ rfl (Fin.result' [.one (.bool true)] (.inl rfl) rfl (.cons (.tmp rfl) .nil) ⟨rfl, rfl⟩)
     ·refine Tri.skip ?_
      exact Fin.join [0, 3, 7, 8] [] () (Option.some.inj h9) rfl
    ·rintro _ hv
     subst v8
     refine Tri.seq (Tri.regionL ?_)
     refine Oc om (Oc om ?_)
     obtain ⟨x_6, e18, h7⟩ := bnd h7
     refine Oc (op_index_str und9 rfl rfl (ix_lo e18) (ix_get e18)) (Oc (op_neq rfl rfl) (Oc om ?_))
     refine CgT (decide ((x_6.toNat : Int) ≠ 32)) [] (fun g19 => trivial) (fun g19 => om) (CgT (decide ((x_6.toNat : Int) ≠ 32)) [] (fun g20 => by exact trivial) (fun g20 => om) (OpsL.keepS ⟨[(0, _), (3, _), (7, _), (8, _), (31, B (decide ((x_6.toNat : Int) ≠ 32))), (32, .opt (decide ((x_6.toNat : Int) ≠ 32)) (.one (.str s0))), (33, .opt (decide ((x_6.toNat : Int) ≠ 32)) (.one (.i x_1)))], []⟩ rfl ?_))
     obtain ⟨x_7, e22, h7⟩ := bnd h7
     refine CgT (decide ((x_6.toNat : Int) ≠ 32)) [32, 33] (fun g21 => ⟨g21, g21, trivial⟩) (fun g21 => op_index_str und9 rfl rfl (ix_lo (gc e22 g21)) (ix_get (gc e22 g21))) (CgT (decide ((x_6.toNat : Int) ≠ 32)) [34] (fun g23 => ⟨g23, trivial⟩) (fun g23 => op_neq rfl rfl) (OpsL.consB h7 rfl (op_pick_and (fun e => e) rfl rfl rfl rfl) (fun x_8 h7 => ?_)))
     refine Oc om (CgT x_8 [] (fun g24 => by exact trivial) (fun g24 => om) (CgT x_8 [] (fun g25 => by exact trivial) (fun g25 => om) ?_))
     obtain ⟨x_9, e27, h7⟩ := bnd h7
     refine CgT x_8 [38, 39] (fun g26 => ⟨g26, g26, trivial⟩) (fun g26 => op_index_str und9 rfl rfl (ix_lo (gc e27 g26)) (ix_get (gc e27 g26))) (CgT x_8 [40] (fun g28 => ⟨g28, trivial⟩) (fun g28 => op_neq rfl rfl) (OpsL.keepS ⟨[(0, _), (3, _), (7, _), (8, _), (37, B x_8), (41, .opt x_8 (.one (.bool (decide ((x_9.toNat : Int) ≠ 10)))))], []⟩ rfl (Oc (op_pick_and (fun e => e) rfl rfl rfl rfl) (Oc om ?_))))
     refine CgT (x_8 && (decide ((x_9.toNat : Int) ≠ 10))) [] (fun g29 => trivial) (fun g29 => om) (CgT (x_8 && (decide ((x_9.toNat : Int) ≠ 10))) [] (fun g30 => by exact trivial) (fun g30 => om) ?_)
     obtain ⟨x_10, e32, h7⟩ := bnd h7
     refine CgT (x_8 && (decide ((x_9.toNat : Int) ≠ 10))) [44, 45] (fun g31 => ⟨g31, g31, trivial⟩) (fun g31 => op_index_str und9 rfl rfl (ix_lo (gc e32 g31)) (ix_get (gc e32 g31))) (CgT (x_8 && (decide ((x_9.toNat : Int) ≠ 10))) [46] (fun g33 => ⟨g33, trivial⟩) (fun g33 => op_neq rfl rfl) (OpsL.consB h7 rfl (op_pick_and (fun e => e) rfl rfl rfl rfl) (fun x_11 h7 => ?_)))
     refine OpsL.nilS ⟨[(0, _), (7, _), (8, _), (48, B x_11)], []⟩ rfl (Tri.ite h7 rfl (fun _ h7 => ?_) (fun _ h7 => ?_))
     ·refine Tri.seq (Tri.regionL ?_)
      refine Oc oa (OpsL.nilS ⟨[(2, B false)], []⟩ rfl (Tri.ret (Fin.block_ret ?_)))
      obtain rfl := Option.some.inj h7
      refine Fin.then_ret ?_
      obtain rfl := hy5 _ (Option.some.inj h4).symm
      refine Fin.then_ret (Fin.block_ret (Fin.then_ret ?_))
      obtain rfl := Option.some.inj h
      refine Fin.keepS ⟨[(2, _)], []⟩ rfl (Fin.result' [.one (.bool false)] (.inl rfl) rfl (.cons (.tmp rfl) .nil) ⟨rfl, rfl⟩)
     ·refine Tri.skip (Fin.block_normal ?_)
      exact Fin.join [0, 7, 8] [] () (Option.some.inj h7) rfl
   ·rintro _ hv
    subst v6
    refine Tri.regionL (Oc (op_add rfl rfl) (Oc om ?_))
    refine OpsL.nil ?_
    exact Fin.againJ [0, 7, 8] [] (IntKind.i64.wrap (x_1 + 1)) (Option.some.inj h4) rfl
  ·refine Tri.exit (Fin.then_exit ?_)
   obtain rfl := hy5 _ (Option.some.inj h4).symm
   refine Fin.then_exit (Fin.block_exit ?_)
   exact Fin.join [] [] () rfl rfl
 ·rintro _ hv
  subst v1
  refine Tri.seq (Tri.regionL ?_)
  refine Oc oa (OpsL.nilS ⟨[(2, B true)], []⟩ rfl (Tri.ret ?_))
  obtain rfl := Option.some.inj h
  refine Fin.keepS ⟨[(2, _)], []⟩ rfl (Fin.result' [.one (.bool true)] (.inl rfl) rfl (.cons (.tmp rfl) .nil) ⟨rfl, rfl⟩)
def skewbacklaw28_LexerForgetsSpaces_S (F : Nat) (s0 : Str) (gaps0 : List Str) : Option Bool :=
 Option.bind (lexer_Tokens_S F s0) (un2 fun x_1 x_2 => letN ((decide (3000 < (s0.length : Int))) || (decide (x_2 ≠ (⟨0, 0⟩ : Problem)))) fun x_3 => if (x_3 || (decide (20 < (gaps0.length : Int)))) = true then ((skewbacklaw28_sanity_S F).bind fun x_4 => some x_4) else (Option.bind (lexer_Text_S F x_1) (un2 fun x_5 x_6 => Option.bind (lexer_Tokens_S F x_5) (un2 fun x_7 x_8 => (gcall (!((decide (x_6 ≠ 0)) || (decide (x_8 ≠ (⟨0, 0⟩ : Problem))))) (skewbackref28_Same_S F x_1 x_7)).bind fun x_9 => letN (((decide (x_6 ≠ 0)) || (decide (x_8 ≠ (⟨0, 0⟩ : Problem)))) || (!x_9)) fun x_10 => if x_10 = true then (some false) else (Option.bind (iter F (un2 fun out_12 x_13 => if (decide (x_13 < (x_1.length : Int))) = true then (Option.bind ((idx? x_1 x_13).bind fun x_16 => Option.bind (if (decide (0 < (gaps0.length : Int))) = true then ((rem? x_13 (gaps0.length : Int)).bind fun x_18 => (idx? gaps0 x_18).bind fun x_19 => some x_19) else (some [32])) (fun gap_17 => (skewbacklaw28_blank_S F gap_17).bind fun x_20 => if (!x_20) = true then ((skewbacklaw28_sanity_S F).bind fun x_21 => some (.inr x_21)) else (Option.bind (lexer_Text_S F [x_16]) (un2 fun x_22 x_23 => if (decide (x_23 ≠ 0)) = true then (some (.inr false)) else (Option.bind (appS? out_12 gap_17) (fun x_24 => Option.bind (appB? x_24 [10]) (fun x_25 => Option.bind (appS? x_25 x_22) (fun x_26 => some (.inl x_26))))))))) (alt2 (fun out_15 => some (.inl (out_15, IntKind.i64.wrap (x_13 + 1)))) (fun y => some (.inr (.inr y))))) else (some (.inr (.inl out_12)))) ([], 0)) (alt2 (fun out_11 => Option.bind (lexer_Tokens_S F (toStr out_11)) (un2 fun x_27 x_28 => (skewbacklaw28_sanity_S F).bind fun x_29 => (gcall ((x_29 && !((decide (x_28.E = 2)) && (decide (100000 < (out_11.length : Int))))) && (decide (x_28 = (⟨0, 0⟩ : Problem)))) (skewbackref28_Same_S F x_1 x_27)).bind fun x_30 => letN (x_29 && (((decide (x_28.E = 2)) && (decide (100000 < (out_11.length : Int)))) || ((decide (x_28 = (⟨0, 0⟩ : Problem))) && x_30))) fun x_31 => some x_31)) (fun y => some y)))))))
theorem skewbacklaw28_LexerForgetsSpaces_spec {F : Nat} {s0 : Str} {gaps0 : List Str} {r : Bool} (h : skewbacklaw28_LexerForgetsSpaces_S F s0 gaps0 = some r) : Meets Tryz.prog (tabs mx) 4 [] [.one (.str s0), .one (.sl 1 (gaps0.map eS))] (Is [] (.b (.one (.bool r)))) := by
 unfold skewbacklaw28_LexerForgetsSpaces_S at h
 refine Meets.intro 126 Tryz.func4 Tryz.ntmps4 rfl (by simp) fun E => ?_
 show Tri _ E ⟨126, [], [], []⟩ _ ⟨[(0, .b (.one (.str s0))), (1, .b (.one (.sl 1 (gaps0.map eS))))], []⟩ _
 refine Tri.seq (Tri.regionL ?_)
 refine Oc oa (OpsL.nilS ⟨[(0, .b (.one (.str s0))), (1, .b (.one (.sl 1 (gaps0.map eS))))], []⟩ rfl (Tri.seq (Tri.regionL ?_)))
 refine Oc om ?_
 obtain ⟨⟨x_1, x_2⟩, e1, h⟩ := bnd h
 refine Oc (op_call0 (lexer_Tokens_spec e1) goes13 rfl rfl) (Oc om (Oc (op_extract rfl rfl) (Oc (op_extract rfl rfl) ?_)))
 refine OpsL.keepS ⟨[(0, _), (1, _), (22, .b (.one (.sl 3 (x_1.map eToken)))), (23, .b (.agg (eProblem x_2)))], []⟩ rfl (Oc (op_alloc (k := 101) tyZero46 rfl) (Oc oa (Oc (op_store_p tyAgg46 rfl rfl rfl rfl (Nat.le_of_ble_eq_true rfl) rfl) ?_)))
 refine OpsL.nilS ⟨[(0, _), (1, _), (5, .b (.one (.sl 3 (x_1.map eToken)))), (6, Pt 101 0)], [(101, .box 46 (eProblem x_2))]⟩ rfl (Tri.seq (Tri.seq (Tri.regionL ?_)))
 refine Oc om (Oc (op_len_str und9 rfl) (Oc (op_gtr rfl rfl) (Oc om ?_)))
 refine CgF (!(decide (3000 < (s0.length : Int)))) [] (fun g2 => trivial) (fun g2 => lp tyAgg46) (CgF (!(decide (3000 < (s0.length : Int)))) [] (fun g3 => by exact trivial) (fun g3 => op_build tyBuild46 rfl rfl) (OpsL.keepS ⟨[(1, _), (5, _), (27, B (decide (3000 < (s0.length : Int)))), (28, .opt (!(decide (3000 < (s0.length : Int)))) (.agg (eProblem x_2))), (29, .opt (!(decide (3000 < (s0.length : Int)))) (.agg [.i 0, .i 0]))], []⟩ rfl (CgF (!(decide (3000 < (s0.length : Int)))) [28, 29] (fun g4 => by exact ⟨g4, g4, trivial⟩) (fun g4 => op_neq_agg (eqAgg46 x_2 (⟨0, 0⟩ : Problem)) rfl rfl neg_dec) (OpsL.consB h rfl (op_pick_or (fun e => by first | (rw [e]; rfl) | (simp only at e; rw [e]; rfl)) rfl rfl rfl rfl) (fun x_3 h => ?_)))))
 refine Oc om (CgF (!x_3) [] (fun g5 => by exact trivial) (fun g5 => om) (CgF (!x_3) [33] (fun g6 => by exact ⟨g6, trivial⟩) (fun g6 => op_len_e' und44 rfl (List.length_map _)) (CgF (!x_3) [34] (fun g7 => by exact ⟨g7, trivial⟩) (fun g7 => op_gtr rfl rfl) (Oc (op_pick_or (fun e => by first | (rw [e]; rfl) | (simp only at e; rw [e]; rfl)) rfl rfl rfl rfl) (OpsL.nilS ⟨[(1, _), (5, _), (36, B (x_3 || (decide (20 < (gaps0.length : Int)))))], []⟩ rfl ?_)))))
 refine Tri.ite h rfl (fun _ h => ?_) (fun _ h => ?_)
 ·refine Tri.seq (Tri.regionL ?_)
  obtain ⟨x_4, e8, h⟩ := bnd h
  refine Oc (op_call0 (skewbacklaw28_sanity_spec e8) goes8 rfl rfl) (Oc oa ?_)
  refine OpsL.nilS ⟨[(4, B x_4)], []⟩ rfl (Tri.ret (Fin.then_ret ?_))
  obtain rfl := Option.some.inj h
  refine Fin.keepS ⟨[(4, _)], []⟩ rfl (Fin.result' [.one (.bool x_4)] (.inl rfl) rfl (.cons (.tmp rfl) .nil) ⟨rfl, rfl⟩)
 ·refine Tri.skip (Fin.keepS ⟨[(1, _), (5, _)], []⟩ rfl (Fin.then (Tri.seq (Tri.regionL ?_))))
  refine Oc om ?_
  obtain ⟨⟨x_5, x_6⟩, e9, h⟩ := bnd h
  refine Oc (op_call0 (lexer_Text_spec e9) goes9 rfl rfl) (Oc om (Oc (op_extract rfl rfl) (Oc (op_extract rfl rfl) (Oc oa (Oc oa ?_)))))
  refine OpsL.nilS ⟨[(1, _), (5, _), (7, .b (.one (.str x_5))), (8, I x_6)], []⟩ rfl (Tri.seq (Tri.regionL ?_))
  refine Oc om ?_
  obtain ⟨⟨x_7, x_8⟩, e10, h⟩ := bnd h
  refine Oc (op_call0 (lexer_Tokens_spec e10) goes13 rfl rfl) (Oc om (Oc (op_extract rfl rfl) (Oc (op_extract rfl rfl) ?_)))
  refine OpsL.keepS ⟨[(1, _), (5, _), (8, _), (46, .b (.one (.sl 3 (x_7.map eToken)))), (47, .b (.agg (eProblem x_8)))], []⟩ rfl (Oc (op_alloc (k := 102) tyZero46 rfl) (Oc oa (Oc (op_store_p tyAgg46 rfl rfl rfl rfl (Nat.le_of_ble_eq_true rfl) rfl) ?_)))
  refine OpsL.nilS ⟨[(1, _), (5, _), (8, _), (9, .b (.one (.sl 3 (x_7.map eToken)))), (10, Pt 102 0)], [(102, .box 46 (eProblem x_8))]⟩ rfl (Tri.seq (Tri.seq (Tri.regionL ?_)))
  refine Oc om (Oc (op_neq rfl rfl) (Oc om ?_))
  refine CgF (!(decide (x_6 ≠ 0))) [] (fun g11 => trivial) (fun g11 => lp tyAgg46) (CgF (!(decide (x_6 ≠ 0))) [] (fun g12 => by exact trivial) (fun g12 => op_build tyBuild46 rfl rfl) (CgF (!(decide (x_6 ≠ 0))) [51, 52] (fun g13 => by exact ⟨g13, g13, trivial⟩) (fun g13 => op_neq_agg (eqAgg46 x_8 (⟨0, 0⟩ : Problem)) rfl rfl neg_dec) (Oc (op_pick_or (fun e => by first | (rw [e]; rfl) | (simp only at e; rw [e]; rfl)) rfl rfl rfl rfl) (OpsL.keepS ⟨[(1, _), (5, _), (9, _), (54, B ((decide (x_6 ≠ 0)) || (decide (x_8 ≠ (⟨0, 0⟩ : Problem)))))], []⟩ rfl (Oc om ?_)))))
  refine CgF (!((decide (x_6 ≠ 0)) || (decide (x_8 ≠ (⟨0, 0⟩ : Problem))))) [] (fun g14 => trivial) (fun g14 => om) (CgF (!((decide (x_6 ≠ 0)) || (decide (x_8 ≠ (⟨0, 0⟩ : Problem))))) [] (fun g15 => by exact trivial) (fun g15 => om) ?_)
  obtain ⟨x_9, e17, h⟩ := bnd h
  refine CgF (!((decide (x_6 ≠ 0)) || (decide (x_8 ≠ (⟨0, 0⟩ : Problem))))) [56, 57] (fun g16 => ⟨g16, g16, trivial⟩) (fun g16 => op_call0 (skewbackref28_Same_spec (gc e17 g16)) goes14 rfl rfl) (CgF (!((decide (x_6 ≠ 0)) || (decide (x_8 ≠ (⟨0, 0⟩ : Problem))))) [58] (fun g18 => ⟨g18, trivial⟩) (fun g18 => op_not rfl) (OpsL.consB h rfl (op_pick_or (fun e => by first | (rw [e]; rfl) | (simp only at e; rw [e]; rfl)) rfl rfl rfl rfl) (fun x_10 h => ?_)))
  refine OpsL.nilS ⟨[(1, _), (5, _), (60, B x_10)], []⟩ rfl (Tri.ite h rfl (fun _ h => ?_) (fun _ h => ?_))
  ·refine Tri.seq (Tri.regionL ?_)
   refine Oc oa (OpsL.nilS ⟨[(4, B false)], []⟩ rfl (Tri.ret (Fin.then_ret ?_)))
   obtain rfl := Option.some.inj h
   refine Fin.keepS ⟨[(4, _)], []⟩ rfl (Fin.result' [.one (.bool false)] (.inl rfl) rfl (.cons (.tmp rfl) .nil) ⟨rfl, rfl⟩)
  ·refine Tri.skip (Fin.keepS ⟨[(1, _), (5, _)], []⟩ rfl (Fin.then (Tri.seq (Tri.regionL ?_))))
   refine Oc oa (OpsL.nilS ⟨[(1, _), (5, _), (11, .b (.one (.nil)))], []⟩ rfl ?_)
   obtain ⟨v19, h20, h⟩ := bnd h
   refine Tri.seqJ (v := v19) (fun (out_11 : List Int) => ⟨[(5, .b (.one (.sl 3 (x_1.map eToken)))), (11, .b (.row 105))], [(105, .row 5 1 (out_11.map (eK .u8)))]⟩) (fun z => .inl z) ?_ ?_
   ·refine Tri.seq (Tri.regionL ?_)
    refine Oc om (Oc (op_len_e' und22 rfl (List.length_map _)) (Oc om ?_))
    refine OpsL.nilS ⟨[(1, _), (5, _), (11, _), (61, .b (.one (.sl 3 (x_1.map eToken)))), (62, I (x_1.length : Int)), (63, I 0)], []⟩ rfl (Tri.block (Tri.nilrow 11 105 1 5 rfl (by decide) rfl (Tri.loopJ h20 (un2 fun (out_12 : List Int) (x_13 : Int) => ⟨[(1, .b (.one (.sl 1 (gaps0.map eS)))), (5, .b (.one (.sl 3 (x_1.map eToken)))), (11, .b (.row 105)), (61, .b (.one (.sl 3 (x_1.map eToken)))), (62, I (x_1.length : Int)), (63, I x_13)], [(105, .row 5 1 (out_12.map (eK .u8)))]⟩) [1, 5, 11, 61, 62, 63] [105] rfl ?_)))
    rintro ⟨out_12, x_13⟩ o21 h22 hy23
    refine Tri.seq (Tri.regionL ?_)
    refine Oc (op_lss rfl rfl) (OpsL.nilS ⟨[(1, _), (5, _), (11, _), (61, _), (62, _), (63, _), (64, B (decide (x_13 < (x_1.length : Int))))], [(105, _)]⟩ rfl (Tri.seq (Tri.ite h22 rfl (fun _ h22 => ?_) (fun _ h22 => ?_))))
    ·refine Tri.skip (Fin.keepS ⟨[(1, _), (5, _), (11, _), (61, _), (62, _), (63, _)], [(105, _)]⟩ rfl (Fin.then ?_))
     obtain ⟨v24, h25, h22⟩ := bnd h22
     refine Tri.seqJ (v := v24) (fun (out_15 : List Int) => ⟨[(1, .b (.one (.sl 1 (gaps0.map eS)))), (5, .b (.one (.sl 3 (x_1.map eToken)))), (11, .b (.row 105)), (61, .b (.one (.sl 3 (x_1.map eToken)))), (62, I (x_1.length : Int)), (63, I x_13)], [(105, .row 5 1 (out_15.map (eK .u8)))]⟩) (fun z => .inl z) ?_ ?_
     ·refine Tri.block (Tri.seq (Tri.regionL ?_))
      refine Oc om ?_
      obtain ⟨x_16, e26, h25⟩ := bnd h25
      refine Oc (op_index_e tySl22 (ix_lo e26) (ix_map (e := eToken) e26) rfl rfl) (Oc (op_load_e tyAgg31 rfl rfl rfl) (Oc (op_alloc (k := 106) tyZero31 rfl) (Oc oa (Oc (op_store_p tyAgg31 rfl rfl rfl rfl (Nat.le_of_ble_eq_true rfl) rfl) ?_))))
      refine OpsL.nilS ⟨[(1, _), (5, _), (11, _), (12, I x_13), (13, Pt 106 0), (61, _), (62, _), (63, _)], [(105, _), (106, .box 31 (eToken x_16))]⟩ rfl (Tri.seq (Tri.regionL ?_))
      refine Oc oa (OpsL.nilS ⟨[(1, _), (5, _), (11, _), (12, _), (13, _), (14, .b (.one (.str [32]))), (61, _), (62, _), (63, _)], [(105, _), (106, _)]⟩ rfl ?_)
      obtain ⟨v27, h28, h25⟩ := bnd h25
      refine Tri.seqJ (v := v27) (fun (gap_17 : Str) => ⟨[(1, .b (.one (.sl 1 (gaps0.map eS)))), (5, .b (.one (.sl 3 (x_1.map eToken)))), (11, .b (.row 105)), (13, Pt 106 0), (14, .b (.one (.str gap_17))), (61, .b (.one (.sl 3 (x_1.map eToken)))), (62, I (x_1.length : Int)), (63, I x_13)], [(105, .row 5 1 (out_12.map (eK .u8))), (106, .box 31 (eToken x_16))]⟩) (fun z => z) ?_ ?_
      ·refine Tri.seq (Tri.regionL ?_)
       refine Oc om (Oc (op_len_e' und44 rfl (List.length_map _)) (Oc (op_gtr rfl rfl) ?_))
       refine OpsL.nilS ⟨[(1, _), (5, _), (11, _), (12, _), (13, _), (14, _), (61, _), (62, _), (63, _), (70, B (decide (0 < (gaps0.length : Int))))], [(105, _), (106, _)]⟩ rfl (Tri.ite h28 rfl (fun _ h28 => ?_) (fun _ h28 => ?_))
       ·refine Tri.regionL (Oc om (Oc om (Oc om (Oc (op_len_e' und44 rfl (List.length_map _)) ?_))))
        obtain ⟨x_18, e29, h28⟩ := bnd h28
        refine Oc (op_rem2 e29 rfl rfl) ?_
        obtain ⟨x_19, e30, h28⟩ := bnd h28
        refine Oc (op_index_e tySl44 (ix_lo e30) (ix_map (e := eS) e30) rfl rfl) (Oc (op_load_e1 tyOne9 rfl rfl) (Oc oa ?_))
        refine OpsL.nil ?_
        exact Fin.join [1, 5, 11, 13, 14, 61, 62, 63] [105, 106] x_19 (Option.some.inj h28) rfl
       ·refine Tri.skip ?_
        exact Fin.join [1, 5, 11, 13, 14, 61, 62, 63] [105, 106] [32] (Option.some.inj h28) rfl
      ·rintro gap_17 hv
       subst v27
       refine Tri.seq (Tri.seq (Tri.regionL ?_))
       refine Oc om ?_
       obtain ⟨x_20, e31, h25⟩ := bnd h25
       refine Oc (op_call0 (skewbacklaw28_blank_spec e31) goes15 rfl rfl) (Oc (op_not rfl) ?_)
       refine OpsL.nilS ⟨[(1, _), (5, _), (11, _), (13, _), (14, _), (61, _), (62, _), (63, _), (80, B (!x_20))], [(105, _), (106, _)]⟩ rfl (Tri.ite h25 rfl (fun _ h25 => ?_) (fun _ h25 => ?_))
       ·refine Tri.seq (Tri.regionL ?_)
        obtain ⟨x_21, e32, h25⟩ := bnd h25
        refine Oc (op_call0 (skewbacklaw28_sanity_spec e32) goes8 rfl rfl) (Oc oa ?_)
        refine OpsL.nilS ⟨[(4, B x_21)], []⟩ rfl (Tri.ret (Fin.then_ret (Fin.block_ret ?_)))
        obtain rfl := Option.some.inj h25
        refine Fin.then_ret ?_
        obtain rfl := hy23 _ (Option.some.inj h22).symm
        refine Fin.then_ret (Fin.block_ret (Fin.then_ret ?_))
        obtain rfl := Option.some.inj h
        refine Fin.keepS ⟨[(4, _)], []⟩ rfl (Fin.result' [.one (.bool x_21)] (.inl rfl) rfl (.cons (.tmp rfl) .nil) ⟨rfl, rfl⟩)
       ·refine Tri.skip (Fin.keepS ⟨[(1, _), (5, _), (11, _), (13, _), (14, _), (61, _), (62, _), (63, _)], [(105, _), (106, _)]⟩ rfl (Fin.then (Tri.seq (Tri.regionL ?_))))
        refine Oc (lp tyAgg31) (Oc (op_buildSlice (k := 107) (es := [x_16].map eToken) tySl22 rfl rfl (uni_map fun _ => rfl) rfl (by decide) (by decide) rfl) ?_)
        obtain ⟨⟨x_22, x_23⟩, e33, h25⟩ := bnd h25
        refine Oc (op_callB (lexer_Text_spec e33) goes9 rfl (flat_tup ⟨CP.flat_str, CP.flat_int, trivial⟩)) (Oc om ?_)
        refine OpsL.keepS ⟨[(1, _), (5, _), (11, _), (14, _), (61, _), (62, _), (63, _), (82, .tup [.one (.str x_22), .one (.i x_23)])], [(105, _)]⟩ rfl (Oc (op_extract rfl rfl) (Oc (op_extract rfl rfl) (Oc oa (Oc oa ?_))))
        refine OpsL.nilS ⟨[(1, _), (5, _), (11, _), (14, _), (15, .b (.one (.str x_22))), (16, I x_23), (61, _), (62, _), (63, _)], [(105, _)]⟩ rfl (Tri.seq (Tri.seq (Tri.regionL ?_)))
        refine Oc om (Oc (op_neq rfl rfl) ?_)
        refine OpsL.nilS ⟨[(1, _), (5, _), (11, _), (14, _), (15, _), (61, _), (62, _), (63, _), (89, B (decide (x_23 ≠ 0)))], [(105, _)]⟩ rfl (Tri.ite h25 rfl (fun _ h25 => ?_) (fun _ h25 => ?_))
        ·refine Tri.seq (Tri.regionL ?_)
         refine Oc oa (OpsL.nilS ⟨[(4, B false)], []⟩ rfl (Tri.ret (Fin.then_ret (Fin.block_ret ?_))))
         obtain rfl := Option.some.inj h25
         refine Fin.then_ret ?_
         obtain rfl := hy23 _ (Option.some.inj h22).symm
         refine Fin.then_ret (Fin.block_ret (Fin.then_ret ?_))
         obtain rfl := Option.some.inj h
         refine Fin.keepS ⟨[(4, _)], []⟩ rfl (Fin.result' [.one (.bool false)] (.inl rfl) rfl (.cons (.tmp rfl) .nil) ⟨rfl, rfl⟩)
        ·refine Tri.skip (Fin.keepS ⟨[(1, _), (5, _), (11, _), (14, _), (15, _), (61, _), (62, _), (63, _)], [(105, _)]⟩ rfl (Fin.then (Tri.seq (Tri.regionL ?_))))
         refine Oc om (Oc om ?_)
         obtain ⟨x_24, e34, h25⟩ := bnd h25
         refine Oc (op_append_str und50 und9 tyByte5 e34 rfl rfl rfl rfl) (Oc (op_buildSlice (k := 108) (es := [10].map (eK .u8)) tySl50 rfl rfl (uni_map fun _ => rfl) rfl (by decide) (by decide) rfl) ?_)
         obtain ⟨x_25, e35, h25⟩ := bnd h25
         refine Oc (op_append_r tySl50 (appB_b e35) (appB_m e35) rfl rfl rfl rfl (appB_map e35) rfl) (Oc oa ?_)
         refine OpsL.nilS ⟨[(1, _), (5, _), (11, _), (15, _), (61, _), (62, _), (63, _)], [(105, .row 5 1 (x_25.map (eK .u8)))]⟩ rfl (Tri.regionL (Oc om (Oc om ?_)))
         obtain ⟨x_26, e36, h25⟩ := bnd h25
         refine Oc (op_append_str und50 und9 tyByte5 e36 rfl rfl rfl rfl) (Oc oa ?_)
         refine OpsL.nil (Fin.block_normal ?_)
         exact Fin.join [1, 5, 11, 61, 62, 63] [105] x_26 (Option.some.inj h25) rfl
     ·rintro out_15 hv
      subst v24
      refine Tri.regionL (Oc (op_add rfl rfl) (Oc om ?_))
      refine OpsL.nil ?_
      exact Fin.againJ [1, 5, 11, 61, 62, 63] [105] (out_15, IntKind.i64.wrap (x_13 + 1)) (Option.some.inj h22) rfl
    ·refine Tri.exit (Fin.then_exit ?_)
     obtain rfl := hy23 _ (Option.some.inj h22).symm
     refine Fin.then_exit (Fin.block_exit ?_)
     exact Fin.join [5, 11] [105] out_12 rfl rfl
   ·rintro out_11 hv
    subst v19
    refine Tri.seq (Tri.regionL ?_)
    refine Oc om (OpsL.persist 105 rfl (Oc (op_conv_bytes und50 undi5 und9 rfl) ?_))
    obtain ⟨⟨x_27, x_28⟩, e37, h⟩ := bnd h
    refine Oc (op_call0 (lexer_Tokens_spec e37) goes13 rfl rfl) (OpsL.keepS ⟨[(5, .b (.one (.sl 3 (x_1.map eToken)))), (11, .b (.one (.sl 1 (out_11.map (eK .u8))))), (102, .tup [.one (.sl 3 (x_27.map eToken)), .agg (eProblem x_28)])], []⟩ rfl (Oc om (Oc (op_extract rfl rfl) (Oc (op_extract rfl rfl) (Oc (op_alloc (k := 109) tyZero46 rfl) (Oc oa (Oc (op_store_p tyAgg46 rfl rfl rfl rfl (Nat.le_of_ble_eq_true rfl) rfl) ?_)))))))
    refine OpsL.nilS ⟨[(5, _), (11, _), (17, .b (.one (.sl 3 (x_27.map eToken)))), (18, Pt 109 0)], [(109, .box 46 (eProblem x_28))]⟩ rfl (Tri.seq (Tri.regionL ?_))
    obtain ⟨x_29, e38, h⟩ := bnd h
    refine Oc (op_call0 (skewbacklaw28_sanity_spec e38) goes8 rfl rfl) (Oc om ?_)
    refine CgT x_29 [] (fun g39 => trivial) (fun g39 => op_field_p tyFld46_1 rfl rfl) (CgT x_29 [107] (fun g40 => ⟨g40, trivial⟩) (fun g40 => op_load_p1 tyOne24 rfl rfl rfl) (CgT x_29 [108] (fun g41 => ⟨g41, trivial⟩) (fun g41 => op_eql rfl rfl) (OpsL.keepS ⟨[(5, _), (11, _), (17, _), (18, _), (106, B x_29), (109, .opt x_29 (.one (.bool (decide (x_28.E = 2)))))], [(109, _)]⟩ rfl (CgT x_29 [109] (fun g42 => ⟨g42, trivial⟩) (fun g42 => om) (OpsL.consG (x_29 && (decide (x_28.E = 2))) 99 [] (.under rfl) (and_t _ _) rfl rfl (fun g43 => by exact trivial) (fun g43 => om) ?_)))))
    refine OpsL.consG (x_29 && (decide (x_28.E = 2))) 99 [111] (.under rfl) (and_t _ _) rfl rfl (fun g44 => ⟨g44, trivial⟩) (fun g44 => op_len_e' und50 rfl (List.length_map _)) (OpsL.consG (x_29 && (decide (x_28.E = 2))) 99 [112] (.under rfl) (and_t _ _) rfl rfl (fun g45 => ⟨g45, trivial⟩) (fun g45 => op_gtr rfl rfl) (CgT x_29 [110] (fun g46 => ⟨g46, trivial⟩) (fun g46 => op_pick_and (fun e => by rw [g46, e]; rfl) rfl rfl rfl rfl) (CgT x_29 [114] (fun g47 => ⟨g47, trivial⟩) (fun g47 => om) (OpsL.consG (x_29 && !((decide (x_28.E = 2)) && (decide (100000 < (out_11.length : Int))))) 99 [] (.under rfl) (and_f _ _) rfl rfl (fun g48 => by exact trivial) (fun g48 => lp tyAgg46) (OpsL.keepS ⟨[(5, _), (17, _), (106, _), (115, .opt x_29 (.one (.bool ((decide (x_28.E = 2)) && (decide (100000 < (out_11.length : Int))))))), (116, .opt (x_29 && !((decide (x_28.E = 2)) && (decide (100000 < (out_11.length : Int))))) (.agg (eProblem x_28)))], []⟩ rfl ?_)))))
    refine OpsL.consG (x_29 && !((decide (x_28.E = 2)) && (decide (100000 < (out_11.length : Int))))) 99 [] (.under rfl) (and_f _ _) rfl rfl (fun g49 => trivial) (fun g49 => op_build tyBuild46 rfl rfl) (OpsL.consG (x_29 && !((decide (x_28.E = 2)) && (decide (100000 < (out_11.length : Int))))) 99 [116, 117] (.under rfl) (and_f _ _) rfl rfl (fun g50 => ⟨g50, g50, trivial⟩) (fun g50 => op_eql_agg (eqAgg46 x_28 (⟨0, 0⟩ : Problem)) rfl rfl) (OpsL.consG (x_29 && !((decide (x_28.E = 2)) && (decide (100000 < (out_11.length : Int))))) 99 [118] (.under rfl) (and_f _ _) rfl rfl (fun g51 => ⟨g51, trivial⟩) (fun g51 => om) (OpsL.consG ((x_29 && !((decide (x_28.E = 2)) && (decide (100000 < (out_11.length : Int))))) && (decide (x_28 = (⟨0, 0⟩ : Problem)))) 99 [] (.under rfl) (and_t _ _) rfl rfl (fun g52 => trivial) (fun g52 => om) (OpsL.consG ((x_29 && !((decide (x_28.E = 2)) && (decide (100000 < (out_11.length : Int))))) && (decide (x_28 = (⟨0, 0⟩ : Problem)))) 99 [] (.under rfl) (and_t _ _) rfl rfl (fun g53 => trivial) (fun g53 => om) ?_))))
    obtain ⟨x_30, e55, h⟩ := bnd h
    refine OpsL.consG ((x_29 && !((decide (x_28.E = 2)) && (decide (100000 < (out_11.length : Int))))) && (decide (x_28 = (⟨0, 0⟩ : Problem)))) 99 [120, 121] (.under rfl) (and_t _ _) rfl rfl (fun g54 => ⟨g54, g54, trivial⟩) (fun g54 => op_call0 (skewbackref28_Same_spec (gc e55 g54)) goes14 rfl rfl) (OpsL.keepS ⟨[(106, _), (115, _), (119, .opt (x_29 && !((decide (x_28.E = 2)) && (decide (100000 < (out_11.length : Int))))) (.one (.bool (decide (x_28 = (⟨0, 0⟩ : Problem)))))), (122, .opt ((x_29 && !((decide (x_28.E = 2)) && (decide (100000 < (out_11.length : Int))))) && (decide (x_28 = (⟨0, 0⟩ : Problem)))) (.one (.bool x_30)))], []⟩ rfl (OpsL.consG (x_29 && !((decide (x_28.E = 2)) && (decide (100000 < (out_11.length : Int))))) 99 [119] (.under rfl) (and_f _ _) rfl rfl (fun g56 => ⟨g56, trivial⟩) (fun g56 => op_pick_and (fun e => by rw [g56, e]; rfl) rfl rfl rfl rfl) (CgT x_29 [115] (fun g57 => ⟨g57, trivial⟩) (fun g57 => op_pick_or (fun e => by rw [g57, e]; rfl) rfl rfl rfl rfl) (OpsL.consB h rfl (op_pick_and (fun e => e) rfl rfl rfl rfl) (fun x_31 h => ?_)))))
    refine Oc oa (OpsL.nilS ⟨[(4, B x_31)], []⟩ rfl (Tri.ret ?_))
    obtain rfl := Option.some.inj h
    refine Fin.keepS ⟨[(4, _)], []⟩ rfl (Fin.result' [.one (.bool x_31)] (.inl rfl) rfl (.cons (.tmp rfl) .nil) ⟨rfl, rfl⟩)
end Go.Proofs.YtbcdabflmkgkiaaGreatDoor

