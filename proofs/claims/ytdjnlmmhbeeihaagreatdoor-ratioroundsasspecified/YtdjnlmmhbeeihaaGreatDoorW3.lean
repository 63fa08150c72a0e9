/- printed walks -/
import Derived.Test.YtdjnlmmhbeeihaaGreatDoorW2
namespace Go.Proofs.YtdjnlmmhbeeihaaGreatDoor
open Go.Sk
set_option maxHeartbeats 1000000
set_option maxRecDepth 4000
set_option linter.unusedSimpArgs false
set_option linter.unusedVariables false
variable {mx : Int}
def whole_Text_S (F : Nat) (x0 : Big) : Option Str :=
 (whole_good_S F [x0]).bind fun x_1 => if (!x_1) = true then (some []) else (Option.bind (iter F (un2 fun parts_3 w_4 => Option.bind (whole_short_S F w_4 1000000000) (un2 fun x_6 x_7 => (strconv_Itoa_S F (IntKind.i64.wrap x_7)).bind fun x_8 => if (decide (x_6 = A16.zero)) = true then ((app? parts_3 [x_8]).bind fun x_9 => some (.inr x_9)) else (letN (IntKind.i64.wrap (9 - (x_8.length : Int))) fun x_10 => (strings_Repeat_S F [48] x_10).bind fun x_11 => (app? x_11 x_8).bind fun x_12 => (app? parts_3 [x_12]).bind fun x_13 => some (.inl (x_13, x_6))))) ([], x0.W)) (fun parts_2 => Option.bind (if x0.Neg = true then ((app? parts_2 [[45]]).bind fun x_15 => some x_15) else (some parts_2)) (fun parts_14 => (slices_Reverse_S F parts_14).bind fun x_16 => (strings_Join_S F x_16 []).bind fun x_17 => some x_17)))
theorem whole_Text_spec {F : Nat} {x0 : Big} {r : Str} (h : whole_Text_S F x0 = some r) : Meets Tryz.prog (tabs mx) 109 [] [.agg (eBig x0)] (Is [] (.b (.one (.str r)))) := by
 unfold whole_Text_S at h
 refine Meets.intro 49 Tryz.func109 Tryz.ntmps109 rfl (by simp) fun E => ?_
 show Tri _ E ⟨49, [], []⟩ _ ⟨[(0, .b (.agg (eBig x0)))], []⟩ _
 refine Tri.seq (Tri.regionL ?_)
 refine Oc rfl (op_box (k := 101) rfl rfl) (Oc rfl (op_assign rfl) ?_)
 refine OpsL.nilS ⟨[(1, Pt 101 0)], [(101, .box 25 (eBig x0))]⟩ rfl (Tri.seq (Tri.seq (Tri.regionL ?_)))
 refine Oc rfl (op_load_p tyAgg25 rfl rfl rfl rfl) (Oc rfl (op_buildSlice (k := 102) (es := [x0].map eBig) tySl117 rfl rfl (uni_map fun _ => rfl) rfl (by decide) (by decide) rfl) ?_)
 obtain ⟨x_1, e1, h⟩ := bnd h
 refine Oc rfl (op_callB (whole_good_spec e1) goes113 rfl CP.flat_bool) (Oc rfl (op_not rfl) ?_)
 refine OpsL.nilS ⟨[(1, Pt 101 0), (11, B (!x_1))], [(101, .box 25 (eBig x0))]⟩ rfl (Tri.ite h rfl (fun _ h => ?_) (fun _ h => ?_))
 ·refine Tri.seq (Tri.regionL ?_)
  refine Oc rfl (op_assign rfl) (OpsL.nilS ⟨[(2, .b (.one (.str [])))], []⟩ rfl (Tri.ret (Fin.then_ret ?_)))
  obtain rfl := Option.some.inj h
  refine Fin.keepS ⟨[(2, .b (.one (.str [])))], []⟩ rfl (Fin.result' [.one (.str [])] (.inl rfl) rfl (.cons (.tmp rfl) .nil) ⟨rfl, rfl⟩)
 ·refine Tri.skip (Fin.keepS ⟨[(1, Pt 101 0)], [(101, .box 25 (eBig x0))]⟩ rfl (Fin.then (Tri.seq (Tri.regionL ?_))))
  refine Oc rfl (op_assign rfl) (OpsL.nilS ⟨[(1, Pt 101 0), (3, .b (.one (.nil)))], [(101, .box 25 (eBig x0))]⟩ rfl ?_)
  obtain ⟨v2, h3, h⟩ := bnd h
  refine Tri.seqJ (v := v2) (fun (parts_2 : List Str) => ⟨[(1, Pt 101 0), (3, .b (.row 108))], [(101, .box 25 (eBig x0)), (108, .row 9 1 (parts_2.map eS))]⟩) (fun z => z) ?_ ?_
  ·refine Tri.seq (Tri.regionL ?_)
   refine Oc rfl (op_field_p tyFld25_2 rfl rfl) (Oc rfl (op_load_p tyAgg23 rfl rfl rfl rfl) (Oc rfl (op_alloc (k := 103) tyZero23 rfl) (Oc rfl (op_store_p tyAgg23 rfl rfl rfl rfl (Nat.le_of_ble_eq_true rfl) rfl) ?_)))
   refine OpsL.nilS ⟨[(1, Pt 101 0), (3, .b (.one (.nil))), (4, Pt 103 0)], [(101, .box 25 (eBig x0)), (103, .box 23 (eW x0.W))]⟩ rfl (Tri.block (Tri.nilrow 3 108 1 9 rfl (by decide) rfl (Tri.loopJ h3 (un2 fun (parts_3 : List Str) (w_4 : A16) => ⟨[(1, Pt 101 0), (3, .b (.row 108)), (4, Pt 103 0)], [(101, .box 25 (eBig x0)), (103, .box 23 (eW w_4)), (108, .row 9 1 (parts_3.map eS))]⟩) [1, 3, 4] [101, 103, 108] rfl ?_)))
   rintro ⟨parts_3, w_4⟩ o4 h5 hy6
   refine Tri.seq (Tri.block (Tri.seq (Tri.regionL ?_)))
   refine Oc rfl (op_load_p tyAgg23 rfl rfl rfl rfl) ?_
   obtain ⟨⟨x_6, x_7⟩, e7, h5⟩ := bnd h5
   refine Oc rfl (op_call0 (whole_short_spec e7) goes134 rfl rfl) (Oc rfl (op_move rfl) (Oc rfl (op_extract rfl rfl) (Oc rfl (op_extract rfl rfl) ?_)))
   refine OpsL.keepS ⟨[(1, Pt 101 0), (3, .b (.row 108)), (4, Pt 103 0), (17, .b (.agg (eW x_6))), (18, .b (.one (.int .u32 x_7)))], [(101, .box 25 (eBig x0)), (103, .box 23 (eW w_4)), (108, .row 9 1 (parts_3.map eS))]⟩ rfl (Oc rfl (op_alloc (k := 109) tyZero23 rfl) (Oc rfl (op_store_p tyAgg23 rfl rfl rfl rfl (Nat.le_of_ble_eq_true rfl) rfl) (Oc rfl (op_assign rfl) ?_)))
   refine OpsL.nilS ⟨[(1, Pt 101 0), (3, .b (.row 108)), (4, Pt 103 0), (5, Pt 109 0), (6, .b (.one (.int .u32 x_7)))], [(101, .box 25 (eBig x0)), (103, .box 23 (eW w_4)), (108, .row 9 1 (parts_3.map eS)), (109, .box 23 (eW x_6))]⟩ rfl (Tri.seq (Tri.regionL ?_))
   refine Oc rfl (op_move rfl) (Oc rfl (op_conv_wrap undi22 undi3 rfl) ?_)
   obtain ⟨x_8, e8, h5⟩ := bnd h5
   refine Oc rfl (op_call0 (strconv_Itoa_spec e8) goes135 rfl rfl) (Oc rfl (op_assign rfl) ?_)
   refine OpsL.nilS ⟨[(1, Pt 101 0), (3, .b (.row 108)), (4, Pt 103 0), (5, Pt 109 0), (7, .b (.one (.str x_8)))], [(101, .box 25 (eBig x0)), (103, .box 23 (eW w_4)), (108, .row 9 1 (parts_3.map eS)), (109, .box 23 (eW x_6))]⟩ rfl (Tri.seq (Tri.seq (Tri.regionL ?_)))
   refine Oc rfl (op_load_p tyAgg23 rfl rfl rfl rfl) (Oc rfl (op_buildA tyBuild23 rfl rfl) (Oc rfl (op_eql_agg (eqAgg23 x_6 A16.zero) rfl rfl) ?_))
   refine OpsL.nilS ⟨[(1, Pt 101 0), (3, .b (.row 108)), (4, Pt 103 0), (5, Pt 109 0), (7, .b (.one (.str x_8))), (24, B (decide (x_6 = A16.zero)))], [(101, .box 25 (eBig x0)), (103, .box 23 (eW w_4)), (108, .row 9 1 (parts_3.map eS)), (109, .box 23 (eW x_6))]⟩ rfl (Tri.ite h5 rfl (fun _ h5 => ?_) (fun _ h5 => ?_))
   ·refine Tri.seq (Tri.regionL ?_)
    refine Oc rfl (op_move rfl) (Oc rfl (op_move rfl) (Oc rfl (op_buildSlice (k := 110) (es := [x_8].map eS) tySl111 rfl rfl (uni_map fun _ => rfl) rfl (by decide) (by decide) rfl) ?_))
    obtain ⟨x_9, e9, h5⟩ := bnd h5
    refine Oc rfl (op_append_r tySl111 (app_b e9) (app_m e9) rfl rfl rfl rfl (app_map e9) rfl) (Oc rfl (op_assign rfl) ?_)
    refine OpsL.nilS ⟨[(1, Pt 101 0), (3, .b (.row 108))], [(101, .box 25 (eBig x0)), (108, .row 9 1 (x_9.map eS))]⟩ rfl (Tri.exit (Fin.then_exit (Fin.block_exit_other (by decide) (Fin.then_exit ?_))))
    obtain rfl := hy6 _ (Option.some.inj h5).symm
    refine Fin.then_exit (Fin.block_exit ?_)
    exact Fin.join [1, 3] [101, 108] x_9 rfl rfl
   ·refine Tri.skip (Fin.keepS ⟨[(1, Pt 101 0), (3, .b (.row 108)), (4, Pt 103 0), (5, Pt 109 0), (7, .b (.one (.str x_8)))], [(101, .box 25 (eBig x0)), (103, .box 23 (eW w_4)), (108, .row 9 1 (parts_3.map eS)), (109, .box 23 (eW x_6))]⟩ rfl (Fin.then (Tri.seq (Tri.regionL ?_))))
    refine Oc rfl (op_move rfl) (Oc rfl (op_move rfl) (Oc rfl (op_len_str und9 rfl) ?_))
    refine OpsL.consI .i64 h5 rfl (op_sub rfl rfl) (fun x_10 h5 => ?_)
    refine OpsL.keepS ⟨[(1, Pt 101 0), (3, .b (.row 108)), (4, Pt 103 0), (5, Pt 109 0), (7, .b (.one (.str x_8))), (29, .b (.row 108)), (32, I x_10)], [(101, .box 25 (eBig x0)), (103, .box 23 (eW w_4)), (108, .row 9 1 (parts_3.map eS)), (109, .box 23 (eW x_6))]⟩ rfl ?_
    obtain ⟨x_11, e10, h5⟩ := bnd h5
    refine Oc rfl (op_call0 (strings_Repeat_spec e10) goes136 rfl rfl) (Oc rfl (op_move rfl) ?_)
    obtain ⟨x_12, e11, h5⟩ := bnd h5
    refine Oc rfl (op_add_str2 e11 rfl rfl) (Oc rfl (op_buildSlice (k := 111) (es := [x_12].map eS) tySl111 rfl rfl (uni_map fun _ => rfl) rfl (by decide) (by decide) rfl) ?_)
    obtain ⟨x_13, e12, h5⟩ := bnd h5
    refine Oc rfl (op_append_r tySl111 (app_b e12) (app_m e12) rfl rfl rfl rfl (app_map e12) rfl) (Oc rfl (op_assign rfl) ?_)
    refine OpsL.nilS ⟨[(1, Pt 101 0), (3, .b (.row 108)), (4, Pt 103 0), (5, Pt 109 0)], [(101, .box 25 (eBig x0)), (103, .box 23 (eW w_4)), (108, .row 9 1 (x_13.map eS)), (109, .box 23 (eW x_6))]⟩ rfl (Tri.regionL (Oc rfl (op_load_p tyAgg23 rfl rfl rfl rfl) (Oc rfl (op_store_p tyAgg23 rfl rfl rfl rfl (Nat.le_of_ble_eq_true rfl) rfl) ?_)))
    refine OpsL.nil (Fin.block_normal (Fin.keepS ⟨[(1, Pt 101 0), (3, .b (.row 108)), (4, Pt 103 0)], [(101, .box 25 (eBig x0)), (103, .box 23 (eW x_6)), (108, .row 9 1 (x_13.map eS))]⟩ rfl (Fin.then (Tri.seq (Tri.regionL ?_)))))
    refine Oc rfl (op_load_p tyAgg23 rfl rfl rfl rfl) (OpsL.nilS ⟨[(1, Pt 101 0), (3, .b (.row 108)), (39, .b (.agg (eW x_6)))], [(101, .box 25 (eBig x0)), (108, .row 9 1 (x_13.map eS))]⟩ rfl (Tri.regionL (Oc rfl (op_alloc (k := 112) tyZero23 rfl) (Oc rfl (op_store_p tyAgg23 rfl rfl rfl rfl (Nat.le_of_ble_eq_true rfl) rfl) ?_))))
    refine OpsL.nil (Fin.keepS ⟨[(1, Pt 101 0), (3, .b (.row 108)), (4, Pt 112 0)], [(101, .box 25 (eBig x0)), (108, .row 9 1 (x_13.map eS)), (112, .box 23 (eW x_6))]⟩ rfl (Fin.rename 112 103 rfl (by decide) rfl ?_))
    exact Fin.againJ [1, 3, 4] [101, 103, 108] (x_13, x_6) (Option.some.inj h5) rfl
  ·rintro parts_2 hv
   subst v2
   obtain ⟨v13, h14, h⟩ := bnd h
   refine Tri.seqJ (v := v13) (fun (parts_14 : List Str) => ⟨[(3, .b (.row 108))], [(108, .row 9 1 (parts_14.map eS))]⟩) (fun z => z) ?_ ?_
   ·refine Tri.seq (Tri.regionL ?_)
    refine Oc rfl (op_field_p tyFld25_1 rfl rfl) (Oc rfl (op_load_p1 tyOne4 rfl rfl rfl) ?_)
    refine OpsL.nilS ⟨[(3, .b (.row 108)), (41, B x0.Neg)], [(108, .row 9 1 (parts_2.map eS))]⟩ rfl (Tri.ite h14 rfl (fun _ h14 => ?_) (fun _ h14 => ?_))
    ·refine Tri.regionL (Oc rfl (op_move rfl) (Oc rfl (op_buildSlice (k := 113) (es := [[45]].map eS) tySl111 rfl rfl (uni_map fun _ => rfl) rfl (by decide) (by decide) rfl) ?_))
     obtain ⟨x_15, e15, h14⟩ := bnd h14
     refine Oc rfl (op_append_r tySl111 (app_b e15) (app_m e15) rfl rfl rfl rfl (app_map e15) rfl) (Oc rfl (op_assign rfl) ?_)
     refine OpsL.nil ?_
     exact Fin.join [3] [108] x_15 (Option.some.inj h14) rfl
    ·refine Tri.skip ?_
     exact Fin.join [3] [108] parts_2 (Option.some.inj h14) rfl
   ·rintro parts_14 hv
    subst v13
    refine Tri.seq (Tri.regionL ?_)
    refine Oc rfl (op_move rfl) (OpsL.toF 108 rfl ?_)
    obtain ⟨x_16, e16, h⟩ := bnd h
    refine Oc rfl (op_call (own_a := [(108, _)]) ((slices_Reverse_spec e16).sw 1 108) goes137 rfl ⟨rfl, trivial⟩ rfl rfl) (OpsL.unF 108 rfl (OpsL.nilS ⟨[(3, .b (.row 108))], [(108, .row 9 1 (x_16.map eS))]⟩ rfl (Tri.seq (Tri.regionL ?_))))
    refine Oc rfl (op_move rfl) ?_
    obtain ⟨x_17, e17, h⟩ := bnd h
    refine Oc rfl (op_callB (strings_Join_spec e17) goes138 rfl CP.flat_str) (Oc rfl (op_assign rfl) ?_)
    refine OpsL.nilS ⟨[(2, .b (.one (.str x_17)))], []⟩ rfl (Tri.ret ?_)
    obtain rfl := Option.some.inj h
    refine Fin.keepS ⟨[(2, .b (.one (.str x_17)))], []⟩ rfl (Fin.result' [.one (.str x_17)] (.inl rfl) rfl (.cons (.tmp rfl) .nil) ⟨rfl, rfl⟩)
def ratio_Text_S (F : Nat) (x0 : Frc) : Option Str :=
 (ratio_Good_S F x0).bind fun x_1 => if (!x_1) = true then (some []) else ((ratio_one_S F).bind fun x_2 => if (decide (x0.D = x_2)) = true then ((whole_Text_S F x0.N).bind fun x_3 => some x_3) else ((whole_Text_S F x0.N).bind fun x_4 => (app? x_4 [47]).bind fun x_5 => (whole_Text_S F x0.D).bind fun x_6 => (app? x_5 x_6).bind fun x_7 => some x_7))
theorem ratio_Text_spec {F : Nat} {x0 : Frc} {r : Str} (h : ratio_Text_S F x0 = some r) : Meets Tryz.prog (tabs mx) 54 [] [.agg (eFrc x0)] (Is [] (.b (.one (.str r)))) := by
 unfold ratio_Text_S at h
 refine Meets.intro 23 Tryz.func54 Tryz.ntmps54 rfl (by simp) fun E => ?_
 show Tri _ E ⟨23, [], []⟩ _ ⟨[(0, .b (.agg (eFrc x0)))], []⟩ _
 refine Tri.seq (Tri.regionL ?_)
 refine Oc rfl (op_box (k := 101) rfl rfl) (Oc rfl (op_assign rfl) ?_)
 refine OpsL.nilS ⟨[(1, Pt 101 0)], [(101, .box 27 (eFrc x0))]⟩ rfl (Tri.seq (Tri.block (Tri.seq (Tri.regionL ?_))))
 refine Oc rfl (op_load_p tyAgg27 rfl rfl rfl rfl) ?_
 obtain ⟨x_1, e1, h⟩ := bnd h
 refine Oc rfl (op_call0 (ratio_Good_spec e1) goes26 rfl rfl) (Oc rfl (op_not rfl) (Oc rfl (op_assign rfl) ?_))
 refine OpsL.nilS ⟨[(1, Pt 101 0), (3, B (!x_1))], [(101, .box 27 (eFrc x0))]⟩ rfl (Tri.ite h rfl (fun _ h => ?_) (fun _ h => ?_))
 ·refine Tri.seq (Tri.regionL ?_)
  refine Oc rfl (op_assign rfl) (OpsL.nilS ⟨[(2, .b (.one (.str [])))], []⟩ rfl (Tri.ret (Fin.block_ret (Fin.then_ret ?_))))
  obtain rfl := Option.some.inj h
  refine Fin.keepS ⟨[(2, .b (.one (.str [])))], []⟩ rfl (Fin.result' [.one (.str [])] (.inl rfl) rfl (.cons (.tmp rfl) .nil) ⟨rfl, rfl⟩)
 ·refine Tri.seq (Tri.keepS ⟨[(1, Pt 101 0)], [(101, .box 27 (eFrc x0))]⟩ rfl ?_)
  obtain ⟨x_2, e2, h⟩ := bnd h
  refine Tri.regionY mixed 5 [Pt 101 18, .b (.agg (eBig x0.D)), .b (.agg (eBig x_2)), B (decide (x0.D = x_2)), B (decide (x0.D = x_2))] [1, 7] [101] (s' := ⟨[(1, Pt 101 0), (7, B (decide (x0.D = x_2)))], [(101, .box 27 (eFrc x0))]⟩) rfl ⟨fun _ => .plain rfl (op_field_p tyFld27_1 rfl rfl), fun _ => .plain rfl (op_load_p tyAgg25 rfl rfl rfl rfl), fun _ => .plain rfl (op_call0 (ratio_one_spec e2) goes90 rfl rfl), fun _ => .plain rfl (op_eql_agg (eqAgg25 x0.D x_2) rfl rfl), fun _ => .plain rfl (op_assign rfl), trivial⟩ rfl rfl (Tri.ite h rfl (fun _ h => ?_) (fun _ h => ?_))
  ·refine Tri.seq (Tri.regionL ?_)
   refine Oc rfl (op_field_p tyFld27_0 rfl rfl) (Oc rfl (op_load_p tyAgg25 rfl rfl rfl rfl) ?_)
   obtain ⟨x_3, e3, h⟩ := bnd h
   refine Oc rfl (op_call0 (whole_Text_spec e3) goes109 rfl rfl) (Oc rfl (op_assign rfl) ?_)
   refine OpsL.nilS ⟨[(2, .b (.one (.str x_3)))], []⟩ rfl (Tri.ret (Fin.block_ret (Fin.then_ret ?_)))
   obtain rfl := Option.some.inj h
   refine Fin.keepS ⟨[(2, .b (.one (.str x_3)))], []⟩ rfl (Fin.result' [.one (.str x_3)] (.inl rfl) rfl (.cons (.tmp rfl) .nil) ⟨rfl, rfl⟩)
  ·refine Tri.skip (Fin.block_normal (Fin.keepS ⟨[(1, Pt 101 0)], [(101, .box 27 (eFrc x0))]⟩ rfl (Fin.then (Tri.seq ?_))))
   refine Tri.keepS ⟨[(1, Pt 101 0)], [(101, .box 27 (eFrc x0))]⟩ rfl ?_
   obtain ⟨x_4, e4, h⟩ := bnd h
   obtain ⟨x_5, e5, h⟩ := bnd h
   obtain ⟨x_6, e6, h⟩ := bnd h
   obtain ⟨x_7, e7, h⟩ := bnd h
   refine Tri.regionY mixed 9 [Pt 101 0, .b (.agg (eBig x0.N)), .b (.one (.str x_4)), .b (.one (.str x_5)), Pt 101 18, .b (.agg (eBig x0.D)), .b (.one (.str x_6)), .b (.one (.str x_7)), .b (.one (.str x_7))] [2] [] (s' := ⟨[(2, .b (.one (.str x_7)))], []⟩) rfl ⟨fun _ => .plain rfl (op_field_p tyFld27_0 rfl rfl), fun _ => .plain rfl (op_load_p tyAgg25 rfl rfl rfl rfl), fun _ => .plain rfl (op_call0 (whole_Text_spec e4) goes109 rfl rfl), fun _ => .plain rfl (op_add_str2 e5 rfl rfl), fun _ => .plain rfl (op_field_p tyFld27_1 rfl rfl), fun _ => .plain rfl (op_load_p tyAgg25 rfl rfl rfl rfl), fun _ => .plain rfl (op_call0 (whole_Text_spec e6) goes109 rfl rfl), fun _ => .plain rfl (op_add_str2 e7 rfl rfl), fun _ => .plain rfl (op_assign rfl), trivial⟩ rfl rfl (Tri.ret ?_)
   obtain rfl := Option.some.inj h
   refine Fin.keepS ⟨[(2, .b (.one (.str x_7)))], []⟩ rfl (Fin.result' [.one (.str x_7)] (.inl rfl) rfl (.cons (.tmp rfl) .nil) ⟨rfl, rfl⟩)
def l4_text_S (F : Nat) (x0 : Frc) (s0 : Str) : Option Bool :=
 (ratio_Text_S F x0).bind fun x_1 => some (decide (x_1 = s0))
theorem l4_text_spec {F : Nat} {x0 : Frc} {s0 : Str} {r : Bool} (h : l4_text_S F x0 s0 = some r) : Meets Tryz.prog (tabs mx) 87 [] [.agg (eFrc x0), .one (.str s0)] (Is [] (.b (.one (.bool r)))) := by
 unfold l4_text_S at h
 refine Meets.intro 9 Tryz.func87 Tryz.ntmps87 rfl (by simp) fun E => ?_
 show Tri _ E ⟨9, [], []⟩ _ ⟨[(0, .b (.agg (eFrc x0))), (1, .b (.one (.str s0)))], []⟩ _
 refine Tri.seq (Tri.regionL ?_)
 refine Oc rfl (op_box (k := 101) rfl rfl) (Oc rfl (op_assign rfl) ?_)
 refine OpsL.nilS ⟨[(1, .b (.one (.str s0))), (2, Pt 101 0)], [(101, .box 27 (eFrc x0))]⟩ rfl (Tri.seq (Tri.regionL ?_))
 refine Oc rfl (op_load_p tyAgg27 rfl rfl rfl rfl) ?_
 obtain ⟨x_1, e1, h⟩ := bnd h
 refine Oc rfl (op_call0 (ratio_Text_spec e1) goes54 rfl rfl) (Oc rfl (op_move rfl) (Oc rfl (op_eql_str rfl rfl) (Oc rfl (op_assign rfl) ?_)))
 refine OpsL.nilS ⟨[(4, B (decide (x_1 = s0)))], []⟩ rfl (Tri.ret ?_)
 obtain rfl := Option.some.inj h
 refine Fin.keepS ⟨[(4, B (decide (x_1 = s0)))], []⟩ rfl (Fin.result' [.one (.bool (decide (x_1 = s0)))] (.inl rfl) rfl (.cons (.tmp rfl) .nil) ⟨rfl, rfl⟩)
def whole_Mul_S (F : Nat) (a0 : Big) (b0 : Big) : Option Big :=
 (whole_good_S F [a0, b0]).bind fun x_1 => if (!x_1) = true then ((whole_Bad_S F).bind fun x_2 => some x_2) else ((whole_size_S F a0.W).bind fun x_3 => (whole_size_S F b0.W).bind fun x_4 => Option.bind (iter F (un2 fun out_6 x_7 => if (decide (x_7 < x_3)) = true then (Option.bind (Option.bind (iter F (un3 fun out_12 carry_13 x_14 => if (decide (x_14 < x_4)) = true then ((idx? a0.W.l x_7).bind fun x_17 => (idx? b0.W.l x_14).bind fun x_18 => (idx? out_12.l (IntKind.i64.wrap (x_7 + x_14))).bind fun x_19 => letN (IntKind.u64.wrap (carry_13 + (IntKind.u64.wrap ((IntKind.u64.wrap ((IntKind.u64.wrap x_17) * (IntKind.u64.wrap x_18))) + (IntKind.u64.wrap x_19))))) fun x_20 => (idx? out_12.l (IntKind.i64.wrap (x_7 + x_14))).bind fun x_21 => letN (IntKind.u64.wrap (carry_13 + (IntKind.u64.wrap ((IntKind.u64.wrap ((IntKind.u64.wrap x_17) * (IntKind.u64.wrap x_18))) + (IntKind.u64.wrap x_19))))) fun x_22 => some (.inl (out_12.set (IntKind.i64.wrap (x_7 + x_14)) (IntKind.u32.wrap x_20), x_22 / 4294967296, IntKind.i64.wrap (x_14 + 1)))) else (some (.inr (out_12, carry_13)))) (out_6, 0, 0)) (un2 fun out_10 carry_11 => (idx? out_10.l (IntKind.i64.wrap (x_7 + x_4))).bind fun x_23 => some (out_10.set (IntKind.i64.wrap (x_7 + x_4)) (IntKind.u32.wrap carry_11)))) (fun out_9 => some (.inl (out_9, IntKind.i64.wrap (x_7 + 1))))) else (some (.inr out_6))) (A32.zero, 0)) (fun out_5 => letN (⟨out_5.a16, out_5.a17, out_5.a18, out_5.a19, out_5.a20, out_5.a21, out_5.a22, out_5.a23, out_5.a24, out_5.a25, out_5.a26, out_5.a27, out_5.a28, out_5.a29, out_5.a30, out_5.a31⟩ : A16) fun x_24 => if (decide (x_24 ≠ A16.zero)) = true then ((whole_Bad_S F).bind fun x_25 => some x_25) else ((whole_signed_S F (a0.Neg != b0.Neg) (⟨out_5.a0, out_5.a1, out_5.a2, out_5.a3, out_5.a4, out_5.a5, out_5.a6, out_5.a7, out_5.a8, out_5.a9, out_5.a10, out_5.a11, out_5.a12, out_5.a13, out_5.a14, out_5.a15⟩ : A16)).bind fun x_26 => some x_26)))
theorem whole_Mul_spec {F : Nat} {a0 : Big} {b0 : Big} {r : Big} (h : whole_Mul_S F a0 b0 = some r) : Meets Tryz.prog (tabs mx) 102 [] [.agg (eBig a0), .agg (eBig b0)] (Is [] (.b (.agg (eBig r)))) := by
 unfold whole_Mul_S at h
 refine Meets.intro 82 Tryz.func102 Tryz.ntmps102 rfl (by simp) fun E => ?_
 show Tri _ E ⟨82, [], []⟩ _ ⟨[(0, .b (.agg (eBig a0))), (1, .b (.agg (eBig b0)))], []⟩ _
 refine Tri.seq (Tri.regionL ?_)
 refine Oc rfl (op_box (k := 101) rfl rfl) (Oc rfl (op_box (k := 102) rfl rfl) (Oc rfl (op_alloc (k := 103) tyZero25 rfl) ?_))
 refine OpsL.nilS ⟨[(2, Pt 101 0), (3, Pt 102 0), (4, Pt 103 0)], [(101, .box 25 (eBig a0)), (102, .box 25 (eBig b0)), (103, .box 25 zBig)]⟩ rfl (Tri.seq (Tri.seq (Tri.regionL ?_)))
 refine Oc rfl (op_load_p tyAgg25 rfl rfl rfl rfl) (Oc rfl (op_load_p tyAgg25 rfl rfl rfl rfl) (Oc rfl (op_buildSlice (k := 104) (es := [a0, b0].map eBig) tySl117 rfl rfl (uni_map fun _ => rfl) rfl (by decide) (by decide) rfl) ?_))
 obtain ⟨x_1, e1, h⟩ := bnd h
 refine Oc rfl (op_callB (whole_good_spec e1) goes113 rfl CP.flat_bool) (Oc rfl (op_not rfl) ?_)
 refine OpsL.nilS ⟨[(2, Pt 101 0), (3, Pt 102 0), (4, Pt 103 0), (15, B (!x_1))], [(101, .box 25 (eBig a0)), (102, .box 25 (eBig b0)), (103, .box 25 zBig)]⟩ rfl (Tri.ite h rfl (fun _ h => ?_) (fun _ h => ?_))
 ·refine Tri.seq (Tri.regionL ?_)
  obtain ⟨x_2, e2, h⟩ := bnd h
  refine Oc rfl (op_call0 (whole_Bad_spec e2) goes92 rfl rfl) (Oc rfl (op_store_p tyAgg25 rfl rfl rfl rfl (Nat.le_of_ble_eq_true rfl) rfl) ?_)
  refine OpsL.nilS ⟨[(4, Pt 103 0)], [(103, .box 25 (eBig x_2))]⟩ rfl (Tri.ret (Fin.then_ret ?_))
  obtain rfl := Option.some.inj h
  refine Fin.keepS ⟨[(4, Pt 103 0)], [(103, .box 25 (eBig x_2))]⟩ rfl (Fin.result' [.agg (eBig x_2)] (.inl rfl) rfl (.cons (.agg tyAgg25 rfl rfl rfl rfl) .nil) ⟨rfl, rfl⟩)
 ·refine Tri.skip (Fin.keepS ⟨[(2, Pt 101 0), (3, Pt 102 0), (4, Pt 103 0)], [(101, .box 25 (eBig a0)), (102, .box 25 (eBig b0)), (103, .box 25 zBig)]⟩ rfl (Fin.then (Tri.seq (Tri.regionL ?_))))
  refine Oc rfl (op_alloc (k := 105) tyZero109 rfl) (OpsL.nilS ⟨[(2, Pt 101 0), (3, Pt 102 0), (4, Pt 103 0), (5, Pt 105 0)], [(101, .box 25 (eBig a0)), (102, .box 25 (eBig b0)), (103, .box 25 zBig), (105, .box 109 ((eA32 .u32) A32.zero))]⟩ rfl (Tri.seq ?_))
  obtain ⟨x_3, e3, h⟩ := bnd h
  obtain ⟨x_4, e4, h⟩ := bnd h
  refine Tri.regionY mixed 8 [Pt 101 2, .b (.agg (eW a0.W)), I x_3, Pt 102 2, .b (.agg (eW b0.W)), I x_4, I x_3, I x_4] [2, 3, 4, 5, 6, 7] [101, 102, 103, 105] (s' := ⟨[(2, Pt 101 0), (3, Pt 102 0), (4, Pt 103 0), (5, Pt 105 0), (6, I x_3), (7, I x_4)], [(101, .box 25 (eBig a0)), (102, .box 25 (eBig b0)), (103, .box 25 zBig), (105, .box 109 ((eA32 .u32) A32.zero))]⟩) rfl ⟨fun _ => .plain rfl (op_field_p tyFld25_2 rfl rfl), fun _ => .plain rfl (op_load_p tyAgg23 rfl rfl rfl rfl), fun _ => .plain rfl (op_call0 (whole_size_spec e3) goes114 rfl rfl), fun _ => .plain rfl (op_field_p tyFld25_2 rfl rfl), fun _ => .plain rfl (op_load_p tyAgg23 rfl rfl rfl rfl), fun _ => .plain rfl (op_call0 (whole_size_spec e4) goes114 rfl rfl), fun _ => .plain rfl (op_assign rfl), fun _ => .plain rfl (op_assign rfl), trivial⟩ rfl rfl ?_
  obtain ⟨v5, h6, h⟩ := bnd h
  refine Tri.seqJ (v := v5) (fun (out_5 : A32) => ⟨[(2, Pt 101 0), (3, Pt 102 0), (4, Pt 103 0), (5, Pt 105 0)], [(101, .box 25 (eBig a0)), (102, .box 25 (eBig b0)), (103, .box 25 zBig), (105, .box 109 ((eA32 .u32) out_5))]⟩) (fun z => z) ?_ ?_
  ·refine Tri.seq (Tri.regionL ?_)
   refine Oc rfl (op_move rfl) (Oc rfl (op_move rfl) ?_)
   refine OpsL.nilS ⟨[(2, Pt 101 0), (3, Pt 102 0), (4, Pt 103 0), (5, Pt 105 0), (7, I x_4), (23, I x_3), (24, I 0)], [(101, .box 25 (eBig a0)), (102, .box 25 (eBig b0)), (103, .box 25 zBig), (105, .box 109 ((eA32 .u32) A32.zero))]⟩ rfl (Tri.block (Tri.loopJ h6 (un2 fun (out_6 : A32) (x_7 : Int) => ⟨[(2, Pt 101 0), (3, Pt 102 0), (4, Pt 103 0), (5, Pt 105 0), (7, I x_4), (23, I x_3), (24, I x_7)], [(101, .box 25 (eBig a0)), (102, .box 25 (eBig b0)), (103, .box 25 zBig), (105, .box 109 ((eA32 .u32) out_6))]⟩) [2, 3, 4, 5, 7, 23, 24] [101, 102, 103, 105] rfl ?_))
   rintro ⟨out_6, x_7⟩ o7 h8 hy9
   refine Tri.seq (Tri.regionL ?_)
   refine Oc rfl (op_lss rfl rfl) (OpsL.nilS ⟨[(2, Pt 101 0), (3, Pt 102 0), (4, Pt 103 0), (5, Pt 105 0), (7, I x_4), (23, I x_3), (24, I x_7), (25, B (decide (x_7 < x_3)))], [(101, .box 25 (eBig a0)), (102, .box 25 (eBig b0)), (103, .box 25 zBig), (105, .box 109 ((eA32 .u32) out_6))]⟩ rfl (Tri.seq (Tri.ite h8 rfl (fun _ h8 => ?_) (fun _ h8 => ?_))))
   ·refine Tri.skip (Fin.keepS ⟨[(2, Pt 101 0), (3, Pt 102 0), (4, Pt 103 0), (5, Pt 105 0), (7, I x_4), (23, I x_3), (24, I x_7)], [(101, .box 25 (eBig a0)), (102, .box 25 (eBig b0)), (103, .box 25 zBig), (105, .box 109 ((eA32 .u32) out_6))]⟩ rfl (Fin.then ?_))
    obtain ⟨v10, h11, h8⟩ := bnd h8
    refine Tri.seqJ (v := v10) (fun (out_9 : A32) => ⟨[(2, Pt 101 0), (3, Pt 102 0), (4, Pt 103 0), (5, Pt 105 0), (7, I x_4), (23, I x_3), (24, I x_7)], [(101, .box 25 (eBig a0)), (102, .box 25 (eBig b0)), (103, .box 25 zBig), (105, .box 109 ((eA32 .u32) out_9))]⟩) (fun z => z) ?_ ?_
    ·refine Tri.block (Tri.seq (Tri.regionL ?_))
     refine Oc rfl (op_move rfl) (Oc rfl (op_assign rfl) ?_)
     refine OpsL.nilS ⟨[(2, Pt 101 0), (3, Pt 102 0), (4, Pt 103 0), (5, Pt 105 0), (7, I x_4), (8, I x_7), (23, I x_3), (24, I x_7)], [(101, .box 25 (eBig a0)), (102, .box 25 (eBig b0)), (103, .box 25 zBig), (105, .box 109 ((eA32 .u32) out_6))]⟩ rfl (Tri.seq (Tri.regionL ?_))
     refine Oc rfl (op_assign rfl) (OpsL.nilS ⟨[(2, Pt 101 0), (3, Pt 102 0), (4, Pt 103 0), (5, Pt 105 0), (7, I x_4), (8, I x_7), (9, .b (.one (.int .u64 0))), (23, I x_3), (24, I x_7)], [(101, .box 25 (eBig a0)), (102, .box 25 (eBig b0)), (103, .box 25 zBig), (105, .box 109 ((eA32 .u32) out_6))]⟩ rfl ?_)
     obtain ⟨v12, h13, h11⟩ := bnd h11
     refine Tri.seqJ (v := v12) (un2 fun (out_10 : A32) (carry_11 : Int) => ⟨[(2, Pt 101 0), (3, Pt 102 0), (4, Pt 103 0), (5, Pt 105 0), (7, I x_4), (8, I x_7), (9, .b (.one (.int .u64 carry_11))), (23, I x_3), (24, I x_7)], [(101, .box 25 (eBig a0)), (102, .box 25 (eBig b0)), (103, .box 25 zBig), (105, .box 109 ((eA32 .u32) out_10))]⟩) (fun z => z) ?_ ?_
     ·refine Tri.seq (Tri.regionL ?_)
      refine Oc rfl (op_move rfl) (Oc rfl (op_move rfl) ?_)
      refine OpsL.nilS ⟨[(2, Pt 101 0), (3, Pt 102 0), (4, Pt 103 0), (5, Pt 105 0), (7, I x_4), (8, I x_7), (9, .b (.one (.int .u64 0))), (23, I x_3), (24, I x_7), (27, I x_4), (28, I 0)], [(101, .box 25 (eBig a0)), (102, .box 25 (eBig b0)), (103, .box 25 zBig), (105, .box 109 ((eA32 .u32) out_6))]⟩ rfl (Tri.block (Tri.loopJ h13 (un3 fun (out_12 : A32) (carry_13 : Int) (x_14 : Int) => ⟨[(2, Pt 101 0), (3, Pt 102 0), (4, Pt 103 0), (5, Pt 105 0), (7, I x_4), (8, I x_7), (9, .b (.one (.int .u64 carry_13))), (23, I x_3), (24, I x_7), (27, I x_4), (28, I x_14)], [(101, .box 25 (eBig a0)), (102, .box 25 (eBig b0)), (103, .box 25 zBig), (105, .box 109 ((eA32 .u32) out_12))]⟩) [2, 3, 4, 5, 7, 8, 9, 23, 24, 27, 28] [101, 102, 103, 105] rfl ?_))
      rintro ⟨out_12, carry_13, x_14⟩ o14 h15 hy16
      refine Tri.seq (Tri.regionL ?_)
      refine Oc rfl (op_lss rfl rfl) (OpsL.nilS ⟨[(2, Pt 101 0), (3, Pt 102 0), (4, Pt 103 0), (5, Pt 105 0), (7, I x_4), (8, I x_7), (9, .b (.one (.int .u64 carry_13))), (23, I x_3), (24, I x_7), (27, I x_4), (28, I x_14), (29, B (decide (x_14 < x_4)))], [(101, .box 25 (eBig a0)), (102, .box 25 (eBig b0)), (103, .box 25 zBig), (105, .box 109 ((eA32 .u32) out_12))]⟩ rfl (Tri.seq (Tri.ite h15 rfl (fun _ h15 => ?_) (fun _ h15 => ?_))))
      ·refine Tri.skip (Fin.keepS ⟨[(2, Pt 101 0), (3, Pt 102 0), (4, Pt 103 0), (5, Pt 105 0), (7, I x_4), (8, I x_7), (9, .b (.one (.int .u64 carry_13))), (23, I x_3), (24, I x_7), (27, I x_4), (28, I x_14)], [(101, .box 25 (eBig a0)), (102, .box 25 (eBig b0)), (103, .box 25 zBig), (105, .box 109 ((eA32 .u32) out_12))]⟩ rfl (Fin.then (Tri.seq (Tri.block (Tri.seq (Tri.regionL ?_))))))
       refine Oc rfl (op_move rfl) (Oc rfl (op_assign rfl) ?_)
       refine OpsL.nilS ⟨[(2, Pt 101 0), (3, Pt 102 0), (4, Pt 103 0), (5, Pt 105 0), (7, I x_4), (8, I x_7), (9, .b (.one (.int .u64 carry_13))), (10, I x_14), (23, I x_3), (24, I x_7), (27, I x_4), (28, I x_14)], [(101, .box 25 (eBig a0)), (102, .box 25 (eBig b0)), (103, .box 25 zBig), (105, .box 109 ((eA32 .u32) out_12))]⟩ rfl (Tri.seq ?_)
       obtain ⟨x_17, e17, h15⟩ := bnd h15
       obtain ⟨x_18, e18, h15⟩ := bnd h15
       obtain ⟨x_19, e19, h15⟩ := bnd h15
       refine Tri.regionY mixed 20 [.b (.one (.int .u64 carry_13)), I x_7, Pt 101 2, .b (.ptr 101 (2 + (x_7 : Int).toNat * 1)), .b (.one (.int .u32 x_17)), .b (.one (.int .u64 (IntKind.u64.wrap x_17))), I x_14, Pt 102 2, .b (.ptr 102 (2 + (x_14 : Int).toNat * 1)), .b (.one (.int .u32 x_18)), .b (.one (.int .u64 (IntKind.u64.wrap x_18))), .b (.one (.int .u64 (IntKind.u64.wrap ((IntKind.u64.wrap x_17) * (IntKind.u64.wrap x_18))))), I x_7, I x_14, I (IntKind.i64.wrap (x_7 + x_14)), .b (.ptr 105 (0 + (IntKind.i64.wrap (x_7 + x_14) : Int).toNat * 1)), .b (.one (.int .u32 x_19)), .b (.one (.int .u64 (IntKind.u64.wrap x_19))), .b (.one (.int .u64 (IntKind.u64.wrap ((IntKind.u64.wrap ((IntKind.u64.wrap x_17) * (IntKind.u64.wrap x_18))) + (IntKind.u64.wrap x_19))))), .b (.one (.int .u64 (IntKind.u64.wrap (carry_13 + (IntKind.u64.wrap ((IntKind.u64.wrap ((IntKind.u64.wrap x_17) * (IntKind.u64.wrap x_18))) + (IntKind.u64.wrap x_19)))))))] [2, 3, 4, 5, 7, 8, 9, 10, 23, 24, 27, 28] [101, 102, 103, 105] (s' := ⟨[(2, Pt 101 0), (3, Pt 102 0), (4, Pt 103 0), (5, Pt 105 0), (7, I x_4), (8, I x_7), (9, .b (.one (.int .u64 (IntKind.u64.wrap (carry_13 + (IntKind.u64.wrap ((IntKind.u64.wrap ((IntKind.u64.wrap x_17) * (IntKind.u64.wrap x_18))) + (IntKind.u64.wrap x_19)))))))), (10, I x_14), (23, I x_3), (24, I x_7), (27, I x_4), (28, I x_14)], [(101, .box 25 (eBig a0)), (102, .box 25 (eBig b0)), (103, .box 25 zBig), (105, .box 109 ((eA32 .u32) out_12))]⟩) rfl ⟨fun _ => .plain rfl (op_move rfl), fun _ => .plain rfl (op_move rfl), fun _ => .plain rfl (op_field_p tyFld25_2 rfl rfl), fun _ => .plain rfl (op_index_p tyArr23 (ix_lo e17) (ix_hi e17) rfl rfl rfl), fun _ => .plain rfl (op_load_p1 tyOne22 rfl rfl (arr_get (post := []) (k := .u32) [.bool a0.Bad, .bool a0.Neg] e17 rfl rfl rfl)), fun _ => .plain rfl (op_conv_wrap undi22 undi79 rfl), fun _ => .plain rfl (op_move rfl), fun _ => .plain rfl (op_field_p tyFld25_2 rfl rfl), fun _ => .plain rfl (op_index_p tyArr23 (ix_lo e18) (ix_hi e18) rfl rfl rfl), fun _ => .plain rfl (op_load_p1 tyOne22 rfl rfl (arr_get (post := []) (k := .u32) [.bool b0.Bad, .bool b0.Neg] e18 rfl rfl rfl)), fun _ => .plain rfl (op_conv_wrap undi22 undi79 rfl), fun _ => .plain rfl (op_mul rfl rfl), fun _ => .plain rfl (op_move rfl), fun _ => .plain rfl (op_move rfl), fun _ => .plain rfl (op_add rfl rfl), fun _ => .plain rfl (op_index_p tyArr109 (ix_lo e19) (ix_hi e19) rfl rfl rfl), fun _ => .plain rfl (op_load_p1 tyOne22 rfl rfl (arr_get (post := []) (k := .u32) [] e19 rfl rfl rfl)), fun _ => .plain rfl (op_conv_wrap undi22 undi79 rfl), fun _ => .plain rfl (op_add rfl rfl), fun _ => .plain rfl (op_add rfl rfl), trivial⟩ ⟨_, by exact .plain rfl (op_assign rfl), rfl⟩ rfl (Tri.seq (Tri.regionL ?_))
       refine Oc rfl (op_move rfl) (Oc rfl (op_move rfl) (Oc rfl (op_add rfl rfl) ?_))
       refine OpsL.consI .u64 h15 rfl (op_move rfl) (fun x_20 h15 => ?_)
       refine Oc rfl (op_conv_wrap undi79 undi22 rfl) ?_
       obtain ⟨x_21, e20, h15⟩ := bnd h15
       refine Oc rfl (op_index_p tyArr109 (ix_lo e20) (ix_hi e20) rfl rfl rfl) (Oc rfl (op_store_p1 tyOne22 rfl rfl rfl (arr_lt (post := []) (k := .u32) [] e20 rfl rfl rfl) (arr_set (post := []) (k := .u32) [] e20 rfl rfl (A32.set_l out_12 (IntKind.i64.wrap (x_7 + x_14)) (IntKind.u32.wrap x_20)) rfl rfl)) ?_)
       refine OpsL.nilS ⟨[(2, Pt 101 0), (3, Pt 102 0), (4, Pt 103 0), (5, Pt 105 0), (7, I x_4), (8, I x_7), (9, .b (.one (.int .u64 (IntKind.u64.wrap (carry_13 + (IntKind.u64.wrap ((IntKind.u64.wrap ((IntKind.u64.wrap x_17) * (IntKind.u64.wrap x_18))) + (IntKind.u64.wrap x_19)))))))), (23, I x_3), (24, I x_7), (27, I x_4), (28, I x_14)], [(101, .box 25 (eBig a0)), (102, .box 25 (eBig b0)), (103, .box 25 zBig), (105, .box 109 ((eA32 .u32) (out_12.set (IntKind.i64.wrap (x_7 + x_14)) (IntKind.u32.wrap x_20))))]⟩ rfl (Tri.regionL (OpsL.consI .u64 h15 rfl (op_move rfl) (fun x_22 h15 => ?_)))
       refine Oc rfl (op_shr2 (m := 32) (by decide) rfl rfl rfl) (Oc rfl (op_assign rfl) ?_)
       refine OpsL.nil (Fin.block_normal (Fin.keepS ⟨[(2, Pt 101 0), (3, Pt 102 0), (4, Pt 103 0), (5, Pt 105 0), (7, I x_4), (8, I x_7), (9, .b (.one (.int .u64 (x_22 / 4294967296)))), (23, I x_3), (24, I x_7), (27, I x_4), (28, I x_14)], [(101, .box 25 (eBig a0)), (102, .box 25 (eBig b0)), (103, .box 25 zBig), (105, .box 109 ((eA32 .u32) (out_12.set (IntKind.i64.wrap (x_7 + x_14)) (IntKind.u32.wrap x_20))))]⟩ rfl (Fin.then (Tri.regionL ?_))))
       refine Oc rfl (op_add rfl rfl) (Oc rfl (op_move rfl) ?_)
       refine OpsL.nil ?_
       exact Fin.againJ [2, 3, 4, 5, 7, 8, 9, 23, 24, 27, 28] [101, 102, 103, 105] (out_12.set (IntKind.i64.wrap (x_7 + x_14)) (IntKind.u32.wrap x_20), x_22 / 4294967296, IntKind.i64.wrap (x_14 + 1)) (Option.some.inj h15) rfl
      ·refine Tri.exit (Fin.then_exit ?_)
       obtain rfl := hy16 _ (Option.some.inj h15).symm
       refine Fin.then_exit (Fin.block_exit ?_)
       exact Fin.join [2, 3, 4, 5, 7, 8, 9, 23, 24] [101, 102, 103, 105] (out_12, carry_13) rfl rfl
     ·rintro ⟨out_10, carry_11⟩ hv
      subst v12
      refine Tri.regionL (Oc rfl (op_move rfl) (Oc rfl (op_move rfl) (Oc rfl (op_add rfl rfl) (Oc rfl (op_move rfl) (Oc rfl (op_conv_wrap undi79 undi22 rfl) ?_)))))
      obtain ⟨x_23, e21, h11⟩ := bnd h11
      refine Oc rfl (op_index_p tyArr109 (ix_lo e21) (ix_hi e21) rfl rfl rfl) (Oc rfl (op_store_p1 tyOne22 rfl rfl rfl (arr_lt (post := []) (k := .u32) [] e21 rfl rfl rfl) (arr_set (post := []) (k := .u32) [] e21 rfl rfl (A32.set_l out_10 (IntKind.i64.wrap (x_7 + x_4)) (IntKind.u32.wrap carry_11)) rfl rfl)) ?_)
      refine OpsL.nil (Fin.block_normal ?_)
      exact Fin.join [2, 3, 4, 5, 7, 23, 24] [101, 102, 103, 105] (out_10.set (IntKind.i64.wrap (x_7 + x_4)) (IntKind.u32.wrap carry_11)) (Option.some.inj h11) rfl
    ·rintro out_9 hv
     subst v10
     refine Tri.regionL (Oc rfl (op_add rfl rfl) (Oc rfl (op_move rfl) ?_))
     refine OpsL.nil ?_
     exact Fin.againJ [2, 3, 4, 5, 7, 23, 24] [101, 102, 103, 105] (out_9, IntKind.i64.wrap (x_7 + 1)) (Option.some.inj h8) rfl
   ·refine Tri.exit (Fin.then_exit ?_)
    obtain rfl := hy9 _ (Option.some.inj h8).symm
    refine Fin.then_exit (Fin.block_exit ?_)
    exact Fin.join [2, 3, 4, 5] [101, 102, 103, 105] out_6 rfl rfl
  ·rintro out_5 hv
   subst v5
   refine Tri.seq (Tri.seq (Tri.regionL ?_))
   refine Oc rfl (op_slice_al (i := 16) tyArr109 (by decide) (by decide) rfl rfl) (Oc rfl (op_toArr tyArr23 (by decide) rfl) ?_)
   refine OpsL.consA eW h rfl (op_load_p tyAgg23 rfl rfl rfl rfl) (fun x_24 h => ?_)
   refine Oc rfl (op_buildA tyBuild23 rfl rfl) (Oc rfl (op_neq_agg (eqAgg23 x_24 A16.zero) rfl rfl neg_dec) ?_)
   refine OpsL.nilS ⟨[(2, Pt 101 0), (3, Pt 102 0), (4, Pt 103 0), (5, Pt 105 0), (71, B (decide (x_24 ≠ A16.zero)))], [(101, .box 25 (eBig a0)), (102, .box 25 (eBig b0)), (103, .box 25 zBig), (105, .box 109 ((eA32 .u32) out_5))]⟩ rfl (Tri.ite h rfl (fun _ h => ?_) (fun _ h => ?_))
   ·refine Tri.seq (Tri.regionL ?_)
    obtain ⟨x_25, e22, h⟩ := bnd h
    refine Oc rfl (op_call0 (whole_Bad_spec e22) goes92 rfl rfl) (Oc rfl (op_store_p tyAgg25 rfl rfl rfl rfl (Nat.le_of_ble_eq_true rfl) rfl) ?_)
    refine OpsL.nilS ⟨[(4, Pt 103 0)], [(103, .box 25 (eBig x_25))]⟩ rfl (Tri.ret (Fin.then_ret ?_))
    obtain rfl := Option.some.inj h
    refine Fin.keepS ⟨[(4, Pt 103 0)], [(103, .box 25 (eBig x_25))]⟩ rfl (Fin.result' [.agg (eBig x_25)] (.inl rfl) rfl (.cons (.agg tyAgg25 rfl rfl rfl rfl) .nil) ⟨rfl, rfl⟩)
   ·refine Tri.skip (Fin.keepS ⟨[(2, Pt 101 0), (3, Pt 102 0), (4, Pt 103 0), (5, Pt 105 0)], [(101, .box 25 (eBig a0)), (102, .box 25 (eBig b0)), (103, .box 25 zBig), (105, .box 109 ((eA32 .u32) out_5))]⟩ rfl (Fin.then (Tri.seq ?_)))
    refine Tri.keepS ⟨[(2, Pt 101 0), (3, Pt 102 0), (4, Pt 103 0), (5, Pt 105 0)], [(101, .box 25 (eBig a0)), (102, .box 25 (eBig b0)), (103, .box 25 zBig), (105, .box 109 ((eA32 .u32) out_5))]⟩ rfl ?_
    obtain ⟨x_26, e23, h⟩ := bnd h
    refine Tri.regionY mixed 9 [Pt 101 1, B a0.Neg, Pt 102 1, B b0.Neg, B (a0.Neg != b0.Neg), .b (.psl 105 0 16 32), Pt 105 0, .b (.agg [.int .u32 out_5.a0, .int .u32 out_5.a1, .int .u32 out_5.a2, .int .u32 out_5.a3, .int .u32 out_5.a4, .int .u32 out_5.a5, .int .u32 out_5.a6, .int .u32 out_5.a7, .int .u32 out_5.a8, .int .u32 out_5.a9, .int .u32 out_5.a10, .int .u32 out_5.a11, .int .u32 out_5.a12, .int .u32 out_5.a13, .int .u32 out_5.a14, .int .u32 out_5.a15]), .b (.agg (eBig x_26))] [4] [103] (s' := ⟨[(4, Pt 103 0)], [(103, .box 25 (eBig x_26))]⟩) rfl ⟨fun _ => .plain rfl (op_field_p tyFld25_1 rfl rfl), fun _ => .plain rfl (op_load_p1 tyOne4 rfl rfl rfl), fun _ => .plain rfl (op_field_p tyFld25_1 rfl rfl), fun _ => .plain rfl (op_load_p1 tyOne4 rfl rfl rfl), fun _ => .plain rfl (op_neq_bool und4 rfl rfl), fun _ => .plain rfl (op_slice_ah (i := 16) tyArr109 (by decide) (by decide) rfl rfl), fun _ => .plain rfl (op_toArr tyArr23 (by decide) rfl), fun _ => .plain rfl (op_load_p tyAgg23 rfl rfl rfl rfl), fun _ => .plain rfl (op_call0 (whole_signed_spec e23) goes115 rfl rfl), trivial⟩ ⟨_, by exact .plain rfl (op_store_p tyAgg25 rfl rfl rfl rfl (Nat.le_of_ble_eq_true rfl) rfl), rfl⟩ rfl (Tri.ret ?_)
    obtain rfl := Option.some.inj h
    refine Fin.keepS ⟨[(4, Pt 103 0)], [(103, .box 25 (eBig x_26))]⟩ rfl (Fin.result' [.agg (eBig x_26)] (.inl rfl) rfl (.cons (.agg tyAgg25 rfl rfl rfl rfl) .nil) ⟨rfl, rfl⟩)
def ratio_Add_S (F : Nat) (x0 : Frc) (y0 : Frc) : Option Frc :=
 (ratio_Good_S F x0).bind fun x_1 => (gcall (!(!x_1)) (ratio_Good_S F y0)).bind fun x_2 => if ((!x_1) || (!x_2)) = true then ((ratio_Bad_S F).bind fun x_3 => some x_3) else ((whole_Gcd_S F x0.D y0.D).bind fun x_4 => (whole_Quo_S F x0.D x_4).bind fun x_5 => (whole_Quo_S F y0.D x_4).bind fun x_6 => (whole_Mul_S F x0.N x_6).bind fun x_7 => (whole_Mul_S F y0.N x_5).bind fun x_8 => (whole_Add_S F x_7 x_8).bind fun x_9 => (whole_Mul_S F x_5 y0.D).bind fun x_10 => (ratio_Make_S F x_9 x_10).bind fun x_11 => some x_11)
theorem ratio_Add_spec {F : Nat} {x0 : Frc} {y0 : Frc} {r : Frc} (h : ratio_Add_S F x0 y0 = some r) : Meets Tryz.prog (tabs mx) 42 [] [.agg (eFrc x0), .agg (eFrc y0)] (Is [] (.b (.agg (eFrc r)))) := by
 unfold ratio_Add_S at h
 refine Meets.intro 44 Tryz.func42 Tryz.ntmps42 rfl (by simp) fun E => ?_
 show Tri _ E ⟨44, [], []⟩ _ ⟨[(0, .b (.agg (eFrc x0))), (1, .b (.agg (eFrc y0)))], []⟩ _
 refine Tri.seq (Tri.regionL ?_)
 refine Oc rfl (op_box (k := 101) rfl rfl) (Oc rfl (op_box (k := 102) rfl rfl) (Oc rfl (op_alloc (k := 103) tyZero27 rfl) ?_))
 refine OpsL.nilS ⟨[(2, Pt 101 0), (3, Pt 102 0), (4, Pt 103 0)], [(101, .box 27 (eFrc x0)), (102, .box 27 (eFrc y0)), (103, .box 27 zFrc)]⟩ rfl (Tri.seq (Tri.seq (Tri.regionL ?_)))
 refine Oc rfl (op_load_p tyAgg27 rfl rfl rfl rfl) ?_
 obtain ⟨x_1, e1, h⟩ := bnd h
 refine Oc rfl (op_call0 (ratio_Good_spec e1) goes26 rfl rfl) (Oc rfl (op_not rfl) (Oc rfl (op_move rfl) ?_))
 refine OpsL.consG (!(!x_1)) 99 [] (.plain rfl) (eq_f _) rfl rfl (fun g2 => trivial) (fun g2 => op_load_p tyAgg27 rfl rfl rfl rfl) (OpsL.keepS ⟨[(2, Pt 101 0), (3, Pt 102 0), (4, Pt 103 0), (11, B (!x_1)), (12, .opt (!(!x_1)) (.agg (eFrc y0)))], [(101, .box 27 (eFrc x0)), (102, .box 27 (eFrc y0)), (103, .box 27 zFrc)]⟩ rfl ?_)
 obtain ⟨x_2, e4, h⟩ := bnd h
 refine OpsL.consG (!(!x_1)) 99 [12] (.plain rfl) (eq_f _) rfl rfl (fun g3 => ⟨g3, trivial⟩) (fun g3 => op_call0 (ratio_Good_spec (gc e4 g3)) goes26 rfl rfl) (OpsL.consG (!(!x_1)) 99 [13] (.plain rfl) (eq_f _) rfl rfl (fun g5 => ⟨g5, trivial⟩) (fun g5 => op_not rfl) (Oc rfl (op_pick_or (fun e => by rw [e]; rfl) rfl rfl rfl rfl) (OpsL.nilS ⟨[(2, Pt 101 0), (3, Pt 102 0), (4, Pt 103 0), (15, B ((!x_1) || (!x_2)))], [(101, .box 27 (eFrc x0)), (102, .box 27 (eFrc y0)), (103, .box 27 zFrc)]⟩ rfl (Tri.ite h rfl (fun _ h => ?_) (fun _ h => ?_)))))
 ·refine Tri.seq (Tri.regionL ?_)
  obtain ⟨x_3, e6, h⟩ := bnd h
  refine Oc rfl (op_call0 (ratio_Bad_spec e6) goes27 rfl rfl) (Oc rfl (op_store_p tyAgg27 rfl rfl rfl rfl (Nat.le_of_ble_eq_true rfl) rfl) ?_)
  refine OpsL.nilS ⟨[(4, Pt 103 0)], [(103, .box 27 (eFrc x_3))]⟩ rfl (Tri.ret (Fin.then_ret ?_))
  obtain rfl := Option.some.inj h
  refine Fin.keepS ⟨[(4, Pt 103 0)], [(103, .box 27 (eFrc x_3))]⟩ rfl (Fin.result' [.agg (eFrc x_3)] (.inl rfl) rfl (.cons (.agg tyAgg27 rfl rfl rfl rfl) .nil) ⟨rfl, rfl⟩)
 ·refine Tri.skip (Fin.keepS ⟨[(2, Pt 101 0), (3, Pt 102 0), (4, Pt 103 0)], [(101, .box 27 (eFrc x0)), (102, .box 27 (eFrc y0)), (103, .box 27 zFrc)]⟩ rfl (Fin.then (Tri.seq (Tri.regionL ?_))))
  refine Oc rfl (op_field_p tyFld27_1 rfl rfl) (Oc rfl (op_load_p tyAgg25 rfl rfl rfl rfl) (Oc rfl (op_field_p tyFld27_1 rfl rfl) (Oc rfl (op_load_p tyAgg25 rfl rfl rfl rfl) ?_)))
  obtain ⟨x_4, e7, h⟩ := bnd h
  refine Oc rfl (op_call0 (whole_Gcd_spec e7) goes73 rfl rfl) (Oc rfl (op_alloc (k := 104) tyZero25 rfl) (Oc rfl (op_store_p tyAgg25 rfl rfl rfl rfl (Nat.le_of_ble_eq_true rfl) rfl) ?_))
  refine OpsL.nilS ⟨[(2, Pt 101 0), (3, Pt 102 0), (4, Pt 103 0), (5, Pt 104 0)], [(101, .box 27 (eFrc x0)), (102, .box 27 (eFrc y0)), (103, .box 27 zFrc), (104, .box 25 (eBig x_4))]⟩ rfl (Tri.seq ?_)
  obtain ⟨x_5, e8, h⟩ := bnd h
  obtain ⟨x_6, e9, h⟩ := bnd h
  refine Tri.regionW mixed [false, false, false, false, false, false, false, false, true, true, true, true] [Pt 101 18, .b (.agg (eBig x0.D)), .b (.agg (eBig x_4)), .b (.agg (eBig x_5)), Pt 102 18, .b (.agg (eBig y0.D)), .b (.agg (eBig x_4)), .b (.agg (eBig x_6)), Pt 105 0, Pt 106 0, B true, B true] [⟨[false, false, false, false, false, false, false, false, false, false, false, false], [(2, Pt 101 0), (3, Pt 102 0), (4, Pt 103 0), (5, Pt 104 0)], [(101, .box 27 (eFrc x0)), (102, .box 27 (eFrc y0)), (103, .box 27 zFrc), (104, .box 25 (eBig x_4))], [true, true, true, true, true, true, true, true, true, true, true, true], []⟩, ⟨[false, false, false, false, false, false, false, false, true, false, false, false], [(2, Pt 101 0), (3, Pt 102 0), (4, Pt 103 0), (5, Pt 104 0)], [(101, .box 27 (eFrc x0)), (102, .box 27 (eFrc y0)), (103, .box 27 zFrc), (104, .box 25 (eBig x_4)), (105, .box 25 zBig)], [true, true, true, true, true, true, true, true, true, true, true, true], [8]⟩, ⟨[false, false, false, false, false, false, false, false, false, true, false, false], [(2, Pt 101 0), (3, Pt 102 0), (4, Pt 103 0), (5, Pt 104 0)], [(101, .box 27 (eFrc x0)), (102, .box 27 (eFrc y0)), (103, .box 27 zFrc), (104, .box 25 (eBig x_4)), (106, .box 25 zBig)], [true, true, true, true, true, true, true, true, true, true, true, true], [9]⟩, ⟨[false, false, false, false, false, false, false, false, true, true, false, false], [(2, Pt 101 0), (3, Pt 102 0), (4, Pt 103 0), (5, Pt 104 0)], [(101, .box 27 (eFrc x0)), (102, .box 27 (eFrc y0)), (103, .box 27 zFrc), (104, .box 25 (eBig x_4)), (105, .box 25 zBig), (106, .box 25 zBig)], [true, true, true, true, true, true, true, true, true, true, true, true], [8, 9]⟩, ⟨[false, false, false, false, false, false, false, false, true, true, true, false], [(2, Pt 101 0), (3, Pt 102 0), (4, Pt 103 0), (5, Pt 104 0)], [(101, .box 27 (eFrc x0)), (102, .box 27 (eFrc y0)), (103, .box 27 zFrc), (104, .box 25 (eBig x_4)), (105, .box 25 (eBig x_5)), (106, .box 25 zBig)], [true, true, true, true, true, true, true, true, true, true, true, true], [0, 1, 2, 3, 4, 5, 6, 7, 8, 9, 10]⟩, ⟨[false, false, false, false, false, false, false, false, true, true, true, true], [(2, Pt 101 0), (3, Pt 102 0), (4, Pt 103 0), (5, Pt 104 0)], [(101, .box 27 (eFrc x0)), (102, .box 27 (eFrc y0)), (103, .box 27 zFrc), (104, .box 25 (eBig x_4)), (105, .box 25 (eBig x_5)), (106, .box 25 (eBig x_6))], [true, true, true, true, true, true, true, true, true, true, true, true], [0, 1, 2, 3, 4, 5, 6, 7, 8, 9, 10, 11]⟩] rfl (⟨by kernel_rfl, ⟨⟨Pt 101 18, fun _ => rfl, fun _ => .plain rfl (by exact op_field_p tyFld27_1 rfl rfl)⟩, ⟨.b (.agg (eBig x0.D)), fun _ => rfl, fun _ => .plain rfl (by exact op_load_p tyAgg25 rfl rfl rfl rfl)⟩, ⟨.b (.agg (eBig x_4)), fun _ => rfl, fun _ => .plain rfl (by exact op_load_p tyAgg25 rfl rfl rfl rfl)⟩, ⟨.b (.agg (eBig x_5)), fun _ => rfl, fun _ => .plain rfl (by exact op_call0 (whole_Quo_spec e8) goes75 rfl rfl)⟩, ⟨Pt 102 18, fun _ => rfl, fun _ => .plain rfl (by exact op_field_p tyFld27_1 rfl rfl)⟩, ⟨.b (.agg (eBig y0.D)), fun _ => rfl, fun _ => .plain rfl (by exact op_load_p tyAgg25 rfl rfl rfl rfl)⟩, ⟨.b (.agg (eBig x_4)), fun _ => rfl, fun _ => .plain rfl (by exact op_load_p tyAgg25 rfl rfl rfl rfl)⟩, ⟨.b (.agg (eBig x_6)), fun _ => rfl, fun _ => .plain rfl (by exact op_call0 (whole_Quo_spec e9) goes75 rfl rfl)⟩, ⟨_, some 105, Pt 105 0, rfl, fun _ => rfl, rfl, rfl, fun _ => .toO [101, 102, 103, 104, 105] (by exact .plain rfl (by exact op_alloc (k := 105) tyZero25 rfl)) (by exact rfl)⟩, ⟨_, some 106, Pt 106 0, rfl, fun _ => rfl, rfl, rfl, fun _ => .toO [101, 102, 103, 104, 106] (by exact .plain rfl (by exact op_alloc (k := 106) tyZero25 rfl)) (by exact rfl)⟩, trivial, trivial, trivial⟩, ⟨by kernel_rfl, ⟨⟨Pt 101 18, fun _ => rfl, fun _ => .plain rfl (by exact op_field_p tyFld27_1 rfl rfl)⟩, ⟨.b (.agg (eBig x0.D)), fun _ => rfl, fun _ => .plain rfl (by exact op_load_p tyAgg25 rfl rfl rfl rfl)⟩, ⟨.b (.agg (eBig x_4)), fun _ => rfl, fun _ => .plain rfl (by exact op_load_p tyAgg25 rfl rfl rfl rfl)⟩, ⟨.b (.agg (eBig x_5)), fun _ => rfl, fun _ => .plain rfl (by exact op_call0 (whole_Quo_spec e8) goes75 rfl rfl)⟩, ⟨Pt 102 18, fun _ => rfl, fun _ => .plain rfl (by exact op_field_p tyFld27_1 rfl rfl)⟩, ⟨.b (.agg (eBig y0.D)), fun _ => rfl, fun _ => .plain rfl (by exact op_load_p tyAgg25 rfl rfl rfl rfl)⟩, ⟨.b (.agg (eBig x_4)), fun _ => rfl, fun _ => .plain rfl (by exact op_load_p tyAgg25 rfl rfl rfl rfl)⟩, ⟨.b (.agg (eBig x_6)), fun _ => rfl, fun _ => .plain rfl (by exact op_call0 (whole_Quo_spec e9) goes75 rfl rfl)⟩, trivial, ⟨_, some 106, Pt 106 0, rfl, fun _ => rfl, rfl, rfl, fun _ => .toO [101, 102, 103, 104, 105, 106] (by exact .plain rfl (by exact op_alloc (k := 106) tyZero25 rfl)) (by exact rfl)⟩, trivial, trivial, trivial⟩, ⟨by kernel_rfl, ⟨⟨Pt 101 18, fun _ => rfl, fun _ => .plain rfl (by exact op_field_p tyFld27_1 rfl rfl)⟩, ⟨.b (.agg (eBig x0.D)), fun _ => rfl, fun _ => .plain rfl (by exact op_load_p tyAgg25 rfl rfl rfl rfl)⟩, ⟨.b (.agg (eBig x_4)), fun _ => rfl, fun _ => .plain rfl (by exact op_load_p tyAgg25 rfl rfl rfl rfl)⟩, ⟨.b (.agg (eBig x_5)), fun _ => rfl, fun _ => .plain rfl (by exact op_call0 (whole_Quo_spec e8) goes75 rfl rfl)⟩, ⟨Pt 102 18, fun _ => rfl, fun _ => .plain rfl (by exact op_field_p tyFld27_1 rfl rfl)⟩, ⟨.b (.agg (eBig y0.D)), fun _ => rfl, fun _ => .plain rfl (by exact op_load_p tyAgg25 rfl rfl rfl rfl)⟩, ⟨.b (.agg (eBig x_4)), fun _ => rfl, fun _ => .plain rfl (by exact op_load_p tyAgg25 rfl rfl rfl rfl)⟩, ⟨.b (.agg (eBig x_6)), fun _ => rfl, fun _ => .plain rfl (by exact op_call0 (whole_Quo_spec e9) goes75 rfl rfl)⟩, ⟨_, some 105, Pt 105 0, rfl, fun _ => rfl, rfl, rfl, fun _ => .toO [101, 102, 103, 104, 105, 106] (by exact .plain rfl (by exact op_alloc (k := 105) tyZero25 rfl)) (by exact rfl)⟩, trivial, trivial, trivial, trivial⟩, ⟨by kernel_rfl, ⟨⟨Pt 101 18, fun _ => rfl, fun _ => .plain rfl (by exact op_field_p tyFld27_1 rfl rfl)⟩, ⟨.b (.agg (eBig x0.D)), fun _ => rfl, fun _ => .plain rfl (by exact op_load_p tyAgg25 rfl rfl rfl rfl)⟩, ⟨.b (.agg (eBig x_4)), fun _ => rfl, fun _ => .plain rfl (by exact op_load_p tyAgg25 rfl rfl rfl rfl)⟩, ⟨.b (.agg (eBig x_5)), fun _ => rfl, fun _ => .plain rfl (by exact op_call0 (whole_Quo_spec e8) goes75 rfl rfl)⟩, ⟨Pt 102 18, fun _ => rfl, fun _ => .plain rfl (by exact op_field_p tyFld27_1 rfl rfl)⟩, ⟨.b (.agg (eBig y0.D)), fun _ => rfl, fun _ => .plain rfl (by exact op_load_p tyAgg25 rfl rfl rfl rfl)⟩, ⟨.b (.agg (eBig x_4)), fun _ => rfl, fun _ => .plain rfl (by exact op_load_p tyAgg25 rfl rfl rfl rfl)⟩, ⟨.b (.agg (eBig x_6)), fun _ => rfl, fun _ => .plain rfl (by exact op_call0 (whole_Quo_spec e9) goes75 rfl rfl)⟩, trivial, trivial, ⟨_, none, .b (.one .any), rfl, (fun e => by simp at e), rfl, rfl, fun _ => .toO [101, 102, 103, 104, 105, 106] (by exact .plain rfl (by exact op_store_p tyAgg25 rfl rfl rfl rfl (Nat.le_of_ble_eq_true rfl) rfl)) (by exact rfl)⟩, trivial, trivial⟩, ⟨by kernel_rfl, ⟨trivial, trivial, trivial, trivial, trivial, trivial, trivial, trivial, trivial, trivial, trivial, ⟨_, none, .b (.one .any), rfl, (fun e => by simp at e), rfl, rfl, fun _ => .toO [101, 102, 103, 104, 105, 106] (by exact .plain rfl (by exact op_store_p tyAgg25 rfl rfl rfl rfl (Nat.le_of_ble_eq_true rfl) rfl)) (by exact rfl)⟩, trivial⟩, ⟨by kernel_rfl, ⟨trivial, trivial, trivial, trivial, trivial, trivial, trivial, trivial, trivial, trivial, trivial, trivial, trivial⟩, trivial⟩⟩⟩⟩⟩⟩) rfl rfl rfl [2, 3, 4, 6, 7] [101, 102, 103, 105, 106] (s' := ⟨[(2, Pt 101 0), (3, Pt 102 0), (4, Pt 103 0), (6, Pt 105 0), (7, Pt 106 0)], [(101, .box 27 (eFrc x0)), (102, .box 27 (eFrc y0)), (103, .box 27 zFrc), (105, .box 25 (eBig x_5)), (106, .box 25 (eBig x_6))]⟩) rfl ?_
  refine Tri.seq (Tri.keepS ⟨[(2, Pt 101 0), (3, Pt 102 0), (4, Pt 103 0), (6, Pt 105 0), (7, Pt 106 0)], [(101, .box 27 (eFrc x0)), (102, .box 27 (eFrc y0)), (103, .box 27 zFrc), (105, .box 25 (eBig x_5)), (106, .box 25 (eBig x_6))]⟩ rfl ?_)
  obtain ⟨x_7, e10, h⟩ := bnd h
  obtain ⟨x_8, e11, h⟩ := bnd h
  obtain ⟨x_9, e12, h⟩ := bnd h
  obtain ⟨x_10, e13, h⟩ := bnd h
  obtain ⟨x_11, e14, h⟩ := bnd h
  refine Tri.regionY mixed 14 [Pt 101 0, .b (.agg (eBig x0.N)), .b (.agg (eBig x_6)), .b (.agg (eBig x_7)), Pt 102 0, .b (.agg (eBig y0.N)), .b (.agg (eBig x_5)), .b (.agg (eBig x_8)), .b (.agg (eBig x_9)), .b (.agg (eBig x_5)), Pt 102 18, .b (.agg (eBig y0.D)), .b (.agg (eBig x_10)), .b (.agg (eFrc x_11))] [4] [103] (s' := ⟨[(4, Pt 103 0)], [(103, .box 27 (eFrc x_11))]⟩) rfl ⟨fun _ => .plain rfl (op_field_p tyFld27_0 rfl rfl), fun _ => .plain rfl (op_load_p tyAgg25 rfl rfl rfl rfl), fun _ => .plain rfl (op_load_p tyAgg25 rfl rfl rfl rfl), fun _ => .plain rfl (op_call0 (whole_Mul_spec e10) goes102 rfl rfl), fun _ => .plain rfl (op_field_p tyFld27_0 rfl rfl), fun _ => .plain rfl (op_load_p tyAgg25 rfl rfl rfl rfl), fun _ => .plain rfl (op_load_p tyAgg25 rfl rfl rfl rfl), fun _ => .plain rfl (op_call0 (whole_Mul_spec e11) goes102 rfl rfl), fun _ => .plain rfl (op_call0 (whole_Add_spec e12) goes97 rfl rfl), fun _ => .plain rfl (op_load_p tyAgg25 rfl rfl rfl rfl), fun _ => .plain rfl (op_field_p tyFld27_1 rfl rfl), fun _ => .plain rfl (op_load_p tyAgg25 rfl rfl rfl rfl), fun _ => .plain rfl (op_call0 (whole_Mul_spec e13) goes102 rfl rfl), fun _ => .plain rfl (op_call0 (ratio_Make_spec e14) goes11 rfl rfl), trivial⟩ ⟨_, by exact .plain rfl (op_store_p tyAgg27 rfl rfl rfl rfl (Nat.le_of_ble_eq_true rfl) rfl), rfl⟩ rfl (Tri.ret ?_)
  obtain rfl := Option.some.inj h
  refine Fin.keepS ⟨[(4, Pt 103 0)], [(103, .box 27 (eFrc x_11))]⟩ rfl (Fin.result' [.agg (eFrc x_11)] (.inl rfl) rfl (.cons (.agg tyAgg27 rfl rfl rfl rfl) .nil) ⟨rfl, rfl⟩)
def ratio_Mul_S (F : Nat) (x0 : Frc) (y0 : Frc) : Option Frc :=
 (ratio_Good_S F x0).bind fun x_1 => (gcall (!(!x_1)) (ratio_Good_S F y0)).bind fun x_2 => if ((!x_1) || (!x_2)) = true then ((ratio_Bad_S F).bind fun x_3 => some x_3) else ((ratio_Make_S F x0.N y0.D).bind fun x_4 => (ratio_Make_S F y0.N x0.D).bind fun x_5 => (whole_Mul_S F x_4.N x_5.N).bind fun x_6 => (whole_Mul_S F x_4.D x_5.D).bind fun x_7 => if (x_6.Bad || x_7.Bad) = true then ((ratio_Bad_S F).bind fun x_8 => some x_8) else (some (⟨x_6, x_7⟩ : Frc)))
theorem ratio_Mul_spec {F : Nat} {x0 : Frc} {y0 : Frc} {r : Frc} (h : ratio_Mul_S F x0 y0 = some r) : Meets Tryz.prog (tabs mx) 45 [] [.agg (eFrc x0), .agg (eFrc y0)] (Is [] (.b (.agg (eFrc r)))) := by
 unfold ratio_Mul_S at h
 refine Meets.intro 48 Tryz.func45 Tryz.ntmps45 rfl (by simp) fun E => ?_
 show Tri _ E ⟨48, [], []⟩ _ ⟨[(0, .b (.agg (eFrc x0))), (1, .b (.agg (eFrc y0)))], []⟩ _
 refine Tri.seq (Tri.regionL ?_)
 refine Oc rfl (op_box (k := 101) rfl rfl) (Oc rfl (op_box (k := 102) rfl rfl) (Oc rfl (op_alloc (k := 103) tyZero27 rfl) ?_))
 refine OpsL.nilS ⟨[(2, Pt 101 0), (3, Pt 102 0), (4, Pt 103 0)], [(101, .box 27 (eFrc x0)), (102, .box 27 (eFrc y0)), (103, .box 27 zFrc)]⟩ rfl (Tri.seq (Tri.seq (Tri.regionL ?_)))
 refine Oc rfl (op_load_p tyAgg27 rfl rfl rfl rfl) ?_
 obtain ⟨x_1, e1, h⟩ := bnd h
 refine Oc rfl (op_call0 (ratio_Good_spec e1) goes26 rfl rfl) (Oc rfl (op_not rfl) (Oc rfl (op_move rfl) ?_))
 refine OpsL.consG (!(!x_1)) 99 [] (.plain rfl) (eq_f _) rfl rfl (fun g2 => trivial) (fun g2 => op_load_p tyAgg27 rfl rfl rfl rfl) (OpsL.keepS ⟨[(2, Pt 101 0), (3, Pt 102 0), (4, Pt 103 0), (12, B (!x_1)), (13, .opt (!(!x_1)) (.agg (eFrc y0)))], [(101, .box 27 (eFrc x0)), (102, .box 27 (eFrc y0)), (103, .box 27 zFrc)]⟩ rfl ?_)
 obtain ⟨x_2, e4, h⟩ := bnd h
 refine OpsL.consG (!(!x_1)) 99 [13] (.plain rfl) (eq_f _) rfl rfl (fun g3 => ⟨g3, trivial⟩) (fun g3 => op_call0 (ratio_Good_spec (gc e4 g3)) goes26 rfl rfl) (OpsL.consG (!(!x_1)) 99 [14] (.plain rfl) (eq_f _) rfl rfl (fun g5 => ⟨g5, trivial⟩) (fun g5 => op_not rfl) (Oc rfl (op_pick_or (fun e => by rw [e]; rfl) rfl rfl rfl rfl) (OpsL.nilS ⟨[(2, Pt 101 0), (3, Pt 102 0), (4, Pt 103 0), (16, B ((!x_1) || (!x_2)))], [(101, .box 27 (eFrc x0)), (102, .box 27 (eFrc y0)), (103, .box 27 zFrc)]⟩ rfl (Tri.ite h rfl (fun _ h => ?_) (fun _ h => ?_)))))
 ·refine Tri.seq (Tri.regionL ?_)
  obtain ⟨x_3, e6, h⟩ := bnd h
  refine Oc rfl (op_call0 (ratio_Bad_spec e6) goes27 rfl rfl) (Oc rfl (op_store_p tyAgg27 rfl rfl rfl rfl (Nat.le_of_ble_eq_true rfl) rfl) ?_)
  refine OpsL.nilS ⟨[(4, Pt 103 0)], [(103, .box 27 (eFrc x_3))]⟩ rfl (Tri.ret (Fin.then_ret ?_))
  obtain rfl := Option.some.inj h
  refine Fin.keepS ⟨[(4, Pt 103 0)], [(103, .box 27 (eFrc x_3))]⟩ rfl (Fin.result' [.agg (eFrc x_3)] (.inl rfl) rfl (.cons (.agg tyAgg27 rfl rfl rfl rfl) .nil) ⟨rfl, rfl⟩)
 ·refine Tri.skip (Fin.keepS ⟨[(2, Pt 101 0), (3, Pt 102 0), (4, Pt 103 0)], [(101, .box 27 (eFrc x0)), (102, .box 27 (eFrc y0)), (103, .box 27 zFrc)]⟩ rfl (Fin.then (Tri.seq ?_)))
  refine Tri.keepS ⟨[(2, Pt 101 0), (3, Pt 102 0), (4, Pt 103 0)], [(101, .box 27 (eFrc x0)), (102, .box 27 (eFrc y0)), (103, .box 27 zFrc)]⟩ rfl ?_
  obtain ⟨x_4, e7, h⟩ := bnd h
  obtain ⟨x_5, e8, h⟩ := bnd h
  refine Tri.regionW mixed [false, false, false, false, false, false, false, false, false, false, true, true, true, true] [Pt 101 0, .b (.agg (eBig x0.N)), Pt 102 18, .b (.agg (eBig y0.D)), .b (.agg (eFrc x_4)), Pt 102 0, .b (.agg (eBig y0.N)), Pt 101 18, .b (.agg (eBig x0.D)), .b (.agg (eFrc x_5)), Pt 104 0, Pt 105 0, B true, B true] [⟨[false, false, false, false, false, false, false, false, false, false, false, false, false, false], [(2, Pt 101 0), (3, Pt 102 0), (4, Pt 103 0)], [(101, .box 27 (eFrc x0)), (102, .box 27 (eFrc y0)), (103, .box 27 zFrc)], [true, true, true, true, true, true, true, true, true, true, true, true, true, true], []⟩, ⟨[false, false, false, false, false, false, false, false, false, false, true, false, false, false], [(2, Pt 101 0), (3, Pt 102 0), (4, Pt 103 0)], [(101, .box 27 (eFrc x0)), (102, .box 27 (eFrc y0)), (103, .box 27 zFrc), (104, .box 27 zFrc)], [true, true, true, true, true, true, true, true, true, true, true, true, true, true], [10]⟩, ⟨[false, false, false, false, false, false, false, false, false, false, false, true, false, false], [(2, Pt 101 0), (3, Pt 102 0), (4, Pt 103 0)], [(101, .box 27 (eFrc x0)), (102, .box 27 (eFrc y0)), (103, .box 27 zFrc), (105, .box 27 zFrc)], [true, true, true, true, true, true, true, true, true, true, true, true, true, true], [11]⟩, ⟨[false, false, false, false, false, false, false, false, false, false, true, true, false, false], [(2, Pt 101 0), (3, Pt 102 0), (4, Pt 103 0)], [(101, .box 27 (eFrc x0)), (102, .box 27 (eFrc y0)), (103, .box 27 zFrc), (104, .box 27 zFrc), (105, .box 27 zFrc)], [true, true, true, true, true, true, true, true, true, true, true, true, true, true], [10, 11]⟩, ⟨[false, false, false, false, false, false, false, false, false, false, true, true, true, false], [(2, Pt 101 0), (3, Pt 102 0), (4, Pt 103 0)], [(101, .box 27 (eFrc x0)), (102, .box 27 (eFrc y0)), (103, .box 27 zFrc), (104, .box 27 (eFrc x_4)), (105, .box 27 zFrc)], [true, true, true, true, true, true, true, true, true, true, true, true, true, true], [0, 1, 2, 3, 4, 5, 6, 7, 8, 9, 10, 11, 12]⟩, ⟨[false, false, false, false, false, false, false, false, false, false, true, true, true, true], [(2, Pt 101 0), (3, Pt 102 0), (4, Pt 103 0)], [(101, .box 27 (eFrc x0)), (102, .box 27 (eFrc y0)), (103, .box 27 zFrc), (104, .box 27 (eFrc x_4)), (105, .box 27 (eFrc x_5))], [true, true, true, true, true, true, true, true, true, true, true, true, true, true], [0, 1, 2, 3, 4, 5, 6, 7, 8, 9, 10, 11, 12, 13]⟩] rfl (⟨by kernel_rfl, ⟨⟨Pt 101 0, fun _ => rfl, fun _ => .plain rfl (by exact op_field_p tyFld27_0 rfl rfl)⟩, ⟨.b (.agg (eBig x0.N)), fun _ => rfl, fun _ => .plain rfl (by exact op_load_p tyAgg25 rfl rfl rfl rfl)⟩, ⟨Pt 102 18, fun _ => rfl, fun _ => .plain rfl (by exact op_field_p tyFld27_1 rfl rfl)⟩, ⟨.b (.agg (eBig y0.D)), fun _ => rfl, fun _ => .plain rfl (by exact op_load_p tyAgg25 rfl rfl rfl rfl)⟩, ⟨.b (.agg (eFrc x_4)), fun _ => rfl, fun _ => .plain rfl (by exact op_call0 (ratio_Make_spec e7) goes11 rfl rfl)⟩, ⟨Pt 102 0, fun _ => rfl, fun _ => .plain rfl (by exact op_field_p tyFld27_0 rfl rfl)⟩, ⟨.b (.agg (eBig y0.N)), fun _ => rfl, fun _ => .plain rfl (by exact op_load_p tyAgg25 rfl rfl rfl rfl)⟩, ⟨Pt 101 18, fun _ => rfl, fun _ => .plain rfl (by exact op_field_p tyFld27_1 rfl rfl)⟩, ⟨.b (.agg (eBig x0.D)), fun _ => rfl, fun _ => .plain rfl (by exact op_load_p tyAgg25 rfl rfl rfl rfl)⟩, ⟨.b (.agg (eFrc x_5)), fun _ => rfl, fun _ => .plain rfl (by exact op_call0 (ratio_Make_spec e8) goes11 rfl rfl)⟩, ⟨_, some 104, Pt 104 0, rfl, fun _ => rfl, rfl, rfl, fun _ => .toO [101, 102, 103, 104] (by exact .plain rfl (by exact op_alloc (k := 104) tyZero27 rfl)) (by exact rfl)⟩, ⟨_, some 105, Pt 105 0, rfl, fun _ => rfl, rfl, rfl, fun _ => .toO [101, 102, 103, 105] (by exact .plain rfl (by exact op_alloc (k := 105) tyZero27 rfl)) (by exact rfl)⟩, trivial, trivial, trivial⟩, ⟨by kernel_rfl, ⟨⟨Pt 101 0, fun _ => rfl, fun _ => .plain rfl (by exact op_field_p tyFld27_0 rfl rfl)⟩, ⟨.b (.agg (eBig x0.N)), fun _ => rfl, fun _ => .plain rfl (by exact op_load_p tyAgg25 rfl rfl rfl rfl)⟩, ⟨Pt 102 18, fun _ => rfl, fun _ => .plain rfl (by exact op_field_p tyFld27_1 rfl rfl)⟩, ⟨.b (.agg (eBig y0.D)), fun _ => rfl, fun _ => .plain rfl (by exact op_load_p tyAgg25 rfl rfl rfl rfl)⟩, ⟨.b (.agg (eFrc x_4)), fun _ => rfl, fun _ => .plain rfl (by exact op_call0 (ratio_Make_spec e7) goes11 rfl rfl)⟩, ⟨Pt 102 0, fun _ => rfl, fun _ => .plain rfl (by exact op_field_p tyFld27_0 rfl rfl)⟩, ⟨.b (.agg (eBig y0.N)), fun _ => rfl, fun _ => .plain rfl (by exact op_load_p tyAgg25 rfl rfl rfl rfl)⟩, ⟨Pt 101 18, fun _ => rfl, fun _ => .plain rfl (by exact op_field_p tyFld27_1 rfl rfl)⟩, ⟨.b (.agg (eBig x0.D)), fun _ => rfl, fun _ => .plain rfl (by exact op_load_p tyAgg25 rfl rfl rfl rfl)⟩, ⟨.b (.agg (eFrc x_5)), fun _ => rfl, fun _ => .plain rfl (by exact op_call0 (ratio_Make_spec e8) goes11 rfl rfl)⟩, trivial, ⟨_, some 105, Pt 105 0, rfl, fun _ => rfl, rfl, rfl, fun _ => .toO [101, 102, 103, 104, 105] (by exact .plain rfl (by exact op_alloc (k := 105) tyZero27 rfl)) (by exact rfl)⟩, trivial, trivial, trivial⟩, ⟨by kernel_rfl, ⟨⟨Pt 101 0, fun _ => rfl, fun _ => .plain rfl (by exact op_field_p tyFld27_0 rfl rfl)⟩, ⟨.b (.agg (eBig x0.N)), fun _ => rfl, fun _ => .plain rfl (by exact op_load_p tyAgg25 rfl rfl rfl rfl)⟩, ⟨Pt 102 18, fun _ => rfl, fun _ => .plain rfl (by exact op_field_p tyFld27_1 rfl rfl)⟩, ⟨.b (.agg (eBig y0.D)), fun _ => rfl, fun _ => .plain rfl (by exact op_load_p tyAgg25 rfl rfl rfl rfl)⟩, ⟨.b (.agg (eFrc x_4)), fun _ => rfl, fun _ => .plain rfl (by exact op_call0 (ratio_Make_spec e7) goes11 rfl rfl)⟩, ⟨Pt 102 0, fun _ => rfl, fun _ => .plain rfl (by exact op_field_p tyFld27_0 rfl rfl)⟩, ⟨.b (.agg (eBig y0.N)), fun _ => rfl, fun _ => .plain rfl (by exact op_load_p tyAgg25 rfl rfl rfl rfl)⟩, ⟨Pt 101 18, fun _ => rfl, fun _ => .plain rfl (by exact op_field_p tyFld27_1 rfl rfl)⟩, ⟨.b (.agg (eBig x0.D)), fun _ => rfl, fun _ => .plain rfl (by exact op_load_p tyAgg25 rfl rfl rfl rfl)⟩, ⟨.b (.agg (eFrc x_5)), fun _ => rfl, fun _ => .plain rfl (by exact op_call0 (ratio_Make_spec e8) goes11 rfl rfl)⟩, ⟨_, some 104, Pt 104 0, rfl, fun _ => rfl, rfl, rfl, fun _ => .toO [101, 102, 103, 104, 105] (by exact .plain rfl (by exact op_alloc (k := 104) tyZero27 rfl)) (by exact rfl)⟩, trivial, trivial, trivial, trivial⟩, ⟨by kernel_rfl, ⟨⟨Pt 101 0, fun _ => rfl, fun _ => .plain rfl (by exact op_field_p tyFld27_0 rfl rfl)⟩, ⟨.b (.agg (eBig x0.N)), fun _ => rfl, fun _ => .plain rfl (by exact op_load_p tyAgg25 rfl rfl rfl rfl)⟩, ⟨Pt 102 18, fun _ => rfl, fun _ => .plain rfl (by exact op_field_p tyFld27_1 rfl rfl)⟩, ⟨.b (.agg (eBig y0.D)), fun _ => rfl, fun _ => .plain rfl (by exact op_load_p tyAgg25 rfl rfl rfl rfl)⟩, ⟨.b (.agg (eFrc x_4)), fun _ => rfl, fun _ => .plain rfl (by exact op_call0 (ratio_Make_spec e7) goes11 rfl rfl)⟩, ⟨Pt 102 0, fun _ => rfl, fun _ => .plain rfl (by exact op_field_p tyFld27_0 rfl rfl)⟩, ⟨.b (.agg (eBig y0.N)), fun _ => rfl, fun _ => .plain rfl (by exact op_load_p tyAgg25 rfl rfl rfl rfl)⟩, ⟨Pt 101 18, fun _ => rfl, fun _ => .plain rfl (by exact op_field_p tyFld27_1 rfl rfl)⟩, ⟨.b (.agg (eBig x0.D)), fun _ => rfl, fun _ => .plain rfl (by exact op_load_p tyAgg25 rfl rfl rfl rfl)⟩, ⟨.b (.agg (eFrc x_5)), fun _ => rfl, fun _ => .plain rfl (by exact op_call0 (ratio_Make_spec e8) goes11 rfl rfl)⟩, trivial, trivial, ⟨_, none, .b (.one .any), rfl, (fun e => by simp at e), rfl, rfl, fun _ => .toO [101, 102, 103, 104, 105] (by exact .plain rfl (by exact op_store_p tyAgg27 rfl rfl rfl rfl (Nat.le_of_ble_eq_true rfl) rfl)) (by exact rfl)⟩, trivial, trivial⟩, ⟨by kernel_rfl, ⟨trivial, trivial, trivial, trivial, trivial, trivial, trivial, trivial, trivial, trivial, trivial, trivial, trivial, ⟨_, none, .b (.one .any), rfl, (fun e => by simp at e), rfl, rfl, fun _ => .toO [101, 102, 103, 104, 105] (by exact .plain rfl (by exact op_store_p tyAgg27 rfl rfl rfl rfl (Nat.le_of_ble_eq_true rfl) rfl)) (by exact rfl)⟩, trivial⟩, ⟨by kernel_rfl, ⟨trivial, trivial, trivial, trivial, trivial, trivial, trivial, trivial, trivial, trivial, trivial, trivial, trivial, trivial, trivial⟩, trivial⟩⟩⟩⟩⟩⟩) rfl rfl rfl [4, 5, 6] [103, 104, 105] (s' := ⟨[(4, Pt 103 0), (5, Pt 104 0), (6, Pt 105 0)], [(103, .box 27 zFrc), (104, .box 27 (eFrc x_4)), (105, .box 27 (eFrc x_5))]⟩) rfl ?_
  refine Tri.seq (Tri.keepS ⟨[(4, Pt 103 0), (5, Pt 104 0), (6, Pt 105 0)], [(103, .box 27 zFrc), (104, .box 27 (eFrc x_4)), (105, .box 27 (eFrc x_5))]⟩ rfl ?_)
  obtain ⟨x_6, e9, h⟩ := bnd h
  obtain ⟨x_7, e10, h⟩ := bnd h
  refine Tri.regionW mixed [false, false, false, false, false, false, false, false, false, false, true, true, true, true] [Pt 104 0, .b (.agg (eBig x_4.N)), Pt 105 0, .b (.agg (eBig x_5.N)), .b (.agg (eBig x_6)), Pt 104 18, .b (.agg (eBig x_4.D)), Pt 105 18, .b (.agg (eBig x_5.D)), .b (.agg (eBig x_7)), Pt 106 0, Pt 107 0, B true, B true] [⟨[false, false, false, false, false, false, false, false, false, false, false, false, false, false], [(4, Pt 103 0), (5, Pt 104 0), (6, Pt 105 0)], [(103, .box 27 zFrc), (104, .box 27 (eFrc x_4)), (105, .box 27 (eFrc x_5))], [true, true, true, true, true, true, true, true, true, true, true, true, true, true], []⟩, ⟨[false, false, false, false, false, false, false, false, false, false, true, false, false, false], [(4, Pt 103 0), (5, Pt 104 0), (6, Pt 105 0)], [(103, .box 27 zFrc), (104, .box 27 (eFrc x_4)), (105, .box 27 (eFrc x_5)), (106, .box 25 zBig)], [true, true, true, true, true, true, true, true, true, true, true, true, true, true], [10]⟩, ⟨[false, false, false, false, false, false, false, false, false, false, false, true, false, false], [(4, Pt 103 0), (5, Pt 104 0), (6, Pt 105 0)], [(103, .box 27 zFrc), (104, .box 27 (eFrc x_4)), (105, .box 27 (eFrc x_5)), (107, .box 25 zBig)], [true, true, true, true, true, true, true, true, true, true, true, true, true, true], [11]⟩, ⟨[false, false, false, false, false, false, false, false, false, false, true, true, false, false], [(4, Pt 103 0), (5, Pt 104 0), (6, Pt 105 0)], [(103, .box 27 zFrc), (104, .box 27 (eFrc x_4)), (105, .box 27 (eFrc x_5)), (106, .box 25 zBig), (107, .box 25 zBig)], [true, true, true, true, true, true, true, true, true, true, true, true, true, true], [10, 11]⟩, ⟨[false, false, false, false, false, false, false, false, false, false, true, true, true, false], [(4, Pt 103 0), (5, Pt 104 0), (6, Pt 105 0)], [(103, .box 27 zFrc), (104, .box 27 (eFrc x_4)), (105, .box 27 (eFrc x_5)), (106, .box 25 (eBig x_6)), (107, .box 25 zBig)], [true, true, true, true, true, true, true, true, true, true, true, true, true, true], [0, 1, 2, 3, 4, 5, 6, 7, 8, 9, 10, 11, 12]⟩, ⟨[false, false, false, false, false, false, false, false, false, false, true, true, true, true], [(4, Pt 103 0), (5, Pt 104 0), (6, Pt 105 0)], [(103, .box 27 zFrc), (104, .box 27 (eFrc x_4)), (105, .box 27 (eFrc x_5)), (106, .box 25 (eBig x_6)), (107, .box 25 (eBig x_7))], [true, true, true, true, true, true, true, true, true, true, true, true, true, true], [0, 1, 2, 3, 4, 5, 6, 7, 8, 9, 10, 11, 12, 13]⟩] rfl (⟨by kernel_rfl, ⟨⟨Pt 104 0, fun _ => rfl, fun _ => .plain rfl (by exact op_field_p tyFld27_0 rfl rfl)⟩, ⟨.b (.agg (eBig x_4.N)), fun _ => rfl, fun _ => .plain rfl (by exact op_load_p tyAgg25 rfl rfl rfl rfl)⟩, ⟨Pt 105 0, fun _ => rfl, fun _ => .plain rfl (by exact op_field_p tyFld27_0 rfl rfl)⟩, ⟨.b (.agg (eBig x_5.N)), fun _ => rfl, fun _ => .plain rfl (by exact op_load_p tyAgg25 rfl rfl rfl rfl)⟩, ⟨.b (.agg (eBig x_6)), fun _ => rfl, fun _ => .plain rfl (by exact op_call0 (whole_Mul_spec e9) goes102 rfl rfl)⟩, ⟨Pt 104 18, fun _ => rfl, fun _ => .plain rfl (by exact op_field_p tyFld27_1 rfl rfl)⟩, ⟨.b (.agg (eBig x_4.D)), fun _ => rfl, fun _ => .plain rfl (by exact op_load_p tyAgg25 rfl rfl rfl rfl)⟩, ⟨Pt 105 18, fun _ => rfl, fun _ => .plain rfl (by exact op_field_p tyFld27_1 rfl rfl)⟩, ⟨.b (.agg (eBig x_5.D)), fun _ => rfl, fun _ => .plain rfl (by exact op_load_p tyAgg25 rfl rfl rfl rfl)⟩, ⟨.b (.agg (eBig x_7)), fun _ => rfl, fun _ => .plain rfl (by exact op_call0 (whole_Mul_spec e10) goes102 rfl rfl)⟩, ⟨_, some 106, Pt 106 0, rfl, fun _ => rfl, rfl, rfl, fun _ => .toO [103, 104, 105, 106] (by exact .plain rfl (by exact op_alloc (k := 106) tyZero25 rfl)) (by exact rfl)⟩, ⟨_, some 107, Pt 107 0, rfl, fun _ => rfl, rfl, rfl, fun _ => .toO [103, 104, 105, 107] (by exact .plain rfl (by exact op_alloc (k := 107) tyZero25 rfl)) (by exact rfl)⟩, trivial, trivial, trivial⟩, ⟨by kernel_rfl, ⟨⟨Pt 104 0, fun _ => rfl, fun _ => .plain rfl (by exact op_field_p tyFld27_0 rfl rfl)⟩, ⟨.b (.agg (eBig x_4.N)), fun _ => rfl, fun _ => .plain rfl (by exact op_load_p tyAgg25 rfl rfl rfl rfl)⟩, ⟨Pt 105 0, fun _ => rfl, fun _ => .plain rfl (by exact op_field_p tyFld27_0 rfl rfl)⟩, ⟨.b (.agg (eBig x_5.N)), fun _ => rfl, fun _ => .plain rfl (by exact op_load_p tyAgg25 rfl rfl rfl rfl)⟩, ⟨.b (.agg (eBig x_6)), fun _ => rfl, fun _ => .plain rfl (by exact op_call0 (whole_Mul_spec e9) goes102 rfl rfl)⟩, ⟨Pt 104 18, fun _ => rfl, fun _ => .plain rfl (by exact op_field_p tyFld27_1 rfl rfl)⟩, ⟨.b (.agg (eBig x_4.D)), fun _ => rfl, fun _ => .plain rfl (by exact op_load_p tyAgg25 rfl rfl rfl rfl)⟩, ⟨Pt 105 18, fun _ => rfl, fun _ => .plain rfl (by exact op_field_p tyFld27_1 rfl rfl)⟩, ⟨.b (.agg (eBig x_5.D)), fun _ => rfl, fun _ => .plain rfl (by exact op_load_p tyAgg25 rfl rfl rfl rfl)⟩, ⟨.b (.agg (eBig x_7)), fun _ => rfl, fun _ => .plain rfl (by exact op_call0 (whole_Mul_spec e10) goes102 rfl rfl)⟩, trivial, ⟨_, some 107, Pt 107 0, rfl, fun _ => rfl, rfl, rfl, fun _ => .toO [103, 104, 105, 106, 107] (by exact .plain rfl (by exact op_alloc (k := 107) tyZero25 rfl)) (by exact rfl)⟩, trivial, trivial, trivial⟩, ⟨by kernel_rfl, ⟨⟨Pt 104 0, fun _ => rfl, fun _ => .plain rfl (by exact op_field_p tyFld27_0 rfl rfl)⟩, ⟨.b (.agg (eBig x_4.N)), fun _ => rfl, fun _ => .plain rfl (by exact op_load_p tyAgg25 rfl rfl rfl rfl)⟩, ⟨Pt 105 0, fun _ => rfl, fun _ => .plain rfl (by exact op_field_p tyFld27_0 rfl rfl)⟩, ⟨.b (.agg (eBig x_5.N)), fun _ => rfl, fun _ => .plain rfl (by exact op_load_p tyAgg25 rfl rfl rfl rfl)⟩, ⟨.b (.agg (eBig x_6)), fun _ => rfl, fun _ => .plain rfl (by exact op_call0 (whole_Mul_spec e9) goes102 rfl rfl)⟩, ⟨Pt 104 18, fun _ => rfl, fun _ => .plain rfl (by exact op_field_p tyFld27_1 rfl rfl)⟩, ⟨.b (.agg (eBig x_4.D)), fun _ => rfl, fun _ => .plain rfl (by exact op_load_p tyAgg25 rfl rfl rfl rfl)⟩, ⟨Pt 105 18, fun _ => rfl, fun _ => .plain rfl (by exact op_field_p tyFld27_1 rfl rfl)⟩, ⟨.b (.agg (eBig x_5.D)), fun _ => rfl, fun _ => .plain rfl (by exact op_load_p tyAgg25 rfl rfl rfl rfl)⟩, ⟨.b (.agg (eBig x_7)), fun _ => rfl, fun _ => .plain rfl (by exact op_call0 (whole_Mul_spec e10) goes102 rfl rfl)⟩, ⟨_, some 106, Pt 106 0, rfl, fun _ => rfl, rfl, rfl, fun _ => .toO [103, 104, 105, 106, 107] (by exact .plain rfl (by exact op_alloc (k := 106) tyZero25 rfl)) (by exact rfl)⟩, trivial, trivial, trivial, trivial⟩, ⟨by kernel_rfl, ⟨⟨Pt 104 0, fun _ => rfl, fun _ => .plain rfl (by exact op_field_p tyFld27_0 rfl rfl)⟩, ⟨.b (.agg (eBig x_4.N)), fun _ => rfl, fun _ => .plain rfl (by exact op_load_p tyAgg25 rfl rfl rfl rfl)⟩, ⟨Pt 105 0, fun _ => rfl, fun _ => .plain rfl (by exact op_field_p tyFld27_0 rfl rfl)⟩, ⟨.b (.agg (eBig x_5.N)), fun _ => rfl, fun _ => .plain rfl (by exact op_load_p tyAgg25 rfl rfl rfl rfl)⟩, ⟨.b (.agg (eBig x_6)), fun _ => rfl, fun _ => .plain rfl (by exact op_call0 (whole_Mul_spec e9) goes102 rfl rfl)⟩, ⟨Pt 104 18, fun _ => rfl, fun _ => .plain rfl (by exact op_field_p tyFld27_1 rfl rfl)⟩, ⟨.b (.agg (eBig x_4.D)), fun _ => rfl, fun _ => .plain rfl (by exact op_load_p tyAgg25 rfl rfl rfl rfl)⟩, ⟨Pt 105 18, fun _ => rfl, fun _ => .plain rfl (by exact op_field_p tyFld27_1 rfl rfl)⟩, ⟨.b (.agg (eBig x_5.D)), fun _ => rfl, fun _ => .plain rfl (by exact op_load_p tyAgg25 rfl rfl rfl rfl)⟩, ⟨.b (.agg (eBig x_7)), fun _ => rfl, fun _ => .plain rfl (by exact op_call0 (whole_Mul_spec e10) goes102 rfl rfl)⟩, trivial, trivial, ⟨_, none, .b (.one .any), rfl, (fun e => by simp at e), rfl, rfl, fun _ => .toO [103, 104, 105, 106, 107] (by exact .plain rfl (by exact op_store_p tyAgg25 rfl rfl rfl rfl (Nat.le_of_ble_eq_true rfl) rfl)) (by exact rfl)⟩, trivial, trivial⟩, ⟨by kernel_rfl, ⟨trivial, trivial, trivial, trivial, trivial, trivial, trivial, trivial, trivial, trivial, trivial, trivial, trivial, ⟨_, none, .b (.one .any), rfl, (fun e => by simp at e), rfl, rfl, fun _ => .toO [103, 104, 105, 106, 107] (by exact .plain rfl (by exact op_store_p tyAgg25 rfl rfl rfl rfl (Nat.le_of_ble_eq_true rfl) rfl)) (by exact rfl)⟩, trivial⟩, ⟨by kernel_rfl, ⟨trivial, trivial, trivial, trivial, trivial, trivial, trivial, trivial, trivial, trivial, trivial, trivial, trivial, trivial, trivial⟩, trivial⟩⟩⟩⟩⟩⟩) rfl rfl rfl [4, 7, 8] [103, 106, 107] (s' := ⟨[(4, Pt 103 0), (7, Pt 106 0), (8, Pt 107 0)], [(103, .box 27 zFrc), (106, .box 25 (eBig x_6)), (107, .box 25 (eBig x_7))]⟩) rfl ?_
  refine Tri.seq (Tri.seq (Tri.regionL ?_))
  refine Oc rfl (op_field_p tyFld25_0 rfl rfl) (Oc rfl (op_load_p1 tyOne4 rfl rfl rfl) (Oc rfl (op_move rfl) ?_))
  refine OpsL.consG (!x_6.Bad) 99 [] (.plain rfl) (eq_f _) rfl rfl (fun g11 => trivial) (fun g11 => op_field_p tyFld25_0 rfl rfl) (OpsL.consG (!x_6.Bad) 99 [41] (.plain rfl) (eq_f _) rfl rfl (fun g12 => ⟨g12, trivial⟩) (fun g12 => op_load_p1 tyOne4 rfl rfl rfl) (Oc rfl (op_pick_or (fun e => by rw [e]; rfl) rfl rfl rfl rfl) (OpsL.nilS ⟨[(4, Pt 103 0), (7, Pt 106 0), (8, Pt 107 0), (43, B (x_6.Bad || x_7.Bad))], [(103, .box 27 zFrc), (106, .box 25 (eBig x_6)), (107, .box 25 (eBig x_7))]⟩ rfl (Tri.ite h rfl (fun _ h => ?_) (fun _ h => ?_)))))
  ·refine Tri.seq (Tri.regionL ?_)
   obtain ⟨x_8, e13, h⟩ := bnd h
   refine Oc rfl (op_call0 (ratio_Bad_spec e13) goes27 rfl rfl) (Oc rfl (op_store_p tyAgg27 rfl rfl rfl rfl (Nat.le_of_ble_eq_true rfl) rfl) ?_)
   refine OpsL.nilS ⟨[(4, Pt 103 0)], [(103, .box 27 (eFrc x_8))]⟩ rfl (Tri.ret (Fin.then_ret ?_))
   obtain rfl := Option.some.inj h
   refine Fin.keepS ⟨[(4, Pt 103 0)], [(103, .box 27 (eFrc x_8))]⟩ rfl (Fin.result' [.agg (eFrc x_8)] (.inl rfl) rfl (.cons (.agg tyAgg27 rfl rfl rfl rfl) .nil) ⟨rfl, rfl⟩)
  ·refine Tri.skip (Fin.keepS ⟨[(4, Pt 103 0), (7, Pt 106 0), (8, Pt 107 0)], [(103, .box 27 zFrc), (106, .box 25 (eBig x_6)), (107, .box 25 (eBig x_7))]⟩ rfl (Fin.then (Tri.seq (Tri.regionL ?_))))
   refine Oc rfl (op_load_p tyAgg25 rfl rfl rfl rfl) (Oc rfl (op_load_p tyAgg25 rfl rfl rfl rfl) (Oc rfl (op_build tyBuild27 rfl rfl) (Oc rfl (op_store_p tyAgg27 rfl rfl rfl rfl (Nat.le_of_ble_eq_true rfl) rfl) ?_)))
   refine OpsL.nilS ⟨[(4, Pt 103 0)], [(103, .box 27 (eBig x_6 ++ (eBig x_7)))]⟩ rfl (Tri.ret ?_)
   obtain rfl := Option.some.inj h
   refine Fin.keepS ⟨[(4, Pt 103 0)], [(103, .box 27 (eBig x_6 ++ (eBig x_7)))]⟩ rfl (Fin.result' [.agg (eBig x_6 ++ (eBig x_7))] (.inl rfl) rfl (.cons (.agg tyAgg27 rfl rfl rfl rfl) .nil) ⟨rfl, rfl⟩)
def ratio_Div_S (F : Nat) (x0 : Frc) (y0 : Frc) : Option Frc :=
 (ratio_Good_S F y0).bind fun x_1 => if (!x_1) = true then ((ratio_Bad_S F).bind fun x_2 => some x_2) else ((ratio_Make_S F y0.D y0.N).bind fun x_3 => (ratio_Mul_S F x0 x_3).bind fun x_4 => some x_4)
theorem ratio_Div_spec {F : Nat} {x0 : Frc} {y0 : Frc} {r : Frc} (h : ratio_Div_S F x0 y0 = some r) : Meets Tryz.prog (tabs mx) 46 [] [.agg (eFrc x0), .agg (eFrc y0)] (Is [] (.b (.agg (eFrc r)))) := by
 unfold ratio_Div_S at h
 refine Meets.intro 16 Tryz.func46 Tryz.ntmps46 rfl (by simp) fun E => ?_
 show Tri _ E ⟨16, [], []⟩ _ ⟨[(0, .b (.agg (eFrc x0))), (1, .b (.agg (eFrc y0)))], []⟩ _
 refine Tri.seq (Tri.regionL ?_)
 refine Oc rfl (op_box (k := 101) rfl rfl) (Oc rfl (op_box (k := 102) rfl rfl) (Oc rfl (op_alloc (k := 103) tyZero27 rfl) ?_))
 refine OpsL.nilS ⟨[(2, Pt 101 0), (3, Pt 102 0), (4, Pt 103 0)], [(101, .box 27 (eFrc x0)), (102, .box 27 (eFrc y0)), (103, .box 27 zFrc)]⟩ rfl (Tri.seq (Tri.seq (Tri.regionL ?_)))
 refine Oc rfl (op_load_p tyAgg27 rfl rfl rfl rfl) ?_
 obtain ⟨x_1, e1, h⟩ := bnd h
 refine Oc rfl (op_call0 (ratio_Good_spec e1) goes26 rfl rfl) (Oc rfl (op_not rfl) ?_)
 refine OpsL.nilS ⟨[(2, Pt 101 0), (3, Pt 102 0), (4, Pt 103 0), (7, B (!x_1))], [(101, .box 27 (eFrc x0)), (102, .box 27 (eFrc y0)), (103, .box 27 zFrc)]⟩ rfl (Tri.ite h rfl (fun _ h => ?_) (fun _ h => ?_))
 ·refine Tri.seq (Tri.regionL ?_)
  obtain ⟨x_2, e2, h⟩ := bnd h
  refine Oc rfl (op_call0 (ratio_Bad_spec e2) goes27 rfl rfl) (Oc rfl (op_store_p tyAgg27 rfl rfl rfl rfl (Nat.le_of_ble_eq_true rfl) rfl) ?_)
  refine OpsL.nilS ⟨[(4, Pt 103 0)], [(103, .box 27 (eFrc x_2))]⟩ rfl (Tri.ret (Fin.then_ret ?_))
  obtain rfl := Option.some.inj h
  refine Fin.keepS ⟨[(4, Pt 103 0)], [(103, .box 27 (eFrc x_2))]⟩ rfl (Fin.result' [.agg (eFrc x_2)] (.inl rfl) rfl (.cons (.agg tyAgg27 rfl rfl rfl rfl) .nil) ⟨rfl, rfl⟩)
 ·refine Tri.skip (Fin.keepS ⟨[(2, Pt 101 0), (3, Pt 102 0), (4, Pt 103 0)], [(101, .box 27 (eFrc x0)), (102, .box 27 (eFrc y0)), (103, .box 27 zFrc)]⟩ rfl (Fin.then (Tri.seq ?_)))
  refine Tri.keepS ⟨[(2, Pt 101 0), (3, Pt 102 0), (4, Pt 103 0)], [(101, .box 27 (eFrc x0)), (102, .box 27 (eFrc y0)), (103, .box 27 zFrc)]⟩ rfl ?_
  obtain ⟨x_3, e3, h⟩ := bnd h
  obtain ⟨x_4, e4, h⟩ := bnd h
  refine Tri.regionY mixed 7 [.b (.agg (eFrc x0)), Pt 102 18, .b (.agg (eBig y0.D)), Pt 102 0, .b (.agg (eBig y0.N)), .b (.agg (eFrc x_3)), .b (.agg (eFrc x_4))] [4] [103] (s' := ⟨[(4, Pt 103 0)], [(103, .box 27 (eFrc x_4))]⟩) rfl ⟨fun _ => .plain rfl (op_load_p tyAgg27 rfl rfl rfl rfl), fun _ => .plain rfl (op_field_p tyFld27_1 rfl rfl), fun _ => .plain rfl (op_load_p tyAgg25 rfl rfl rfl rfl), fun _ => .plain rfl (op_field_p tyFld27_0 rfl rfl), fun _ => .plain rfl (op_load_p tyAgg25 rfl rfl rfl rfl), fun _ => .plain rfl (op_call0 (ratio_Make_spec e3) goes11 rfl rfl), fun _ => .plain rfl (op_call0 (ratio_Mul_spec e4) goes45 rfl rfl), trivial⟩ ⟨_, by exact .plain rfl (op_store_p tyAgg27 rfl rfl rfl rfl (Nat.le_of_ble_eq_true rfl) rfl), rfl⟩ rfl (Tri.ret ?_)
  obtain rfl := Option.some.inj h
  refine Fin.keepS ⟨[(4, Pt 103 0)], [(103, .box 27 (eFrc x_4))]⟩ rfl (Fin.result' [.agg (eFrc x_4)] (.inl rfl) rfl (.cons (.agg tyAgg27 rfl rfl rfl rfl) .nil) ⟨rfl, rfl⟩)
def ratio_Floor_S (F : Nat) (x0 : Frc) : Option Big :=
 (ratio_Good_S F x0).bind fun x_1 => if (!x_1) = true then ((whole_Bad_S F).bind fun x_2 => some x_2) else ((whole_Quo_S F x0.N x0.D).bind fun x_3 => some x_3)
theorem ratio_Floor_spec {F : Nat} {x0 : Frc} {r : Big} (h : ratio_Floor_S F x0 = some r) : Meets Tryz.prog (tabs mx) 31 [] [.agg (eFrc x0)] (Is [] (.b (.agg (eBig r)))) := by
 unfold ratio_Floor_S at h
 refine Meets.intro 12 Tryz.func31 Tryz.ntmps31 rfl (by simp) fun E => ?_
 show Tri _ E ⟨12, [], []⟩ _ ⟨[(0, .b (.agg (eFrc x0)))], []⟩ _
 refine Tri.seq (Tri.regionL ?_)
 refine Oc rfl (op_box (k := 101) rfl rfl) (Oc rfl (op_alloc (k := 102) tyZero25 rfl) ?_)
 refine OpsL.nilS ⟨[(1, Pt 101 0), (2, Pt 102 0)], [(101, .box 27 (eFrc x0)), (102, .box 25 zBig)]⟩ rfl (Tri.seq (Tri.seq (Tri.regionL ?_)))
 refine Oc rfl (op_load_p tyAgg27 rfl rfl rfl rfl) ?_
 obtain ⟨x_1, e1, h⟩ := bnd h
 refine Oc rfl (op_call0 (ratio_Good_spec e1) goes26 rfl rfl) (Oc rfl (op_not rfl) ?_)
 refine OpsL.nilS ⟨[(1, Pt 101 0), (2, Pt 102 0), (5, B (!x_1))], [(101, .box 27 (eFrc x0)), (102, .box 25 zBig)]⟩ rfl (Tri.ite h rfl (fun _ h => ?_) (fun _ h => ?_))
 ·refine Tri.seq (Tri.regionL ?_)
  obtain ⟨x_2, e2, h⟩ := bnd h
  refine Oc rfl (op_call0 (whole_Bad_spec e2) goes92 rfl rfl) (Oc rfl (op_store_p tyAgg25 rfl rfl rfl rfl (Nat.le_of_ble_eq_true rfl) rfl) ?_)
  refine OpsL.nilS ⟨[(2, Pt 102 0)], [(102, .box 25 (eBig x_2))]⟩ rfl (Tri.ret (Fin.then_ret ?_))
  obtain rfl := Option.some.inj h
  refine Fin.keepS ⟨[(2, Pt 102 0)], [(102, .box 25 (eBig x_2))]⟩ rfl (Fin.result' [.agg (eBig x_2)] (.inl rfl) rfl (.cons (.agg tyAgg25 rfl rfl rfl rfl) .nil) ⟨rfl, rfl⟩)
 ·refine Tri.skip (Fin.keepS ⟨[(1, Pt 101 0), (2, Pt 102 0)], [(101, .box 27 (eFrc x0)), (102, .box 25 zBig)]⟩ rfl (Fin.then (Tri.seq (Tri.regionL ?_))))
  refine Oc rfl (op_field_p tyFld27_0 rfl rfl) (Oc rfl (op_load_p tyAgg25 rfl rfl rfl rfl) (Oc rfl (op_field_p tyFld27_1 rfl rfl) (Oc rfl (op_load_p tyAgg25 rfl rfl rfl rfl) ?_)))
  obtain ⟨x_3, e3, h⟩ := bnd h
  refine Oc rfl (op_call0 (whole_Quo_spec e3) goes75 rfl rfl) (Oc rfl (op_store_p tyAgg25 rfl rfl rfl rfl (Nat.le_of_ble_eq_true rfl) rfl) ?_)
  refine OpsL.nilS ⟨[(2, Pt 102 0)], [(102, .box 25 (eBig x_3))]⟩ rfl (Tri.ret ?_)
  obtain rfl := Option.some.inj h
  refine Fin.keepS ⟨[(2, Pt 102 0)], [(102, .box 25 (eBig x_3))]⟩ rfl (Fin.result' [.agg (eBig x_3)] (.inl rfl) rfl (.cons (.agg tyAgg25 rfl rfl rfl rfl) .nil) ⟨rfl, rfl⟩)
def ratio_Neg_S (F : Nat) (x0 : Frc) : Option Frc :=
 (ratio_Good_S F x0).bind fun x_1 => if (!x_1) = true then ((ratio_Bad_S F).bind fun x_2 => some x_2) else ((whole_Neg_S F x0.N).bind fun x_3 => some (⟨x_3, x0.D⟩ : Frc))
theorem ratio_Neg_spec {F : Nat} {x0 : Frc} {r : Frc} (h : ratio_Neg_S F x0 = some r) : Meets Tryz.prog (tabs mx) 43 [] [.agg (eFrc x0)] (Is [] (.b (.agg (eFrc r)))) := by
 unfold ratio_Neg_S at h
 refine Meets.intro 13 Tryz.func43 Tryz.ntmps43 rfl (by simp) fun E => ?_
 show Tri _ E ⟨13, [], []⟩ _ ⟨[(0, .b (.agg (eFrc x0)))], []⟩ _
 refine Tri.seq (Tri.regionL ?_)
 refine Oc rfl (op_box (k := 101) rfl rfl) (Oc rfl (op_alloc (k := 102) tyZero27 rfl) ?_)
 refine OpsL.nilS ⟨[(1, Pt 101 0), (2, Pt 102 0)], [(101, .box 27 (eFrc x0)), (102, .box 27 zFrc)]⟩ rfl (Tri.seq (Tri.seq (Tri.regionL ?_)))
 refine Oc rfl (op_load_p tyAgg27 rfl rfl rfl rfl) ?_
 obtain ⟨x_1, e1, h⟩ := bnd h
 refine Oc rfl (op_call0 (ratio_Good_spec e1) goes26 rfl rfl) (Oc rfl (op_not rfl) ?_)
 refine OpsL.nilS ⟨[(1, Pt 101 0), (2, Pt 102 0), (5, B (!x_1))], [(101, .box 27 (eFrc x0)), (102, .box 27 zFrc)]⟩ rfl (Tri.ite h rfl (fun _ h => ?_) (fun _ h => ?_))
 ·refine Tri.seq (Tri.regionL ?_)
  obtain ⟨x_2, e2, h⟩ := bnd h
  refine Oc rfl (op_call0 (ratio_Bad_spec e2) goes27 rfl rfl) (Oc rfl (op_store_p tyAgg27 rfl rfl rfl rfl (Nat.le_of_ble_eq_true rfl) rfl) ?_)
  refine OpsL.nilS ⟨[(2, Pt 102 0)], [(102, .box 27 (eFrc x_2))]⟩ rfl (Tri.ret (Fin.then_ret ?_))
  obtain rfl := Option.some.inj h
  refine Fin.keepS ⟨[(2, Pt 102 0)], [(102, .box 27 (eFrc x_2))]⟩ rfl (Fin.result' [.agg (eFrc x_2)] (.inl rfl) rfl (.cons (.agg tyAgg27 rfl rfl rfl rfl) .nil) ⟨rfl, rfl⟩)
 ·refine Tri.skip (Fin.keepS ⟨[(1, Pt 101 0), (2, Pt 102 0)], [(101, .box 27 (eFrc x0)), (102, .box 27 zFrc)]⟩ rfl (Fin.then (Tri.seq ?_)))
  refine Tri.keepS ⟨[(1, Pt 101 0), (2, Pt 102 0)], [(101, .box 27 (eFrc x0)), (102, .box 27 zFrc)]⟩ rfl ?_
  obtain ⟨x_3, e3, h⟩ := bnd h
  refine Tri.regionY mixed 6 [Pt 101 0, .b (.agg (eBig x0.N)), .b (.agg (eBig x_3)), Pt 101 18, .b (.agg (eBig x0.D)), .b (.agg (eBig x_3 ++ (eBig x0.D)))] [2] [102] (s' := ⟨[(2, Pt 102 0)], [(102, .box 27 (eBig x_3 ++ (eBig x0.D)))]⟩) rfl ⟨fun _ => .plain rfl (op_field_p tyFld27_0 rfl rfl), fun _ => .plain rfl (op_load_p tyAgg25 rfl rfl rfl rfl), fun _ => .plain rfl (op_call0 (whole_Neg_spec e3) goes74 rfl rfl), fun _ => .plain rfl (op_field_p tyFld27_1 rfl rfl), fun _ => .plain rfl (op_load_p tyAgg25 rfl rfl rfl rfl), fun _ => .plain rfl (op_build tyBuild27 rfl rfl), trivial⟩ ⟨_, by exact .plain rfl (op_store_p tyAgg27 rfl rfl rfl rfl (Nat.le_of_ble_eq_true rfl) rfl), rfl⟩ rfl (Tri.ret ?_)
  obtain rfl := Option.some.inj h
  refine Fin.keepS ⟨[(2, Pt 102 0)], [(102, .box 27 (eBig x_3 ++ (eBig x0.D)))]⟩ rfl (Fin.result' [.agg (eBig x_3 ++ (eBig x0.D))] (.inl rfl) rfl (.cons (.agg tyAgg27 rfl rfl rfl rfl) .nil) ⟨rfl, rfl⟩)
def ratio_Ceil_S (F : Nat) (x0 : Frc) : Option Big :=
 (ratio_Neg_S F x0).bind fun x_1 => (ratio_Floor_S F x_1).bind fun x_2 => (whole_Neg_S F x_2).bind fun x_3 => some x_3
theorem ratio_Ceil_spec {F : Nat} {x0 : Frc} {r : Big} (h : ratio_Ceil_S F x0 = some r) : Meets Tryz.prog (tabs mx) 33 [] [.agg (eFrc x0)] (Is [] (.b (.agg (eBig r)))) := by
 unfold ratio_Ceil_S at h
 refine Meets.intro 7 Tryz.func33 Tryz.ntmps33 rfl (by simp) fun E => ?_
 show Tri _ E ⟨7, [], []⟩ _ ⟨[(0, .b (.agg (eFrc x0)))], []⟩ _
 refine Tri.seq (Tri.regionL ?_)
 refine Oc rfl (op_box (k := 101) rfl rfl) (Oc rfl (op_alloc (k := 102) tyZero25 rfl) ?_)
 refine OpsL.nilS ⟨[(1, Pt 101 0), (2, Pt 102 0)], [(101, .box 27 (eFrc x0)), (102, .box 25 zBig)]⟩ rfl (Tri.seq (Tri.regionL ?_))
 refine Oc rfl (op_load_p tyAgg27 rfl rfl rfl rfl) ?_
 obtain ⟨x_1, e1, h⟩ := bnd h
 refine Oc rfl (op_call0 (ratio_Neg_spec e1) goes43 rfl rfl) ?_
 obtain ⟨x_2, e2, h⟩ := bnd h
 refine Oc rfl (op_call0 (ratio_Floor_spec e2) goes31 rfl rfl) ?_
 obtain ⟨x_3, e3, h⟩ := bnd h
 refine Oc rfl (op_call0 (whole_Neg_spec e3) goes74 rfl rfl) (Oc rfl (op_store_p tyAgg25 rfl rfl rfl rfl (Nat.le_of_ble_eq_true rfl) rfl) ?_)
 refine OpsL.nilS ⟨[(2, Pt 102 0)], [(102, .box 25 (eBig x_3))]⟩ rfl (Tri.ret ?_)
 obtain rfl := Option.some.inj h
 refine Fin.keepS ⟨[(2, Pt 102 0)], [(102, .box 25 (eBig x_3))]⟩ rfl (Fin.result' [.agg (eBig x_3)] (.inl rfl) rfl (.cons (.agg tyAgg25 rfl rfl rfl rfl) .nil) ⟨rfl, rfl⟩)
def whole_Rem_S (F : Nat) (a0 : Big) (b0 : Big) : Option Big :=
 Option.bind (whole_divided_S F a0 b0) (un2 fun x_1 x_2 => some x_2)
theorem whole_Rem_spec {F : Nat} {a0 : Big} {b0 : Big} {r : Big} (h : whole_Rem_S F a0 b0 = some r) : Meets Tryz.prog (tabs mx) 94 [] [.agg (eBig a0), .agg (eBig b0)] (Is [] (.b (.agg (eBig r)))) := by
 unfold whole_Rem_S at h
 refine Meets.intro 14 Tryz.func94 Tryz.ntmps94 rfl (by simp) fun E => ?_
 show Tri _ E ⟨14, [], []⟩ _ ⟨[(0, .b (.agg (eBig a0))), (1, .b (.agg (eBig b0)))], []⟩ _
 refine Tri.seq (Tri.regionL ?_)
 refine Oc rfl (op_box (k := 101) rfl rfl) (Oc rfl (op_box (k := 102) rfl rfl) (Oc rfl (op_alloc (k := 103) tyZero25 rfl) ?_))
 refine OpsL.nilS ⟨[(2, Pt 101 0), (3, Pt 102 0), (4, Pt 103 0)], [(101, .box 25 (eBig a0)), (102, .box 25 (eBig b0)), (103, .box 25 zBig)]⟩ rfl (Tri.seq (Tri.regionL ?_))
 refine Oc rfl (op_load_p tyAgg25 rfl rfl rfl rfl) (Oc rfl (op_load_p tyAgg25 rfl rfl rfl rfl) ?_)
 obtain ⟨⟨x_1, x_2⟩, e1, h⟩ := bnd h
 refine Oc rfl (op_call0 (whole_divided_spec e1) goes118 rfl rfl) (Oc rfl (op_move rfl) (Oc rfl (op_extract rfl rfl) ?_))
 refine OpsL.keepS ⟨[(4, Pt 103 0), (7, .tup [.agg (eBig x_1), .agg (eBig x_2)]), (11, .b (.agg (eBig x_1)))], [(103, .box 25 zBig)]⟩ rfl (Oc rfl (op_extract rfl rfl) (Oc rfl (op_alloc (k := 104) tyZero25 rfl) (Oc rfl (op_alloc (k := 105) tyZero25 rfl) (Oc rfl (op_store_p tyAgg25 rfl rfl rfl rfl (Nat.le_of_ble_eq_true rfl) rfl) (Oc rfl (op_store_p tyAgg25 rfl rfl rfl rfl (Nat.le_of_ble_eq_true rfl) rfl) ?_)))))
 refine OpsL.nilS ⟨[(4, Pt 103 0), (6, Pt 105 0)], [(103, .box 25 zBig), (105, .box 25 (eBig x_2))]⟩ rfl (Tri.seq (Tri.regionL ?_))
 refine Oc rfl (op_load_p tyAgg25 rfl rfl rfl rfl) (Oc rfl (op_store_p tyAgg25 rfl rfl rfl rfl (Nat.le_of_ble_eq_true rfl) rfl) ?_)
 refine OpsL.nilS ⟨[(4, Pt 103 0)], [(103, .box 25 (eBig x_2))]⟩ rfl (Tri.ret ?_)
 obtain rfl := Option.some.inj h
 refine Fin.keepS ⟨[(4, Pt 103 0)], [(103, .box 25 (eBig x_2))]⟩ rfl (Fin.result' [.agg (eBig x_2)] (.inl rfl) rfl (.cons (.agg tyAgg25 rfl rfl rfl rfl) .nil) ⟨rfl, rfl⟩)
def whole_Cmp_S (F : Nat) (a0 : Big) (b0 : Big) : Option Int :=
 (whole_good_S F [a0]).bind fun x_1 => (whole_good_S F [b0]).bind fun x_2 => if ((!x_1) && (!x_2)) = true then (some 0) else (if (!x_1) = true then (some (-1)) else (if (!x_2) = true then (some 1) else (if (a0.Neg != b0.Neg) = true then (if a0.Neg = true then (some (-1)) else (some 1)) else (if a0.Neg = true then ((whole_order_S F b0.W a0.W).bind fun x_3 => some x_3) else ((whole_order_S F a0.W b0.W).bind fun x_4 => some x_4)))))
theorem whole_Cmp_spec {F : Nat} {a0 : Big} {b0 : Big} {r : Int} (h : whole_Cmp_S F a0 b0 = some r) : Meets Tryz.prog (tabs mx) 95 [] [.agg (eBig a0), .agg (eBig b0)] (Is [] (.b (.one (.i r)))) := by
 unfold whole_Cmp_S at h
 refine Meets.intro 47 Tryz.func95 Tryz.ntmps95 rfl (by simp) fun E => ?_
 show Tri _ E ⟨47, [], []⟩ _ ⟨[(0, .b (.agg (eBig a0))), (1, .b (.agg (eBig b0)))], []⟩ _
 refine Tri.seq (Tri.regionL ?_)
 refine Oc rfl (op_box (k := 101) rfl rfl) (Oc rfl (op_box (k := 102) rfl rfl) (Oc rfl (op_assign rfl) ?_))
 refine OpsL.nilS ⟨[(2, Pt 101 0), (3, Pt 102 0)], [(101, .box 25 (eBig a0)), (102, .box 25 (eBig b0))]⟩ rfl (Tri.seq ?_)
 obtain ⟨x_1, e1, h⟩ := bnd h
 obtain ⟨x_2, e2, h⟩ := bnd h
 refine Tri.regionY mixed 8 [.b (.agg (eBig a0)), .b (.one (.sl 18 ([a0].map eBig))), B x_1, .b (.agg (eBig b0)), .b (.one (.sl 18 ([b0].map eBig))), B x_2, B x_1, B x_2] [2, 3, 5, 6] [101, 102] (s' := ⟨[(2, Pt 101 0), (3, Pt 102 0), (5, B x_1), (6, B x_2)], [(101, .box 25 (eBig a0)), (102, .box 25 (eBig b0))]⟩) rfl ⟨fun _ => .plain rfl (op_load_p tyAgg25 rfl rfl rfl rfl), fun _ => .plain rfl (op_buildSliceP (es := [a0].map eBig) tySl117 rfl rfl (uni_map fun _ => rfl) rfl (by decide) (by decide)), fun _ => .plain rfl (op_call0 (whole_good_spec e1) goes113 rfl rfl), fun _ => .plain rfl (op_load_p tyAgg25 rfl rfl rfl rfl), fun _ => .plain rfl (op_buildSliceP (es := [b0].map eBig) tySl117 rfl rfl (uni_map fun _ => rfl) rfl (by decide) (by decide)), fun _ => .plain rfl (op_call0 (whole_good_spec e2) goes113 rfl rfl), fun _ => .plain rfl (op_assign rfl), fun _ => .plain rfl (op_assign rfl), trivial⟩ rfl rfl (Tri.seq (Tri.block (Tri.seq (Tri.regionL ?_))))
 refine Oc rfl (op_move rfl) (Oc rfl (op_not rfl) (Oc rfl (op_move rfl) ?_))
 refine OpsL.consG (!x_1) 99 [] (.plain rfl) (eq_t _) rfl rfl (fun g3 => trivial) (fun g3 => op_move rfl) (OpsL.consG (!x_1) 99 [17] (.plain rfl) (eq_t _) rfl rfl (fun g4 => ⟨g4, trivial⟩) (fun g4 => op_not rfl) (Oc rfl (op_pick_and (fun e => e) rfl rfl rfl rfl) (Oc rfl (op_assign rfl) ?_)))
 refine OpsL.nilS ⟨[(2, Pt 101 0), (3, Pt 102 0), (5, B x_1), (6, B x_2), (13, B ((!x_1) && (!x_2)))], [(101, .box 25 (eBig a0)), (102, .box 25 (eBig b0))]⟩ rfl (Tri.ite h rfl (fun _ h => ?_) (fun _ h => ?_))
 ·refine Tri.seq (Tri.regionL ?_)
  refine Oc rfl (op_assign rfl) (OpsL.nilS ⟨[(4, I 0)], []⟩ rfl (Tri.ret (Fin.block_ret (Fin.then_ret ?_))))
  obtain rfl := Option.some.inj h
  refine Fin.keepS ⟨[(4, I 0)], []⟩ rfl (Fin.result' [.one (.i 0)] (.inl rfl) rfl (.cons (.tmp rfl) .nil) ⟨rfl, rfl⟩)
 ·refine Tri.seq (Tri.regionL ?_)
  refine Oc rfl (op_move rfl) (Oc rfl (op_not rfl) (Oc rfl (op_assign rfl) ?_))
  refine OpsL.nilS ⟨[(2, Pt 101 0), (3, Pt 102 0), (6, B x_2), (20, B (!x_1))], [(101, .box 25 (eBig a0)), (102, .box 25 (eBig b0))]⟩ rfl (Tri.ite h rfl (fun _ h => ?_) (fun _ h => ?_))
  ·refine Tri.seq (Tri.regionL ?_)
   refine Oc rfl (op_assign rfl) (OpsL.nilS ⟨[(4, I (-1))], []⟩ rfl (Tri.ret (Fin.block_ret (Fin.then_ret ?_))))
   obtain rfl := Option.some.inj h
   refine Fin.keepS ⟨[(4, I (-1))], []⟩ rfl (Fin.result' [.one (.i (-1))] (.inl rfl) rfl (.cons (.tmp rfl) .nil) ⟨rfl, rfl⟩)
  ·refine Tri.seq (Tri.regionL ?_)
   refine Oc rfl (op_move rfl) (Oc rfl (op_not rfl) (Oc rfl (op_assign rfl) ?_))
   refine OpsL.nilS ⟨[(2, Pt 101 0), (3, Pt 102 0), (23, B (!x_2))], [(101, .box 25 (eBig a0)), (102, .box 25 (eBig b0))]⟩ rfl (Tri.ite h rfl (fun _ h => ?_) (fun _ h => ?_))
   ·refine Tri.seq (Tri.regionL ?_)
    refine Oc rfl (op_assign rfl) (OpsL.nilS ⟨[(4, I 1)], []⟩ rfl (Tri.ret (Fin.block_ret (Fin.then_ret ?_))))
    obtain rfl := Option.some.inj h
    refine Fin.keepS ⟨[(4, I 1)], []⟩ rfl (Fin.result' [.one (.i 1)] (.inl rfl) rfl (.cons (.tmp rfl) .nil) ⟨rfl, rfl⟩)
   ·refine Tri.seq (Tri.regionL ?_)
    refine Oc rfl (op_field_p tyFld25_1 rfl rfl) (Oc rfl (op_load_p1 tyOne4 rfl rfl rfl) (Oc rfl (op_field_p tyFld25_1 rfl rfl) (Oc rfl (op_load_p1 tyOne4 rfl rfl rfl) (Oc rfl (op_neq_bool und4 rfl rfl) (Oc rfl (op_assign rfl) ?_)))))
    refine OpsL.nilS ⟨[(2, Pt 101 0), (3, Pt 102 0), (26, B (a0.Neg != b0.Neg))], [(101, .box 25 (eBig a0)), (102, .box 25 (eBig b0))]⟩ rfl (Tri.ite h rfl (fun _ h => ?_) (fun _ h => ?_))
    ·refine Tri.seq (Tri.seq (Tri.regionL ?_))
     refine Oc rfl (op_field_p tyFld25_1 rfl rfl) (Oc rfl (op_load_p1 tyOne4 rfl rfl rfl) ?_)
     refine OpsL.nilS ⟨[(33, B a0.Neg)], []⟩ rfl (Tri.ite h rfl (fun _ h => ?_) (fun _ h => ?_))
     ·refine Tri.seq (Tri.regionL ?_)
      refine Oc rfl (op_assign rfl) (OpsL.nilS ⟨[(4, I (-1))], []⟩ rfl (Tri.ret (Fin.then_ret (Fin.block_ret (Fin.then_ret ?_)))))
      obtain rfl := Option.some.inj h
      refine Fin.keepS ⟨[(4, I (-1))], []⟩ rfl (Fin.result' [.one (.i (-1))] (.inl rfl) rfl (.cons (.tmp rfl) .nil) ⟨rfl, rfl⟩)
     ·refine Tri.skip (Fin.keepS ⟨[], []⟩ rfl (Fin.then (Tri.seq (Tri.regionL ?_))))
      refine Oc rfl (op_assign rfl) (OpsL.nilS ⟨[(4, I 1)], []⟩ rfl (Tri.ret (Fin.block_ret (Fin.then_ret ?_))))
      obtain rfl := Option.some.inj h
      refine Fin.keepS ⟨[(4, I 1)], []⟩ rfl (Fin.result' [.one (.i 1)] (.inl rfl) rfl (.cons (.tmp rfl) .nil) ⟨rfl, rfl⟩)
    ·refine Tri.seq (Tri.regionL ?_)
     refine Oc rfl (op_field_p tyFld25_1 rfl rfl) (Oc rfl (op_load_p1 tyOne4 rfl rfl rfl) (Oc rfl (op_assign rfl) ?_))
     refine OpsL.nilS ⟨[(2, Pt 101 0), (3, Pt 102 0), (34, B a0.Neg)], [(101, .box 25 (eBig a0)), (102, .box 25 (eBig b0))]⟩ rfl (Tri.ite h rfl (fun _ h => ?_) (fun _ h => ?_))
     ·refine Tri.seq (Tri.regionL ?_)
      refine Oc rfl (op_field_p tyFld25_2 rfl rfl) (Oc rfl (op_load_p tyAgg23 rfl rfl rfl rfl) (Oc rfl (op_field_p tyFld25_2 rfl rfl) (Oc rfl (op_load_p tyAgg23 rfl rfl rfl rfl) ?_)))
      obtain ⟨x_3, e5, h⟩ := bnd h
      refine Oc rfl (op_call0 (whole_order_spec e5) goes127 rfl rfl) (Oc rfl (op_assign rfl) ?_)
      refine OpsL.nilS ⟨[(4, I x_3)], []⟩ rfl (Tri.ret (Fin.block_ret (Fin.then_ret ?_)))
      obtain rfl := Option.some.inj h
      refine Fin.keepS ⟨[(4, I x_3)], []⟩ rfl (Fin.result' [.one (.i x_3)] (.inl rfl) rfl (.cons (.tmp rfl) .nil) ⟨rfl, rfl⟩)
     ·refine Tri.skip (Fin.block_normal (Fin.keepS ⟨[(2, Pt 101 0), (3, Pt 102 0)], [(101, .box 25 (eBig a0)), (102, .box 25 (eBig b0))]⟩ rfl (Fin.then (Tri.seq (Tri.regionL ?_)))))
      refine Oc rfl (op_field_p tyFld25_2 rfl rfl) (Oc rfl (op_load_p tyAgg23 rfl rfl rfl rfl) (Oc rfl (op_field_p tyFld25_2 rfl rfl) (Oc rfl (op_load_p tyAgg23 rfl rfl rfl rfl) ?_)))
      obtain ⟨x_4, e6, h⟩ := bnd h
      refine Oc rfl (op_call0 (whole_order_spec e6) goes127 rfl rfl) (Oc rfl (op_assign rfl) ?_)
      refine OpsL.nilS ⟨[(4, I x_4)], []⟩ rfl (Tri.ret ?_)
      obtain rfl := Option.some.inj h
      refine Fin.keepS ⟨[(4, I x_4)], []⟩ rfl (Fin.result' [.one (.i x_4)] (.inl rfl) rfl (.cons (.tmp rfl) .nil) ⟨rfl, rfl⟩)
def ratio_Near_S (F : Nat) (x0 : Frc) : Option Big :=
 (ratio_Floor_S F x0).bind fun x_1 => if x_1.Bad = true then (some x_1) else ((whole_Rem_S F x0.N x0.D).bind fun x_2 => (whole_Sub_S F x0.D x_2).bind fun x_3 => (whole_Cmp_S F x_2 x_3).bind fun x_4 => if (decide (0 ≤ x_4)) = true then ((ratio_one_S F).bind fun x_5 => (whole_Add_S F x_1 x_5).bind fun x_6 => some x_6) else (some x_1))
theorem ratio_Near_spec {F : Nat} {x0 : Frc} {r : Big} (h : ratio_Near_S F x0 = some r) : Meets Tryz.prog (tabs mx) 35 [] [.agg (eFrc x0)] (Is [] (.b (.agg (eBig r)))) := by
 unfold ratio_Near_S at h
 refine Meets.intro 26 Tryz.func35 Tryz.ntmps35 rfl (by simp) fun E => ?_
 show Tri _ E ⟨26, [], []⟩ _ ⟨[(0, .b (.agg (eFrc x0)))], []⟩ _
 refine Tri.seq (Tri.regionL ?_)
 refine Oc rfl (op_box (k := 101) rfl rfl) (Oc rfl (op_alloc (k := 102) tyZero25 rfl) ?_)
 refine OpsL.nilS ⟨[(1, Pt 101 0), (2, Pt 102 0)], [(101, .box 27 (eFrc x0)), (102, .box 25 zBig)]⟩ rfl (Tri.seq (Tri.regionL ?_))
 refine Oc rfl (op_load_p tyAgg27 rfl rfl rfl rfl) ?_
 obtain ⟨x_1, e1, h⟩ := bnd h
 refine Oc rfl (op_call0 (ratio_Floor_spec e1) goes31 rfl rfl) (Oc rfl (op_alloc (k := 103) tyZero25 rfl) (Oc rfl (op_store_p tyAgg25 rfl rfl rfl rfl (Nat.le_of_ble_eq_true rfl) rfl) ?_))
 refine OpsL.nilS ⟨[(1, Pt 101 0), (2, Pt 102 0), (3, Pt 103 0)], [(101, .box 27 (eFrc x0)), (102, .box 25 zBig), (103, .box 25 (eBig x_1))]⟩ rfl (Tri.seq (Tri.seq (Tri.regionL ?_)))
 refine Oc rfl (op_field_p tyFld25_0 rfl rfl) (Oc rfl (op_load_p1 tyOne4 rfl rfl rfl) ?_)
 refine OpsL.nilS ⟨[(1, Pt 101 0), (2, Pt 102 0), (3, Pt 103 0), (8, B x_1.Bad)], [(101, .box 27 (eFrc x0)), (102, .box 25 zBig), (103, .box 25 (eBig x_1))]⟩ rfl (Tri.ite h rfl (fun _ h => ?_) (fun _ h => ?_))
 ·refine Tri.seq (Tri.regionL ?_)
  refine Oc rfl (op_load_p tyAgg25 rfl rfl rfl rfl) (Oc rfl (op_store_p tyAgg25 rfl rfl rfl rfl (Nat.le_of_ble_eq_true rfl) rfl) ?_)
  refine OpsL.nilS ⟨[(2, Pt 102 0)], [(102, .box 25 (eBig x_1))]⟩ rfl (Tri.ret (Fin.then_ret ?_))
  obtain rfl := Option.some.inj h
  refine Fin.keepS ⟨[(2, Pt 102 0)], [(102, .box 25 (eBig x_1))]⟩ rfl (Fin.result' [.agg (eBig x_1)] (.inl rfl) rfl (.cons (.agg tyAgg25 rfl rfl rfl rfl) .nil) ⟨rfl, rfl⟩)
 ·refine Tri.skip (Fin.keepS ⟨[(1, Pt 101 0), (2, Pt 102 0), (3, Pt 103 0)], [(101, .box 27 (eFrc x0)), (102, .box 25 zBig), (103, .box 25 (eBig x_1))]⟩ rfl (Fin.then (Tri.seq (Tri.seq (Tri.regionL ?_)))))
  refine Oc rfl (op_field_p tyFld27_0 rfl rfl) (Oc rfl (op_load_p tyAgg25 rfl rfl rfl rfl) (Oc rfl (op_field_p tyFld27_1 rfl rfl) (Oc rfl (op_load_p tyAgg25 rfl rfl rfl rfl) ?_)))
  obtain ⟨x_2, e2, h⟩ := bnd h
  refine Oc rfl (op_call0 (whole_Rem_spec e2) goes94 rfl rfl) (Oc rfl (op_alloc (k := 104) tyZero25 rfl) (Oc rfl (op_store_p tyAgg25 rfl rfl rfl rfl (Nat.le_of_ble_eq_true rfl) rfl) ?_))
  refine OpsL.nilS ⟨[(1, Pt 101 0), (2, Pt 102 0), (3, Pt 103 0), (4, Pt 104 0)], [(101, .box 27 (eFrc x0)), (102, .box 25 zBig), (103, .box 25 (eBig x_1)), (104, .box 25 (eBig x_2))]⟩ rfl (Tri.seq ?_)
  obtain ⟨x_3, e3, h⟩ := bnd h
  obtain ⟨x_4, e4, h⟩ := bnd h
  refine Tri.regionY mixed 7 [.b (.agg (eBig x_2)), Pt 101 18, .b (.agg (eBig x0.D)), .b (.agg (eBig x_2)), .b (.agg (eBig x_3)), I x_4, B (decide (0 ≤ x_4))] [2, 3, 21] [102, 103] (s' := ⟨[(2, Pt 102 0), (3, Pt 103 0), (21, B (decide (0 ≤ x_4)))], [(102, .box 25 zBig), (103, .box 25 (eBig x_1))]⟩) rfl ⟨fun _ => .plain rfl (op_load_p tyAgg25 rfl rfl rfl rfl), fun _ => .plain rfl (op_field_p tyFld27_1 rfl rfl), fun _ => .plain rfl (op_load_p tyAgg25 rfl rfl rfl rfl), fun _ => .plain rfl (op_load_p tyAgg25 rfl rfl rfl rfl), fun _ => .plain rfl (op_call0 (whole_Sub_spec e3) goes96 rfl rfl), fun _ => .plain rfl (op_call0 (whole_Cmp_spec e4) goes95 rfl rfl), fun _ => .plain rfl (op_geq rfl rfl), trivial⟩ rfl rfl (Tri.ite h rfl (fun _ h => ?_) (fun _ h => ?_))
  ·refine Tri.seq (Tri.keepS ⟨[(2, Pt 102 0), (3, Pt 103 0)], [(102, .box 25 zBig), (103, .box 25 (eBig x_1))]⟩ rfl ?_)
   obtain ⟨x_5, e5, h⟩ := bnd h
   obtain ⟨x_6, e6, h⟩ := bnd h
   refine Tri.regionY mixed 3 [.b (.agg (eBig x_1)), .b (.agg (eBig x_5)), .b (.agg (eBig x_6))] [2] [102] (s' := ⟨[(2, Pt 102 0)], [(102, .box 25 (eBig x_6))]⟩) rfl ⟨fun _ => .plain rfl (op_load_p tyAgg25 rfl rfl rfl rfl), fun _ => .plain rfl (op_call0 (ratio_one_spec e5) goes90 rfl rfl), fun _ => .plain rfl (op_call0 (whole_Add_spec e6) goes97 rfl rfl), trivial⟩ ⟨_, by exact .plain rfl (op_store_p tyAgg25 rfl rfl rfl rfl (Nat.le_of_ble_eq_true rfl) rfl), rfl⟩ rfl (Tri.ret (Fin.then_ret ?_))
   obtain rfl := Option.some.inj h
   refine Fin.keepS ⟨[(2, Pt 102 0)], [(102, .box 25 (eBig x_6))]⟩ rfl (Fin.result' [.agg (eBig x_6)] (.inl rfl) rfl (.cons (.agg tyAgg25 rfl rfl rfl rfl) .nil) ⟨rfl, rfl⟩)
  ·refine Tri.skip (Fin.keepS ⟨[(2, Pt 102 0), (3, Pt 103 0)], [(102, .box 25 zBig), (103, .box 25 (eBig x_1))]⟩ rfl (Fin.then (Tri.seq (Tri.regionL ?_))))
   refine Oc rfl (op_load_p tyAgg25 rfl rfl rfl rfl) (Oc rfl (op_store_p tyAgg25 rfl rfl rfl rfl (Nat.le_of_ble_eq_true rfl) rfl) ?_)
   refine OpsL.nilS ⟨[(2, Pt 102 0)], [(102, .box 25 (eBig x_1))]⟩ rfl (Tri.ret ?_)
   obtain rfl := Option.some.inj h
   refine Fin.keepS ⟨[(2, Pt 102 0)], [(102, .box 25 (eBig x_1))]⟩ rfl (Fin.result' [.agg (eBig x_1)] (.inl rfl) rfl (.cons (.agg tyAgg25 rfl rfl rfl rfl) .nil) ⟨rfl, rfl⟩)
def ratio_Cmp_S (F : Nat) (x0 : Frc) (y0 : Frc) : Option Int :=
 (ratio_Good_S F x0).bind fun x_1 => (ratio_Good_S F y0).bind fun x_2 => if ((!x_1) && (!x_2)) = true then (some 0) else (if (!x_1) = true then (some (-1)) else (if (!x_2) = true then (some 1) else (Option.bind (iter F (un3 fun x_4 y_5 out_6 => (whole_Quo_S F x_4.N x_4.D).bind fun x_8 => (whole_Quo_S F y_5.N y_5.D).bind fun x_9 => (whole_Cmp_S F x_8 x_9).bind fun x_10 => if (decide (x_10 ≠ 0)) = true then (some (.inr (IntKind.i64.wrap (out_6 * x_10)))) else ((whole_Rem_S F x_4.N x_4.D).bind fun x_11 => (whole_Rem_S F y_5.N y_5.D).bind fun x_12 => (whole_Sign_S F x_11).bind fun x_13 => (whole_Sign_S F x_12).bind fun x_14 => if ((decide (x_13 = 0)) || (decide (x_14 = 0))) = true then (letN (IntKind.i64.wrap (out_6 * (IntKind.i64.wrap (x_13 - x_14)))) fun x_15 => some (.inr x_15)) else (some (.inl ((⟨x_4.D, x_11⟩ : Frc), (⟨y_5.D, x_12⟩ : Frc), IntKind.i64.wrap (-out_6)))))) (x0, y0, 1)) (fun out_3 => some out_3))))
theorem ratio_Cmp_spec {F : Nat} {x0 : Frc} {y0 : Frc} {r : Int} (h : ratio_Cmp_S F x0 y0 = some r) : Meets Tryz.prog (tabs mx) 39 [] [.agg (eFrc x0), .agg (eFrc y0)] (Is [] (.b (.one (.i r)))) := by
 unfold ratio_Cmp_S at h
 refine Meets.intro 80 Tryz.func39 Tryz.ntmps39 rfl (by simp) fun E => ?_
 show Tri _ E ⟨80, [], []⟩ _ ⟨[(0, .b (.agg (eFrc x0))), (1, .b (.agg (eFrc y0)))], []⟩ _
 refine Tri.seq (Tri.regionL ?_)
 refine Oc rfl (op_box (k := 101) rfl rfl) (Oc rfl (op_box (k := 102) rfl rfl) (Oc rfl (op_assign rfl) ?_))
 refine OpsL.nilS ⟨[(2, Pt 101 0), (3, Pt 102 0)], [(101, .box 27 (eFrc x0)), (102, .box 27 (eFrc y0))]⟩ rfl (Tri.scope (Tri.seq ?_))
 obtain ⟨x_1, e1, h⟩ := bnd h
 obtain ⟨x_2, e2, h⟩ := bnd h
 refine Tri.regionY mixed 6 [.b (.agg (eFrc x0)), B x_1, .b (.agg (eFrc y0)), B x_2, B x_1, B x_2] [2, 3, 5, 6] [101, 102] (s' := ⟨[(2, Pt 101 0), (3, Pt 102 0), (5, B x_1), (6, B x_2)], [(101, .box 27 (eFrc x0)), (102, .box 27 (eFrc y0))]⟩) rfl ⟨fun _ => .plain rfl (op_load_p tyAgg27 rfl rfl rfl rfl), fun _ => .plain rfl (op_call0 (ratio_Good_spec e1) goes26 rfl rfl), fun _ => .plain rfl (op_load_p tyAgg27 rfl rfl rfl rfl), fun _ => .plain rfl (op_call0 (ratio_Good_spec e2) goes26 rfl rfl), fun _ => .plain rfl (op_assign rfl), fun _ => .plain rfl (op_assign rfl), trivial⟩ rfl rfl (Tri.seq (Tri.block (Tri.seq (Tri.regionL ?_))))
 refine Oc rfl (op_move rfl) (Oc rfl (op_not rfl) (Oc rfl (op_move rfl) ?_))
 refine OpsL.consG (!x_1) 99 [] (.plain rfl) (eq_t _) rfl rfl (fun g3 => trivial) (fun g3 => op_move rfl) (OpsL.consG (!x_1) 99 [19] (.plain rfl) (eq_t _) rfl rfl (fun g4 => ⟨g4, trivial⟩) (fun g4 => op_not rfl) (Oc rfl (op_pick_and (fun e => e) rfl rfl rfl rfl) (Oc rfl (op_assign rfl) ?_)))
 refine OpsL.nilS ⟨[(2, Pt 101 0), (3, Pt 102 0), (5, B x_1), (6, B x_2), (15, B ((!x_1) && (!x_2)))], [(101, .box 27 (eFrc x0)), (102, .box 27 (eFrc y0))]⟩ rfl (Tri.ite h rfl (fun _ h => ?_) (fun _ h => ?_))
 ·refine Tri.seq (Tri.regionL ?_)
  refine Oc rfl (op_assign rfl) (OpsL.nilS ⟨[(4, I 0)], []⟩ rfl (Tri.ret (Fin.block_ret (Fin.then_ret (Fin.scope_ret ?_)))))
  obtain rfl := Option.some.inj h
  refine Fin.keepS ⟨[(4, I 0)], []⟩ rfl (Fin.result' [.one (.i 0)] (.inl rfl) rfl (.cons (.tmp rfl) .nil) ⟨rfl, rfl⟩)
 ·refine Tri.seq (Tri.regionL ?_)
  refine Oc rfl (op_move rfl) (Oc rfl (op_not rfl) (Oc rfl (op_assign rfl) ?_))
  refine OpsL.nilS ⟨[(2, Pt 101 0), (3, Pt 102 0), (6, B x_2), (22, B (!x_1))], [(101, .box 27 (eFrc x0)), (102, .box 27 (eFrc y0))]⟩ rfl (Tri.ite h rfl (fun _ h => ?_) (fun _ h => ?_))
  ·refine Tri.seq (Tri.regionL ?_)
   refine Oc rfl (op_assign rfl) (OpsL.nilS ⟨[(4, I (-1))], []⟩ rfl (Tri.ret (Fin.block_ret (Fin.then_ret (Fin.scope_ret ?_)))))
   obtain rfl := Option.some.inj h
   refine Fin.keepS ⟨[(4, I (-1))], []⟩ rfl (Fin.result' [.one (.i (-1))] (.inl rfl) rfl (.cons (.tmp rfl) .nil) ⟨rfl, rfl⟩)
  ·refine Tri.seq (Tri.regionL ?_)
   refine Oc rfl (op_move rfl) (Oc rfl (op_not rfl) (Oc rfl (op_assign rfl) ?_))
   refine OpsL.nilS ⟨[(2, Pt 101 0), (3, Pt 102 0), (25, B (!x_2))], [(101, .box 27 (eFrc x0)), (102, .box 27 (eFrc y0))]⟩ rfl (Tri.ite h rfl (fun _ h => ?_) (fun _ h => ?_))
   ·refine Tri.seq (Tri.regionL ?_)
    refine Oc rfl (op_assign rfl) (OpsL.nilS ⟨[(4, I 1)], []⟩ rfl (Tri.ret (Fin.block_ret (Fin.then_ret (Fin.scope_ret ?_)))))
    obtain rfl := Option.some.inj h
    refine Fin.keepS ⟨[(4, I 1)], []⟩ rfl (Fin.result' [.one (.i 1)] (.inl rfl) rfl (.cons (.tmp rfl) .nil) ⟨rfl, rfl⟩)
   ·refine Tri.skip (Fin.block_normal (Fin.keepS ⟨[(2, Pt 101 0), (3, Pt 102 0)], [(101, .box 27 (eFrc x0)), (102, .box 27 (eFrc y0))]⟩ rfl (Fin.then (Tri.seq (Tri.regionL ?_)))))
    refine Oc rfl (op_assign rfl) (OpsL.nilS ⟨[(2, Pt 101 0), (3, Pt 102 0), (7, I 1)], [(101, .box 27 (eFrc x0)), (102, .box 27 (eFrc y0))]⟩ rfl (Tri.seq (Tri.label (Fin.then ?_))))
    obtain ⟨v5, h6, h⟩ := bnd h
    refine Tri.seqJ (v := v5) (fun (out_3 : Int) => ⟨[(7, I out_3)], []⟩) (fun z => z) ?_ ?_
    ·refine Tri.block (Tri.loopJ h6 (un3 fun (x_4 : Frc) (y_5 : Frc) (out_6 : Int) => ⟨[(2, Pt 101 0), (3, Pt 102 0), (7, I out_6)], [(101, .box 27 (eFrc x_4)), (102, .box 27 (eFrc y_5))]⟩) [2, 3, 7] [101, 102] rfl ?_)
     rintro ⟨x_4, y_5, out_6⟩ o7 h8 hy9
     refine Tri.block (Tri.seq (Tri.seq ?_))
     refine Tri.keepS ⟨[(2, Pt 101 0), (3, Pt 102 0), (7, I out_6)], [(101, .box 27 (eFrc x_4)), (102, .box 27 (eFrc y_5))]⟩ rfl ?_
     obtain ⟨x_8, e10, h8⟩ := bnd h8
     obtain ⟨x_9, e11, h8⟩ := bnd h8
     obtain ⟨x_10, e12, h8⟩ := bnd h8
     refine Tri.regionY mixed 12 [Pt 101 0, .b (.agg (eBig x_4.N)), Pt 101 18, .b (.agg (eBig x_4.D)), .b (.agg (eBig x_8)), Pt 102 0, .b (.agg (eBig y_5.N)), Pt 102 18, .b (.agg (eBig y_5.D)), .b (.agg (eBig x_9)), I x_10, I x_10] [2, 3, 7, 8] [101, 102] (s' := ⟨[(2, Pt 101 0), (3, Pt 102 0), (7, I out_6), (8, I x_10)], [(101, .box 27 (eFrc x_4)), (102, .box 27 (eFrc y_5))]⟩) rfl ⟨fun _ => .plain rfl (op_field_p tyFld27_0 rfl rfl), fun _ => .plain rfl (op_load_p tyAgg25 rfl rfl rfl rfl), fun _ => .plain rfl (op_field_p tyFld27_1 rfl rfl), fun _ => .plain rfl (op_load_p tyAgg25 rfl rfl rfl rfl), fun _ => .plain rfl (op_call0 (whole_Quo_spec e10) goes75 rfl rfl), fun _ => .plain rfl (op_field_p tyFld27_0 rfl rfl), fun _ => .plain rfl (op_load_p tyAgg25 rfl rfl rfl rfl), fun _ => .plain rfl (op_field_p tyFld27_1 rfl rfl), fun _ => .plain rfl (op_load_p tyAgg25 rfl rfl rfl rfl), fun _ => .plain rfl (op_call0 (whole_Quo_spec e11) goes75 rfl rfl), fun _ => .plain rfl (op_call0 (whole_Cmp_spec e12) goes95 rfl rfl), fun _ => .plain rfl (op_assign rfl), trivial⟩ rfl rfl (Tri.seq (Tri.regionL ?_))
     refine Oc rfl (op_move rfl) (Oc rfl (op_neq rfl rfl) ?_)
     refine OpsL.nilS ⟨[(2, Pt 101 0), (3, Pt 102 0), (7, I out_6), (8, I x_10), (40, B (decide (x_10 ≠ 0)))], [(101, .box 27 (eFrc x_4)), (102, .box 27 (eFrc y_5))]⟩ rfl (Tri.ite h8 rfl (fun _ h8 => ?_) (fun _ h8 => ?_))
     ·refine Tri.seq (Tri.regionL ?_)
      refine Oc rfl (op_move rfl) (Oc rfl (op_move rfl) (Oc rfl (op_mul rfl rfl) (Oc rfl (op_assign rfl) ?_)))
      refine OpsL.nilS ⟨[(7, I (IntKind.i64.wrap (out_6 * x_10)))], []⟩ rfl (Tri.exit (Fin.then_exit (Fin.block_exit_other (by decide) ?_)))
      obtain rfl := hy9 _ (Option.some.inj h8).symm
      refine Fin.then_exit (Fin.block_exit ?_)
      exact Fin.join [7] [] (IntKind.i64.wrap (out_6 * x_10)) rfl rfl
     ·refine Tri.skip (Fin.keepS ⟨[(2, Pt 101 0), (3, Pt 102 0), (7, I out_6)], [(101, .box 27 (eFrc x_4)), (102, .box 27 (eFrc y_5))]⟩ rfl (Fin.then (Tri.seq ?_)))
      refine Tri.keepS ⟨[(2, Pt 101 0), (3, Pt 102 0), (7, I out_6)], [(101, .box 27 (eFrc x_4)), (102, .box 27 (eFrc y_5))]⟩ rfl ?_
      obtain ⟨x_11, e13, h8⟩ := bnd h8
      obtain ⟨x_12, e14, h8⟩ := bnd h8
      refine Tri.regionW mixed [false, false, false, false, false, false, false, false, false, false, false, false, false, false, false, false, true, true] [Pt 101 18, .b (.agg (eBig x_4.D)), Pt 101 0, .b (.agg (eBig x_4.N)), Pt 101 18, .b (.agg (eBig x_4.D)), .b (.agg (eBig x_11)), .b (.agg (eBig x_4.D ++ (eBig x_11))), Pt 102 18, .b (.agg (eBig y_5.D)), Pt 102 0, .b (.agg (eBig y_5.N)), Pt 102 18, .b (.agg (eBig y_5.D)), .b (.agg (eBig x_12)), .b (.agg (eBig y_5.D ++ (eBig x_12))), B true, B true] [⟨[false, false, false, false, false, false, false, false, false, false, false, false, false, false, false, false, false, false], [(2, Pt 101 0), (3, Pt 102 0), (7, I out_6)], [(101, .box 27 (eFrc x_4)), (102, .box 27 (eFrc y_5))], [true, true, true, true, true, true, true, true, true, true, true, true, true, true, true, true, true, true], []⟩, ⟨[false, false, false, false, false, false, false, false, false, false, false, false, false, false, false, false, true, false], [(2, Pt 101 0), (3, Pt 102 0), (7, I out_6)], [(101, .box 27 (eBig x_4.D ++ (eBig x_11))), (102, .box 27 (eFrc y_5))], [true, true, true, true, true, true, true, true, true, true, true, true, true, true, true, true, true, true], [0, 1, 2, 3, 4, 5, 6, 7, 10, 11, 12, 13, 14, 16]⟩, ⟨[false, false, false, false, false, false, false, false, false, false, false, false, false, false, false, false, true, true], [(2, Pt 101 0), (3, Pt 102 0), (7, I out_6)], [(101, .box 27 (eBig x_4.D ++ (eBig x_11))), (102, .box 27 (eBig y_5.D ++ (eBig x_12)))], [true, true, true, true, true, true, true, true, true, true, true, true, true, true, true, true, true, true], [0, 1, 2, 3, 4, 5, 6, 7, 8, 9, 10, 11, 12, 13, 14, 15, 16, 17]⟩] rfl (⟨by kernel_rfl, ⟨⟨Pt 101 18, fun _ => rfl, fun _ => .plain rfl (by exact op_field_p tyFld27_1 rfl rfl)⟩, ⟨.b (.agg (eBig x_4.D)), fun _ => rfl, fun _ => .plain rfl (by exact op_load_p tyAgg25 rfl rfl rfl rfl)⟩, ⟨Pt 101 0, fun _ => rfl, fun _ => .plain rfl (by exact op_field_p tyFld27_0 rfl rfl)⟩, ⟨.b (.agg (eBig x_4.N)), fun _ => rfl, fun _ => .plain rfl (by exact op_load_p tyAgg25 rfl rfl rfl rfl)⟩, ⟨Pt 101 18, fun _ => rfl, fun _ => .plain rfl (by exact op_field_p tyFld27_1 rfl rfl)⟩, ⟨.b (.agg (eBig x_4.D)), fun _ => rfl, fun _ => .plain rfl (by exact op_load_p tyAgg25 rfl rfl rfl rfl)⟩, ⟨.b (.agg (eBig x_11)), fun _ => rfl, fun _ => .plain rfl (by exact op_call0 (whole_Rem_spec e13) goes94 rfl rfl)⟩, ⟨.b (.agg (eBig x_4.D ++ (eBig x_11))), fun _ => rfl, fun _ => .plain rfl (by exact op_build tyBuild27 rfl rfl)⟩, ⟨Pt 102 18, fun _ => rfl, fun _ => .plain rfl (by exact op_field_p tyFld27_1 rfl rfl)⟩, ⟨.b (.agg (eBig y_5.D)), fun _ => rfl, fun _ => .plain rfl (by exact op_load_p tyAgg25 rfl rfl rfl rfl)⟩, ⟨Pt 102 0, fun _ => rfl, fun _ => .plain rfl (by exact op_field_p tyFld27_0 rfl rfl)⟩, ⟨.b (.agg (eBig y_5.N)), fun _ => rfl, fun _ => .plain rfl (by exact op_load_p tyAgg25 rfl rfl rfl rfl)⟩, ⟨Pt 102 18, fun _ => rfl, fun _ => .plain rfl (by exact op_field_p tyFld27_1 rfl rfl)⟩, ⟨.b (.agg (eBig y_5.D)), fun _ => rfl, fun _ => .plain rfl (by exact op_load_p tyAgg25 rfl rfl rfl rfl)⟩, ⟨.b (.agg (eBig x_12)), fun _ => rfl, fun _ => .plain rfl (by exact op_call0 (whole_Rem_spec e14) goes94 rfl rfl)⟩, ⟨.b (.agg (eBig y_5.D ++ (eBig x_12))), fun _ => rfl, fun _ => .plain rfl (by exact op_build tyBuild27 rfl rfl)⟩, ⟨_, none, .b (.one .any), rfl, (fun e => by simp at e), rfl, rfl, fun _ => .toO [101, 102] (by exact .plain rfl (by exact op_store_p tyAgg27 rfl rfl rfl rfl (Nat.le_of_ble_eq_true rfl) rfl)) (by exact rfl)⟩, trivial, trivial⟩, ⟨by kernel_rfl, ⟨trivial, trivial, trivial, trivial, trivial, trivial, trivial, trivial, ⟨Pt 102 18, fun _ => rfl, fun _ => .plain rfl (by exact op_field_p tyFld27_1 rfl rfl)⟩, ⟨.b (.agg (eBig y_5.D)), fun _ => rfl, fun _ => .plain rfl (by exact op_load_p tyAgg25 rfl rfl rfl rfl)⟩, trivial, trivial, trivial, trivial, trivial, ⟨.b (.agg (eBig y_5.D ++ (eBig x_12))), fun _ => rfl, fun _ => .plain rfl (by exact op_build tyBuild27 rfl rfl)⟩, trivial, ⟨_, none, .b (.one .any), rfl, (fun e => by simp at e), rfl, rfl, fun _ => .toO [101, 102] (by exact .plain rfl (by exact op_store_p tyAgg27 rfl rfl rfl rfl (Nat.le_of_ble_eq_true rfl) rfl)) (by exact rfl)⟩, trivial⟩, ⟨by kernel_rfl, ⟨trivial, trivial, trivial, trivial, trivial, trivial, trivial, trivial, trivial, trivial, trivial, trivial, trivial, trivial, trivial, trivial, trivial, trivial, trivial⟩, trivial⟩⟩⟩) rfl rfl rfl [2, 3, 7] [101, 102] (s' := ⟨[(2, Pt 101 0), (3, Pt 102 0), (7, I out_6)], [(101, .box 27 (eBig x_4.D ++ (eBig x_11))), (102, .box 27 (eBig y_5.D ++ (eBig x_12)))]⟩) rfl ?_
      refine Tri.seq (Tri.keepS ⟨[(2, Pt 101 0), (3, Pt 102 0), (7, I out_6)], [(101, .box 27 (eBig x_4.D ++ (eBig x_11))), (102, .box 27 (eBig y_5.D ++ (eBig x_12)))]⟩ rfl ?_)
      obtain ⟨x_13, e15, h8⟩ := bnd h8
      obtain ⟨x_14, e16, h8⟩ := bnd h8
      refine Tri.regionY mixed 8 [Pt 101 18, .b (.agg (eBig x_11)), I x_13, Pt 102 18, .b (.agg (eBig x_12)), I x_14, I x_13, I x_14] [2, 3, 7, 9, 10] [101, 102] (s' := ⟨[(2, Pt 101 0), (3, Pt 102 0), (7, I out_6), (9, I x_13), (10, I x_14)], [(101, .box 27 (eBig x_4.D ++ (eBig x_11))), (102, .box 27 (eBig y_5.D ++ (eBig x_12)))]⟩) rfl ⟨fun _ => .plain rfl (op_field_p tyFld27_1 rfl rfl), fun _ => .plain rfl (op_load_p tyAgg25 rfl rfl rfl rfl), fun _ => .plain rfl (op_call0 (whole_Sign_spec e15) goes72 rfl rfl), fun _ => .plain rfl (op_field_p tyFld27_1 rfl rfl), fun _ => .plain rfl (op_load_p tyAgg25 rfl rfl rfl rfl), fun _ => .plain rfl (op_call0 (whole_Sign_spec e16) goes72 rfl rfl), fun _ => .plain rfl (op_assign rfl), fun _ => .plain rfl (op_assign rfl), trivial⟩ rfl rfl (Tri.seq (Tri.seq (Tri.regionL ?_)))
      refine Oc rfl (op_move rfl) (Oc rfl (op_eql rfl rfl) (Oc rfl (op_move rfl) ?_))
      refine OpsL.consG (!(decide (x_13 = 0))) 99 [] (.plain rfl) (eq_f _) rfl rfl (fun g17 => trivial) (fun g17 => op_move rfl) (OpsL.consG (!(decide (x_13 = 0))) 99 [69] (.plain rfl) (eq_f _) rfl rfl (fun g18 => ⟨g18, trivial⟩) (fun g18 => op_eql rfl rfl) (Oc rfl (op_pick_or (fun e => by rw [e]; rfl) rfl rfl rfl rfl) (OpsL.nilS ⟨[(2, Pt 101 0), (3, Pt 102 0), (7, I out_6), (9, I x_13), (10, I x_14), (71, B ((decide (x_13 = 0)) || (decide (x_14 = 0))))], [(101, .box 27 (eBig x_4.D ++ (eBig x_11))), (102, .box 27 (eBig y_5.D ++ (eBig x_12)))]⟩ rfl (Tri.ite h8 rfl (fun _ h8 => ?_) (fun _ h8 => ?_)))))
      ·refine Tri.seq (Tri.regionL ?_)
       refine Oc rfl (op_move rfl) (Oc rfl (op_move rfl) (Oc rfl (op_move rfl) (Oc rfl (op_sub rfl rfl) ?_)))
       refine OpsL.consI .i64 h8 rfl (op_mul rfl rfl) (fun x_15 h8 => ?_)
       refine Oc rfl (op_assign rfl) (OpsL.nilS ⟨[(7, I x_15)], []⟩ rfl (Tri.exit (Fin.then_exit (Fin.block_exit_other (by decide) ?_))))
       obtain rfl := hy9 _ (Option.some.inj h8).symm
       refine Fin.then_exit (Fin.block_exit ?_)
       exact Fin.join [7] [] x_15 rfl rfl
      ·refine Tri.skip (Fin.keepS ⟨[(2, Pt 101 0), (3, Pt 102 0), (7, I out_6)], [(101, .box 27 (eBig x_4.D ++ (eBig x_11))), (102, .box 27 (eBig y_5.D ++ (eBig x_12)))]⟩ rfl (Fin.then (Tri.regionL ?_)))
       refine Oc rfl (op_move rfl) (Oc rfl (op_neg rfl) (Oc rfl (op_assign rfl) ?_))
       refine OpsL.nil (Fin.block_normal ?_)
       exact Fin.againJ [2, 3, 7] [101, 102] ((⟨x_4.D, x_11⟩ : Frc), (⟨y_5.D, x_12⟩ : Frc), IntKind.i64.wrap (-out_6)) (Option.some.inj h8) rfl
    ·rintro out_3 hv
     subst v5
     refine Tri.seq (Tri.regionL ?_)
     refine Oc rfl (op_move rfl) (Oc rfl (op_assign rfl) ?_)
     refine OpsL.nilS ⟨[(4, I out_3)], []⟩ rfl (Tri.ret (Fin.scope_ret ?_))
     obtain rfl := Option.some.inj h
     refine Fin.keepS ⟨[(4, I out_3)], []⟩ rfl (Fin.result' [.one (.i out_3)] (.inl rfl) rfl (.cons (.tmp rfl) .nil) ⟨rfl, rfl⟩)
def ratio_Sign_S (F : Nat) (x0 : Frc) : Option Int :=
 (ratio_Good_S F x0).bind fun x_1 => if (!x_1) = true then (some 0) else ((whole_Sign_S F x0.N).bind fun x_2 => some x_2)
theorem ratio_Sign_spec {F : Nat} {x0 : Frc} {r : Int} (h : ratio_Sign_S F x0 = some r) : Meets Tryz.prog (tabs mx) 37 [] [.agg (eFrc x0)] (Is [] (.b (.one (.i r)))) := by
 unfold ratio_Sign_S at h
 refine Meets.intro 9 Tryz.func37 Tryz.ntmps37 rfl (by simp) fun E => ?_
 show Tri _ E ⟨9, [], []⟩ _ ⟨[(0, .b (.agg (eFrc x0)))], []⟩ _
 refine Tri.seq (Tri.regionL ?_)
 refine Oc rfl (op_box (k := 101) rfl rfl) (Oc rfl (op_assign rfl) ?_)
 refine OpsL.nilS ⟨[(1, Pt 101 0)], [(101, .box 27 (eFrc x0))]⟩ rfl (Tri.seq (Tri.seq (Tri.regionL ?_)))
 refine Oc rfl (op_load_p tyAgg27 rfl rfl rfl rfl) ?_
 obtain ⟨x_1, e1, h⟩ := bnd h
 refine Oc rfl (op_call0 (ratio_Good_spec e1) goes26 rfl rfl) (Oc rfl (op_not rfl) ?_)
 refine OpsL.nilS ⟨[(1, Pt 101 0), (5, B (!x_1))], [(101, .box 27 (eFrc x0))]⟩ rfl (Tri.ite h rfl (fun _ h => ?_) (fun _ h => ?_))
 ·refine Tri.seq (Tri.regionL ?_)
  refine Oc rfl (op_assign rfl) (OpsL.nilS ⟨[(2, I 0)], []⟩ rfl (Tri.ret (Fin.then_ret ?_)))
  obtain rfl := Option.some.inj h
  refine Fin.keepS ⟨[(2, I 0)], []⟩ rfl (Fin.result' [.one (.i 0)] (.inl rfl) rfl (.cons (.tmp rfl) .nil) ⟨rfl, rfl⟩)
 ·refine Tri.skip (Fin.keepS ⟨[(1, Pt 101 0)], [(101, .box 27 (eFrc x0))]⟩ rfl (Fin.then (Tri.seq (Tri.regionL ?_))))
  refine Oc rfl (op_field_p tyFld27_0 rfl rfl) (Oc rfl (op_load_p tyAgg25 rfl rfl rfl rfl) ?_)
  obtain ⟨x_2, e2, h⟩ := bnd h
  refine Oc rfl (op_call0 (whole_Sign_spec e2) goes72 rfl rfl) (Oc rfl (op_assign rfl) ?_)
  refine OpsL.nilS ⟨[(2, I x_2)], []⟩ rfl (Tri.ret ?_)
  obtain rfl := Option.some.inj h
  refine Fin.keepS ⟨[(2, I x_2)], []⟩ rfl (Fin.result' [.one (.i x_2)] (.inl rfl) rfl (.cons (.tmp rfl) .nil) ⟨rfl, rfl⟩)
def ratio_Whole_S (F : Nat) (n0 : Big) : Option Frc :=
 (ratio_one_S F).bind fun x_1 => (ratio_Make_S F n0 x_1).bind fun x_2 => some x_2
theorem ratio_Whole_spec {F : Nat} {n0 : Big} {r : Frc} (h : ratio_Whole_S F n0 = some r) : Meets Tryz.prog (tabs mx) 18 [] [.agg (eBig n0)] (Is [] (.b (.agg (eFrc r)))) := by
 unfold ratio_Whole_S at h
 refine Meets.intro 6 Tryz.func18 Tryz.ntmps18 rfl (by simp) fun E => ?_
 show Tri _ E ⟨6, [], []⟩ _ ⟨[(0, .b (.agg (eBig n0)))], []⟩ _
 refine Tri.seq (Tri.regionL ?_)
 refine Oc rfl (op_box (k := 101) rfl rfl) (Oc rfl (op_alloc (k := 102) tyZero27 rfl) ?_)
 refine OpsL.nilS ⟨[(1, Pt 101 0), (2, Pt 102 0)], [(101, .box 25 (eBig n0)), (102, .box 27 zFrc)]⟩ rfl (Tri.seq ?_)
 obtain ⟨x_1, e1, h⟩ := bnd h
 obtain ⟨x_2, e2, h⟩ := bnd h
 refine Tri.regionY mixed 3 [.b (.agg (eBig n0)), .b (.agg (eBig x_1)), .b (.agg (eFrc x_2))] [2] [102] (s' := ⟨[(2, Pt 102 0)], [(102, .box 27 (eFrc x_2))]⟩) rfl ⟨fun _ => .plain rfl (op_load_p tyAgg25 rfl rfl rfl rfl), fun _ => .plain rfl (op_call0 (ratio_one_spec e1) goes90 rfl rfl), fun _ => .plain rfl (op_call0 (ratio_Make_spec e2) goes11 rfl rfl), trivial⟩ ⟨_, by exact .plain rfl (op_store_p tyAgg27 rfl rfl rfl rfl (Nat.le_of_ble_eq_true rfl) rfl), rfl⟩ rfl (Tri.ret ?_)
 obtain rfl := Option.some.inj h
 refine Fin.keepS ⟨[(2, Pt 102 0)], [(102, .box 27 (eFrc x_2))]⟩ rfl (Fin.result' [.agg (eFrc x_2)] (.inl rfl) rfl (.cons (.agg tyAgg27 rfl rfl rfl rfl) .nil) ⟨rfl, rfl⟩)
def ratio_Of_S (F : Nat) (n0 : Int) : Option Frc :=
 (whole_Of_S F n0).bind fun x_1 => (ratio_Whole_S F x_1).bind fun x_2 => some x_2
theorem ratio_Of_spec {F : Nat} {n0 : Int} {r : Frc} (h : ratio_Of_S F n0 = some r) : Meets Tryz.prog (tabs mx) 20 [] [.one (.i n0)] (Is [] (.b (.agg (eFrc r)))) := by
 unfold ratio_Of_S at h
 refine Meets.intro 6 Tryz.func20 Tryz.ntmps20 rfl (by simp) fun E => ?_
 show Tri _ E ⟨6, [], []⟩ _ ⟨[(0, I n0)], []⟩ _
 refine Tri.seq (Tri.regionL ?_)
 refine Oc rfl (op_alloc (k := 101) tyZero27 rfl) (OpsL.nilS ⟨[(0, I n0), (2, Pt 101 0)], [(101, .box 27 zFrc)]⟩ rfl (Tri.seq (Tri.regionL ?_)))
 refine Oc rfl (op_move rfl) ?_
 obtain ⟨x_1, e1, h⟩ := bnd h
 refine Oc rfl (op_call0 (whole_Of_spec e1) goes91 rfl rfl) ?_
 obtain ⟨x_2, e2, h⟩ := bnd h
 refine Oc rfl (op_call0 (ratio_Whole_spec e2) goes18 rfl rfl) (Oc rfl (op_store_p tyAgg27 rfl rfl rfl rfl (Nat.le_of_ble_eq_true rfl) rfl) ?_)
 refine OpsL.nilS ⟨[(2, Pt 101 0)], [(101, .box 27 (eFrc x_2))]⟩ rfl (Tri.ret ?_)
 obtain rfl := Option.some.inj h
 refine Fin.keepS ⟨[(2, Pt 101 0)], [(101, .box 27 (eFrc x_2))]⟩ rfl (Fin.result' [.agg (eFrc x_2)] (.inl rfl) rfl (.cons (.agg tyAgg27 rfl rfl rfl rfl) .nil) ⟨rfl, rfl⟩)
def ratio_Sub_S (F : Nat) (x0 : Frc) (y0 : Frc) : Option Frc :=
 (ratio_Neg_S F y0).bind fun x_1 => (ratio_Add_S F x0 x_1).bind fun x_2 => some x_2
theorem ratio_Sub_spec {F : Nat} {x0 : Frc} {y0 : Frc} {r : Frc} (h : ratio_Sub_S F x0 y0 = some r) : Meets Tryz.prog (tabs mx) 41 [] [.agg (eFrc x0), .agg (eFrc y0)] (Is [] (.b (.agg (eFrc r)))) := by
 unfold ratio_Sub_S at h
 refine Meets.intro 9 Tryz.func41 Tryz.ntmps41 rfl (by simp) fun E => ?_
 show Tri _ E ⟨9, [], []⟩ _ ⟨[(0, .b (.agg (eFrc x0))), (1, .b (.agg (eFrc y0)))], []⟩ _
 refine Tri.seq (Tri.regionL ?_)
 refine Oc rfl (op_box (k := 101) rfl rfl) (Oc rfl (op_box (k := 102) rfl rfl) (Oc rfl (op_alloc (k := 103) tyZero27 rfl) ?_))
 refine OpsL.nilS ⟨[(2, Pt 101 0), (3, Pt 102 0), (4, Pt 103 0)], [(101, .box 27 (eFrc x0)), (102, .box 27 (eFrc y0)), (103, .box 27 zFrc)]⟩ rfl (Tri.seq ?_)
 obtain ⟨x_1, e1, h⟩ := bnd h
 obtain ⟨x_2, e2, h⟩ := bnd h
 refine Tri.regionY mixed 4 [.b (.agg (eFrc x0)), .b (.agg (eFrc y0)), .b (.agg (eFrc x_1)), .b (.agg (eFrc x_2))] [4] [103] (s' := ⟨[(4, Pt 103 0)], [(103, .box 27 (eFrc x_2))]⟩) rfl ⟨fun _ => .plain rfl (op_load_p tyAgg27 rfl rfl rfl rfl), fun _ => .plain rfl (op_load_p tyAgg27 rfl rfl rfl rfl), fun _ => .plain rfl (op_call0 (ratio_Neg_spec e1) goes43 rfl rfl), fun _ => .plain rfl (op_call0 (ratio_Add_spec e2) goes42 rfl rfl), trivial⟩ ⟨_, by exact .plain rfl (op_store_p tyAgg27 rfl rfl rfl rfl (Nat.le_of_ble_eq_true rfl) rfl), rfl⟩ rfl (Tri.ret ?_)
 obtain rfl := Option.some.inj h
 refine Fin.keepS ⟨[(4, Pt 103 0)], [(103, .box 27 (eFrc x_2))]⟩ rfl (Fin.result' [.agg (eFrc x_2)] (.inl rfl) rfl (.cons (.agg tyAgg27 rfl rfl rfl rfl) .nil) ⟨rfl, rfl⟩)
def ratio_Simplest_R (F : Nat) : Nat → Frc → Frc → Option Frc
 | 0, _, _ => none
 | n + 1, lo0, hi0 => (ratio_Good_S F lo0).bind fun x_1 => (gcall (!(!x_1)) (ratio_Good_S F hi0)).bind fun x_2 => (gcall (!((!x_1) || (!x_2))) (ratio_Cmp_S F lo0 hi0)).bind fun x_3 => if (((!x_1) || (!x_2)) || (decide (0 < x_3))) = true then ((ratio_Bad_S F).bind fun x_4 => some x_4) else ((ratio_Sign_S F lo0).bind fun x_5 => (gcall (decide (x_5 ≤ 0)) (ratio_Sign_S F hi0)).bind fun x_6 => if ((decide (x_5 ≤ 0)) && (decide (0 ≤ x_6))) = true then ((ratio_Of_S F 0).bind fun x_7 => some x_7) else ((ratio_Sign_S F hi0).bind fun x_8 => if (decide (x_8 < 0)) = true then ((ratio_Neg_S F hi0).bind fun x_9 => (ratio_Neg_S F lo0).bind fun x_10 => (ratio_Simplest_R F n x_9 x_10).bind fun x_11 => (ratio_Neg_S F x_11).bind fun x_12 => some x_12) else ((ratio_Ceil_S F lo0).bind fun x_13 => (ratio_Whole_S F x_13).bind fun x_14 => (ratio_Cmp_S F x_14 hi0).bind fun x_15 => if (decide (x_15 ≤ 0)) = true then (some x_14) else ((ratio_Floor_S F lo0).bind fun x_16 => (ratio_Whole_S F x_16).bind fun x_17 => (ratio_Of_S F 1).bind fun x_18 => (ratio_Of_S F 1).bind fun x_19 => (ratio_Sub_S F hi0 x_17).bind fun x_20 => (ratio_Div_S F x_19 x_20).bind fun x_21 => (ratio_Of_S F 1).bind fun x_22 => (ratio_Sub_S F lo0 x_17).bind fun x_23 => (ratio_Div_S F x_22 x_23).bind fun x_24 => (ratio_Simplest_R F n x_21 x_24).bind fun x_25 => (ratio_Div_S F x_18 x_25).bind fun x_26 => (ratio_Add_S F x_17 x_26).bind fun x_27 => some x_27))))
def ratio_Simplest_S (F : Nat) (lo0 : Frc) (hi0 : Frc) : Option Frc := ratio_Simplest_R F F lo0 hi0
theorem ratio_Simplest_specR {F : Nat} : ∀ (n : Nat) {lo0 : Frc} {hi0 : Frc} {r : Frc} (h : ratio_Simplest_R F n lo0 hi0 = some r), Meets Tryz.prog (tabs mx) 48 [] [.agg (eFrc lo0), .agg (eFrc hi0)] (Is [] (.b (.agg (eFrc r)))) := by
 intro n
 induction n with
 | zero => intro lo0 hi0 r h; simp [ratio_Simplest_R] at h
 | succ n ih =>
 intro lo0 hi0 r h
 unfold ratio_Simplest_R at h
 refine Meets.intro 69 Tryz.func48 Tryz.ntmps48 rfl (by simp) fun E => ?_
 show Tri _ E ⟨69, [], []⟩ _ ⟨[(0, .b (.agg (eFrc lo0))), (1, .b (.agg (eFrc hi0)))], []⟩ _
 refine Tri.seq (Tri.regionL ?_)
 refine Oc rfl (op_box (k := 101) rfl rfl) (Oc rfl (op_box (k := 102) rfl rfl) (Oc rfl (op_alloc (k := 103) tyZero27 rfl) ?_))
 refine OpsL.nilS ⟨[(2, Pt 101 0), (3, Pt 102 0), (4, Pt 103 0)], [(101, .box 27 (eFrc lo0)), (102, .box 27 (eFrc hi0)), (103, .box 27 zFrc)]⟩ rfl (Tri.seq (Tri.block (Tri.seq (Tri.regionL ?_))))
 refine Oc rfl (op_load_p tyAgg27 rfl rfl rfl rfl) ?_
 obtain ⟨x_1, e1, h⟩ := bnd h
 refine Oc rfl (op_call0 (ratio_Good_spec e1) goes26 rfl rfl) (Oc rfl (op_not rfl) (Oc rfl (op_move rfl) ?_))
 refine OpsL.consG (!(!x_1)) 99 [] (.plain rfl) (eq_f _) rfl rfl (fun g2 => trivial) (fun g2 => op_load_p tyAgg27 rfl rfl rfl rfl) (OpsL.keepS ⟨[(2, Pt 101 0), (3, Pt 102 0), (4, Pt 103 0), (11, B (!x_1)), (12, .opt (!(!x_1)) (.agg (eFrc hi0)))], [(101, .box 27 (eFrc lo0)), (102, .box 27 (eFrc hi0)), (103, .box 27 zFrc)]⟩ rfl ?_)
 obtain ⟨x_2, e4, h⟩ := bnd h
 refine OpsL.consG (!(!x_1)) 99 [12] (.plain rfl) (eq_f _) rfl rfl (fun g3 => ⟨g3, trivial⟩) (fun g3 => op_call0 (ratio_Good_spec (gc e4 g3)) goes26 rfl rfl) (OpsL.consG (!(!x_1)) 99 [13] (.plain rfl) (eq_f _) rfl rfl (fun g5 => ⟨g5, trivial⟩) (fun g5 => op_not rfl) (Oc rfl (op_pick_or (fun e => by rw [e]; rfl) rfl rfl rfl rfl) (Oc rfl (op_move rfl) ?_)))
 refine OpsL.consG (!((!x_1) || (!x_2))) 99 [] (.plain rfl) (eq_f _) rfl rfl (fun g6 => trivial) (fun g6 => op_load_p tyAgg27 rfl rfl rfl rfl) (OpsL.consG (!((!x_1) || (!x_2))) 99 [] (.plain rfl) (eq_f _) rfl rfl (fun g7 => trivial) (fun g7 => op_load_p tyAgg27 rfl rfl rfl rfl) (OpsL.keepS ⟨[(2, Pt 101 0), (3, Pt 102 0), (4, Pt 103 0), (16, B ((!x_1) || (!x_2))), (17, .opt (!((!x_1) || (!x_2))) (.agg (eFrc lo0))), (18, .opt (!((!x_1) || (!x_2))) (.agg (eFrc hi0)))], [(101, .box 27 (eFrc lo0)), (102, .box 27 (eFrc hi0)), (103, .box 27 zFrc)]⟩ rfl ?_))
 obtain ⟨x_3, e9, h⟩ := bnd h
 refine OpsL.consG (!((!x_1) || (!x_2))) 99 [17, 18] (.plain rfl) (eq_f _) rfl rfl (fun g8 => ⟨g8, g8, trivial⟩) (fun g8 => op_call0 (ratio_Cmp_spec (gc e9 g8)) goes39 rfl rfl) (OpsL.consG (!((!x_1) || (!x_2))) 99 [19] (.plain rfl) (eq_f _) rfl rfl (fun g10 => ⟨g10, trivial⟩) (fun g10 => op_gtr rfl rfl) (Oc rfl (op_pick_or (fun e => by rw [e]; rfl) rfl rfl rfl rfl) (Oc rfl (op_assign rfl) ?_)))
 refine OpsL.nilS ⟨[(2, Pt 101 0), (3, Pt 102 0), (4, Pt 103 0), (7, B (((!x_1) || (!x_2)) || (decide (0 < x_3))))], [(101, .box 27 (eFrc lo0)), (102, .box 27 (eFrc hi0)), (103, .box 27 zFrc)]⟩ rfl (Tri.ite h rfl (fun _ h => ?_) (fun _ h => ?_))
 ·refine Tri.seq (Tri.regionL ?_)
  obtain ⟨x_4, e11, h⟩ := bnd h
  refine Oc rfl (op_call0 (ratio_Bad_spec e11) goes27 rfl rfl) (Oc rfl (op_store_p tyAgg27 rfl rfl rfl rfl (Nat.le_of_ble_eq_true rfl) rfl) ?_)
  refine OpsL.nilS ⟨[(4, Pt 103 0)], [(103, .box 27 (eFrc x_4))]⟩ rfl (Tri.ret (Fin.block_ret (Fin.then_ret ?_)))
  obtain rfl := Option.some.inj h
  refine Fin.keepS ⟨[(4, Pt 103 0)], [(103, .box 27 (eFrc x_4))]⟩ rfl (Fin.result' [.agg (eFrc x_4)] (.inl rfl) rfl (.cons (.agg tyAgg27 rfl rfl rfl rfl) .nil) ⟨rfl, rfl⟩)
 ·refine Tri.seq (Tri.regionL ?_)
  refine Oc rfl (op_load_p tyAgg27 rfl rfl rfl rfl) ?_
  obtain ⟨x_5, e12, h⟩ := bnd h
  refine Oc rfl (op_call0 (ratio_Sign_spec e12) goes37 rfl rfl) (Oc rfl (op_leq rfl rfl) (Oc rfl (op_move rfl) ?_))
  refine OpsL.consG (decide (x_5 ≤ 0)) 99 [] (.plain rfl) (eq_t _) rfl rfl (fun g13 => trivial) (fun g13 => op_load_p tyAgg27 rfl rfl rfl rfl) (OpsL.keepS ⟨[(2, Pt 101 0), (3, Pt 102 0), (4, Pt 103 0), (27, B (decide (x_5 ≤ 0))), (28, .opt (decide (x_5 ≤ 0)) (.agg (eFrc hi0)))], [(101, .box 27 (eFrc lo0)), (102, .box 27 (eFrc hi0)), (103, .box 27 zFrc)]⟩ rfl ?_)
  obtain ⟨x_6, e15, h⟩ := bnd h
  refine OpsL.consG (decide (x_5 ≤ 0)) 99 [28] (.plain rfl) (eq_t _) rfl rfl (fun g14 => ⟨g14, trivial⟩) (fun g14 => op_call0 (ratio_Sign_spec (gc e15 g14)) goes37 rfl rfl) (OpsL.consG (decide (x_5 ≤ 0)) 99 [29] (.plain rfl) (eq_t _) rfl rfl (fun g16 => ⟨g16, trivial⟩) (fun g16 => op_geq rfl rfl) (Oc rfl (op_pick_and (fun e => e) rfl rfl rfl rfl) (Oc rfl (op_assign rfl) ?_)))
  refine OpsL.nilS ⟨[(2, Pt 101 0), (3, Pt 102 0), (4, Pt 103 0), (23, B ((decide (x_5 ≤ 0)) && (decide (0 ≤ x_6))))], [(101, .box 27 (eFrc lo0)), (102, .box 27 (eFrc hi0)), (103, .box 27 zFrc)]⟩ rfl (Tri.ite h rfl (fun _ h => ?_) (fun _ h => ?_))
  ·refine Tri.seq (Tri.regionL ?_)
   obtain ⟨x_7, e17, h⟩ := bnd h
   refine Oc rfl (op_call0 (ratio_Of_spec e17) goes20 rfl rfl) (Oc rfl (op_store_p tyAgg27 rfl rfl rfl rfl (Nat.le_of_ble_eq_true rfl) rfl) ?_)
   refine OpsL.nilS ⟨[(4, Pt 103 0)], [(103, .box 27 (eFrc x_7))]⟩ rfl (Tri.ret (Fin.block_ret (Fin.then_ret ?_)))
   obtain rfl := Option.some.inj h
   refine Fin.keepS ⟨[(4, Pt 103 0)], [(103, .box 27 (eFrc x_7))]⟩ rfl (Fin.result' [.agg (eFrc x_7)] (.inl rfl) rfl (.cons (.agg tyAgg27 rfl rfl rfl rfl) .nil) ⟨rfl, rfl⟩)
  ·refine Tri.seq (Tri.regionL ?_)
   refine Oc rfl (op_load_p tyAgg27 rfl rfl rfl rfl) ?_
   obtain ⟨x_8, e18, h⟩ := bnd h
   refine Oc rfl (op_call0 (ratio_Sign_spec e18) goes37 rfl rfl) (Oc rfl (op_lss rfl rfl) (Oc rfl (op_assign rfl) ?_))
   refine OpsL.nilS ⟨[(2, Pt 101 0), (3, Pt 102 0), (4, Pt 103 0), (33, B (decide (x_8 < 0)))], [(101, .box 27 (eFrc lo0)), (102, .box 27 (eFrc hi0)), (103, .box 27 zFrc)]⟩ rfl (Tri.ite h rfl (fun _ h => ?_) (fun _ h => ?_))
   ·refine Tri.seq (Tri.keepS ⟨[(2, Pt 101 0), (3, Pt 102 0), (4, Pt 103 0)], [(101, .box 27 (eFrc lo0)), (102, .box 27 (eFrc hi0)), (103, .box 27 zFrc)]⟩ rfl ?_)
    obtain ⟨x_9, e19, h⟩ := bnd h
    obtain ⟨x_10, e20, h⟩ := bnd h
    obtain ⟨x_11, e21, h⟩ := bnd h
    obtain ⟨x_12, e22, h⟩ := bnd h
    refine Tri.regionY mixed 6 [.b (.agg (eFrc hi0)), .b (.agg (eFrc x_9)), .b (.agg (eFrc lo0)), .b (.agg (eFrc x_10)), .b (.agg (eFrc x_11)), .b (.agg (eFrc x_12))] [4] [103] (s' := ⟨[(4, Pt 103 0)], [(103, .box 27 (eFrc x_12))]⟩) rfl ⟨fun _ => .plain rfl (op_load_p tyAgg27 rfl rfl rfl rfl), fun _ => .plain rfl (op_call0 (ratio_Neg_spec e19) goes43 rfl rfl), fun _ => .plain rfl (op_load_p tyAgg27 rfl rfl rfl rfl), fun _ => .plain rfl (op_call0 (ratio_Neg_spec e20) goes43 rfl rfl), fun _ => .plain rfl (op_call0 (ih e21) goes48 rfl rfl), fun _ => .plain rfl (op_call0 (ratio_Neg_spec e22) goes43 rfl rfl), trivial⟩ ⟨_, by exact .plain rfl (op_store_p tyAgg27 rfl rfl rfl rfl (Nat.le_of_ble_eq_true rfl) rfl), rfl⟩ rfl (Tri.ret (Fin.block_ret (Fin.then_ret ?_)))
    obtain rfl := Option.some.inj h
    refine Fin.keepS ⟨[(4, Pt 103 0)], [(103, .box 27 (eFrc x_12))]⟩ rfl (Fin.result' [.agg (eFrc x_12)] (.inl rfl) rfl (.cons (.agg tyAgg27 rfl rfl rfl rfl) .nil) ⟨rfl, rfl⟩)
   ·refine Tri.skip (Fin.block_normal (Fin.keepS ⟨[(2, Pt 101 0), (3, Pt 102 0), (4, Pt 103 0)], [(101, .box 27 (eFrc lo0)), (102, .box 27 (eFrc hi0)), (103, .box 27 zFrc)]⟩ rfl (Fin.then (Tri.seq (Tri.seq (Tri.regionL ?_))))))
    refine Oc rfl (op_load_p tyAgg27 rfl rfl rfl rfl) ?_
    obtain ⟨x_13, e23, h⟩ := bnd h
    refine Oc rfl (op_call0 (ratio_Ceil_spec e23) goes33 rfl rfl) ?_
    obtain ⟨x_14, e24, h⟩ := bnd h
    refine Oc rfl (op_call0 (ratio_Whole_spec e24) goes18 rfl rfl) (Oc rfl (op_alloc (k := 104) tyZero27 rfl) (Oc rfl (op_store_p tyAgg27 rfl rfl rfl rfl (Nat.le_of_ble_eq_true rfl) rfl) ?_))
    refine OpsL.nilS ⟨[(2, Pt 101 0), (3, Pt 102 0), (4, Pt 103 0), (5, Pt 104 0)], [(101, .box 27 (eFrc lo0)), (102, .box 27 (eFrc hi0)), (103, .box 27 zFrc), (104, .box 27 (eFrc x_14))]⟩ rfl (Tri.seq (Tri.regionL ?_))
    refine Oc rfl (op_load_p tyAgg27 rfl rfl rfl rfl) (Oc rfl (op_load_p tyAgg27 rfl rfl rfl rfl) ?_)
    obtain ⟨x_15, e25, h⟩ := bnd h
    refine Oc rfl (op_call0 (ratio_Cmp_spec e25) goes39 rfl rfl) (Oc rfl (op_leq rfl rfl) ?_)
    refine OpsL.nilS ⟨[(2, Pt 101 0), (3, Pt 102 0), (4, Pt 103 0), (5, Pt 104 0), (49, B (decide (x_15 ≤ 0)))], [(101, .box 27 (eFrc lo0)), (102, .box 27 (eFrc hi0)), (103, .box 27 zFrc), (104, .box 27 (eFrc x_14))]⟩ rfl (Tri.ite h rfl (fun _ h => ?_) (fun _ h => ?_))
    ·refine Tri.seq (Tri.regionL ?_)
     refine Oc rfl (op_load_p tyAgg27 rfl rfl rfl rfl) (Oc rfl (op_store_p tyAgg27 rfl rfl rfl rfl (Nat.le_of_ble_eq_true rfl) rfl) ?_)
     refine OpsL.nilS ⟨[(4, Pt 103 0)], [(103, .box 27 (eFrc x_14))]⟩ rfl (Tri.ret (Fin.then_ret ?_))
     obtain rfl := Option.some.inj h
     refine Fin.keepS ⟨[(4, Pt 103 0)], [(103, .box 27 (eFrc x_14))]⟩ rfl (Fin.result' [.agg (eFrc x_14)] (.inl rfl) rfl (.cons (.agg tyAgg27 rfl rfl rfl rfl) .nil) ⟨rfl, rfl⟩)
    ·refine Tri.skip (Fin.keepS ⟨[(2, Pt 101 0), (3, Pt 102 0), (4, Pt 103 0)], [(101, .box 27 (eFrc lo0)), (102, .box 27 (eFrc hi0)), (103, .box 27 zFrc)]⟩ rfl (Fin.then (Tri.seq (Tri.regionL ?_))))
     refine Oc rfl (op_load_p tyAgg27 rfl rfl rfl rfl) ?_
     obtain ⟨x_16, e26, h⟩ := bnd h
     refine Oc rfl (op_call0 (ratio_Floor_spec e26) goes31 rfl rfl) ?_
     obtain ⟨x_17, e27, h⟩ := bnd h
     refine Oc rfl (op_call0 (ratio_Whole_spec e27) goes18 rfl rfl) (Oc rfl (op_alloc (k := 105) tyZero27 rfl) (Oc rfl (op_store_p tyAgg27 rfl rfl rfl rfl (Nat.le_of_ble_eq_true rfl) rfl) ?_))
     refine OpsL.nilS ⟨[(2, Pt 101 0), (3, Pt 102 0), (4, Pt 103 0), (6, Pt 105 0)], [(101, .box 27 (eFrc lo0)), (102, .box 27 (eFrc hi0)), (103, .box 27 zFrc), (105, .box 27 (eFrc x_17))]⟩ rfl (Tri.seq ?_)
     obtain ⟨x_18, e28, h⟩ := bnd h
     obtain ⟨x_19, e29, h⟩ := bnd h
     obtain ⟨x_20, e30, h⟩ := bnd h
     obtain ⟨x_21, e31, h⟩ := bnd h
     obtain ⟨x_22, e32, h⟩ := bnd h
     obtain ⟨x_23, e33, h⟩ := bnd h
     obtain ⟨x_24, e34, h⟩ := bnd h
     obtain ⟨x_25, e35, h⟩ := bnd h
     obtain ⟨x_26, e36, h⟩ := bnd h
     obtain ⟨x_27, e37, h⟩ := bnd h
     refine Tri.regionY mixed 15 [.b (.agg (eFrc x_17)), .b (.agg (eFrc x_18)), .b (.agg (eFrc x_19)), .b (.agg (eFrc hi0)), .b (.agg (eFrc x_17)), .b (.agg (eFrc x_20)), .b (.agg (eFrc x_21)), .b (.agg (eFrc x_22)), .b (.agg (eFrc lo0)), .b (.agg (eFrc x_17)), .b (.agg (eFrc x_23)), .b (.agg (eFrc x_24)), .b (.agg (eFrc x_25)), .b (.agg (eFrc x_26)), .b (.agg (eFrc x_27))] [4] [103] (s' := ⟨[(4, Pt 103 0)], [(103, .box 27 (eFrc x_27))]⟩) rfl ⟨fun _ => .plain rfl (op_load_p tyAgg27 rfl rfl rfl rfl), fun _ => .plain rfl (op_call0 (ratio_Of_spec e28) goes20 rfl rfl), fun _ => .plain rfl (op_call0 (ratio_Of_spec e29) goes20 rfl rfl), fun _ => .plain rfl (op_load_p tyAgg27 rfl rfl rfl rfl), fun _ => .plain rfl (op_load_p tyAgg27 rfl rfl rfl rfl), fun _ => .plain rfl (op_call0 (ratio_Sub_spec e30) goes41 rfl rfl), fun _ => .plain rfl (op_call0 (ratio_Div_spec e31) goes46 rfl rfl), fun _ => .plain rfl (op_call0 (ratio_Of_spec e32) goes20 rfl rfl), fun _ => .plain rfl (op_load_p tyAgg27 rfl rfl rfl rfl), fun _ => .plain rfl (op_load_p tyAgg27 rfl rfl rfl rfl), fun _ => .plain rfl (op_call0 (ratio_Sub_spec e33) goes41 rfl rfl), fun _ => .plain rfl (op_call0 (ratio_Div_spec e34) goes46 rfl rfl), fun _ => .plain rfl (op_call0 (ih e35) goes48 rfl rfl), fun _ => .plain rfl (op_call0 (ratio_Div_spec e36) goes46 rfl rfl), fun _ => .plain rfl (op_call0 (ratio_Add_spec e37) goes42 rfl rfl), trivial⟩ ⟨_, by exact .plain rfl (op_store_p tyAgg27 rfl rfl rfl rfl (Nat.le_of_ble_eq_true rfl) rfl), rfl⟩ rfl (Tri.ret ?_)
     obtain rfl := Option.some.inj h
     refine Fin.keepS ⟨[(4, Pt 103 0)], [(103, .box 27 (eFrc x_27))]⟩ rfl (Fin.result' [.agg (eFrc x_27)] (.inl rfl) rfl (.cons (.agg tyAgg27 rfl rfl rfl rfl) .nil) ⟨rfl, rfl⟩)
theorem ratio_Simplest_spec {F : Nat} {lo0 : Frc} {hi0 : Frc} {r : Frc} (h : ratio_Simplest_S F lo0 hi0 = some r) : Meets Tryz.prog (tabs mx) 48 [] [.agg (eFrc lo0), .agg (eFrc hi0)] (Is [] (.b (.agg (eFrc r)))) := ratio_Simplest_specR F h
def whole_Parse_S (F : Nat) (s0 : Str) : Option (Big × Int) :=
 Option.bind ((gcall (decide (0 < (s0.length : Int))) (idx? s0 0)).bind fun x_2 => letN ((decide (0 < (s0.length : Int))) && (decide ((x_2.toNat : Int) = 45))) fun x_3 => if x_3 = true then ((drop? s0 1).bind fun x_4 => some x_4) else (some s0)) (fun digits_1 => (gcall (!(decide (digits_1 = []))) (idx? digits_1 0)).bind fun x_5 => letN ((decide (digits_1 = [])) || ((decide ((x_5.toNat : Int) = 48)) && (decide (s0 ≠ [48])))) fun x_6 => if x_6 = true then ((whole_Bad_S F).bind fun x_7 => some (x_7, 281)) else (Option.bind (iter F (fun x_8 => if (decide (x_8 < ((ofStr digits_1).length : Int))) = true then ((idx? (ofStr digits_1) x_8).bind fun x_9 => if ((decide (x_9 < 48)) || (decide (57 < x_9))) = true then ((whole_Bad_S F).bind fun x_10 => some (.inr (.inr (x_10, 281)))) else (some (.inl (IntKind.i64.wrap (x_8 + 1))))) else (some (.inr (.inl ())))) 0) (alt2 (fun _ => if (decide (512 < (digits_1.length : Int))) = true then ((whole_Bad_S F).bind fun x_11 => some (x_11, 30)) else ((whole_Of_S F 0).bind fun x_12 => (whole_Of_S F 10).bind fun x_13 => Option.bind (iter F (un2 fun x_15 x_16 => if (decide (x_16 < ((ofStr digits_1).length : Int))) = true then ((idx? (ofStr digits_1) x_16).bind fun x_18 => (whole_Mul_S F x_15 x_13).bind fun x_19 => letN (IntKind.i64.wrap (IntKind.u8.wrap (x_18 - 48))) fun x_20 => (whole_Of_S F x_20).bind fun x_21 => (whole_Add_S F x_19 x_21).bind fun x_22 => some (.inl (x_22, IntKind.i64.wrap (x_16 + 1)))) else (some (.inr x_15))) (x_12, 0)) (fun x_14 => if x_14.Bad = true then (some (x_14, 30)) else ((whole_signed_S F (decide (digits_1 ≠ s0)) x_14.W).bind fun x_23 => some (x_23, 0))))) (fun y => some y))))
theorem whole_Parse_spec {F : Nat} {s0 : Str} {r : Big × Int} (h : whole_Parse_S F s0 = some r) : Meets Tryz.prog (tabs mx) 106 [] [.one (.str s0)] (Is [] (.tup [.agg (eBig r.1), .one (.i r.2)])) := by
 unfold whole_Parse_S at h
 refine Meets.intro 80 Tryz.func106 Tryz.ntmps106 rfl (by simp) fun E => ?_
 show Tri _ E ⟨80, [], []⟩ _ ⟨[(0, .b (.one (.str s0)))], []⟩ _
 refine Tri.seq (Tri.regionL ?_)
 refine Oc rfl (op_alloc (k := 101) tyZero25 rfl) (Oc rfl (op_assign rfl) ?_)
 refine OpsL.nilS ⟨[(0, .b (.one (.str s0))), (2, Pt 101 0)], [(101, .box 25 zBig)]⟩ rfl (Tri.seq (Tri.regionL ?_))
 refine Oc rfl (op_move rfl) (Oc rfl (op_assign rfl) ?_)
 refine OpsL.nilS ⟨[(0, .b (.one (.str s0))), (2, Pt 101 0), (4, .b (.one (.str s0)))], [(101, .box 25 zBig)]⟩ rfl ?_
 obtain ⟨v1, h2, h⟩ := bnd h
 refine Tri.seqJ (v := v1) (fun (digits_1 : Str) => ⟨[(0, .b (.one (.str s0))), (2, Pt 101 0), (4, .b (.one (.str digits_1)))], [(101, .box 25 zBig)]⟩) (fun z => z) ?_ ?_
 ·refine Tri.seq (Tri.regionL ?_)
  refine Oc rfl (op_move rfl) (Oc rfl (op_len_str und9 rfl) (Oc rfl (op_gtr rfl rfl) (Oc rfl (op_move rfl) ?_)))
  refine OpsL.consG (decide (0 < (s0.length : Int))) 99 [] (.plain rfl) (eq_t _) rfl rfl (fun g3 => trivial) (fun g3 => op_move rfl) ?_
  obtain ⟨x_2, e5, h2⟩ := bnd h2
  refine OpsL.consG (decide (0 < (s0.length : Int))) 99 [16] (.plain rfl) (eq_t _) rfl rfl (fun g4 => ⟨g4, trivial⟩) (fun g4 => op_index_str und9 rfl rfl (ix_lo (gc e5 g4)) (ix_get (gc e5 g4))) (OpsL.consG (decide (0 < (s0.length : Int))) 99 [17] (.plain rfl) (eq_t _) rfl rfl (fun g6 => ⟨g6, trivial⟩) (fun g6 => op_eql rfl rfl) (OpsL.consB h2 rfl (op_pick_and (fun e => e) rfl rfl rfl rfl) (fun x_3 h2 => ?_)))
  refine OpsL.nilS ⟨[(0, .b (.one (.str s0))), (2, Pt 101 0), (4, .b (.one (.str s0))), (19, B x_3)], [(101, .box 25 zBig)]⟩ rfl (Tri.ite h2 rfl (fun _ h2 => ?_) (fun _ h2 => ?_))
  ·refine Tri.regionL (Oc rfl (op_move rfl) ?_)
   obtain ⟨x_4, e7, h2⟩ := bnd h2
   refine Oc rfl (op_slice_str_l und9 e7 rfl rfl) (Oc rfl (op_assign rfl) ?_)
   refine OpsL.nil ?_
   exact Fin.join [0, 2, 4] [101] x_4 (Option.some.inj h2) rfl
  ·refine Tri.skip ?_
   exact Fin.join [0, 2, 4] [101] s0 (Option.some.inj h2) rfl
 ·rintro digits_1 hv
  subst v1
  refine Tri.seq (Tri.seq (Tri.regionL ?_))
  refine Oc rfl (op_move rfl) (Oc rfl (op_eql_str rfl rfl) (Oc rfl (op_move rfl) ?_))
  refine OpsL.consG (!(decide (digits_1 = []))) 99 [] (.plain rfl) (eq_f _) rfl rfl (fun g8 => trivial) (fun g8 => op_move rfl) ?_
  obtain ⟨x_5, e10, h⟩ := bnd h
  refine OpsL.consG (!(decide (digits_1 = []))) 99 [25] (.plain rfl) (eq_f _) rfl rfl (fun g9 => ⟨g9, trivial⟩) (fun g9 => op_index_str und9 rfl rfl (ix_lo (gc e10 g9)) (ix_get (gc e10 g9))) (OpsL.consG (!(decide (digits_1 = []))) 99 [26] (.plain rfl) (eq_f _) rfl rfl (fun g11 => ⟨g11, trivial⟩) (fun g11 => op_eql rfl rfl) (OpsL.consG (!(decide (digits_1 = []))) 99 [27] (.plain rfl) (eq_f _) rfl rfl (fun g12 => ⟨g12, trivial⟩) (fun g12 => op_move rfl) (OpsL.keepS ⟨[(0, .b (.one (.str s0))), (2, Pt 101 0), (4, .b (.one (.str digits_1))), (24, B (decide (digits_1 = []))), (28, .opt (!(decide (digits_1 = []))) (.one (.bool (decide ((x_5.toNat : Int) = 48)))))], [(101, .box 25 zBig)]⟩ rfl (OpsL.consG ((!(decide (digits_1 = []))) && (decide ((x_5.toNat : Int) = 48))) 99 [] (.under rfl) (and_t _ _) rfl rfl (fun g13 => trivial) (fun g13 => op_move rfl) (OpsL.consG ((!(decide (digits_1 = []))) && (decide ((x_5.toNat : Int) = 48))) 99 [29] (.under rfl) (and_t _ _) rfl rfl (fun g14 => ⟨g14, trivial⟩) (fun g14 => op_neq_str rfl rfl) ?_)))))
  refine OpsL.consG (!(decide (digits_1 = []))) 99 [28] (.plain rfl) (eq_f _) rfl rfl (fun g15 => ⟨g15, trivial⟩) (fun g15 => op_pick_and (fun e => by rw [g15, e]; rfl) rfl rfl rfl rfl) (OpsL.consB h rfl (op_pick_or (fun e => by rw [e]; rfl) rfl rfl rfl rfl) (fun x_6 h => ?_))
  refine OpsL.nilS ⟨[(0, .b (.one (.str s0))), (2, Pt 101 0), (4, .b (.one (.str digits_1))), (32, B x_6)], [(101, .box 25 zBig)]⟩ rfl (Tri.ite h rfl (fun _ h => ?_) (fun _ h => ?_))
  ·refine Tri.seq (Tri.regionL ?_)
   obtain ⟨x_7, e16, h⟩ := bnd h
   refine Oc rfl (op_call0 (whole_Bad_spec e16) goes92 rfl rfl) (Oc rfl (op_store_p tyAgg25 rfl rfl rfl rfl (Nat.le_of_ble_eq_true rfl) rfl) (Oc rfl (op_assign rfl) ?_))
   refine OpsL.nilS ⟨[(2, Pt 101 0), (3, I 281)], [(101, .box 25 (eBig x_7))]⟩ rfl (Tri.ret (Fin.then_ret ?_))
   obtain rfl := Option.some.inj h
   refine Fin.keepS ⟨[(2, Pt 101 0), (3, I 281)], [(101, .box 25 (eBig x_7))]⟩ rfl (Fin.result' [.agg (eBig x_7), .one (.i 281)] (.inl rfl) rfl (.cons (.agg tyAgg25 rfl rfl rfl rfl) (.cons (.tmp rfl) .nil)) ⟨rfl, rfl⟩)
  ·refine Tri.skip (Fin.keepS ⟨[(0, .b (.one (.str s0))), (2, Pt 101 0), (4, .b (.one (.str digits_1)))], [(101, .box 25 zBig)]⟩ rfl (Fin.then ?_))
   obtain ⟨v17, h18, h⟩ := bnd h
   refine Tri.seqJ (v := v17) (fun (_ : Unit) => ⟨[(0, .b (.one (.str s0))), (2, Pt 101 0), (4, .b (.one (.str digits_1)))], [(101, .box 25 zBig)]⟩) (fun z => .inl z) ?_ ?_
   ·refine Tri.seq (Tri.regionL ?_)
    refine Oc rfl (op_move rfl) (Oc rfl (op_conv_str und9 und110 undi5 rfl) (Oc rfl (op_len_e' und110 rfl (List.length_map _)) (Oc rfl (op_move rfl) ?_)))
    refine OpsL.nilS ⟨[(0, .b (.one (.str s0))), (2, Pt 101 0), (4, .b (.one (.str digits_1))), (35, .b (.one (.sl 1 ((ofStr digits_1).map (eK .u8))))), (36, I ((ofStr digits_1).length : Int)), (37, I 0)], [(101, .box 25 zBig)]⟩ rfl (Tri.block (Tri.loopJ h18 (fun (x_8 : Int) => ⟨[(0, .b (.one (.str s0))), (2, Pt 101 0), (4, .b (.one (.str digits_1))), (35, .b (.one (.sl 1 ((ofStr digits_1).map (eK .u8))))), (36, I ((ofStr digits_1).length : Int)), (37, I x_8)], [(101, .box 25 zBig)]⟩) [0, 2, 4, 35, 36, 37] [101] rfl ?_))
    rintro x_8 o19 h20 hy21
    refine Tri.seq (Tri.regionL ?_)
    refine Oc rfl (op_lss rfl rfl) (OpsL.nilS ⟨[(0, .b (.one (.str s0))), (2, Pt 101 0), (4, .b (.one (.str digits_1))), (35, .b (.one (.sl 1 ((ofStr digits_1).map (eK .u8))))), (36, I ((ofStr digits_1).length : Int)), (37, I x_8), (38, B (decide (x_8 < ((ofStr digits_1).length : Int))))], [(101, .box 25 zBig)]⟩ rfl (Tri.seq (Tri.ite h20 rfl (fun _ h20 => ?_) (fun _ h20 => ?_))))
    ·refine Tri.skip (Fin.keepS ⟨[(0, .b (.one (.str s0))), (2, Pt 101 0), (4, .b (.one (.str digits_1))), (35, .b (.one (.sl 1 ((ofStr digits_1).map (eK .u8))))), (36, I ((ofStr digits_1).length : Int)), (37, I x_8)], [(101, .box 25 zBig)]⟩ rfl (Fin.then (Tri.seq (Tri.block (Tri.seq (Tri.regionL ?_))))))
     obtain ⟨x_9, e22, h20⟩ := bnd h20
     refine Oc rfl (op_index_e tySl110 (ix_lo e22) (ix_map (e := (eK .u8)) e22) rfl rfl) (Oc rfl (op_load_e1 tyOne5 rfl rfl) (Oc rfl (op_assign rfl) ?_))
     refine OpsL.nilS ⟨[(0, .b (.one (.str s0))), (2, Pt 101 0), (4, .b (.one (.str digits_1))), (6, .b (.one (.int .u8 x_9))), (35, .b (.one (.sl 1 ((ofStr digits_1).map (eK .u8))))), (36, I ((ofStr digits_1).length : Int)), (37, I x_8)], [(101, .box 25 zBig)]⟩ rfl (Tri.seq (Tri.regionL ?_))
     refine Oc rfl (op_move rfl) (Oc rfl (op_lss rfl rfl) (Oc rfl (op_move rfl) ?_))
     refine OpsL.consG (!(decide (x_9 < 48))) 99 [] (.plain rfl) (eq_f _) rfl rfl (fun g23 => trivial) (fun g23 => op_move rfl) (OpsL.consG (!(decide (x_9 < 48))) 99 [44] (.plain rfl) (eq_f _) rfl rfl (fun g24 => ⟨g24, trivial⟩) (fun g24 => op_gtr rfl rfl) (Oc rfl (op_pick_or (fun e => by rw [e]; rfl) rfl rfl rfl rfl) (OpsL.nilS ⟨[(0, .b (.one (.str s0))), (2, Pt 101 0), (4, .b (.one (.str digits_1))), (35, .b (.one (.sl 1 ((ofStr digits_1).map (eK .u8))))), (36, I ((ofStr digits_1).length : Int)), (37, I x_8), (46, B ((decide (x_9 < 48)) || (decide (57 < x_9))))], [(101, .box 25 zBig)]⟩ rfl (Tri.ite h20 rfl (fun _ h20 => ?_) (fun _ h20 => ?_)))))
     ·refine Tri.seq (Tri.regionL ?_)
      obtain ⟨x_10, e25, h20⟩ := bnd h20
      refine Oc rfl (op_call0 (whole_Bad_spec e25) goes92 rfl rfl) (Oc rfl (op_store_p tyAgg25 rfl rfl rfl rfl (Nat.le_of_ble_eq_true rfl) rfl) (Oc rfl (op_assign rfl) ?_))
      refine OpsL.nilS ⟨[(2, Pt 101 0), (3, I 281)], [(101, .box 25 (eBig x_10))]⟩ rfl (Tri.ret (Fin.block_ret (Fin.then_ret ?_)))
      obtain rfl := hy21 _ (Option.some.inj h20).symm
      refine Fin.then_ret (Fin.block_ret (Fin.then_ret ?_))
      obtain rfl := Option.some.inj h
      refine Fin.keepS ⟨[(2, Pt 101 0), (3, I 281)], [(101, .box 25 (eBig x_10))]⟩ rfl (Fin.result' [.agg (eBig x_10), .one (.i 281)] (.inl rfl) rfl (.cons (.agg tyAgg25 rfl rfl rfl rfl) (.cons (.tmp rfl) .nil)) ⟨rfl, rfl⟩)
     ·refine Tri.skip (Fin.block_normal (Fin.keepS ⟨[(0, .b (.one (.str s0))), (2, Pt 101 0), (4, .b (.one (.str digits_1))), (35, .b (.one (.sl 1 ((ofStr digits_1).map (eK .u8))))), (36, I ((ofStr digits_1).length : Int)), (37, I x_8)], [(101, .box 25 zBig)]⟩ rfl (Fin.then (Tri.regionL ?_))))
      refine Oc rfl (op_add rfl rfl) (Oc rfl (op_move rfl) ?_)
      refine OpsL.nil ?_
      exact Fin.againJ [0, 2, 4, 35, 36, 37] [101] (IntKind.i64.wrap (x_8 + 1)) (Option.some.inj h20) rfl
    ·refine Tri.exit (Fin.then_exit ?_)
     obtain rfl := hy21 _ (Option.some.inj h20).symm
     refine Fin.then_exit (Fin.block_exit ?_)
     exact Fin.join [0, 2, 4] [101] () rfl rfl
   ·rintro _ hv
    subst v17
    refine Tri.seq (Tri.seq (Tri.regionL ?_))
    refine Oc rfl (op_move rfl) (Oc rfl (op_len_str und9 rfl) (Oc rfl (op_gtr rfl rfl) ?_))
    refine OpsL.nilS ⟨[(0, .b (.one (.str s0))), (2, Pt 101 0), (4, .b (.one (.str digits_1))), (51, B (decide (512 < (digits_1.length : Int))))], [(101, .box 25 zBig)]⟩ rfl (Tri.ite h rfl (fun _ h => ?_) (fun _ h => ?_))
    ·refine Tri.seq (Tri.regionL ?_)
     obtain ⟨x_11, e26, h⟩ := bnd h
     refine Oc rfl (op_call0 (whole_Bad_spec e26) goes92 rfl rfl) (Oc rfl (op_store_p tyAgg25 rfl rfl rfl rfl (Nat.le_of_ble_eq_true rfl) rfl) (Oc rfl (op_assign rfl) ?_))
     refine OpsL.nilS ⟨[(2, Pt 101 0), (3, I 30)], [(101, .box 25 (eBig x_11))]⟩ rfl (Tri.ret (Fin.then_ret ?_))
     obtain rfl := Option.some.inj h
     refine Fin.keepS ⟨[(2, Pt 101 0), (3, I 30)], [(101, .box 25 (eBig x_11))]⟩ rfl (Fin.result' [.agg (eBig x_11), .one (.i 30)] (.inl rfl) rfl (.cons (.agg tyAgg25 rfl rfl rfl rfl) (.cons (.tmp rfl) .nil)) ⟨rfl, rfl⟩)
    ·refine Tri.skip (Fin.keepS ⟨[(0, .b (.one (.str s0))), (2, Pt 101 0), (4, .b (.one (.str digits_1)))], [(101, .box 25 zBig)]⟩ rfl (Fin.then (Tri.seq (Tri.regionL ?_))))
     obtain ⟨x_12, e27, h⟩ := bnd h
     refine Oc rfl (op_call0 (whole_Of_spec e27) goes91 rfl rfl) ?_
     obtain ⟨x_13, e28, h⟩ := bnd h
     refine Oc rfl (op_call0 (whole_Of_spec e28) goes91 rfl rfl) (OpsL.keepS ⟨[(0, .b (.one (.str s0))), (2, Pt 101 0), (4, .b (.one (.str digits_1))), (53, .b (.agg (eBig x_12))), (54, .b (.agg (eBig x_13)))], [(101, .box 25 zBig)]⟩ rfl (Oc rfl (op_alloc (k := 102) tyZero25 rfl) (Oc rfl (op_alloc (k := 103) tyZero25 rfl) (Oc rfl (op_store_p tyAgg25 rfl rfl rfl rfl (Nat.le_of_ble_eq_true rfl) rfl) (Oc rfl (op_store_p tyAgg25 rfl rfl rfl rfl (Nat.le_of_ble_eq_true rfl) rfl) ?_)))))
     refine OpsL.nilS ⟨[(0, .b (.one (.str s0))), (2, Pt 101 0), (4, .b (.one (.str digits_1))), (7, Pt 102 0), (8, Pt 103 0)], [(101, .box 25 zBig), (102, .box 25 (eBig x_12)), (103, .box 25 (eBig x_13))]⟩ rfl ?_
     obtain ⟨v29, h30, h⟩ := bnd h
     refine Tri.seqJ (v := v29) (fun (x_14 : Big) => ⟨[(0, .b (.one (.str s0))), (2, Pt 101 0), (4, .b (.one (.str digits_1))), (7, Pt 102 0)], [(101, .box 25 zBig), (102, .box 25 (eBig x_14))]⟩) (fun z => z) ?_ ?_
     ·refine Tri.seq (Tri.regionL ?_)
      refine Oc rfl (op_move rfl) (Oc rfl (op_conv_str und9 und110 undi5 rfl) (Oc rfl (op_len_e' und110 rfl (List.length_map _)) (Oc rfl (op_move rfl) ?_)))
      refine OpsL.nilS ⟨[(0, .b (.one (.str s0))), (2, Pt 101 0), (4, .b (.one (.str digits_1))), (7, Pt 102 0), (8, Pt 103 0), (56, .b (.one (.sl 1 ((ofStr digits_1).map (eK .u8))))), (57, I ((ofStr digits_1).length : Int)), (58, I 0)], [(101, .box 25 zBig), (102, .box 25 (eBig x_12)), (103, .box 25 (eBig x_13))]⟩ rfl (Tri.block (Tri.loopJ h30 (un2 fun (x_15 : Big) (x_16 : Int) => ⟨[(0, .b (.one (.str s0))), (2, Pt 101 0), (4, .b (.one (.str digits_1))), (7, Pt 102 0), (8, Pt 103 0), (56, .b (.one (.sl 1 ((ofStr digits_1).map (eK .u8))))), (57, I ((ofStr digits_1).length : Int)), (58, I x_16)], [(101, .box 25 zBig), (102, .box 25 (eBig x_15)), (103, .box 25 (eBig x_13))]⟩) [0, 2, 4, 7, 8, 56, 57, 58] [101, 102, 103] rfl ?_))
      rintro ⟨x_15, x_16⟩ o31 h32 hy33
      refine Tri.seq (Tri.regionL ?_)
      refine Oc rfl (op_lss rfl rfl) (OpsL.nilS ⟨[(0, .b (.one (.str s0))), (2, Pt 101 0), (4, .b (.one (.str digits_1))), (7, Pt 102 0), (8, Pt 103 0), (56, .b (.one (.sl 1 ((ofStr digits_1).map (eK .u8))))), (57, I ((ofStr digits_1).length : Int)), (58, I x_16), (59, B (decide (x_16 < ((ofStr digits_1).length : Int))))], [(101, .box 25 zBig), (102, .box 25 (eBig x_15)), (103, .box 25 (eBig x_13))]⟩ rfl (Tri.seq (Tri.ite h32 rfl (fun _ h32 => ?_) (fun _ h32 => ?_))))
      ·refine Tri.skip (Fin.keepS ⟨[(0, .b (.one (.str s0))), (2, Pt 101 0), (4, .b (.one (.str digits_1))), (7, Pt 102 0), (8, Pt 103 0), (56, .b (.one (.sl 1 ((ofStr digits_1).map (eK .u8))))), (57, I ((ofStr digits_1).length : Int)), (58, I x_16)], [(101, .box 25 zBig), (102, .box 25 (eBig x_15)), (103, .box 25 (eBig x_13))]⟩ rfl (Fin.then (Tri.seq (Tri.block (Tri.seq (Tri.regionL ?_))))))
       obtain ⟨x_18, e34, h32⟩ := bnd h32
       refine Oc rfl (op_index_e tySl110 (ix_lo e34) (ix_map (e := (eK .u8)) e34) rfl rfl) (Oc rfl (op_load_e1 tyOne5 rfl rfl) (Oc rfl (op_assign rfl) ?_))
       refine OpsL.nilS ⟨[(0, .b (.one (.str s0))), (2, Pt 101 0), (4, .b (.one (.str digits_1))), (7, Pt 102 0), (8, Pt 103 0), (10, .b (.one (.int .u8 x_18))), (56, .b (.one (.sl 1 ((ofStr digits_1).map (eK .u8))))), (57, I ((ofStr digits_1).length : Int)), (58, I x_16)], [(101, .box 25 zBig), (102, .box 25 (eBig x_15)), (103, .box 25 (eBig x_13))]⟩ rfl (Tri.regionL (Oc rfl (op_load_p tyAgg25 rfl rfl rfl rfl) (Oc rfl (op_load_p tyAgg25 rfl rfl rfl rfl) ?_)))
       obtain ⟨x_19, e35, h32⟩ := bnd h32
       refine Oc rfl (op_call0 (whole_Mul_spec e35) goes102 rfl rfl) (Oc rfl (op_move rfl) (Oc rfl (op_sub rfl rfl) ?_))
       refine OpsL.keepS ⟨[(0, .b (.one (.str s0))), (2, Pt 101 0), (4, .b (.one (.str digits_1))), (7, Pt 102 0), (8, Pt 103 0), (56, .b (.one (.sl 1 ((ofStr digits_1).map (eK .u8))))), (57, I ((ofStr digits_1).length : Int)), (58, I x_16), (64, .b (.agg (eBig x_19))), (66, .b (.one (.int .u8 (IntKind.u8.wrap (x_18 - 48)))))], [(101, .box 25 zBig), (102, .box 25 (eBig x_15)), (103, .box 25 (eBig x_13))]⟩ rfl (OpsL.consI .i64 h32 rfl (op_conv_wrap undi5 undi3 rfl) (fun x_20 h32 => ?_))
       obtain ⟨x_21, e36, h32⟩ := bnd h32
       refine Oc rfl (op_call0 (whole_Of_spec e36) goes91 rfl rfl) ?_
       obtain ⟨x_22, e37, h32⟩ := bnd h32
       refine Oc rfl (op_call0 (whole_Add_spec e37) goes97 rfl rfl) (Oc rfl (op_store_p tyAgg25 rfl rfl rfl rfl (Nat.le_of_ble_eq_true rfl) rfl) ?_)
       refine OpsL.nil (Fin.block_normal (Fin.keepS ⟨[(0, .b (.one (.str s0))), (2, Pt 101 0), (4, .b (.one (.str digits_1))), (7, Pt 102 0), (8, Pt 103 0), (56, .b (.one (.sl 1 ((ofStr digits_1).map (eK .u8))))), (57, I ((ofStr digits_1).length : Int)), (58, I x_16)], [(101, .box 25 zBig), (102, .box 25 (eBig x_22)), (103, .box 25 (eBig x_13))]⟩ rfl (Fin.then (Tri.regionL ?_))))
       refine Oc rfl (op_add rfl rfl) (Oc rfl (op_move rfl) ?_)
       refine OpsL.nil ?_
       exact Fin.againJ [0, 2, 4, 7, 8, 56, 57, 58] [101, 102, 103] (x_22, IntKind.i64.wrap (x_16 + 1)) (Option.some.inj h32) rfl
      ·refine Tri.exit (Fin.then_exit ?_)
       obtain rfl := hy33 _ (Option.some.inj h32).symm
       refine Fin.then_exit (Fin.block_exit ?_)
       exact Fin.join [0, 2, 4, 7] [101, 102] x_15 rfl rfl
     ·rintro x_14 hv
      subst v29
      refine Tri.seq (Tri.seq (Tri.regionL ?_))
      refine Oc rfl (op_field_p tyFld25_0 rfl rfl) (Oc rfl (op_load_p1 tyOne4 rfl rfl rfl) ?_)
      refine OpsL.nilS ⟨[(0, .b (.one (.str s0))), (2, Pt 101 0), (4, .b (.one (.str digits_1))), (7, Pt 102 0), (72, B x_14.Bad)], [(101, .box 25 zBig), (102, .box 25 (eBig x_14))]⟩ rfl (Tri.ite h rfl (fun _ h => ?_) (fun _ h => ?_))
      ·refine Tri.seq (Tri.regionL ?_)
       refine Oc rfl (op_load_p tyAgg25 rfl rfl rfl rfl) (Oc rfl (op_store_p tyAgg25 rfl rfl rfl rfl (Nat.le_of_ble_eq_true rfl) rfl) (Oc rfl (op_assign rfl) ?_))
       refine OpsL.nilS ⟨[(2, Pt 101 0), (3, I 30)], [(101, .box 25 (eBig x_14))]⟩ rfl (Tri.ret (Fin.then_ret ?_))
       obtain rfl := Option.some.inj h
       refine Fin.keepS ⟨[(2, Pt 101 0), (3, I 30)], [(101, .box 25 (eBig x_14))]⟩ rfl (Fin.result' [.agg (eBig x_14), .one (.i 30)] (.inl rfl) rfl (.cons (.agg tyAgg25 rfl rfl rfl rfl) (.cons (.tmp rfl) .nil)) ⟨rfl, rfl⟩)
      ·refine Tri.skip (Fin.keepS ⟨[(0, .b (.one (.str s0))), (2, Pt 101 0), (4, .b (.one (.str digits_1))), (7, Pt 102 0)], [(101, .box 25 zBig), (102, .box 25 (eBig x_14))]⟩ rfl (Fin.then (Tri.seq (Tri.regionL ?_))))
       refine Oc rfl (op_move rfl) (Oc rfl (op_move rfl) (Oc rfl (op_neq_str rfl rfl) (Oc rfl (op_field_p tyFld25_2 rfl rfl) (Oc rfl (op_load_p tyAgg23 rfl rfl rfl rfl) ?_))))
       refine OpsL.keepS ⟨[(2, Pt 101 0), (76, B (decide (digits_1 ≠ s0))), (78, .b (.agg (eW x_14.W)))], [(101, .box 25 zBig)]⟩ rfl ?_
       obtain ⟨x_23, e38, h⟩ := bnd h
       refine Oc rfl (op_call0 (whole_signed_spec e38) goes115 rfl rfl) (Oc rfl (op_store_p tyAgg25 rfl rfl rfl rfl (Nat.le_of_ble_eq_true rfl) rfl) (Oc rfl (op_assign rfl) ?_))
       refine OpsL.nilS ⟨[(2, Pt 101 0), (3, I 0)], [(101, .box 25 (eBig x_23))]⟩ rfl (Tri.ret ?_)
       obtain rfl := Option.some.inj h
       refine Fin.keepS ⟨[(2, Pt 101 0), (3, I 0)], [(101, .box 25 (eBig x_23))]⟩ rfl (Fin.result' [.agg (eBig x_23), .one (.i 0)] (.inl rfl) rfl (.cons (.agg tyAgg25 rfl rfl rfl rfl) (.cons (.tmp rfl) .nil)) ⟨rfl, rfl⟩)
def ratio_Parse_S (F : Nat) (s0 : Str) : Option (Frc × Int) :=
 Option.bind (strings_Cut_S F s0 [47]) (un3 fun x_1 x_2 x_3 => (ratio_one_S F).bind fun x_4 => letN (⟨(⟨false, false, A16.zero⟩ : Big), x_4⟩ : Frc) fun x_5 => Option.bind (whole_Parse_S F x_1) (un2 fun x_6 x_7 => Option.bind (if x_3 = true then (Option.bind (whole_Parse_S F x_2) (un2 fun x_10 x_11 => some ((⟨x_6, x_10⟩ : Frc), x_11))) else (some ((⟨x_6, x_5.D⟩ : Frc), 0))) (un2 fun x_8 f_9 => (gcall (((!((decide (x_7 = 281)) || (decide (f_9 = 281)))) && x_3) && !((decide (x_2 = [48])) || (decide (x_2 = [49])))) (strings_HasPrefix_S F x_2 [45])).bind fun x_12 => letN (((decide (x_7 = 281)) || (decide (f_9 = 281))) || (x_3 && (((decide (x_2 = [48])) || (decide (x_2 = [49]))) || x_12))) fun x_13 => if x_13 = true then ((ratio_Bad_S F).bind fun x_14 => some (x_14, 281)) else (if ((decide (x_7 ≠ 0)) || (decide (f_9 ≠ 0))) = true then ((ratio_Bad_S F).bind fun x_15 => some (x_15, 30)) else ((ratio_Good_S F x_8).bind fun x_16 => if (!x_16) = true then ((ratio_Bad_S F).bind fun x_17 => some (x_17, 281)) else (some (x_8, 0)))))))
theorem ratio_Parse_spec {F : Nat} {s0 : Str} {r : Frc × Int} (h : ratio_Parse_S F s0 = some r) : Meets Tryz.prog (tabs mx) 52 [] [.one (.str s0)] (Is [] (.tup [.agg (eFrc r.1), .one (.i r.2)])) := by
 unfold ratio_Parse_S at h
 refine Meets.intro 68 Tryz.func52 Tryz.ntmps52 rfl (by simp) fun E => ?_
 show Tri _ E ⟨68, [], []⟩ _ ⟨[(0, .b (.one (.str s0)))], []⟩ _
 refine Tri.seq (Tri.regionL ?_)
 refine Oc rfl (op_alloc (k := 101) tyZero27 rfl) (Oc rfl (op_assign rfl) ?_)
 refine OpsL.nilS ⟨[(0, .b (.one (.str s0))), (2, Pt 101 0)], [(101, .box 27 zFrc)]⟩ rfl (Tri.seq (Tri.regionL ?_))
 refine Oc rfl (op_move rfl) ?_
 obtain ⟨⟨x_1, x_2, x_3⟩, e1, h⟩ := bnd h
 refine Oc rfl (op_call0 (strings_Cut_spec e1) goes105 rfl rfl) (Oc rfl (op_move rfl) (Oc rfl (op_extract rfl rfl) (Oc rfl (op_extract rfl rfl) ?_)))
 refine OpsL.keepS ⟨[(2, Pt 101 0), (10, .tup [.one (.str x_1), .one (.str x_2), .one (.bool x_3)]), (13, .b (.one (.str x_1))), (14, .b (.one (.str x_2)))], [(101, .box 27 zFrc)]⟩ rfl (Oc rfl (op_extract rfl rfl) (Oc rfl (op_assign rfl) (Oc rfl (op_assign rfl) (Oc rfl (op_assign rfl) ?_))))
 refine OpsL.nilS ⟨[(2, Pt 101 0), (4, .b (.one (.str x_1))), (5, .b (.one (.str x_2))), (6, B x_3)], [(101, .box 27 zFrc)]⟩ rfl (Tri.seq (Tri.regionL ?_))
 obtain ⟨x_4, e2, h⟩ := bnd h
 refine Oc rfl (op_call0 (ratio_one_spec e2) goes90 rfl rfl) (OpsL.consA eFrc h rfl (op_build tyBuild27 rfl rfl) (fun x_5 h => ?_))
 refine Oc rfl (op_alloc (k := 102) tyZero27 rfl) (Oc rfl (op_store_p tyAgg27 rfl rfl rfl rfl (Nat.le_of_ble_eq_true rfl) rfl) ?_)
 refine OpsL.nilS ⟨[(2, Pt 101 0), (4, .b (.one (.str x_1))), (5, .b (.one (.str x_2))), (6, B x_3), (7, Pt 102 0)], [(101, .box 27 zFrc), (102, .box 27 (eFrc x_5))]⟩ rfl (Tri.seq (Tri.regionL ?_))
 refine Oc rfl (op_assign rfl) (Oc rfl (op_assign rfl) ?_)
 refine OpsL.nilS ⟨[(2, Pt 101 0), (4, .b (.one (.str x_1))), (5, .b (.one (.str x_2))), (6, B x_3), (7, Pt 102 0), (9, I 0)], [(101, .box 27 zFrc), (102, .box 27 (eFrc x_5))]⟩ rfl (Tri.seq (Tri.regionL ?_))
 refine Oc rfl (op_move rfl) ?_
 obtain ⟨⟨x_6, x_7⟩, e3, h⟩ := bnd h
 refine Oc rfl (op_call0 (whole_Parse_spec e3) goes106 rfl rfl) (Oc rfl (op_move rfl) (Oc rfl (op_extract rfl rfl) (Oc rfl (op_extract rfl rfl) ?_)))
 refine OpsL.keepS ⟨[(2, Pt 101 0), (5, .b (.one (.str x_2))), (6, B x_3), (7, Pt 102 0), (9, I 0), (21, .b (.agg (eBig x_6))), (22, I x_7)], [(101, .box 27 zFrc), (102, .box 27 (eFrc x_5))]⟩ rfl (Oc rfl (op_field_p tyFld27_0 rfl rfl) (Oc rfl (op_store_p tyAgg25 rfl rfl rfl rfl (Nat.le_of_ble_eq_true rfl) rfl) (Oc rfl (op_assign rfl) ?_)))
 refine OpsL.nilS ⟨[(2, Pt 101 0), (5, .b (.one (.str x_2))), (6, B x_3), (7, Pt 102 0), (8, I x_7), (9, I 0)], [(101, .box 27 zFrc), (102, .box 27 (eBig x_6 ++ (eBig x_5.D)))]⟩ rfl ?_
 obtain ⟨v4, h5, h⟩ := bnd h
 refine Tri.seqJ (v := v4) (un2 fun (x_8 : Frc) (f_9 : Int) => ⟨[(2, Pt 101 0), (5, .b (.one (.str x_2))), (6, B x_3), (7, Pt 102 0), (8, I x_7), (9, I f_9)], [(101, .box 27 zFrc), (102, .box 27 (eFrc x_8))]⟩) (fun z => z) ?_ ?_
 ·refine Tri.seq (Tri.regionL ?_)
  refine Oc rfl (op_move rfl) (OpsL.nilS ⟨[(2, Pt 101 0), (5, .b (.one (.str x_2))), (6, B x_3), (7, Pt 102 0), (8, I x_7), (9, I 0), (24, B x_3)], [(101, .box 27 zFrc), (102, .box 27 (eBig x_6 ++ (eBig x_5.D)))]⟩ rfl (Tri.ite h5 rfl (fun _ h5 => ?_) (fun _ h5 => ?_)))
  ·refine Tri.regionL (Oc rfl (op_move rfl) ?_)
   obtain ⟨⟨x_10, x_11⟩, e6, h5⟩ := bnd h5
   refine Oc rfl (op_call0 (whole_Parse_spec e6) goes106 rfl rfl) (Oc rfl (op_move rfl) (Oc rfl (op_extract rfl rfl) (Oc rfl (op_extract rfl rfl) ?_)))
   refine OpsL.keepS ⟨[(2, Pt 101 0), (5, .b (.one (.str x_2))), (6, B x_3), (7, Pt 102 0), (8, I x_7), (9, I 0), (28, .b (.agg (eBig x_10))), (29, I x_11)], [(101, .box 27 zFrc), (102, .box 27 (eBig x_6 ++ (eBig x_5.D)))]⟩ rfl (Oc rfl (op_field_p tyFld27_1 rfl rfl) (Oc rfl (op_store_p tyAgg25 rfl rfl rfl rfl (Nat.le_of_ble_eq_true rfl) rfl) (Oc rfl (op_assign rfl) ?_)))
   refine OpsL.nil ?_
   exact Fin.join [2, 5, 6, 7, 8, 9] [101, 102] ((⟨x_6, x_10⟩ : Frc), x_11) (Option.some.inj h5) rfl
  ·refine Tri.skip ?_
   exact Fin.join [2, 5, 6, 7, 8, 9] [101, 102] ((⟨x_6, x_5.D⟩ : Frc), 0) (Option.some.inj h5) rfl
 ·rintro ⟨x_8, f_9⟩ hv
  subst v4
  refine Tri.seq (Tri.block (Tri.seq (Tri.regionL ?_)))
  refine Oc rfl (op_move rfl) (Oc rfl (op_eql rfl rfl) (Oc rfl (op_move rfl) ?_))
  refine OpsL.consG (!(decide (x_7 = 281))) 99 [] (.plain rfl) (eq_f _) rfl rfl (fun g7 => trivial) (fun g7 => op_move rfl) (OpsL.consG (!(decide (x_7 = 281))) 99 [35] (.plain rfl) (eq_f _) rfl rfl (fun g8 => ⟨g8, trivial⟩) (fun g8 => op_eql rfl rfl) (Oc rfl (op_pick_or (fun e => by rw [e]; rfl) rfl rfl rfl rfl) (Oc rfl (op_move rfl) ?_)))
  refine OpsL.keepS ⟨[(2, Pt 101 0), (5, .b (.one (.str x_2))), (6, B x_3), (7, Pt 102 0), (8, I x_7), (9, I f_9), (38, B ((decide (x_7 = 281)) || (decide (f_9 = 281))))], [(101, .box 27 zFrc), (102, .box 27 (eFrc x_8))]⟩ rfl (OpsL.consG (!((decide (x_7 = 281)) || (decide (f_9 = 281)))) 99 [] (.plain rfl) (eq_f _) rfl rfl (fun g9 => trivial) (fun g9 => op_move rfl) (OpsL.consG (!((decide (x_7 = 281)) || (decide (f_9 = 281)))) 99 [39] (.plain rfl) (eq_f _) rfl rfl (fun g10 => ⟨g10, trivial⟩) (fun g10 => op_move rfl) (OpsL.consG ((!((decide (x_7 = 281)) || (decide (f_9 = 281)))) && x_3) 99 [] (.under rfl) (and_t _ _) rfl rfl (fun g11 => trivial) (fun g11 => op_move rfl) (OpsL.consG ((!((decide (x_7 = 281)) || (decide (f_9 = 281)))) && x_3) 99 [41] (.under rfl) (and_t _ _) rfl rfl (fun g12 => ⟨g12, trivial⟩) (fun g12 => op_eql_str rfl rfl) (OpsL.consG ((!((decide (x_7 = 281)) || (decide (f_9 = 281)))) && x_3) 99 [42] (.under rfl) (and_t _ _) rfl rfl (fun g13 => ⟨g13, trivial⟩) (fun g13 => op_move rfl) ?_)))))
  refine OpsL.consG (((!((decide (x_7 = 281)) || (decide (f_9 = 281)))) && x_3) && !(decide (x_2 = [48]))) 99 [] (.under rfl) (and_f _ _) rfl rfl (fun g14 => trivial) (fun g14 => op_move rfl) (OpsL.consG (((!((decide (x_7 = 281)) || (decide (f_9 = 281)))) && x_3) && !(decide (x_2 = [48]))) 99 [44] (.under rfl) (and_f _ _) rfl rfl (fun g15 => ⟨g15, trivial⟩) (fun g15 => op_eql_str rfl rfl) (OpsL.consG ((!((decide (x_7 = 281)) || (decide (f_9 = 281)))) && x_3) 99 [43] (.under rfl) (and_t _ _) rfl rfl (fun g16 => ⟨g16, trivial⟩) (fun g16 => op_pick_or (fun e => by rw [g16, e]; rfl) rfl rfl rfl rfl) (OpsL.keepS ⟨[(2, Pt 101 0), (5, .b (.one (.str x_2))), (7, Pt 102 0), (8, I x_7), (9, I f_9), (38, B ((decide (x_7 = 281)) || (decide (f_9 = 281)))), (40, .opt (!((decide (x_7 = 281)) || (decide (f_9 = 281)))) (.one (.bool x_3))), (46, .opt ((!((decide (x_7 = 281)) || (decide (f_9 = 281)))) && x_3) (.one (.bool ((decide (x_2 = [48])) || (decide (x_2 = [49]))))))], [(101, .box 27 zFrc), (102, .box 27 (eFrc x_8))]⟩ rfl (OpsL.consG ((!((decide (x_7 = 281)) || (decide (f_9 = 281)))) && x_3) 99 [46] (.under rfl) (and_t _ _) rfl rfl (fun g17 => ⟨g17, trivial⟩) (fun g17 => op_move rfl) (OpsL.consG (((!((decide (x_7 = 281)) || (decide (f_9 = 281)))) && x_3) && !((decide (x_2 = [48])) || (decide (x_2 = [49])))) 99 [] (.under rfl) (and_f _ _) rfl rfl (fun g18 => trivial) (fun g18 => op_move rfl) ?_)))))
  obtain ⟨x_12, e20, h⟩ := bnd h
  refine OpsL.consG (((!((decide (x_7 = 281)) || (decide (f_9 = 281)))) && x_3) && !((decide (x_2 = [48])) || (decide (x_2 = [49])))) 99 [48] (.under rfl) (and_f _ _) rfl rfl (fun g19 => ⟨g19, trivial⟩) (fun g19 => op_call0 (strings_HasPrefix_spec (gc e20 g19)) goes107 rfl rfl) (OpsL.consG ((!((decide (x_7 = 281)) || (decide (f_9 = 281)))) && x_3) 99 [47] (.under rfl) (and_t _ _) rfl rfl (fun g21 => ⟨g21, trivial⟩) (fun g21 => op_pick_or (fun e => by rw [g21, e]; rfl) rfl rfl rfl rfl) (OpsL.consG (!((decide (x_7 = 281)) || (decide (f_9 = 281)))) 99 [40] (.plain rfl) (eq_f _) rfl rfl (fun g22 => ⟨g22, trivial⟩) (fun g22 => op_pick_and (fun e => by rw [g22, e]; rfl) rfl rfl rfl rfl) (OpsL.consB h rfl (op_pick_or (fun e => by rw [e]; rfl) rfl rfl rfl rfl) (fun x_13 h => ?_))))
  refine Oc rfl (op_assign rfl) (OpsL.nilS ⟨[(2, Pt 101 0), (7, Pt 102 0), (8, I x_7), (9, I f_9), (31, B x_13)], [(101, .box 27 zFrc), (102, .box 27 (eFrc x_8))]⟩ rfl (Tri.ite h rfl (fun _ h => ?_) (fun _ h => ?_)))
  ·refine Tri.seq (Tri.regionL ?_)
   obtain ⟨x_14, e23, h⟩ := bnd h
   refine Oc rfl (op_call0 (ratio_Bad_spec e23) goes27 rfl rfl) (Oc rfl (op_store_p tyAgg27 rfl rfl rfl rfl (Nat.le_of_ble_eq_true rfl) rfl) (Oc rfl (op_assign rfl) ?_))
   refine OpsL.nilS ⟨[(2, Pt 101 0), (3, I 281)], [(101, .box 27 (eFrc x_14))]⟩ rfl (Tri.ret (Fin.block_ret (Fin.then_ret ?_)))
   obtain rfl := Option.some.inj h
   refine Fin.keepS ⟨[(2, Pt 101 0), (3, I 281)], [(101, .box 27 (eFrc x_14))]⟩ rfl (Fin.result' [.agg (eFrc x_14), .one (.i 281)] (.inl rfl) rfl (.cons (.agg tyAgg27 rfl rfl rfl rfl) (.cons (.tmp rfl) .nil)) ⟨rfl, rfl⟩)
  ·refine Tri.seq (Tri.regionL ?_)
   refine Oc rfl (op_move rfl) (Oc rfl (op_neq rfl rfl) (Oc rfl (op_move rfl) ?_))
   refine OpsL.consG (!(decide (x_7 ≠ 0))) 99 [] (.plain rfl) (eq_f _) rfl rfl (fun g24 => trivial) (fun g24 => op_move rfl) (OpsL.consG (!(decide (x_7 ≠ 0))) 99 [58] (.plain rfl) (eq_f _) rfl rfl (fun g25 => ⟨g25, trivial⟩) (fun g25 => op_neq rfl rfl) (Oc rfl (op_pick_or (fun e => by rw [e]; rfl) rfl rfl rfl rfl) (Oc rfl (op_assign rfl) ?_)))
   refine OpsL.nilS ⟨[(2, Pt 101 0), (7, Pt 102 0), (54, B ((decide (x_7 ≠ 0)) || (decide (f_9 ≠ 0))))], [(101, .box 27 zFrc), (102, .box 27 (eFrc x_8))]⟩ rfl (Tri.ite h rfl (fun _ h => ?_) (fun _ h => ?_))
   ·refine Tri.seq (Tri.regionL ?_)
    obtain ⟨x_15, e26, h⟩ := bnd h
    refine Oc rfl (op_call0 (ratio_Bad_spec e26) goes27 rfl rfl) (Oc rfl (op_store_p tyAgg27 rfl rfl rfl rfl (Nat.le_of_ble_eq_true rfl) rfl) (Oc rfl (op_assign rfl) ?_))
    refine OpsL.nilS ⟨[(2, Pt 101 0), (3, I 30)], [(101, .box 27 (eFrc x_15))]⟩ rfl (Tri.ret (Fin.block_ret (Fin.then_ret ?_)))
    obtain rfl := Option.some.inj h
    refine Fin.keepS ⟨[(2, Pt 101 0), (3, I 30)], [(101, .box 27 (eFrc x_15))]⟩ rfl (Fin.result' [.agg (eFrc x_15), .one (.i 30)] (.inl rfl) rfl (.cons (.agg tyAgg27 rfl rfl rfl rfl) (.cons (.tmp rfl) .nil)) ⟨rfl, rfl⟩)
   ·refine Tri.seq (Tri.regionL ?_)
    refine Oc rfl (op_load_p tyAgg27 rfl rfl rfl rfl) ?_
    obtain ⟨x_16, e27, h⟩ := bnd h
    refine Oc rfl (op_call0 (ratio_Good_spec e27) goes26 rfl rfl) (Oc rfl (op_not rfl) (Oc rfl (op_assign rfl) ?_))
    refine OpsL.nilS ⟨[(2, Pt 101 0), (7, Pt 102 0), (62, B (!x_16))], [(101, .box 27 zFrc), (102, .box 27 (eFrc x_8))]⟩ rfl (Tri.ite h rfl (fun _ h => ?_) (fun _ h => ?_))
    ·refine Tri.seq (Tri.regionL ?_)
     obtain ⟨x_17, e28, h⟩ := bnd h
     refine Oc rfl (op_call0 (ratio_Bad_spec e28) goes27 rfl rfl) (Oc rfl (op_store_p tyAgg27 rfl rfl rfl rfl (Nat.le_of_ble_eq_true rfl) rfl) (Oc rfl (op_assign rfl) ?_))
     refine OpsL.nilS ⟨[(2, Pt 101 0), (3, I 281)], [(101, .box 27 (eFrc x_17))]⟩ rfl (Tri.ret (Fin.block_ret (Fin.then_ret ?_)))
     obtain rfl := Option.some.inj h
     refine Fin.keepS ⟨[(2, Pt 101 0), (3, I 281)], [(101, .box 27 (eFrc x_17))]⟩ rfl (Fin.result' [.agg (eFrc x_17), .one (.i 281)] (.inl rfl) rfl (.cons (.agg tyAgg27 rfl rfl rfl rfl) (.cons (.tmp rfl) .nil)) ⟨rfl, rfl⟩)
    ·refine Tri.skip (Fin.block_normal (Fin.keepS ⟨[(2, Pt 101 0), (7, Pt 102 0)], [(101, .box 27 zFrc), (102, .box 27 (eFrc x_8))]⟩ rfl (Fin.then (Tri.seq (Tri.regionL ?_)))))
     refine Oc rfl (op_load_p tyAgg27 rfl rfl rfl rfl) (Oc rfl (op_store_p tyAgg27 rfl rfl rfl rfl (Nat.le_of_ble_eq_true rfl) rfl) (Oc rfl (op_assign rfl) ?_))
     refine OpsL.nilS ⟨[(2, Pt 101 0), (3, I 0)], [(101, .box 27 (eFrc x_8))]⟩ rfl (Tri.ret ?_)
     obtain rfl := Option.some.inj h
     refine Fin.keepS ⟨[(2, Pt 101 0), (3, I 0)], [(101, .box 27 (eFrc x_8))]⟩ rfl (Fin.result' [.agg (eFrc x_8), .one (.i 0)] (.inl rfl) rfl (.cons (.agg tyAgg27 rfl rfl rfl rfl) (.cons (.tmp rfl) .nil)) ⟨rfl, rfl⟩)
def ratio_Valid_S (F : Nat) (x0 : Frc) : Option Bool :=
 (ratio_Bad_S F).bind fun x_1 => (gcall (!(decide (x0 = x_1))) (ratio_Good_S F x0)).bind fun x_2 => some ((decide (x0 = x_1)) || x_2)
theorem ratio_Valid_spec {F : Nat} {x0 : Frc} {r : Bool} (h : ratio_Valid_S F x0 = some r) : Meets Tryz.prog (tabs mx) 24 [] [.agg (eFrc x0)] (Is [] (.b (.one (.bool r)))) := by
 unfold ratio_Valid_S at h
 refine Meets.intro 10 Tryz.func24 Tryz.ntmps24 rfl (by simp) fun E => ?_
 show Tri _ E ⟨10, [], []⟩ _ ⟨[(0, .b (.agg (eFrc x0)))], []⟩ _
 refine Tri.seq (Tri.regionL ?_)
 refine Oc rfl (op_box (k := 101) rfl rfl) (Oc rfl (op_assign rfl) ?_)
 refine OpsL.nilS ⟨[(1, Pt 101 0)], [(101, .box 27 (eFrc x0))]⟩ rfl (Tri.seq ?_)
 obtain ⟨x_1, e1, h⟩ := bnd h
 obtain ⟨x_2, e4, h⟩ := bnd h
 refine Tri.regionY mixed 8 [.b (.agg (eFrc x0)), .b (.agg (eFrc x_1)), B (decide (x0 = x_1)), B (decide (x0 = x_1)), .opt (!(decide (x0 = x_1))) (.agg (eFrc x0)), .opt (!(decide (x0 = x_1))) (.one (.bool x_2)), B ((decide (x0 = x_1)) || x_2), B ((decide (x0 = x_1)) || x_2)] [2] [] (s' := ⟨[(2, B ((decide (x0 = x_1)) || x_2))], []⟩) rfl ⟨fun _ => .plain rfl (op_load_p tyAgg27 rfl rfl rfl rfl), fun _ => .plain rfl (op_call0 (ratio_Bad_spec e1) goes27 rfl rfl), fun _ => .plain rfl (op_eql_agg (eqAgg27 x0 x_1) rfl rfl), fun _ => .plain rfl (op_move rfl), fun _ => by exact .guard (!(decide (x0 = x_1))) 1 [] (.plain rfl) (eq_f _) rfl rfl (fun g2 => trivial) (fun g2 => op_load_p tyAgg27 rfl rfl rfl rfl), fun _ => by exact .guard (!(decide (x0 = x_1))) 3 [7] (.plain rfl) (eq_f _) rfl rfl (fun g3 => ⟨g3, trivial⟩) (fun g3 => op_call0 (ratio_Good_spec (gc e4 g3)) goes26 rfl rfl), fun _ => .plain rfl (op_pick_or (fun e => by rw [e]; rfl) rfl rfl rfl rfl), fun _ => .plain rfl (op_assign rfl), trivial⟩ rfl rfl (Tri.ret ?_)
 obtain rfl := Option.some.inj h
 refine Fin.keepS ⟨[(2, B ((decide (x0 = x_1)) || x_2))], []⟩ rfl (Fin.result' [.one (.bool ((decide (x0 = x_1)) || x_2))] (.inl rfl) rfl (.cons (.tmp rfl) .nil) ⟨rfl, rfl⟩)
def l4_sanity_S (F : Nat) : Option Bool :=
 (ratio_Frac_S F 6 (-4)).bind fun x_1 => (l4_text_S F x_1 [45, 51, 47, 50]).bind fun x_2 => (gcall x_2 (ratio_Frac_S F 1 0)).bind fun x_3 => (gcall x_2 (ratio_Bad_S F)).bind fun x_4 => (gcall (x_2 && (decide (x_3 = x_4))) (ratio_Frac_S F 1 6)).bind fun x_5 => (gcall (x_2 && (decide (x_3 = x_4))) (ratio_Frac_S F 1 10)).bind fun x_6 => (gcall (x_2 && (decide (x_3 = x_4))) (ratio_Add_S F x_5 x_6)).bind fun x_7 => (gcall (x_2 && (decide (x_3 = x_4))) (l4_text_S F x_7 [52, 47, 49, 53])).bind fun x_8 => (gcall ((x_2 && (decide (x_3 = x_4))) && x_8) (ratio_Frac_S F 2 3)).bind fun x_9 => (gcall ((x_2 && (decide (x_3 = x_4))) && x_8) (ratio_Frac_S F 3 4)).bind fun x_10 => (gcall ((x_2 && (decide (x_3 = x_4))) && x_8) (ratio_Mul_S F x_9 x_10)).bind fun x_11 => (gcall ((x_2 && (decide (x_3 = x_4))) && x_8) (l4_text_S F x_11 [49, 47, 50])).bind fun x_12 => (gcall (((x_2 && (decide (x_3 = x_4))) && x_8) && x_12) (ratio_Frac_S F 1 1)).bind fun x_13 => (gcall (((x_2 && (decide (x_3 = x_4))) && x_8) && x_12) (ratio_Frac_S F 0 1)).bind fun x_14 => (gcall (((x_2 && (decide (x_3 = x_4))) && x_8) && x_12) (ratio_Div_S F x_13 x_14)).bind fun x_15 => (gcall (((x_2 && (decide (x_3 = x_4))) && x_8) && x_12) (ratio_Bad_S F)).bind fun x_16 => letN ((((x_2 && (decide (x_3 = x_4))) && x_8) && x_12) && (decide (x_15 = x_16))) fun x_17 => (ratio_Frac_S F (-7) 2).bind fun x_18 => (ratio_Floor_S F x_18).bind fun x_19 => (r3_Of_S F (-4)).bind fun x_20 => (gcall (decide (x_19 = x_20)) (ratio_Ceil_S F x_18)).bind fun x_21 => (gcall (decide (x_19 = x_20)) (r3_Of_S F (-3))).bind fun x_22 => (gcall ((decide (x_19 = x_20)) && (decide (x_21 = x_22))) (ratio_Near_S F x_18)).bind fun x_23 => (gcall ((decide (x_19 = x_20)) && (decide (x_21 = x_22))) (r3_Of_S F (-3))).bind fun x_24 => letN (((decide (x_19 = x_20)) && (decide (x_21 = x_22))) && (decide (x_23 = x_24))) fun x_25 => (gcall x_25 (ratio_Frac_S F 7 2)).bind fun x_26 => (gcall x_25 (ratio_Near_S F x_26)).bind fun x_27 => (gcall x_25 (r3_Of_S F 4)).bind fun x_28 => (ratio_Frac_S F 1 3).bind fun x_29 => Option.bind (ratio_Dyadic_S F x_29 2) (un2 fun x_30 x_31 => (l4_text_S F x_30 [49, 47, 52]).bind fun x_32 => (gcall x_32 (l4_text_S F x_31 [49, 47, 50])).bind fun x_33 => (gcall (x_32 && x_33) (ratio_Frac_S F 1 3)).bind fun x_34 => (gcall (x_32 && x_33) (ratio_Frac_S F 2 5)).bind fun x_35 => (gcall (x_32 && x_33) (ratio_Simplest_S F x_34 x_35)).bind fun x_36 => (gcall (x_32 && x_33) (l4_text_S F x_36 [49, 47, 51])).bind fun x_37 => (gcall ((x_32 && x_33) && x_37) (ratio_Frac_S F (-3) 1)).bind fun x_38 => (gcall ((x_32 && x_33) && x_37) (ratio_Frac_S F 5 2)).bind fun x_39 => (gcall ((x_32 && x_33) && x_37) (ratio_Simplest_S F x_38 x_39)).bind fun x_40 => (gcall ((x_32 && x_33) && x_37) (l4_text_S F x_40 [48])).bind fun x_41 => (gcall (((x_32 && x_33) && x_37) && x_41) (ratio_Frac_S F 7 5)).bind fun x_42 => (gcall (((x_32 && x_33) && x_37) && x_41) (ratio_Frac_S F 5 2)).bind fun x_43 => (gcall (((x_32 && x_33) && x_37) && x_41) (ratio_Simplest_S F x_42 x_43)).bind fun x_44 => (gcall (((x_32 && x_33) && x_37) && x_41) (l4_text_S F x_44 [50])).bind fun x_45 => (gcall ((((x_32 && x_33) && x_37) && x_41) && x_45) (ratio_Frac_S F 31 10)).bind fun x_46 => (gcall ((((x_32 && x_33) && x_37) && x_41) && x_45) (ratio_Frac_S F 32 10)).bind fun x_47 => (gcall ((((x_32 && x_33) && x_37) && x_41) && x_45) (ratio_Simplest_S F x_46 x_47)).bind fun x_48 => (gcall ((((x_32 && x_33) && x_37) && x_41) && x_45) (l4_text_S F x_48 [49, 54, 47, 53])).bind fun x_49 => Option.bind (ratio_Parse_S F [50, 47, 52]) (un2 fun x_50 x_51 => Option.bind (ratio_Parse_S F [45, 51, 47, 50]) (un2 fun x_52 x_53 => (gcall ((((x_17 && (x_25 && (decide (x_27 = x_28)))) && (((((x_32 && x_33) && x_37) && x_41) && x_45) && x_49)) && (decide (x_51 = 281))) && (decide (x_53 = 0))) (ratio_Frac_S F 6 (-4))).bind fun x_54 => (gcall (((((x_17 && (x_25 && (decide (x_27 = x_28)))) && (((((x_32 && x_33) && x_37) && x_41) && x_45) && x_49)) && (decide (x_51 = 281))) && (decide (x_53 = 0))) && (decide (x_52 = x_54))) (ratio_Frac_S F (-1) 1)).bind fun x_55 => (gcall (((((x_17 && (x_25 && (decide (x_27 = x_28)))) && (((((x_32 && x_33) && x_37) && x_41) && x_45) && x_49)) && (decide (x_51 = 281))) && (decide (x_53 = 0))) && (decide (x_52 = x_54))) (ratio_Cmp_S F x_52 x_55)).bind fun x_56 => (gcall ((((((x_17 && (x_25 && (decide (x_27 = x_28)))) && (((((x_32 && x_33) && x_37) && x_41) && x_45) && x_49)) && (decide (x_51 = 281))) && (decide (x_53 = 0))) && (decide (x_52 = x_54))) && (decide (x_56 = (-1)))) (ratio_Good_S F x_52)).bind fun x_57 => (gcall (((((((x_17 && (x_25 && (decide (x_27 = x_28)))) && (((((x_32 && x_33) && x_37) && x_41) && x_45) && x_49)) && (decide (x_51 = 281))) && (decide (x_53 = 0))) && (decide (x_52 = x_54))) && (decide (x_56 = (-1)))) && x_57) (ratio_Bad_S F)).bind fun x_58 => (gcall (((((((x_17 && (x_25 && (decide (x_27 = x_28)))) && (((((x_32 && x_33) && x_37) && x_41) && x_45) && x_49)) && (decide (x_51 = 281))) && (decide (x_53 = 0))) && (decide (x_52 = x_54))) && (decide (x_56 = (-1)))) && x_57) (ratio_Valid_S F x_58)).bind fun x_59 => (gcall ((((((((x_17 && (x_25 && (decide (x_27 = x_28)))) && (((((x_32 && x_33) && x_37) && x_41) && x_45) && x_49)) && (decide (x_51 = 281))) && (decide (x_53 = 0))) && (decide (x_52 = x_54))) && (decide (x_56 = (-1)))) && x_57) && x_59) (ratio_Bad_S F)).bind fun x_60 => (gcall ((((((((x_17 && (x_25 && (decide (x_27 = x_28)))) && (((((x_32 && x_33) && x_37) && x_41) && x_45) && x_49)) && (decide (x_51 = 281))) && (decide (x_53 = 0))) && (decide (x_52 = x_54))) && (decide (x_56 = (-1)))) && x_57) && x_59) (ratio_Good_S F x_60)).bind fun x_61 => some (((((((((x_17 && (x_25 && (decide (x_27 = x_28)))) && (((((x_32 && x_33) && x_37) && x_41) && x_45) && x_49)) && (decide (x_51 = 281))) && (decide (x_53 = 0))) && (decide (x_52 = x_54))) && (decide (x_56 = (-1)))) && x_57) && x_59) && (!x_61)))))
theorem l4_sanity_spec {F : Nat} {r : Bool} (h : l4_sanity_S F = some r) : Meets Tryz.prog (tabs mx) 16 [] [] (Is [] (.b (.one (.bool r)))) := by
 unfold l4_sanity_S at h
 refine Meets.intro 164 Tryz.func16 Tryz.ntmps16 rfl (by simp) fun E => ?_
 show Tri _ E ⟨164, [], []⟩ _ ⟨[], []⟩ _
 refine Tri.seq (Tri.regionL ?_)
 refine Oc rfl (op_assign rfl) (OpsL.nilS ⟨[], []⟩ rfl (Tri.seq (Tri.regionL ?_)))
 refine Oc rfl (op_assign rfl) (OpsL.nilS ⟨[(1, .b (.one (.raw (.func (.func 22) #[] #[]))))], []⟩ rfl (Tri.seq (Tri.regionL ?_)))
 refine Oc rfl (op_move rfl) ?_
 obtain ⟨x_1, e1, h⟩ := bnd h
 refine Oc rfl (op_callv0 (ratio_Frac_spec e1) goes22 rfl rfl rfl) ?_
 obtain ⟨x_2, e2, h⟩ := bnd h
 refine Oc rfl (op_call0 (l4_text_spec e2) goes87 rfl rfl) (OpsL.keepS ⟨[(1, .b (.one (.raw (.func (.func 22) #[] #[])))), (14, B x_2)], []⟩ rfl (Oc rfl (op_move rfl) (OpsL.consG x_2 99 [] (.plain rfl) (eq_t _) rfl rfl (fun g3 => trivial) (fun g3 => op_move rfl) ?_)))
 obtain ⟨x_3, e5, h⟩ := bnd h
 refine OpsL.consG x_2 99 [16] (.plain rfl) (eq_t _) rfl rfl (fun g4 => ⟨g4, trivial⟩) (fun g4 => op_callv0 (ratio_Frac_spec (gc e5 g4)) goes22 rfl rfl rfl) ?_
 obtain ⟨x_4, e7, h⟩ := bnd h
 refine OpsL.consG x_2 99 [] (.plain rfl) (eq_t _) rfl rfl (fun g6 => trivial) (fun g6 => op_call0 (ratio_Bad_spec (gc e7 g6)) goes27 rfl rfl) (OpsL.keepS ⟨[(1, .b (.one (.raw (.func (.func 22) #[] #[])))), (15, B x_2), (17, .opt x_2 (.agg (eFrc x_3))), (18, .opt x_2 (.agg (eFrc x_4)))], []⟩ rfl (OpsL.consG x_2 99 [17, 18] (.plain rfl) (eq_t _) rfl rfl (fun g8 => ⟨g8, g8, trivial⟩) (fun g8 => op_eql_agg (eqAgg27 x_3 x_4) rfl rfl) (Oc rfl (op_pick_and (fun e => e) rfl rfl rfl rfl) (Oc rfl (op_move rfl) ?_))))
 refine OpsL.consG (x_2 && (decide (x_3 = x_4))) 99 [] (.plain rfl) (eq_t _) rfl rfl (fun g9 => trivial) (fun g9 => op_move rfl) ?_
 obtain ⟨x_5, e11, h⟩ := bnd h
 refine OpsL.consG (x_2 && (decide (x_3 = x_4))) 99 [22] (.plain rfl) (eq_t _) rfl rfl (fun g10 => ⟨g10, trivial⟩) (fun g10 => op_callv0 (ratio_Frac_spec (gc e11 g10)) goes22 rfl rfl rfl) (OpsL.consG (x_2 && (decide (x_3 = x_4))) 99 [] (.plain rfl) (eq_t _) rfl rfl (fun g12 => trivial) (fun g12 => op_move rfl) (OpsL.keepS ⟨[(1, .b (.one (.raw (.func (.func 22) #[] #[])))), (21, B (x_2 && (decide (x_3 = x_4)))), (23, .opt (x_2 && (decide (x_3 = x_4))) (.agg (eFrc x_5))), (24, .opt (x_2 && (decide (x_3 = x_4))) (.one (.raw (.func (.func 22) #[] #[]))))], []⟩ rfl ?_))
 obtain ⟨x_6, e14, h⟩ := bnd h
 refine OpsL.consG (x_2 && (decide (x_3 = x_4))) 99 [24] (.plain rfl) (eq_t _) rfl rfl (fun g13 => ⟨g13, trivial⟩) (fun g13 => op_callv0 (ratio_Frac_spec (gc e14 g13)) goes22 rfl rfl rfl) ?_
 obtain ⟨x_7, e16, h⟩ := bnd h
 refine OpsL.consG (x_2 && (decide (x_3 = x_4))) 99 [23, 25] (.plain rfl) (eq_t _) rfl rfl (fun g15 => ⟨g15, g15, trivial⟩) (fun g15 => op_call0 (ratio_Add_spec (gc e16 g15)) goes42 rfl rfl) ?_
 obtain ⟨x_8, e18, h⟩ := bnd h
 refine OpsL.consG (x_2 && (decide (x_3 = x_4))) 99 [26] (.plain rfl) (eq_t _) rfl rfl (fun g17 => ⟨g17, trivial⟩) (fun g17 => op_call0 (l4_text_spec (gc e18 g17)) goes87 rfl rfl) (Oc rfl (op_pick_and (fun e => e) rfl rfl rfl rfl) (OpsL.keepS ⟨[(1, .b (.one (.raw (.func (.func 22) #[] #[])))), (28, B ((x_2 && (decide (x_3 = x_4))) && x_8))], []⟩ rfl (Oc rfl (op_move rfl) (OpsL.consG ((x_2 && (decide (x_3 = x_4))) && x_8) 99 [] (.plain rfl) (eq_t _) rfl rfl (fun g19 => trivial) (fun g19 => op_move rfl) ?_))))
 obtain ⟨x_9, e21, h⟩ := bnd h
 refine OpsL.consG ((x_2 && (decide (x_3 = x_4))) && x_8) 99 [30] (.plain rfl) (eq_t _) rfl rfl (fun g20 => ⟨g20, trivial⟩) (fun g20 => op_callv0 (ratio_Frac_spec (gc e21 g20)) goes22 rfl rfl rfl) (OpsL.consG ((x_2 && (decide (x_3 = x_4))) && x_8) 99 [] (.plain rfl) (eq_t _) rfl rfl (fun g22 => trivial) (fun g22 => op_move rfl) (OpsL.keepS ⟨[(1, .b (.one (.raw (.func (.func 22) #[] #[])))), (29, B ((x_2 && (decide (x_3 = x_4))) && x_8)), (31, .opt ((x_2 && (decide (x_3 = x_4))) && x_8) (.agg (eFrc x_9))), (32, .opt ((x_2 && (decide (x_3 = x_4))) && x_8) (.one (.raw (.func (.func 22) #[] #[]))))], []⟩ rfl ?_))
 obtain ⟨x_10, e24, h⟩ := bnd h
 refine OpsL.consG ((x_2 && (decide (x_3 = x_4))) && x_8) 99 [32] (.plain rfl) (eq_t _) rfl rfl (fun g23 => ⟨g23, trivial⟩) (fun g23 => op_callv0 (ratio_Frac_spec (gc e24 g23)) goes22 rfl rfl rfl) ?_
 obtain ⟨x_11, e26, h⟩ := bnd h
 refine OpsL.consG ((x_2 && (decide (x_3 = x_4))) && x_8) 99 [31, 33] (.plain rfl) (eq_t _) rfl rfl (fun g25 => ⟨g25, g25, trivial⟩) (fun g25 => op_call0 (ratio_Mul_spec (gc e26 g25)) goes45 rfl rfl) ?_
 obtain ⟨x_12, e28, h⟩ := bnd h
 refine OpsL.consG ((x_2 && (decide (x_3 = x_4))) && x_8) 99 [34] (.plain rfl) (eq_t _) rfl rfl (fun g27 => ⟨g27, trivial⟩) (fun g27 => op_call0 (l4_text_spec (gc e28 g27)) goes87 rfl rfl) (Oc rfl (op_pick_and (fun e => e) rfl rfl rfl rfl) (OpsL.keepS ⟨[(1, .b (.one (.raw (.func (.func 22) #[] #[])))), (36, B (((x_2 && (decide (x_3 = x_4))) && x_8) && x_12))], []⟩ rfl (Oc rfl (op_move rfl) (OpsL.consG (((x_2 && (decide (x_3 = x_4))) && x_8) && x_12) 99 [] (.plain rfl) (eq_t _) rfl rfl (fun g29 => trivial) (fun g29 => op_move rfl) ?_))))
 obtain ⟨x_13, e31, h⟩ := bnd h
 refine OpsL.consG (((x_2 && (decide (x_3 = x_4))) && x_8) && x_12) 99 [38] (.plain rfl) (eq_t _) rfl rfl (fun g30 => ⟨g30, trivial⟩) (fun g30 => op_callv0 (ratio_Frac_spec (gc e31 g30)) goes22 rfl rfl rfl) (OpsL.consG (((x_2 && (decide (x_3 = x_4))) && x_8) && x_12) 99 [] (.plain rfl) (eq_t _) rfl rfl (fun g32 => trivial) (fun g32 => op_move rfl) (OpsL.keepS ⟨[(1, .b (.one (.raw (.func (.func 22) #[] #[])))), (37, B (((x_2 && (decide (x_3 = x_4))) && x_8) && x_12)), (39, .opt (((x_2 && (decide (x_3 = x_4))) && x_8) && x_12) (.agg (eFrc x_13))), (40, .opt (((x_2 && (decide (x_3 = x_4))) && x_8) && x_12) (.one (.raw (.func (.func 22) #[] #[]))))], []⟩ rfl ?_))
 obtain ⟨x_14, e34, h⟩ := bnd h
 refine OpsL.consG (((x_2 && (decide (x_3 = x_4))) && x_8) && x_12) 99 [40] (.plain rfl) (eq_t _) rfl rfl (fun g33 => ⟨g33, trivial⟩) (fun g33 => op_callv0 (ratio_Frac_spec (gc e34 g33)) goes22 rfl rfl rfl) ?_
 obtain ⟨x_15, e36, h⟩ := bnd h
 refine OpsL.consG (((x_2 && (decide (x_3 = x_4))) && x_8) && x_12) 99 [39, 41] (.plain rfl) (eq_t _) rfl rfl (fun g35 => ⟨g35, g35, trivial⟩) (fun g35 => op_call0 (ratio_Div_spec (gc e36 g35)) goes46 rfl rfl) ?_
 obtain ⟨x_16, e38, h⟩ := bnd h
 refine OpsL.consG (((x_2 && (decide (x_3 = x_4))) && x_8) && x_12) 99 [] (.plain rfl) (eq_t _) rfl rfl (fun g37 => trivial) (fun g37 => op_call0 (ratio_Bad_spec (gc e38 g37)) goes27 rfl rfl) (OpsL.consG (((x_2 && (decide (x_3 = x_4))) && x_8) && x_12) 99 [42, 43] (.plain rfl) (eq_t _) rfl rfl (fun g39 => ⟨g39, g39, trivial⟩) (fun g39 => op_eql_agg (eqAgg27 x_15 x_16) rfl rfl) (OpsL.consB h rfl (op_pick_and (fun e => e) rfl rfl rfl rfl) (fun x_17 h => ?_)))
 refine Oc rfl (op_assign rfl) (OpsL.nilS ⟨[(1, .b (.one (.raw (.func (.func 22) #[] #[])))), (2, B x_17)], []⟩ rfl (Tri.seq (Tri.regionL ?_)))
 refine Oc rfl (op_move rfl) ?_
 obtain ⟨x_18, e40, h⟩ := bnd h
 refine Oc rfl (op_callv0 (ratio_Frac_spec e40) goes22 rfl rfl rfl) (Oc rfl (op_alloc (k := 101) tyZero27 rfl) (Oc rfl (op_store_p tyAgg27 rfl rfl rfl rfl (Nat.le_of_ble_eq_true rfl) rfl) ?_))
 refine OpsL.nilS ⟨[(1, .b (.one (.raw (.func (.func 22) #[] #[])))), (2, B x_17), (3, Pt 101 0)], [(101, .box 27 (eFrc x_18))]⟩ rfl (Tri.seq (Tri.regionL ?_))
 refine Oc rfl (op_load_p tyAgg27 rfl rfl rfl rfl) ?_
 obtain ⟨x_19, e41, h⟩ := bnd h
 refine Oc rfl (op_call0 (ratio_Floor_spec e41) goes31 rfl rfl) ?_
 obtain ⟨x_20, e42, h⟩ := bnd h
 refine Oc rfl (op_call0 (r3_Of_spec e42) goes12 rfl rfl) (OpsL.keepS ⟨[(1, .b (.one (.raw (.func (.func 22) #[] #[])))), (2, B x_17), (3, Pt 101 0), (49, .b (.agg (eBig x_19))), (50, .b (.agg (eBig x_20)))], [(101, .box 27 (eFrc x_18))]⟩ rfl (Oc rfl (op_eql_agg (eqAgg25 x_19 x_20) rfl rfl) (Oc rfl (op_move rfl) ?_)))
 refine OpsL.consG (decide (x_19 = x_20)) 99 [] (.plain rfl) (eq_t _) rfl rfl (fun g43 => trivial) (fun g43 => op_load_p tyAgg27 rfl rfl rfl rfl) ?_
 obtain ⟨x_21, e45, h⟩ := bnd h
 refine OpsL.consG (decide (x_19 = x_20)) 99 [53] (.plain rfl) (eq_t _) rfl rfl (fun g44 => ⟨g44, trivial⟩) (fun g44 => op_call0 (ratio_Ceil_spec (gc e45 g44)) goes33 rfl rfl) (OpsL.keepS ⟨[(1, .b (.one (.raw (.func (.func 22) #[] #[])))), (2, B x_17), (3, Pt 101 0), (52, B (decide (x_19 = x_20))), (54, .opt (decide (x_19 = x_20)) (.agg (eBig x_21)))], [(101, .box 27 (eFrc x_18))]⟩ rfl ?_)
 obtain ⟨x_22, e47, h⟩ := bnd h
 refine OpsL.consG (decide (x_19 = x_20)) 99 [] (.plain rfl) (eq_t _) rfl rfl (fun g46 => trivial) (fun g46 => op_call0 (r3_Of_spec (gc e47 g46)) goes12 rfl rfl) (OpsL.consG (decide (x_19 = x_20)) 99 [54, 55] (.plain rfl) (eq_t _) rfl rfl (fun g48 => ⟨g48, g48, trivial⟩) (fun g48 => op_eql_agg (eqAgg25 x_21 x_22) rfl rfl) (Oc rfl (op_pick_and (fun e => e) rfl rfl rfl rfl) (Oc rfl (op_move rfl) ?_)))
 refine OpsL.consG ((decide (x_19 = x_20)) && (decide (x_21 = x_22))) 99 [] (.plain rfl) (eq_t _) rfl rfl (fun g49 => trivial) (fun g49 => op_load_p tyAgg27 rfl rfl rfl rfl) ?_
 obtain ⟨x_23, e51, h⟩ := bnd h
 refine OpsL.consG ((decide (x_19 = x_20)) && (decide (x_21 = x_22))) 99 [59] (.plain rfl) (eq_t _) rfl rfl (fun g50 => ⟨g50, trivial⟩) (fun g50 => op_call0 (ratio_Near_spec (gc e51 g50)) goes35 rfl rfl) (OpsL.keepS ⟨[(1, .b (.one (.raw (.func (.func 22) #[] #[])))), (2, B x_17), (58, B ((decide (x_19 = x_20)) && (decide (x_21 = x_22)))), (60, .opt ((decide (x_19 = x_20)) && (decide (x_21 = x_22))) (.agg (eBig x_23)))], []⟩ rfl ?_)
 obtain ⟨x_24, e53, h⟩ := bnd h
 refine OpsL.consG ((decide (x_19 = x_20)) && (decide (x_21 = x_22))) 99 [] (.plain rfl) (eq_t _) rfl rfl (fun g52 => trivial) (fun g52 => op_call0 (r3_Of_spec (gc e53 g52)) goes12 rfl rfl) (OpsL.consG ((decide (x_19 = x_20)) && (decide (x_21 = x_22))) 99 [60, 61] (.plain rfl) (eq_t _) rfl rfl (fun g54 => ⟨g54, g54, trivial⟩) (fun g54 => op_eql_agg (eqAgg25 x_23 x_24) rfl rfl) (OpsL.consB h rfl (op_pick_and (fun e => e) rfl rfl rfl rfl) (fun x_25 h => ?_)))
 refine Oc rfl (op_move rfl) (OpsL.consG x_25 99 [] (.plain rfl) (eq_t _) rfl rfl (fun g55 => trivial) (fun g55 => op_move rfl) ?_)
 obtain ⟨x_26, e57, h⟩ := bnd h
 refine OpsL.consG x_25 99 [65] (.plain rfl) (eq_t _) rfl rfl (fun g56 => ⟨g56, trivial⟩) (fun g56 => op_callv0 (ratio_Frac_spec (gc e57 g56)) goes22 rfl rfl rfl) (OpsL.keepS ⟨[(1, .b (.one (.raw (.func (.func 22) #[] #[])))), (2, B x_17), (64, B x_25), (66, .opt x_25 (.agg (eFrc x_26)))], []⟩ rfl ?_)
 obtain ⟨x_27, e59, h⟩ := bnd h
 refine OpsL.consG x_25 99 [66] (.plain rfl) (eq_t _) rfl rfl (fun g58 => ⟨g58, trivial⟩) (fun g58 => op_call0 (ratio_Near_spec (gc e59 g58)) goes35 rfl rfl) ?_
 obtain ⟨x_28, e61, h⟩ := bnd h
 refine OpsL.consG x_25 99 [] (.plain rfl) (eq_t _) rfl rfl (fun g60 => trivial) (fun g60 => op_call0 (r3_Of_spec (gc e61 g60)) goes12 rfl rfl) (OpsL.consG x_25 99 [67, 68] (.plain rfl) (eq_t _) rfl rfl (fun g62 => ⟨g62, g62, trivial⟩) (fun g62 => op_eql_agg (eqAgg25 x_27 x_28) rfl rfl) (Oc rfl (op_pick_and (fun e => e) rfl rfl rfl rfl) (Oc rfl (op_assign rfl) ?_)))
 refine OpsL.nilS ⟨[(1, .b (.one (.raw (.func (.func 22) #[] #[])))), (2, B x_17), (4, B (x_25 && (decide (x_27 = x_28))))], []⟩ rfl (Tri.seq (Tri.regionL ?_))
 refine Oc rfl (op_move rfl) ?_
 obtain ⟨x_29, e63, h⟩ := bnd h
 refine Oc rfl (op_callv0 (ratio_Frac_spec e63) goes22 rfl rfl rfl) ?_
 obtain ⟨⟨x_30, x_31⟩, e64, h⟩ := bnd h
 refine Oc rfl (op_call0 (ratio_Dyadic_spec e64) goes29 rfl rfl) (OpsL.keepS ⟨[(1, .b (.one (.raw (.func (.func 22) #[] #[])))), (2, B x_17), (4, B (x_25 && (decide (x_27 = x_28)))), (74, .tup [.agg (eFrc x_30), .agg (eFrc x_31)])], []⟩ rfl (Oc rfl (op_move rfl) (Oc rfl (op_extract rfl rfl) (Oc rfl (op_extract rfl rfl) (Oc rfl (op_alloc (k := 102) tyZero27 rfl) (Oc rfl (op_alloc (k := 103) tyZero27 rfl) (Oc rfl (op_store_p tyAgg27 rfl rfl rfl rfl (Nat.le_of_ble_eq_true rfl) rfl) ?_)))))))
 refine Oc rfl (op_store_p tyAgg27 rfl rfl rfl rfl (Nat.le_of_ble_eq_true rfl) rfl) (OpsL.nilS ⟨[(1, .b (.one (.raw (.func (.func 22) #[] #[])))), (2, B x_17), (4, B (x_25 && (decide (x_27 = x_28)))), (5, Pt 102 0), (6, Pt 103 0)], [(102, .box 27 (eFrc x_30)), (103, .box 27 (eFrc x_31))]⟩ rfl (Tri.seq (Tri.regionL ?_)))
 refine Oc rfl (op_load_p tyAgg27 rfl rfl rfl rfl) ?_
 obtain ⟨x_32, e65, h⟩ := bnd h
 refine Oc rfl (op_call0 (l4_text_spec e65) goes87 rfl rfl) (Oc rfl (op_move rfl) ?_)
 refine OpsL.consG x_32 99 [] (.plain rfl) (eq_t _) rfl rfl (fun g66 => trivial) (fun g66 => op_load_p tyAgg27 rfl rfl rfl rfl) (OpsL.keepS ⟨[(1, .b (.one (.raw (.func (.func 22) #[] #[])))), (2, B x_17), (4, B (x_25 && (decide (x_27 = x_28)))), (79, B x_32), (80, .opt x_32 (.agg (eFrc x_31)))], []⟩ rfl ?_)
 obtain ⟨x_33, e68, h⟩ := bnd h
 refine OpsL.consG x_32 99 [80] (.plain rfl) (eq_t _) rfl rfl (fun g67 => ⟨g67, trivial⟩) (fun g67 => op_call0 (l4_text_spec (gc e68 g67)) goes87 rfl rfl) (Oc rfl (op_pick_and (fun e => e) rfl rfl rfl rfl) (Oc rfl (op_move rfl) ?_))
 refine OpsL.consG (x_32 && x_33) 99 [] (.plain rfl) (eq_t _) rfl rfl (fun g69 => trivial) (fun g69 => op_move rfl) ?_
 obtain ⟨x_34, e71, h⟩ := bnd h
 refine OpsL.consG (x_32 && x_33) 99 [84] (.plain rfl) (eq_t _) rfl rfl (fun g70 => ⟨g70, trivial⟩) (fun g70 => op_callv0 (ratio_Frac_spec (gc e71 g70)) goes22 rfl rfl rfl) (OpsL.consG (x_32 && x_33) 99 [] (.plain rfl) (eq_t _) rfl rfl (fun g72 => trivial) (fun g72 => op_move rfl) (OpsL.keepS ⟨[(1, .b (.one (.raw (.func (.func 22) #[] #[])))), (2, B x_17), (4, B (x_25 && (decide (x_27 = x_28)))), (83, B (x_32 && x_33)), (85, .opt (x_32 && x_33) (.agg (eFrc x_34))), (86, .opt (x_32 && x_33) (.one (.raw (.func (.func 22) #[] #[]))))], []⟩ rfl ?_))
 obtain ⟨x_35, e74, h⟩ := bnd h
 refine OpsL.consG (x_32 && x_33) 99 [86] (.plain rfl) (eq_t _) rfl rfl (fun g73 => ⟨g73, trivial⟩) (fun g73 => op_callv0 (ratio_Frac_spec (gc e74 g73)) goes22 rfl rfl rfl) ?_
 obtain ⟨x_36, e76, h⟩ := bnd h
 refine OpsL.consG (x_32 && x_33) 99 [85, 87] (.plain rfl) (eq_t _) rfl rfl (fun g75 => ⟨g75, g75, trivial⟩) (fun g75 => op_call0 (ratio_Simplest_spec (gc e76 g75)) goes48 rfl rfl) ?_
 obtain ⟨x_37, e78, h⟩ := bnd h
 refine OpsL.consG (x_32 && x_33) 99 [88] (.plain rfl) (eq_t _) rfl rfl (fun g77 => ⟨g77, trivial⟩) (fun g77 => op_call0 (l4_text_spec (gc e78 g77)) goes87 rfl rfl) (Oc rfl (op_pick_and (fun e => e) rfl rfl rfl rfl) (OpsL.keepS ⟨[(1, .b (.one (.raw (.func (.func 22) #[] #[])))), (2, B x_17), (4, B (x_25 && (decide (x_27 = x_28)))), (90, B ((x_32 && x_33) && x_37))], []⟩ rfl (Oc rfl (op_move rfl) (OpsL.consG ((x_32 && x_33) && x_37) 99 [] (.plain rfl) (eq_t _) rfl rfl (fun g79 => trivial) (fun g79 => op_move rfl) ?_))))
 obtain ⟨x_38, e81, h⟩ := bnd h
 refine OpsL.consG ((x_32 && x_33) && x_37) 99 [92] (.plain rfl) (eq_t _) rfl rfl (fun g80 => ⟨g80, trivial⟩) (fun g80 => op_callv0 (ratio_Frac_spec (gc e81 g80)) goes22 rfl rfl rfl) (OpsL.consG ((x_32 && x_33) && x_37) 99 [] (.plain rfl) (eq_t _) rfl rfl (fun g82 => trivial) (fun g82 => op_move rfl) (OpsL.keepS ⟨[(1, .b (.one (.raw (.func (.func 22) #[] #[])))), (2, B x_17), (4, B (x_25 && (decide (x_27 = x_28)))), (91, B ((x_32 && x_33) && x_37)), (93, .opt ((x_32 && x_33) && x_37) (.agg (eFrc x_38))), (94, .opt ((x_32 && x_33) && x_37) (.one (.raw (.func (.func 22) #[] #[]))))], []⟩ rfl ?_))
 obtain ⟨x_39, e84, h⟩ := bnd h
 refine OpsL.consG ((x_32 && x_33) && x_37) 99 [94] (.plain rfl) (eq_t _) rfl rfl (fun g83 => ⟨g83, trivial⟩) (fun g83 => op_callv0 (ratio_Frac_spec (gc e84 g83)) goes22 rfl rfl rfl) ?_
 obtain ⟨x_40, e86, h⟩ := bnd h
 refine OpsL.consG ((x_32 && x_33) && x_37) 99 [93, 95] (.plain rfl) (eq_t _) rfl rfl (fun g85 => ⟨g85, g85, trivial⟩) (fun g85 => op_call0 (ratio_Simplest_spec (gc e86 g85)) goes48 rfl rfl) ?_
 obtain ⟨x_41, e88, h⟩ := bnd h
 refine OpsL.consG ((x_32 && x_33) && x_37) 99 [96] (.plain rfl) (eq_t _) rfl rfl (fun g87 => ⟨g87, trivial⟩) (fun g87 => op_call0 (l4_text_spec (gc e88 g87)) goes87 rfl rfl) (Oc rfl (op_pick_and (fun e => e) rfl rfl rfl rfl) (OpsL.keepS ⟨[(1, .b (.one (.raw (.func (.func 22) #[] #[])))), (2, B x_17), (4, B (x_25 && (decide (x_27 = x_28)))), (98, B (((x_32 && x_33) && x_37) && x_41))], []⟩ rfl (Oc rfl (op_move rfl) (OpsL.consG (((x_32 && x_33) && x_37) && x_41) 99 [] (.plain rfl) (eq_t _) rfl rfl (fun g89 => trivial) (fun g89 => op_move rfl) ?_))))
 obtain ⟨x_42, e91, h⟩ := bnd h
 refine OpsL.consG (((x_32 && x_33) && x_37) && x_41) 99 [100] (.plain rfl) (eq_t _) rfl rfl (fun g90 => ⟨g90, trivial⟩) (fun g90 => op_callv0 (ratio_Frac_spec (gc e91 g90)) goes22 rfl rfl rfl) (OpsL.consG (((x_32 && x_33) && x_37) && x_41) 99 [] (.plain rfl) (eq_t _) rfl rfl (fun g92 => trivial) (fun g92 => op_move rfl) (OpsL.keepS ⟨[(1, .b (.one (.raw (.func (.func 22) #[] #[])))), (2, B x_17), (4, B (x_25 && (decide (x_27 = x_28)))), (99, B (((x_32 && x_33) && x_37) && x_41)), (101, .opt (((x_32 && x_33) && x_37) && x_41) (.agg (eFrc x_42))), (102, .opt (((x_32 && x_33) && x_37) && x_41) (.one (.raw (.func (.func 22) #[] #[]))))], []⟩ rfl ?_))
 obtain ⟨x_43, e94, h⟩ := bnd h
 refine OpsL.consG (((x_32 && x_33) && x_37) && x_41) 99 [102] (.plain rfl) (eq_t _) rfl rfl (fun g93 => ⟨g93, trivial⟩) (fun g93 => op_callv0 (ratio_Frac_spec (gc e94 g93)) goes22 rfl rfl rfl) ?_
 obtain ⟨x_44, e96, h⟩ := bnd h
 refine OpsL.consG (((x_32 && x_33) && x_37) && x_41) 99 [101, 103] (.plain rfl) (eq_t _) rfl rfl (fun g95 => ⟨g95, g95, trivial⟩) (fun g95 => op_call0 (ratio_Simplest_spec (gc e96 g95)) goes48 rfl rfl) ?_
 obtain ⟨x_45, e98, h⟩ := bnd h
 refine OpsL.consG (((x_32 && x_33) && x_37) && x_41) 99 [104] (.plain rfl) (eq_t _) rfl rfl (fun g97 => ⟨g97, trivial⟩) (fun g97 => op_call0 (l4_text_spec (gc e98 g97)) goes87 rfl rfl) (Oc rfl (op_pick_and (fun e => e) rfl rfl rfl rfl) (OpsL.keepS ⟨[(1, .b (.one (.raw (.func (.func 22) #[] #[])))), (2, B x_17), (4, B (x_25 && (decide (x_27 = x_28)))), (106, B ((((x_32 && x_33) && x_37) && x_41) && x_45))], []⟩ rfl (Oc rfl (op_move rfl) (OpsL.consG ((((x_32 && x_33) && x_37) && x_41) && x_45) 99 [] (.plain rfl) (eq_t _) rfl rfl (fun g99 => trivial) (fun g99 => op_move rfl) ?_))))
 obtain ⟨x_46, e101, h⟩ := bnd h
 refine OpsL.consG ((((x_32 && x_33) && x_37) && x_41) && x_45) 99 [108] (.plain rfl) (eq_t _) rfl rfl (fun g100 => ⟨g100, trivial⟩) (fun g100 => op_callv0 (ratio_Frac_spec (gc e101 g100)) goes22 rfl rfl rfl) (OpsL.consG ((((x_32 && x_33) && x_37) && x_41) && x_45) 99 [] (.plain rfl) (eq_t _) rfl rfl (fun g102 => trivial) (fun g102 => op_move rfl) (OpsL.keepS ⟨[(1, .b (.one (.raw (.func (.func 22) #[] #[])))), (2, B x_17), (4, B (x_25 && (decide (x_27 = x_28)))), (107, B ((((x_32 && x_33) && x_37) && x_41) && x_45)), (109, .opt ((((x_32 && x_33) && x_37) && x_41) && x_45) (.agg (eFrc x_46))), (110, .opt ((((x_32 && x_33) && x_37) && x_41) && x_45) (.one (.raw (.func (.func 22) #[] #[]))))], []⟩ rfl ?_))
 obtain ⟨x_47, e104, h⟩ := bnd h
 refine OpsL.consG ((((x_32 && x_33) && x_37) && x_41) && x_45) 99 [110] (.plain rfl) (eq_t _) rfl rfl (fun g103 => ⟨g103, trivial⟩) (fun g103 => op_callv0 (ratio_Frac_spec (gc e104 g103)) goes22 rfl rfl rfl) ?_
 obtain ⟨x_48, e106, h⟩ := bnd h
 refine OpsL.consG ((((x_32 && x_33) && x_37) && x_41) && x_45) 99 [109, 111] (.plain rfl) (eq_t _) rfl rfl (fun g105 => ⟨g105, g105, trivial⟩) (fun g105 => op_call0 (ratio_Simplest_spec (gc e106 g105)) goes48 rfl rfl) ?_
 obtain ⟨x_49, e108, h⟩ := bnd h
 refine OpsL.consG ((((x_32 && x_33) && x_37) && x_41) && x_45) 99 [112] (.plain rfl) (eq_t _) rfl rfl (fun g107 => ⟨g107, trivial⟩) (fun g107 => op_call0 (l4_text_spec (gc e108 g107)) goes87 rfl rfl) (Oc rfl (op_pick_and (fun e => e) rfl rfl rfl rfl) (Oc rfl (op_assign rfl) ?_))
 refine OpsL.nilS ⟨[(1, .b (.one (.raw (.func (.func 22) #[] #[])))), (2, B x_17), (4, B (x_25 && (decide (x_27 = x_28)))), (7, B (((((x_32 && x_33) && x_37) && x_41) && x_45) && x_49))], []⟩ rfl (Tri.seq (Tri.regionL ?_))
 obtain ⟨⟨x_50, x_51⟩, e109, h⟩ := bnd h
 refine Oc rfl (op_call0 (ratio_Parse_spec e109) goes52 rfl rfl) (Oc rfl (op_move rfl) (Oc rfl (op_extract rfl rfl) (Oc rfl (op_extract rfl rfl) ?_)))
 refine OpsL.keepS ⟨[(1, .b (.one (.raw (.func (.func 22) #[] #[])))), (2, B x_17), (4, B (x_25 && (decide (x_27 = x_28)))), (7, B (((((x_32 && x_33) && x_37) && x_41) && x_45) && x_49)), (117, .b (.agg (eFrc x_50))), (118, I x_51)], []⟩ rfl (Oc rfl (op_alloc (k := 104) tyZero27 rfl) (Oc rfl (op_store_p tyAgg27 rfl rfl rfl rfl (Nat.le_of_ble_eq_true rfl) rfl) (Oc rfl (op_assign rfl) ?_)))
 refine OpsL.nilS ⟨[(1, .b (.one (.raw (.func (.func 22) #[] #[])))), (2, B x_17), (4, B (x_25 && (decide (x_27 = x_28)))), (7, B (((((x_32 && x_33) && x_37) && x_41) && x_45) && x_49)), (9, I x_51)], []⟩ rfl (Tri.seq (Tri.regionL ?_))
 obtain ⟨⟨x_52, x_53⟩, e110, h⟩ := bnd h
 refine Oc rfl (op_call0 (ratio_Parse_spec e110) goes52 rfl rfl) (Oc rfl (op_move rfl) (Oc rfl (op_extract rfl rfl) (Oc rfl (op_extract rfl rfl) ?_)))
 refine OpsL.keepS ⟨[(1, .b (.one (.raw (.func (.func 22) #[] #[])))), (2, B x_17), (4, B (x_25 && (decide (x_27 = x_28)))), (7, B (((((x_32 && x_33) && x_37) && x_41) && x_45) && x_49)), (9, I x_51), (121, .b (.agg (eFrc x_52))), (122, I x_53)], []⟩ rfl (Oc rfl (op_alloc (k := 105) tyZero27 rfl) (Oc rfl (op_store_p tyAgg27 rfl rfl rfl rfl (Nat.le_of_ble_eq_true rfl) rfl) (Oc rfl (op_assign rfl) ?_)))
 refine OpsL.nilS ⟨[(1, .b (.one (.raw (.func (.func 22) #[] #[])))), (2, B x_17), (4, B (x_25 && (decide (x_27 = x_28)))), (7, B (((((x_32 && x_33) && x_37) && x_41) && x_45) && x_49)), (9, I x_51), (10, Pt 105 0), (11, I x_53)], [(105, .box 27 (eFrc x_52))]⟩ rfl (Tri.seq ?_)
 obtain ⟨x_54, e120, h⟩ := bnd h
 obtain ⟨x_55, e125, h⟩ := bnd h
 obtain ⟨x_56, e127, h⟩ := bnd h
 obtain ⟨x_57, e131, h⟩ := bnd h
 obtain ⟨x_58, e133, h⟩ := bnd h
 obtain ⟨x_59, e135, h⟩ := bnd h
 obtain ⟨x_60, e137, h⟩ := bnd h
 obtain ⟨x_61, e139, h⟩ := bnd h
 refine Tri.regionY mixed 42 [B x_17, B x_17, .opt x_17 (.one (.bool (x_25 && (decide (x_27 = x_28))))), B (x_17 && (x_25 && (decide (x_27 = x_28)))), B (x_17 && (x_25 && (decide (x_27 = x_28)))), .opt (x_17 && (x_25 && (decide (x_27 = x_28)))) (.one (.bool (((((x_32 && x_33) && x_37) && x_41) && x_45) && x_49))), B ((x_17 && (x_25 && (decide (x_27 = x_28)))) && (((((x_32 && x_33) && x_37) && x_41) && x_45) && x_49)), B ((x_17 && (x_25 && (decide (x_27 = x_28)))) && (((((x_32 && x_33) && x_37) && x_41) && x_45) && x_49)), .opt ((x_17 && (x_25 && (decide (x_27 = x_28)))) && (((((x_32 && x_33) && x_37) && x_41) && x_45) && x_49)) (.one (.i x_51)), .opt ((x_17 && (x_25 && (decide (x_27 = x_28)))) && (((((x_32 && x_33) && x_37) && x_41) && x_45) && x_49)) (.one (.bool (decide (x_51 = 281)))), B (((x_17 && (x_25 && (decide (x_27 = x_28)))) && (((((x_32 && x_33) && x_37) && x_41) && x_45) && x_49)) && (decide (x_51 = 281))), B (((x_17 && (x_25 && (decide (x_27 = x_28)))) && (((((x_32 && x_33) && x_37) && x_41) && x_45) && x_49)) && (decide (x_51 = 281))), .opt (((x_17 && (x_25 && (decide (x_27 = x_28)))) && (((((x_32 && x_33) && x_37) && x_41) && x_45) && x_49)) && (decide (x_51 = 281))) (.one (.i x_53)), .opt (((x_17 && (x_25 && (decide (x_27 = x_28)))) && (((((x_32 && x_33) && x_37) && x_41) && x_45) && x_49)) && (decide (x_51 = 281))) (.one (.bool (decide (x_53 = 0)))), B ((((x_17 && (x_25 && (decide (x_27 = x_28)))) && (((((x_32 && x_33) && x_37) && x_41) && x_45) && x_49)) && (decide (x_51 = 281))) && (decide (x_53 = 0))), B ((((x_17 && (x_25 && (decide (x_27 = x_28)))) && (((((x_32 && x_33) && x_37) && x_41) && x_45) && x_49)) && (decide (x_51 = 281))) && (decide (x_53 = 0))), .opt ((((x_17 && (x_25 && (decide (x_27 = x_28)))) && (((((x_32 && x_33) && x_37) && x_41) && x_45) && x_49)) && (decide (x_51 = 281))) && (decide (x_53 = 0))) (.agg (eFrc x_52)), .opt ((((x_17 && (x_25 && (decide (x_27 = x_28)))) && (((((x_32 && x_33) && x_37) && x_41) && x_45) && x_49)) && (decide (x_51 = 281))) && (decide (x_53 = 0))) (.one (.raw (.func (.func 22) #[] #[]))), .opt ((((x_17 && (x_25 && (decide (x_27 = x_28)))) && (((((x_32 && x_33) && x_37) && x_41) && x_45) && x_49)) && (decide (x_51 = 281))) && (decide (x_53 = 0))) (.agg (eFrc x_54)), .opt ((((x_17 && (x_25 && (decide (x_27 = x_28)))) && (((((x_32 && x_33) && x_37) && x_41) && x_45) && x_49)) && (decide (x_51 = 281))) && (decide (x_53 = 0))) (.one (.bool (decide (x_52 = x_54)))), B (((((x_17 && (x_25 && (decide (x_27 = x_28)))) && (((((x_32 && x_33) && x_37) && x_41) && x_45) && x_49)) && (decide (x_51 = 281))) && (decide (x_53 = 0))) && (decide (x_52 = x_54))), B (((((x_17 && (x_25 && (decide (x_27 = x_28)))) && (((((x_32 && x_33) && x_37) && x_41) && x_45) && x_49)) && (decide (x_51 = 281))) && (decide (x_53 = 0))) && (decide (x_52 = x_54))), .opt (((((x_17 && (x_25 && (decide (x_27 = x_28)))) && (((((x_32 && x_33) && x_37) && x_41) && x_45) && x_49)) && (decide (x_51 = 281))) && (decide (x_53 = 0))) && (decide (x_52 = x_54))) (.agg (eFrc x_52)), .opt (((((x_17 && (x_25 && (decide (x_27 = x_28)))) && (((((x_32 && x_33) && x_37) && x_41) && x_45) && x_49)) && (decide (x_51 = 281))) && (decide (x_53 = 0))) && (decide (x_52 = x_54))) (.one (.raw (.func (.func 22) #[] #[]))), .opt (((((x_17 && (x_25 && (decide (x_27 = x_28)))) && (((((x_32 && x_33) && x_37) && x_41) && x_45) && x_49)) && (decide (x_51 = 281))) && (decide (x_53 = 0))) && (decide (x_52 = x_54))) (.agg (eFrc x_55)), .opt (((((x_17 && (x_25 && (decide (x_27 = x_28)))) && (((((x_32 && x_33) && x_37) && x_41) && x_45) && x_49)) && (decide (x_51 = 281))) && (decide (x_53 = 0))) && (decide (x_52 = x_54))) (.one (.i x_56)), .opt (((((x_17 && (x_25 && (decide (x_27 = x_28)))) && (((((x_32 && x_33) && x_37) && x_41) && x_45) && x_49)) && (decide (x_51 = 281))) && (decide (x_53 = 0))) && (decide (x_52 = x_54))) (.one (.bool (decide (x_56 = (-1))))), B ((((((x_17 && (x_25 && (decide (x_27 = x_28)))) && (((((x_32 && x_33) && x_37) && x_41) && x_45) && x_49)) && (decide (x_51 = 281))) && (decide (x_53 = 0))) && (decide (x_52 = x_54))) && (decide (x_56 = (-1)))), B ((((((x_17 && (x_25 && (decide (x_27 = x_28)))) && (((((x_32 && x_33) && x_37) && x_41) && x_45) && x_49)) && (decide (x_51 = 281))) && (decide (x_53 = 0))) && (decide (x_52 = x_54))) && (decide (x_56 = (-1)))), .opt ((((((x_17 && (x_25 && (decide (x_27 = x_28)))) && (((((x_32 && x_33) && x_37) && x_41) && x_45) && x_49)) && (decide (x_51 = 281))) && (decide (x_53 = 0))) && (decide (x_52 = x_54))) && (decide (x_56 = (-1)))) (.agg (eFrc x_52)), .opt ((((((x_17 && (x_25 && (decide (x_27 = x_28)))) && (((((x_32 && x_33) && x_37) && x_41) && x_45) && x_49)) && (decide (x_51 = 281))) && (decide (x_53 = 0))) && (decide (x_52 = x_54))) && (decide (x_56 = (-1)))) (.one (.bool x_57)), B (((((((x_17 && (x_25 && (decide (x_27 = x_28)))) && (((((x_32 && x_33) && x_37) && x_41) && x_45) && x_49)) && (decide (x_51 = 281))) && (decide (x_53 = 0))) && (decide (x_52 = x_54))) && (decide (x_56 = (-1)))) && x_57), B (((((((x_17 && (x_25 && (decide (x_27 = x_28)))) && (((((x_32 && x_33) && x_37) && x_41) && x_45) && x_49)) && (decide (x_51 = 281))) && (decide (x_53 = 0))) && (decide (x_52 = x_54))) && (decide (x_56 = (-1)))) && x_57), .opt (((((((x_17 && (x_25 && (decide (x_27 = x_28)))) && (((((x_32 && x_33) && x_37) && x_41) && x_45) && x_49)) && (decide (x_51 = 281))) && (decide (x_53 = 0))) && (decide (x_52 = x_54))) && (decide (x_56 = (-1)))) && x_57) (.agg (eFrc x_58)), .opt (((((((x_17 && (x_25 && (decide (x_27 = x_28)))) && (((((x_32 && x_33) && x_37) && x_41) && x_45) && x_49)) && (decide (x_51 = 281))) && (decide (x_53 = 0))) && (decide (x_52 = x_54))) && (decide (x_56 = (-1)))) && x_57) (.one (.bool x_59)), B ((((((((x_17 && (x_25 && (decide (x_27 = x_28)))) && (((((x_32 && x_33) && x_37) && x_41) && x_45) && x_49)) && (decide (x_51 = 281))) && (decide (x_53 = 0))) && (decide (x_52 = x_54))) && (decide (x_56 = (-1)))) && x_57) && x_59), B ((((((((x_17 && (x_25 && (decide (x_27 = x_28)))) && (((((x_32 && x_33) && x_37) && x_41) && x_45) && x_49)) && (decide (x_51 = 281))) && (decide (x_53 = 0))) && (decide (x_52 = x_54))) && (decide (x_56 = (-1)))) && x_57) && x_59), .opt ((((((((x_17 && (x_25 && (decide (x_27 = x_28)))) && (((((x_32 && x_33) && x_37) && x_41) && x_45) && x_49)) && (decide (x_51 = 281))) && (decide (x_53 = 0))) && (decide (x_52 = x_54))) && (decide (x_56 = (-1)))) && x_57) && x_59) (.agg (eFrc x_60)), .opt ((((((((x_17 && (x_25 && (decide (x_27 = x_28)))) && (((((x_32 && x_33) && x_37) && x_41) && x_45) && x_49)) && (decide (x_51 = 281))) && (decide (x_53 = 0))) && (decide (x_52 = x_54))) && (decide (x_56 = (-1)))) && x_57) && x_59) (.one (.bool x_61)), .opt ((((((((x_17 && (x_25 && (decide (x_27 = x_28)))) && (((((x_32 && x_33) && x_37) && x_41) && x_45) && x_49)) && (decide (x_51 = 281))) && (decide (x_53 = 0))) && (decide (x_52 = x_54))) && (decide (x_56 = (-1)))) && x_57) && x_59) (.one (.bool (!x_61))), B (((((((((x_17 && (x_25 && (decide (x_27 = x_28)))) && (((((x_32 && x_33) && x_37) && x_41) && x_45) && x_49)) && (decide (x_51 = 281))) && (decide (x_53 = 0))) && (decide (x_52 = x_54))) && (decide (x_56 = (-1)))) && x_57) && x_59) && (!x_61)), B (((((((((x_17 && (x_25 && (decide (x_27 = x_28)))) && (((((x_32 && x_33) && x_37) && x_41) && x_45) && x_49)) && (decide (x_51 = 281))) && (decide (x_53 = 0))) && (decide (x_52 = x_54))) && (decide (x_56 = (-1)))) && x_57) && x_59) && (!x_61))] [0] [] (s' := ⟨[(0, B (((((((((x_17 && (x_25 && (decide (x_27 = x_28)))) && (((((x_32 && x_33) && x_37) && x_41) && x_45) && x_49)) && (decide (x_51 = 281))) && (decide (x_53 = 0))) && (decide (x_52 = x_54))) && (decide (x_56 = (-1)))) && x_57) && x_59) && (!x_61)))], []⟩) rfl ⟨fun _ => .plain rfl (op_move rfl), fun _ => .plain rfl (op_move rfl), fun _ => by exact .guard x_17 1 [] (.plain rfl) (eq_t _) rfl rfl (fun g111 => trivial) (fun g111 => op_move rfl), fun _ => .plain rfl (op_pick_and (fun e => e) rfl rfl rfl rfl), fun _ => .plain rfl (op_move rfl), fun _ => by exact .guard (x_17 && (x_25 && (decide (x_27 = x_28)))) 1 [] (.plain rfl) (eq_t _) rfl rfl (fun g112 => trivial) (fun g112 => op_move rfl), fun _ => .plain rfl (op_pick_and (fun e => e) rfl rfl rfl rfl), fun _ => .plain rfl (op_move rfl), fun _ => by exact .guard ((x_17 && (x_25 && (decide (x_27 = x_28)))) && (((((x_32 && x_33) && x_37) && x_41) && x_45) && x_49)) 1 [] (.plain rfl) (eq_t _) rfl rfl (fun g113 => trivial) (fun g113 => op_move rfl), fun _ => by exact .guard ((x_17 && (x_25 && (decide (x_27 = x_28)))) && (((((x_32 && x_33) && x_37) && x_41) && x_45) && x_49)) 2 [131] (.plain rfl) (eq_t _) rfl rfl (fun g114 => ⟨g114, trivial⟩) (fun g114 => op_eql rfl rfl), fun _ => .plain rfl (op_pick_and (fun e => e) rfl rfl rfl rfl), fun _ => .plain rfl (op_move rfl), fun _ => by exact .guard (((x_17 && (x_25 && (decide (x_27 = x_28)))) && (((((x_32 && x_33) && x_37) && x_41) && x_45) && x_49)) && (decide (x_51 = 281))) 1 [] (.plain rfl) (eq_t _) rfl rfl (fun g115 => trivial) (fun g115 => op_move rfl), fun _ => by exact .guard (((x_17 && (x_25 && (decide (x_27 = x_28)))) && (((((x_32 && x_33) && x_37) && x_41) && x_45) && x_49)) && (decide (x_51 = 281))) 2 [135] (.plain rfl) (eq_t _) rfl rfl (fun g116 => ⟨g116, trivial⟩) (fun g116 => op_eql rfl rfl), fun _ => .plain rfl (op_pick_and (fun e => e) rfl rfl rfl rfl), fun _ => .plain rfl (op_move rfl), fun _ => by exact .guard ((((x_17 && (x_25 && (decide (x_27 = x_28)))) && (((((x_32 && x_33) && x_37) && x_41) && x_45) && x_49)) && (decide (x_51 = 281))) && (decide (x_53 = 0))) 1 [] (.plain rfl) (eq_t _) rfl rfl (fun g117 => trivial) (fun g117 => op_load_p tyAgg27 rfl rfl rfl rfl), fun _ => by exact .guard ((((x_17 && (x_25 && (decide (x_27 = x_28)))) && (((((x_32 && x_33) && x_37) && x_41) && x_45) && x_49)) && (decide (x_51 = 281))) && (decide (x_53 = 0))) 1 [] (.plain rfl) (eq_t _) rfl rfl (fun g118 => trivial) (fun g118 => op_move rfl), fun _ => by exact .guard ((((x_17 && (x_25 && (decide (x_27 = x_28)))) && (((((x_32 && x_33) && x_37) && x_41) && x_45) && x_49)) && (decide (x_51 = 281))) && (decide (x_53 = 0))) 3 [140] (.plain rfl) (eq_t _) rfl rfl (fun g119 => ⟨g119, trivial⟩) (fun g119 => op_callv0 (ratio_Frac_spec (gc e120 g119)) goes22 rfl rfl rfl), fun _ => by exact .guard ((((x_17 && (x_25 && (decide (x_27 = x_28)))) && (((((x_32 && x_33) && x_37) && x_41) && x_45) && x_49)) && (decide (x_51 = 281))) && (decide (x_53 = 0))) 3 [139, 141] (.plain rfl) (eq_t _) rfl rfl (fun g121 => ⟨g121, g121, trivial⟩) (fun g121 => op_eql_agg (eqAgg27 x_52 x_54) rfl rfl), fun _ => .plain rfl (op_pick_and (fun e => e) rfl rfl rfl rfl), fun _ => .plain rfl (op_move rfl), fun _ => by exact .guard (((((x_17 && (x_25 && (decide (x_27 = x_28)))) && (((((x_32 && x_33) && x_37) && x_41) && x_45) && x_49)) && (decide (x_51 = 281))) && (decide (x_53 = 0))) && (decide (x_52 = x_54))) 1 [] (.plain rfl) (eq_t _) rfl rfl (fun g122 => trivial) (fun g122 => op_load_p tyAgg27 rfl rfl rfl rfl), fun _ => by exact .guard (((((x_17 && (x_25 && (decide (x_27 = x_28)))) && (((((x_32 && x_33) && x_37) && x_41) && x_45) && x_49)) && (decide (x_51 = 281))) && (decide (x_53 = 0))) && (decide (x_52 = x_54))) 1 [] (.plain rfl) (eq_t _) rfl rfl (fun g123 => trivial) (fun g123 => op_move rfl), fun _ => by exact .guard (((((x_17 && (x_25 && (decide (x_27 = x_28)))) && (((((x_32 && x_33) && x_37) && x_41) && x_45) && x_49)) && (decide (x_51 = 281))) && (decide (x_53 = 0))) && (decide (x_52 = x_54))) 3 [146] (.plain rfl) (eq_t _) rfl rfl (fun g124 => ⟨g124, trivial⟩) (fun g124 => op_callv0 (ratio_Frac_spec (gc e125 g124)) goes22 rfl rfl rfl), fun _ => by exact .guard (((((x_17 && (x_25 && (decide (x_27 = x_28)))) && (((((x_32 && x_33) && x_37) && x_41) && x_45) && x_49)) && (decide (x_51 = 281))) && (decide (x_53 = 0))) && (decide (x_52 = x_54))) 4 [145, 147] (.plain rfl) (eq_t _) rfl rfl (fun g126 => ⟨g126, g126, g126, trivial⟩) (fun g126 => op_call0 (ratio_Cmp_spec (gc e127 g126)) goes39 rfl rfl), fun _ => by exact .guard (((((x_17 && (x_25 && (decide (x_27 = x_28)))) && (((((x_32 && x_33) && x_37) && x_41) && x_45) && x_49)) && (decide (x_51 = 281))) && (decide (x_53 = 0))) && (decide (x_52 = x_54))) 2 [148] (.plain rfl) (eq_t _) rfl rfl (fun g128 => ⟨g128, trivial⟩) (fun g128 => op_eql rfl rfl), fun _ => .plain rfl (op_pick_and (fun e => e) rfl rfl rfl rfl), fun _ => .plain rfl (op_move rfl), fun _ => by exact .guard ((((((x_17 && (x_25 && (decide (x_27 = x_28)))) && (((((x_32 && x_33) && x_37) && x_41) && x_45) && x_49)) && (decide (x_51 = 281))) && (decide (x_53 = 0))) && (decide (x_52 = x_54))) && (decide (x_56 = (-1)))) 1 [] (.plain rfl) (eq_t _) rfl rfl (fun g129 => trivial) (fun g129 => op_load_p tyAgg27 rfl rfl rfl rfl), fun _ => by exact .guard ((((((x_17 && (x_25 && (decide (x_27 = x_28)))) && (((((x_32 && x_33) && x_37) && x_41) && x_45) && x_49)) && (decide (x_51 = 281))) && (decide (x_53 = 0))) && (decide (x_52 = x_54))) && (decide (x_56 = (-1)))) 3 [152] (.plain rfl) (eq_t _) rfl rfl (fun g130 => ⟨g130, trivial⟩) (fun g130 => op_call0 (ratio_Good_spec (gc e131 g130)) goes26 rfl rfl), fun _ => .plain rfl (op_pick_and (fun e => e) rfl rfl rfl rfl), fun _ => .plain rfl (op_move rfl), fun _ => by exact .guard (((((((x_17 && (x_25 && (decide (x_27 = x_28)))) && (((((x_32 && x_33) && x_37) && x_41) && x_45) && x_49)) && (decide (x_51 = 281))) && (decide (x_53 = 0))) && (decide (x_52 = x_54))) && (decide (x_56 = (-1)))) && x_57) 2 [] (.plain rfl) (eq_t _) rfl rfl (fun g132 => trivial) (fun g132 => op_call0 (ratio_Bad_spec (gc e133 g132)) goes27 rfl rfl), fun _ => by exact .guard (((((((x_17 && (x_25 && (decide (x_27 = x_28)))) && (((((x_32 && x_33) && x_37) && x_41) && x_45) && x_49)) && (decide (x_51 = 281))) && (decide (x_53 = 0))) && (decide (x_52 = x_54))) && (decide (x_56 = (-1)))) && x_57) 3 [156] (.plain rfl) (eq_t _) rfl rfl (fun g134 => ⟨g134, g134, trivial⟩) (fun g134 => op_call0 (ratio_Valid_spec (gc e135 g134)) goes24 rfl rfl), fun _ => .plain rfl (op_pick_and (fun e => e) rfl rfl rfl rfl), fun _ => .plain rfl (op_move rfl), fun _ => by exact .guard ((((((((x_17 && (x_25 && (decide (x_27 = x_28)))) && (((((x_32 && x_33) && x_37) && x_41) && x_45) && x_49)) && (decide (x_51 = 281))) && (decide (x_53 = 0))) && (decide (x_52 = x_54))) && (decide (x_56 = (-1)))) && x_57) && x_59) 2 [] (.plain rfl) (eq_t _) rfl rfl (fun g136 => trivial) (fun g136 => op_call0 (ratio_Bad_spec (gc e137 g136)) goes27 rfl rfl), fun _ => by exact .guard ((((((((x_17 && (x_25 && (decide (x_27 = x_28)))) && (((((x_32 && x_33) && x_37) && x_41) && x_45) && x_49)) && (decide (x_51 = 281))) && (decide (x_53 = 0))) && (decide (x_52 = x_54))) && (decide (x_56 = (-1)))) && x_57) && x_59) 3 [160] (.plain rfl) (eq_t _) rfl rfl (fun g138 => ⟨g138, g138, trivial⟩) (fun g138 => op_call0 (ratio_Good_spec (gc e139 g138)) goes26 rfl rfl), fun _ => by exact .guard ((((((((x_17 && (x_25 && (decide (x_27 = x_28)))) && (((((x_32 && x_33) && x_37) && x_41) && x_45) && x_49)) && (decide (x_51 = 281))) && (decide (x_53 = 0))) && (decide (x_52 = x_54))) && (decide (x_56 = (-1)))) && x_57) && x_59) 2 [161] (.plain rfl) (eq_t _) rfl rfl (fun g140 => ⟨g140, trivial⟩) (fun g140 => op_not rfl), fun _ => .plain rfl (op_pick_and (fun e => e) rfl rfl rfl rfl), fun _ => .plain rfl (op_assign rfl), trivial⟩ rfl rfl ?_
 refine Tri.ret ?_
 obtain rfl := Option.some.inj h
 refine Fin.keepS ⟨[(0, B (((((((((x_17 && (x_25 && (decide (x_27 = x_28)))) && (((((x_32 && x_33) && x_37) && x_41) && x_45) && x_49)) && (decide (x_51 = 281))) && (decide (x_53 = 0))) && (decide (x_52 = x_54))) && (decide (x_56 = (-1)))) && x_57) && x_59) && (!x_61)))], []⟩ rfl (Fin.result' [.one (.bool (((((((((x_17 && (x_25 && (decide (x_27 = x_28)))) && (((((x_32 && x_33) && x_37) && x_41) && x_45) && x_49)) && (decide (x_51 = 281))) && (decide (x_53 = 0))) && (decide (x_52 = x_54))) && (decide (x_56 = (-1)))) && x_57) && x_59) && (!x_61)))] (.inl rfl) rfl (.cons (.tmp rfl) .nil) ⟨rfl, rfl⟩)
def r4_Floor_S (F : Nat) (x0 : Frc) : Option Big :=
 (r4_Good_S F x0).bind fun x_1 => if (!x_1) = true then ((r3_Bad_S F).bind fun x_2 => some x_2) else ((r3_Quo_S F x0.N x0.D).bind fun x_3 => some x_3)
theorem r4_Floor_spec {F : Nat} {x0 : Frc} {r : Big} (h : r4_Floor_S F x0 = some r) : Meets Tryz.prog (tabs mx) 32 [] [.agg (eFrc x0)] (Is [] (.b (.agg (eBig r)))) := by
 unfold r4_Floor_S at h
 refine Meets.intro 12 Tryz.func32 Tryz.ntmps32 rfl (by simp) fun E => ?_
 show Tri _ E ⟨12, [], []⟩ _ ⟨[(0, .b (.agg (eFrc x0)))], []⟩ _
 refine Tri.seq (Tri.regionL ?_)
 refine Oc rfl (op_box (k := 101) rfl rfl) (Oc rfl (op_alloc (k := 102) tyZero25 rfl) ?_)
 refine OpsL.nilS ⟨[(1, Pt 101 0), (2, Pt 102 0)], [(101, .box 27 (eFrc x0)), (102, .box 25 zBig)]⟩ rfl (Tri.seq (Tri.seq (Tri.regionL ?_)))
 refine Oc rfl (op_load_p tyAgg27 rfl rfl rfl rfl) ?_
 obtain ⟨x_1, e1, h⟩ := bnd h
 refine Oc rfl (op_call0 (r4_Good_spec e1) goes13 rfl rfl) (Oc rfl (op_not rfl) ?_)
 refine OpsL.nilS ⟨[(1, Pt 101 0), (2, Pt 102 0), (5, B (!x_1))], [(101, .box 27 (eFrc x0)), (102, .box 25 zBig)]⟩ rfl (Tri.ite h rfl (fun _ h => ?_) (fun _ h => ?_))
 ·refine Tri.seq (Tri.regionL ?_)
  obtain ⟨x_2, e2, h⟩ := bnd h
  refine Oc rfl (op_call0 (r3_Bad_spec e2) goes83 rfl rfl) (Oc rfl (op_store_p tyAgg25 rfl rfl rfl rfl (Nat.le_of_ble_eq_true rfl) rfl) ?_)
  refine OpsL.nilS ⟨[(2, Pt 102 0)], [(102, .box 25 (eBig x_2))]⟩ rfl (Tri.ret (Fin.then_ret ?_))
  obtain rfl := Option.some.inj h
  refine Fin.keepS ⟨[(2, Pt 102 0)], [(102, .box 25 (eBig x_2))]⟩ rfl (Fin.result' [.agg (eBig x_2)] (.inl rfl) rfl (.cons (.agg tyAgg25 rfl rfl rfl rfl) .nil) ⟨rfl, rfl⟩)
 ·refine Tri.skip (Fin.keepS ⟨[(1, Pt 101 0), (2, Pt 102 0)], [(101, .box 27 (eFrc x0)), (102, .box 25 zBig)]⟩ rfl (Fin.then (Tri.seq (Tri.regionL ?_))))
  refine Oc rfl (op_field_p tyFld27_0 rfl rfl) (Oc rfl (op_load_p tyAgg25 rfl rfl rfl rfl) (Oc rfl (op_field_p tyFld27_1 rfl rfl) (Oc rfl (op_load_p tyAgg25 rfl rfl rfl rfl) ?_)))
  obtain ⟨x_3, e3, h⟩ := bnd h
  refine Oc rfl (op_call0 (r3_Quo_spec e3) goes89 rfl rfl) (Oc rfl (op_store_p tyAgg25 rfl rfl rfl rfl (Nat.le_of_ble_eq_true rfl) rfl) ?_)
  refine OpsL.nilS ⟨[(2, Pt 102 0)], [(102, .box 25 (eBig x_3))]⟩ rfl (Tri.ret ?_)
  obtain rfl := Option.some.inj h
  refine Fin.keepS ⟨[(2, Pt 102 0)], [(102, .box 25 (eBig x_3))]⟩ rfl (Fin.result' [.agg (eBig x_3)] (.inl rfl) rfl (.cons (.agg tyAgg25 rfl rfl rfl rfl) .nil) ⟨rfl, rfl⟩)
def r4_Neg_S (F : Nat) (x0 : Frc) : Option Frc :=
 (r4_Good_S F x0).bind fun x_1 => if (!x_1) = true then ((r4_Bad_S F).bind fun x_2 => some x_2) else ((r3_Neg_S F x0.N).bind fun x_3 => some (⟨x_3, x0.D⟩ : Frc))
theorem r4_Neg_spec {F : Nat} {x0 : Frc} {r : Frc} (h : r4_Neg_S F x0 = some r) : Meets Tryz.prog (tabs mx) 60 [] [.agg (eFrc x0)] (Is [] (.b (.agg (eFrc r)))) := by
 unfold r4_Neg_S at h
 refine Meets.intro 13 Tryz.func60 Tryz.ntmps60 rfl (by simp) fun E => ?_
 show Tri _ E ⟨13, [], []⟩ _ ⟨[(0, .b (.agg (eFrc x0)))], []⟩ _
 refine Tri.seq (Tri.regionL ?_)
 refine Oc rfl (op_box (k := 101) rfl rfl) (Oc rfl (op_alloc (k := 102) tyZero27 rfl) ?_)
 refine OpsL.nilS ⟨[(1, Pt 101 0), (2, Pt 102 0)], [(101, .box 27 (eFrc x0)), (102, .box 27 zFrc)]⟩ rfl (Tri.seq (Tri.seq (Tri.regionL ?_)))
 refine Oc rfl (op_load_p tyAgg27 rfl rfl rfl rfl) ?_
 obtain ⟨x_1, e1, h⟩ := bnd h
 refine Oc rfl (op_call0 (r4_Good_spec e1) goes13 rfl rfl) (Oc rfl (op_not rfl) ?_)
 refine OpsL.nilS ⟨[(1, Pt 101 0), (2, Pt 102 0), (5, B (!x_1))], [(101, .box 27 (eFrc x0)), (102, .box 27 zFrc)]⟩ rfl (Tri.ite h rfl (fun _ h => ?_) (fun _ h => ?_))
 ·refine Tri.seq (Tri.regionL ?_)
  obtain ⟨x_2, e2, h⟩ := bnd h
  refine Oc rfl (op_call0 (r4_Bad_spec e2) goes28 rfl rfl) (Oc rfl (op_store_p tyAgg27 rfl rfl rfl rfl (Nat.le_of_ble_eq_true rfl) rfl) ?_)
  refine OpsL.nilS ⟨[(2, Pt 102 0)], [(102, .box 27 (eFrc x_2))]⟩ rfl (Tri.ret (Fin.then_ret ?_))
  obtain rfl := Option.some.inj h
  refine Fin.keepS ⟨[(2, Pt 102 0)], [(102, .box 27 (eFrc x_2))]⟩ rfl (Fin.result' [.agg (eFrc x_2)] (.inl rfl) rfl (.cons (.agg tyAgg27 rfl rfl rfl rfl) .nil) ⟨rfl, rfl⟩)
 ·refine Tri.skip (Fin.keepS ⟨[(1, Pt 101 0), (2, Pt 102 0)], [(101, .box 27 (eFrc x0)), (102, .box 27 zFrc)]⟩ rfl (Fin.then (Tri.seq ?_)))
  refine Tri.keepS ⟨[(1, Pt 101 0), (2, Pt 102 0)], [(101, .box 27 (eFrc x0)), (102, .box 27 zFrc)]⟩ rfl ?_
  obtain ⟨x_3, e3, h⟩ := bnd h
  refine Tri.regionY mixed 6 [Pt 101 0, .b (.agg (eBig x0.N)), .b (.agg (eBig x_3)), Pt 101 18, .b (.agg (eBig x0.D)), .b (.agg (eBig x_3 ++ (eBig x0.D)))] [2] [102] (s' := ⟨[(2, Pt 102 0)], [(102, .box 27 (eBig x_3 ++ (eBig x0.D)))]⟩) rfl ⟨fun _ => .plain rfl (op_field_p tyFld27_0 rfl rfl), fun _ => .plain rfl (op_load_p tyAgg25 rfl rfl rfl rfl), fun _ => .plain rfl (op_call0 (r3_Neg_spec e3) goes88 rfl rfl), fun _ => .plain rfl (op_field_p tyFld27_1 rfl rfl), fun _ => .plain rfl (op_load_p tyAgg25 rfl rfl rfl rfl), fun _ => .plain rfl (op_build tyBuild27 rfl rfl), trivial⟩ ⟨_, by exact .plain rfl (op_store_p tyAgg27 rfl rfl rfl rfl (Nat.le_of_ble_eq_true rfl) rfl), rfl⟩ rfl (Tri.ret ?_)
  obtain rfl := Option.some.inj h
  refine Fin.keepS ⟨[(2, Pt 102 0)], [(102, .box 27 (eBig x_3 ++ (eBig x0.D)))]⟩ rfl (Fin.result' [.agg (eBig x_3 ++ (eBig x0.D))] (.inl rfl) rfl (.cons (.agg tyAgg27 rfl rfl rfl rfl) .nil) ⟨rfl, rfl⟩)
def r4_Ceil_S (F : Nat) (x0 : Frc) : Option Big :=
 (r4_Neg_S F x0).bind fun x_1 => (r4_Floor_S F x_1).bind fun x_2 => (r3_Neg_S F x_2).bind fun x_3 => some x_3
theorem r4_Ceil_spec {F : Nat} {x0 : Frc} {r : Big} (h : r4_Ceil_S F x0 = some r) : Meets Tryz.prog (tabs mx) 34 [] [.agg (eFrc x0)] (Is [] (.b (.agg (eBig r)))) := by
 unfold r4_Ceil_S at h
 refine Meets.intro 7 Tryz.func34 Tryz.ntmps34 rfl (by simp) fun E => ?_
 show Tri _ E ⟨7, [], []⟩ _ ⟨[(0, .b (.agg (eFrc x0)))], []⟩ _
 refine Tri.seq (Tri.regionL ?_)
 refine Oc rfl (op_box (k := 101) rfl rfl) (Oc rfl (op_alloc (k := 102) tyZero25 rfl) ?_)
 refine OpsL.nilS ⟨[(1, Pt 101 0), (2, Pt 102 0)], [(101, .box 27 (eFrc x0)), (102, .box 25 zBig)]⟩ rfl (Tri.seq (Tri.regionL ?_))
 refine Oc rfl (op_load_p tyAgg27 rfl rfl rfl rfl) ?_
 obtain ⟨x_1, e1, h⟩ := bnd h
 refine Oc rfl (op_call0 (r4_Neg_spec e1) goes60 rfl rfl) ?_
 obtain ⟨x_2, e2, h⟩ := bnd h
 refine Oc rfl (op_call0 (r4_Floor_spec e2) goes32 rfl rfl) ?_
 obtain ⟨x_3, e3, h⟩ := bnd h
 refine Oc rfl (op_call0 (r3_Neg_spec e3) goes88 rfl rfl) (Oc rfl (op_store_p tyAgg25 rfl rfl rfl rfl (Nat.le_of_ble_eq_true rfl) rfl) ?_)
 refine OpsL.nilS ⟨[(2, Pt 102 0)], [(102, .box 25 (eBig x_3))]⟩ rfl (Tri.ret ?_)
 obtain rfl := Option.some.inj h
 refine Fin.keepS ⟨[(2, Pt 102 0)], [(102, .box 25 (eBig x_3))]⟩ rfl (Fin.result' [.agg (eBig x_3)] (.inl rfl) rfl (.cons (.agg tyAgg25 rfl rfl rfl rfl) .nil) ⟨rfl, rfl⟩)
end Go.Proofs.YtdjnlmmhbeeihaaGreatDoor

