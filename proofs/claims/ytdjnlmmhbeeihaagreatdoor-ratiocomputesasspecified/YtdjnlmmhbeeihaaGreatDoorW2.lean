/- printed walks -/
import Derived.Test.YtdjnlmmhbeeihaaGreatDoorW1
namespace Go.Proofs.YtdjnlmmhbeeihaaGreatDoor
open Go.Sk
set_option maxHeartbeats 1000000
set_option maxRecDepth 4000
set_option linter.unusedSimpArgs false
set_option linter.unusedVariables false
variable {mx : Int}
def slices_Reverse_S (F : Nat) (s0 : List Str) : Option (List Str) :=
 letN (IntKind.i64.wrap ((s0.length : Int) - 1)) fun x_1 => Option.bind (iter F (un3 fun s_2 i_3 j_4 => if (decide (i_3 < j_4)) = true then ((idx? s_2 j_4).bind fun x_6 => (idx? s_2 i_3).bind fun x_7 => (idx? s_2 i_3).bind fun x_8 => (idx? (s_2.set (i_3 : Int).toNat x_6) j_4).bind fun x_9 => some (.inl ((s_2.set (i_3 : Int).toNat x_6).set (j_4 : Int).toNat x_7, IntKind.i64.wrap (i_3 + 1), IntKind.i64.wrap (j_4 - 1)))) else (some (.inr s_2))) (s0, 0, x_1)) (fun y_5 => some y_5)
theorem slices_Reverse_spec {F : Nat} {s0 : List Str} {r : (List Str)} (h : slices_Reverse_S F s0 = some r) : Meets Tryz.prog (tabs mx) 137 [(1, .frow 9 1 (s0.map eS))] [.row 1] (Is [(1, .frow 9 1 (r.map eS))] (.tup [])) := by
 unfold slices_Reverse_S at h
 refine Meets.intro 28 Tryz.func137 Tryz.ntmps137 rfl (by simp) fun E => ?_
 show Tri _ E ⟨28, [1], [1]⟩ _ ⟨[(0, .b (.row 1))], [(1, .frow 9 1 (s0.map eS))]⟩ _
 refine Tri.unF 1 rfl (Tri.seq (Tri.regionL ?_))
 refine Oc om (Oc (op_len_r' und111 rfl rfl (List.length_map _)) ?_)
 refine OpsL.consI .i64 h rfl (op_sub rfl rfl) (fun x_1 h => ?_)
 refine Oc oa (Oc oa ?_)
 refine OpsL.nilS ⟨[(0, .b (.row 1)), (2, I 0), (3, I x_1)], [(1, .row 9 1 (s0.map eS))]⟩ rfl (Tri.block ?_)
 obtain ⟨v1, h2, h⟩ := bnd h
 refine Tri.loopJ h2 (un3 fun (s_2 : List Str) (i_3 : Int) (j_4 : Int) => ⟨[(0, .b (.row 1)), (2, I i_3), (3, I j_4)], [(1, .row 9 1 (s_2.map eS))]⟩) [0, 2, 3] [1] rfl ?_
 rintro ⟨s_2, i_3, j_4⟩ o3 h4 hy5
 refine Tri.seq (Tri.seq (Tri.regionL ?_))
 refine Oc om (Oc om (Oc (op_lss rfl rfl) ?_))
 refine OpsL.nilS ⟨[(0, .b (.row 1)), (2, I i_3), (3, I j_4), (9, B (decide (i_3 < j_4)))], [(1, .row 9 1 (s_2.map eS))]⟩ rfl (Tri.ite h4 rfl (fun _ h4 => ?_) (fun _ h4 => ?_))
 ·refine Tri.skip (Fin.keepS ⟨[(0, .b (.row 1)), (2, I i_3), (3, I j_4)], [(1, .row 9 1 (s_2.map eS))]⟩ rfl (Fin.then (Tri.seq (Tri.block ?_))))
  refine Tri.keepS ⟨[(0, .b (.row 1)), (2, I i_3), (3, I j_4)], [(1, .row 9 1 (s_2.map eS))]⟩ rfl ?_
  obtain ⟨x_6, e6, h4⟩ := bnd h4
  obtain ⟨x_7, e7, h4⟩ := bnd h4
  obtain ⟨x_8, e8, h4⟩ := bnd h4
  obtain ⟨x_9, e9, h4⟩ := bnd h4
  refine Tri.regionWF mixed [false, false, false, false, false, false, false, false, false, false, false, false, false, true, false, true] [.b (.row 1), I i_3, .b (.row 1), I j_4, .b (.row 1), I j_4, .b (.rptr 1 ((j_4 : Int).toNat * 1)), .b (.one (.str x_6)), .b (.row 1), I i_3, .b (.rptr 1 ((i_3 : Int).toNat * 1)), .b (.one (.str x_7)), .b (.rptr 1 ((i_3 : Int).toNat * 1)), B true, .b (.rptr 1 ((j_4 : Int).toNat * 1)), B true] [⟨[false, false, false, false, false, false, false, false, false, false, false, false, false, false, false, false], [(0, .b (.row 1)), (2, I i_3), (3, I j_4)], [(1, .row 9 1 (s_2.map eS))], [true, true, true, true, true, true, true, true, true, true, true, true, true, true, true, true], []⟩, ⟨[false, false, false, false, false, false, false, false, false, false, false, false, false, true, false, false], [(0, .b (.row 1)), (2, I i_3), (3, I j_4)], [(1, .row 9 1 ((s_2.set (i_3 : Int).toNat x_6).map eS))], [true, true, true, true, true, true, true, true, true, true, true, true, true, true, true, true], [0, 1, 4, 5, 6, 7, 8, 9, 10, 11, 12, 13]⟩, ⟨[false, false, false, false, false, false, false, false, false, false, false, false, false, true, false, true], [(0, .b (.row 1)), (2, I i_3), (3, I j_4)], [(1, .row 9 1 (((s_2.set (i_3 : Int).toNat x_6).set (j_4 : Int).toNat x_7).map eS))], [true, true, true, true, true, true, true, true, true, true, true, true, true, true, true, true], [0, 1, 2, 3, 4, 5, 6, 7, 8, 9, 10, 11, 12, 13, 14, 15]⟩] rfl (⟨by kernel_rfl, ⟨⟨.b (.row 1), fun _ => rfl, fun _ => .p (by exact op_move rfl)⟩, ⟨I i_3, fun _ => rfl, fun _ => .p (by exact op_move rfl)⟩, ⟨.b (.row 1), fun _ => rfl, fun _ => .p (by exact op_move rfl)⟩, ⟨I j_4, fun _ => rfl, fun _ => .p (by exact op_move rfl)⟩, ⟨.b (.row 1), fun _ => rfl, fun _ => .p (by exact op_move rfl)⟩, ⟨I j_4, fun _ => rfl, fun _ => .p (by exact op_move rfl)⟩, ⟨.b (.rptr 1 ((j_4 : Int).toNat * 1)), fun _ => rfl, fun _ => .p (by exact op_index_r tySl111 (ix_lo e6) (ix_lt' e6) rfl rfl rfl rfl)⟩, ⟨.b (.one (.str x_6)), fun _ => rfl, fun _ => .p (by exact op_load_r1 (i := (j_4 : Int).toNat) (f := 0) tyOne9 rfl rfl rfl (ix_map (e := eS) e6) rfl)⟩, ⟨.b (.row 1), fun _ => rfl, fun _ => .p (by exact op_move rfl)⟩, ⟨I i_3, fun _ => rfl, fun _ => .p (by exact op_move rfl)⟩, ⟨.b (.rptr 1 ((i_3 : Int).toNat * 1)), fun _ => rfl, fun _ => .p (by exact op_index_r tySl111 (ix_lo e7) (ix_lt' e7) rfl rfl rfl rfl)⟩, ⟨.b (.one (.str x_7)), fun _ => rfl, fun _ => .p (by exact op_load_r1 (i := (i_3 : Int).toNat) (f := 0) tyOne9 rfl rfl rfl (ix_map (e := eS) e7) rfl)⟩, ⟨.b (.rptr 1 ((i_3 : Int).toNat * 1)), fun _ => rfl, fun _ => .p (by exact op_index_r tySl111 (ix_lo e8) (ix_lt' e8) rfl rfl rfl rfl)⟩, ⟨_, none, .b (.one .any), rfl, (fun e => by simp at e), rfl, rfl, fun _ => .toO [1] (by exact .p (by exact op_store_r1 (i := (i_3 : Int).toNat) tyOne9 rfl rfl rfl rfl (ix_lt e8) (map_set _ _ _ _))) (by exact rfl)⟩, trivial, trivial, trivial⟩, ⟨by kernel_rfl, ⟨trivial, trivial, ⟨.b (.row 1), fun _ => rfl, fun _ => .p (by exact op_move rfl)⟩, ⟨I j_4, fun _ => rfl, fun _ => .p (by exact op_move rfl)⟩, trivial, trivial, trivial, trivial, trivial, trivial, trivial, trivial, trivial, trivial, ⟨.b (.rptr 1 ((j_4 : Int).toNat * 1)), fun _ => rfl, fun _ => .p (by exact op_index_r tySl111 (ix_lo e9) (ix_lt' e9) rfl rfl rfl rfl)⟩, ⟨_, none, .b (.one .any), rfl, (fun e => by simp at e), rfl, rfl, fun _ => .toO [1] (by exact .p (by exact op_store_r1 (i := (j_4 : Int).toNat) tyOne9 rfl rfl rfl rfl (ix_lt e9) (map_set _ _ _ _))) (by exact rfl)⟩, trivial⟩, ⟨by kernel_rfl, ⟨trivial, trivial, trivial, trivial, trivial, trivial, trivial, trivial, trivial, trivial, trivial, trivial, trivial, trivial, trivial, trivial, trivial⟩, trivial⟩⟩⟩) rfl rfl rfl [0, 2, 3] [1] (s' := ⟨[(0, .b (.row 1)), (2, I i_3), (3, I j_4)], [(1, .row 9 1 (((s_2.set (i_3 : Int).toNat x_6).set (j_4 : Int).toNat x_7).map eS))]⟩) rfl ?_
  refine Fin.block_normal (Fin.keepS ⟨[(0, .b (.row 1)), (2, I i_3), (3, I j_4)], [(1, .row 9 1 (((s_2.set (i_3 : Int).toNat x_6).set (j_4 : Int).toNat x_7).map eS))]⟩ rfl (Fin.then (Tri.regionL ?_)))
  refine Oc om (Oc (op_add rfl rfl) (Oc om (Oc (op_sub rfl rfl) (Oc oa (Oc oa ?_)))))
  refine OpsL.nil ?_
  exact Fin.againJ [0, 2, 3] [1] ((s_2.set (i_3 : Int).toNat x_6).set (j_4 : Int).toNat x_7, IntKind.i64.wrap (i_3 + 1), IntKind.i64.wrap (j_4 - 1)) (Option.some.inj h4) rfl
 ·refine Tri.exit (Fin.then_exit ?_)
  obtain rfl := hy5 _ (Option.some.inj h4).symm
  refine Fin.then_exit (Fin.block_exit ?_)
  obtain rfl := Option.some.inj h
  refine Fin.keepS ⟨[], [(1, .row 9 1 (s_2.map eS))]⟩ rfl (Fin.toF 1 rfl (Fin.keepS ⟨[], [(1, .frow 9 1 (s_2.map eS))]⟩ rfl ?_))
  exact Fin.result [] (.inr rfl) rfl (.nil) ⟨rfl, rfl⟩
def w_Text_S (F : Nat) (x0 : Big) : Option Str :=
 (w_good_S F [x0]).bind fun x_1 => if (!x_1) = true then (some []) else (Option.bind (iter F (un2 fun parts_3 w_4 => Option.bind (w_short_S F w_4 1000000000) (un2 fun x_6 x_7 => (strconv_Itoa_S F (IntKind.i64.wrap x_7)).bind fun x_8 => if (decide (x_6 = A16.zero)) = true then ((app? parts_3 [x_8]).bind fun x_9 => some (.inr x_9)) else (letN (IntKind.i64.wrap (9 - (x_8.length : Int))) fun x_10 => (strings_Repeat_S F [48] x_10).bind fun x_11 => (app? x_11 x_8).bind fun x_12 => (app? parts_3 [x_12]).bind fun x_13 => some (.inl (x_13, x_6))))) ([], x0.W)) (fun parts_2 => Option.bind (if x0.Neg = true then ((app? parts_2 [[45]]).bind fun x_15 => some x_15) else (some parts_2)) (fun parts_14 => (slices_Reverse_S F parts_14).bind fun x_16 => (strings_Join_S F x_16 []).bind fun x_17 => some x_17)))
theorem w_Text_spec {F : Nat} {x0 : Big} {r : Str} (h : w_Text_S F x0 = some r) : Meets Tryz.prog (tabs mx) 109 [] [.agg (eBig x0)] (Is [] (.b (.one (.str r)))) := by
 unfold w_Text_S at h
 refine Meets.intro 49 Tryz.func109 Tryz.ntmps109 rfl (by simp) fun E => ?_
 show Tri _ E ⟨49, [], []⟩ _ ⟨[(0, .b (.agg (eBig x0)))], []⟩ _
 refine Tri.seq (Tri.regionL ?_)
 refine Oc (op_box (k := 101) rfl rfl) (Oc oa ?_)
 refine OpsL.nilS ⟨[(1, Pt 101 0)], [(101, .box 25 (eBig x0))]⟩ rfl (Tri.seq (Tri.seq (Tri.regionL ?_)))
 refine Oc (lp tyAgg25) (Oc (op_buildSlice (k := 102) (es := [x0].map eBig) tySl117 rfl rfl (uni_map fun _ => rfl) rfl (by decide) (by decide) rfl) ?_)
 obtain ⟨x_1, e1, h⟩ := bnd h
 refine Oc (op_callB (w_good_spec e1) goes113 rfl CP.flat_bool) (Oc (op_not rfl) ?_)
 refine OpsL.nilS ⟨[(1, Pt 101 0), (11, B (!x_1))], [(101, .box 25 (eBig x0))]⟩ rfl (Tri.ite h rfl (fun _ h => ?_) (fun _ h => ?_))
 ·refine Tri.seq (Tri.regionL ?_)
  refine Oc oa (OpsL.nilS ⟨[(2, .b (.one (.str [])))], []⟩ rfl (Tri.ret (Fin.then_ret ?_)))
  obtain rfl := Option.some.inj h
  refine Fin.keepS ⟨[(2, .b (.one (.str [])))], []⟩ rfl (Fin.result' [.one (.str [])] (.inl rfl) rfl (.cons (.tmp rfl) .nil) ⟨rfl, rfl⟩)
 ·refine Tri.skip (Fin.keepS ⟨[(1, Pt 101 0)], [(101, .box 25 (eBig x0))]⟩ rfl (Fin.then (Tri.seq (Tri.regionL ?_))))
  refine Oc oa (OpsL.nilS ⟨[(1, Pt 101 0), (3, .b (.one (.nil)))], [(101, .box 25 (eBig x0))]⟩ rfl ?_)
  obtain ⟨v2, h3, h⟩ := bnd h
  refine Tri.seqJ (v := v2) (fun (parts_2 : List Str) => ⟨[(1, Pt 101 0), (3, .b (.row 108))], [(101, .box 25 (eBig x0)), (108, .row 9 1 (parts_2.map eS))]⟩) (fun z => z) ?_ ?_
  ·refine Tri.seq (Tri.regionL ?_)
   refine Oc (op_field_p tyFld25_2 rfl rfl) (Oc (lp tyAgg23) (Oc (op_alloc (k := 103) tyZero23 rfl) (Oc (op_store_p tyAgg23 rfl rfl rfl rfl (Nat.le_of_ble_eq_true rfl) rfl) ?_)))
   refine OpsL.nilS ⟨[(1, Pt 101 0), (3, .b (.one (.nil))), (4, Pt 103 0)], [(101, .box 25 (eBig x0)), (103, .box 23 (eW x0.W))]⟩ rfl (Tri.block (Tri.nilrow 3 108 1 9 rfl (by decide) rfl (Tri.loopJ h3 (un2 fun (parts_3 : List Str) (w_4 : A16) => ⟨[(1, Pt 101 0), (3, .b (.row 108)), (4, Pt 103 0)], [(101, .box 25 (eBig x0)), (103, .box 23 (eW w_4)), (108, .row 9 1 (parts_3.map eS))]⟩) [1, 3, 4] [101, 103, 108] rfl ?_)))
   rintro ⟨parts_3, w_4⟩ o4 h5 hy6
   refine Tri.seq (Tri.block (Tri.seq (Tri.regionL ?_)))
   refine Oc (lp tyAgg23) ?_
   obtain ⟨⟨x_6, x_7⟩, e7, h5⟩ := bnd h5
   refine Oc (op_call0 (w_short_spec e7) goes134 rfl rfl) (Oc om (Oc (op_extract rfl rfl) (Oc (op_extract rfl rfl) ?_)))
   refine OpsL.keepS ⟨[(1, Pt 101 0), (3, .b (.row 108)), (4, Pt 103 0), (17, .b (.agg (eW x_6))), (18, .b (.one (.int .u32 x_7)))], [(101, .box 25 (eBig x0)), (103, .box 23 (eW w_4)), (108, .row 9 1 (parts_3.map eS))]⟩ rfl (Oc (op_alloc (k := 109) tyZero23 rfl) (Oc (op_store_p tyAgg23 rfl rfl rfl rfl (Nat.le_of_ble_eq_true rfl) rfl) (Oc oa ?_)))
   refine OpsL.nilS ⟨[(1, Pt 101 0), (3, .b (.row 108)), (4, Pt 103 0), (5, Pt 109 0), (6, .b (.one (.int .u32 x_7)))], [(101, .box 25 (eBig x0)), (103, .box 23 (eW w_4)), (108, .row 9 1 (parts_3.map eS)), (109, .box 23 (eW x_6))]⟩ rfl (Tri.seq (Tri.regionL ?_))
   refine Oc om (Oc (op_conv_wrap undi22 undi3 rfl) ?_)
   obtain ⟨x_8, e8, h5⟩ := bnd h5
   refine Oc (op_call0 (strconv_Itoa_spec e8) goes135 rfl rfl) (Oc oa ?_)
   refine OpsL.nilS ⟨[(1, Pt 101 0), (3, .b (.row 108)), (4, Pt 103 0), (5, Pt 109 0), (7, .b (.one (.str x_8)))], [(101, .box 25 (eBig x0)), (103, .box 23 (eW w_4)), (108, .row 9 1 (parts_3.map eS)), (109, .box 23 (eW x_6))]⟩ rfl (Tri.seq (Tri.seq (Tri.regionL ?_)))
   refine Oc (lp tyAgg23) (Oc (op_buildA tyBuild23 rfl rfl) (Oc (op_eql_agg (eqAgg23 x_6 A16.zero) rfl rfl) ?_))
   refine OpsL.nilS ⟨[(1, Pt 101 0), (3, .b (.row 108)), (4, Pt 103 0), (5, Pt 109 0), (7, .b (.one (.str x_8))), (24, B (decide (x_6 = A16.zero)))], [(101, .box 25 (eBig x0)), (103, .box 23 (eW w_4)), (108, .row 9 1 (parts_3.map eS)), (109, .box 23 (eW x_6))]⟩ rfl (Tri.ite h5 rfl (fun _ h5 => ?_) (fun _ h5 => ?_))
   ·refine Tri.seq (Tri.regionL ?_)
    refine Oc om (Oc om (Oc (op_buildSlice (k := 110) (es := [x_8].map eS) tySl111 rfl rfl (uni_map fun _ => rfl) rfl (by decide) (by decide) rfl) ?_))
    obtain ⟨x_9, e9, h5⟩ := bnd h5
    refine Oc (op_append_r tySl111 (app_b e9) (app_m e9) rfl rfl rfl rfl (app_map e9) rfl) (Oc oa ?_)
    refine OpsL.nilS ⟨[(1, Pt 101 0), (3, .b (.row 108))], [(101, .box 25 (eBig x0)), (108, .row 9 1 (x_9.map eS))]⟩ rfl (Tri.exit (Fin.then_exit (Fin.block_exit_other (by decide) (Fin.then_exit ?_))))
    obtain rfl := hy6 _ (Option.some.inj h5).symm
    refine Fin.then_exit (Fin.block_exit ?_)
    exact Fin.join [1, 3] [101, 108] x_9 rfl rfl
   ·refine Tri.skip (Fin.keepS ⟨[(1, Pt 101 0), (3, .b (.row 108)), (4, Pt 103 0), (5, Pt 109 0), (7, .b (.one (.str x_8)))], [(101, .box 25 (eBig x0)), (103, .box 23 (eW w_4)), (108, .row 9 1 (parts_3.map eS)), (109, .box 23 (eW x_6))]⟩ rfl (Fin.then (Tri.seq (Tri.regionL ?_))))
    refine Oc om (Oc om (Oc (op_len_str und9 rfl) ?_))
    refine OpsL.consI .i64 h5 rfl (op_sub rfl rfl) (fun x_10 h5 => ?_)
    refine OpsL.keepS ⟨[(1, Pt 101 0), (3, .b (.row 108)), (4, Pt 103 0), (5, Pt 109 0), (7, .b (.one (.str x_8))), (29, .b (.row 108)), (32, I x_10)], [(101, .box 25 (eBig x0)), (103, .box 23 (eW w_4)), (108, .row 9 1 (parts_3.map eS)), (109, .box 23 (eW x_6))]⟩ rfl ?_
    obtain ⟨x_11, e10, h5⟩ := bnd h5
    refine Oc (op_call0 (strings_Repeat_spec e10) goes136 rfl rfl) (Oc om ?_)
    obtain ⟨x_12, e11, h5⟩ := bnd h5
    refine Oc (op_add_str2 e11 rfl rfl) (Oc (op_buildSlice (k := 111) (es := [x_12].map eS) tySl111 rfl rfl (uni_map fun _ => rfl) rfl (by decide) (by decide) rfl) ?_)
    obtain ⟨x_13, e12, h5⟩ := bnd h5
    refine Oc (op_append_r tySl111 (app_b e12) (app_m e12) rfl rfl rfl rfl (app_map e12) rfl) (Oc oa ?_)
    refine OpsL.nilS ⟨[(1, Pt 101 0), (3, .b (.row 108)), (4, Pt 103 0), (5, Pt 109 0)], [(101, .box 25 (eBig x0)), (103, .box 23 (eW w_4)), (108, .row 9 1 (x_13.map eS)), (109, .box 23 (eW x_6))]⟩ rfl (Tri.regionL (Oc (lp tyAgg23) (Oc (op_store_p tyAgg23 rfl rfl rfl rfl (Nat.le_of_ble_eq_true rfl) rfl) ?_)))
    refine OpsL.nil (Fin.block_normal (Fin.keepS ⟨[(1, Pt 101 0), (3, .b (.row 108)), (4, Pt 103 0)], [(101, .box 25 (eBig x0)), (103, .box 23 (eW x_6)), (108, .row 9 1 (x_13.map eS))]⟩ rfl (Fin.then (Tri.seq (Tri.regionL ?_)))))
    refine Oc (lp tyAgg23) (OpsL.nilS ⟨[(1, Pt 101 0), (3, .b (.row 108)), (39, .b (.agg (eW x_6)))], [(101, .box 25 (eBig x0)), (108, .row 9 1 (x_13.map eS))]⟩ rfl (Tri.regionL (Oc (op_alloc (k := 112) tyZero23 rfl) (Oc (op_store_p tyAgg23 rfl rfl rfl rfl (Nat.le_of_ble_eq_true rfl) rfl) ?_))))
    refine OpsL.nil (Fin.keepS ⟨[(1, Pt 101 0), (3, .b (.row 108)), (4, Pt 112 0)], [(101, .box 25 (eBig x0)), (108, .row 9 1 (x_13.map eS)), (112, .box 23 (eW x_6))]⟩ rfl (Fin.rename 112 103 rfl (by decide) rfl ?_))
    exact Fin.againJ [1, 3, 4] [101, 103, 108] (x_13, x_6) (Option.some.inj h5) rfl
  ·rintro parts_2 hv
   subst v2
   obtain ⟨v13, h14, h⟩ := bnd h
   refine Tri.seqJ (v := v13) (fun (parts_14 : List Str) => ⟨[(3, .b (.row 108))], [(108, .row 9 1 (parts_14.map eS))]⟩) (fun z => z) ?_ ?_
   ·refine Tri.seq (Tri.regionL ?_)
    refine Oc (op_field_p tyFld25_1 rfl rfl) (Oc (op_load_p1 tyOne4 rfl rfl rfl) ?_)
    refine OpsL.nilS ⟨[(3, .b (.row 108)), (41, B x0.Neg)], [(108, .row 9 1 (parts_2.map eS))]⟩ rfl (Tri.ite h14 rfl (fun _ h14 => ?_) (fun _ h14 => ?_))
    ·refine Tri.regionL (Oc om (Oc (op_buildSlice (k := 113) (es := [[45]].map eS) tySl111 rfl rfl (uni_map fun _ => rfl) rfl (by decide) (by decide) rfl) ?_))
     obtain ⟨x_15, e15, h14⟩ := bnd h14
     refine Oc (op_append_r tySl111 (app_b e15) (app_m e15) rfl rfl rfl rfl (app_map e15) rfl) (Oc oa ?_)
     refine OpsL.nil ?_
     exact Fin.join [3] [108] x_15 (Option.some.inj h14) rfl
    ·refine Tri.skip ?_
     exact Fin.join [3] [108] parts_2 (Option.some.inj h14) rfl
   ·rintro parts_14 hv
    subst v13
    refine Tri.seq (Tri.regionL ?_)
    refine Oc om (OpsL.toF 108 rfl ?_)
    obtain ⟨x_16, e16, h⟩ := bnd h
    refine Oc (op_call (own_a := [(108, _)]) ((slices_Reverse_spec e16).sw 1 108) goes137 rfl ⟨rfl, trivial⟩ rfl rfl) (OpsL.unF 108 rfl (OpsL.nilS ⟨[(3, .b (.row 108))], [(108, .row 9 1 (x_16.map eS))]⟩ rfl (Tri.seq (Tri.regionL ?_))))
    refine Oc om ?_
    obtain ⟨x_17, e17, h⟩ := bnd h
    refine Oc (op_callB (strings_Join_spec e17) goes138 rfl CP.flat_str) (Oc oa ?_)
    refine OpsL.nilS ⟨[(2, .b (.one (.str x_17)))], []⟩ rfl (Tri.ret ?_)
    obtain rfl := Option.some.inj h
    refine Fin.keepS ⟨[(2, .b (.one (.str x_17)))], []⟩ rfl (Fin.result' [.one (.str x_17)] (.inl rfl) rfl (.cons (.tmp rfl) .nil) ⟨rfl, rfl⟩)
def q_Text_S (F : Nat) (x0 : Frc) : Option Str :=
 (q_Good_S F x0).bind fun x_1 => if (!x_1) = true then (some []) else ((q_one_S F).bind fun x_2 => if (decide (x0.D = x_2)) = true then ((w_Text_S F x0.N).bind fun x_3 => some x_3) else ((w_Text_S F x0.N).bind fun x_4 => (app? x_4 [47]).bind fun x_5 => (w_Text_S F x0.D).bind fun x_6 => (app? x_5 x_6).bind fun x_7 => some x_7))
theorem q_Text_spec {F : Nat} {x0 : Frc} {r : Str} (h : q_Text_S F x0 = some r) : Meets Tryz.prog (tabs mx) 54 [] [.agg (eFrc x0)] (Is [] (.b (.one (.str r)))) := by
 unfold q_Text_S at h
 refine Meets.intro 23 Tryz.func54 Tryz.ntmps54 rfl (by simp) fun E => ?_
 show Tri _ E ⟨23, [], []⟩ _ ⟨[(0, .b (.agg (eFrc x0)))], []⟩ _
 refine Tri.seq (Tri.regionL ?_)
 refine Oc (op_box (k := 101) rfl rfl) (Oc oa ?_)
 refine OpsL.nilS ⟨[(1, Pt 101 0)], [(101, .box 27 (eFrc x0))]⟩ rfl (Tri.seq (Tri.block (Tri.seq (Tri.regionL ?_))))
 refine Oc (lp tyAgg27) ?_
 obtain ⟨x_1, e1, h⟩ := bnd h
 refine Oc (op_call0 (q_Good_spec e1) goes26 rfl rfl) (Oc (op_not rfl) (Oc oa ?_))
 refine OpsL.nilS ⟨[(1, Pt 101 0), (3, B (!x_1))], [(101, .box 27 (eFrc x0))]⟩ rfl (Tri.ite h rfl (fun _ h => ?_) (fun _ h => ?_))
 ·refine Tri.seq (Tri.regionL ?_)
  refine Oc oa (OpsL.nilS ⟨[(2, .b (.one (.str [])))], []⟩ rfl (Tri.ret (Fin.block_ret (Fin.then_ret ?_))))
  obtain rfl := Option.some.inj h
  refine Fin.keepS ⟨[(2, .b (.one (.str [])))], []⟩ rfl (Fin.result' [.one (.str [])] (.inl rfl) rfl (.cons (.tmp rfl) .nil) ⟨rfl, rfl⟩)
 ·refine Tri.seq (Tri.keepS ⟨[(1, Pt 101 0)], [(101, .box 27 (eFrc x0))]⟩ rfl ?_)
  obtain ⟨x_2, e2, h⟩ := bnd h
  refine Tri.regionY mixed 5 [Pt 101 18, .b (.agg (eBig x0.D)), .b (.agg (eBig x_2)), B (decide (x0.D = x_2)), B (decide (x0.D = x_2))] [1, 7] [101] (s' := ⟨[(1, Pt 101 0), (7, B (decide (x0.D = x_2)))], [(101, .box 27 (eFrc x0))]⟩) rfl ⟨fun _ => .p (op_field_p tyFld27_1 rfl rfl), fun _ => .p (lp tyAgg25), fun _ => .p (op_call0 (q_one_spec e2) goes90 rfl rfl), fun _ => .p (op_eql_agg (eqAgg25 x0.D x_2) rfl rfl), fun _ => .p oa, trivial⟩ rfl rfl (Tri.ite h rfl (fun _ h => ?_) (fun _ h => ?_))
  ·refine Tri.seq (Tri.regionL ?_)
   refine Oc (op_field_p tyFld27_0 rfl rfl) (Oc (lp tyAgg25) ?_)
   obtain ⟨x_3, e3, h⟩ := bnd h
   refine Oc (op_call0 (w_Text_spec e3) goes109 rfl rfl) (Oc oa ?_)
   refine OpsL.nilS ⟨[(2, .b (.one (.str x_3)))], []⟩ rfl (Tri.ret (Fin.block_ret (Fin.then_ret ?_)))
   obtain rfl := Option.some.inj h
   refine Fin.keepS ⟨[(2, .b (.one (.str x_3)))], []⟩ rfl (Fin.result' [.one (.str x_3)] (.inl rfl) rfl (.cons (.tmp rfl) .nil) ⟨rfl, rfl⟩)
  ·refine Tri.skip (Fin.block_normal (Fin.keepS ⟨[(1, Pt 101 0)], [(101, .box 27 (eFrc x0))]⟩ rfl (Fin.then (Tri.seq ?_))))
   refine Tri.keepS ⟨[(1, Pt 101 0)], [(101, .box 27 (eFrc x0))]⟩ rfl ?_
   obtain ⟨x_4, e4, h⟩ := bnd h
   obtain ⟨x_5, e5, h⟩ := bnd h
   obtain ⟨x_6, e6, h⟩ := bnd h
   obtain ⟨x_7, e7, h⟩ := bnd h
   refine Tri.regionY mixed 9 [Pt 101 0, .b (.agg (eBig x0.N)), .b (.one (.str x_4)), .b (.one (.str x_5)), Pt 101 18, .b (.agg (eBig x0.D)), .b (.one (.str x_6)), .b (.one (.str x_7)), .b (.one (.str x_7))] [2] [] (s' := ⟨[(2, .b (.one (.str x_7)))], []⟩) rfl ⟨fun _ => .p (op_field_p tyFld27_0 rfl rfl), fun _ => .p (lp tyAgg25), fun _ => .p (op_call0 (w_Text_spec e4) goes109 rfl rfl), fun _ => .p (op_add_str2 e5 rfl rfl), fun _ => .p (op_field_p tyFld27_1 rfl rfl), fun _ => .p (lp tyAgg25), fun _ => .p (op_call0 (w_Text_spec e6) goes109 rfl rfl), fun _ => .p (op_add_str2 e7 rfl rfl), fun _ => .p oa, trivial⟩ rfl rfl (Tri.ret ?_)
   obtain rfl := Option.some.inj h
   refine Fin.keepS ⟨[(2, .b (.one (.str x_7)))], []⟩ rfl (Fin.result' [.one (.str x_7)] (.inl rfl) rfl (.cons (.tmp rfl) .nil) ⟨rfl, rfl⟩)
def l4_text_S (F : Nat) (x0 : Frc) (s0 : Str) : Option Bool :=
 (q_Text_S F x0).bind fun x_1 => some (decide (x_1 = s0))
theorem l4_text_spec {F : Nat} {x0 : Frc} {s0 : Str} {r : Bool} (h : l4_text_S F x0 s0 = some r) : Meets Tryz.prog (tabs mx) 87 [] [.agg (eFrc x0), .one (.str s0)] (Is [] (.b (.one (.bool r)))) := by
 unfold l4_text_S at h
 refine Meets.intro 9 Tryz.func87 Tryz.ntmps87 rfl (by simp) fun E => ?_
 show Tri _ E ⟨9, [], []⟩ _ ⟨[(0, .b (.agg (eFrc x0))), (1, .b (.one (.str s0)))], []⟩ _
 refine Tri.seq (Tri.regionL ?_)
 refine Oc (op_box (k := 101) rfl rfl) (Oc oa ?_)
 refine OpsL.nilS ⟨[(1, .b (.one (.str s0))), (2, Pt 101 0)], [(101, .box 27 (eFrc x0))]⟩ rfl (Tri.seq (Tri.regionL ?_))
 refine Oc (lp tyAgg27) ?_
 obtain ⟨x_1, e1, h⟩ := bnd h
 refine Oc (op_call0 (q_Text_spec e1) goes54 rfl rfl) (Oc om (Oc (op_eql_str rfl rfl) (Oc oa ?_)))
 refine OpsL.nilS ⟨[(4, B (decide (x_1 = s0)))], []⟩ rfl (Tri.ret ?_)
 obtain rfl := Option.some.inj h
 refine Fin.keepS ⟨[(4, B (decide (x_1 = s0)))], []⟩ rfl (Fin.result' [.one (.bool (decide (x_1 = s0)))] (.inl rfl) rfl (.cons (.tmp rfl) .nil) ⟨rfl, rfl⟩)
def w_Mul_S (F : Nat) (a0 : Big) (b0 : Big) : Option Big :=
 (w_good_S F [a0, b0]).bind fun x_1 => if (!x_1) = true then ((w_Bad_S F).bind fun x_2 => some x_2) else ((w_size_S F a0.W).bind fun x_3 => (w_size_S F b0.W).bind fun x_4 => Option.bind (iter F (un2 fun out_6 x_7 => if (decide (x_7 < x_3)) = true then (Option.bind (Option.bind (iter F (un3 fun out_12 carry_13 x_14 => if (decide (x_14 < x_4)) = true then ((idx? a0.W.l x_7).bind fun x_17 => (idx? b0.W.l x_14).bind fun x_18 => (idx? out_12.l (IntKind.i64.wrap (x_7 + x_14))).bind fun x_19 => letN (IntKind.u64.wrap (carry_13 + (IntKind.u64.wrap ((IntKind.u64.wrap ((IntKind.u64.wrap x_17) * (IntKind.u64.wrap x_18))) + (IntKind.u64.wrap x_19))))) fun x_20 => (idx? out_12.l (IntKind.i64.wrap (x_7 + x_14))).bind fun x_21 => letN (IntKind.u64.wrap (carry_13 + (IntKind.u64.wrap ((IntKind.u64.wrap ((IntKind.u64.wrap x_17) * (IntKind.u64.wrap x_18))) + (IntKind.u64.wrap x_19))))) fun x_22 => some (.inl (out_12.set (IntKind.i64.wrap (x_7 + x_14)) (IntKind.u32.wrap x_20), x_22 / 4294967296, IntKind.i64.wrap (x_14 + 1)))) else (some (.inr (out_12, carry_13)))) (out_6, 0, 0)) (un2 fun out_10 carry_11 => (idx? out_10.l (IntKind.i64.wrap (x_7 + x_4))).bind fun x_23 => some (out_10.set (IntKind.i64.wrap (x_7 + x_4)) (IntKind.u32.wrap carry_11)))) (fun out_9 => some (.inl (out_9, IntKind.i64.wrap (x_7 + 1))))) else (some (.inr out_6))) (A32.zero, 0)) (fun out_5 => letN (⟨out_5.a16, out_5.a17, out_5.a18, out_5.a19, out_5.a20, out_5.a21, out_5.a22, out_5.a23, out_5.a24, out_5.a25, out_5.a26, out_5.a27, out_5.a28, out_5.a29, out_5.a30, out_5.a31⟩ : A16) fun x_24 => if (decide (x_24 ≠ A16.zero)) = true then ((w_Bad_S F).bind fun x_25 => some x_25) else ((w_signed_S F (a0.Neg != b0.Neg) (⟨out_5.a0, out_5.a1, out_5.a2, out_5.a3, out_5.a4, out_5.a5, out_5.a6, out_5.a7, out_5.a8, out_5.a9, out_5.a10, out_5.a11, out_5.a12, out_5.a13, out_5.a14, out_5.a15⟩ : A16)).bind fun x_26 => some x_26)))
theorem w_Mul_spec {F : Nat} {a0 : Big} {b0 : Big} {r : Big} (h : w_Mul_S F a0 b0 = some r) : Meets Tryz.prog (tabs mx) 102 [] [.agg (eBig a0), .agg (eBig b0)] (Is [] (.b (.agg (eBig r)))) := by
 unfold w_Mul_S at h
 refine Meets.intro 82 Tryz.func102 Tryz.ntmps102 rfl (by simp) fun E => ?_
 show Tri _ E ⟨82, [], []⟩ _ ⟨[(0, .b (.agg (eBig a0))), (1, .b (.agg (eBig b0)))], []⟩ _
 refine Tri.seq (Tri.regionL ?_)
 refine Oc (op_box (k := 101) rfl rfl) (Oc (op_box (k := 102) rfl rfl) (Oc (op_alloc (k := 103) tyZero25 rfl) ?_))
 refine OpsL.nilS ⟨[(2, Pt 101 0), (3, Pt 102 0), (4, Pt 103 0)], [(101, .box 25 (eBig a0)), (102, .box 25 (eBig b0)), (103, .box 25 zBig)]⟩ rfl (Tri.seq (Tri.seq (Tri.regionL ?_)))
 refine Oc (lp tyAgg25) (Oc (lp tyAgg25) (Oc (op_buildSlice (k := 104) (es := [a0, b0].map eBig) tySl117 rfl rfl (uni_map fun _ => rfl) rfl (by decide) (by decide) rfl) ?_))
 obtain ⟨x_1, e1, h⟩ := bnd h
 refine Oc (op_callB (w_good_spec e1) goes113 rfl CP.flat_bool) (Oc (op_not rfl) ?_)
 refine OpsL.nilS ⟨[(2, Pt 101 0), (3, Pt 102 0), (4, Pt 103 0), (15, B (!x_1))], [(101, .box 25 (eBig a0)), (102, .box 25 (eBig b0)), (103, .box 25 zBig)]⟩ rfl (Tri.ite h rfl (fun _ h => ?_) (fun _ h => ?_))
 ·refine Tri.seq (Tri.regionL ?_)
  obtain ⟨x_2, e2, h⟩ := bnd h
  refine Oc (op_call0 (w_Bad_spec e2) goes92 rfl rfl) (Oc (op_store_p tyAgg25 rfl rfl rfl rfl (Nat.le_of_ble_eq_true rfl) rfl) ?_)
  refine OpsL.nilS ⟨[(4, Pt 103 0)], [(103, .box 25 (eBig x_2))]⟩ rfl (Tri.ret (Fin.then_ret ?_))
  obtain rfl := Option.some.inj h
  refine Fin.keepS ⟨[(4, Pt 103 0)], [(103, .box 25 (eBig x_2))]⟩ rfl (Fin.result' [.agg (eBig x_2)] (.inl rfl) rfl (.cons (.agg tyAgg25 rfl rfl rfl rfl) .nil) ⟨rfl, rfl⟩)
 ·refine Tri.skip (Fin.keepS ⟨[(2, Pt 101 0), (3, Pt 102 0), (4, Pt 103 0)], [(101, .box 25 (eBig a0)), (102, .box 25 (eBig b0)), (103, .box 25 zBig)]⟩ rfl (Fin.then (Tri.seq (Tri.regionL ?_))))
  refine Oc (op_alloc (k := 105) tyZero109 rfl) (OpsL.nilS ⟨[(2, Pt 101 0), (3, Pt 102 0), (4, Pt 103 0), (5, Pt 105 0)], [(101, .box 25 (eBig a0)), (102, .box 25 (eBig b0)), (103, .box 25 zBig), (105, .box 109 ((eA32 .u32) A32.zero))]⟩ rfl (Tri.seq ?_))
  obtain ⟨x_3, e3, h⟩ := bnd h
  obtain ⟨x_4, e4, h⟩ := bnd h
  refine Tri.regionY mixed 8 [Pt 101 2, .b (.agg (eW a0.W)), I x_3, Pt 102 2, .b (.agg (eW b0.W)), I x_4, I x_3, I x_4] [2, 3, 4, 5, 6, 7] [101, 102, 103, 105] (s' := ⟨[(2, Pt 101 0), (3, Pt 102 0), (4, Pt 103 0), (5, Pt 105 0), (6, I x_3), (7, I x_4)], [(101, .box 25 (eBig a0)), (102, .box 25 (eBig b0)), (103, .box 25 zBig), (105, .box 109 ((eA32 .u32) A32.zero))]⟩) rfl ⟨fun _ => .p (op_field_p tyFld25_2 rfl rfl), fun _ => .p (lp tyAgg23), fun _ => .p (op_call0 (w_size_spec e3) goes114 rfl rfl), fun _ => .p (op_field_p tyFld25_2 rfl rfl), fun _ => .p (lp tyAgg23), fun _ => .p (op_call0 (w_size_spec e4) goes114 rfl rfl), fun _ => .p oa, fun _ => .p oa, trivial⟩ rfl rfl ?_
  obtain ⟨v5, h6, h⟩ := bnd h
  refine Tri.seqJ (v := v5) (fun (out_5 : A32) => ⟨[(2, Pt 101 0), (3, Pt 102 0), (4, Pt 103 0), (5, Pt 105 0)], [(101, .box 25 (eBig a0)), (102, .box 25 (eBig b0)), (103, .box 25 zBig), (105, .box 109 ((eA32 .u32) out_5))]⟩) (fun z => z) ?_ ?_
  ·refine Tri.seq (Tri.regionL ?_)
   refine Oc om (Oc om ?_)
   refine OpsL.nilS ⟨[(2, Pt 101 0), (3, Pt 102 0), (4, Pt 103 0), (5, Pt 105 0), (7, I x_4), (23, I x_3), (24, I 0)], [(101, .box 25 (eBig a0)), (102, .box 25 (eBig b0)), (103, .box 25 zBig), (105, .box 109 ((eA32 .u32) A32.zero))]⟩ rfl (Tri.block (Tri.loopJ h6 (un2 fun (out_6 : A32) (x_7 : Int) => ⟨[(2, Pt 101 0), (3, Pt 102 0), (4, Pt 103 0), (5, Pt 105 0), (7, I x_4), (23, I x_3), (24, I x_7)], [(101, .box 25 (eBig a0)), (102, .box 25 (eBig b0)), (103, .box 25 zBig), (105, .box 109 ((eA32 .u32) out_6))]⟩) [2, 3, 4, 5, 7, 23, 24] [101, 102, 103, 105] rfl ?_))
   rintro ⟨out_6, x_7⟩ o7 h8 hy9
   refine Tri.seq (Tri.regionL ?_)
   refine Oc (op_lss rfl rfl) (OpsL.nilS ⟨[(2, Pt 101 0), (3, Pt 102 0), (4, Pt 103 0), (5, Pt 105 0), (7, I x_4), (23, I x_3), (24, I x_7), (25, B (decide (x_7 < x_3)))], [(101, .box 25 (eBig a0)), (102, .box 25 (eBig b0)), (103, .box 25 zBig), (105, .box 109 ((eA32 .u32) out_6))]⟩ rfl (Tri.seq (Tri.ite h8 rfl (fun _ h8 => ?_) (fun _ h8 => ?_))))
   ·refine Tri.skip (Fin.keepS ⟨[(2, Pt 101 0), (3, Pt 102 0), (4, Pt 103 0), (5, Pt 105 0), (7, I x_4), (23, I x_3), (24, I x_7)], [(101, .box 25 (eBig a0)), (102, .box 25 (eBig b0)), (103, .box 25 zBig), (105, .box 109 ((eA32 .u32) out_6))]⟩ rfl (Fin.then ?_))
    obtain ⟨v10, h11, h8⟩ := bnd h8
    refine Tri.seqJ (v := v10) (fun (out_9 : A32) => ⟨[(2, Pt 101 0), (3, Pt 102 0), (4, Pt 103 0), (5, Pt 105 0), (7, I x_4), (23, I x_3), (24, I x_7)], [(101, .box 25 (eBig a0)), (102, .box 25 (eBig b0)), (103, .box 25 zBig), (105, .box 109 ((eA32 .u32) out_9))]⟩) (fun z => z) ?_ ?_
    ·refine Tri.block (Tri.seq (Tri.regionL ?_))
     refine Oc om (Oc oa ?_)
     refine OpsL.nilS ⟨[(2, Pt 101 0), (3, Pt 102 0), (4, Pt 103 0), (5, Pt 105 0), (7, I x_4), (8, I x_7), (23, I x_3), (24, I x_7)], [(101, .box 25 (eBig a0)), (102, .box 25 (eBig b0)), (103, .box 25 zBig), (105, .box 109 ((eA32 .u32) out_6))]⟩ rfl (Tri.seq (Tri.regionL ?_))
     refine Oc oa (OpsL.nilS ⟨[(2, Pt 101 0), (3, Pt 102 0), (4, Pt 103 0), (5, Pt 105 0), (7, I x_4), (8, I x_7), (9, .b (.one (.int .u64 0))), (23, I x_3), (24, I x_7)], [(101, .box 25 (eBig a0)), (102, .box 25 (eBig b0)), (103, .box 25 zBig), (105, .box 109 ((eA32 .u32) out_6))]⟩ rfl ?_)
     obtain ⟨v12, h13, h11⟩ := bnd h11
     refine Tri.seqJ (v := v12) (un2 fun (out_10 : A32) (carry_11 : Int) => ⟨[(2, Pt 101 0), (3, Pt 102 0), (4, Pt 103 0), (5, Pt 105 0), (7, I x_4), (8, I x_7), (9, .b (.one (.int .u64 carry_11))), (23, I x_3), (24, I x_7)], [(101, .box 25 (eBig a0)), (102, .box 25 (eBig b0)), (103, .box 25 zBig), (105, .box 109 ((eA32 .u32) out_10))]⟩) (fun z => z) ?_ ?_
     ·refine Tri.seq (Tri.regionL ?_)
      refine Oc om (Oc om ?_)
      refine OpsL.nilS ⟨[(2, Pt 101 0), (3, Pt 102 0), (4, Pt 103 0), (5, Pt 105 0), (7, I x_4), (8, I x_7), (9, .b (.one (.int .u64 0))), (23, I x_3), (24, I x_7), (27, I x_4), (28, I 0)], [(101, .box 25 (eBig a0)), (102, .box 25 (eBig b0)), (103, .box 25 zBig), (105, .box 109 ((eA32 .u32) out_6))]⟩ rfl (Tri.block (Tri.loopJ h13 (un3 fun (out_12 : A32) (carry_13 : Int) (x_14 : Int) => ⟨[(2, Pt 101 0), (3, Pt 102 0), (4, Pt 103 0), (5, Pt 105 0), (7, I x_4), (8, I x_7), (9, .b (.one (.int .u64 carry_13))), (23, I x_3), (24, I x_7), (27, I x_4), (28, I x_14)], [(101, .box 25 (eBig a0)), (102, .box 25 (eBig b0)), (103, .box 25 zBig), (105, .box 109 ((eA32 .u32) out_12))]⟩) [2, 3, 4, 5, 7, 8, 9, 23, 24, 27, 28] [101, 102, 103, 105] rfl ?_))
      rintro ⟨out_12, carry_13, x_14⟩ o14 h15 hy16
      refine Tri.seq (Tri.regionL ?_)
      refine Oc (op_lss rfl rfl) (OpsL.nilS ⟨[(2, Pt 101 0), (3, Pt 102 0), (4, Pt 103 0), (5, Pt 105 0), (7, I x_4), (8, I x_7), (9, .b (.one (.int .u64 carry_13))), (23, I x_3), (24, I x_7), (27, I x_4), (28, I x_14), (29, B (decide (x_14 < x_4)))], [(101, .box 25 (eBig a0)), (102, .box 25 (eBig b0)), (103, .box 25 zBig), (105, .box 109 ((eA32 .u32) out_12))]⟩ rfl (Tri.seq (Tri.ite h15 rfl (fun _ h15 => ?_) (fun _ h15 => ?_))))
      ·refine Tri.skip (Fin.keepS ⟨[(2, Pt 101 0), (3, Pt 102 0), (4, Pt 103 0), (5, Pt 105 0), (7, I x_4), (8, I x_7), (9, .b (.one (.int .u64 carry_13))), (23, I x_3), (24, I x_7), (27, I x_4), (28, I x_14)], [(101, .box 25 (eBig a0)), (102, .box 25 (eBig b0)), (103, .box 25 zBig), (105, .box 109 ((eA32 .u32) out_12))]⟩ rfl (Fin.then (Tri.seq (Tri.block (Tri.seq (Tri.regionL ?_))))))
       refine Oc om (Oc oa ?_)
       refine OpsL.nilS ⟨[(2, Pt 101 0), (3, Pt 102 0), (4, Pt 103 0), (5, Pt 105 0), (7, I x_4), (8, I x_7), (9, .b (.one (.int .u64 carry_13))), (10, I x_14), (23, I x_3), (24, I x_7), (27, I x_4), (28, I x_14)], [(101, .box 25 (eBig a0)), (102, .box 25 (eBig b0)), (103, .box 25 zBig), (105, .box 109 ((eA32 .u32) out_12))]⟩ rfl (Tri.seq ?_)
       obtain ⟨x_17, e17, h15⟩ := bnd h15
       obtain ⟨x_18, e18, h15⟩ := bnd h15
       obtain ⟨x_19, e19, h15⟩ := bnd h15
       refine Tri.regionY mixed 20 [.b (.one (.int .u64 carry_13)), I x_7, Pt 101 2, .b (.ptr 101 (2 + (x_7 : Int).toNat * 1)), .b (.one (.int .u32 x_17)), .b (.one (.int .u64 (IntKind.u64.wrap x_17))), I x_14, Pt 102 2, .b (.ptr 102 (2 + (x_14 : Int).toNat * 1)), .b (.one (.int .u32 x_18)), .b (.one (.int .u64 (IntKind.u64.wrap x_18))), .b (.one (.int .u64 (IntKind.u64.wrap ((IntKind.u64.wrap x_17) * (IntKind.u64.wrap x_18))))), I x_7, I x_14, I (IntKind.i64.wrap (x_7 + x_14)), .b (.ptr 105 (0 + (IntKind.i64.wrap (x_7 + x_14) : Int).toNat * 1)), .b (.one (.int .u32 x_19)), .b (.one (.int .u64 (IntKind.u64.wrap x_19))), .b (.one (.int .u64 (IntKind.u64.wrap ((IntKind.u64.wrap ((IntKind.u64.wrap x_17) * (IntKind.u64.wrap x_18))) + (IntKind.u64.wrap x_19))))), .b (.one (.int .u64 (IntKind.u64.wrap (carry_13 + (IntKind.u64.wrap ((IntKind.u64.wrap ((IntKind.u64.wrap x_17) * (IntKind.u64.wrap x_18))) + (IntKind.u64.wrap x_19)))))))] [2, 3, 4, 5, 7, 8, 9, 10, 23, 24, 27, 28] [101, 102, 103, 105] (s' := ⟨[(2, Pt 101 0), (3, Pt 102 0), (4, Pt 103 0), (5, Pt 105 0), (7, I x_4), (8, I x_7), (9, .b (.one (.int .u64 (IntKind.u64.wrap (carry_13 + (IntKind.u64.wrap ((IntKind.u64.wrap ((IntKind.u64.wrap x_17) * (IntKind.u64.wrap x_18))) + (IntKind.u64.wrap x_19)))))))), (10, I x_14), (23, I x_3), (24, I x_7), (27, I x_4), (28, I x_14)], [(101, .box 25 (eBig a0)), (102, .box 25 (eBig b0)), (103, .box 25 zBig), (105, .box 109 ((eA32 .u32) out_12))]⟩) rfl ⟨fun _ => .p om, fun _ => .p om, fun _ => .p (op_field_p tyFld25_2 rfl rfl), fun _ => .p (op_index_p tyArr23 (ix_lo e17) (ix_hi e17) rfl rfl rfl), fun _ => .p (op_load_p1 tyOne22 rfl rfl (arr_get (post := []) (k := .u32) [.bool a0.Bad, .bool a0.Neg] e17 rfl rfl rfl)), fun _ => .p (op_conv_wrap undi22 undi79 rfl), fun _ => .p om, fun _ => .p (op_field_p tyFld25_2 rfl rfl), fun _ => .p (op_index_p tyArr23 (ix_lo e18) (ix_hi e18) rfl rfl rfl), fun _ => .p (op_load_p1 tyOne22 rfl rfl (arr_get (post := []) (k := .u32) [.bool b0.Bad, .bool b0.Neg] e18 rfl rfl rfl)), fun _ => .p (op_conv_wrap undi22 undi79 rfl), fun _ => .p (op_mul rfl rfl), fun _ => .p om, fun _ => .p om, fun _ => .p (op_add rfl rfl), fun _ => .p (op_index_p tyArr109 (ix_lo e19) (ix_hi e19) rfl rfl rfl), fun _ => .p (op_load_p1 tyOne22 rfl rfl (arr_get (post := []) (k := .u32) [] e19 rfl rfl rfl)), fun _ => .p (op_conv_wrap undi22 undi79 rfl), fun _ => .p (op_add rfl rfl), fun _ => .p (op_add rfl rfl), trivial⟩ ⟨_, by exact .p oa, rfl⟩ rfl (Tri.seq (Tri.regionL ?_))
       refine Oc om (Oc om (Oc (op_add rfl rfl) ?_))
       refine OpsL.consI .u64 h15 rfl om (fun x_20 h15 => ?_)
       refine Oc (op_conv_wrap undi79 undi22 rfl) ?_
       obtain ⟨x_21, e20, h15⟩ := bnd h15
       refine Oc (op_index_p tyArr109 (ix_lo e20) (ix_hi e20) rfl rfl rfl) (Oc (op_store_p1 tyOne22 rfl rfl rfl (arr_lt (post := []) (k := .u32) [] e20 rfl rfl rfl) (arr_set (post := []) (k := .u32) [] e20 rfl rfl (A32.set_l out_12 (IntKind.i64.wrap (x_7 + x_14)) (IntKind.u32.wrap x_20)) rfl rfl)) ?_)
       refine OpsL.nilS ⟨[(2, Pt 101 0), (3, Pt 102 0), (4, Pt 103 0), (5, Pt 105 0), (7, I x_4), (8, I x_7), (9, .b (.one (.int .u64 (IntKind.u64.wrap (carry_13 + (IntKind.u64.wrap ((IntKind.u64.wrap ((IntKind.u64.wrap x_17) * (IntKind.u64.wrap x_18))) + (IntKind.u64.wrap x_19)))))))), (23, I x_3), (24, I x_7), (27, I x_4), (28, I x_14)], [(101, .box 25 (eBig a0)), (102, .box 25 (eBig b0)), (103, .box 25 zBig), (105, .box 109 ((eA32 .u32) (out_12.set (IntKind.i64.wrap (x_7 + x_14)) (IntKind.u32.wrap x_20))))]⟩ rfl (Tri.regionL (OpsL.consI .u64 h15 rfl om (fun x_22 h15 => ?_)))
       refine Oc (op_shr2 (m := 32) (by decide) rfl rfl rfl) (Oc oa ?_)
       refine OpsL.nil (Fin.block_normal (Fin.keepS ⟨[(2, Pt 101 0), (3, Pt 102 0), (4, Pt 103 0), (5, Pt 105 0), (7, I x_4), (8, I x_7), (9, .b (.one (.int .u64 (x_22 / 4294967296)))), (23, I x_3), (24, I x_7), (27, I x_4), (28, I x_14)], [(101, .box 25 (eBig a0)), (102, .box 25 (eBig b0)), (103, .box 25 zBig), (105, .box 109 ((eA32 .u32) (out_12.set (IntKind.i64.wrap (x_7 + x_14)) (IntKind.u32.wrap x_20))))]⟩ rfl (Fin.then (Tri.regionL ?_))))
       refine Oc (op_add rfl rfl) (Oc om ?_)
       refine OpsL.nil ?_
       exact Fin.againJ [2, 3, 4, 5, 7, 8, 9, 23, 24, 27, 28] [101, 102, 103, 105] (out_12.set (IntKind.i64.wrap (x_7 + x_14)) (IntKind.u32.wrap x_20), x_22 / 4294967296, IntKind.i64.wrap (x_14 + 1)) (Option.some.inj h15) rfl
      ·refine Tri.exit (Fin.then_exit ?_)
       obtain rfl := hy16 _ (Option.some.inj h15).symm
       refine Fin.then_exit (Fin.block_exit ?_)
       exact Fin.join [2, 3, 4, 5, 7, 8, 9, 23, 24] [101, 102, 103, 105] (out_12, carry_13) rfl rfl
     ·rintro ⟨out_10, carry_11⟩ hv
      subst v12
      refine Tri.regionL (Oc om (Oc om (Oc (op_add rfl rfl) (Oc om (Oc (op_conv_wrap undi79 undi22 rfl) ?_)))))
      obtain ⟨x_23, e21, h11⟩ := bnd h11
      refine Oc (op_index_p tyArr109 (ix_lo e21) (ix_hi e21) rfl rfl rfl) (Oc (op_store_p1 tyOne22 rfl rfl rfl (arr_lt (post := []) (k := .u32) [] e21 rfl rfl rfl) (arr_set (post := []) (k := .u32) [] e21 rfl rfl (A32.set_l out_10 (IntKind.i64.wrap (x_7 + x_4)) (IntKind.u32.wrap carry_11)) rfl rfl)) ?_)
      refine OpsL.nil (Fin.block_normal ?_)
      exact Fin.join [2, 3, 4, 5, 7, 23, 24] [101, 102, 103, 105] (out_10.set (IntKind.i64.wrap (x_7 + x_4)) (IntKind.u32.wrap carry_11)) (Option.some.inj h11) rfl
    ·rintro out_9 hv
     subst v10
     refine Tri.regionL (Oc (op_add rfl rfl) (Oc om ?_))
     refine OpsL.nil ?_
     exact Fin.againJ [2, 3, 4, 5, 7, 23, 24] [101, 102, 103, 105] (out_9, IntKind.i64.wrap (x_7 + 1)) (Option.some.inj h8) rfl
   ·refine Tri.exit (Fin.then_exit ?_)
    obtain rfl := hy9 _ (Option.some.inj h8).symm
    refine Fin.then_exit (Fin.block_exit ?_)
    exact Fin.join [2, 3, 4, 5] [101, 102, 103, 105] out_6 rfl rfl
  ·rintro out_5 hv
   subst v5
   refine Tri.seq (Tri.seq (Tri.regionL ?_))
   refine Oc (op_slice_al (i := 16) tyArr109 (by decide) (by decide) rfl rfl) (Oc (op_toArr tyArr23 (by decide) rfl) ?_)
   refine OpsL.consA eW h rfl (lp tyAgg23) (fun x_24 h => ?_)
   refine Oc (op_buildA tyBuild23 rfl rfl) (Oc (op_neq_agg (eqAgg23 x_24 A16.zero) rfl rfl neg_dec) ?_)
   refine OpsL.nilS ⟨[(2, Pt 101 0), (3, Pt 102 0), (4, Pt 103 0), (5, Pt 105 0), (71, B (decide (x_24 ≠ A16.zero)))], [(101, .box 25 (eBig a0)), (102, .box 25 (eBig b0)), (103, .box 25 zBig), (105, .box 109 ((eA32 .u32) out_5))]⟩ rfl (Tri.ite h rfl (fun _ h => ?_) (fun _ h => ?_))
   ·refine Tri.seq (Tri.regionL ?_)
    obtain ⟨x_25, e22, h⟩ := bnd h
    refine Oc (op_call0 (w_Bad_spec e22) goes92 rfl rfl) (Oc (op_store_p tyAgg25 rfl rfl rfl rfl (Nat.le_of_ble_eq_true rfl) rfl) ?_)
    refine OpsL.nilS ⟨[(4, Pt 103 0)], [(103, .box 25 (eBig x_25))]⟩ rfl (Tri.ret (Fin.then_ret ?_))
    obtain rfl := Option.some.inj h
    refine Fin.keepS ⟨[(4, Pt 103 0)], [(103, .box 25 (eBig x_25))]⟩ rfl (Fin.result' [.agg (eBig x_25)] (.inl rfl) rfl (.cons (.agg tyAgg25 rfl rfl rfl rfl) .nil) ⟨rfl, rfl⟩)
   ·refine Tri.skip (Fin.keepS ⟨[(2, Pt 101 0), (3, Pt 102 0), (4, Pt 103 0), (5, Pt 105 0)], [(101, .box 25 (eBig a0)), (102, .box 25 (eBig b0)), (103, .box 25 zBig), (105, .box 109 ((eA32 .u32) out_5))]⟩ rfl (Fin.then (Tri.seq ?_)))
    refine Tri.keepS ⟨[(2, Pt 101 0), (3, Pt 102 0), (4, Pt 103 0), (5, Pt 105 0)], [(101, .box 25 (eBig a0)), (102, .box 25 (eBig b0)), (103, .box 25 zBig), (105, .box 109 ((eA32 .u32) out_5))]⟩ rfl ?_
    obtain ⟨x_26, e23, h⟩ := bnd h
    refine Tri.regionY mixed 9 [Pt 101 1, B a0.Neg, Pt 102 1, B b0.Neg, B (a0.Neg != b0.Neg), .b (.psl 105 0 16 32), Pt 105 0, .b (.agg [.int .u32 out_5.a0, .int .u32 out_5.a1, .int .u32 out_5.a2, .int .u32 out_5.a3, .int .u32 out_5.a4, .int .u32 out_5.a5, .int .u32 out_5.a6, .int .u32 out_5.a7, .int .u32 out_5.a8, .int .u32 out_5.a9, .int .u32 out_5.a10, .int .u32 out_5.a11, .int .u32 out_5.a12, .int .u32 out_5.a13, .int .u32 out_5.a14, .int .u32 out_5.a15]), .b (.agg (eBig x_26))] [4] [103] (s' := ⟨[(4, Pt 103 0)], [(103, .box 25 (eBig x_26))]⟩) rfl ⟨fun _ => .p (op_field_p tyFld25_1 rfl rfl), fun _ => .p (op_load_p1 tyOne4 rfl rfl rfl), fun _ => .p (op_field_p tyFld25_1 rfl rfl), fun _ => .p (op_load_p1 tyOne4 rfl rfl rfl), fun _ => .p (op_neq_bool und4 rfl rfl), fun _ => .p (op_slice_ah (i := 16) tyArr109 (by decide) (by decide) rfl rfl), fun _ => .p (op_toArr tyArr23 (by decide) rfl), fun _ => .p (lp tyAgg23), fun _ => .p (op_call0 (w_signed_spec e23) goes115 rfl rfl), trivial⟩ ⟨_, by exact .p (op_store_p tyAgg25 rfl rfl rfl rfl (Nat.le_of_ble_eq_true rfl) rfl), rfl⟩ rfl (Tri.ret ?_)
    obtain rfl := Option.some.inj h
    refine Fin.keepS ⟨[(4, Pt 103 0)], [(103, .box 25 (eBig x_26))]⟩ rfl (Fin.result' [.agg (eBig x_26)] (.inl rfl) rfl (.cons (.agg tyAgg25 rfl rfl rfl rfl) .nil) ⟨rfl, rfl⟩)
def q_Add_S (F : Nat) (x0 : Frc) (y0 : Frc) : Option Frc :=
 (q_Good_S F x0).bind fun x_1 => (gcall (!(!x_1)) (q_Good_S F y0)).bind fun x_2 => if ((!x_1) || (!x_2)) = true then ((q_Bad_S F).bind fun x_3 => some x_3) else ((w_Gcd_S F x0.D y0.D).bind fun x_4 => (w_Quo_S F x0.D x_4).bind fun x_5 => (w_Quo_S F y0.D x_4).bind fun x_6 => (w_Mul_S F x0.N x_6).bind fun x_7 => (w_Mul_S F y0.N x_5).bind fun x_8 => (w_Add_S F x_7 x_8).bind fun x_9 => (w_Mul_S F x_5 y0.D).bind fun x_10 => (q_Make_S F x_9 x_10).bind fun x_11 => some x_11)
theorem q_Add_spec {F : Nat} {x0 : Frc} {y0 : Frc} {r : Frc} (h : q_Add_S F x0 y0 = some r) : Meets Tryz.prog (tabs mx) 42 [] [.agg (eFrc x0), .agg (eFrc y0)] (Is [] (.b (.agg (eFrc r)))) := by
 unfold q_Add_S at h
 refine Meets.intro 44 Tryz.func42 Tryz.ntmps42 rfl (by simp) fun E => ?_
 show Tri _ E ⟨44, [], []⟩ _ ⟨[(0, .b (.agg (eFrc x0))), (1, .b (.agg (eFrc y0)))], []⟩ _
 refine Tri.seq (Tri.regionL ?_)
 refine Oc (op_box (k := 101) rfl rfl) (Oc (op_box (k := 102) rfl rfl) (Oc (op_alloc (k := 103) tyZero27 rfl) ?_))
 refine OpsL.nilS ⟨[(2, Pt 101 0), (3, Pt 102 0), (4, Pt 103 0)], [(101, .box 27 (eFrc x0)), (102, .box 27 (eFrc y0)), (103, .box 27 zFrc)]⟩ rfl (Tri.seq (Tri.seq (Tri.regionL ?_)))
 refine Oc (lp tyAgg27) ?_
 obtain ⟨x_1, e1, h⟩ := bnd h
 refine Oc (op_call0 (q_Good_spec e1) goes26 rfl rfl) (Oc (op_not rfl) (Oc om ?_))
 refine CgF (!(!x_1)) [] (fun g2 => trivial) (fun g2 => lp tyAgg27) (OpsL.keepS ⟨[(2, Pt 101 0), (3, Pt 102 0), (4, Pt 103 0), (11, B (!x_1)), (12, .opt (!(!x_1)) (.agg (eFrc y0)))], [(101, .box 27 (eFrc x0)), (102, .box 27 (eFrc y0)), (103, .box 27 zFrc)]⟩ rfl ?_)
 obtain ⟨x_2, e4, h⟩ := bnd h
 refine CgF (!(!x_1)) [12] (fun g3 => ⟨g3, trivial⟩) (fun g3 => op_call0 (q_Good_spec (gc e4 g3)) goes26 rfl rfl) (CgF (!(!x_1)) [13] (fun g5 => ⟨g5, trivial⟩) (fun g5 => op_not rfl) (Oc (op_pick_or (fun e => by rw [e]; rfl) rfl rfl rfl rfl) (OpsL.nilS ⟨[(2, Pt 101 0), (3, Pt 102 0), (4, Pt 103 0), (15, B ((!x_1) || (!x_2)))], [(101, .box 27 (eFrc x0)), (102, .box 27 (eFrc y0)), (103, .box 27 zFrc)]⟩ rfl (Tri.ite h rfl (fun _ h => ?_) (fun _ h => ?_)))))
 ·refine Tri.seq (Tri.regionL ?_)
  obtain ⟨x_3, e6, h⟩ := bnd h
  refine Oc (op_call0 (q_Bad_spec e6) goes27 rfl rfl) (Oc (op_store_p tyAgg27 rfl rfl rfl rfl (Nat.le_of_ble_eq_true rfl) rfl) ?_)
  refine OpsL.nilS ⟨[(4, Pt 103 0)], [(103, .box 27 (eFrc x_3))]⟩ rfl (Tri.ret (Fin.then_ret ?_))
  obtain rfl := Option.some.inj h
  refine Fin.keepS ⟨[(4, Pt 103 0)], [(103, .box 27 (eFrc x_3))]⟩ rfl (Fin.result' [.agg (eFrc x_3)] (.inl rfl) rfl (.cons (.agg tyAgg27 rfl rfl rfl rfl) .nil) ⟨rfl, rfl⟩)
 ·refine Tri.skip (Fin.keepS ⟨[(2, Pt 101 0), (3, Pt 102 0), (4, Pt 103 0)], [(101, .box 27 (eFrc x0)), (102, .box 27 (eFrc y0)), (103, .box 27 zFrc)]⟩ rfl (Fin.then (Tri.seq (Tri.regionL ?_))))
  refine Oc (op_field_p tyFld27_1 rfl rfl) (Oc (lp tyAgg25) (Oc (op_field_p tyFld27_1 rfl rfl) (Oc (lp tyAgg25) ?_)))
  obtain ⟨x_4, e7, h⟩ := bnd h
  refine Oc (op_call0 (w_Gcd_spec e7) goes73 rfl rfl) (Oc (op_alloc (k := 104) tyZero25 rfl) (Oc (op_store_p tyAgg25 rfl rfl rfl rfl (Nat.le_of_ble_eq_true rfl) rfl) ?_))
  refine OpsL.nilS ⟨[(2, Pt 101 0), (3, Pt 102 0), (4, Pt 103 0), (5, Pt 104 0)], [(101, .box 27 (eFrc x0)), (102, .box 27 (eFrc y0)), (103, .box 27 zFrc), (104, .box 25 (eBig x_4))]⟩ rfl (Tri.seq ?_)
  obtain ⟨x_5, e8, h⟩ := bnd h
  obtain ⟨x_6, e9, h⟩ := bnd h
  refine Tri.regionW mixed [false, false, false, false, false, false, false, false, true, true, true, true] [Pt 101 18, .b (.agg (eBig x0.D)), .b (.agg (eBig x_4)), .b (.agg (eBig x_5)), Pt 102 18, .b (.agg (eBig y0.D)), .b (.agg (eBig x_4)), .b (.agg (eBig x_6)), Pt 105 0, Pt 106 0, B true, B true] [⟨[false, false, false, false, false, false, false, false, false, false, false, false], [(2, Pt 101 0), (3, Pt 102 0), (4, Pt 103 0), (5, Pt 104 0)], [(101, .box 27 (eFrc x0)), (102, .box 27 (eFrc y0)), (103, .box 27 zFrc), (104, .box 25 (eBig x_4))], [true, true, true, true, true, true, true, true, true, true, true, true], []⟩, ⟨[false, false, false, false, false, false, false, false, true, false, false, false], [(2, Pt 101 0), (3, Pt 102 0), (4, Pt 103 0), (5, Pt 104 0)], [(101, .box 27 (eFrc x0)), (102, .box 27 (eFrc y0)), (103, .box 27 zFrc), (104, .box 25 (eBig x_4)), (105, .box 25 zBig)], [true, true, true, true, true, true, true, true, true, true, true, true], [8]⟩, ⟨[false, false, false, false, false, false, false, false, false, true, false, false], [(2, Pt 101 0), (3, Pt 102 0), (4, Pt 103 0), (5, Pt 104 0)], [(101, .box 27 (eFrc x0)), (102, .box 27 (eFrc y0)), (103, .box 27 zFrc), (104, .box 25 (eBig x_4)), (106, .box 25 zBig)], [true, true, true, true, true, true, true, true, true, true, true, true], [9]⟩, ⟨[false, false, false, false, false, false, false, false, true, true, false, false], [(2, Pt 101 0), (3, Pt 102 0), (4, Pt 103 0), (5, Pt 104 0)], [(101, .box 27 (eFrc x0)), (102, .box 27 (eFrc y0)), (103, .box 27 zFrc), (104, .box 25 (eBig x_4)), (105, .box 25 zBig), (106, .box 25 zBig)], [true, true, true, true, true, true, true, true, true, true, true, true], [8, 9]⟩, ⟨[false, false, false, false, false, false, false, false, true, true, true, false], [(2, Pt 101 0), (3, Pt 102 0), (4, Pt 103 0), (5, Pt 104 0)], [(101, .box 27 (eFrc x0)), (102, .box 27 (eFrc y0)), (103, .box 27 zFrc), (104, .box 25 (eBig x_4)), (105, .box 25 (eBig x_5)), (106, .box 25 zBig)], [true, true, true, true, true, true, true, true, true, true, true, true], [0, 1, 2, 3, 4, 5, 6, 7, 8, 9, 10]⟩, ⟨[false, false, false, false, false, false, false, false, true, true, true, true], [(2, Pt 101 0), (3, Pt 102 0), (4, Pt 103 0), (5, Pt 104 0)], [(101, .box 27 (eFrc x0)), (102, .box 27 (eFrc y0)), (103, .box 27 zFrc), (104, .box 25 (eBig x_4)), (105, .box 25 (eBig x_5)), (106, .box 25 (eBig x_6))], [true, true, true, true, true, true, true, true, true, true, true, true], [0, 1, 2, 3, 4, 5, 6, 7, 8, 9, 10, 11]⟩] rfl (⟨by kernel_rfl, ⟨⟨Pt 101 18, fun _ => rfl, fun _ => .p (by exact op_field_p tyFld27_1 rfl rfl)⟩, ⟨.b (.agg (eBig x0.D)), fun _ => rfl, fun _ => .p (by exact op_load_p tyAgg25 rfl rfl rfl rfl)⟩, ⟨.b (.agg (eBig x_4)), fun _ => rfl, fun _ => .p (by exact op_load_p tyAgg25 rfl rfl rfl rfl)⟩, ⟨.b (.agg (eBig x_5)), fun _ => rfl, fun _ => .p (by exact op_call0 (w_Quo_spec e8) goes75 rfl rfl)⟩, ⟨Pt 102 18, fun _ => rfl, fun _ => .p (by exact op_field_p tyFld27_1 rfl rfl)⟩, ⟨.b (.agg (eBig y0.D)), fun _ => rfl, fun _ => .p (by exact op_load_p tyAgg25 rfl rfl rfl rfl)⟩, ⟨.b (.agg (eBig x_4)), fun _ => rfl, fun _ => .p (by exact op_load_p tyAgg25 rfl rfl rfl rfl)⟩, ⟨.b (.agg (eBig x_6)), fun _ => rfl, fun _ => .p (by exact op_call0 (w_Quo_spec e9) goes75 rfl rfl)⟩, ⟨_, some 105, Pt 105 0, rfl, fun _ => rfl, rfl, rfl, fun _ => .toO [101, 102, 103, 104, 105] (by exact .p (by exact op_alloc (k := 105) tyZero25 rfl)) (by exact rfl)⟩, ⟨_, some 106, Pt 106 0, rfl, fun _ => rfl, rfl, rfl, fun _ => .toO [101, 102, 103, 104, 106] (by exact .p (by exact op_alloc (k := 106) tyZero25 rfl)) (by exact rfl)⟩, trivial, trivial, trivial⟩, ⟨by kernel_rfl, ⟨⟨Pt 101 18, fun _ => rfl, fun _ => .p (by exact op_field_p tyFld27_1 rfl rfl)⟩, ⟨.b (.agg (eBig x0.D)), fun _ => rfl, fun _ => .p (by exact op_load_p tyAgg25 rfl rfl rfl rfl)⟩, ⟨.b (.agg (eBig x_4)), fun _ => rfl, fun _ => .p (by exact op_load_p tyAgg25 rfl rfl rfl rfl)⟩, ⟨.b (.agg (eBig x_5)), fun _ => rfl, fun _ => .p (by exact op_call0 (w_Quo_spec e8) goes75 rfl rfl)⟩, ⟨Pt 102 18, fun _ => rfl, fun _ => .p (by exact op_field_p tyFld27_1 rfl rfl)⟩, ⟨.b (.agg (eBig y0.D)), fun _ => rfl, fun _ => .p (by exact op_load_p tyAgg25 rfl rfl rfl rfl)⟩, ⟨.b (.agg (eBig x_4)), fun _ => rfl, fun _ => .p (by exact op_load_p tyAgg25 rfl rfl rfl rfl)⟩, ⟨.b (.agg (eBig x_6)), fun _ => rfl, fun _ => .p (by exact op_call0 (w_Quo_spec e9) goes75 rfl rfl)⟩, trivial, ⟨_, some 106, Pt 106 0, rfl, fun _ => rfl, rfl, rfl, fun _ => .toO [101, 102, 103, 104, 105, 106] (by exact .p (by exact op_alloc (k := 106) tyZero25 rfl)) (by exact rfl)⟩, trivial, trivial, trivial⟩, ⟨by kernel_rfl, ⟨⟨Pt 101 18, fun _ => rfl, fun _ => .p (by exact op_field_p tyFld27_1 rfl rfl)⟩, ⟨.b (.agg (eBig x0.D)), fun _ => rfl, fun _ => .p (by exact op_load_p tyAgg25 rfl rfl rfl rfl)⟩, ⟨.b (.agg (eBig x_4)), fun _ => rfl, fun _ => .p (by exact op_load_p tyAgg25 rfl rfl rfl rfl)⟩, ⟨.b (.agg (eBig x_5)), fun _ => rfl, fun _ => .p (by exact op_call0 (w_Quo_spec e8) goes75 rfl rfl)⟩, ⟨Pt 102 18, fun _ => rfl, fun _ => .p (by exact op_field_p tyFld27_1 rfl rfl)⟩, ⟨.b (.agg (eBig y0.D)), fun _ => rfl, fun _ => .p (by exact op_load_p tyAgg25 rfl rfl rfl rfl)⟩, ⟨.b (.agg (eBig x_4)), fun _ => rfl, fun _ => .p (by exact op_load_p tyAgg25 rfl rfl rfl rfl)⟩, ⟨.b (.agg (eBig x_6)), fun _ => rfl, fun _ => .p (by exact op_call0 (w_Quo_spec e9) goes75 rfl rfl)⟩, ⟨_, some 105, Pt 105 0, rfl, fun _ => rfl, rfl, rfl, fun _ => .toO [101, 102, 103, 104, 105, 106] (by exact .p (by exact op_alloc (k := 105) tyZero25 rfl)) (by exact rfl)⟩, trivial, trivial, trivial, trivial⟩, ⟨by kernel_rfl, ⟨⟨Pt 101 18, fun _ => rfl, fun _ => .p (by exact op_field_p tyFld27_1 rfl rfl)⟩, ⟨.b (.agg (eBig x0.D)), fun _ => rfl, fun _ => .p (by exact op_load_p tyAgg25 rfl rfl rfl rfl)⟩, ⟨.b (.agg (eBig x_4)), fun _ => rfl, fun _ => .p (by exact op_load_p tyAgg25 rfl rfl rfl rfl)⟩, ⟨.b (.agg (eBig x_5)), fun _ => rfl, fun _ => .p (by exact op_call0 (w_Quo_spec e8) goes75 rfl rfl)⟩, ⟨Pt 102 18, fun _ => rfl, fun _ => .p (by exact op_field_p tyFld27_1 rfl rfl)⟩, ⟨.b (.agg (eBig y0.D)), fun _ => rfl, fun _ => .p (by exact op_load_p tyAgg25 rfl rfl rfl rfl)⟩, ⟨.b (.agg (eBig x_4)), fun _ => rfl, fun _ => .p (by exact op_load_p tyAgg25 rfl rfl rfl rfl)⟩, ⟨.b (.agg (eBig x_6)), fun _ => rfl, fun _ => .p (by exact op_call0 (w_Quo_spec e9) goes75 rfl rfl)⟩, trivial, trivial, ⟨_, none, .b (.one .any), rfl, (fun e => by simp at e), rfl, rfl, fun _ => .toO [101, 102, 103, 104, 105, 106] (by exact .p (by exact op_store_p tyAgg25 rfl rfl rfl rfl (Nat.le_of_ble_eq_true rfl) rfl)) (by exact rfl)⟩, trivial, trivial⟩, ⟨by kernel_rfl, ⟨trivial, trivial, trivial, trivial, trivial, trivial, trivial, trivial, trivial, trivial, trivial, ⟨_, none, .b (.one .any), rfl, (fun e => by simp at e), rfl, rfl, fun _ => .toO [101, 102, 103, 104, 105, 106] (by exact .p (by exact op_store_p tyAgg25 rfl rfl rfl rfl (Nat.le_of_ble_eq_true rfl) rfl)) (by exact rfl)⟩, trivial⟩, ⟨by kernel_rfl, ⟨trivial, trivial, trivial, trivial, trivial, trivial, trivial, trivial, trivial, trivial, trivial, trivial, trivial⟩, trivial⟩⟩⟩⟩⟩⟩) rfl rfl rfl [2, 3, 4, 6, 7] [101, 102, 103, 105, 106] (s' := ⟨[(2, Pt 101 0), (3, Pt 102 0), (4, Pt 103 0), (6, Pt 105 0), (7, Pt 106 0)], [(101, .box 27 (eFrc x0)), (102, .box 27 (eFrc y0)), (103, .box 27 zFrc), (105, .box 25 (eBig x_5)), (106, .box 25 (eBig x_6))]⟩) rfl ?_
  refine Tri.seq (Tri.keepS ⟨[(2, Pt 101 0), (3, Pt 102 0), (4, Pt 103 0), (6, Pt 105 0), (7, Pt 106 0)], [(101, .box 27 (eFrc x0)), (102, .box 27 (eFrc y0)), (103, .box 27 zFrc), (105, .box 25 (eBig x_5)), (106, .box 25 (eBig x_6))]⟩ rfl ?_)
  obtain ⟨x_7, e10, h⟩ := bnd h
  obtain ⟨x_8, e11, h⟩ := bnd h
  obtain ⟨x_9, e12, h⟩ := bnd h
  obtain ⟨x_10, e13, h⟩ := bnd h
  obtain ⟨x_11, e14, h⟩ := bnd h
  refine Tri.regionY mixed 14 [Pt 101 0, .b (.agg (eBig x0.N)), .b (.agg (eBig x_6)), .b (.agg (eBig x_7)), Pt 102 0, .b (.agg (eBig y0.N)), .b (.agg (eBig x_5)), .b (.agg (eBig x_8)), .b (.agg (eBig x_9)), .b (.agg (eBig x_5)), Pt 102 18, .b (.agg (eBig y0.D)), .b (.agg (eBig x_10)), .b (.agg (eFrc x_11))] [4] [103] (s' := ⟨[(4, Pt 103 0)], [(103, .box 27 (eFrc x_11))]⟩) rfl ⟨fun _ => .p (op_field_p tyFld27_0 rfl rfl), fun _ => .p (lp tyAgg25), fun _ => .p (lp tyAgg25), fun _ => .p (op_call0 (w_Mul_spec e10) goes102 rfl rfl), fun _ => .p (op_field_p tyFld27_0 rfl rfl), fun _ => .p (lp tyAgg25), fun _ => .p (lp tyAgg25), fun _ => .p (op_call0 (w_Mul_spec e11) goes102 rfl rfl), fun _ => .p (op_call0 (w_Add_spec e12) goes97 rfl rfl), fun _ => .p (lp tyAgg25), fun _ => .p (op_field_p tyFld27_1 rfl rfl), fun _ => .p (lp tyAgg25), fun _ => .p (op_call0 (w_Mul_spec e13) goes102 rfl rfl), fun _ => .p (op_call0 (q_Make_spec e14) goes11 rfl rfl), trivial⟩ ⟨_, by exact .p (op_store_p tyAgg27 rfl rfl rfl rfl (Nat.le_of_ble_eq_true rfl) rfl), rfl⟩ rfl (Tri.ret ?_)
  obtain rfl := Option.some.inj h
  refine Fin.keepS ⟨[(4, Pt 103 0)], [(103, .box 27 (eFrc x_11))]⟩ rfl (Fin.result' [.agg (eFrc x_11)] (.inl rfl) rfl (.cons (.agg tyAgg27 rfl rfl rfl rfl) .nil) ⟨rfl, rfl⟩)
def q_Mul_S (F : Nat) (x0 : Frc) (y0 : Frc) : Option Frc :=
 (q_Good_S F x0).bind fun x_1 => (gcall (!(!x_1)) (q_Good_S F y0)).bind fun x_2 => if ((!x_1) || (!x_2)) = true then ((q_Bad_S F).bind fun x_3 => some x_3) else ((q_Make_S F x0.N y0.D).bind fun x_4 => (q_Make_S F y0.N x0.D).bind fun x_5 => (w_Mul_S F x_4.N x_5.N).bind fun x_6 => (w_Mul_S F x_4.D x_5.D).bind fun x_7 => if (x_6.Bad || x_7.Bad) = true then ((q_Bad_S F).bind fun x_8 => some x_8) else (some (⟨x_6, x_7⟩ : Frc)))
theorem q_Mul_spec {F : Nat} {x0 : Frc} {y0 : Frc} {r : Frc} (h : q_Mul_S F x0 y0 = some r) : Meets Tryz.prog (tabs mx) 45 [] [.agg (eFrc x0), .agg (eFrc y0)] (Is [] (.b (.agg (eFrc r)))) := by
 unfold q_Mul_S at h
 refine Meets.intro 48 Tryz.func45 Tryz.ntmps45 rfl (by simp) fun E => ?_
 show Tri _ E ⟨48, [], []⟩ _ ⟨[(0, .b (.agg (eFrc x0))), (1, .b (.agg (eFrc y0)))], []⟩ _
 refine Tri.seq (Tri.regionL ?_)
 refine Oc (op_box (k := 101) rfl rfl) (Oc (op_box (k := 102) rfl rfl) (Oc (op_alloc (k := 103) tyZero27 rfl) ?_))
 refine OpsL.nilS ⟨[(2, Pt 101 0), (3, Pt 102 0), (4, Pt 103 0)], [(101, .box 27 (eFrc x0)), (102, .box 27 (eFrc y0)), (103, .box 27 zFrc)]⟩ rfl (Tri.seq (Tri.seq (Tri.regionL ?_)))
 refine Oc (lp tyAgg27) ?_
 obtain ⟨x_1, e1, h⟩ := bnd h
 refine Oc (op_call0 (q_Good_spec e1) goes26 rfl rfl) (Oc (op_not rfl) (Oc om ?_))
 refine CgF (!(!x_1)) [] (fun g2 => trivial) (fun g2 => lp tyAgg27) (OpsL.keepS ⟨[(2, Pt 101 0), (3, Pt 102 0), (4, Pt 103 0), (12, B (!x_1)), (13, .opt (!(!x_1)) (.agg (eFrc y0)))], [(101, .box 27 (eFrc x0)), (102, .box 27 (eFrc y0)), (103, .box 27 zFrc)]⟩ rfl ?_)
 obtain ⟨x_2, e4, h⟩ := bnd h
 refine CgF (!(!x_1)) [13] (fun g3 => ⟨g3, trivial⟩) (fun g3 => op_call0 (q_Good_spec (gc e4 g3)) goes26 rfl rfl) (CgF (!(!x_1)) [14] (fun g5 => ⟨g5, trivial⟩) (fun g5 => op_not rfl) (Oc (op_pick_or (fun e => by rw [e]; rfl) rfl rfl rfl rfl) (OpsL.nilS ⟨[(2, Pt 101 0), (3, Pt 102 0), (4, Pt 103 0), (16, B ((!x_1) || (!x_2)))], [(101, .box 27 (eFrc x0)), (102, .box 27 (eFrc y0)), (103, .box 27 zFrc)]⟩ rfl (Tri.ite h rfl (fun _ h => ?_) (fun _ h => ?_)))))
 ·refine Tri.seq (Tri.regionL ?_)
  obtain ⟨x_3, e6, h⟩ := bnd h
  refine Oc (op_call0 (q_Bad_spec e6) goes27 rfl rfl) (Oc (op_store_p tyAgg27 rfl rfl rfl rfl (Nat.le_of_ble_eq_true rfl) rfl) ?_)
  refine OpsL.nilS ⟨[(4, Pt 103 0)], [(103, .box 27 (eFrc x_3))]⟩ rfl (Tri.ret (Fin.then_ret ?_))
  obtain rfl := Option.some.inj h
  refine Fin.keepS ⟨[(4, Pt 103 0)], [(103, .box 27 (eFrc x_3))]⟩ rfl (Fin.result' [.agg (eFrc x_3)] (.inl rfl) rfl (.cons (.agg tyAgg27 rfl rfl rfl rfl) .nil) ⟨rfl, rfl⟩)
 ·refine Tri.skip (Fin.keepS ⟨[(2, Pt 101 0), (3, Pt 102 0), (4, Pt 103 0)], [(101, .box 27 (eFrc x0)), (102, .box 27 (eFrc y0)), (103, .box 27 zFrc)]⟩ rfl (Fin.then (Tri.seq ?_)))
  refine Tri.keepS ⟨[(2, Pt 101 0), (3, Pt 102 0), (4, Pt 103 0)], [(101, .box 27 (eFrc x0)), (102, .box 27 (eFrc y0)), (103, .box 27 zFrc)]⟩ rfl ?_
  obtain ⟨x_4, e7, h⟩ := bnd h
  obtain ⟨x_5, e8, h⟩ := bnd h
  refine Tri.regionW mixed [false, false, false, false, false, false, false, false, false, false, true, true, true, true] [Pt 101 0, .b (.agg (eBig x0.N)), Pt 102 18, .b (.agg (eBig y0.D)), .b (.agg (eFrc x_4)), Pt 102 0, .b (.agg (eBig y0.N)), Pt 101 18, .b (.agg (eBig x0.D)), .b (.agg (eFrc x_5)), Pt 104 0, Pt 105 0, B true, B true] [⟨[false, false, false, false, false, false, false, false, false, false, false, false, false, false], [(2, Pt 101 0), (3, Pt 102 0), (4, Pt 103 0)], [(101, .box 27 (eFrc x0)), (102, .box 27 (eFrc y0)), (103, .box 27 zFrc)], [true, true, true, true, true, true, true, true, true, true, true, true, true, true], []⟩, ⟨[false, false, false, false, false, false, false, false, false, false, true, false, false, false], [(2, Pt 101 0), (3, Pt 102 0), (4, Pt 103 0)], [(101, .box 27 (eFrc x0)), (102, .box 27 (eFrc y0)), (103, .box 27 zFrc), (104, .box 27 zFrc)], [true, true, true, true, true, true, true, true, true, true, true, true, true, true], [10]⟩, ⟨[false, false, false, false, false, false, false, false, false, false, false, true, false, false], [(2, Pt 101 0), (3, Pt 102 0), (4, Pt 103 0)], [(101, .box 27 (eFrc x0)), (102, .box 27 (eFrc y0)), (103, .box 27 zFrc), (105, .box 27 zFrc)], [true, true, true, true, true, true, true, true, true, true, true, true, true, true], [11]⟩, ⟨[false, false, false, false, false, false, false, false, false, false, true, true, false, false], [(2, Pt 101 0), (3, Pt 102 0), (4, Pt 103 0)], [(101, .box 27 (eFrc x0)), (102, .box 27 (eFrc y0)), (103, .box 27 zFrc), (104, .box 27 zFrc), (105, .box 27 zFrc)], [true, true, true, true, true, true, true, true, true, true, true, true, true, true], [10, 11]⟩, ⟨[false, false, false, false, false, false, false, false, false, false, true, true, true, false], [(2, Pt 101 0), (3, Pt 102 0), (4, Pt 103 0)], [(101, .box 27 (eFrc x0)), (102, .box 27 (eFrc y0)), (103, .box 27 zFrc), (104, .box 27 (eFrc x_4)), (105, .box 27 zFrc)], [true, true, true, true, true, true, true, true, true, true, true, true, true, true], [0, 1, 2, 3, 4, 5, 6, 7, 8, 9, 10, 11, 12]⟩, ⟨[false, false, false, false, false, false, false, false, false, false, true, true, true, true], [(2, Pt 101 0), (3, Pt 102 0), (4, Pt 103 0)], [(101, .box 27 (eFrc x0)), (102, .box 27 (eFrc y0)), (103, .box 27 zFrc), (104, .box 27 (eFrc x_4)), (105, .box 27 (eFrc x_5))], [true, true, true, true, true, true, true, true, true, true, true, true, true, true], [0, 1, 2, 3, 4, 5, 6, 7, 8, 9, 10, 11, 12, 13]⟩] rfl (⟨by kernel_rfl, ⟨⟨Pt 101 0, fun _ => rfl, fun _ => .p (by exact op_field_p tyFld27_0 rfl rfl)⟩, ⟨.b (.agg (eBig x0.N)), fun _ => rfl, fun _ => .p (by exact op_load_p tyAgg25 rfl rfl rfl rfl)⟩, ⟨Pt 102 18, fun _ => rfl, fun _ => .p (by exact op_field_p tyFld27_1 rfl rfl)⟩, ⟨.b (.agg (eBig y0.D)), fun _ => rfl, fun _ => .p (by exact op_load_p tyAgg25 rfl rfl rfl rfl)⟩, ⟨.b (.agg (eFrc x_4)), fun _ => rfl, fun _ => .p (by exact op_call0 (q_Make_spec e7) goes11 rfl rfl)⟩, ⟨Pt 102 0, fun _ => rfl, fun _ => .p (by exact op_field_p tyFld27_0 rfl rfl)⟩, ⟨.b (.agg (eBig y0.N)), fun _ => rfl, fun _ => .p (by exact op_load_p tyAgg25 rfl rfl rfl rfl)⟩, ⟨Pt 101 18, fun _ => rfl, fun _ => .p (by exact op_field_p tyFld27_1 rfl rfl)⟩, ⟨.b (.agg (eBig x0.D)), fun _ => rfl, fun _ => .p (by exact op_load_p tyAgg25 rfl rfl rfl rfl)⟩, ⟨.b (.agg (eFrc x_5)), fun _ => rfl, fun _ => .p (by exact op_call0 (q_Make_spec e8) goes11 rfl rfl)⟩, ⟨_, some 104, Pt 104 0, rfl, fun _ => rfl, rfl, rfl, fun _ => .toO [101, 102, 103, 104] (by exact .p (by exact op_alloc (k := 104) tyZero27 rfl)) (by exact rfl)⟩, ⟨_, some 105, Pt 105 0, rfl, fun _ => rfl, rfl, rfl, fun _ => .toO [101, 102, 103, 105] (by exact .p (by exact op_alloc (k := 105) tyZero27 rfl)) (by exact rfl)⟩, trivial, trivial, trivial⟩, ⟨by kernel_rfl, ⟨⟨Pt 101 0, fun _ => rfl, fun _ => .p (by exact op_field_p tyFld27_0 rfl rfl)⟩, ⟨.b (.agg (eBig x0.N)), fun _ => rfl, fun _ => .p (by exact op_load_p tyAgg25 rfl rfl rfl rfl)⟩, ⟨Pt 102 18, fun _ => rfl, fun _ => .p (by exact op_field_p tyFld27_1 rfl rfl)⟩, ⟨.b (.agg (eBig y0.D)), fun _ => rfl, fun _ => .p (by exact op_load_p tyAgg25 rfl rfl rfl rfl)⟩, ⟨.b (.agg (eFrc x_4)), fun _ => rfl, fun _ => .p (by exact op_call0 (q_Make_spec e7) goes11 rfl rfl)⟩, ⟨Pt 102 0, fun _ => rfl, fun _ => .p (by exact op_field_p tyFld27_0 rfl rfl)⟩, ⟨.b (.agg (eBig y0.N)), fun _ => rfl, fun _ => .p (by exact op_load_p tyAgg25 rfl rfl rfl rfl)⟩, ⟨Pt 101 18, fun _ => rfl, fun _ => .p (by exact op_field_p tyFld27_1 rfl rfl)⟩, ⟨.b (.agg (eBig x0.D)), fun _ => rfl, fun _ => .p (by exact op_load_p tyAgg25 rfl rfl rfl rfl)⟩, ⟨.b (.agg (eFrc x_5)), fun _ => rfl, fun _ => .p (by exact op_call0 (q_Make_spec e8) goes11 rfl rfl)⟩, trivial, ⟨_, some 105, Pt 105 0, rfl, fun _ => rfl, rfl, rfl, fun _ => .toO [101, 102, 103, 104, 105] (by exact .p (by exact op_alloc (k := 105) tyZero27 rfl)) (by exact rfl)⟩, trivial, trivial, trivial⟩, ⟨by kernel_rfl, ⟨⟨Pt 101 0, fun _ => rfl, fun _ => .p (by exact op_field_p tyFld27_0 rfl rfl)⟩, ⟨.b (.agg (eBig x0.N)), fun _ => rfl, fun _ => .p (by exact op_load_p tyAgg25 rfl rfl rfl rfl)⟩, ⟨Pt 102 18, fun _ => rfl, fun _ => .p (by exact op_field_p tyFld27_1 rfl rfl)⟩, ⟨.b (.agg (eBig y0.D)), fun _ => rfl, fun _ => .p (by exact op_load_p tyAgg25 rfl rfl rfl rfl)⟩, ⟨.b (.agg (eFrc x_4)), fun _ => rfl, fun _ => .p (by exact op_call0 (q_Make_spec e7) goes11 rfl rfl)⟩, ⟨Pt 102 0, fun _ => rfl, fun _ => .p (by exact op_field_p tyFld27_0 rfl rfl)⟩, ⟨.b (.agg (eBig y0.N)), fun _ => rfl, fun _ => .p (by exact op_load_p tyAgg25 rfl rfl rfl rfl)⟩, ⟨Pt 101 18, fun _ => rfl, fun _ => .p (by exact op_field_p tyFld27_1 rfl rfl)⟩, ⟨.b (.agg (eBig x0.D)), fun _ => rfl, fun _ => .p (by exact op_load_p tyAgg25 rfl rfl rfl rfl)⟩, ⟨.b (.agg (eFrc x_5)), fun _ => rfl, fun _ => .p (by exact op_call0 (q_Make_spec e8) goes11 rfl rfl)⟩, ⟨_, some 104, Pt 104 0, rfl, fun _ => rfl, rfl, rfl, fun _ => .toO [101, 102, 103, 104, 105] (by exact .p (by exact op_alloc (k := 104) tyZero27 rfl)) (by exact rfl)⟩, trivial, trivial, trivial, trivial⟩, ⟨by kernel_rfl, ⟨⟨Pt 101 0, fun _ => rfl, fun _ => .p (by exact op_field_p tyFld27_0 rfl rfl)⟩, ⟨.b (.agg (eBig x0.N)), fun _ => rfl, fun _ => .p (by exact op_load_p tyAgg25 rfl rfl rfl rfl)⟩, ⟨Pt 102 18, fun _ => rfl, fun _ => .p (by exact op_field_p tyFld27_1 rfl rfl)⟩, ⟨.b (.agg (eBig y0.D)), fun _ => rfl, fun _ => .p (by exact op_load_p tyAgg25 rfl rfl rfl rfl)⟩, ⟨.b (.agg (eFrc x_4)), fun _ => rfl, fun _ => .p (by exact op_call0 (q_Make_spec e7) goes11 rfl rfl)⟩, ⟨Pt 102 0, fun _ => rfl, fun _ => .p (by exact op_field_p tyFld27_0 rfl rfl)⟩, ⟨.b (.agg (eBig y0.N)), fun _ => rfl, fun _ => .p (by exact op_load_p tyAgg25 rfl rfl rfl rfl)⟩, ⟨Pt 101 18, fun _ => rfl, fun _ => .p (by exact op_field_p tyFld27_1 rfl rfl)⟩, ⟨.b (.agg (eBig x0.D)), fun _ => rfl, fun _ => .p (by exact op_load_p tyAgg25 rfl rfl rfl rfl)⟩, ⟨.b (.agg (eFrc x_5)), fun _ => rfl, fun _ => .p (by exact op_call0 (q_Make_spec e8) goes11 rfl rfl)⟩, trivial, trivial, ⟨_, none, .b (.one .any), rfl, (fun e => by simp at e), rfl, rfl, fun _ => .toO [101, 102, 103, 104, 105] (by exact .p (by exact op_store_p tyAgg27 rfl rfl rfl rfl (Nat.le_of_ble_eq_true rfl) rfl)) (by exact rfl)⟩, trivial, trivial⟩, ⟨by kernel_rfl, ⟨trivial, trivial, trivial, trivial, trivial, trivial, trivial, trivial, trivial, trivial, trivial, trivial, trivial, ⟨_, none, .b (.one .any), rfl, (fun e => by simp at e), rfl, rfl, fun _ => .toO [101, 102, 103, 104, 105] (by exact .p (by exact op_store_p tyAgg27 rfl rfl rfl rfl (Nat.le_of_ble_eq_true rfl) rfl)) (by exact rfl)⟩, trivial⟩, ⟨by kernel_rfl, ⟨trivial, trivial, trivial, trivial, trivial, trivial, trivial, trivial, trivial, trivial, trivial, trivial, trivial, trivial, trivial⟩, trivial⟩⟩⟩⟩⟩⟩) rfl rfl rfl [4, 5, 6] [103, 104, 105] (s' := ⟨[(4, Pt 103 0), (5, Pt 104 0), (6, Pt 105 0)], [(103, .box 27 zFrc), (104, .box 27 (eFrc x_4)), (105, .box 27 (eFrc x_5))]⟩) rfl ?_
  refine Tri.seq (Tri.keepS ⟨[(4, Pt 103 0), (5, Pt 104 0), (6, Pt 105 0)], [(103, .box 27 zFrc), (104, .box 27 (eFrc x_4)), (105, .box 27 (eFrc x_5))]⟩ rfl ?_)
  obtain ⟨x_6, e9, h⟩ := bnd h
  obtain ⟨x_7, e10, h⟩ := bnd h
  refine Tri.regionW mixed [false, false, false, false, false, false, false, false, false, false, true, true, true, true] [Pt 104 0, .b (.agg (eBig x_4.N)), Pt 105 0, .b (.agg (eBig x_5.N)), .b (.agg (eBig x_6)), Pt 104 18, .b (.agg (eBig x_4.D)), Pt 105 18, .b (.agg (eBig x_5.D)), .b (.agg (eBig x_7)), Pt 106 0, Pt 107 0, B true, B true] [⟨[false, false, false, false, false, false, false, false, false, false, false, false, false, false], [(4, Pt 103 0), (5, Pt 104 0), (6, Pt 105 0)], [(103, .box 27 zFrc), (104, .box 27 (eFrc x_4)), (105, .box 27 (eFrc x_5))], [true, true, true, true, true, true, true, true, true, true, true, true, true, true], []⟩, ⟨[false, false, false, false, false, false, false, false, false, false, true, false, false, false], [(4, Pt 103 0), (5, Pt 104 0), (6, Pt 105 0)], [(103, .box 27 zFrc), (104, .box 27 (eFrc x_4)), (105, .box 27 (eFrc x_5)), (106, .box 25 zBig)], [true, true, true, true, true, true, true, true, true, true, true, true, true, true], [10]⟩, ⟨[false, false, false, false, false, false, false, false, false, false, false, true, false, false], [(4, Pt 103 0), (5, Pt 104 0), (6, Pt 105 0)], [(103, .box 27 zFrc), (104, .box 27 (eFrc x_4)), (105, .box 27 (eFrc x_5)), (107, .box 25 zBig)], [true, true, true, true, true, true, true, true, true, true, true, true, true, true], [11]⟩, ⟨[false, false, false, false, false, false, false, false, false, false, true, true, false, false], [(4, Pt 103 0), (5, Pt 104 0), (6, Pt 105 0)], [(103, .box 27 zFrc), (104, .box 27 (eFrc x_4)), (105, .box 27 (eFrc x_5)), (106, .box 25 zBig), (107, .box 25 zBig)], [true, true, true, true, true, true, true, true, true, true, true, true, true, true], [10, 11]⟩, ⟨[false, false, false, false, false, false, false, false, false, false, true, true, true, false], [(4, Pt 103 0), (5, Pt 104 0), (6, Pt 105 0)], [(103, .box 27 zFrc), (104, .box 27 (eFrc x_4)), (105, .box 27 (eFrc x_5)), (106, .box 25 (eBig x_6)), (107, .box 25 zBig)], [true, true, true, true, true, true, true, true, true, true, true, true, true, true], [0, 1, 2, 3, 4, 5, 6, 7, 8, 9, 10, 11, 12]⟩, ⟨[false, false, false, false, false, false, false, false, false, false, true, true, true, true], [(4, Pt 103 0), (5, Pt 104 0), (6, Pt 105 0)], [(103, .box 27 zFrc), (104, .box 27 (eFrc x_4)), (105, .box 27 (eFrc x_5)), (106, .box 25 (eBig x_6)), (107, .box 25 (eBig x_7))], [true, true, true, true, true, true, true, true, true, true, true, true, true, true], [0, 1, 2, 3, 4, 5, 6, 7, 8, 9, 10, 11, 12, 13]⟩] rfl (⟨by kernel_rfl, ⟨⟨Pt 104 0, fun _ => rfl, fun _ => .p (by exact op_field_p tyFld27_0 rfl rfl)⟩, ⟨.b (.agg (eBig x_4.N)), fun _ => rfl, fun _ => .p (by exact op_load_p tyAgg25 rfl rfl rfl rfl)⟩, ⟨Pt 105 0, fun _ => rfl, fun _ => .p (by exact op_field_p tyFld27_0 rfl rfl)⟩, ⟨.b (.agg (eBig x_5.N)), fun _ => rfl, fun _ => .p (by exact op_load_p tyAgg25 rfl rfl rfl rfl)⟩, ⟨.b (.agg (eBig x_6)), fun _ => rfl, fun _ => .p (by exact op_call0 (w_Mul_spec e9) goes102 rfl rfl)⟩, ⟨Pt 104 18, fun _ => rfl, fun _ => .p (by exact op_field_p tyFld27_1 rfl rfl)⟩, ⟨.b (.agg (eBig x_4.D)), fun _ => rfl, fun _ => .p (by exact op_load_p tyAgg25 rfl rfl rfl rfl)⟩, ⟨Pt 105 18, fun _ => rfl, fun _ => .p (by exact op_field_p tyFld27_1 rfl rfl)⟩, ⟨.b (.agg (eBig x_5.D)), fun _ => rfl, fun _ => .p (by exact op_load_p tyAgg25 rfl rfl rfl rfl)⟩, ⟨.b (.agg (eBig x_7)), fun _ => rfl, fun _ => .p (by exact op_call0 (w_Mul_spec e10) goes102 rfl rfl)⟩, ⟨_, some 106, Pt 106 0, rfl, fun _ => rfl, rfl, rfl, fun _ => .toO [103, 104, 105, 106] (by exact .p (by exact op_alloc (k := 106) tyZero25 rfl)) (by exact rfl)⟩, ⟨_, some 107, Pt 107 0, rfl, fun _ => rfl, rfl, rfl, fun _ => .toO [103, 104, 105, 107] (by exact .p (by exact op_alloc (k := 107) tyZero25 rfl)) (by exact rfl)⟩, trivial, trivial, trivial⟩, ⟨by kernel_rfl, ⟨⟨Pt 104 0, fun _ => rfl, fun _ => .p (by exact op_field_p tyFld27_0 rfl rfl)⟩, ⟨.b (.agg (eBig x_4.N)), fun _ => rfl, fun _ => .p (by exact op_load_p tyAgg25 rfl rfl rfl rfl)⟩, ⟨Pt 105 0, fun _ => rfl, fun _ => .p (by exact op_field_p tyFld27_0 rfl rfl)⟩, ⟨.b (.agg (eBig x_5.N)), fun _ => rfl, fun _ => .p (by exact op_load_p tyAgg25 rfl rfl rfl rfl)⟩, ⟨.b (.agg (eBig x_6)), fun _ => rfl, fun _ => .p (by exact op_call0 (w_Mul_spec e9) goes102 rfl rfl)⟩, ⟨Pt 104 18, fun _ => rfl, fun _ => .p (by exact op_field_p tyFld27_1 rfl rfl)⟩, ⟨.b (.agg (eBig x_4.D)), fun _ => rfl, fun _ => .p (by exact op_load_p tyAgg25 rfl rfl rfl rfl)⟩, ⟨Pt 105 18, fun _ => rfl, fun _ => .p (by exact op_field_p tyFld27_1 rfl rfl)⟩, ⟨.b (.agg (eBig x_5.D)), fun _ => rfl, fun _ => .p (by exact op_load_p tyAgg25 rfl rfl rfl rfl)⟩, ⟨.b (.agg (eBig x_7)), fun _ => rfl, fun _ => .p (by exact op_call0 (w_Mul_spec e10) goes102 rfl rfl)⟩, trivial, ⟨_, some 107, Pt 107 0, rfl, fun _ => rfl, rfl, rfl, fun _ => .toO [103, 104, 105, 106, 107] (by exact .p (by exact op_alloc (k := 107) tyZero25 rfl)) (by exact rfl)⟩, trivial, trivial, trivial⟩, ⟨by kernel_rfl, ⟨⟨Pt 104 0, fun _ => rfl, fun _ => .p (by exact op_field_p tyFld27_0 rfl rfl)⟩, ⟨.b (.agg (eBig x_4.N)), fun _ => rfl, fun _ => .p (by exact op_load_p tyAgg25 rfl rfl rfl rfl)⟩, ⟨Pt 105 0, fun _ => rfl, fun _ => .p (by exact op_field_p tyFld27_0 rfl rfl)⟩, ⟨.b (.agg (eBig x_5.N)), fun _ => rfl, fun _ => .p (by exact op_load_p tyAgg25 rfl rfl rfl rfl)⟩, ⟨.b (.agg (eBig x_6)), fun _ => rfl, fun _ => .p (by exact op_call0 (w_Mul_spec e9) goes102 rfl rfl)⟩, ⟨Pt 104 18, fun _ => rfl, fun _ => .p (by exact op_field_p tyFld27_1 rfl rfl)⟩, ⟨.b (.agg (eBig x_4.D)), fun _ => rfl, fun _ => .p (by exact op_load_p tyAgg25 rfl rfl rfl rfl)⟩, ⟨Pt 105 18, fun _ => rfl, fun _ => .p (by exact op_field_p tyFld27_1 rfl rfl)⟩, ⟨.b (.agg (eBig x_5.D)), fun _ => rfl, fun _ => .p (by exact op_load_p tyAgg25 rfl rfl rfl rfl)⟩, ⟨.b (.agg (eBig x_7)), fun _ => rfl, fun _ => .p (by exact op_call0 (w_Mul_spec e10) goes102 rfl rfl)⟩, ⟨_, some 106, Pt 106 0, rfl, fun _ => rfl, rfl, rfl, fun _ => .toO [103, 104, 105, 106, 107] (by exact .p (by exact op_alloc (k := 106) tyZero25 rfl)) (by exact rfl)⟩, trivial, trivial, trivial, trivial⟩, ⟨by kernel_rfl, ⟨⟨Pt 104 0, fun _ => rfl, fun _ => .p (by exact op_field_p tyFld27_0 rfl rfl)⟩, ⟨.b (.agg (eBig x_4.N)), fun _ => rfl, fun _ => .p (by exact op_load_p tyAgg25 rfl rfl rfl rfl)⟩, ⟨Pt 105 0, fun _ => rfl, fun _ => .p (by exact op_field_p tyFld27_0 rfl rfl)⟩, ⟨.b (.agg (eBig x_5.N)), fun _ => rfl, fun _ => .p (by exact op_load_p tyAgg25 rfl rfl rfl rfl)⟩, ⟨.b (.agg (eBig x_6)), fun _ => rfl, fun _ => .p (by exact op_call0 (w_Mul_spec e9) goes102 rfl rfl)⟩, ⟨Pt 104 18, fun _ => rfl, fun _ => .p (by exact op_field_p tyFld27_1 rfl rfl)⟩, ⟨.b (.agg (eBig x_4.D)), fun _ => rfl, fun _ => .p (by exact op_load_p tyAgg25 rfl rfl rfl rfl)⟩, ⟨Pt 105 18, fun _ => rfl, fun _ => .p (by exact op_field_p tyFld27_1 rfl rfl)⟩, ⟨.b (.agg (eBig x_5.D)), fun _ => rfl, fun _ => .p (by exact op_load_p tyAgg25 rfl rfl rfl rfl)⟩, ⟨.b (.agg (eBig x_7)), fun _ => rfl, fun _ => .p (by exact op_call0 (w_Mul_spec e10) goes102 rfl rfl)⟩, trivial, trivial, ⟨_, none, .b (.one .any), rfl, (fun e => by simp at e), rfl, rfl, fun _ => .toO [103, 104, 105, 106, 107] (by exact .p (by exact op_store_p tyAgg25 rfl rfl rfl rfl (Nat.le_of_ble_eq_true rfl) rfl)) (by exact rfl)⟩, trivial, trivial⟩, ⟨by kernel_rfl, ⟨trivial, trivial, trivial, trivial, trivial, trivial, trivial, trivial, trivial, trivial, trivial, trivial, trivial, ⟨_, none, .b (.one .any), rfl, (fun e => by simp at e), rfl, rfl, fun _ => .toO [103, 104, 105, 106, 107] (by exact .p (by exact op_store_p tyAgg25 rfl rfl rfl rfl (Nat.le_of_ble_eq_true rfl) rfl)) (by exact rfl)⟩, trivial⟩, ⟨by kernel_rfl, ⟨trivial, trivial, trivial, trivial, trivial, trivial, trivial, trivial, trivial, trivial, trivial, trivial, trivial, trivial, trivial⟩, trivial⟩⟩⟩⟩⟩⟩) rfl rfl rfl [4, 7, 8] [103, 106, 107] (s' := ⟨[(4, Pt 103 0), (7, Pt 106 0), (8, Pt 107 0)], [(103, .box 27 zFrc), (106, .box 25 (eBig x_6)), (107, .box 25 (eBig x_7))]⟩) rfl ?_
  refine Tri.seq (Tri.seq (Tri.regionL ?_))
  refine Oc (op_field_p tyFld25_0 rfl rfl) (Oc (op_load_p1 tyOne4 rfl rfl rfl) (Oc om ?_))
  refine CgF (!x_6.Bad) [] (fun g11 => trivial) (fun g11 => op_field_p tyFld25_0 rfl rfl) (CgF (!x_6.Bad) [41] (fun g12 => ⟨g12, trivial⟩) (fun g12 => op_load_p1 tyOne4 rfl rfl rfl) (Oc (op_pick_or (fun e => by rw [e]; rfl) rfl rfl rfl rfl) (OpsL.nilS ⟨[(4, Pt 103 0), (7, Pt 106 0), (8, Pt 107 0), (43, B (x_6.Bad || x_7.Bad))], [(103, .box 27 zFrc), (106, .box 25 (eBig x_6)), (107, .box 25 (eBig x_7))]⟩ rfl (Tri.ite h rfl (fun _ h => ?_) (fun _ h => ?_)))))
  ·refine Tri.seq (Tri.regionL ?_)
   obtain ⟨x_8, e13, h⟩ := bnd h
   refine Oc (op_call0 (q_Bad_spec e13) goes27 rfl rfl) (Oc (op_store_p tyAgg27 rfl rfl rfl rfl (Nat.le_of_ble_eq_true rfl) rfl) ?_)
   refine OpsL.nilS ⟨[(4, Pt 103 0)], [(103, .box 27 (eFrc x_8))]⟩ rfl (Tri.ret (Fin.then_ret ?_))
   obtain rfl := Option.some.inj h
   refine Fin.keepS ⟨[(4, Pt 103 0)], [(103, .box 27 (eFrc x_8))]⟩ rfl (Fin.result' [.agg (eFrc x_8)] (.inl rfl) rfl (.cons (.agg tyAgg27 rfl rfl rfl rfl) .nil) ⟨rfl, rfl⟩)
  ·refine Tri.skip (Fin.keepS ⟨[(4, Pt 103 0), (7, Pt 106 0), (8, Pt 107 0)], [(103, .box 27 zFrc), (106, .box 25 (eBig x_6)), (107, .box 25 (eBig x_7))]⟩ rfl (Fin.then (Tri.seq (Tri.regionL ?_))))
   refine Oc (lp tyAgg25) (Oc (lp tyAgg25) (Oc (op_build tyBuild27 rfl rfl) (Oc (op_store_p tyAgg27 rfl rfl rfl rfl (Nat.le_of_ble_eq_true rfl) rfl) ?_)))
   refine OpsL.nilS ⟨[(4, Pt 103 0)], [(103, .box 27 (eBig x_6 ++ (eBig x_7)))]⟩ rfl (Tri.ret ?_)
   obtain rfl := Option.some.inj h
   refine Fin.keepS ⟨[(4, Pt 103 0)], [(103, .box 27 (eBig x_6 ++ (eBig x_7)))]⟩ rfl (Fin.result' [.agg (eBig x_6 ++ (eBig x_7))] (.inl rfl) rfl (.cons (.agg tyAgg27 rfl rfl rfl rfl) .nil) ⟨rfl, rfl⟩)
def q_Div_S (F : Nat) (x0 : Frc) (y0 : Frc) : Option Frc :=
 (q_Good_S F y0).bind fun x_1 => if (!x_1) = true then ((q_Bad_S F).bind fun x_2 => some x_2) else ((q_Make_S F y0.D y0.N).bind fun x_3 => (q_Mul_S F x0 x_3).bind fun x_4 => some x_4)
theorem q_Div_spec {F : Nat} {x0 : Frc} {y0 : Frc} {r : Frc} (h : q_Div_S F x0 y0 = some r) : Meets Tryz.prog (tabs mx) 46 [] [.agg (eFrc x0), .agg (eFrc y0)] (Is [] (.b (.agg (eFrc r)))) := by
 unfold q_Div_S at h
 refine Meets.intro 16 Tryz.func46 Tryz.ntmps46 rfl (by simp) fun E => ?_
 show Tri _ E ⟨16, [], []⟩ _ ⟨[(0, .b (.agg (eFrc x0))), (1, .b (.agg (eFrc y0)))], []⟩ _
 refine Tri.seq (Tri.regionL ?_)
 refine Oc (op_box (k := 101) rfl rfl) (Oc (op_box (k := 102) rfl rfl) (Oc (op_alloc (k := 103) tyZero27 rfl) ?_))
 refine OpsL.nilS ⟨[(2, Pt 101 0), (3, Pt 102 0), (4, Pt 103 0)], [(101, .box 27 (eFrc x0)), (102, .box 27 (eFrc y0)), (103, .box 27 zFrc)]⟩ rfl (Tri.seq (Tri.seq (Tri.regionL ?_)))
 refine Oc (lp tyAgg27) ?_
 obtain ⟨x_1, e1, h⟩ := bnd h
 refine Oc (op_call0 (q_Good_spec e1) goes26 rfl rfl) (Oc (op_not rfl) ?_)
 refine OpsL.nilS ⟨[(2, Pt 101 0), (3, Pt 102 0), (4, Pt 103 0), (7, B (!x_1))], [(101, .box 27 (eFrc x0)), (102, .box 27 (eFrc y0)), (103, .box 27 zFrc)]⟩ rfl (Tri.ite h rfl (fun _ h => ?_) (fun _ h => ?_))
 ·refine Tri.seq (Tri.regionL ?_)
  obtain ⟨x_2, e2, h⟩ := bnd h
  refine Oc (op_call0 (q_Bad_spec e2) goes27 rfl rfl) (Oc (op_store_p tyAgg27 rfl rfl rfl rfl (Nat.le_of_ble_eq_true rfl) rfl) ?_)
  refine OpsL.nilS ⟨[(4, Pt 103 0)], [(103, .box 27 (eFrc x_2))]⟩ rfl (Tri.ret (Fin.then_ret ?_))
  obtain rfl := Option.some.inj h
  refine Fin.keepS ⟨[(4, Pt 103 0)], [(103, .box 27 (eFrc x_2))]⟩ rfl (Fin.result' [.agg (eFrc x_2)] (.inl rfl) rfl (.cons (.agg tyAgg27 rfl rfl rfl rfl) .nil) ⟨rfl, rfl⟩)
 ·refine Tri.skip (Fin.keepS ⟨[(2, Pt 101 0), (3, Pt 102 0), (4, Pt 103 0)], [(101, .box 27 (eFrc x0)), (102, .box 27 (eFrc y0)), (103, .box 27 zFrc)]⟩ rfl (Fin.then (Tri.seq ?_)))
  refine Tri.keepS ⟨[(2, Pt 101 0), (3, Pt 102 0), (4, Pt 103 0)], [(101, .box 27 (eFrc x0)), (102, .box 27 (eFrc y0)), (103, .box 27 zFrc)]⟩ rfl ?_
  obtain ⟨x_3, e3, h⟩ := bnd h
  obtain ⟨x_4, e4, h⟩ := bnd h
  refine Tri.regionY mixed 7 [.b (.agg (eFrc x0)), Pt 102 18, .b (.agg (eBig y0.D)), Pt 102 0, .b (.agg (eBig y0.N)), .b (.agg (eFrc x_3)), .b (.agg (eFrc x_4))] [4] [103] (s' := ⟨[(4, Pt 103 0)], [(103, .box 27 (eFrc x_4))]⟩) rfl ⟨fun _ => .p (lp tyAgg27), fun _ => .p (op_field_p tyFld27_1 rfl rfl), fun _ => .p (lp tyAgg25), fun _ => .p (op_field_p tyFld27_0 rfl rfl), fun _ => .p (lp tyAgg25), fun _ => .p (op_call0 (q_Make_spec e3) goes11 rfl rfl), fun _ => .p (op_call0 (q_Mul_spec e4) goes45 rfl rfl), trivial⟩ ⟨_, by exact .p (op_store_p tyAgg27 rfl rfl rfl rfl (Nat.le_of_ble_eq_true rfl) rfl), rfl⟩ rfl (Tri.ret ?_)
  obtain rfl := Option.some.inj h
  refine Fin.keepS ⟨[(4, Pt 103 0)], [(103, .box 27 (eFrc x_4))]⟩ rfl (Fin.result' [.agg (eFrc x_4)] (.inl rfl) rfl (.cons (.agg tyAgg27 rfl rfl rfl rfl) .nil) ⟨rfl, rfl⟩)
def q_Floor_S (F : Nat) (x0 : Frc) : Option Big :=
 (q_Good_S F x0).bind fun x_1 => if (!x_1) = true then ((w_Bad_S F).bind fun x_2 => some x_2) else ((w_Quo_S F x0.N x0.D).bind fun x_3 => some x_3)
theorem q_Floor_spec {F : Nat} {x0 : Frc} {r : Big} (h : q_Floor_S F x0 = some r) : Meets Tryz.prog (tabs mx) 31 [] [.agg (eFrc x0)] (Is [] (.b (.agg (eBig r)))) := by
 unfold q_Floor_S at h
 refine Meets.intro 12 Tryz.func31 Tryz.ntmps31 rfl (by simp) fun E => ?_
 show Tri _ E ⟨12, [], []⟩ _ ⟨[(0, .b (.agg (eFrc x0)))], []⟩ _
 refine Tri.seq (Tri.regionL ?_)
 refine Oc (op_box (k := 101) rfl rfl) (Oc (op_alloc (k := 102) tyZero25 rfl) ?_)
 refine OpsL.nilS ⟨[(1, Pt 101 0), (2, Pt 102 0)], [(101, .box 27 (eFrc x0)), (102, .box 25 zBig)]⟩ rfl (Tri.seq (Tri.seq (Tri.regionL ?_)))
 refine Oc (lp tyAgg27) ?_
 obtain ⟨x_1, e1, h⟩ := bnd h
 refine Oc (op_call0 (q_Good_spec e1) goes26 rfl rfl) (Oc (op_not rfl) ?_)
 refine OpsL.nilS ⟨[(1, Pt 101 0), (2, Pt 102 0), (5, B (!x_1))], [(101, .box 27 (eFrc x0)), (102, .box 25 zBig)]⟩ rfl (Tri.ite h rfl (fun _ h => ?_) (fun _ h => ?_))
 ·refine Tri.seq (Tri.regionL ?_)
  obtain ⟨x_2, e2, h⟩ := bnd h
  refine Oc (op_call0 (w_Bad_spec e2) goes92 rfl rfl) (Oc (op_store_p tyAgg25 rfl rfl rfl rfl (Nat.le_of_ble_eq_true rfl) rfl) ?_)
  refine OpsL.nilS ⟨[(2, Pt 102 0)], [(102, .box 25 (eBig x_2))]⟩ rfl (Tri.ret (Fin.then_ret ?_))
  obtain rfl := Option.some.inj h
  refine Fin.keepS ⟨[(2, Pt 102 0)], [(102, .box 25 (eBig x_2))]⟩ rfl (Fin.result' [.agg (eBig x_2)] (.inl rfl) rfl (.cons (.agg tyAgg25 rfl rfl rfl rfl) .nil) ⟨rfl, rfl⟩)
 ·refine Tri.skip (Fin.keepS ⟨[(1, Pt 101 0), (2, Pt 102 0)], [(101, .box 27 (eFrc x0)), (102, .box 25 zBig)]⟩ rfl (Fin.then (Tri.seq (Tri.regionL ?_))))
  refine Oc (op_field_p tyFld27_0 rfl rfl) (Oc (lp tyAgg25) (Oc (op_field_p tyFld27_1 rfl rfl) (Oc (lp tyAgg25) ?_)))
  obtain ⟨x_3, e3, h⟩ := bnd h
  refine Oc (op_call0 (w_Quo_spec e3) goes75 rfl rfl) (Oc (op_store_p tyAgg25 rfl rfl rfl rfl (Nat.le_of_ble_eq_true rfl) rfl) ?_)
  refine OpsL.nilS ⟨[(2, Pt 102 0)], [(102, .box 25 (eBig x_3))]⟩ rfl (Tri.ret ?_)
  obtain rfl := Option.some.inj h
  refine Fin.keepS ⟨[(2, Pt 102 0)], [(102, .box 25 (eBig x_3))]⟩ rfl (Fin.result' [.agg (eBig x_3)] (.inl rfl) rfl (.cons (.agg tyAgg25 rfl rfl rfl rfl) .nil) ⟨rfl, rfl⟩)
def r3_trim_S (F : Nat) (l0 : List Int) : Option (List Int) :=
 Option.bind (iter F (fun n_2 => (gcall (decide (0 < n_2)) (idx? l0 (IntKind.i64.wrap (n_2 - 1)))).bind fun x_4 => if ((decide (0 < n_2)) && (decide (x_4 = 0))) = true then (some (.inl (IntKind.i64.wrap (n_2 - 1)))) else (some (.inr n_2))) (l0.length : Int)) (fun n_1 => (take? l0 n_1).bind fun x_5 => some x_5)
theorem r3_trim_spec {F : Nat} {l0 : List Int} {r : (List Int)} (h : r3_trim_S F l0 = some r) : Meets Tryz.prog (tabs mx) 119 [] [.one (.sl 1 (l0.map eI))] (Is [] (.b (.one (.sl 1 (r.map eI))))) := by
 unfold r3_trim_S at h
 refine Meets.intro 21 Tryz.func119 Tryz.ntmps119 rfl (by simp) fun E => ?_
 show Tri _ E ⟨21, [], []⟩ _ ⟨[(0, .b (.one (.sl 1 (l0.map eI))))], []⟩ _
 refine Tri.seq (Tri.regionL ?_)
 refine Oc oa (OpsL.nilS ⟨[(0, .b (.one (.sl 1 (l0.map eI))))], []⟩ rfl (Tri.seq (Tri.regionL ?_)))
 refine Oc om (Oc (op_len_e' und70 rfl (List.length_map _)) (Oc oa ?_))
 refine OpsL.nilS ⟨[(0, .b (.one (.sl 1 (l0.map eI)))), (3, I (l0.length : Int))], []⟩ rfl ?_
 obtain ⟨v1, h2, h⟩ := bnd h
 refine Tri.seqJ (v := v1) (fun (n_1 : Int) => ⟨[(0, .b (.one (.sl 1 (l0.map eI)))), (3, I n_1)], []⟩) (fun z => z) ?_ ?_
 ·refine Tri.block (Tri.loopJ h2 (fun (n_2 : Int) => ⟨[(0, .b (.one (.sl 1 (l0.map eI)))), (3, I n_2)], []⟩) [0, 3] [] rfl ?_)
  rintro n_2 o3 h4 hy5
  refine Tri.seq (Tri.seq (Tri.regionL ?_))
  refine Oc om (Oc (op_gtr rfl rfl) (Oc om ?_))
  refine CgT (decide (0 < n_2)) [] (fun g6 => trivial) (fun g6 => om) (CgT (decide (0 < n_2)) [] (fun g7 => by exact trivial) (fun g7 => om) (CgT (decide (0 < n_2)) [10] (fun g8 => by exact ⟨g8, trivial⟩) (fun g8 => op_sub rfl rfl) ?_))
  obtain ⟨x_4, e10, h4⟩ := bnd h4
  refine CgT (decide (0 < n_2)) [9, 11] (fun g9 => ⟨g9, g9, trivial⟩) (fun g9 => op_index_e tySl70 (ix_lo (gc e10 g9)) (ix_map (e := eI) (gc e10 g9)) rfl rfl) (OpsL.keepS ⟨[(0, .b (.one (.sl 1 (l0.map eI)))), (3, I n_2), (8, B (decide (0 < n_2))), (12, .opt (decide (0 < n_2)) (.eptr [.i x_4]))], []⟩ rfl (CgT (decide (0 < n_2)) [12] (fun g11 => ⟨g11, trivial⟩) (fun g11 => op_load_e1 tyOne3 rfl rfl) (CgT (decide (0 < n_2)) [13] (fun g12 => ⟨g12, trivial⟩) (fun g12 => op_eql rfl rfl) (Oc (op_pick_and (fun e => e) rfl rfl rfl rfl) (OpsL.nilS ⟨[(0, .b (.one (.sl 1 (l0.map eI)))), (3, I n_2), (15, B ((decide (0 < n_2)) && (decide (x_4 = 0))))], []⟩ rfl ?_)))))
  refine Tri.ite h4 rfl (fun _ h4 => ?_) (fun _ h4 => ?_)
  ·refine Tri.skip (Fin.keepS ⟨[(0, .b (.one (.sl 1 (l0.map eI)))), (3, I n_2)], []⟩ rfl (Fin.then (Tri.block (Tri.regionL ?_))))
   refine Oc om (Oc (op_sub rfl rfl) (Oc oa ?_))
   refine OpsL.nil (Fin.block_normal ?_)
   exact Fin.againJ [0, 3] [] (IntKind.i64.wrap (n_2 - 1)) (Option.some.inj h4) rfl
  ·refine Tri.exit (Fin.then_exit ?_)
   obtain rfl := hy5 _ (Option.some.inj h4).symm
   refine Fin.then_exit (Fin.block_exit ?_)
   exact Fin.join [0, 3] [] n_2 rfl rfl
 ·rintro n_1 hv
  subst v1
  refine Tri.seq (Tri.regionL ?_)
  refine Oc om (Oc om ?_)
  obtain ⟨x_5, e13, h⟩ := bnd h
  refine Oc (op_slice_h2 tySl70 e13 rfl rfl) (Oc oa ?_)
  refine OpsL.nilS ⟨[(2, .b (.one (.sl 1 (x_5.map eI))))], []⟩ rfl (Tri.ret ?_)
  obtain rfl := Option.some.inj h
  refine Fin.keepS ⟨[(2, .b (.one (.sl 1 (x_5.map eI))))], []⟩ rfl (Fin.result' [.one (.sl 1 (x_5.map eI))] (.inl rfl) rfl (.cons (.tmp rfl) .nil) ⟨rfl, rfl⟩)
def r3_Bad_S (F : Nat) : Option Big :=
 some (⟨true, false, A16.zero⟩ : Big)
theorem r3_Bad_spec {F : Nat} {r : Big} (h : r3_Bad_S F = some r) : Meets Tryz.prog (tabs mx) 83 [] [] (Is [] (.b (.agg (eBig r)))) := by
 unfold r3_Bad_S at h
 refine Meets.intro 2 Tryz.func83 Tryz.ntmps83 rfl (by simp) fun E => ?_
 show Tri _ E ⟨2, [], []⟩ _ ⟨[], []⟩ _
 refine Tri.seq (Tri.regionL ?_)
 refine Oc (op_alloc (k := 101) tyZero25 rfl) (OpsL.nilS ⟨[(0, Pt 101 0)], [(101, .box 25 zBig)]⟩ rfl (Tri.seq (Tri.regionL ?_)))
 refine Oc (op_build tyBuild25 rfl rfl) (Oc (op_store_p tyAgg25 rfl rfl rfl rfl (Nat.le_of_ble_eq_true rfl) rfl) ?_)
 refine OpsL.nilS ⟨[(0, Pt 101 0)], [(101, .box 25 (.bool true :: .bool false :: (eW A16.zero)))]⟩ rfl (Tri.ret ?_)
 obtain rfl := Option.some.inj h
 refine Fin.keepS ⟨[(0, Pt 101 0)], [(101, .box 25 (.bool true :: .bool false :: (eW A16.zero)))]⟩ rfl (Fin.result' [.agg (.bool true :: .bool false :: (eW A16.zero))] (.inl rfl) rfl (.cons (.agg tyAgg25 rfl rfl rfl rfl) .nil) ⟨rfl, rfl⟩)
def r3_number_S (F : Nat) (neg0 : Bool) (l0 : List Int) : Option Big :=
 (r3_trim_S F l0).bind fun x_1 => if (decide (32 < (x_1.length : Int))) = true then ((r3_Bad_S F).bind fun x_2 => some x_2) else (letN (⟨false, neg0 && (decide (0 < (x_1.length : Int))), A16.zero⟩ : Big) fun x_3 => Option.bind (iter F (un2 fun out_5 k_6 => if (decide (k_6 < (x_1.length : Int))) = true then (Option.bind (if (decide ((Int.tmod k_6 2) = 0)) = true then ((quo? .i64 k_6 2).bind fun x_9 => (quo? .i64 k_6 2).bind fun x_10 => (idx? out_5.W.l x_10).bind fun x_11 => (idx? x_1 k_6).bind fun x_12 => (idx? out_5.W.l x_9).bind fun x_13 => some (⟨out_5.Bad, out_5.Neg, out_5.W.set x_9 (IntKind.u32.wrap (x_11 + (IntKind.u32.wrap x_12)))⟩ : Big)) else ((quo? .i64 k_6 2).bind fun x_14 => (quo? .i64 k_6 2).bind fun x_15 => (idx? out_5.W.l x_15).bind fun x_16 => (idx? x_1 k_6).bind fun x_17 => (idx? out_5.W.l x_14).bind fun x_18 => some (⟨out_5.Bad, out_5.Neg, out_5.W.set x_14 (IntKind.u32.wrap (x_16 + (IntKind.u32.wrap ((IntKind.u32.wrap x_17) * 65536))))⟩ : Big))) (fun out_8 => some (.inl (out_8, IntKind.i64.wrap (k_6 + 1))))) else (some (.inr out_5))) (x_3, 0)) (fun out_4 => some out_4))
theorem r3_number_spec {F : Nat} {neg0 : Bool} {l0 : List Int} {r : Big} (h : r3_number_S F neg0 l0 = some r) : Meets Tryz.prog (tabs mx) 76 [] [.one (.bool neg0), .one (.sl 1 (l0.map eI))] (Is [] (.b (.agg (eBig r)))) := by
 unfold r3_number_S at h
 refine Meets.intro 62 Tryz.func76 Tryz.ntmps76 rfl (by simp) fun E => ?_
 show Tri _ E ⟨62, [], []⟩ _ ⟨[(0, B neg0), (1, .b (.one (.sl 1 (l0.map eI))))], []⟩ _
 refine Tri.seq (Tri.regionL ?_)
 refine Oc (op_alloc (k := 101) tyZero25 rfl) (OpsL.nilS ⟨[(0, B neg0), (1, .b (.one (.sl 1 (l0.map eI)))), (4, Pt 101 0)], [(101, .box 25 zBig)]⟩ rfl (Tri.seq (Tri.regionL ?_)))
 refine Oc om ?_
 obtain ⟨x_1, e1, h⟩ := bnd h
 refine Oc (op_call0 (r3_trim_spec e1) goes119 rfl rfl) (Oc oa ?_)
 refine OpsL.nilS ⟨[(0, B neg0), (4, Pt 101 0), (5, .b (.one (.sl 1 (x_1.map eI))))], [(101, .box 25 zBig)]⟩ rfl (Tri.seq (Tri.seq (Tri.regionL ?_)))
 refine Oc om (Oc (op_len_e' und70 rfl (List.length_map _)) (Oc (op_gtr rfl rfl) ?_))
 refine OpsL.nilS ⟨[(0, B neg0), (4, Pt 101 0), (5, .b (.one (.sl 1 (x_1.map eI)))), (12, B (decide (32 < (x_1.length : Int))))], [(101, .box 25 zBig)]⟩ rfl (Tri.ite h rfl (fun _ h => ?_) (fun _ h => ?_))
 ·refine Tri.seq (Tri.regionL ?_)
  obtain ⟨x_2, e2, h⟩ := bnd h
  refine Oc (op_call0 (r3_Bad_spec e2) goes83 rfl rfl) (Oc (op_store_p tyAgg25 rfl rfl rfl rfl (Nat.le_of_ble_eq_true rfl) rfl) ?_)
  refine OpsL.nilS ⟨[(4, Pt 101 0)], [(101, .box 25 (eBig x_2))]⟩ rfl (Tri.ret (Fin.then_ret ?_))
  obtain rfl := Option.some.inj h
  refine Fin.keepS ⟨[(4, Pt 101 0)], [(101, .box 25 (eBig x_2))]⟩ rfl (Fin.result' [.agg (eBig x_2)] (.inl rfl) rfl (.cons (.agg tyAgg25 rfl rfl rfl rfl) .nil) ⟨rfl, rfl⟩)
 ·refine Tri.skip (Fin.keepS ⟨[(0, B neg0), (4, Pt 101 0), (5, .b (.one (.sl 1 (x_1.map eI))))], [(101, .box 25 zBig)]⟩ rfl (Fin.then (Tri.seq (Tri.regionL ?_))))
  refine Oc om (Oc om ?_)
  refine CgT neg0 [] (fun g3 => trivial) (fun g3 => om) (CgT neg0 [16] (fun g4 => by exact ⟨g4, trivial⟩) (fun g4 => op_len_e' und70 rfl (List.length_map _)) (CgT neg0 [17] (fun g5 => by exact ⟨g5, trivial⟩) (fun g5 => op_gtr rfl rfl) (Oc (op_pick_and (fun e => e) rfl rfl rfl rfl) (OpsL.keepS ⟨[(4, Pt 101 0), (5, .b (.one (.sl 1 (x_1.map eI)))), (19, B (neg0 && (decide (0 < (x_1.length : Int)))))], [(101, .box 25 zBig)]⟩ rfl (OpsL.consA eBig h rfl (op_build tyBuild25 rfl rfl) (fun x_3 h => ?_))))))
  refine Oc (op_alloc (k := 102) tyZero25 rfl) (Oc (op_store_p tyAgg25 rfl rfl rfl rfl (Nat.le_of_ble_eq_true rfl) rfl) ?_)
  refine OpsL.nilS ⟨[(4, Pt 101 0), (5, .b (.one (.sl 1 (x_1.map eI)))), (6, Pt 102 0)], [(101, .box 25 zBig), (102, .box 25 (eBig x_3))]⟩ rfl ?_
  obtain ⟨v6, h7, h⟩ := bnd h
  refine Tri.seqJ (v := v6) (fun (out_4 : Big) => ⟨[(4, Pt 101 0), (6, Pt 102 0)], [(101, .box 25 zBig), (102, .box 25 (eBig out_4))]⟩) (fun z => z) ?_ ?_
  ·refine Tri.seq (Tri.regionL ?_)
   refine Oc oa (OpsL.nilS ⟨[(4, Pt 101 0), (5, .b (.one (.sl 1 (x_1.map eI)))), (6, Pt 102 0), (7, I 0)], [(101, .box 25 zBig), (102, .box 25 (eBig x_3))]⟩ rfl (Tri.block (Tri.loopJ h7 (un2 fun (out_5 : Big) (k_6 : Int) => ⟨[(4, Pt 101 0), (5, .b (.one (.sl 1 (x_1.map eI)))), (6, Pt 102 0), (7, I k_6)], [(101, .box 25 zBig), (102, .box 25 (eBig out_5))]⟩) [4, 5, 6, 7] [101, 102] rfl ?_)))
   rintro ⟨out_5, k_6⟩ o8 h9 hy10
   refine Tri.seq (Tri.seq (Tri.regionL ?_))
   refine Oc om (Oc om (Oc (op_len_e' und70 rfl (List.length_map _)) (Oc (op_lss rfl rfl) ?_)))
   refine OpsL.nilS ⟨[(4, Pt 101 0), (5, .b (.one (.sl 1 (x_1.map eI)))), (6, Pt 102 0), (7, I k_6), (24, B (decide (k_6 < (x_1.length : Int))))], [(101, .box 25 zBig), (102, .box 25 (eBig out_5))]⟩ rfl (Tri.ite h9 rfl (fun _ h9 => ?_) (fun _ h9 => ?_))
   ·refine Tri.skip (Fin.keepS ⟨[(4, Pt 101 0), (5, .b (.one (.sl 1 (x_1.map eI)))), (6, Pt 102 0), (7, I k_6)], [(101, .box 25 zBig), (102, .box 25 (eBig out_5))]⟩ rfl (Fin.then ?_))
    obtain ⟨v11, h12, h9⟩ := bnd h9
    refine Tri.seqJ (v := v11) (fun (out_8 : Big) => ⟨[(4, Pt 101 0), (5, .b (.one (.sl 1 (x_1.map eI)))), (6, Pt 102 0), (7, I k_6)], [(101, .box 25 zBig), (102, .box 25 (eBig out_8))]⟩) (fun z => z) ?_ ?_
    ·refine Tri.block (Tri.seq (Tri.regionL ?_))
     refine Oc om (Oc (op_rem (by decide) rfl rfl) (Oc (op_eql rfl rfl) ?_))
     refine OpsL.nilS ⟨[(4, Pt 101 0), (5, .b (.one (.sl 1 (x_1.map eI)))), (6, Pt 102 0), (7, I k_6), (29, B (decide ((Int.tmod k_6 2) = 0)))], [(101, .box 25 zBig), (102, .box 25 (eBig out_5))]⟩ rfl (Tri.ite h12 rfl (fun _ h12 => ?_) (fun _ h12 => ?_))
     ·refine Tri.keepS ⟨[(4, Pt 101 0), (5, .b (.one (.sl 1 (x_1.map eI)))), (6, Pt 102 0), (7, I k_6)], [(101, .box 25 zBig), (102, .box 25 (eBig out_5))]⟩ rfl ?_
      obtain ⟨x_9, e13, h12⟩ := bnd h12
      obtain ⟨x_10, e14, h12⟩ := bnd h12
      obtain ⟨x_11, e15, h12⟩ := bnd h12
      obtain ⟨x_12, e16, h12⟩ := bnd h12
      obtain ⟨x_13, e17, h12⟩ := bnd h12
      refine Tri.regionYF mixed 15 [I k_6, I x_9, I k_6, I x_10, Pt 102 2, .b (.ptr 102 (2 + (x_10 : Int).toNat * 1)), .b (.one (.int .u32 x_11)), .b (.one (.sl 1 (x_1.map eI))), I k_6, .b (.eptr [.i x_12]), I x_12, .b (.one (.int .u32 (IntKind.u32.wrap x_12))), .b (.one (.int .u32 (IntKind.u32.wrap (x_11 + (IntKind.u32.wrap x_12))))), Pt 102 2, .b (.ptr 102 (2 + (x_9 : Int).toNat * 1))] [4, 5, 6, 7] [101, 102] (s' := ⟨[(4, Pt 101 0), (5, .b (.one (.sl 1 (x_1.map eI)))), (6, Pt 102 0), (7, I k_6)], [(101, .box 25 zBig), (102, .box 25 (.bool out_5.Bad :: .bool out_5.Neg :: (eW (out_5.W.set x_9 (IntKind.u32.wrap (x_11 + (IntKind.u32.wrap x_12)))))))]⟩) rfl ⟨fun _ => .p om, fun _ => .p (op_quo2 e13 rfl rfl), fun _ => .p om, fun _ => .p (op_quo2 e14 rfl rfl), fun _ => .p (op_field_p tyFld25_2 rfl rfl), fun _ => .p (op_index_p tyArr23 (ix_lo e15) (ix_hi e15) rfl rfl rfl), fun _ => .p (op_load_p1 tyOne22 rfl rfl (arr_get (post := []) (k := .u32) [.bool out_5.Bad, .bool out_5.Neg] e15 rfl rfl rfl)), fun _ => .p om, fun _ => .p om, fun _ => .p (op_index_e tySl70 (ix_lo e16) (ix_map (e := eI) e16) rfl rfl), fun _ => .p (op_load_e1 tyOne3 rfl rfl), fun _ => .p (op_conv_wrap undi3 undi22 rfl), fun _ => .p (op_add rfl rfl), fun _ => .p (op_field_p tyFld25_2 rfl rfl), fun _ => .p (op_index_p tyArr23 (ix_lo e17) (ix_hi e17) rfl rfl rfl), trivial⟩ ⟨_, by exact .p (op_store_p1 tyOne22 rfl rfl rfl (arr_lt (post := []) (k := .u32) [.bool out_5.Bad, .bool out_5.Neg] e17 rfl rfl rfl) (arr_set (post := []) (k := .u32) [.bool out_5.Bad, .bool out_5.Neg] e17 rfl rfl (A16.set_l out_5.W x_9 (IntKind.u32.wrap (x_11 + (IntKind.u32.wrap x_12)))) rfl rfl)), rfl⟩ rfl (Fin.block_normal ?_)
      exact Fin.join [4, 5, 6, 7] [101, 102] (⟨out_5.Bad, out_5.Neg, out_5.W.set x_9 (IntKind.u32.wrap (x_11 + (IntKind.u32.wrap x_12)))⟩ : Big) (Option.some.inj h12) rfl
     ·refine Tri.keepS ⟨[(4, Pt 101 0), (5, .b (.one (.sl 1 (x_1.map eI)))), (6, Pt 102 0), (7, I k_6)], [(101, .box 25 zBig), (102, .box 25 (eBig out_5))]⟩ rfl ?_
      obtain ⟨x_14, e18, h12⟩ := bnd h12
      obtain ⟨x_15, e19, h12⟩ := bnd h12
      obtain ⟨x_16, e20, h12⟩ := bnd h12
      obtain ⟨x_17, e21, h12⟩ := bnd h12
      obtain ⟨x_18, e22, h12⟩ := bnd h12
      refine Tri.regionYF mixed 16 [I k_6, I x_14, I k_6, I x_15, Pt 102 2, .b (.ptr 102 (2 + (x_15 : Int).toNat * 1)), .b (.one (.int .u32 x_16)), .b (.one (.sl 1 (x_1.map eI))), I k_6, .b (.eptr [.i x_17]), I x_17, .b (.one (.int .u32 (IntKind.u32.wrap x_17))), .b (.one (.int .u32 (IntKind.u32.wrap ((IntKind.u32.wrap x_17) * 65536)))), .b (.one (.int .u32 (IntKind.u32.wrap (x_16 + (IntKind.u32.wrap ((IntKind.u32.wrap x_17) * 65536)))))), Pt 102 2, .b (.ptr 102 (2 + (x_14 : Int).toNat * 1))] [4, 5, 6, 7] [101, 102] (s' := ⟨[(4, Pt 101 0), (5, .b (.one (.sl 1 (x_1.map eI)))), (6, Pt 102 0), (7, I k_6)], [(101, .box 25 zBig), (102, .box 25 (.bool out_5.Bad :: .bool out_5.Neg :: (eW (out_5.W.set x_14 (IntKind.u32.wrap (x_16 + (IntKind.u32.wrap ((IntKind.u32.wrap x_17) * 65536))))))))]⟩) rfl ⟨fun _ => .p om, fun _ => .p (op_quo2 e18 rfl rfl), fun _ => .p om, fun _ => .p (op_quo2 e19 rfl rfl), fun _ => .p (op_field_p tyFld25_2 rfl rfl), fun _ => .p (op_index_p tyArr23 (ix_lo e20) (ix_hi e20) rfl rfl rfl), fun _ => .p (op_load_p1 tyOne22 rfl rfl (arr_get (post := []) (k := .u32) [.bool out_5.Bad, .bool out_5.Neg] e20 rfl rfl rfl)), fun _ => .p om, fun _ => .p om, fun _ => .p (op_index_e tySl70 (ix_lo e21) (ix_map (e := eI) e21) rfl rfl), fun _ => .p (op_load_e1 tyOne3 rfl rfl), fun _ => .p (op_conv_wrap undi3 undi22 rfl), fun _ => .p (op_mul rfl rfl), fun _ => .p (op_add rfl rfl), fun _ => .p (op_field_p tyFld25_2 rfl rfl), fun _ => .p (op_index_p tyArr23 (ix_lo e22) (ix_hi e22) rfl rfl rfl), trivial⟩ ⟨_, by exact .p (op_store_p1 tyOne22 rfl rfl rfl (arr_lt (post := []) (k := .u32) [.bool out_5.Bad, .bool out_5.Neg] e22 rfl rfl rfl) (arr_set (post := []) (k := .u32) [.bool out_5.Bad, .bool out_5.Neg] e22 rfl rfl (A16.set_l out_5.W x_14 (IntKind.u32.wrap (x_16 + (IntKind.u32.wrap ((IntKind.u32.wrap x_17) * 65536))))) rfl rfl)), rfl⟩ rfl (Fin.block_normal ?_)
      exact Fin.join [4, 5, 6, 7] [101, 102] (⟨out_5.Bad, out_5.Neg, out_5.W.set x_14 (IntKind.u32.wrap (x_16 + (IntKind.u32.wrap ((IntKind.u32.wrap x_17) * 65536))))⟩ : Big) (Option.some.inj h12) rfl
    ·rintro out_8 hv
     subst v11
     refine Tri.regionL (Oc om (Oc (op_add rfl rfl) (Oc oa ?_)))
     refine OpsL.nil ?_
     exact Fin.againJ [4, 5, 6, 7] [101, 102] (out_8, IntKind.i64.wrap (k_6 + 1)) (Option.some.inj h9) rfl
   ·refine Tri.exit (Fin.then_exit ?_)
    obtain rfl := hy10 _ (Option.some.inj h9).symm
    refine Fin.then_exit (Fin.block_exit ?_)
    exact Fin.join [4, 6] [101, 102] out_5 rfl rfl
  ·rintro out_4 hv
   subst v6
   refine Tri.seq (Tri.regionL ?_)
   refine Oc (lp tyAgg25) (Oc (op_store_p tyAgg25 rfl rfl rfl rfl (Nat.le_of_ble_eq_true rfl) rfl) ?_)
   refine OpsL.nilS ⟨[(4, Pt 101 0)], [(101, .box 25 (eBig out_4))]⟩ rfl (Tri.ret ?_)
   obtain rfl := Option.some.inj h
   refine Fin.keepS ⟨[(4, Pt 101 0)], [(101, .box 25 (eBig out_4))]⟩ rfl (Fin.result' [.agg (eBig out_4)] (.inl rfl) rfl (.cons (.agg tyAgg25 rfl rfl rfl rfl) .nil) ⟨rfl, rfl⟩)
def r3_digit_S (F : Nat) (l0 : List Int) (k0 : Int) : Option Int :=
 if (decide (k0 < (l0.length : Int))) = true then ((idx? l0 k0).bind fun x_1 => some x_1) else (some 0)
theorem r3_digit_spec {F : Nat} {l0 : List Int} {k0 : Int} {r : Int} (h : r3_digit_S F l0 k0 = some r) : Meets Tryz.prog (tabs mx) 120 [] [.one (.sl 1 (l0.map eI)), .one (.i k0)] (Is [] (.b (.one (.i r)))) := by
 unfold r3_digit_S at h
 refine Meets.intro 13 Tryz.func120 Tryz.ntmps120 rfl (by simp) fun E => ?_
 show Tri _ E ⟨13, [], []⟩ _ ⟨[(0, .b (.one (.sl 1 (l0.map eI)))), (1, I k0)], []⟩ _
 refine Tri.seq (Tri.regionL ?_)
 refine Oc oa (OpsL.nilS ⟨[(0, .b (.one (.sl 1 (l0.map eI)))), (1, I k0)], []⟩ rfl (Tri.seq (Tri.seq (Tri.regionL ?_))))
 refine Oc om (Oc om (Oc (op_len_e' und70 rfl (List.length_map _)) (Oc (op_lss rfl rfl) ?_)))
 refine OpsL.nilS ⟨[(0, .b (.one (.sl 1 (l0.map eI)))), (1, I k0), (8, B (decide (k0 < (l0.length : Int))))], []⟩ rfl (Tri.ite h rfl (fun _ h => ?_) (fun _ h => ?_))
 ·refine Tri.seq (Tri.regionL ?_)
  refine Oc om (Oc om ?_)
  obtain ⟨x_1, e1, h⟩ := bnd h
  refine Oc (op_index_e tySl70 (ix_lo e1) (ix_map (e := eI) e1) rfl rfl) (Oc (op_load_e1 tyOne3 rfl rfl) (Oc oa ?_))
  refine OpsL.nilS ⟨[(4, I x_1)], []⟩ rfl (Tri.ret (Fin.then_ret ?_))
  obtain rfl := Option.some.inj h
  refine Fin.keepS ⟨[(4, I x_1)], []⟩ rfl (Fin.result' [.one (.i x_1)] (.inl rfl) rfl (.cons (.tmp rfl) .nil) ⟨rfl, rfl⟩)
 ·refine Tri.skip (Fin.keepS ⟨[], []⟩ rfl (Fin.then (Tri.seq (Tri.regionL ?_))))
  refine Oc oa (OpsL.nilS ⟨[(4, I 0)], []⟩ rfl (Tri.ret ?_))
  obtain rfl := Option.some.inj h
  refine Fin.keepS ⟨[(4, I 0)], []⟩ rfl (Fin.result' [.one (.i 0)] (.inl rfl) rfl (.cons (.tmp rfl) .nil) ⟨rfl, rfl⟩)
def r3_plus_S (F : Nat) (a0 : List Int) (b0 : List Int) : Option (List Int) :=
 Option.bind (iter F (un3 fun out_2 carry_3 k_4 => letN (max (a0.length : Int) (b0.length : Int)) fun x_6 => if (decide (k_4 < (IntKind.i64.wrap (x_6 + 1)))) = true then ((r3_digit_S F a0 k_4).bind fun x_7 => (r3_digit_S F b0 k_4).bind fun x_8 => letN (IntKind.i64.wrap ((IntKind.i64.wrap (x_7 + x_8)) + carry_3)) fun x_9 => (app? out_2 [Int.tmod x_9 65536]).bind fun x_10 => (quo? .i64 x_9 65536).bind fun x_11 => some (.inl (x_10, x_11, IntKind.i64.wrap (k_4 + 1)))) else (some (.inr out_2))) ([], 0, 0)) (fun out_1 => (r3_trim_S F out_1).bind fun x_12 => some x_12)
theorem r3_plus_spec {F : Nat} {a0 : List Int} {b0 : List Int} {r : (List Int)} (h : r3_plus_S F a0 b0 = some r) : Meets Tryz.prog (tabs mx) 77 [] [.one (.sl 1 (a0.map eI)), .one (.sl 1 (b0.map eI))] (Is [] (.b (.one (.sl 1 (r.map eI))))) := by
 unfold r3_plus_S at h
 refine Meets.intro 37 Tryz.func77 Tryz.ntmps77 rfl (by simp) fun E => ?_
 show Tri _ E ⟨37, [], []⟩ _ ⟨[(0, .b (.one (.sl 1 (a0.map eI)))), (1, .b (.one (.sl 1 (b0.map eI))))], []⟩ _
 refine Tri.seq (Tri.regionL ?_)
 refine Oc oa (OpsL.nilS ⟨[(0, .b (.one (.sl 1 (a0.map eI)))), (1, .b (.one (.sl 1 (b0.map eI))))], []⟩ rfl (Tri.seq (Tri.regionL ?_)))
 refine Oc oa (OpsL.nilS ⟨[(0, .b (.one (.sl 1 (a0.map eI)))), (1, .b (.one (.sl 1 (b0.map eI)))), (5, .b (.one (.nil)))], []⟩ rfl (Tri.seq (Tri.regionL ?_)))
 refine Oc oa (OpsL.nilS ⟨[(0, .b (.one (.sl 1 (a0.map eI)))), (1, .b (.one (.sl 1 (b0.map eI)))), (5, .b (.one (.nil))), (6, I 0)], []⟩ rfl ?_)
 obtain ⟨v1, h2, h⟩ := bnd h
 refine Tri.seqJ (v := v1) (fun (out_1 : List Int) => ⟨[(5, .b (.row 102))], [(102, .row 3 1 (out_1.map eI))]⟩) (fun z => z) ?_ ?_
 ·refine Tri.seq (Tri.regionL ?_)
  refine Oc oa (OpsL.nilS ⟨[(0, .b (.one (.sl 1 (a0.map eI)))), (1, .b (.one (.sl 1 (b0.map eI)))), (5, .b (.one (.nil))), (6, I 0), (7, I 0)], []⟩ rfl (Tri.block (Tri.nilrow 5 102 1 3 rfl (by decide) rfl (Tri.loopJ h2 (un3 fun (out_2 : List Int) (carry_3 : Int) (k_4 : Int) => ⟨[(0, .b (.one (.sl 1 (a0.map eI)))), (1, .b (.one (.sl 1 (b0.map eI)))), (5, .b (.row 102)), (6, I carry_3), (7, I k_4)], [(102, .row 3 1 (out_2.map eI))]⟩) [0, 1, 5, 6, 7] [102] rfl ?_))))
  rintro ⟨out_2, carry_3, k_4⟩ o3 h4 hy5
  refine Tri.seq (Tri.seq (Tri.regionL ?_))
  refine Oc om (Oc om (Oc (op_len_e' und70 rfl (List.length_map _)) (Oc om (Oc (op_len_e' und70 rfl (List.length_map _)) ?_))))
  refine OpsL.keepS ⟨[(0, .b (.one (.sl 1 (a0.map eI)))), (1, .b (.one (.sl 1 (b0.map eI)))), (5, .b (.row 102)), (6, I carry_3), (7, I k_4), (9, I k_4), (11, I (a0.length : Int)), (13, I (b0.length : Int))], [(102, .row 3 1 (out_2.map eI))]⟩ rfl (OpsL.consI .i64 h4 rfl (op_max rfl rfl) (fun x_6 h4 => ?_))
  refine Oc (op_add rfl rfl) (Oc (op_lss rfl rfl) ?_)
  refine OpsL.nilS ⟨[(0, .b (.one (.sl 1 (a0.map eI)))), (1, .b (.one (.sl 1 (b0.map eI)))), (5, .b (.row 102)), (6, I carry_3), (7, I k_4), (16, B (decide (k_4 < (IntKind.i64.wrap (x_6 + 1)))))], [(102, .row 3 1 (out_2.map eI))]⟩ rfl (Tri.ite h4 rfl (fun _ h4 => ?_) (fun _ h4 => ?_))
  ·refine Tri.skip (Fin.keepS ⟨[(0, .b (.one (.sl 1 (a0.map eI)))), (1, .b (.one (.sl 1 (b0.map eI)))), (5, .b (.row 102)), (6, I carry_3), (7, I k_4)], [(102, .row 3 1 (out_2.map eI))]⟩ rfl (Fin.then (Tri.seq (Tri.block (Tri.seq (Tri.regionL ?_))))))
   refine Oc om (Oc om ?_)
   obtain ⟨x_7, e6, h4⟩ := bnd h4
   refine Oc (op_call0 (r3_digit_spec e6) goes120 rfl rfl) (Oc om (Oc om ?_))
   refine OpsL.keepS ⟨[(0, .b (.one (.sl 1 (a0.map eI)))), (1, .b (.one (.sl 1 (b0.map eI)))), (5, .b (.row 102)), (6, I carry_3), (7, I k_4), (21, I x_7), (22, .b (.one (.sl 1 (b0.map eI)))), (23, I k_4)], [(102, .row 3 1 (out_2.map eI))]⟩ rfl ?_
   obtain ⟨x_8, e7, h4⟩ := bnd h4
   refine Oc (op_call0 (r3_digit_spec e7) goes120 rfl rfl) (Oc (op_add rfl rfl) (Oc om ?_))
   refine OpsL.consI .i64 h4 rfl (op_add rfl rfl) (fun x_9 h4 => ?_)
   refine Oc oa (OpsL.nilS ⟨[(0, .b (.one (.sl 1 (a0.map eI)))), (1, .b (.one (.sl 1 (b0.map eI)))), (5, .b (.row 102)), (7, I k_4), (8, I x_9)], [(102, .row 3 1 (out_2.map eI))]⟩ rfl (Tri.seq (Tri.regionL ?_)))
   refine Oc om (Oc om (Oc (op_rem (by decide) rfl rfl) (Oc (op_buildSlice (k := 103) (es := [Int.tmod x_9 65536].map eI) tySl70 rfl rfl (uni_map fun _ => rfl) rfl (by decide) (by decide) rfl) ?_)))
   obtain ⟨x_10, e8, h4⟩ := bnd h4
   refine Oc (op_append_r tySl70 (app_b e8) (app_m e8) rfl rfl rfl rfl (app_map e8) rfl) (Oc oa ?_)
   refine OpsL.nilS ⟨[(0, .b (.one (.sl 1 (a0.map eI)))), (1, .b (.one (.sl 1 (b0.map eI)))), (5, .b (.row 102)), (7, I k_4), (8, I x_9)], [(102, .row 3 1 (x_10.map eI))]⟩ rfl (Tri.regionL (Oc om ?_))
   obtain ⟨x_11, e9, h4⟩ := bnd h4
   refine Oc (op_quo2 e9 rfl rfl) (Oc oa ?_)
   refine OpsL.nil (Fin.block_normal (Fin.keepS ⟨[(0, .b (.one (.sl 1 (a0.map eI)))), (1, .b (.one (.sl 1 (b0.map eI)))), (5, .b (.row 102)), (6, I x_11), (7, I k_4)], [(102, .row 3 1 (x_10.map eI))]⟩ rfl (Fin.then (Tri.regionL ?_))))
   refine Oc om (Oc (op_add rfl rfl) (Oc oa ?_))
   refine OpsL.nil ?_
   exact Fin.againJ [0, 1, 5, 6, 7] [102] (x_10, x_11, IntKind.i64.wrap (k_4 + 1)) (Option.some.inj h4) rfl
  ·refine Tri.exit (Fin.then_exit ?_)
   obtain rfl := hy5 _ (Option.some.inj h4).symm
   refine Fin.then_exit (Fin.block_exit ?_)
   exact Fin.join [5] [102] out_2 rfl rfl
 ·rintro out_1 hv
  subst v1
  refine Tri.seq (Tri.regionL ?_)
  refine Oc om (OpsL.persist 102 rfl ?_)
  obtain ⟨x_12, e10, h⟩ := bnd h
  refine Oc (op_call0 (r3_trim_spec e10) goes119 rfl rfl) (Oc oa ?_)
  refine OpsL.nilS ⟨[(4, .b (.one (.sl 1 (x_12.map eI))))], []⟩ rfl (Tri.ret ?_)
  obtain rfl := Option.some.inj h
  refine Fin.keepS ⟨[(4, .b (.one (.sl 1 (x_12.map eI))))], []⟩ rfl (Fin.result' [.one (.sl 1 (x_12.map eI))] (.inl rfl) rfl (.cons (.tmp rfl) .nil) ⟨rfl, rfl⟩)
def r3_Of_S (F : Nat) (n0 : Int) : Option Big :=
 if (decide (0 ≤ n0)) = true then ((quo? .i64 n0 65536).bind fun x_1 => (quo? .i64 n0 4294967296).bind fun x_2 => (quo? .i64 n0 281474976710656).bind fun x_3 => (r3_number_S F false [Int.tmod n0 65536, Int.tmod x_1 65536, Int.tmod x_2 65536, x_3]).bind fun x_4 => some x_4) else (letN (IntKind.i64.wrap (-(IntKind.i64.wrap (n0 + 1)))) fun x_5 => (quo? .i64 x_5 65536).bind fun x_6 => (quo? .i64 x_5 4294967296).bind fun x_7 => (quo? .i64 x_5 281474976710656).bind fun x_8 => (r3_plus_S F [Int.tmod x_5 65536, Int.tmod x_6 65536, Int.tmod x_7 65536, x_8] [1]).bind fun x_9 => (r3_number_S F true x_9).bind fun x_10 => some x_10)
theorem r3_Of_spec {F : Nat} {n0 : Int} {r : Big} (h : r3_Of_S F n0 = some r) : Meets Tryz.prog (tabs mx) 12 [] [.one (.i n0)] (Is [] (.b (.agg (eBig r)))) := by
 unfold r3_Of_S at h
 refine Meets.intro 35 Tryz.func12 Tryz.ntmps12 rfl (by simp) fun E => ?_
 show Tri _ E ⟨35, [], []⟩ _ ⟨[(0, I n0)], []⟩ _
 refine Tri.seq (Tri.regionL ?_)
 refine Oc (op_alloc (k := 101) tyZero25 rfl) (OpsL.nilS ⟨[(0, I n0), (2, Pt 101 0)], [(101, .box 25 zBig)]⟩ rfl (Tri.seq (Tri.seq (Tri.regionL ?_))))
 refine Oc om (Oc (op_geq rfl rfl) ?_)
 refine OpsL.nilS ⟨[(0, I n0), (2, Pt 101 0), (5, B (decide (0 ≤ n0)))], [(101, .box 25 zBig)]⟩ rfl (Tri.ite h rfl (fun _ h => ?_) (fun _ h => ?_))
 ·refine Tri.seq (Tri.regionL ?_)
  refine Oc om (Oc (op_rem (by decide) rfl rfl) (Oc om ?_))
  obtain ⟨x_1, e1, h⟩ := bnd h
  refine Oc (op_quo2 e1 rfl rfl) (Oc (op_rem (by decide) rfl rfl) (Oc om ?_))
  obtain ⟨x_2, e2, h⟩ := bnd h
  refine Oc (op_quo2 e2 rfl rfl) (OpsL.keepS ⟨[(0, I n0), (2, Pt 101 0), (7, I (Int.tmod n0 65536)), (10, I (Int.tmod x_1 65536)), (12, I x_2)], [(101, .box 25 zBig)]⟩ rfl (Oc (op_rem (by decide) rfl rfl) (Oc om ?_)))
  obtain ⟨x_3, e3, h⟩ := bnd h
  refine Oc (op_quo2 e3 rfl rfl) (Oc (op_buildSlice (k := 102) (es := [Int.tmod n0 65536, Int.tmod x_1 65536, Int.tmod x_2 65536, x_3].map eI) tySl70 rfl rfl (uni_map fun _ => rfl) rfl (by decide) (by decide) rfl) ?_)
  obtain ⟨x_4, e4, h⟩ := bnd h
  refine Oc (op_callB (r3_number_spec e4) goes76 rfl (flat_agg ⟨CP.flat_bool, CP.flat_bool, CP.flat_int, CP.flat_int, CP.flat_int, CP.flat_int, CP.flat_int, CP.flat_int, CP.flat_int, CP.flat_int, CP.flat_int, CP.flat_int, CP.flat_int, CP.flat_int, CP.flat_int, CP.flat_int, CP.flat_int, CP.flat_int, trivial⟩)) (Oc (op_store_p tyAgg25 rfl rfl rfl rfl (Nat.le_of_ble_eq_true rfl) rfl) ?_)
  refine OpsL.nilS ⟨[(2, Pt 101 0)], [(101, .box 25 (eBig x_4))]⟩ rfl (Tri.ret (Fin.then_ret ?_))
  obtain rfl := Option.some.inj h
  refine Fin.keepS ⟨[(2, Pt 101 0)], [(101, .box 25 (eBig x_4))]⟩ rfl (Fin.result' [.agg (eBig x_4)] (.inl rfl) rfl (.cons (.agg tyAgg25 rfl rfl rfl rfl) .nil) ⟨rfl, rfl⟩)
 ·refine Tri.skip (Fin.keepS ⟨[(0, I n0), (2, Pt 101 0)], [(101, .box 25 zBig)]⟩ rfl (Fin.then (Tri.seq (Tri.regionL ?_))))
  refine Oc om (Oc (op_add rfl rfl) ?_)
  refine OpsL.consI .i64 h rfl (op_neg rfl) (fun x_5 h => ?_)
  refine Oc oa (OpsL.nilS ⟨[(2, Pt 101 0), (3, I x_5)], [(101, .box 25 zBig)]⟩ rfl (Tri.seq (Tri.regionL ?_)))
  refine Oc om (Oc (op_rem (by decide) rfl rfl) (Oc om ?_))
  obtain ⟨x_6, e5, h⟩ := bnd h
  refine Oc (op_quo2 e5 rfl rfl) (Oc (op_rem (by decide) rfl rfl) (Oc om ?_))
  obtain ⟨x_7, e6, h⟩ := bnd h
  refine Oc (op_quo2 e6 rfl rfl) (OpsL.keepS ⟨[(2, Pt 101 0), (3, I x_5), (22, I (Int.tmod x_5 65536)), (25, I (Int.tmod x_6 65536)), (27, I x_7)], [(101, .box 25 zBig)]⟩ rfl (Oc (op_rem (by decide) rfl rfl) (Oc om ?_)))
  obtain ⟨x_8, e7, h⟩ := bnd h
  refine Oc (op_quo2 e7 rfl rfl) (Oc (op_buildSlice (k := 103) (es := [Int.tmod x_5 65536, Int.tmod x_6 65536, Int.tmod x_7 65536, x_8].map eI) tySl70 rfl rfl (uni_map fun _ => rfl) rfl (by decide) (by decide) rfl) (Oc (op_buildSlice (k := 104) (es := [1].map eI) tySl70 rfl rfl (uni_map fun _ => rfl) rfl (by decide) (by decide) rfl) ?_))
  refine OpsL.persist 103 rfl (OpsL.persist 104 rfl (OpsL.keepS ⟨[(2, Pt 101 0), (31, .b (.one (.sl 1 ([Int.tmod x_5 65536, Int.tmod x_6 65536, Int.tmod x_7 65536, x_8].map eI)))), (32, .b (.one (.sl 1 ([1].map eI))))], [(101, .box 25 zBig)]⟩ rfl ?_))
  obtain ⟨x_9, e8, h⟩ := bnd h
  refine Oc (op_call0 (r3_plus_spec e8) goes77 rfl rfl) ?_
  obtain ⟨x_10, e9, h⟩ := bnd h
  refine Oc (op_call0 (r3_number_spec e9) goes76 rfl rfl) (Oc (op_store_p tyAgg25 rfl rfl rfl rfl (Nat.le_of_ble_eq_true rfl) rfl) ?_)
  refine OpsL.nilS ⟨[(2, Pt 101 0)], [(101, .box 25 (eBig x_10))]⟩ rfl (Tri.ret ?_)
  obtain rfl := Option.some.inj h
  refine Fin.keepS ⟨[(2, Pt 101 0)], [(101, .box 25 (eBig x_10))]⟩ rfl (Fin.result' [.agg (eBig x_10)] (.inl rfl) rfl (.cons (.agg tyAgg25 rfl rfl rfl rfl) .nil) ⟨rfl, rfl⟩)
def q_Neg_S (F : Nat) (x0 : Frc) : Option Frc :=
 (q_Good_S F x0).bind fun x_1 => if (!x_1) = true then ((q_Bad_S F).bind fun x_2 => some x_2) else ((w_Neg_S F x0.N).bind fun x_3 => some (⟨x_3, x0.D⟩ : Frc))
theorem q_Neg_spec {F : Nat} {x0 : Frc} {r : Frc} (h : q_Neg_S F x0 = some r) : Meets Tryz.prog (tabs mx) 43 [] [.agg (eFrc x0)] (Is [] (.b (.agg (eFrc r)))) := by
 unfold q_Neg_S at h
 refine Meets.intro 13 Tryz.func43 Tryz.ntmps43 rfl (by simp) fun E => ?_
 show Tri _ E ⟨13, [], []⟩ _ ⟨[(0, .b (.agg (eFrc x0)))], []⟩ _
 refine Tri.seq (Tri.regionL ?_)
 refine Oc (op_box (k := 101) rfl rfl) (Oc (op_alloc (k := 102) tyZero27 rfl) ?_)
 refine OpsL.nilS ⟨[(1, Pt 101 0), (2, Pt 102 0)], [(101, .box 27 (eFrc x0)), (102, .box 27 zFrc)]⟩ rfl (Tri.seq (Tri.seq (Tri.regionL ?_)))
 refine Oc (lp tyAgg27) ?_
 obtain ⟨x_1, e1, h⟩ := bnd h
 refine Oc (op_call0 (q_Good_spec e1) goes26 rfl rfl) (Oc (op_not rfl) ?_)
 refine OpsL.nilS ⟨[(1, Pt 101 0), (2, Pt 102 0), (5, B (!x_1))], [(101, .box 27 (eFrc x0)), (102, .box 27 zFrc)]⟩ rfl (Tri.ite h rfl (fun _ h => ?_) (fun _ h => ?_))
 ·refine Tri.seq (Tri.regionL ?_)
  obtain ⟨x_2, e2, h⟩ := bnd h
  refine Oc (op_call0 (q_Bad_spec e2) goes27 rfl rfl) (Oc (op_store_p tyAgg27 rfl rfl rfl rfl (Nat.le_of_ble_eq_true rfl) rfl) ?_)
  refine OpsL.nilS ⟨[(2, Pt 102 0)], [(102, .box 27 (eFrc x_2))]⟩ rfl (Tri.ret (Fin.then_ret ?_))
  obtain rfl := Option.some.inj h
  refine Fin.keepS ⟨[(2, Pt 102 0)], [(102, .box 27 (eFrc x_2))]⟩ rfl (Fin.result' [.agg (eFrc x_2)] (.inl rfl) rfl (.cons (.agg tyAgg27 rfl rfl rfl rfl) .nil) ⟨rfl, rfl⟩)
 ·refine Tri.skip (Fin.keepS ⟨[(1, Pt 101 0), (2, Pt 102 0)], [(101, .box 27 (eFrc x0)), (102, .box 27 zFrc)]⟩ rfl (Fin.then (Tri.seq ?_)))
  refine Tri.keepS ⟨[(1, Pt 101 0), (2, Pt 102 0)], [(101, .box 27 (eFrc x0)), (102, .box 27 zFrc)]⟩ rfl ?_
  obtain ⟨x_3, e3, h⟩ := bnd h
  refine Tri.regionY mixed 6 [Pt 101 0, .b (.agg (eBig x0.N)), .b (.agg (eBig x_3)), Pt 101 18, .b (.agg (eBig x0.D)), .b (.agg (eBig x_3 ++ (eBig x0.D)))] [2] [102] (s' := ⟨[(2, Pt 102 0)], [(102, .box 27 (eBig x_3 ++ (eBig x0.D)))]⟩) rfl ⟨fun _ => .p (op_field_p tyFld27_0 rfl rfl), fun _ => .p (lp tyAgg25), fun _ => .p (op_call0 (w_Neg_spec e3) goes74 rfl rfl), fun _ => .p (op_field_p tyFld27_1 rfl rfl), fun _ => .p (lp tyAgg25), fun _ => .p (op_build tyBuild27 rfl rfl), trivial⟩ ⟨_, by exact .p (op_store_p tyAgg27 rfl rfl rfl rfl (Nat.le_of_ble_eq_true rfl) rfl), rfl⟩ rfl (Tri.ret ?_)
  obtain rfl := Option.some.inj h
  refine Fin.keepS ⟨[(2, Pt 102 0)], [(102, .box 27 (eBig x_3 ++ (eBig x0.D)))]⟩ rfl (Fin.result' [.agg (eBig x_3 ++ (eBig x0.D))] (.inl rfl) rfl (.cons (.agg tyAgg27 rfl rfl rfl rfl) .nil) ⟨rfl, rfl⟩)
def q_Ceil_S (F : Nat) (x0 : Frc) : Option Big :=
 (q_Neg_S F x0).bind fun x_1 => (q_Floor_S F x_1).bind fun x_2 => (w_Neg_S F x_2).bind fun x_3 => some x_3
theorem q_Ceil_spec {F : Nat} {x0 : Frc} {r : Big} (h : q_Ceil_S F x0 = some r) : Meets Tryz.prog (tabs mx) 33 [] [.agg (eFrc x0)] (Is [] (.b (.agg (eBig r)))) := by
 unfold q_Ceil_S at h
 refine Meets.intro 7 Tryz.func33 Tryz.ntmps33 rfl (by simp) fun E => ?_
 show Tri _ E ⟨7, [], []⟩ _ ⟨[(0, .b (.agg (eFrc x0)))], []⟩ _
 refine Tri.seq (Tri.regionL ?_)
 refine Oc (op_box (k := 101) rfl rfl) (Oc (op_alloc (k := 102) tyZero25 rfl) ?_)
 refine OpsL.nilS ⟨[(1, Pt 101 0), (2, Pt 102 0)], [(101, .box 27 (eFrc x0)), (102, .box 25 zBig)]⟩ rfl (Tri.seq (Tri.regionL ?_))
 refine Oc (lp tyAgg27) ?_
 obtain ⟨x_1, e1, h⟩ := bnd h
 refine Oc (op_call0 (q_Neg_spec e1) goes43 rfl rfl) ?_
 obtain ⟨x_2, e2, h⟩ := bnd h
 refine Oc (op_call0 (q_Floor_spec e2) goes31 rfl rfl) ?_
 obtain ⟨x_3, e3, h⟩ := bnd h
 refine Oc (op_call0 (w_Neg_spec e3) goes74 rfl rfl) (Oc (op_store_p tyAgg25 rfl rfl rfl rfl (Nat.le_of_ble_eq_true rfl) rfl) ?_)
 refine OpsL.nilS ⟨[(2, Pt 102 0)], [(102, .box 25 (eBig x_3))]⟩ rfl (Tri.ret ?_)
 obtain rfl := Option.some.inj h
 refine Fin.keepS ⟨[(2, Pt 102 0)], [(102, .box 25 (eBig x_3))]⟩ rfl (Fin.result' [.agg (eBig x_3)] (.inl rfl) rfl (.cons (.agg tyAgg25 rfl rfl rfl rfl) .nil) ⟨rfl, rfl⟩)
def w_Rem_S (F : Nat) (a0 : Big) (b0 : Big) : Option Big :=
 Option.bind (w_divided_S F a0 b0) (un2 fun x_1 x_2 => some x_2)
theorem w_Rem_spec {F : Nat} {a0 : Big} {b0 : Big} {r : Big} (h : w_Rem_S F a0 b0 = some r) : Meets Tryz.prog (tabs mx) 94 [] [.agg (eBig a0), .agg (eBig b0)] (Is [] (.b (.agg (eBig r)))) := by
 unfold w_Rem_S at h
 refine Meets.intro 14 Tryz.func94 Tryz.ntmps94 rfl (by simp) fun E => ?_
 show Tri _ E ⟨14, [], []⟩ _ ⟨[(0, .b (.agg (eBig a0))), (1, .b (.agg (eBig b0)))], []⟩ _
 refine Tri.seq (Tri.regionL ?_)
 refine Oc (op_box (k := 101) rfl rfl) (Oc (op_box (k := 102) rfl rfl) (Oc (op_alloc (k := 103) tyZero25 rfl) ?_))
 refine OpsL.nilS ⟨[(2, Pt 101 0), (3, Pt 102 0), (4, Pt 103 0)], [(101, .box 25 (eBig a0)), (102, .box 25 (eBig b0)), (103, .box 25 zBig)]⟩ rfl (Tri.seq (Tri.regionL ?_))
 refine Oc (lp tyAgg25) (Oc (lp tyAgg25) ?_)
 obtain ⟨⟨x_1, x_2⟩, e1, h⟩ := bnd h
 refine Oc (op_call0 (w_divided_spec e1) goes118 rfl rfl) (Oc om (Oc (op_extract rfl rfl) ?_))
 refine OpsL.keepS ⟨[(4, Pt 103 0), (7, .tup [.agg (eBig x_1), .agg (eBig x_2)]), (11, .b (.agg (eBig x_1)))], [(103, .box 25 zBig)]⟩ rfl (Oc (op_extract rfl rfl) (Oc (op_alloc (k := 104) tyZero25 rfl) (Oc (op_alloc (k := 105) tyZero25 rfl) (Oc (op_store_p tyAgg25 rfl rfl rfl rfl (Nat.le_of_ble_eq_true rfl) rfl) (Oc (op_store_p tyAgg25 rfl rfl rfl rfl (Nat.le_of_ble_eq_true rfl) rfl) ?_)))))
 refine OpsL.nilS ⟨[(4, Pt 103 0), (6, Pt 105 0)], [(103, .box 25 zBig), (105, .box 25 (eBig x_2))]⟩ rfl (Tri.seq (Tri.regionL ?_))
 refine Oc (lp tyAgg25) (Oc (op_store_p tyAgg25 rfl rfl rfl rfl (Nat.le_of_ble_eq_true rfl) rfl) ?_)
 refine OpsL.nilS ⟨[(4, Pt 103 0)], [(103, .box 25 (eBig x_2))]⟩ rfl (Tri.ret ?_)
 obtain rfl := Option.some.inj h
 refine Fin.keepS ⟨[(4, Pt 103 0)], [(103, .box 25 (eBig x_2))]⟩ rfl (Fin.result' [.agg (eBig x_2)] (.inl rfl) rfl (.cons (.agg tyAgg25 rfl rfl rfl rfl) .nil) ⟨rfl, rfl⟩)
def w_Cmp_S (F : Nat) (a0 : Big) (b0 : Big) : Option Int :=
 (w_good_S F [a0]).bind fun x_1 => (w_good_S F [b0]).bind fun x_2 => if ((!x_1) && (!x_2)) = true then (some 0) else (if (!x_1) = true then (some (-1)) else (if (!x_2) = true then (some 1) else (if (a0.Neg != b0.Neg) = true then (if a0.Neg = true then (some (-1)) else (some 1)) else (if a0.Neg = true then ((w_order_S F b0.W a0.W).bind fun x_3 => some x_3) else ((w_order_S F a0.W b0.W).bind fun x_4 => some x_4)))))
theorem w_Cmp_spec {F : Nat} {a0 : Big} {b0 : Big} {r : Int} (h : w_Cmp_S F a0 b0 = some r) : Meets Tryz.prog (tabs mx) 95 [] [.agg (eBig a0), .agg (eBig b0)] (Is [] (.b (.one (.i r)))) := by
 unfold w_Cmp_S at h
 refine Meets.intro 47 Tryz.func95 Tryz.ntmps95 rfl (by simp) fun E => ?_
 show Tri _ E ⟨47, [], []⟩ _ ⟨[(0, .b (.agg (eBig a0))), (1, .b (.agg (eBig b0)))], []⟩ _
 refine Tri.seq (Tri.regionL ?_)
 refine Oc (op_box (k := 101) rfl rfl) (Oc (op_box (k := 102) rfl rfl) (Oc oa ?_))
 refine OpsL.nilS ⟨[(2, Pt 101 0), (3, Pt 102 0)], [(101, .box 25 (eBig a0)), (102, .box 25 (eBig b0))]⟩ rfl (Tri.seq ?_)
 obtain ⟨x_1, e1, h⟩ := bnd h
 obtain ⟨x_2, e2, h⟩ := bnd h
 refine Tri.regionY mixed 8 [.b (.agg (eBig a0)), .b (.one (.sl 18 ([a0].map eBig))), B x_1, .b (.agg (eBig b0)), .b (.one (.sl 18 ([b0].map eBig))), B x_2, B x_1, B x_2] [2, 3, 5, 6] [101, 102] (s' := ⟨[(2, Pt 101 0), (3, Pt 102 0), (5, B x_1), (6, B x_2)], [(101, .box 25 (eBig a0)), (102, .box 25 (eBig b0))]⟩) rfl ⟨fun _ => .p (lp tyAgg25), fun _ => .p (op_buildSliceP (es := [a0].map eBig) tySl117 rfl rfl (uni_map fun _ => rfl) rfl (by decide) (by decide)), fun _ => .p (op_call0 (w_good_spec e1) goes113 rfl rfl), fun _ => .p (lp tyAgg25), fun _ => .p (op_buildSliceP (es := [b0].map eBig) tySl117 rfl rfl (uni_map fun _ => rfl) rfl (by decide) (by decide)), fun _ => .p (op_call0 (w_good_spec e2) goes113 rfl rfl), fun _ => .p oa, fun _ => .p oa, trivial⟩ rfl rfl (Tri.seq (Tri.block (Tri.seq (Tri.regionL ?_))))
 refine Oc om (Oc (op_not rfl) (Oc om ?_))
 refine CgT (!x_1) [] (fun g3 => trivial) (fun g3 => om) (CgT (!x_1) [17] (fun g4 => by exact ⟨g4, trivial⟩) (fun g4 => op_not rfl) (Oc (op_pick_and (fun e => e) rfl rfl rfl rfl) (Oc oa ?_)))
 refine OpsL.nilS ⟨[(2, Pt 101 0), (3, Pt 102 0), (5, B x_1), (6, B x_2), (13, B ((!x_1) && (!x_2)))], [(101, .box 25 (eBig a0)), (102, .box 25 (eBig b0))]⟩ rfl (Tri.ite h rfl (fun _ h => ?_) (fun _ h => ?_))
 ·refine Tri.seq (Tri.regionL ?_)
  refine Oc oa (OpsL.nilS ⟨[(4, I 0)], []⟩ rfl (Tri.ret (Fin.block_ret (Fin.then_ret ?_))))
  obtain rfl := Option.some.inj h
  refine Fin.keepS ⟨[(4, I 0)], []⟩ rfl (Fin.result' [.one (.i 0)] (.inl rfl) rfl (.cons (.tmp rfl) .nil) ⟨rfl, rfl⟩)
 ·refine Tri.seq (Tri.regionL ?_)
  refine Oc om (Oc (op_not rfl) (Oc oa ?_))
  refine OpsL.nilS ⟨[(2, Pt 101 0), (3, Pt 102 0), (6, B x_2), (20, B (!x_1))], [(101, .box 25 (eBig a0)), (102, .box 25 (eBig b0))]⟩ rfl (Tri.ite h rfl (fun _ h => ?_) (fun _ h => ?_))
  ·refine Tri.seq (Tri.regionL ?_)
   refine Oc oa (OpsL.nilS ⟨[(4, I (-1))], []⟩ rfl (Tri.ret (Fin.block_ret (Fin.then_ret ?_))))
   obtain rfl := Option.some.inj h
   refine Fin.keepS ⟨[(4, I (-1))], []⟩ rfl (Fin.result' [.one (.i (-1))] (.inl rfl) rfl (.cons (.tmp rfl) .nil) ⟨rfl, rfl⟩)
  ·refine Tri.seq (Tri.regionL ?_)
   refine Oc om (Oc (op_not rfl) (Oc oa ?_))
   refine OpsL.nilS ⟨[(2, Pt 101 0), (3, Pt 102 0), (23, B (!x_2))], [(101, .box 25 (eBig a0)), (102, .box 25 (eBig b0))]⟩ rfl (Tri.ite h rfl (fun _ h => ?_) (fun _ h => ?_))
   ·refine Tri.seq (Tri.regionL ?_)
    refine Oc oa (OpsL.nilS ⟨[(4, I 1)], []⟩ rfl (Tri.ret (Fin.block_ret (Fin.then_ret ?_))))
    obtain rfl := Option.some.inj h
    refine Fin.keepS ⟨[(4, I 1)], []⟩ rfl (Fin.result' [.one (.i 1)] (.inl rfl) rfl (.cons (.tmp rfl) .nil) ⟨rfl, rfl⟩)
   ·refine Tri.seq (Tri.regionL ?_)
    refine Oc (op_field_p tyFld25_1 rfl rfl) (Oc (op_load_p1 tyOne4 rfl rfl rfl) (Oc (op_field_p tyFld25_1 rfl rfl) (Oc (op_load_p1 tyOne4 rfl rfl rfl) (Oc (op_neq_bool und4 rfl rfl) (Oc oa ?_)))))
    refine OpsL.nilS ⟨[(2, Pt 101 0), (3, Pt 102 0), (26, B (a0.Neg != b0.Neg))], [(101, .box 25 (eBig a0)), (102, .box 25 (eBig b0))]⟩ rfl (Tri.ite h rfl (fun _ h => ?_) (fun _ h => ?_))
    ·refine Tri.seq (Tri.seq (Tri.regionL ?_))
     refine Oc (op_field_p tyFld25_1 rfl rfl) (Oc (op_load_p1 tyOne4 rfl rfl rfl) ?_)
     refine OpsL.nilS ⟨[(33, B a0.Neg)], []⟩ rfl (Tri.ite h rfl (fun _ h => ?_) (fun _ h => ?_))
     ·refine Tri.seq (Tri.regionL ?_)
      refine Oc oa (OpsL.nilS ⟨[(4, I (-1))], []⟩ rfl (Tri.ret (Fin.then_ret (Fin.block_ret (Fin.then_ret ?_)))))
      obtain rfl := Option.some.inj h
      refine Fin.keepS ⟨[(4, I (-1))], []⟩ rfl (Fin.result' [.one (.i (-1))] (.inl rfl) rfl (.cons (.tmp rfl) .nil) ⟨rfl, rfl⟩)
     ·refine Tri.skip (Fin.keepS ⟨[], []⟩ rfl (Fin.then (Tri.seq (Tri.regionL ?_))))
      refine Oc oa (OpsL.nilS ⟨[(4, I 1)], []⟩ rfl (Tri.ret (Fin.block_ret (Fin.then_ret ?_))))
      obtain rfl := Option.some.inj h
      refine Fin.keepS ⟨[(4, I 1)], []⟩ rfl (Fin.result' [.one (.i 1)] (.inl rfl) rfl (.cons (.tmp rfl) .nil) ⟨rfl, rfl⟩)
    ·refine Tri.seq (Tri.regionL ?_)
     refine Oc (op_field_p tyFld25_1 rfl rfl) (Oc (op_load_p1 tyOne4 rfl rfl rfl) (Oc oa ?_))
     refine OpsL.nilS ⟨[(2, Pt 101 0), (3, Pt 102 0), (34, B a0.Neg)], [(101, .box 25 (eBig a0)), (102, .box 25 (eBig b0))]⟩ rfl (Tri.ite h rfl (fun _ h => ?_) (fun _ h => ?_))
     ·refine Tri.seq (Tri.regionL ?_)
      refine Oc (op_field_p tyFld25_2 rfl rfl) (Oc (lp tyAgg23) (Oc (op_field_p tyFld25_2 rfl rfl) (Oc (lp tyAgg23) ?_)))
      obtain ⟨x_3, e5, h⟩ := bnd h
      refine Oc (op_call0 (w_order_spec e5) goes127 rfl rfl) (Oc oa ?_)
      refine OpsL.nilS ⟨[(4, I x_3)], []⟩ rfl (Tri.ret (Fin.block_ret (Fin.then_ret ?_)))
      obtain rfl := Option.some.inj h
      refine Fin.keepS ⟨[(4, I x_3)], []⟩ rfl (Fin.result' [.one (.i x_3)] (.inl rfl) rfl (.cons (.tmp rfl) .nil) ⟨rfl, rfl⟩)
     ·refine Tri.skip (Fin.block_normal (Fin.keepS ⟨[(2, Pt 101 0), (3, Pt 102 0)], [(101, .box 25 (eBig a0)), (102, .box 25 (eBig b0))]⟩ rfl (Fin.then (Tri.seq (Tri.regionL ?_)))))
      refine Oc (op_field_p tyFld25_2 rfl rfl) (Oc (lp tyAgg23) (Oc (op_field_p tyFld25_2 rfl rfl) (Oc (lp tyAgg23) ?_)))
      obtain ⟨x_4, e6, h⟩ := bnd h
      refine Oc (op_call0 (w_order_spec e6) goes127 rfl rfl) (Oc oa ?_)
      refine OpsL.nilS ⟨[(4, I x_4)], []⟩ rfl (Tri.ret ?_)
      obtain rfl := Option.some.inj h
      refine Fin.keepS ⟨[(4, I x_4)], []⟩ rfl (Fin.result' [.one (.i x_4)] (.inl rfl) rfl (.cons (.tmp rfl) .nil) ⟨rfl, rfl⟩)
def q_Near_S (F : Nat) (x0 : Frc) : Option Big :=
 (q_Floor_S F x0).bind fun x_1 => if x_1.Bad = true then (some x_1) else ((w_Rem_S F x0.N x0.D).bind fun x_2 => (w_Sub_S F x0.D x_2).bind fun x_3 => (w_Cmp_S F x_2 x_3).bind fun x_4 => if (decide (0 ≤ x_4)) = true then ((q_one_S F).bind fun x_5 => (w_Add_S F x_1 x_5).bind fun x_6 => some x_6) else (some x_1))
theorem q_Near_spec {F : Nat} {x0 : Frc} {r : Big} (h : q_Near_S F x0 = some r) : Meets Tryz.prog (tabs mx) 35 [] [.agg (eFrc x0)] (Is [] (.b (.agg (eBig r)))) := by
 unfold q_Near_S at h
 refine Meets.intro 26 Tryz.func35 Tryz.ntmps35 rfl (by simp) fun E => ?_
 show Tri _ E ⟨26, [], []⟩ _ ⟨[(0, .b (.agg (eFrc x0)))], []⟩ _
 refine Tri.seq (Tri.regionL ?_)
 refine Oc (op_box (k := 101) rfl rfl) (Oc (op_alloc (k := 102) tyZero25 rfl) ?_)
 refine OpsL.nilS ⟨[(1, Pt 101 0), (2, Pt 102 0)], [(101, .box 27 (eFrc x0)), (102, .box 25 zBig)]⟩ rfl (Tri.seq (Tri.regionL ?_))
 refine Oc (lp tyAgg27) ?_
 obtain ⟨x_1, e1, h⟩ := bnd h
 refine Oc (op_call0 (q_Floor_spec e1) goes31 rfl rfl) (Oc (op_alloc (k := 103) tyZero25 rfl) (Oc (op_store_p tyAgg25 rfl rfl rfl rfl (Nat.le_of_ble_eq_true rfl) rfl) ?_))
 refine OpsL.nilS ⟨[(1, Pt 101 0), (2, Pt 102 0), (3, Pt 103 0)], [(101, .box 27 (eFrc x0)), (102, .box 25 zBig), (103, .box 25 (eBig x_1))]⟩ rfl (Tri.seq (Tri.seq (Tri.regionL ?_)))
 refine Oc (op_field_p tyFld25_0 rfl rfl) (Oc (op_load_p1 tyOne4 rfl rfl rfl) ?_)
 refine OpsL.nilS ⟨[(1, Pt 101 0), (2, Pt 102 0), (3, Pt 103 0), (8, B x_1.Bad)], [(101, .box 27 (eFrc x0)), (102, .box 25 zBig), (103, .box 25 (eBig x_1))]⟩ rfl (Tri.ite h rfl (fun _ h => ?_) (fun _ h => ?_))
 ·refine Tri.seq (Tri.regionL ?_)
  refine Oc (lp tyAgg25) (Oc (op_store_p tyAgg25 rfl rfl rfl rfl (Nat.le_of_ble_eq_true rfl) rfl) ?_)
  refine OpsL.nilS ⟨[(2, Pt 102 0)], [(102, .box 25 (eBig x_1))]⟩ rfl (Tri.ret (Fin.then_ret ?_))
  obtain rfl := Option.some.inj h
  refine Fin.keepS ⟨[(2, Pt 102 0)], [(102, .box 25 (eBig x_1))]⟩ rfl (Fin.result' [.agg (eBig x_1)] (.inl rfl) rfl (.cons (.agg tyAgg25 rfl rfl rfl rfl) .nil) ⟨rfl, rfl⟩)
 ·refine Tri.skip (Fin.keepS ⟨[(1, Pt 101 0), (2, Pt 102 0), (3, Pt 103 0)], [(101, .box 27 (eFrc x0)), (102, .box 25 zBig), (103, .box 25 (eBig x_1))]⟩ rfl (Fin.then (Tri.seq (Tri.seq (Tri.regionL ?_)))))
  refine Oc (op_field_p tyFld27_0 rfl rfl) (Oc (lp tyAgg25) (Oc (op_field_p tyFld27_1 rfl rfl) (Oc (lp tyAgg25) ?_)))
  obtain ⟨x_2, e2, h⟩ := bnd h
  refine Oc (op_call0 (w_Rem_spec e2) goes94 rfl rfl) (Oc (op_alloc (k := 104) tyZero25 rfl) (Oc (op_store_p tyAgg25 rfl rfl rfl rfl (Nat.le_of_ble_eq_true rfl) rfl) ?_))
  refine OpsL.nilS ⟨[(1, Pt 101 0), (2, Pt 102 0), (3, Pt 103 0), (4, Pt 104 0)], [(101, .box 27 (eFrc x0)), (102, .box 25 zBig), (103, .box 25 (eBig x_1)), (104, .box 25 (eBig x_2))]⟩ rfl (Tri.seq ?_)
  obtain ⟨x_3, e3, h⟩ := bnd h
  obtain ⟨x_4, e4, h⟩ := bnd h
  refine Tri.regionY mixed 7 [.b (.agg (eBig x_2)), Pt 101 18, .b (.agg (eBig x0.D)), .b (.agg (eBig x_2)), .b (.agg (eBig x_3)), I x_4, B (decide (0 ≤ x_4))] [2, 3, 21] [102, 103] (s' := ⟨[(2, Pt 102 0), (3, Pt 103 0), (21, B (decide (0 ≤ x_4)))], [(102, .box 25 zBig), (103, .box 25 (eBig x_1))]⟩) rfl ⟨fun _ => .p (lp tyAgg25), fun _ => .p (op_field_p tyFld27_1 rfl rfl), fun _ => .p (lp tyAgg25), fun _ => .p (lp tyAgg25), fun _ => .p (op_call0 (w_Sub_spec e3) goes96 rfl rfl), fun _ => .p (op_call0 (w_Cmp_spec e4) goes95 rfl rfl), fun _ => .p (op_geq rfl rfl), trivial⟩ rfl rfl (Tri.ite h rfl (fun _ h => ?_) (fun _ h => ?_))
  ·refine Tri.seq (Tri.keepS ⟨[(2, Pt 102 0), (3, Pt 103 0)], [(102, .box 25 zBig), (103, .box 25 (eBig x_1))]⟩ rfl ?_)
   obtain ⟨x_5, e5, h⟩ := bnd h
   obtain ⟨x_6, e6, h⟩ := bnd h
   refine Tri.regionY mixed 3 [.b (.agg (eBig x_1)), .b (.agg (eBig x_5)), .b (.agg (eBig x_6))] [2] [102] (s' := ⟨[(2, Pt 102 0)], [(102, .box 25 (eBig x_6))]⟩) rfl ⟨fun _ => .p (lp tyAgg25), fun _ => .p (op_call0 (q_one_spec e5) goes90 rfl rfl), fun _ => .p (op_call0 (w_Add_spec e6) goes97 rfl rfl), trivial⟩ ⟨_, by exact .p (op_store_p tyAgg25 rfl rfl rfl rfl (Nat.le_of_ble_eq_true rfl) rfl), rfl⟩ rfl (Tri.ret (Fin.then_ret ?_))
   obtain rfl := Option.some.inj h
   refine Fin.keepS ⟨[(2, Pt 102 0)], [(102, .box 25 (eBig x_6))]⟩ rfl (Fin.result' [.agg (eBig x_6)] (.inl rfl) rfl (.cons (.agg tyAgg25 rfl rfl rfl rfl) .nil) ⟨rfl, rfl⟩)
  ·refine Tri.skip (Fin.keepS ⟨[(2, Pt 102 0), (3, Pt 103 0)], [(102, .box 25 zBig), (103, .box 25 (eBig x_1))]⟩ rfl (Fin.then (Tri.seq (Tri.regionL ?_))))
   refine Oc (lp tyAgg25) (Oc (op_store_p tyAgg25 rfl rfl rfl rfl (Nat.le_of_ble_eq_true rfl) rfl) ?_)
   refine OpsL.nilS ⟨[(2, Pt 102 0)], [(102, .box 25 (eBig x_1))]⟩ rfl (Tri.ret ?_)
   obtain rfl := Option.some.inj h
   refine Fin.keepS ⟨[(2, Pt 102 0)], [(102, .box 25 (eBig x_1))]⟩ rfl (Fin.result' [.agg (eBig x_1)] (.inl rfl) rfl (.cons (.agg tyAgg25 rfl rfl rfl rfl) .nil) ⟨rfl, rfl⟩)
def w_trailing_S (F : Nat) (w0 : A16) : Option Int :=
 Option.bind (iter F (fun k_2 => (idx? w0.l k_2).bind fun x_4 => if (decide (x_4 = 0)) = true then (some (.inl (IntKind.i64.wrap (k_2 + 1)))) else (some (.inr k_2))) 0) (fun k_1 => (idx? w0.l k_1).bind fun x_5 => (bits_TZ32_S F x_5).bind fun x_6 => letN (IntKind.i64.wrap ((IntKind.i64.wrap (32 * k_1)) + x_6)) fun x_7 => some x_7)
theorem w_trailing_spec {F : Nat} {w0 : A16} {r : Int} (h : w_trailing_S F w0 = some r) : Meets Tryz.prog (tabs mx) 146 [] [.agg (eW w0)] (Is [] (.b (.one (.i r)))) := by
 unfold w_trailing_S at h
 refine Meets.intro 17 Tryz.func146 Tryz.ntmps146 rfl (by simp) fun E => ?_
 show Tri _ E ⟨17, [], []⟩ _ ⟨[(0, .b (.agg (eW w0)))], []⟩ _
 refine Tri.seq (Tri.regionL ?_)
 refine Oc (op_box (k := 101) rfl rfl) (Oc oa ?_)
 refine OpsL.nilS ⟨[(1, Pt 101 0)], [(101, .box 23 (eW w0))]⟩ rfl (Tri.seq (Tri.regionL ?_))
 refine Oc oa (OpsL.nilS ⟨[(1, Pt 101 0), (3, I 0)], [(101, .box 23 (eW w0))]⟩ rfl ?_)
 obtain ⟨v1, h2, h⟩ := bnd h
 refine Tri.seqJ (v := v1) (fun (k_1 : Int) => ⟨[(1, Pt 101 0), (3, I k_1)], [(101, .box 23 (eW w0))]⟩) (fun z => z) ?_ ?_
 ·refine Tri.block (Tri.loopJ h2 (fun (k_2 : Int) => ⟨[(1, Pt 101 0), (3, I k_2)], [(101, .box 23 (eW w0))]⟩) [1, 3] [101] rfl ?_)
  rintro k_2 o3 h4 hy5
  refine Tri.seq (Tri.seq (Tri.regionL ?_))
  refine Oc om ?_
  obtain ⟨x_4, e6, h4⟩ := bnd h4
  refine Oc (op_index_p tyArr23 (ix_lo e6) (ix_hi e6) rfl rfl rfl) (Oc (op_load_p1 tyOne22 rfl rfl (arr_get (post := []) (k := .u32) [] e6 rfl rfl rfl)) (Oc (op_eql rfl rfl) ?_))
  refine OpsL.nilS ⟨[(1, Pt 101 0), (3, I k_2), (7, B (decide (x_4 = 0)))], [(101, .box 23 (eW w0))]⟩ rfl (Tri.ite h4 rfl (fun _ h4 => ?_) (fun _ h4 => ?_))
  ·refine Tri.skip (Fin.keepS ⟨[(1, Pt 101 0), (3, I k_2)], [(101, .box 23 (eW w0))]⟩ rfl (Fin.then (Tri.block (Tri.regionL ?_))))
   refine Oc om (Oc (op_add rfl rfl) (Oc oa ?_))
   refine OpsL.nil (Fin.block_normal ?_)
   exact Fin.againJ [1, 3] [101] (IntKind.i64.wrap (k_2 + 1)) (Option.some.inj h4) rfl
  ·refine Tri.exit (Fin.then_exit ?_)
   obtain rfl := hy5 _ (Option.some.inj h4).symm
   refine Fin.then_exit (Fin.block_exit ?_)
   exact Fin.join [1, 3] [101] k_2 rfl rfl
 ·rintro k_1 hv
  subst v1
  refine Tri.seq (Tri.regionL ?_)
  refine Oc om (Oc (op_mul rfl rfl) (Oc om ?_))
  obtain ⟨x_5, e7, h⟩ := bnd h
  refine Oc (op_index_p tyArr23 (ix_lo e7) (ix_hi e7) rfl rfl rfl) (Oc (op_load_p1 tyOne22 rfl rfl (arr_get (post := []) (k := .u32) [] e7 rfl rfl rfl)) ?_)
  refine OpsL.keepS ⟨[(11, I (IntKind.i64.wrap (32 * k_1))), (14, .b (.one (.int .u32 x_5)))], []⟩ rfl ?_
  obtain ⟨x_6, e8, h⟩ := bnd h
  refine Oc (op_call0 (bits_TZ32_spec e8) goes155 rfl rfl) (OpsL.consI .i64 h rfl (op_add rfl rfl) (fun x_7 h => ?_))
  refine Oc oa (OpsL.nilS ⟨[(2, I x_7)], []⟩ rfl (Tri.ret ?_))
  obtain rfl := Option.some.inj h
  refine Fin.keepS ⟨[(2, I x_7)], []⟩ rfl (Fin.result' [.one (.i x_7)] (.inl rfl) rfl (.cons (.tmp rfl) .nil) ⟨rfl, rfl⟩)
def w_lost_S (F : Nat) (x0 : Big) (w0 : A16) (n0 : List Int) : Option Big :=
 (w_signed_S F x0.Neg w0).bind fun x_1 => (gcall (x0.Neg && !(decide ((n0.length : Int) = 0))) (w_trailing_S F x0.W)).bind fun x_2 => (gcall (x0.Neg && !(decide ((n0.length : Int) = 0))) (idx? n0 0)).bind fun x_3 => if (x0.Neg && ((decide ((n0.length : Int) = 0)) || (decide (x_2 < x_3)))) = true then ((w_Of_S F 1).bind fun x_4 => (w_Sub_S F x_1 x_4).bind fun x_5 => some x_5) else (some x_1)
theorem w_lost_spec {F : Nat} {x0 : Big} {w0 : A16} {n0 : List Int} {r : Big} (h : w_lost_S F x0 w0 n0 = some r) : Meets Tryz.prog (tabs mx) 124 [] [.agg (eBig x0), .agg (eW w0), .one (.sl 1 (n0.map eI))] (Is [] (.b (.agg (eBig r)))) := by
 unfold w_lost_S at h
 refine Meets.intro 32 Tryz.func124 Tryz.ntmps124 rfl (by simp) fun E => ?_
 show Tri _ E ⟨32, [], []⟩ _ ⟨[(0, .b (.agg (eBig x0))), (1, .b (.agg (eW w0))), (2, .b (.one (.sl 1 (n0.map eI))))], []⟩ _
 refine Tri.seq (Tri.regionL ?_)
 refine Oc (op_box (k := 101) rfl rfl) (Oc (op_box (k := 102) rfl rfl) (Oc (op_alloc (k := 103) tyZero25 rfl) ?_))
 refine OpsL.nilS ⟨[(2, .b (.one (.sl 1 (n0.map eI)))), (3, Pt 101 0), (4, Pt 102 0), (6, Pt 103 0)], [(101, .box 25 (eBig x0)), (102, .box 23 (eW w0)), (103, .box 25 zBig)]⟩ rfl (Tri.seq (Tri.regionL ?_))
 refine Oc (op_field_p tyFld25_1 rfl rfl) (Oc (op_load_p1 tyOne4 rfl rfl rfl) (Oc (lp tyAgg23) ?_))
 obtain ⟨x_1, e1, h⟩ := bnd h
 refine Oc (op_call0 (w_signed_spec e1) goes115 rfl rfl) (Oc (op_alloc (k := 104) tyZero25 rfl) (Oc (op_store_p tyAgg25 rfl rfl rfl rfl (Nat.le_of_ble_eq_true rfl) rfl) ?_))
 refine OpsL.nilS ⟨[(2, .b (.one (.sl 1 (n0.map eI)))), (3, Pt 101 0), (6, Pt 103 0), (7, Pt 104 0)], [(101, .box 25 (eBig x0)), (103, .box 25 zBig), (104, .box 25 (eBig x_1))]⟩ rfl (Tri.seq (Tri.seq ?_))
 refine Tri.keepS ⟨[(2, .b (.one (.sl 1 (n0.map eI)))), (3, Pt 101 0), (6, Pt 103 0), (7, Pt 104 0)], [(101, .box 25 (eBig x0)), (103, .box 25 zBig), (104, .box 25 (eBig x_1))]⟩ rfl ?_
 obtain ⟨x_2, e9, h⟩ := bnd h
 obtain ⟨x_3, e12, h⟩ := bnd h
 refine Tri.regionY mixed 16 [Pt 101 1, B x0.Neg, B x0.Neg, .opt x0.Neg (.one (.sl 1 (n0.map eI))), .opt x0.Neg (.one (.i (n0.length : Int))), .opt x0.Neg (.one (.bool (decide ((n0.length : Int) = 0)))), .opt x0.Neg (.one (.bool (decide ((n0.length : Int) = 0)))), .opt (x0.Neg && !(decide ((n0.length : Int) = 0))) (.ptr 101 2), .opt (x0.Neg && !(decide ((n0.length : Int) = 0))) (.agg (eW x0.W)), .opt (x0.Neg && !(decide ((n0.length : Int) = 0))) (.one (.i x_2)), .opt (x0.Neg && !(decide ((n0.length : Int) = 0))) (.one (.sl 1 (n0.map eI))), .opt (x0.Neg && !(decide ((n0.length : Int) = 0))) (.eptr [.i x_3]), .opt (x0.Neg && !(decide ((n0.length : Int) = 0))) (.one (.i x_3)), .opt (x0.Neg && !(decide ((n0.length : Int) = 0))) (.one (.bool (decide (x_2 < x_3)))), .opt x0.Neg (.one (.bool ((decide ((n0.length : Int) = 0)) || (decide (x_2 < x_3))))), B (x0.Neg && ((decide ((n0.length : Int) = 0)) || (decide (x_2 < x_3))))] [6, 7, 27] [103, 104] (s' := ⟨[(6, Pt 103 0), (7, Pt 104 0), (27, B (x0.Neg && ((decide ((n0.length : Int) = 0)) || (decide (x_2 < x_3)))))], [(103, .box 25 zBig), (104, .box 25 (eBig x_1))]⟩) rfl ⟨fun _ => .p (op_field_p tyFld25_1 rfl rfl), fun _ => .p (op_load_p1 tyOne4 rfl rfl rfl), fun _ => .p om, fun _ => by exact .guard x0.Neg 1 [] (.plain rfl) (eq_t _) rfl rfl (fun g2 => trivial) (fun g2 => om), fun _ => by exact .guard x0.Neg 2 [15] (.plain rfl) (eq_t _) rfl rfl (fun g3 => ⟨g3, trivial⟩) (fun g3 => op_len_e' und70 rfl (List.length_map _)), fun _ => by exact .guard x0.Neg 2 [16] (.plain rfl) (eq_t _) rfl rfl (fun g4 => ⟨g4, trivial⟩) (fun g4 => op_eql rfl rfl), fun _ => by exact .guard x0.Neg 3 [17] (.plain rfl) (eq_t _) rfl rfl (fun g5 => ⟨g5, trivial⟩) (fun g5 => om), fun _ => by exact .guard (x0.Neg && !(decide ((n0.length : Int) = 0))) 1 [] (.under rfl) (and_f _ _) rfl rfl (fun g6 => trivial) (fun g6 => op_field_p tyFld25_2 rfl rfl), fun _ => by exact .guard (x0.Neg && !(decide ((n0.length : Int) = 0))) 2 [19] (.under rfl) (and_f _ _) rfl rfl (fun g7 => ⟨g7, trivial⟩) (fun g7 => lp tyAgg23), fun _ => by exact .guard (x0.Neg && !(decide ((n0.length : Int) = 0))) 3 [20] (.under rfl) (and_f _ _) rfl rfl (fun g8 => ⟨g8, trivial⟩) (fun g8 => op_call0 (w_trailing_spec (gc e9 g8)) goes146 rfl rfl), fun _ => by exact .guard (x0.Neg && !(decide ((n0.length : Int) = 0))) 1 [] (.under rfl) (and_f _ _) rfl rfl (fun g10 => trivial) (fun g10 => om), fun _ => by exact .guard (x0.Neg && !(decide ((n0.length : Int) = 0))) 2 [22] (.under rfl) (and_f _ _) rfl rfl (fun g11 => ⟨g11, trivial⟩) (fun g11 => op_index_e tySl70 (ix_lo (gc e12 g11)) (ix_map (e := eI) (gc e12 g11)) rfl rfl), fun _ => by exact .guard (x0.Neg && !(decide ((n0.length : Int) = 0))) 2 [23] (.under rfl) (and_f _ _) rfl rfl (fun g13 => ⟨g13, trivial⟩) (fun g13 => op_load_e1 tyOne3 rfl rfl), fun _ => by exact .guard (x0.Neg && !(decide ((n0.length : Int) = 0))) 3 [21, 24] (.under rfl) (and_f _ _) rfl rfl (fun g14 => ⟨g14, g14, trivial⟩) (fun g14 => op_lss rfl rfl), fun _ => by exact .guard x0.Neg 3 [18] (.plain rfl) (eq_t _) rfl rfl (fun g15 => ⟨g15, trivial⟩) (fun g15 => op_pick_or (fun e => by rw [g15, e]; rfl) rfl rfl rfl rfl), fun _ => .p (op_pick_and (fun e => e) rfl rfl rfl rfl), trivial⟩ rfl rfl ?_
 refine Tri.ite h rfl (fun _ h => ?_) (fun _ h => ?_)
 ·refine Tri.seq (Tri.keepS ⟨[(6, Pt 103 0), (7, Pt 104 0)], [(103, .box 25 zBig), (104, .box 25 (eBig x_1))]⟩ rfl ?_)
  obtain ⟨x_4, e16, h⟩ := bnd h
  obtain ⟨x_5, e17, h⟩ := bnd h
  refine Tri.regionY mixed 3 [.b (.agg (eBig x_1)), .b (.agg (eBig x_4)), .b (.agg (eBig x_5))] [6] [103] (s' := ⟨[(6, Pt 103 0)], [(103, .box 25 (eBig x_5))]⟩) rfl ⟨fun _ => .p (lp tyAgg25), fun _ => .p (op_call0 (w_Of_spec e16) goes91 rfl rfl), fun _ => .p (op_call0 (w_Sub_spec e17) goes96 rfl rfl), trivial⟩ ⟨_, by exact .p (op_store_p tyAgg25 rfl rfl rfl rfl (Nat.le_of_ble_eq_true rfl) rfl), rfl⟩ rfl (Tri.ret (Fin.then_ret ?_))
  obtain rfl := Option.some.inj h
  refine Fin.keepS ⟨[(6, Pt 103 0)], [(103, .box 25 (eBig x_5))]⟩ rfl (Fin.result' [.agg (eBig x_5)] (.inl rfl) rfl (.cons (.agg tyAgg25 rfl rfl rfl rfl) .nil) ⟨rfl, rfl⟩)
 ·refine Tri.skip (Fin.keepS ⟨[(6, Pt 103 0), (7, Pt 104 0)], [(103, .box 25 zBig), (104, .box 25 (eBig x_1))]⟩ rfl (Fin.then (Tri.seq (Tri.regionL ?_))))
  refine Oc (lp tyAgg25) (Oc (op_store_p tyAgg25 rfl rfl rfl rfl (Nat.le_of_ble_eq_true rfl) rfl) ?_)
  refine OpsL.nilS ⟨[(6, Pt 103 0)], [(103, .box 25 (eBig x_1))]⟩ rfl (Tri.ret ?_)
  obtain rfl := Option.some.inj h
  refine Fin.keepS ⟨[(6, Pt 103 0)], [(103, .box 25 (eBig x_1))]⟩ rfl (Fin.result' [.agg (eBig x_1)] (.inl rfl) rfl (.cons (.agg tyAgg25 rfl rfl rfl rfl) .nil) ⟨rfl, rfl⟩)
def w_Shift_S (F : Nat) (x0 : Big) (n0 : Int) : Option Big :=
 (w_good_S F [x0]).bind fun x_1 => if (!x_1) = true then ((w_Bad_S F).bind fun x_2 => some x_2) else ((w_Sign_S F x0).bind fun x_3 => if (decide (x_3 = 0)) = true then (some x0) else ((gcall ((!(decide (512 ≤ n0))) && (decide (0 < n0))) (w_Bits_S F x0)).bind fun x_4 => letN ((decide (512 ≤ n0)) || ((decide (0 < n0)) && (decide (512 < (IntKind.i64.wrap (x_4 + n0)))))) fun x_5 => if x_5 = true then ((w_Bad_S F).bind fun x_6 => some x_6) else (if (decide (n0 ≤ (-512))) = true then ((w_lost_S F x0 A16.zero []).bind fun x_7 => some x_7) else ((quo? .i64 n0 32).bind fun x_8 => if (decide (0 ≤ n0)) = true then (Option.bind (slo? 16 x_8) (fun x_9 => letN (A16.of (spliceE A16.zero.l ((x_8 : Int).toNat) ((x0.W.l.drop 0).take (min 16 (16 - (x_8 : Int).toNat))))) fun x_10 => Option.bind (w_up_S F x_10 (Int.tmod n0 32)) (un2 fun x_11 x_12 => (w_signed_S F x0.Neg x_11).bind fun x_13 => some x_13))) else (Option.bind (slo? 16 (IntKind.i64.wrap (-x_8))) (fun x_14 => (w_down_S F (A16.of (spliceE A16.zero.l 0 ((x0.W.l.drop ((IntKind.i64.wrap (-x_8) : Int).toNat)).take (min (16 - (IntKind.i64.wrap (-x_8) : Int).toNat) 16)))) (Int.tmod (IntKind.i64.wrap (-n0)) 32)).bind fun x_15 => (w_lost_S F x0 x_15 [IntKind.i64.wrap (-n0)]).bind fun x_16 => some x_16))))))
theorem w_Shift_spec {F : Nat} {x0 : Big} {n0 : Int} {r : Big} (h : w_Shift_S F x0 n0 = some r) : Meets Tryz.prog (tabs mx) 93 [] [.agg (eBig x0), .one (.i n0)] (Is [] (.b (.agg (eBig r)))) := by
 unfold w_Shift_S at h
 refine Meets.intro 75 Tryz.func93 Tryz.ntmps93 rfl (by simp) fun E => ?_
 show Tri _ E ⟨75, [], []⟩ _ ⟨[(0, .b (.agg (eBig x0))), (1, I n0)], []⟩ _
 refine Tri.seq (Tri.regionL ?_)
 refine Oc (op_box (k := 101) rfl rfl) (Oc (op_alloc (k := 102) tyZero25 rfl) ?_)
 refine OpsL.nilS ⟨[(1, I n0), (2, Pt 101 0), (4, Pt 102 0)], [(101, .box 25 (eBig x0)), (102, .box 25 zBig)]⟩ rfl (Tri.seq (Tri.block (Tri.seq (Tri.regionL ?_))))
 refine Oc (lp tyAgg25) (Oc (op_buildSlice (k := 103) (es := [x0].map eBig) tySl117 rfl rfl (uni_map fun _ => rfl) rfl (by decide) (by decide) rfl) ?_)
 obtain ⟨x_1, e1, h⟩ := bnd h
 refine Oc (op_callB (w_good_spec e1) goes113 rfl CP.flat_bool) (Oc (op_not rfl) (Oc oa ?_))
 refine OpsL.nilS ⟨[(1, I n0), (2, Pt 101 0), (4, Pt 102 0), (7, B (!x_1))], [(101, .box 25 (eBig x0)), (102, .box 25 zBig)]⟩ rfl (Tri.ite h rfl (fun _ h => ?_) (fun _ h => ?_))
 ·refine Tri.seq (Tri.regionL ?_)
  obtain ⟨x_2, e2, h⟩ := bnd h
  refine Oc (op_call0 (w_Bad_spec e2) goes92 rfl rfl) (Oc (op_store_p tyAgg25 rfl rfl rfl rfl (Nat.le_of_ble_eq_true rfl) rfl) ?_)
  refine OpsL.nilS ⟨[(4, Pt 102 0)], [(102, .box 25 (eBig x_2))]⟩ rfl (Tri.ret (Fin.block_ret (Fin.then_ret ?_)))
  obtain rfl := Option.some.inj h
  refine Fin.keepS ⟨[(4, Pt 102 0)], [(102, .box 25 (eBig x_2))]⟩ rfl (Fin.result' [.agg (eBig x_2)] (.inl rfl) rfl (.cons (.agg tyAgg25 rfl rfl rfl rfl) .nil) ⟨rfl, rfl⟩)
 ·refine Tri.seq (Tri.regionL ?_)
  refine Oc (lp tyAgg25) ?_
  obtain ⟨x_3, e3, h⟩ := bnd h
  refine Oc (op_call0 (w_Sign_spec e3) goes72 rfl rfl) (Oc (op_eql rfl rfl) (Oc oa ?_))
  refine OpsL.nilS ⟨[(1, I n0), (2, Pt 101 0), (4, Pt 102 0), (13, B (decide (x_3 = 0)))], [(101, .box 25 (eBig x0)), (102, .box 25 zBig)]⟩ rfl (Tri.ite h rfl (fun _ h => ?_) (fun _ h => ?_))
  ·refine Tri.seq (Tri.regionL ?_)
   refine Oc (lp tyAgg25) (Oc (op_store_p tyAgg25 rfl rfl rfl rfl (Nat.le_of_ble_eq_true rfl) rfl) ?_)
   refine OpsL.nilS ⟨[(4, Pt 102 0)], [(102, .box 25 (eBig x0))]⟩ rfl (Tri.ret (Fin.block_ret (Fin.then_ret ?_)))
   obtain rfl := Option.some.inj h
   refine Fin.keepS ⟨[(4, Pt 102 0)], [(102, .box 25 (eBig x0))]⟩ rfl (Fin.result' [.agg (eBig x0)] (.inl rfl) rfl (.cons (.agg tyAgg25 rfl rfl rfl rfl) .nil) ⟨rfl, rfl⟩)
  ·refine Tri.seq (Tri.regionL ?_)
   refine Oc om (Oc (op_geq rfl rfl) (Oc om ?_))
   refine CgF (!(decide (512 ≤ n0))) [] (fun g4 => trivial) (fun g4 => om) (CgF (!(decide (512 ≤ n0))) [22] (fun g5 => by exact ⟨g5, trivial⟩) (fun g5 => op_gtr rfl rfl) (CgF (!(decide (512 ≤ n0))) [23] (fun g6 => by exact ⟨g6, trivial⟩) (fun g6 => om) (OpsL.consG ((!(decide (512 ≤ n0))) && (decide (0 < n0))) 99 [] (.under rfl) (and_t _ _) rfl rfl (fun g7 => by exact trivial) (fun g7 => lp tyAgg25) (OpsL.keepS ⟨[(1, I n0), (2, Pt 101 0), (4, Pt 102 0), (21, B (decide (512 ≤ n0))), (24, .opt (!(decide (512 ≤ n0))) (.one (.bool (decide (0 < n0))))), (25, .opt ((!(decide (512 ≤ n0))) && (decide (0 < n0))) (.agg (eBig x0)))], [(101, .box 25 (eBig x0)), (102, .box 25 zBig)]⟩ rfl ?_))))
   obtain ⟨x_4, e9, h⟩ := bnd h
   refine OpsL.consG ((!(decide (512 ≤ n0))) && (decide (0 < n0))) 99 [25] (.under rfl) (and_t _ _) rfl rfl (fun g8 => ⟨g8, trivial⟩) (fun g8 => op_call0 (w_Bits_spec (gc e9 g8)) goes123 rfl rfl) (OpsL.consG ((!(decide (512 ≤ n0))) && (decide (0 < n0))) 99 [] (.under rfl) (and_t _ _) rfl rfl (fun g10 => trivial) (fun g10 => om) (OpsL.consG ((!(decide (512 ≤ n0))) && (decide (0 < n0))) 99 [26, 27] (.under rfl) (and_t _ _) rfl rfl (fun g11 => by exact ⟨g11, g11, trivial⟩) (fun g11 => op_add rfl rfl) (OpsL.consG ((!(decide (512 ≤ n0))) && (decide (0 < n0))) 99 [28] (.under rfl) (and_t _ _) rfl rfl (fun g12 => by exact ⟨g12, trivial⟩) (fun g12 => op_gtr rfl rfl) (CgF (!(decide (512 ≤ n0))) [24] (fun g13 => by exact ⟨g13, trivial⟩) (fun g13 => op_pick_and (fun e => by rw [g13, e]; rfl) rfl rfl rfl rfl) (OpsL.consB h rfl (op_pick_or (fun e => by rw [e]; rfl) rfl rfl rfl rfl) (fun x_5 h => ?_))))))
   refine Oc oa (OpsL.nilS ⟨[(1, I n0), (2, Pt 101 0), (4, Pt 102 0), (18, B x_5)], [(101, .box 25 (eBig x0)), (102, .box 25 zBig)]⟩ rfl (Tri.ite h rfl (fun _ h => ?_) (fun _ h => ?_)))
   ·refine Tri.seq (Tri.regionL ?_)
    obtain ⟨x_6, e14, h⟩ := bnd h
    refine Oc (op_call0 (w_Bad_spec e14) goes92 rfl rfl) (Oc (op_store_p tyAgg25 rfl rfl rfl rfl (Nat.le_of_ble_eq_true rfl) rfl) ?_)
    refine OpsL.nilS ⟨[(4, Pt 102 0)], [(102, .box 25 (eBig x_6))]⟩ rfl (Tri.ret (Fin.block_ret (Fin.then_ret ?_)))
    obtain rfl := Option.some.inj h
    refine Fin.keepS ⟨[(4, Pt 102 0)], [(102, .box 25 (eBig x_6))]⟩ rfl (Fin.result' [.agg (eBig x_6)] (.inl rfl) rfl (.cons (.agg tyAgg25 rfl rfl rfl rfl) .nil) ⟨rfl, rfl⟩)
   ·refine Tri.seq (Tri.regionL ?_)
    refine Oc om (Oc (op_leq rfl rfl) (Oc oa ?_))
    refine OpsL.nilS ⟨[(1, I n0), (2, Pt 101 0), (4, Pt 102 0), (33, B (decide (n0 ≤ (-512))))], [(101, .box 25 (eBig x0)), (102, .box 25 zBig)]⟩ rfl (Tri.ite h rfl (fun _ h => ?_) (fun _ h => ?_))
    ·refine Tri.seq (Tri.regionL ?_)
     refine Oc (lp tyAgg25) (Oc (op_buildA tyBuild23 rfl rfl) ?_)
     obtain ⟨x_7, e15, h⟩ := bnd h
     refine Oc (op_call0 (Meets.nilA 2 (by decide) (w_lost_spec e15) rfl) goes124 rfl rfl) (Oc (op_store_p tyAgg25 rfl rfl rfl rfl (Nat.le_of_ble_eq_true rfl) rfl) ?_)
     refine OpsL.nilS ⟨[(4, Pt 102 0)], [(102, .box 25 (eBig x_7))]⟩ rfl (Tri.ret (Fin.block_ret (Fin.then_ret ?_)))
     obtain rfl := Option.some.inj h
     refine Fin.keepS ⟨[(4, Pt 102 0)], [(102, .box 25 (eBig x_7))]⟩ rfl (Fin.result' [.agg (eBig x_7)] (.inl rfl) rfl (.cons (.agg tyAgg25 rfl rfl rfl rfl) .nil) ⟨rfl, rfl⟩)
    ·refine Tri.skip (Fin.block_normal (Fin.keepS ⟨[(1, I n0), (2, Pt 101 0), (4, Pt 102 0)], [(101, .box 25 (eBig x0)), (102, .box 25 zBig)]⟩ rfl (Fin.then (Tri.seq (Tri.regionL ?_)))))
     refine Oc (op_alloc (k := 104) tyZero23 rfl) (OpsL.nilS ⟨[(1, I n0), (2, Pt 101 0), (4, Pt 102 0), (5, Pt 104 0)], [(101, .box 25 (eBig x0)), (102, .box 25 zBig), (104, .box 23 (eW A16.zero))]⟩ rfl (Tri.seq (Tri.regionL ?_)))
     refine Oc om ?_
     obtain ⟨x_8, e16, h⟩ := bnd h
     refine Oc (op_quo2 e16 rfl rfl) (Oc oa ?_)
     refine OpsL.nilS ⟨[(1, I n0), (2, Pt 101 0), (4, Pt 102 0), (5, Pt 104 0), (6, I x_8)], [(101, .box 25 (eBig x0)), (102, .box 25 zBig), (104, .box 23 (eW A16.zero))]⟩ rfl (Tri.seq (Tri.seq (Tri.regionL ?_)))
     refine Oc om (Oc (op_geq rfl rfl) ?_)
     refine OpsL.nilS ⟨[(1, I n0), (2, Pt 101 0), (4, Pt 102 0), (5, Pt 104 0), (6, I x_8), (42, B (decide (0 ≤ n0)))], [(101, .box 25 (eBig x0)), (102, .box 25 zBig), (104, .box 23 (eW A16.zero))]⟩ rfl (Tri.ite h rfl (fun _ h => ?_) (fun _ h => ?_))
     ·refine Tri.seq (Tri.keepS ⟨[(1, I n0), (2, Pt 101 0), (4, Pt 102 0), (5, Pt 104 0), (6, I x_8)], [(101, .box 25 (eBig x0)), (102, .box 25 zBig), (104, .box 23 (eW A16.zero))]⟩ rfl ?_)
      obtain ⟨x_9, e17, h⟩ := bnd h
      refine Tri.regionY mixed 4 [I x_8, .b (.psl 104 (0 + (x_8 : Int).toNat) (16 - (x_8 : Int).toNat) (16 - (x_8 : Int).toNat)), Pt 101 2, .b (.psl 101 2 16 16)] [1, 2, 4, 5] [101, 102, 104] (s' := ⟨[(1, I n0), (2, Pt 101 0), (4, Pt 102 0), (5, Pt 104 0)], [(101, .box 25 (eBig x0)), (102, .box 25 zBig), (104, .box 23 (eW (A16.of (spliceE A16.zero.l ((x_8 : Int).toNat) ((x0.W.l.drop 0).take (min 16 (16 - (x_8 : Int).toNat)))))))]⟩) rfl ⟨fun _ => .p om, fun _ => .p (op_slice_al tyArr23 (slo_lo e17) (slo_hi e17) rfl rfl), fun _ => .p (op_field_p tyFld25_2 rfl rfl), fun _ => .p (op_slice_a tyArr23 (by decide) rfl), trivial⟩ ⟨_, by exact .p (op_copy_psl (m := min 16 (16 - (x_8 : Int).toNat)) tySl100 (by rfl) (by have q0_ := slo_lo e17; have p0_ := slo_hi e17; first | decide | (show (min 16 (16 - (x_8 : Int).toNat)) ≤ 9223372036854775807; omega)) rfl rfl rfl rfl (by have q0_ := slo_lo e17; have p0_ := slo_hi e17; first | decide | (show (0 + (x_8 : Int).toNat) + (min 16 (16 - (x_8 : Int).toNat)) ≤ 16; omega)) (by have q0_ := slo_lo e17; have p0_ := slo_hi e17; first | decide | (show 2 + (min 16 (16 - (x_8 : Int).toNat)) ≤ 18; omega)) (splice_arr (a := 0) (a2 := 2) (off := 0 + (x_8 : Int).toNat) (off2 := 2) (post := []) (post2 := []) (l := A16.zero.l) (l2 := x0.W.l) (kd := .u32) (lo := (x_8 : Int).toNat) (lo2 := 0) [] [.bool x0.Bad, .bool x0.Neg] rfl rfl rfl rfl (by omega) (by omega) (by have q0_ := slo_lo e17; have p0_ := slo_hi e17; first | decide | (show ((x_8 : Int).toNat) + (min 16 (16 - (x_8 : Int).toNat)) ≤ 16; omega)) (by have q0_ := slo_lo e17; have p0_ := slo_hi e17; first | decide | (show 0 + (min 16 (16 - (x_8 : Int).toNat)) ≤ 16; omega)) (A16.l_of (spliceE_lenA rfl (by have q0_ := slo_lo e17; have p0_ := slo_hi e17; first | decide | (show ((x_8 : Int).toNat) + (min 16 (16 - (x_8 : Int).toNat)) ≤ 16; omega)) (by have q0_ := slo_lo e17; have p0_ := slo_hi e17; first | decide | (show 0 + (min 16 (16 - (x_8 : Int).toNat)) ≤ 16; omega)))) rfl)), rfl⟩ rfl (Tri.seq (Tri.regionL ?_))
      refine OpsL.consA eW h rfl (lp tyAgg23) (fun x_10 h => ?_)
      refine Oc om (Oc (op_rem (by decide) rfl rfl) ?_)
      obtain ⟨⟨x_11, x_12⟩, e18, h⟩ := bnd h
      refine Oc (op_call0 (w_up_spec e18) goes125 rfl rfl) (Oc om ?_)
      refine OpsL.keepS ⟨[(2, Pt 101 0), (4, Pt 102 0), (5, Pt 104 0), (48, .tup [.agg (eW x_11), .one (.int .u32 x_12)])], [(101, .box 25 (eBig x0)), (102, .box 25 zBig), (104, .box 23 (eW (A16.of (spliceE A16.zero.l ((x_8 : Int).toNat) ((x0.W.l.drop 0).take (min 16 (16 - (x_8 : Int).toNat)))))))]⟩ rfl (Oc (op_extract rfl rfl) (Oc (op_extract rfl rfl) (Oc (op_store_p tyAgg23 rfl rfl rfl rfl (Nat.le_of_ble_eq_true rfl) rfl) ?_)))
      refine OpsL.nilS ⟨[(2, Pt 101 0), (4, Pt 102 0), (5, Pt 104 0)], [(101, .box 25 (eBig x0)), (102, .box 25 zBig), (104, .box 23 (eW x_11))]⟩ rfl (Tri.seq (Tri.regionL ?_))
      refine Oc (op_field_p tyFld25_1 rfl rfl) (Oc (op_load_p1 tyOne4 rfl rfl rfl) (Oc (lp tyAgg23) ?_))
      obtain ⟨x_13, e19, h⟩ := bnd h
      refine Oc (op_call0 (w_signed_spec e19) goes115 rfl rfl) (Oc (op_store_p tyAgg25 rfl rfl rfl rfl (Nat.le_of_ble_eq_true rfl) rfl) ?_)
      refine OpsL.nilS ⟨[(4, Pt 102 0)], [(102, .box 25 (eBig x_13))]⟩ rfl (Tri.ret (Fin.then_ret ?_))
      obtain rfl := Option.some.inj h
      refine Fin.keepS ⟨[(4, Pt 102 0)], [(102, .box 25 (eBig x_13))]⟩ rfl (Fin.result' [.agg (eBig x_13)] (.inl rfl) rfl (.cons (.agg tyAgg25 rfl rfl rfl rfl) .nil) ⟨rfl, rfl⟩)
     ·refine Tri.skip (Fin.keepS ⟨[(1, I n0), (2, Pt 101 0), (4, Pt 102 0), (5, Pt 104 0), (6, I x_8)], [(101, .box 25 (eBig x0)), (102, .box 25 zBig), (104, .box 23 (eW A16.zero))]⟩ rfl (Fin.then (Tri.seq ?_)))
      refine Tri.keepS ⟨[(1, I n0), (2, Pt 101 0), (4, Pt 102 0), (5, Pt 104 0), (6, I x_8)], [(101, .box 25 (eBig x0)), (102, .box 25 zBig), (104, .box 23 (eW A16.zero))]⟩ rfl ?_
      obtain ⟨x_14, e20, h⟩ := bnd h
      refine Tri.regionY mixed 5 [.b (.psl 104 0 16 16), Pt 101 2, I x_8, I (IntKind.i64.wrap (-x_8)), .b (.psl 101 (2 + (IntKind.i64.wrap (-x_8) : Int).toNat) (16 - (IntKind.i64.wrap (-x_8) : Int).toNat) (16 - (IntKind.i64.wrap (-x_8) : Int).toNat))] [1, 2, 4, 5] [101, 102, 104] (s' := ⟨[(1, I n0), (2, Pt 101 0), (4, Pt 102 0), (5, Pt 104 0)], [(101, .box 25 (eBig x0)), (102, .box 25 zBig), (104, .box 23 (eW (A16.of (spliceE A16.zero.l 0 ((x0.W.l.drop ((IntKind.i64.wrap (-x_8) : Int).toNat)).take (min (16 - (IntKind.i64.wrap (-x_8) : Int).toNat) 16))))))]⟩) rfl ⟨fun _ => .p (op_slice_a tyArr23 (by decide) rfl), fun _ => .p (op_field_p tyFld25_2 rfl rfl), fun _ => .p om, fun _ => .p (op_neg rfl), fun _ => .p (op_slice_al tyArr23 (slo_lo e20) (slo_hi e20) rfl rfl), trivial⟩ ⟨_, by exact .p (op_copy_psl (m := min (16 - (IntKind.i64.wrap (-x_8) : Int).toNat) 16) tySl100 (by rfl) (by have q1_ := slo_lo e20; have p1_ := slo_hi e20; first | decide | (show (min (16 - (IntKind.i64.wrap (-x_8) : Int).toNat) 16) ≤ 9223372036854775807; omega)) rfl rfl rfl rfl (by have q1_ := slo_lo e20; have p1_ := slo_hi e20; first | decide | (show 0 + (min (16 - (IntKind.i64.wrap (-x_8) : Int).toNat) 16) ≤ 16; omega)) (by have q1_ := slo_lo e20; have p1_ := slo_hi e20; first | decide | (show (2 + (IntKind.i64.wrap (-x_8) : Int).toNat) + (min (16 - (IntKind.i64.wrap (-x_8) : Int).toNat) 16) ≤ 18; omega)) (splice_arr (a := 0) (a2 := 2) (off := 0) (off2 := 2 + (IntKind.i64.wrap (-x_8) : Int).toNat) (post := []) (post2 := []) (l := A16.zero.l) (l2 := x0.W.l) (kd := .u32) (lo := 0) (lo2 := (IntKind.i64.wrap (-x_8) : Int).toNat) [] [.bool x0.Bad, .bool x0.Neg] rfl rfl rfl rfl (by omega) (by omega) (by have q1_ := slo_lo e20; have p1_ := slo_hi e20; first | decide | (show 0 + (min (16 - (IntKind.i64.wrap (-x_8) : Int).toNat) 16) ≤ 16; omega)) (by have q1_ := slo_lo e20; have p1_ := slo_hi e20; first | decide | (show ((IntKind.i64.wrap (-x_8) : Int).toNat) + (min (16 - (IntKind.i64.wrap (-x_8) : Int).toNat) 16) ≤ 16; omega)) (A16.l_of (spliceE_lenA rfl (by have q1_ := slo_lo e20; have p1_ := slo_hi e20; first | decide | (show 0 + (min (16 - (IntKind.i64.wrap (-x_8) : Int).toNat) 16) ≤ 16; omega)) (by have q1_ := slo_lo e20; have p1_ := slo_hi e20; first | decide | (show ((IntKind.i64.wrap (-x_8) : Int).toNat) + (min (16 - (IntKind.i64.wrap (-x_8) : Int).toNat) 16) ≤ 16; omega)))) rfl)), rfl⟩ rfl (Tri.seq (Tri.keepS ⟨[(1, I n0), (2, Pt 101 0), (4, Pt 102 0), (5, Pt 104 0)], [(101, .box 25 (eBig x0)), (102, .box 25 zBig), (104, .box 23 (eW (A16.of (spliceE A16.zero.l 0 ((x0.W.l.drop ((IntKind.i64.wrap (-x_8) : Int).toNat)).take (min (16 - (IntKind.i64.wrap (-x_8) : Int).toNat) 16))))))]⟩ rfl ?_))
      obtain ⟨x_15, e21, h⟩ := bnd h
      obtain ⟨x_16, e22, h⟩ := bnd h
      refine Tri.regionY mixed 10 [.b (.agg (eBig x0)), .b (.agg (eW (A16.of (spliceE A16.zero.l 0 ((x0.W.l.drop ((IntKind.i64.wrap (-x_8) : Int).toNat)).take (min (16 - (IntKind.i64.wrap (-x_8) : Int).toNat) 16)))))), I n0, I (IntKind.i64.wrap (-n0)), I (Int.tmod (IntKind.i64.wrap (-n0)) 32), .b (.agg (eW x_15)), I n0, I (IntKind.i64.wrap (-n0)), .b (.one (.sl 1 ([IntKind.i64.wrap (-n0)].map eI))), .b (.agg (eBig x_16))] [4] [102] (s' := ⟨[(4, Pt 102 0)], [(102, .box 25 (eBig x_16))]⟩) rfl ⟨fun _ => .p (lp tyAgg25), fun _ => .p (lp tyAgg23), fun _ => .p om, fun _ => .p (op_neg rfl), fun _ => .p (op_rem (by decide) rfl rfl), fun _ => .p (op_call0 (w_down_spec e21) goes126 rfl rfl), fun _ => .p om, fun _ => .p (op_neg rfl), fun _ => .p (op_buildSliceP (es := [IntKind.i64.wrap (-n0)].map eI) tySl70 rfl rfl (uni_map fun _ => rfl) rfl (by decide) (by decide)), fun _ => .p (op_call0 (w_lost_spec e22) goes124 rfl rfl), trivial⟩ ⟨_, by exact .p (op_store_p tyAgg25 rfl rfl rfl rfl (Nat.le_of_ble_eq_true rfl) rfl), rfl⟩ rfl (Tri.ret ?_)
      obtain rfl := Option.some.inj h
      refine Fin.keepS ⟨[(4, Pt 102 0)], [(102, .box 25 (eBig x_16))]⟩ rfl (Fin.result' [.agg (eBig x_16)] (.inl rfl) rfl (.cons (.agg tyAgg25 rfl rfl rfl rfl) .nil) ⟨rfl, rfl⟩)
def q_Dyadic_S (F : Nat) (x0 : Frc) (k0 : Int) : Option (Frc × Frc) :=
 (q_Good_S F x0).bind fun x_1 => if (((!x_1) || (decide (k0 < 0))) || (decide (256 < k0))) = true then ((q_Bad_S F).bind fun x_2 => (q_Bad_S F).bind fun x_3 => some (x_2, x_3)) else ((w_Shift_S F x0.N k0).bind fun x_4 => (q_one_S F).bind fun x_5 => (w_Shift_S F x_5 k0).bind fun x_6 => (w_Quo_S F x_4 x0.D).bind fun x_7 => (q_Make_S F x_7 x_6).bind fun x_8 => (w_Neg_S F x_4).bind fun x_9 => (w_Quo_S F x_9 x0.D).bind fun x_10 => (w_Neg_S F x_10).bind fun x_11 => (q_Make_S F x_11 x_6).bind fun x_12 => (q_Good_S F x_8).bind fun x_13 => (gcall (!(!x_13)) (q_Good_S F x_12)).bind fun x_14 => if ((!x_13) || (!x_14)) = true then ((q_Bad_S F).bind fun x_15 => (q_Bad_S F).bind fun x_16 => some (x_15, x_16)) else (some (x_8, x_12)))
theorem q_Dyadic_spec {F : Nat} {x0 : Frc} {k0 : Int} {r : Frc × Frc} (h : q_Dyadic_S F x0 k0 = some r) : Meets Tryz.prog (tabs mx) 29 [] [.agg (eFrc x0), .one (.i k0)] (Is [] (.tup [.agg (eFrc r.1), .agg (eFrc r.2)])) := by
 unfold q_Dyadic_S at h
 refine Meets.intro 54 Tryz.func29 Tryz.ntmps29 rfl (by simp) fun E => ?_
 show Tri _ E ⟨54, [], []⟩ _ ⟨[(0, .b (.agg (eFrc x0))), (1, I k0)], []⟩ _
 refine Tri.seq (Tri.regionL ?_)
 refine Oc (op_box (k := 101) rfl rfl) (Oc (op_alloc (k := 102) tyZero27 rfl) (Oc (op_alloc (k := 103) tyZero27 rfl) ?_))
 refine OpsL.nilS ⟨[(1, I k0), (2, Pt 101 0), (4, Pt 102 0), (5, Pt 103 0)], [(101, .box 27 (eFrc x0)), (102, .box 27 zFrc), (103, .box 27 zFrc)]⟩ rfl (Tri.seq (Tri.seq (Tri.regionL ?_)))
 refine Oc (lp tyAgg27) ?_
 obtain ⟨x_1, e1, h⟩ := bnd h
 refine Oc (op_call0 (q_Good_spec e1) goes26 rfl rfl) (Oc (op_not rfl) (Oc om ?_))
 refine CgF (!(!x_1)) [] (fun g2 => trivial) (fun g2 => om) (OpsL.keepS ⟨[(1, I k0), (2, Pt 101 0), (4, Pt 102 0), (5, Pt 103 0), (11, B (!x_1)), (12, .opt (!(!x_1)) (.one (.i k0)))], [(101, .box 27 (eFrc x0)), (102, .box 27 zFrc), (103, .box 27 zFrc)]⟩ rfl (CgF (!(!x_1)) [12] (fun g3 => by exact ⟨g3, trivial⟩) (fun g3 => op_lss rfl rfl) (Oc (op_pick_or (fun e => by rw [e]; rfl) rfl rfl rfl rfl) (Oc om ?_))))
 refine CgF (!((!x_1) || (decide (k0 < 0)))) [] (fun g4 => trivial) (fun g4 => om) (CgF (!((!x_1) || (decide (k0 < 0)))) [16] (fun g5 => by exact ⟨g5, trivial⟩) (fun g5 => op_gtr rfl rfl) (Oc (op_pick_or (fun e => by rw [e]; rfl) rfl rfl rfl rfl) (OpsL.nilS ⟨[(1, I k0), (2, Pt 101 0), (4, Pt 102 0), (5, Pt 103 0), (18, B (((!x_1) || (decide (k0 < 0))) || (decide (256 < k0))))], [(101, .box 27 (eFrc x0)), (102, .box 27 zFrc), (103, .box 27 zFrc)]⟩ rfl (Tri.ite h rfl (fun _ h => ?_) (fun _ h => ?_)))))
 ·refine Tri.seq (Tri.regionL ?_)
  obtain ⟨x_2, e6, h⟩ := bnd h
  refine Oc (op_call0 (q_Bad_spec e6) goes27 rfl rfl) ?_
  obtain ⟨x_3, e7, h⟩ := bnd h
  refine Oc (op_call0 (q_Bad_spec e7) goes27 rfl rfl) (Oc (op_store_p tyAgg27 rfl rfl rfl rfl (Nat.le_of_ble_eq_true rfl) rfl) (Oc (op_store_p tyAgg27 rfl rfl rfl rfl (Nat.le_of_ble_eq_true rfl) rfl) ?_))
  refine OpsL.nilS ⟨[(4, Pt 102 0), (5, Pt 103 0)], [(102, .box 27 (eFrc x_2)), (103, .box 27 (eFrc x_3))]⟩ rfl (Tri.ret (Fin.then_ret ?_))
  obtain rfl := Option.some.inj h
  refine Fin.keepS ⟨[(4, Pt 102 0), (5, Pt 103 0)], [(102, .box 27 (eFrc x_2)), (103, .box 27 (eFrc x_3))]⟩ rfl (Fin.result' [.agg (eFrc x_2), .agg (eFrc x_3)] (.inl rfl) rfl (.cons (.agg tyAgg27 rfl rfl rfl rfl) (.cons (.agg tyAgg27 rfl rfl rfl rfl) .nil)) ⟨rfl, rfl⟩)
 ·refine Tri.skip (Fin.keepS ⟨[(1, I k0), (2, Pt 101 0), (4, Pt 102 0), (5, Pt 103 0)], [(101, .box 27 (eFrc x0)), (102, .box 27 zFrc), (103, .box 27 zFrc)]⟩ rfl (Fin.then (Tri.seq (Tri.regionL ?_))))
  refine Oc (op_field_p tyFld27_0 rfl rfl) (Oc (lp tyAgg25) (Oc om ?_))
  obtain ⟨x_4, e8, h⟩ := bnd h
  refine Oc (op_call0 (w_Shift_spec e8) goes93 rfl rfl) (OpsL.keepS ⟨[(1, I k0), (2, Pt 101 0), (4, Pt 102 0), (5, Pt 103 0), (24, .b (.agg (eBig x_4)))], [(101, .box 27 (eFrc x0)), (102, .box 27 zFrc), (103, .box 27 zFrc)]⟩ rfl ?_)
  obtain ⟨x_5, e9, h⟩ := bnd h
  refine Oc (op_call0 (q_one_spec e9) goes90 rfl rfl) (Oc om ?_)
  obtain ⟨x_6, e10, h⟩ := bnd h
  refine Oc (op_call0 (w_Shift_spec e10) goes93 rfl rfl) (Oc (op_alloc (k := 104) tyZero25 rfl) ?_)
  refine OpsL.keepS ⟨[(2, Pt 101 0), (4, Pt 102 0), (5, Pt 103 0), (6, Pt 104 0), (24, .b (.agg (eBig x_4))), (27, .b (.agg (eBig x_6)))], [(101, .box 27 (eFrc x0)), (102, .box 27 zFrc), (103, .box 27 zFrc), (104, .box 25 zBig)]⟩ rfl (Oc (op_alloc (k := 105) tyZero25 rfl) (Oc (op_store_p tyAgg25 rfl rfl rfl rfl (Nat.le_of_ble_eq_true rfl) rfl) (Oc (op_store_p tyAgg25 rfl rfl rfl rfl (Nat.le_of_ble_eq_true rfl) rfl) ?_)))
  refine OpsL.nilS ⟨[(2, Pt 101 0), (4, Pt 102 0), (5, Pt 103 0), (6, Pt 104 0), (7, Pt 105 0)], [(101, .box 27 (eFrc x0)), (102, .box 27 zFrc), (103, .box 27 zFrc), (104, .box 25 (eBig x_4)), (105, .box 25 (eBig x_6))]⟩ rfl (Tri.seq ?_)
  obtain ⟨x_7, e11, h⟩ := bnd h
  obtain ⟨x_8, e12, h⟩ := bnd h
  refine Tri.regionY mixed 6 [.b (.agg (eBig x_4)), Pt 101 18, .b (.agg (eBig x0.D)), .b (.agg (eBig x_7)), .b (.agg (eBig x_6)), .b (.agg (eFrc x_8))] [2, 4, 5, 6, 7] [101, 102, 103, 104, 105] (s' := ⟨[(2, Pt 101 0), (4, Pt 102 0), (5, Pt 103 0), (6, Pt 104 0), (7, Pt 105 0)], [(101, .box 27 (eFrc x0)), (102, .box 27 (eFrc x_8)), (103, .box 27 zFrc), (104, .box 25 (eBig x_4)), (105, .box 25 (eBig x_6))]⟩) rfl ⟨fun _ => .p (lp tyAgg25), fun _ => .p (op_field_p tyFld27_1 rfl rfl), fun _ => .p (lp tyAgg25), fun _ => .p (op_call0 (w_Quo_spec e11) goes75 rfl rfl), fun _ => .p (lp tyAgg25), fun _ => .p (op_call0 (q_Make_spec e12) goes11 rfl rfl), trivial⟩ ⟨_, by exact .p (op_store_p tyAgg27 rfl rfl rfl rfl (Nat.le_of_ble_eq_true rfl) rfl), rfl⟩ rfl (Tri.seq (Tri.keepS ⟨[(2, Pt 101 0), (4, Pt 102 0), (5, Pt 103 0), (6, Pt 104 0), (7, Pt 105 0)], [(101, .box 27 (eFrc x0)), (102, .box 27 (eFrc x_8)), (103, .box 27 zFrc), (104, .box 25 (eBig x_4)), (105, .box 25 (eBig x_6))]⟩ rfl ?_))
  obtain ⟨x_9, e13, h⟩ := bnd h
  obtain ⟨x_10, e14, h⟩ := bnd h
  obtain ⟨x_11, e15, h⟩ := bnd h
  obtain ⟨x_12, e16, h⟩ := bnd h
  refine Tri.regionY mixed 8 [.b (.agg (eBig x_4)), .b (.agg (eBig x_9)), Pt 101 18, .b (.agg (eBig x0.D)), .b (.agg (eBig x_10)), .b (.agg (eBig x_11)), .b (.agg (eBig x_6)), .b (.agg (eFrc x_12))] [4, 5] [102, 103] (s' := ⟨[(4, Pt 102 0), (5, Pt 103 0)], [(102, .box 27 (eFrc x_8)), (103, .box 27 (eFrc x_12))]⟩) rfl ⟨fun _ => .p (lp tyAgg25), fun _ => .p (op_call0 (w_Neg_spec e13) goes74 rfl rfl), fun _ => .p (op_field_p tyFld27_1 rfl rfl), fun _ => .p (lp tyAgg25), fun _ => .p (op_call0 (w_Quo_spec e14) goes75 rfl rfl), fun _ => .p (op_call0 (w_Neg_spec e15) goes74 rfl rfl), fun _ => .p (lp tyAgg25), fun _ => .p (op_call0 (q_Make_spec e16) goes11 rfl rfl), trivial⟩ ⟨_, by exact .p (op_store_p tyAgg27 rfl rfl rfl rfl (Nat.le_of_ble_eq_true rfl) rfl), rfl⟩ rfl (Tri.seq (Tri.seq (Tri.regionL ?_)))
  refine Oc (lp tyAgg27) ?_
  obtain ⟨x_13, e17, h⟩ := bnd h
  refine Oc (op_call0 (q_Good_spec e17) goes26 rfl rfl) (Oc (op_not rfl) (Oc om ?_))
  refine CgF (!(!x_13)) [] (fun g18 => trivial) (fun g18 => lp tyAgg27) (OpsL.keepS ⟨[(4, Pt 102 0), (5, Pt 103 0), (45, B (!x_13)), (46, .opt (!(!x_13)) (.agg (eFrc x_12)))], [(102, .box 27 (eFrc x_8)), (103, .box 27 (eFrc x_12))]⟩ rfl ?_)
  obtain ⟨x_14, e20, h⟩ := bnd h
  refine CgF (!(!x_13)) [46] (fun g19 => ⟨g19, trivial⟩) (fun g19 => op_call0 (q_Good_spec (gc e20 g19)) goes26 rfl rfl) (CgF (!(!x_13)) [47] (fun g21 => ⟨g21, trivial⟩) (fun g21 => op_not rfl) (Oc (op_pick_or (fun e => by rw [e]; rfl) rfl rfl rfl rfl) (OpsL.nilS ⟨[(4, Pt 102 0), (5, Pt 103 0), (49, B ((!x_13) || (!x_14)))], [(102, .box 27 (eFrc x_8)), (103, .box 27 (eFrc x_12))]⟩ rfl (Tri.ite h rfl (fun _ h => ?_) (fun _ h => ?_)))))
  ·refine Tri.seq (Tri.regionL ?_)
   obtain ⟨x_15, e22, h⟩ := bnd h
   refine Oc (op_call0 (q_Bad_spec e22) goes27 rfl rfl) ?_
   obtain ⟨x_16, e23, h⟩ := bnd h
   refine Oc (op_call0 (q_Bad_spec e23) goes27 rfl rfl) (Oc (op_store_p tyAgg27 rfl rfl rfl rfl (Nat.le_of_ble_eq_true rfl) rfl) (Oc (op_store_p tyAgg27 rfl rfl rfl rfl (Nat.le_of_ble_eq_true rfl) rfl) ?_))
   refine OpsL.nilS ⟨[(4, Pt 102 0), (5, Pt 103 0)], [(102, .box 27 (eFrc x_15)), (103, .box 27 (eFrc x_16))]⟩ rfl (Tri.ret (Fin.then_ret ?_))
   obtain rfl := Option.some.inj h
   refine Fin.keepS ⟨[(4, Pt 102 0), (5, Pt 103 0)], [(102, .box 27 (eFrc x_15)), (103, .box 27 (eFrc x_16))]⟩ rfl (Fin.result' [.agg (eFrc x_15), .agg (eFrc x_16)] (.inl rfl) rfl (.cons (.agg tyAgg27 rfl rfl rfl rfl) (.cons (.agg tyAgg27 rfl rfl rfl rfl) .nil)) ⟨rfl, rfl⟩)
  ·refine Tri.skip (Fin.keepS ⟨[(4, Pt 102 0), (5, Pt 103 0)], [(102, .box 27 (eFrc x_8)), (103, .box 27 (eFrc x_12))]⟩ rfl (Fin.then (Tri.seq ?_)))
   refine Tri.keepS ⟨[(4, Pt 102 0), (5, Pt 103 0)], [(102, .box 27 (eFrc x_8)), (103, .box 27 (eFrc x_12))]⟩ rfl (Tri.regionW mixed [false, false, true, true] [.b (.agg (eFrc x_8)), .b (.agg (eFrc x_12)), B true, B true] [⟨[false, false, false, false], [(4, Pt 102 0), (5, Pt 103 0)], [(102, .box 27 (eFrc x_8)), (103, .box 27 (eFrc x_12))], [true, true, true, true], []⟩, ⟨[false, false, true, false], [(4, Pt 102 0), (5, Pt 103 0)], [(102, .box 27 (eFrc x_8)), (103, .box 27 (eFrc x_12))], [true, true, true, true], [0, 2]⟩, ⟨[false, false, true, true], [(4, Pt 102 0), (5, Pt 103 0)], [(102, .box 27 (eFrc x_8)), (103, .box 27 (eFrc x_12))], [true, true, true, true], [0, 1, 2, 3]⟩] rfl (⟨by kernel_rfl, ⟨⟨.b (.agg (eFrc x_8)), fun _ => rfl, fun _ => .p (by exact op_load_p tyAgg27 rfl rfl rfl rfl)⟩, ⟨.b (.agg (eFrc x_12)), fun _ => rfl, fun _ => .p (by exact op_load_p tyAgg27 rfl rfl rfl rfl)⟩, ⟨_, none, .b (.one .any), rfl, (fun e => by simp at e), rfl, rfl, fun _ => .toO [102, 103] (by exact .p (by exact op_store_p tyAgg27 rfl rfl rfl rfl (Nat.le_of_ble_eq_true rfl) rfl)) (by exact rfl)⟩, trivial, trivial⟩, ⟨by kernel_rfl, ⟨trivial, ⟨.b (.agg (eFrc x_12)), fun _ => rfl, fun _ => .p (by exact op_load_p tyAgg27 rfl rfl rfl rfl)⟩, trivial, ⟨_, none, .b (.one .any), rfl, (fun e => by simp at e), rfl, rfl, fun _ => .toO [102, 103] (by exact .p (by exact op_store_p tyAgg27 rfl rfl rfl rfl (Nat.le_of_ble_eq_true rfl) rfl)) (by exact rfl)⟩, trivial⟩, ⟨by kernel_rfl, ⟨trivial, trivial, trivial, trivial, trivial⟩, trivial⟩⟩⟩) rfl rfl rfl [4, 5] [102, 103] (s' := ⟨[(4, Pt 102 0), (5, Pt 103 0)], [(102, .box 27 (eFrc x_8)), (103, .box 27 (eFrc x_12))]⟩) rfl (Tri.ret ?_))
   obtain rfl := Option.some.inj h
   refine Fin.keepS ⟨[(4, Pt 102 0), (5, Pt 103 0)], [(102, .box 27 (eFrc x_8)), (103, .box 27 (eFrc x_12))]⟩ rfl (Fin.result' [.agg (eFrc x_8), .agg (eFrc x_12)] (.inl rfl) rfl (.cons (.agg tyAgg27 rfl rfl rfl rfl) (.cons (.agg tyAgg27 rfl rfl rfl rfl) .nil)) ⟨rfl, rfl⟩)
def q_Cmp_S (F : Nat) (x0 : Frc) (y0 : Frc) : Option Int :=
 (q_Good_S F x0).bind fun x_1 => (q_Good_S F y0).bind fun x_2 => if ((!x_1) && (!x_2)) = true then (some 0) else (if (!x_1) = true then (some (-1)) else (if (!x_2) = true then (some 1) else (Option.bind (iter F (un3 fun x_4 y_5 out_6 => (w_Quo_S F x_4.N x_4.D).bind fun x_8 => (w_Quo_S F y_5.N y_5.D).bind fun x_9 => (w_Cmp_S F x_8 x_9).bind fun x_10 => if (decide (x_10 ≠ 0)) = true then (some (.inr (IntKind.i64.wrap (out_6 * x_10)))) else ((w_Rem_S F x_4.N x_4.D).bind fun x_11 => (w_Rem_S F y_5.N y_5.D).bind fun x_12 => (w_Sign_S F x_11).bind fun x_13 => (w_Sign_S F x_12).bind fun x_14 => if ((decide (x_13 = 0)) || (decide (x_14 = 0))) = true then (letN (IntKind.i64.wrap (out_6 * (IntKind.i64.wrap (x_13 - x_14)))) fun x_15 => some (.inr x_15)) else (some (.inl ((⟨x_4.D, x_11⟩ : Frc), (⟨y_5.D, x_12⟩ : Frc), IntKind.i64.wrap (-out_6)))))) (x0, y0, 1)) (fun out_3 => some out_3))))
theorem q_Cmp_spec {F : Nat} {x0 : Frc} {y0 : Frc} {r : Int} (h : q_Cmp_S F x0 y0 = some r) : Meets Tryz.prog (tabs mx) 39 [] [.agg (eFrc x0), .agg (eFrc y0)] (Is [] (.b (.one (.i r)))) := by
 unfold q_Cmp_S at h
 refine Meets.intro 80 Tryz.func39 Tryz.ntmps39 rfl (by simp) fun E => ?_
 show Tri _ E ⟨80, [], []⟩ _ ⟨[(0, .b (.agg (eFrc x0))), (1, .b (.agg (eFrc y0)))], []⟩ _
 refine Tri.seq (Tri.regionL ?_)
 refine Oc (op_box (k := 101) rfl rfl) (Oc (op_box (k := 102) rfl rfl) (Oc oa ?_))
 refine OpsL.nilS ⟨[(2, Pt 101 0), (3, Pt 102 0)], [(101, .box 27 (eFrc x0)), (102, .box 27 (eFrc y0))]⟩ rfl (Tri.scope (Tri.seq ?_))
 obtain ⟨x_1, e1, h⟩ := bnd h
 obtain ⟨x_2, e2, h⟩ := bnd h
 refine Tri.regionY mixed 6 [.b (.agg (eFrc x0)), B x_1, .b (.agg (eFrc y0)), B x_2, B x_1, B x_2] [2, 3, 5, 6] [101, 102] (s' := ⟨[(2, Pt 101 0), (3, Pt 102 0), (5, B x_1), (6, B x_2)], [(101, .box 27 (eFrc x0)), (102, .box 27 (eFrc y0))]⟩) rfl ⟨fun _ => .p (lp tyAgg27), fun _ => .p (op_call0 (q_Good_spec e1) goes26 rfl rfl), fun _ => .p (lp tyAgg27), fun _ => .p (op_call0 (q_Good_spec e2) goes26 rfl rfl), fun _ => .p oa, fun _ => .p oa, trivial⟩ rfl rfl (Tri.seq (Tri.block (Tri.seq (Tri.regionL ?_))))
 refine Oc om (Oc (op_not rfl) (Oc om ?_))
 refine CgT (!x_1) [] (fun g3 => trivial) (fun g3 => om) (CgT (!x_1) [19] (fun g4 => by exact ⟨g4, trivial⟩) (fun g4 => op_not rfl) (Oc (op_pick_and (fun e => e) rfl rfl rfl rfl) (Oc oa ?_)))
 refine OpsL.nilS ⟨[(2, Pt 101 0), (3, Pt 102 0), (5, B x_1), (6, B x_2), (15, B ((!x_1) && (!x_2)))], [(101, .box 27 (eFrc x0)), (102, .box 27 (eFrc y0))]⟩ rfl (Tri.ite h rfl (fun _ h => ?_) (fun _ h => ?_))
 ·refine Tri.seq (Tri.regionL ?_)
  refine Oc oa (OpsL.nilS ⟨[(4, I 0)], []⟩ rfl (Tri.ret (Fin.block_ret (Fin.then_ret (Fin.scope_ret ?_)))))
  obtain rfl := Option.some.inj h
  refine Fin.keepS ⟨[(4, I 0)], []⟩ rfl (Fin.result' [.one (.i 0)] (.inl rfl) rfl (.cons (.tmp rfl) .nil) ⟨rfl, rfl⟩)
 ·refine Tri.seq (Tri.regionL ?_)
  refine Oc om (Oc (op_not rfl) (Oc oa ?_))
  refine OpsL.nilS ⟨[(2, Pt 101 0), (3, Pt 102 0), (6, B x_2), (22, B (!x_1))], [(101, .box 27 (eFrc x0)), (102, .box 27 (eFrc y0))]⟩ rfl (Tri.ite h rfl (fun _ h => ?_) (fun _ h => ?_))
  ·refine Tri.seq (Tri.regionL ?_)
   refine Oc oa (OpsL.nilS ⟨[(4, I (-1))], []⟩ rfl (Tri.ret (Fin.block_ret (Fin.then_ret (Fin.scope_ret ?_)))))
   obtain rfl := Option.some.inj h
   refine Fin.keepS ⟨[(4, I (-1))], []⟩ rfl (Fin.result' [.one (.i (-1))] (.inl rfl) rfl (.cons (.tmp rfl) .nil) ⟨rfl, rfl⟩)
  ·refine Tri.seq (Tri.regionL ?_)
   refine Oc om (Oc (op_not rfl) (Oc oa ?_))
   refine OpsL.nilS ⟨[(2, Pt 101 0), (3, Pt 102 0), (25, B (!x_2))], [(101, .box 27 (eFrc x0)), (102, .box 27 (eFrc y0))]⟩ rfl (Tri.ite h rfl (fun _ h => ?_) (fun _ h => ?_))
   ·refine Tri.seq (Tri.regionL ?_)
    refine Oc oa (OpsL.nilS ⟨[(4, I 1)], []⟩ rfl (Tri.ret (Fin.block_ret (Fin.then_ret (Fin.scope_ret ?_)))))
    obtain rfl := Option.some.inj h
    refine Fin.keepS ⟨[(4, I 1)], []⟩ rfl (Fin.result' [.one (.i 1)] (.inl rfl) rfl (.cons (.tmp rfl) .nil) ⟨rfl, rfl⟩)
   ·refine Tri.skip (Fin.block_normal (Fin.keepS ⟨[(2, Pt 101 0), (3, Pt 102 0)], [(101, .box 27 (eFrc x0)), (102, .box 27 (eFrc y0))]⟩ rfl (Fin.then (Tri.seq (Tri.regionL ?_)))))
    refine Oc oa (OpsL.nilS ⟨[(2, Pt 101 0), (3, Pt 102 0), (7, I 1)], [(101, .box 27 (eFrc x0)), (102, .box 27 (eFrc y0))]⟩ rfl (Tri.seq (Tri.label (Fin.then ?_))))
    obtain ⟨v5, h6, h⟩ := bnd h
    refine Tri.seqJ (v := v5) (fun (out_3 : Int) => ⟨[(7, I out_3)], []⟩) (fun z => z) ?_ ?_
    ·refine Tri.block (Tri.loopJ h6 (un3 fun (x_4 : Frc) (y_5 : Frc) (out_6 : Int) => ⟨[(2, Pt 101 0), (3, Pt 102 0), (7, I out_6)], [(101, .box 27 (eFrc x_4)), (102, .box 27 (eFrc y_5))]⟩) [2, 3, 7] [101, 102] rfl ?_)
     rintro ⟨x_4, y_5, out_6⟩ o7 h8 hy9
     refine Tri.block (Tri.seq (Tri.seq ?_))
     refine Tri.keepS ⟨[(2, Pt 101 0), (3, Pt 102 0), (7, I out_6)], [(101, .box 27 (eFrc x_4)), (102, .box 27 (eFrc y_5))]⟩ rfl ?_
     obtain ⟨x_8, e10, h8⟩ := bnd h8
     obtain ⟨x_9, e11, h8⟩ := bnd h8
     obtain ⟨x_10, e12, h8⟩ := bnd h8
     refine Tri.regionY mixed 12 [Pt 101 0, .b (.agg (eBig x_4.N)), Pt 101 18, .b (.agg (eBig x_4.D)), .b (.agg (eBig x_8)), Pt 102 0, .b (.agg (eBig y_5.N)), Pt 102 18, .b (.agg (eBig y_5.D)), .b (.agg (eBig x_9)), I x_10, I x_10] [2, 3, 7, 8] [101, 102] (s' := ⟨[(2, Pt 101 0), (3, Pt 102 0), (7, I out_6), (8, I x_10)], [(101, .box 27 (eFrc x_4)), (102, .box 27 (eFrc y_5))]⟩) rfl ⟨fun _ => .p (op_field_p tyFld27_0 rfl rfl), fun _ => .p (lp tyAgg25), fun _ => .p (op_field_p tyFld27_1 rfl rfl), fun _ => .p (lp tyAgg25), fun _ => .p (op_call0 (w_Quo_spec e10) goes75 rfl rfl), fun _ => .p (op_field_p tyFld27_0 rfl rfl), fun _ => .p (lp tyAgg25), fun _ => .p (op_field_p tyFld27_1 rfl rfl), fun _ => .p (lp tyAgg25), fun _ => .p (op_call0 (w_Quo_spec e11) goes75 rfl rfl), fun _ => .p (op_call0 (w_Cmp_spec e12) goes95 rfl rfl), fun _ => .p oa, trivial⟩ rfl rfl (Tri.seq (Tri.regionL ?_))
     refine Oc om (Oc (op_neq rfl rfl) ?_)
     refine OpsL.nilS ⟨[(2, Pt 101 0), (3, Pt 102 0), (7, I out_6), (8, I x_10), (40, B (decide (x_10 ≠ 0)))], [(101, .box 27 (eFrc x_4)), (102, .box 27 (eFrc y_5))]⟩ rfl (Tri.ite h8 rfl (fun _ h8 => ?_) (fun _ h8 => ?_))
     ·refine Tri.seq (Tri.regionL ?_)
      refine Oc om (Oc om (Oc (op_mul rfl rfl) (Oc oa ?_)))
      refine OpsL.nilS ⟨[(7, I (IntKind.i64.wrap (out_6 * x_10)))], []⟩ rfl (Tri.exit (Fin.then_exit (Fin.block_exit_other (by decide) ?_)))
      obtain rfl := hy9 _ (Option.some.inj h8).symm
      refine Fin.then_exit (Fin.block_exit ?_)
      exact Fin.join [7] [] (IntKind.i64.wrap (out_6 * x_10)) rfl rfl
     ·refine Tri.skip (Fin.keepS ⟨[(2, Pt 101 0), (3, Pt 102 0), (7, I out_6)], [(101, .box 27 (eFrc x_4)), (102, .box 27 (eFrc y_5))]⟩ rfl (Fin.then (Tri.seq ?_)))
      refine Tri.keepS ⟨[(2, Pt 101 0), (3, Pt 102 0), (7, I out_6)], [(101, .box 27 (eFrc x_4)), (102, .box 27 (eFrc y_5))]⟩ rfl ?_
      obtain ⟨x_11, e13, h8⟩ := bnd h8
      obtain ⟨x_12, e14, h8⟩ := bnd h8
      refine Tri.regionW mixed [false, false, false, false, false, false, false, false, false, false, false, false, false, false, false, false, true, true] [Pt 101 18, .b (.agg (eBig x_4.D)), Pt 101 0, .b (.agg (eBig x_4.N)), Pt 101 18, .b (.agg (eBig x_4.D)), .b (.agg (eBig x_11)), .b (.agg (eBig x_4.D ++ (eBig x_11))), Pt 102 18, .b (.agg (eBig y_5.D)), Pt 102 0, .b (.agg (eBig y_5.N)), Pt 102 18, .b (.agg (eBig y_5.D)), .b (.agg (eBig x_12)), .b (.agg (eBig y_5.D ++ (eBig x_12))), B true, B true] [⟨[false, false, false, false, false, false, false, false, false, false, false, false, false, false, false, false, false, false], [(2, Pt 101 0), (3, Pt 102 0), (7, I out_6)], [(101, .box 27 (eFrc x_4)), (102, .box 27 (eFrc y_5))], [true, true, true, true, true, true, true, true, true, true, true, true, true, true, true, true, true, true], []⟩, ⟨[false, false, false, false, false, false, false, false, false, false, false, false, false, false, false, false, true, false], [(2, Pt 101 0), (3, Pt 102 0), (7, I out_6)], [(101, .box 27 (eBig x_4.D ++ (eBig x_11))), (102, .box 27 (eFrc y_5))], [true, true, true, true, true, true, true, true, true, true, true, true, true, true, true, true, true, true], [0, 1, 2, 3, 4, 5, 6, 7, 10, 11, 12, 13, 14, 16]⟩, ⟨[false, false, false, false, false, false, false, false, false, false, false, false, false, false, false, false, true, true], [(2, Pt 101 0), (3, Pt 102 0), (7, I out_6)], [(101, .box 27 (eBig x_4.D ++ (eBig x_11))), (102, .box 27 (eBig y_5.D ++ (eBig x_12)))], [true, true, true, true, true, true, true, true, true, true, true, true, true, true, true, true, true, true], [0, 1, 2, 3, 4, 5, 6, 7, 8, 9, 10, 11, 12, 13, 14, 15, 16, 17]⟩] rfl (⟨by kernel_rfl, ⟨⟨Pt 101 18, fun _ => rfl, fun _ => .p (by exact op_field_p tyFld27_1 rfl rfl)⟩, ⟨.b (.agg (eBig x_4.D)), fun _ => rfl, fun _ => .p (by exact op_load_p tyAgg25 rfl rfl rfl rfl)⟩, ⟨Pt 101 0, fun _ => rfl, fun _ => .p (by exact op_field_p tyFld27_0 rfl rfl)⟩, ⟨.b (.agg (eBig x_4.N)), fun _ => rfl, fun _ => .p (by exact op_load_p tyAgg25 rfl rfl rfl rfl)⟩, ⟨Pt 101 18, fun _ => rfl, fun _ => .p (by exact op_field_p tyFld27_1 rfl rfl)⟩, ⟨.b (.agg (eBig x_4.D)), fun _ => rfl, fun _ => .p (by exact op_load_p tyAgg25 rfl rfl rfl rfl)⟩, ⟨.b (.agg (eBig x_11)), fun _ => rfl, fun _ => .p (by exact op_call0 (w_Rem_spec e13) goes94 rfl rfl)⟩, ⟨.b (.agg (eBig x_4.D ++ (eBig x_11))), fun _ => rfl, fun _ => .p (by exact op_build tyBuild27 rfl rfl)⟩, ⟨Pt 102 18, fun _ => rfl, fun _ => .p (by exact op_field_p tyFld27_1 rfl rfl)⟩, ⟨.b (.agg (eBig y_5.D)), fun _ => rfl, fun _ => .p (by exact op_load_p tyAgg25 rfl rfl rfl rfl)⟩, ⟨Pt 102 0, fun _ => rfl, fun _ => .p (by exact op_field_p tyFld27_0 rfl rfl)⟩, ⟨.b (.agg (eBig y_5.N)), fun _ => rfl, fun _ => .p (by exact op_load_p tyAgg25 rfl rfl rfl rfl)⟩, ⟨Pt 102 18, fun _ => rfl, fun _ => .p (by exact op_field_p tyFld27_1 rfl rfl)⟩, ⟨.b (.agg (eBig y_5.D)), fun _ => rfl, fun _ => .p (by exact op_load_p tyAgg25 rfl rfl rfl rfl)⟩, ⟨.b (.agg (eBig x_12)), fun _ => rfl, fun _ => .p (by exact op_call0 (w_Rem_spec e14) goes94 rfl rfl)⟩, ⟨.b (.agg (eBig y_5.D ++ (eBig x_12))), fun _ => rfl, fun _ => .p (by exact op_build tyBuild27 rfl rfl)⟩, ⟨_, none, .b (.one .any), rfl, (fun e => by simp at e), rfl, rfl, fun _ => .toO [101, 102] (by exact .p (by exact op_store_p tyAgg27 rfl rfl rfl rfl (Nat.le_of_ble_eq_true rfl) rfl)) (by exact rfl)⟩, trivial, trivial⟩, ⟨by kernel_rfl, ⟨trivial, trivial, trivial, trivial, trivial, trivial, trivial, trivial, ⟨Pt 102 18, fun _ => rfl, fun _ => .p (by exact op_field_p tyFld27_1 rfl rfl)⟩, ⟨.b (.agg (eBig y_5.D)), fun _ => rfl, fun _ => .p (by exact op_load_p tyAgg25 rfl rfl rfl rfl)⟩, trivial, trivial, trivial, trivial, trivial, ⟨.b (.agg (eBig y_5.D ++ (eBig x_12))), fun _ => rfl, fun _ => .p (by exact op_build tyBuild27 rfl rfl)⟩, trivial, ⟨_, none, .b (.one .any), rfl, (fun e => by simp at e), rfl, rfl, fun _ => .toO [101, 102] (by exact .p (by exact op_store_p tyAgg27 rfl rfl rfl rfl (Nat.le_of_ble_eq_true rfl) rfl)) (by exact rfl)⟩, trivial⟩, ⟨by kernel_rfl, ⟨trivial, trivial, trivial, trivial, trivial, trivial, trivial, trivial, trivial, trivial, trivial, trivial, trivial, trivial, trivial, trivial, trivial, trivial, trivial⟩, trivial⟩⟩⟩) rfl rfl rfl [2, 3, 7] [101, 102] (s' := ⟨[(2, Pt 101 0), (3, Pt 102 0), (7, I out_6)], [(101, .box 27 (eBig x_4.D ++ (eBig x_11))), (102, .box 27 (eBig y_5.D ++ (eBig x_12)))]⟩) rfl ?_
      refine Tri.seq (Tri.keepS ⟨[(2, Pt 101 0), (3, Pt 102 0), (7, I out_6)], [(101, .box 27 (eBig x_4.D ++ (eBig x_11))), (102, .box 27 (eBig y_5.D ++ (eBig x_12)))]⟩ rfl ?_)
      obtain ⟨x_13, e15, h8⟩ := bnd h8
      obtain ⟨x_14, e16, h8⟩ := bnd h8
      refine Tri.regionY mixed 8 [Pt 101 18, .b (.agg (eBig x_11)), I x_13, Pt 102 18, .b (.agg (eBig x_12)), I x_14, I x_13, I x_14] [2, 3, 7, 9, 10] [101, 102] (s' := ⟨[(2, Pt 101 0), (3, Pt 102 0), (7, I out_6), (9, I x_13), (10, I x_14)], [(101, .box 27 (eBig x_4.D ++ (eBig x_11))), (102, .box 27 (eBig y_5.D ++ (eBig x_12)))]⟩) rfl ⟨fun _ => .p (op_field_p tyFld27_1 rfl rfl), fun _ => .p (lp tyAgg25), fun _ => .p (op_call0 (w_Sign_spec e15) goes72 rfl rfl), fun _ => .p (op_field_p tyFld27_1 rfl rfl), fun _ => .p (lp tyAgg25), fun _ => .p (op_call0 (w_Sign_spec e16) goes72 rfl rfl), fun _ => .p oa, fun _ => .p oa, trivial⟩ rfl rfl (Tri.seq (Tri.seq (Tri.regionL ?_)))
      refine Oc om (Oc (op_eql rfl rfl) (Oc om ?_))
      refine CgF (!(decide (x_13 = 0))) [] (fun g17 => trivial) (fun g17 => om) (CgF (!(decide (x_13 = 0))) [69] (fun g18 => by exact ⟨g18, trivial⟩) (fun g18 => op_eql rfl rfl) (Oc (op_pick_or (fun e => by rw [e]; rfl) rfl rfl rfl rfl) (OpsL.nilS ⟨[(2, Pt 101 0), (3, Pt 102 0), (7, I out_6), (9, I x_13), (10, I x_14), (71, B ((decide (x_13 = 0)) || (decide (x_14 = 0))))], [(101, .box 27 (eBig x_4.D ++ (eBig x_11))), (102, .box 27 (eBig y_5.D ++ (eBig x_12)))]⟩ rfl (Tri.ite h8 rfl (fun _ h8 => ?_) (fun _ h8 => ?_)))))
      ·refine Tri.seq (Tri.regionL ?_)
       refine Oc om (Oc om (Oc om (Oc (op_sub rfl rfl) ?_)))
       refine OpsL.consI .i64 h8 rfl (op_mul rfl rfl) (fun x_15 h8 => ?_)
       refine Oc oa (OpsL.nilS ⟨[(7, I x_15)], []⟩ rfl (Tri.exit (Fin.then_exit (Fin.block_exit_other (by decide) ?_))))
       obtain rfl := hy9 _ (Option.some.inj h8).symm
       refine Fin.then_exit (Fin.block_exit ?_)
       exact Fin.join [7] [] x_15 rfl rfl
      ·refine Tri.skip (Fin.keepS ⟨[(2, Pt 101 0), (3, Pt 102 0), (7, I out_6)], [(101, .box 27 (eBig x_4.D ++ (eBig x_11))), (102, .box 27 (eBig y_5.D ++ (eBig x_12)))]⟩ rfl (Fin.then (Tri.regionL ?_)))
       refine Oc om (Oc (op_neg rfl) (Oc oa ?_))
       refine OpsL.nil (Fin.block_normal ?_)
       exact Fin.againJ [2, 3, 7] [101, 102] ((⟨x_4.D, x_11⟩ : Frc), (⟨y_5.D, x_12⟩ : Frc), IntKind.i64.wrap (-out_6)) (Option.some.inj h8) rfl
    ·rintro out_3 hv
     subst v5
     refine Tri.seq (Tri.regionL ?_)
     refine Oc om (Oc oa ?_)
     refine OpsL.nilS ⟨[(4, I out_3)], []⟩ rfl (Tri.ret (Fin.scope_ret ?_))
     obtain rfl := Option.some.inj h
     refine Fin.keepS ⟨[(4, I out_3)], []⟩ rfl (Fin.result' [.one (.i out_3)] (.inl rfl) rfl (.cons (.tmp rfl) .nil) ⟨rfl, rfl⟩)
def q_Sign_S (F : Nat) (x0 : Frc) : Option Int :=
 (q_Good_S F x0).bind fun x_1 => if (!x_1) = true then (some 0) else ((w_Sign_S F x0.N).bind fun x_2 => some x_2)
theorem q_Sign_spec {F : Nat} {x0 : Frc} {r : Int} (h : q_Sign_S F x0 = some r) : Meets Tryz.prog (tabs mx) 37 [] [.agg (eFrc x0)] (Is [] (.b (.one (.i r)))) := by
 unfold q_Sign_S at h
 refine Meets.intro 9 Tryz.func37 Tryz.ntmps37 rfl (by simp) fun E => ?_
 show Tri _ E ⟨9, [], []⟩ _ ⟨[(0, .b (.agg (eFrc x0)))], []⟩ _
 refine Tri.seq (Tri.regionL ?_)
 refine Oc (op_box (k := 101) rfl rfl) (Oc oa ?_)
 refine OpsL.nilS ⟨[(1, Pt 101 0)], [(101, .box 27 (eFrc x0))]⟩ rfl (Tri.seq (Tri.seq (Tri.regionL ?_)))
 refine Oc (lp tyAgg27) ?_
 obtain ⟨x_1, e1, h⟩ := bnd h
 refine Oc (op_call0 (q_Good_spec e1) goes26 rfl rfl) (Oc (op_not rfl) ?_)
 refine OpsL.nilS ⟨[(1, Pt 101 0), (5, B (!x_1))], [(101, .box 27 (eFrc x0))]⟩ rfl (Tri.ite h rfl (fun _ h => ?_) (fun _ h => ?_))
 ·refine Tri.seq (Tri.regionL ?_)
  refine Oc oa (OpsL.nilS ⟨[(2, I 0)], []⟩ rfl (Tri.ret (Fin.then_ret ?_)))
  obtain rfl := Option.some.inj h
  refine Fin.keepS ⟨[(2, I 0)], []⟩ rfl (Fin.result' [.one (.i 0)] (.inl rfl) rfl (.cons (.tmp rfl) .nil) ⟨rfl, rfl⟩)
 ·refine Tri.skip (Fin.keepS ⟨[(1, Pt 101 0)], [(101, .box 27 (eFrc x0))]⟩ rfl (Fin.then (Tri.seq (Tri.regionL ?_))))
  refine Oc (op_field_p tyFld27_0 rfl rfl) (Oc (lp tyAgg25) ?_)
  obtain ⟨x_2, e2, h⟩ := bnd h
  refine Oc (op_call0 (w_Sign_spec e2) goes72 rfl rfl) (Oc oa ?_)
  refine OpsL.nilS ⟨[(2, I x_2)], []⟩ rfl (Tri.ret ?_)
  obtain rfl := Option.some.inj h
  refine Fin.keepS ⟨[(2, I x_2)], []⟩ rfl (Fin.result' [.one (.i x_2)] (.inl rfl) rfl (.cons (.tmp rfl) .nil) ⟨rfl, rfl⟩)
def q_Whole_S (F : Nat) (n0 : Big) : Option Frc :=
 (q_one_S F).bind fun x_1 => (q_Make_S F n0 x_1).bind fun x_2 => some x_2
theorem q_Whole_spec {F : Nat} {n0 : Big} {r : Frc} (h : q_Whole_S F n0 = some r) : Meets Tryz.prog (tabs mx) 18 [] [.agg (eBig n0)] (Is [] (.b (.agg (eFrc r)))) := by
 unfold q_Whole_S at h
 refine Meets.intro 6 Tryz.func18 Tryz.ntmps18 rfl (by simp) fun E => ?_
 show Tri _ E ⟨6, [], []⟩ _ ⟨[(0, .b (.agg (eBig n0)))], []⟩ _
 refine Tri.seq (Tri.regionL ?_)
 refine Oc (op_box (k := 101) rfl rfl) (Oc (op_alloc (k := 102) tyZero27 rfl) ?_)
 refine OpsL.nilS ⟨[(1, Pt 101 0), (2, Pt 102 0)], [(101, .box 25 (eBig n0)), (102, .box 27 zFrc)]⟩ rfl (Tri.seq ?_)
 obtain ⟨x_1, e1, h⟩ := bnd h
 obtain ⟨x_2, e2, h⟩ := bnd h
 refine Tri.regionY mixed 3 [.b (.agg (eBig n0)), .b (.agg (eBig x_1)), .b (.agg (eFrc x_2))] [2] [102] (s' := ⟨[(2, Pt 102 0)], [(102, .box 27 (eFrc x_2))]⟩) rfl ⟨fun _ => .p (lp tyAgg25), fun _ => .p (op_call0 (q_one_spec e1) goes90 rfl rfl), fun _ => .p (op_call0 (q_Make_spec e2) goes11 rfl rfl), trivial⟩ ⟨_, by exact .p (op_store_p tyAgg27 rfl rfl rfl rfl (Nat.le_of_ble_eq_true rfl) rfl), rfl⟩ rfl (Tri.ret ?_)
 obtain rfl := Option.some.inj h
 refine Fin.keepS ⟨[(2, Pt 102 0)], [(102, .box 27 (eFrc x_2))]⟩ rfl (Fin.result' [.agg (eFrc x_2)] (.inl rfl) rfl (.cons (.agg tyAgg27 rfl rfl rfl rfl) .nil) ⟨rfl, rfl⟩)
def q_Of_S (F : Nat) (n0 : Int) : Option Frc :=
 (w_Of_S F n0).bind fun x_1 => (q_Whole_S F x_1).bind fun x_2 => some x_2
theorem q_Of_spec {F : Nat} {n0 : Int} {r : Frc} (h : q_Of_S F n0 = some r) : Meets Tryz.prog (tabs mx) 20 [] [.one (.i n0)] (Is [] (.b (.agg (eFrc r)))) := by
 unfold q_Of_S at h
 refine Meets.intro 6 Tryz.func20 Tryz.ntmps20 rfl (by simp) fun E => ?_
 show Tri _ E ⟨6, [], []⟩ _ ⟨[(0, I n0)], []⟩ _
 refine Tri.seq (Tri.regionL ?_)
 refine Oc (op_alloc (k := 101) tyZero27 rfl) (OpsL.nilS ⟨[(0, I n0), (2, Pt 101 0)], [(101, .box 27 zFrc)]⟩ rfl (Tri.seq (Tri.regionL ?_)))
 refine Oc om ?_
 obtain ⟨x_1, e1, h⟩ := bnd h
 refine Oc (op_call0 (w_Of_spec e1) goes91 rfl rfl) ?_
 obtain ⟨x_2, e2, h⟩ := bnd h
 refine Oc (op_call0 (q_Whole_spec e2) goes18 rfl rfl) (Oc (op_store_p tyAgg27 rfl rfl rfl rfl (Nat.le_of_ble_eq_true rfl) rfl) ?_)
 refine OpsL.nilS ⟨[(2, Pt 101 0)], [(101, .box 27 (eFrc x_2))]⟩ rfl (Tri.ret ?_)
 obtain rfl := Option.some.inj h
 refine Fin.keepS ⟨[(2, Pt 101 0)], [(101, .box 27 (eFrc x_2))]⟩ rfl (Fin.result' [.agg (eFrc x_2)] (.inl rfl) rfl (.cons (.agg tyAgg27 rfl rfl rfl rfl) .nil) ⟨rfl, rfl⟩)
def q_Sub_S (F : Nat) (x0 : Frc) (y0 : Frc) : Option Frc :=
 (q_Neg_S F y0).bind fun x_1 => (q_Add_S F x0 x_1).bind fun x_2 => some x_2
theorem q_Sub_spec {F : Nat} {x0 : Frc} {y0 : Frc} {r : Frc} (h : q_Sub_S F x0 y0 = some r) : Meets Tryz.prog (tabs mx) 41 [] [.agg (eFrc x0), .agg (eFrc y0)] (Is [] (.b (.agg (eFrc r)))) := by
 unfold q_Sub_S at h
 refine Meets.intro 9 Tryz.func41 Tryz.ntmps41 rfl (by simp) fun E => ?_
 show Tri _ E ⟨9, [], []⟩ _ ⟨[(0, .b (.agg (eFrc x0))), (1, .b (.agg (eFrc y0)))], []⟩ _
 refine Tri.seq (Tri.regionL ?_)
 refine Oc (op_box (k := 101) rfl rfl) (Oc (op_box (k := 102) rfl rfl) (Oc (op_alloc (k := 103) tyZero27 rfl) ?_))
 refine OpsL.nilS ⟨[(2, Pt 101 0), (3, Pt 102 0), (4, Pt 103 0)], [(101, .box 27 (eFrc x0)), (102, .box 27 (eFrc y0)), (103, .box 27 zFrc)]⟩ rfl (Tri.seq ?_)
 obtain ⟨x_1, e1, h⟩ := bnd h
 obtain ⟨x_2, e2, h⟩ := bnd h
 refine Tri.regionY mixed 4 [.b (.agg (eFrc x0)), .b (.agg (eFrc y0)), .b (.agg (eFrc x_1)), .b (.agg (eFrc x_2))] [4] [103] (s' := ⟨[(4, Pt 103 0)], [(103, .box 27 (eFrc x_2))]⟩) rfl ⟨fun _ => .p (lp tyAgg27), fun _ => .p (lp tyAgg27), fun _ => .p (op_call0 (q_Neg_spec e1) goes43 rfl rfl), fun _ => .p (op_call0 (q_Add_spec e2) goes42 rfl rfl), trivial⟩ ⟨_, by exact .p (op_store_p tyAgg27 rfl rfl rfl rfl (Nat.le_of_ble_eq_true rfl) rfl), rfl⟩ rfl (Tri.ret ?_)
 obtain rfl := Option.some.inj h
 refine Fin.keepS ⟨[(4, Pt 103 0)], [(103, .box 27 (eFrc x_2))]⟩ rfl (Fin.result' [.agg (eFrc x_2)] (.inl rfl) rfl (.cons (.agg tyAgg27 rfl rfl rfl rfl) .nil) ⟨rfl, rfl⟩)
def q_Simplest_R (F : Nat) : Nat → Frc → Frc → Option Frc
 | 0, _, _ => none
 | n + 1, lo0, hi0 => (q_Good_S F lo0).bind fun x_1 => (gcall (!(!x_1)) (q_Good_S F hi0)).bind fun x_2 => (gcall (!((!x_1) || (!x_2))) (q_Cmp_S F lo0 hi0)).bind fun x_3 => if (((!x_1) || (!x_2)) || (decide (0 < x_3))) = true then ((q_Bad_S F).bind fun x_4 => some x_4) else ((q_Sign_S F lo0).bind fun x_5 => (gcall (decide (x_5 ≤ 0)) (q_Sign_S F hi0)).bind fun x_6 => if ((decide (x_5 ≤ 0)) && (decide (0 ≤ x_6))) = true then ((q_Of_S F 0).bind fun x_7 => some x_7) else ((q_Sign_S F hi0).bind fun x_8 => if (decide (x_8 < 0)) = true then ((q_Neg_S F hi0).bind fun x_9 => (q_Neg_S F lo0).bind fun x_10 => (q_Simplest_R F n x_9 x_10).bind fun x_11 => (q_Neg_S F x_11).bind fun x_12 => some x_12) else ((q_Ceil_S F lo0).bind fun x_13 => (q_Whole_S F x_13).bind fun x_14 => (q_Cmp_S F x_14 hi0).bind fun x_15 => if (decide (x_15 ≤ 0)) = true then (some x_14) else ((q_Floor_S F lo0).bind fun x_16 => (q_Whole_S F x_16).bind fun x_17 => (q_Of_S F 1).bind fun x_18 => (q_Of_S F 1).bind fun x_19 => (q_Sub_S F hi0 x_17).bind fun x_20 => (q_Div_S F x_19 x_20).bind fun x_21 => (q_Of_S F 1).bind fun x_22 => (q_Sub_S F lo0 x_17).bind fun x_23 => (q_Div_S F x_22 x_23).bind fun x_24 => (q_Simplest_R F n x_21 x_24).bind fun x_25 => (q_Div_S F x_18 x_25).bind fun x_26 => (q_Add_S F x_17 x_26).bind fun x_27 => some x_27))))
def q_Simplest_S (F : Nat) (lo0 : Frc) (hi0 : Frc) : Option Frc := q_Simplest_R F F lo0 hi0
theorem q_Simplest_specR {F : Nat} : ∀ (n : Nat) {lo0 : Frc} {hi0 : Frc} {r : Frc} (h : q_Simplest_R F n lo0 hi0 = some r), Meets Tryz.prog (tabs mx) 48 [] [.agg (eFrc lo0), .agg (eFrc hi0)] (Is [] (.b (.agg (eFrc r)))) := by
 intro n
 induction n with
 | zero => intro lo0 hi0 r h; simp [q_Simplest_R] at h
 | succ n ih =>
 intro lo0 hi0 r h
 unfold q_Simplest_R at h
 refine Meets.intro 69 Tryz.func48 Tryz.ntmps48 rfl (by simp) fun E => ?_
 show Tri _ E ⟨69, [], []⟩ _ ⟨[(0, .b (.agg (eFrc lo0))), (1, .b (.agg (eFrc hi0)))], []⟩ _
 refine Tri.seq (Tri.regionL ?_)
 refine Oc (op_box (k := 101) rfl rfl) (Oc (op_box (k := 102) rfl rfl) (Oc (op_alloc (k := 103) tyZero27 rfl) ?_))
 refine OpsL.nilS ⟨[(2, Pt 101 0), (3, Pt 102 0), (4, Pt 103 0)], [(101, .box 27 (eFrc lo0)), (102, .box 27 (eFrc hi0)), (103, .box 27 zFrc)]⟩ rfl (Tri.seq (Tri.block (Tri.seq (Tri.regionL ?_))))
 refine Oc (lp tyAgg27) ?_
 obtain ⟨x_1, e1, h⟩ := bnd h
 refine Oc (op_call0 (q_Good_spec e1) goes26 rfl rfl) (Oc (op_not rfl) (Oc om ?_))
 refine CgF (!(!x_1)) [] (fun g2 => trivial) (fun g2 => lp tyAgg27) (OpsL.keepS ⟨[(2, Pt 101 0), (3, Pt 102 0), (4, Pt 103 0), (11, B (!x_1)), (12, .opt (!(!x_1)) (.agg (eFrc hi0)))], [(101, .box 27 (eFrc lo0)), (102, .box 27 (eFrc hi0)), (103, .box 27 zFrc)]⟩ rfl ?_)
 obtain ⟨x_2, e4, h⟩ := bnd h
 refine CgF (!(!x_1)) [12] (fun g3 => ⟨g3, trivial⟩) (fun g3 => op_call0 (q_Good_spec (gc e4 g3)) goes26 rfl rfl) (CgF (!(!x_1)) [13] (fun g5 => ⟨g5, trivial⟩) (fun g5 => op_not rfl) (Oc (op_pick_or (fun e => by rw [e]; rfl) rfl rfl rfl rfl) (Oc om ?_)))
 refine CgF (!((!x_1) || (!x_2))) [] (fun g6 => trivial) (fun g6 => lp tyAgg27) (CgF (!((!x_1) || (!x_2))) [] (fun g7 => by exact trivial) (fun g7 => lp tyAgg27) (OpsL.keepS ⟨[(2, Pt 101 0), (3, Pt 102 0), (4, Pt 103 0), (16, B ((!x_1) || (!x_2))), (17, .opt (!((!x_1) || (!x_2))) (.agg (eFrc lo0))), (18, .opt (!((!x_1) || (!x_2))) (.agg (eFrc hi0)))], [(101, .box 27 (eFrc lo0)), (102, .box 27 (eFrc hi0)), (103, .box 27 zFrc)]⟩ rfl ?_))
 obtain ⟨x_3, e9, h⟩ := bnd h
 refine CgF (!((!x_1) || (!x_2))) [17, 18] (fun g8 => ⟨g8, g8, trivial⟩) (fun g8 => op_call0 (q_Cmp_spec (gc e9 g8)) goes39 rfl rfl) (CgF (!((!x_1) || (!x_2))) [19] (fun g10 => ⟨g10, trivial⟩) (fun g10 => op_gtr rfl rfl) (Oc (op_pick_or (fun e => by rw [e]; rfl) rfl rfl rfl rfl) (Oc oa ?_)))
 refine OpsL.nilS ⟨[(2, Pt 101 0), (3, Pt 102 0), (4, Pt 103 0), (7, B (((!x_1) || (!x_2)) || (decide (0 < x_3))))], [(101, .box 27 (eFrc lo0)), (102, .box 27 (eFrc hi0)), (103, .box 27 zFrc)]⟩ rfl (Tri.ite h rfl (fun _ h => ?_) (fun _ h => ?_))
 ·refine Tri.seq (Tri.regionL ?_)
  obtain ⟨x_4, e11, h⟩ := bnd h
  refine Oc (op_call0 (q_Bad_spec e11) goes27 rfl rfl) (Oc (op_store_p tyAgg27 rfl rfl rfl rfl (Nat.le_of_ble_eq_true rfl) rfl) ?_)
  refine OpsL.nilS ⟨[(4, Pt 103 0)], [(103, .box 27 (eFrc x_4))]⟩ rfl (Tri.ret (Fin.block_ret (Fin.then_ret ?_)))
  obtain rfl := Option.some.inj h
  refine Fin.keepS ⟨[(4, Pt 103 0)], [(103, .box 27 (eFrc x_4))]⟩ rfl (Fin.result' [.agg (eFrc x_4)] (.inl rfl) rfl (.cons (.agg tyAgg27 rfl rfl rfl rfl) .nil) ⟨rfl, rfl⟩)
 ·refine Tri.seq (Tri.regionL ?_)
  refine Oc (lp tyAgg27) ?_
  obtain ⟨x_5, e12, h⟩ := bnd h
  refine Oc (op_call0 (q_Sign_spec e12) goes37 rfl rfl) (Oc (op_leq rfl rfl) (Oc om ?_))
  refine CgT (decide (x_5 ≤ 0)) [] (fun g13 => trivial) (fun g13 => lp tyAgg27) (OpsL.keepS ⟨[(2, Pt 101 0), (3, Pt 102 0), (4, Pt 103 0), (27, B (decide (x_5 ≤ 0))), (28, .opt (decide (x_5 ≤ 0)) (.agg (eFrc hi0)))], [(101, .box 27 (eFrc lo0)), (102, .box 27 (eFrc hi0)), (103, .box 27 zFrc)]⟩ rfl ?_)
  obtain ⟨x_6, e15, h⟩ := bnd h
  refine CgT (decide (x_5 ≤ 0)) [28] (fun g14 => ⟨g14, trivial⟩) (fun g14 => op_call0 (q_Sign_spec (gc e15 g14)) goes37 rfl rfl) (CgT (decide (x_5 ≤ 0)) [29] (fun g16 => ⟨g16, trivial⟩) (fun g16 => op_geq rfl rfl) (Oc (op_pick_and (fun e => e) rfl rfl rfl rfl) (Oc oa ?_)))
  refine OpsL.nilS ⟨[(2, Pt 101 0), (3, Pt 102 0), (4, Pt 103 0), (23, B ((decide (x_5 ≤ 0)) && (decide (0 ≤ x_6))))], [(101, .box 27 (eFrc lo0)), (102, .box 27 (eFrc hi0)), (103, .box 27 zFrc)]⟩ rfl (Tri.ite h rfl (fun _ h => ?_) (fun _ h => ?_))
  ·refine Tri.seq (Tri.regionL ?_)
   obtain ⟨x_7, e17, h⟩ := bnd h
   refine Oc (op_call0 (q_Of_spec e17) goes20 rfl rfl) (Oc (op_store_p tyAgg27 rfl rfl rfl rfl (Nat.le_of_ble_eq_true rfl) rfl) ?_)
   refine OpsL.nilS ⟨[(4, Pt 103 0)], [(103, .box 27 (eFrc x_7))]⟩ rfl (Tri.ret (Fin.block_ret (Fin.then_ret ?_)))
   obtain rfl := Option.some.inj h
   refine Fin.keepS ⟨[(4, Pt 103 0)], [(103, .box 27 (eFrc x_7))]⟩ rfl (Fin.result' [.agg (eFrc x_7)] (.inl rfl) rfl (.cons (.agg tyAgg27 rfl rfl rfl rfl) .nil) ⟨rfl, rfl⟩)
  ·refine Tri.seq (Tri.regionL ?_)
   refine Oc (lp tyAgg27) ?_
   obtain ⟨x_8, e18, h⟩ := bnd h
   refine Oc (op_call0 (q_Sign_spec e18) goes37 rfl rfl) (Oc (op_lss rfl rfl) (Oc oa ?_))
   refine OpsL.nilS ⟨[(2, Pt 101 0), (3, Pt 102 0), (4, Pt 103 0), (33, B (decide (x_8 < 0)))], [(101, .box 27 (eFrc lo0)), (102, .box 27 (eFrc hi0)), (103, .box 27 zFrc)]⟩ rfl (Tri.ite h rfl (fun _ h => ?_) (fun _ h => ?_))
   ·refine Tri.seq (Tri.keepS ⟨[(2, Pt 101 0), (3, Pt 102 0), (4, Pt 103 0)], [(101, .box 27 (eFrc lo0)), (102, .box 27 (eFrc hi0)), (103, .box 27 zFrc)]⟩ rfl ?_)
    obtain ⟨x_9, e19, h⟩ := bnd h
    obtain ⟨x_10, e20, h⟩ := bnd h
    obtain ⟨x_11, e21, h⟩ := bnd h
    obtain ⟨x_12, e22, h⟩ := bnd h
    refine Tri.regionY mixed 6 [.b (.agg (eFrc hi0)), .b (.agg (eFrc x_9)), .b (.agg (eFrc lo0)), .b (.agg (eFrc x_10)), .b (.agg (eFrc x_11)), .b (.agg (eFrc x_12))] [4] [103] (s' := ⟨[(4, Pt 103 0)], [(103, .box 27 (eFrc x_12))]⟩) rfl ⟨fun _ => .p (lp tyAgg27), fun _ => .p (op_call0 (q_Neg_spec e19) goes43 rfl rfl), fun _ => .p (lp tyAgg27), fun _ => .p (op_call0 (q_Neg_spec e20) goes43 rfl rfl), fun _ => .p (op_call0 (ih e21) goes48 rfl rfl), fun _ => .p (op_call0 (q_Neg_spec e22) goes43 rfl rfl), trivial⟩ ⟨_, by exact .p (op_store_p tyAgg27 rfl rfl rfl rfl (Nat.le_of_ble_eq_true rfl) rfl), rfl⟩ rfl (Tri.ret (Fin.block_ret (Fin.then_ret ?_)))
    obtain rfl := Option.some.inj h
    refine Fin.keepS ⟨[(4, Pt 103 0)], [(103, .box 27 (eFrc x_12))]⟩ rfl (Fin.result' [.agg (eFrc x_12)] (.inl rfl) rfl (.cons (.agg tyAgg27 rfl rfl rfl rfl) .nil) ⟨rfl, rfl⟩)
   ·refine Tri.skip (Fin.block_normal (Fin.keepS ⟨[(2, Pt 101 0), (3, Pt 102 0), (4, Pt 103 0)], [(101, .box 27 (eFrc lo0)), (102, .box 27 (eFrc hi0)), (103, .box 27 zFrc)]⟩ rfl (Fin.then (Tri.seq (Tri.seq (Tri.regionL ?_))))))
    refine Oc (lp tyAgg27) ?_
    obtain ⟨x_13, e23, h⟩ := bnd h
    refine Oc (op_call0 (q_Ceil_spec e23) goes33 rfl rfl) ?_
    obtain ⟨x_14, e24, h⟩ := bnd h
    refine Oc (op_call0 (q_Whole_spec e24) goes18 rfl rfl) (Oc (op_alloc (k := 104) tyZero27 rfl) (Oc (op_store_p tyAgg27 rfl rfl rfl rfl (Nat.le_of_ble_eq_true rfl) rfl) ?_))
    refine OpsL.nilS ⟨[(2, Pt 101 0), (3, Pt 102 0), (4, Pt 103 0), (5, Pt 104 0)], [(101, .box 27 (eFrc lo0)), (102, .box 27 (eFrc hi0)), (103, .box 27 zFrc), (104, .box 27 (eFrc x_14))]⟩ rfl (Tri.seq (Tri.regionL ?_))
    refine Oc (lp tyAgg27) (Oc (lp tyAgg27) ?_)
    obtain ⟨x_15, e25, h⟩ := bnd h
    refine Oc (op_call0 (q_Cmp_spec e25) goes39 rfl rfl) (Oc (op_leq rfl rfl) ?_)
    refine OpsL.nilS ⟨[(2, Pt 101 0), (3, Pt 102 0), (4, Pt 103 0), (5, Pt 104 0), (49, B (decide (x_15 ≤ 0)))], [(101, .box 27 (eFrc lo0)), (102, .box 27 (eFrc hi0)), (103, .box 27 zFrc), (104, .box 27 (eFrc x_14))]⟩ rfl (Tri.ite h rfl (fun _ h => ?_) (fun _ h => ?_))
    ·refine Tri.seq (Tri.regionL ?_)
     refine Oc (lp tyAgg27) (Oc (op_store_p tyAgg27 rfl rfl rfl rfl (Nat.le_of_ble_eq_true rfl) rfl) ?_)
     refine OpsL.nilS ⟨[(4, Pt 103 0)], [(103, .box 27 (eFrc x_14))]⟩ rfl (Tri.ret (Fin.then_ret ?_))
     obtain rfl := Option.some.inj h
     refine Fin.keepS ⟨[(4, Pt 103 0)], [(103, .box 27 (eFrc x_14))]⟩ rfl (Fin.result' [.agg (eFrc x_14)] (.inl rfl) rfl (.cons (.agg tyAgg27 rfl rfl rfl rfl) .nil) ⟨rfl, rfl⟩)
    ·refine Tri.skip (Fin.keepS ⟨[(2, Pt 101 0), (3, Pt 102 0), (4, Pt 103 0)], [(101, .box 27 (eFrc lo0)), (102, .box 27 (eFrc hi0)), (103, .box 27 zFrc)]⟩ rfl (Fin.then (Tri.seq (Tri.regionL ?_))))
     refine Oc (lp tyAgg27) ?_
     obtain ⟨x_16, e26, h⟩ := bnd h
     refine Oc (op_call0 (q_Floor_spec e26) goes31 rfl rfl) ?_
     obtain ⟨x_17, e27, h⟩ := bnd h
     refine Oc (op_call0 (q_Whole_spec e27) goes18 rfl rfl) (Oc (op_alloc (k := 105) tyZero27 rfl) (Oc (op_store_p tyAgg27 rfl rfl rfl rfl (Nat.le_of_ble_eq_true rfl) rfl) ?_))
     refine OpsL.nilS ⟨[(2, Pt 101 0), (3, Pt 102 0), (4, Pt 103 0), (6, Pt 105 0)], [(101, .box 27 (eFrc lo0)), (102, .box 27 (eFrc hi0)), (103, .box 27 zFrc), (105, .box 27 (eFrc x_17))]⟩ rfl (Tri.seq ?_)
     obtain ⟨x_18, e28, h⟩ := bnd h
     obtain ⟨x_19, e29, h⟩ := bnd h
     obtain ⟨x_20, e30, h⟩ := bnd h
     obtain ⟨x_21, e31, h⟩ := bnd h
     obtain ⟨x_22, e32, h⟩ := bnd h
     obtain ⟨x_23, e33, h⟩ := bnd h
     obtain ⟨x_24, e34, h⟩ := bnd h
     obtain ⟨x_25, e35, h⟩ := bnd h
     obtain ⟨x_26, e36, h⟩ := bnd h
     obtain ⟨x_27, e37, h⟩ := bnd h
     refine Tri.regionY mixed 15 [.b (.agg (eFrc x_17)), .b (.agg (eFrc x_18)), .b (.agg (eFrc x_19)), .b (.agg (eFrc hi0)), .b (.agg (eFrc x_17)), .b (.agg (eFrc x_20)), .b (.agg (eFrc x_21)), .b (.agg (eFrc x_22)), .b (.agg (eFrc lo0)), .b (.agg (eFrc x_17)), .b (.agg (eFrc x_23)), .b (.agg (eFrc x_24)), .b (.agg (eFrc x_25)), .b (.agg (eFrc x_26)), .b (.agg (eFrc x_27))] [4] [103] (s' := ⟨[(4, Pt 103 0)], [(103, .box 27 (eFrc x_27))]⟩) rfl ⟨fun _ => .p (lp tyAgg27), fun _ => .p (op_call0 (q_Of_spec e28) goes20 rfl rfl), fun _ => .p (op_call0 (q_Of_spec e29) goes20 rfl rfl), fun _ => .p (lp tyAgg27), fun _ => .p (lp tyAgg27), fun _ => .p (op_call0 (q_Sub_spec e30) goes41 rfl rfl), fun _ => .p (op_call0 (q_Div_spec e31) goes46 rfl rfl), fun _ => .p (op_call0 (q_Of_spec e32) goes20 rfl rfl), fun _ => .p (lp tyAgg27), fun _ => .p (lp tyAgg27), fun _ => .p (op_call0 (q_Sub_spec e33) goes41 rfl rfl), fun _ => .p (op_call0 (q_Div_spec e34) goes46 rfl rfl), fun _ => .p (op_call0 (ih e35) goes48 rfl rfl), fun _ => .p (op_call0 (q_Div_spec e36) goes46 rfl rfl), fun _ => .p (op_call0 (q_Add_spec e37) goes42 rfl rfl), trivial⟩ ⟨_, by exact .p (op_store_p tyAgg27 rfl rfl rfl rfl (Nat.le_of_ble_eq_true rfl) rfl), rfl⟩ rfl (Tri.ret ?_)
     obtain rfl := Option.some.inj h
     refine Fin.keepS ⟨[(4, Pt 103 0)], [(103, .box 27 (eFrc x_27))]⟩ rfl (Fin.result' [.agg (eFrc x_27)] (.inl rfl) rfl (.cons (.agg tyAgg27 rfl rfl rfl rfl) .nil) ⟨rfl, rfl⟩)
theorem q_Simplest_spec {F : Nat} {lo0 : Frc} {hi0 : Frc} {r : Frc} (h : q_Simplest_S F lo0 hi0 = some r) : Meets Tryz.prog (tabs mx) 48 [] [.agg (eFrc lo0), .agg (eFrc hi0)] (Is [] (.b (.agg (eFrc r)))) := q_Simplest_specR F h
def w_Parse_S (F : Nat) (s0 : Str) : Option (Big × Int) :=
 Option.bind ((gcall (decide (0 < (s0.length : Int))) (idx? s0 0)).bind fun x_2 => letN ((decide (0 < (s0.length : Int))) && (decide ((x_2.toNat : Int) = 45))) fun x_3 => if x_3 = true then ((drop? s0 1).bind fun x_4 => some x_4) else (some s0)) (fun digits_1 => (gcall (!(decide (digits_1 = []))) (idx? digits_1 0)).bind fun x_5 => letN ((decide (digits_1 = [])) || ((decide ((x_5.toNat : Int) = 48)) && (decide (s0 ≠ [48])))) fun x_6 => if x_6 = true then ((w_Bad_S F).bind fun x_7 => some (x_7, 281)) else (Option.bind (iter F (fun x_8 => if (decide (x_8 < ((ofStr digits_1).length : Int))) = true then ((idx? (ofStr digits_1) x_8).bind fun x_9 => if ((decide (x_9 < 48)) || (decide (57 < x_9))) = true then ((w_Bad_S F).bind fun x_10 => some (.inr (.inr (x_10, 281)))) else (some (.inl (IntKind.i64.wrap (x_8 + 1))))) else (some (.inr (.inl ())))) 0) (alt2 (fun _ => if (decide (512 < (digits_1.length : Int))) = true then ((w_Bad_S F).bind fun x_11 => some (x_11, 30)) else ((w_Of_S F 0).bind fun x_12 => (w_Of_S F 10).bind fun x_13 => Option.bind (iter F (un2 fun x_15 x_16 => if (decide (x_16 < ((ofStr digits_1).length : Int))) = true then ((idx? (ofStr digits_1) x_16).bind fun x_18 => (w_Mul_S F x_15 x_13).bind fun x_19 => letN (IntKind.i64.wrap (IntKind.u8.wrap (x_18 - 48))) fun x_20 => (w_Of_S F x_20).bind fun x_21 => (w_Add_S F x_19 x_21).bind fun x_22 => some (.inl (x_22, IntKind.i64.wrap (x_16 + 1)))) else (some (.inr x_15))) (x_12, 0)) (fun x_14 => if x_14.Bad = true then (some (x_14, 30)) else ((w_signed_S F (decide (digits_1 ≠ s0)) x_14.W).bind fun x_23 => some (x_23, 0))))) (fun y => some y))))
theorem w_Parse_spec {F : Nat} {s0 : Str} {r : Big × Int} (h : w_Parse_S F s0 = some r) : Meets Tryz.prog (tabs mx) 106 [] [.one (.str s0)] (Is [] (.tup [.agg (eBig r.1), .one (.i r.2)])) := by
 unfold w_Parse_S at h
 refine Meets.intro 80 Tryz.func106 Tryz.ntmps106 rfl (by simp) fun E => ?_
 show Tri _ E ⟨80, [], []⟩ _ ⟨[(0, .b (.one (.str s0)))], []⟩ _
 refine Tri.seq (Tri.regionL ?_)
 refine Oc (op_alloc (k := 101) tyZero25 rfl) (Oc oa ?_)
 refine OpsL.nilS ⟨[(0, .b (.one (.str s0))), (2, Pt 101 0)], [(101, .box 25 zBig)]⟩ rfl (Tri.seq (Tri.regionL ?_))
 refine Oc om (Oc oa ?_)
 refine OpsL.nilS ⟨[(0, .b (.one (.str s0))), (2, Pt 101 0), (4, .b (.one (.str s0)))], [(101, .box 25 zBig)]⟩ rfl ?_
 obtain ⟨v1, h2, h⟩ := bnd h
 refine Tri.seqJ (v := v1) (fun (digits_1 : Str) => ⟨[(0, .b (.one (.str s0))), (2, Pt 101 0), (4, .b (.one (.str digits_1)))], [(101, .box 25 zBig)]⟩) (fun z => z) ?_ ?_
 ·refine Tri.seq (Tri.regionL ?_)
  refine Oc om (Oc (op_len_str und9 rfl) (Oc (op_gtr rfl rfl) (Oc om ?_)))
  refine CgT (decide (0 < (s0.length : Int))) [] (fun g3 => trivial) (fun g3 => om) ?_
  obtain ⟨x_2, e5, h2⟩ := bnd h2
  refine CgT (decide (0 < (s0.length : Int))) [16] (fun g4 => ⟨g4, trivial⟩) (fun g4 => op_index_str und9 rfl rfl (ix_lo (gc e5 g4)) (ix_get (gc e5 g4))) (CgT (decide (0 < (s0.length : Int))) [17] (fun g6 => ⟨g6, trivial⟩) (fun g6 => op_eql rfl rfl) (OpsL.consB h2 rfl (op_pick_and (fun e => e) rfl rfl rfl rfl) (fun x_3 h2 => ?_)))
  refine OpsL.nilS ⟨[(0, .b (.one (.str s0))), (2, Pt 101 0), (4, .b (.one (.str s0))), (19, B x_3)], [(101, .box 25 zBig)]⟩ rfl (Tri.ite h2 rfl (fun _ h2 => ?_) (fun _ h2 => ?_))
  ·refine Tri.regionL (Oc om ?_)
   obtain ⟨x_4, e7, h2⟩ := bnd h2
   refine Oc (op_slice_str_l und9 e7 rfl rfl) (Oc oa ?_)
   refine OpsL.nil ?_
   exact Fin.join [0, 2, 4] [101] x_4 (Option.some.inj h2) rfl
  ·refine Tri.skip ?_
   exact Fin.join [0, 2, 4] [101] s0 (Option.some.inj h2) rfl
 ·rintro digits_1 hv
  subst v1
  refine Tri.seq (Tri.seq (Tri.regionL ?_))
  refine Oc om (Oc (op_eql_str rfl rfl) (Oc om ?_))
  refine CgF (!(decide (digits_1 = []))) [] (fun g8 => trivial) (fun g8 => om) ?_
  obtain ⟨x_5, e10, h⟩ := bnd h
  refine CgF (!(decide (digits_1 = []))) [25] (fun g9 => ⟨g9, trivial⟩) (fun g9 => op_index_str und9 rfl rfl (ix_lo (gc e10 g9)) (ix_get (gc e10 g9))) (CgF (!(decide (digits_1 = []))) [26] (fun g11 => ⟨g11, trivial⟩) (fun g11 => op_eql rfl rfl) (CgF (!(decide (digits_1 = []))) [27] (fun g12 => ⟨g12, trivial⟩) (fun g12 => om) (OpsL.keepS ⟨[(0, .b (.one (.str s0))), (2, Pt 101 0), (4, .b (.one (.str digits_1))), (24, B (decide (digits_1 = []))), (28, .opt (!(decide (digits_1 = []))) (.one (.bool (decide ((x_5.toNat : Int) = 48)))))], [(101, .box 25 zBig)]⟩ rfl (OpsL.consG ((!(decide (digits_1 = []))) && (decide ((x_5.toNat : Int) = 48))) 99 [] (.under rfl) (and_t _ _) rfl rfl (fun g13 => by exact trivial) (fun g13 => om) (OpsL.consG ((!(decide (digits_1 = []))) && (decide ((x_5.toNat : Int) = 48))) 99 [29] (.under rfl) (and_t _ _) rfl rfl (fun g14 => by exact ⟨g14, trivial⟩) (fun g14 => op_neq_str rfl rfl) ?_)))))
  refine CgF (!(decide (digits_1 = []))) [28] (fun g15 => ⟨g15, trivial⟩) (fun g15 => op_pick_and (fun e => by rw [g15, e]; rfl) rfl rfl rfl rfl) (OpsL.consB h rfl (op_pick_or (fun e => by rw [e]; rfl) rfl rfl rfl rfl) (fun x_6 h => ?_))
  refine OpsL.nilS ⟨[(0, .b (.one (.str s0))), (2, Pt 101 0), (4, .b (.one (.str digits_1))), (32, B x_6)], [(101, .box 25 zBig)]⟩ rfl (Tri.ite h rfl (fun _ h => ?_) (fun _ h => ?_))
  ·refine Tri.seq (Tri.regionL ?_)
   obtain ⟨x_7, e16, h⟩ := bnd h
   refine Oc (op_call0 (w_Bad_spec e16) goes92 rfl rfl) (Oc (op_store_p tyAgg25 rfl rfl rfl rfl (Nat.le_of_ble_eq_true rfl) rfl) (Oc oa ?_))
   refine OpsL.nilS ⟨[(2, Pt 101 0), (3, I 281)], [(101, .box 25 (eBig x_7))]⟩ rfl (Tri.ret (Fin.then_ret ?_))
   obtain rfl := Option.some.inj h
   refine Fin.keepS ⟨[(2, Pt 101 0), (3, I 281)], [(101, .box 25 (eBig x_7))]⟩ rfl (Fin.result' [.agg (eBig x_7), .one (.i 281)] (.inl rfl) rfl (.cons (.agg tyAgg25 rfl rfl rfl rfl) (.cons (.tmp rfl) .nil)) ⟨rfl, rfl⟩)
  ·refine Tri.skip (Fin.keepS ⟨[(0, .b (.one (.str s0))), (2, Pt 101 0), (4, .b (.one (.str digits_1)))], [(101, .box 25 zBig)]⟩ rfl (Fin.then ?_))
   obtain ⟨v17, h18, h⟩ := bnd h
   refine Tri.seqJ (v := v17) (fun (_ : Unit) => ⟨[(0, .b (.one (.str s0))), (2, Pt 101 0), (4, .b (.one (.str digits_1)))], [(101, .box 25 zBig)]⟩) (fun z => .inl z) ?_ ?_
   ·refine Tri.seq (Tri.regionL ?_)
    refine Oc om (Oc (op_conv_str und9 und110 undi5 rfl) (Oc (op_len_e' und110 rfl (List.length_map _)) (Oc om ?_)))
    refine OpsL.nilS ⟨[(0, .b (.one (.str s0))), (2, Pt 101 0), (4, .b (.one (.str digits_1))), (35, .b (.one (.sl 1 ((ofStr digits_1).map (eK .u8))))), (36, I ((ofStr digits_1).length : Int)), (37, I 0)], [(101, .box 25 zBig)]⟩ rfl (Tri.block (Tri.loopJ h18 (fun (x_8 : Int) => ⟨[(0, .b (.one (.str s0))), (2, Pt 101 0), (4, .b (.one (.str digits_1))), (35, .b (.one (.sl 1 ((ofStr digits_1).map (eK .u8))))), (36, I ((ofStr digits_1).length : Int)), (37, I x_8)], [(101, .box 25 zBig)]⟩) [0, 2, 4, 35, 36, 37] [101] rfl ?_))
    rintro x_8 o19 h20 hy21
    refine Tri.seq (Tri.regionL ?_)
    refine Oc (op_lss rfl rfl) (OpsL.nilS ⟨[(0, .b (.one (.str s0))), (2, Pt 101 0), (4, .b (.one (.str digits_1))), (35, .b (.one (.sl 1 ((ofStr digits_1).map (eK .u8))))), (36, I ((ofStr digits_1).length : Int)), (37, I x_8), (38, B (decide (x_8 < ((ofStr digits_1).length : Int))))], [(101, .box 25 zBig)]⟩ rfl (Tri.seq (Tri.ite h20 rfl (fun _ h20 => ?_) (fun _ h20 => ?_))))
    ·refine Tri.skip (Fin.keepS ⟨[(0, .b (.one (.str s0))), (2, Pt 101 0), (4, .b (.one (.str digits_1))), (35, .b (.one (.sl 1 ((ofStr digits_1).map (eK .u8))))), (36, I ((ofStr digits_1).length : Int)), (37, I x_8)], [(101, .box 25 zBig)]⟩ rfl (Fin.then (Tri.seq (Tri.block (Tri.seq (Tri.regionL ?_))))))
     obtain ⟨x_9, e22, h20⟩ := bnd h20
     refine Oc (op_index_e tySl110 (ix_lo e22) (ix_map (e := (eK .u8)) e22) rfl rfl) (Oc (op_load_e1 tyOne5 rfl rfl) (Oc oa ?_))
     refine OpsL.nilS ⟨[(0, .b (.one (.str s0))), (2, Pt 101 0), (4, .b (.one (.str digits_1))), (6, .b (.one (.int .u8 x_9))), (35, .b (.one (.sl 1 ((ofStr digits_1).map (eK .u8))))), (36, I ((ofStr digits_1).length : Int)), (37, I x_8)], [(101, .box 25 zBig)]⟩ rfl (Tri.seq (Tri.regionL ?_))
     refine Oc om (Oc (op_lss rfl rfl) (Oc om ?_))
     refine CgF (!(decide (x_9 < 48))) [] (fun g23 => trivial) (fun g23 => om) (CgF (!(decide (x_9 < 48))) [44] (fun g24 => by exact ⟨g24, trivial⟩) (fun g24 => op_gtr rfl rfl) (Oc (op_pick_or (fun e => by rw [e]; rfl) rfl rfl rfl rfl) (OpsL.nilS ⟨[(0, .b (.one (.str s0))), (2, Pt 101 0), (4, .b (.one (.str digits_1))), (35, .b (.one (.sl 1 ((ofStr digits_1).map (eK .u8))))), (36, I ((ofStr digits_1).length : Int)), (37, I x_8), (46, B ((decide (x_9 < 48)) || (decide (57 < x_9))))], [(101, .box 25 zBig)]⟩ rfl (Tri.ite h20 rfl (fun _ h20 => ?_) (fun _ h20 => ?_)))))
     ·refine Tri.seq (Tri.regionL ?_)
      obtain ⟨x_10, e25, h20⟩ := bnd h20
      refine Oc (op_call0 (w_Bad_spec e25) goes92 rfl rfl) (Oc (op_store_p tyAgg25 rfl rfl rfl rfl (Nat.le_of_ble_eq_true rfl) rfl) (Oc oa ?_))
      refine OpsL.nilS ⟨[(2, Pt 101 0), (3, I 281)], [(101, .box 25 (eBig x_10))]⟩ rfl (Tri.ret (Fin.block_ret (Fin.then_ret ?_)))
      obtain rfl := hy21 _ (Option.some.inj h20).symm
      refine Fin.then_ret (Fin.block_ret (Fin.then_ret ?_))
      obtain rfl := Option.some.inj h
      refine Fin.keepS ⟨[(2, Pt 101 0), (3, I 281)], [(101, .box 25 (eBig x_10))]⟩ rfl (Fin.result' [.agg (eBig x_10), .one (.i 281)] (.inl rfl) rfl (.cons (.agg tyAgg25 rfl rfl rfl rfl) (.cons (.tmp rfl) .nil)) ⟨rfl, rfl⟩)
     ·refine Tri.skip (Fin.block_normal (Fin.keepS ⟨[(0, .b (.one (.str s0))), (2, Pt 101 0), (4, .b (.one (.str digits_1))), (35, .b (.one (.sl 1 ((ofStr digits_1).map (eK .u8))))), (36, I ((ofStr digits_1).length : Int)), (37, I x_8)], [(101, .box 25 zBig)]⟩ rfl (Fin.then (Tri.regionL ?_))))
      refine Oc (op_add rfl rfl) (Oc om ?_)
      refine OpsL.nil ?_
      exact Fin.againJ [0, 2, 4, 35, 36, 37] [101] (IntKind.i64.wrap (x_8 + 1)) (Option.some.inj h20) rfl
    ·refine Tri.exit (Fin.then_exit ?_)
     obtain rfl := hy21 _ (Option.some.inj h20).symm
     refine Fin.then_exit (Fin.block_exit ?_)
     exact Fin.join [0, 2, 4] [101] () rfl rfl
   ·rintro _ hv
    subst v17
    refine Tri.seq (Tri.seq (Tri.regionL ?_))
    refine Oc om (Oc (op_len_str und9 rfl) (Oc (op_gtr rfl rfl) ?_))
    refine OpsL.nilS ⟨[(0, .b (.one (.str s0))), (2, Pt 101 0), (4, .b (.one (.str digits_1))), (51, B (decide (512 < (digits_1.length : Int))))], [(101, .box 25 zBig)]⟩ rfl (Tri.ite h rfl (fun _ h => ?_) (fun _ h => ?_))
    ·refine Tri.seq (Tri.regionL ?_)
     obtain ⟨x_11, e26, h⟩ := bnd h
     refine Oc (op_call0 (w_Bad_spec e26) goes92 rfl rfl) (Oc (op_store_p tyAgg25 rfl rfl rfl rfl (Nat.le_of_ble_eq_true rfl) rfl) (Oc oa ?_))
     refine OpsL.nilS ⟨[(2, Pt 101 0), (3, I 30)], [(101, .box 25 (eBig x_11))]⟩ rfl (Tri.ret (Fin.then_ret ?_))
     obtain rfl := Option.some.inj h
     refine Fin.keepS ⟨[(2, Pt 101 0), (3, I 30)], [(101, .box 25 (eBig x_11))]⟩ rfl (Fin.result' [.agg (eBig x_11), .one (.i 30)] (.inl rfl) rfl (.cons (.agg tyAgg25 rfl rfl rfl rfl) (.cons (.tmp rfl) .nil)) ⟨rfl, rfl⟩)
    ·refine Tri.skip (Fin.keepS ⟨[(0, .b (.one (.str s0))), (2, Pt 101 0), (4, .b (.one (.str digits_1)))], [(101, .box 25 zBig)]⟩ rfl (Fin.then (Tri.seq (Tri.regionL ?_))))
     obtain ⟨x_12, e27, h⟩ := bnd h
     refine Oc (op_call0 (w_Of_spec e27) goes91 rfl rfl) ?_
     obtain ⟨x_13, e28, h⟩ := bnd h
     refine Oc (op_call0 (w_Of_spec e28) goes91 rfl rfl) (OpsL.keepS ⟨[(0, .b (.one (.str s0))), (2, Pt 101 0), (4, .b (.one (.str digits_1))), (53, .b (.agg (eBig x_12))), (54, .b (.agg (eBig x_13)))], [(101, .box 25 zBig)]⟩ rfl (Oc (op_alloc (k := 102) tyZero25 rfl) (Oc (op_alloc (k := 103) tyZero25 rfl) (Oc (op_store_p tyAgg25 rfl rfl rfl rfl (Nat.le_of_ble_eq_true rfl) rfl) (Oc (op_store_p tyAgg25 rfl rfl rfl rfl (Nat.le_of_ble_eq_true rfl) rfl) ?_)))))
     refine OpsL.nilS ⟨[(0, .b (.one (.str s0))), (2, Pt 101 0), (4, .b (.one (.str digits_1))), (7, Pt 102 0), (8, Pt 103 0)], [(101, .box 25 zBig), (102, .box 25 (eBig x_12)), (103, .box 25 (eBig x_13))]⟩ rfl ?_
     obtain ⟨v29, h30, h⟩ := bnd h
     refine Tri.seqJ (v := v29) (fun (x_14 : Big) => ⟨[(0, .b (.one (.str s0))), (2, Pt 101 0), (4, .b (.one (.str digits_1))), (7, Pt 102 0)], [(101, .box 25 zBig), (102, .box 25 (eBig x_14))]⟩) (fun z => z) ?_ ?_
     ·refine Tri.seq (Tri.regionL ?_)
      refine Oc om (Oc (op_conv_str und9 und110 undi5 rfl) (Oc (op_len_e' und110 rfl (List.length_map _)) (Oc om ?_)))
      refine OpsL.nilS ⟨[(0, .b (.one (.str s0))), (2, Pt 101 0), (4, .b (.one (.str digits_1))), (7, Pt 102 0), (8, Pt 103 0), (56, .b (.one (.sl 1 ((ofStr digits_1).map (eK .u8))))), (57, I ((ofStr digits_1).length : Int)), (58, I 0)], [(101, .box 25 zBig), (102, .box 25 (eBig x_12)), (103, .box 25 (eBig x_13))]⟩ rfl (Tri.block (Tri.loopJ h30 (un2 fun (x_15 : Big) (x_16 : Int) => ⟨[(0, .b (.one (.str s0))), (2, Pt 101 0), (4, .b (.one (.str digits_1))), (7, Pt 102 0), (8, Pt 103 0), (56, .b (.one (.sl 1 ((ofStr digits_1).map (eK .u8))))), (57, I ((ofStr digits_1).length : Int)), (58, I x_16)], [(101, .box 25 zBig), (102, .box 25 (eBig x_15)), (103, .box 25 (eBig x_13))]⟩) [0, 2, 4, 7, 8, 56, 57, 58] [101, 102, 103] rfl ?_))
      rintro ⟨x_15, x_16⟩ o31 h32 hy33
      refine Tri.seq (Tri.regionL ?_)
      refine Oc (op_lss rfl rfl) (OpsL.nilS ⟨[(0, .b (.one (.str s0))), (2, Pt 101 0), (4, .b (.one (.str digits_1))), (7, Pt 102 0), (8, Pt 103 0), (56, .b (.one (.sl 1 ((ofStr digits_1).map (eK .u8))))), (57, I ((ofStr digits_1).length : Int)), (58, I x_16), (59, B (decide (x_16 < ((ofStr digits_1).length : Int))))], [(101, .box 25 zBig), (102, .box 25 (eBig x_15)), (103, .box 25 (eBig x_13))]⟩ rfl (Tri.seq (Tri.ite h32 rfl (fun _ h32 => ?_) (fun _ h32 => ?_))))
      ·refine Tri.skip (Fin.keepS ⟨[(0, .b (.one (.str s0))), (2, Pt 101 0), (4, .b (.one (.str digits_1))), (7, Pt 102 0), (8, Pt 103 0), (56, .b (.one (.sl 1 ((ofStr digits_1).map (eK .u8))))), (57, I ((ofStr digits_1).length : Int)), (58, I x_16)], [(101, .box 25 zBig), (102, .box 25 (eBig x_15)), (103, .box 25 (eBig x_13))]⟩ rfl (Fin.then (Tri.seq (Tri.block (Tri.seq (Tri.regionL ?_))))))
       obtain ⟨x_18, e34, h32⟩ := bnd h32
       refine Oc (op_index_e tySl110 (ix_lo e34) (ix_map (e := (eK .u8)) e34) rfl rfl) (Oc (op_load_e1 tyOne5 rfl rfl) (Oc oa ?_))
       refine OpsL.nilS ⟨[(0, .b (.one (.str s0))), (2, Pt 101 0), (4, .b (.one (.str digits_1))), (7, Pt 102 0), (8, Pt 103 0), (10, .b (.one (.int .u8 x_18))), (56, .b (.one (.sl 1 ((ofStr digits_1).map (eK .u8))))), (57, I ((ofStr digits_1).length : Int)), (58, I x_16)], [(101, .box 25 zBig), (102, .box 25 (eBig x_15)), (103, .box 25 (eBig x_13))]⟩ rfl (Tri.regionL (Oc (lp tyAgg25) (Oc (lp tyAgg25) ?_)))
       obtain ⟨x_19, e35, h32⟩ := bnd h32
       refine Oc (op_call0 (w_Mul_spec e35) goes102 rfl rfl) (Oc om (Oc (op_sub rfl rfl) ?_))
       refine OpsL.keepS ⟨[(0, .b (.one (.str s0))), (2, Pt 101 0), (4, .b (.one (.str digits_1))), (7, Pt 102 0), (8, Pt 103 0), (56, .b (.one (.sl 1 ((ofStr digits_1).map (eK .u8))))), (57, I ((ofStr digits_1).length : Int)), (58, I x_16), (64, .b (.agg (eBig x_19))), (66, .b (.one (.int .u8 (IntKind.u8.wrap (x_18 - 48)))))], [(101, .box 25 zBig), (102, .box 25 (eBig x_15)), (103, .box 25 (eBig x_13))]⟩ rfl (OpsL.consI .i64 h32 rfl (op_conv_wrap undi5 undi3 rfl) (fun x_20 h32 => ?_))
       obtain ⟨x_21, e36, h32⟩ := bnd h32
       refine Oc (op_call0 (w_Of_spec e36) goes91 rfl rfl) ?_
       obtain ⟨x_22, e37, h32⟩ := bnd h32
       refine Oc (op_call0 (w_Add_spec e37) goes97 rfl rfl) (Oc (op_store_p tyAgg25 rfl rfl rfl rfl (Nat.le_of_ble_eq_true rfl) rfl) ?_)
       refine OpsL.nil (Fin.block_normal (Fin.keepS ⟨[(0, .b (.one (.str s0))), (2, Pt 101 0), (4, .b (.one (.str digits_1))), (7, Pt 102 0), (8, Pt 103 0), (56, .b (.one (.sl 1 ((ofStr digits_1).map (eK .u8))))), (57, I ((ofStr digits_1).length : Int)), (58, I x_16)], [(101, .box 25 zBig), (102, .box 25 (eBig x_22)), (103, .box 25 (eBig x_13))]⟩ rfl (Fin.then (Tri.regionL ?_))))
       refine Oc (op_add rfl rfl) (Oc om ?_)
       refine OpsL.nil ?_
       exact Fin.againJ [0, 2, 4, 7, 8, 56, 57, 58] [101, 102, 103] (x_22, IntKind.i64.wrap (x_16 + 1)) (Option.some.inj h32) rfl
      ·refine Tri.exit (Fin.then_exit ?_)
       obtain rfl := hy33 _ (Option.some.inj h32).symm
       refine Fin.then_exit (Fin.block_exit ?_)
       exact Fin.join [0, 2, 4, 7] [101, 102] x_15 rfl rfl
     ·rintro x_14 hv
      subst v29
      refine Tri.seq (Tri.seq (Tri.regionL ?_))
      refine Oc (op_field_p tyFld25_0 rfl rfl) (Oc (op_load_p1 tyOne4 rfl rfl rfl) ?_)
      refine OpsL.nilS ⟨[(0, .b (.one (.str s0))), (2, Pt 101 0), (4, .b (.one (.str digits_1))), (7, Pt 102 0), (72, B x_14.Bad)], [(101, .box 25 zBig), (102, .box 25 (eBig x_14))]⟩ rfl (Tri.ite h rfl (fun _ h => ?_) (fun _ h => ?_))
      ·refine Tri.seq (Tri.regionL ?_)
       refine Oc (lp tyAgg25) (Oc (op_store_p tyAgg25 rfl rfl rfl rfl (Nat.le_of_ble_eq_true rfl) rfl) (Oc oa ?_))
       refine OpsL.nilS ⟨[(2, Pt 101 0), (3, I 30)], [(101, .box 25 (eBig x_14))]⟩ rfl (Tri.ret (Fin.then_ret ?_))
       obtain rfl := Option.some.inj h
       refine Fin.keepS ⟨[(2, Pt 101 0), (3, I 30)], [(101, .box 25 (eBig x_14))]⟩ rfl (Fin.result' [.agg (eBig x_14), .one (.i 30)] (.inl rfl) rfl (.cons (.agg tyAgg25 rfl rfl rfl rfl) (.cons (.tmp rfl) .nil)) ⟨rfl, rfl⟩)
      ·refine Tri.skip (Fin.keepS ⟨[(0, .b (.one (.str s0))), (2, Pt 101 0), (4, .b (.one (.str digits_1))), (7, Pt 102 0)], [(101, .box 25 zBig), (102, .box 25 (eBig x_14))]⟩ rfl (Fin.then (Tri.seq (Tri.regionL ?_))))
       refine Oc om (Oc om (Oc (op_neq_str rfl rfl) (Oc (op_field_p tyFld25_2 rfl rfl) (Oc (lp tyAgg23) ?_))))
       refine OpsL.keepS ⟨[(2, Pt 101 0), (76, B (decide (digits_1 ≠ s0))), (78, .b (.agg (eW x_14.W)))], [(101, .box 25 zBig)]⟩ rfl ?_
       obtain ⟨x_23, e38, h⟩ := bnd h
       refine Oc (op_call0 (w_signed_spec e38) goes115 rfl rfl) (Oc (op_store_p tyAgg25 rfl rfl rfl rfl (Nat.le_of_ble_eq_true rfl) rfl) (Oc oa ?_))
       refine OpsL.nilS ⟨[(2, Pt 101 0), (3, I 0)], [(101, .box 25 (eBig x_23))]⟩ rfl (Tri.ret ?_)
       obtain rfl := Option.some.inj h
       refine Fin.keepS ⟨[(2, Pt 101 0), (3, I 0)], [(101, .box 25 (eBig x_23))]⟩ rfl (Fin.result' [.agg (eBig x_23), .one (.i 0)] (.inl rfl) rfl (.cons (.agg tyAgg25 rfl rfl rfl rfl) (.cons (.tmp rfl) .nil)) ⟨rfl, rfl⟩)
def q_Parse_S (F : Nat) (s0 : Str) : Option (Frc × Int) :=
 Option.bind (strings_Cut_S F s0 [47]) (un3 fun x_1 x_2 x_3 => (q_one_S F).bind fun x_4 => letN (⟨(⟨false, false, A16.zero⟩ : Big), x_4⟩ : Frc) fun x_5 => Option.bind (w_Parse_S F x_1) (un2 fun x_6 x_7 => Option.bind (if x_3 = true then (Option.bind (w_Parse_S F x_2) (un2 fun x_10 x_11 => some ((⟨x_6, x_10⟩ : Frc), x_11))) else (some ((⟨x_6, x_5.D⟩ : Frc), 0))) (un2 fun x_8 f_9 => (gcall (((!((decide (x_7 = 281)) || (decide (f_9 = 281)))) && x_3) && !((decide (x_2 = [48])) || (decide (x_2 = [49])))) (strings_HasPrefix_S F x_2 [45])).bind fun x_12 => letN (((decide (x_7 = 281)) || (decide (f_9 = 281))) || (x_3 && (((decide (x_2 = [48])) || (decide (x_2 = [49]))) || x_12))) fun x_13 => if x_13 = true then ((q_Bad_S F).bind fun x_14 => some (x_14, 281)) else (if ((decide (x_7 ≠ 0)) || (decide (f_9 ≠ 0))) = true then ((q_Bad_S F).bind fun x_15 => some (x_15, 30)) else ((q_Good_S F x_8).bind fun x_16 => if (!x_16) = true then ((q_Bad_S F).bind fun x_17 => some (x_17, 281)) else (some (x_8, 0)))))))
theorem q_Parse_spec {F : Nat} {s0 : Str} {r : Frc × Int} (h : q_Parse_S F s0 = some r) : Meets Tryz.prog (tabs mx) 52 [] [.one (.str s0)] (Is [] (.tup [.agg (eFrc r.1), .one (.i r.2)])) := by
 unfold q_Parse_S at h
 refine Meets.intro 68 Tryz.func52 Tryz.ntmps52 rfl (by simp) fun E => ?_
 show Tri _ E ⟨68, [], []⟩ _ ⟨[(0, .b (.one (.str s0)))], []⟩ _
 refine Tri.seq (Tri.regionL ?_)
 refine Oc (op_alloc (k := 101) tyZero27 rfl) (Oc oa ?_)
 refine OpsL.nilS ⟨[(0, .b (.one (.str s0))), (2, Pt 101 0)], [(101, .box 27 zFrc)]⟩ rfl (Tri.seq (Tri.regionL ?_))
 refine Oc om ?_
 obtain ⟨⟨x_1, x_2, x_3⟩, e1, h⟩ := bnd h
 refine Oc (op_call0 (strings_Cut_spec e1) goes105 rfl rfl) (Oc om (Oc (op_extract rfl rfl) (Oc (op_extract rfl rfl) ?_)))
 refine OpsL.keepS ⟨[(2, Pt 101 0), (10, .tup [.one (.str x_1), .one (.str x_2), .one (.bool x_3)]), (13, .b (.one (.str x_1))), (14, .b (.one (.str x_2)))], [(101, .box 27 zFrc)]⟩ rfl (Oc (op_extract rfl rfl) (Oc oa (Oc oa (Oc oa ?_))))
 refine OpsL.nilS ⟨[(2, Pt 101 0), (4, .b (.one (.str x_1))), (5, .b (.one (.str x_2))), (6, B x_3)], [(101, .box 27 zFrc)]⟩ rfl (Tri.seq (Tri.regionL ?_))
 obtain ⟨x_4, e2, h⟩ := bnd h
 refine Oc (op_call0 (q_one_spec e2) goes90 rfl rfl) (OpsL.consA eFrc h rfl (op_build tyBuild27 rfl rfl) (fun x_5 h => ?_))
 refine Oc (op_alloc (k := 102) tyZero27 rfl) (Oc (op_store_p tyAgg27 rfl rfl rfl rfl (Nat.le_of_ble_eq_true rfl) rfl) ?_)
 refine OpsL.nilS ⟨[(2, Pt 101 0), (4, .b (.one (.str x_1))), (5, .b (.one (.str x_2))), (6, B x_3), (7, Pt 102 0)], [(101, .box 27 zFrc), (102, .box 27 (eFrc x_5))]⟩ rfl (Tri.seq (Tri.regionL ?_))
 refine Oc oa (Oc oa ?_)
 refine OpsL.nilS ⟨[(2, Pt 101 0), (4, .b (.one (.str x_1))), (5, .b (.one (.str x_2))), (6, B x_3), (7, Pt 102 0), (9, I 0)], [(101, .box 27 zFrc), (102, .box 27 (eFrc x_5))]⟩ rfl (Tri.seq (Tri.regionL ?_))
 refine Oc om ?_
 obtain ⟨⟨x_6, x_7⟩, e3, h⟩ := bnd h
 refine Oc (op_call0 (w_Parse_spec e3) goes106 rfl rfl) (Oc om (Oc (op_extract rfl rfl) (Oc (op_extract rfl rfl) ?_)))
 refine OpsL.keepS ⟨[(2, Pt 101 0), (5, .b (.one (.str x_2))), (6, B x_3), (7, Pt 102 0), (9, I 0), (21, .b (.agg (eBig x_6))), (22, I x_7)], [(101, .box 27 zFrc), (102, .box 27 (eFrc x_5))]⟩ rfl (Oc (op_field_p tyFld27_0 rfl rfl) (Oc (op_store_p tyAgg25 rfl rfl rfl rfl (Nat.le_of_ble_eq_true rfl) rfl) (Oc oa ?_)))
 refine OpsL.nilS ⟨[(2, Pt 101 0), (5, .b (.one (.str x_2))), (6, B x_3), (7, Pt 102 0), (8, I x_7), (9, I 0)], [(101, .box 27 zFrc), (102, .box 27 (eBig x_6 ++ (eBig x_5.D)))]⟩ rfl ?_
 obtain ⟨v4, h5, h⟩ := bnd h
 refine Tri.seqJ (v := v4) (un2 fun (x_8 : Frc) (f_9 : Int) => ⟨[(2, Pt 101 0), (5, .b (.one (.str x_2))), (6, B x_3), (7, Pt 102 0), (8, I x_7), (9, I f_9)], [(101, .box 27 zFrc), (102, .box 27 (eFrc x_8))]⟩) (fun z => z) ?_ ?_
 ·refine Tri.seq (Tri.regionL ?_)
  refine Oc om (OpsL.nilS ⟨[(2, Pt 101 0), (5, .b (.one (.str x_2))), (6, B x_3), (7, Pt 102 0), (8, I x_7), (9, I 0), (24, B x_3)], [(101, .box 27 zFrc), (102, .box 27 (eBig x_6 ++ (eBig x_5.D)))]⟩ rfl (Tri.ite h5 rfl (fun _ h5 => ?_) (fun _ h5 => ?_)))
  ·refine Tri.regionL (Oc om ?_)
   obtain ⟨⟨x_10, x_11⟩, e6, h5⟩ := bnd h5
   refine Oc (op_call0 (w_Parse_spec e6) goes106 rfl rfl) (Oc om (Oc (op_extract rfl rfl) (Oc (op_extract rfl rfl) ?_)))
   refine OpsL.keepS ⟨[(2, Pt 101 0), (5, .b (.one (.str x_2))), (6, B x_3), (7, Pt 102 0), (8, I x_7), (9, I 0), (28, .b (.agg (eBig x_10))), (29, I x_11)], [(101, .box 27 zFrc), (102, .box 27 (eBig x_6 ++ (eBig x_5.D)))]⟩ rfl (Oc (op_field_p tyFld27_1 rfl rfl) (Oc (op_store_p tyAgg25 rfl rfl rfl rfl (Nat.le_of_ble_eq_true rfl) rfl) (Oc oa ?_)))
   refine OpsL.nil ?_
   exact Fin.join [2, 5, 6, 7, 8, 9] [101, 102] ((⟨x_6, x_10⟩ : Frc), x_11) (Option.some.inj h5) rfl
  ·refine Tri.skip ?_
   exact Fin.join [2, 5, 6, 7, 8, 9] [101, 102] ((⟨x_6, x_5.D⟩ : Frc), 0) (Option.some.inj h5) rfl
 ·rintro ⟨x_8, f_9⟩ hv
  subst v4
  refine Tri.seq (Tri.block (Tri.seq (Tri.regionL ?_)))
  refine Oc om (Oc (op_eql rfl rfl) (Oc om ?_))
  refine CgF (!(decide (x_7 = 281))) [] (fun g7 => trivial) (fun g7 => om) (CgF (!(decide (x_7 = 281))) [35] (fun g8 => by exact ⟨g8, trivial⟩) (fun g8 => op_eql rfl rfl) (Oc (op_pick_or (fun e => by rw [e]; rfl) rfl rfl rfl rfl) (Oc om ?_)))
  refine OpsL.keepS ⟨[(2, Pt 101 0), (5, .b (.one (.str x_2))), (6, B x_3), (7, Pt 102 0), (8, I x_7), (9, I f_9), (38, B ((decide (x_7 = 281)) || (decide (f_9 = 281))))], [(101, .box 27 zFrc), (102, .box 27 (eFrc x_8))]⟩ rfl (CgF (!((decide (x_7 = 281)) || (decide (f_9 = 281)))) [] (fun g9 => trivial) (fun g9 => om) (CgF (!((decide (x_7 = 281)) || (decide (f_9 = 281)))) [39] (fun g10 => by exact ⟨g10, trivial⟩) (fun g10 => om) (OpsL.consG ((!((decide (x_7 = 281)) || (decide (f_9 = 281)))) && x_3) 99 [] (.under rfl) (and_t _ _) rfl rfl (fun g11 => by exact trivial) (fun g11 => om) (OpsL.consG ((!((decide (x_7 = 281)) || (decide (f_9 = 281)))) && x_3) 99 [41] (.under rfl) (and_t _ _) rfl rfl (fun g12 => by exact ⟨g12, trivial⟩) (fun g12 => op_eql_str rfl rfl) (OpsL.consG ((!((decide (x_7 = 281)) || (decide (f_9 = 281)))) && x_3) 99 [42] (.under rfl) (and_t _ _) rfl rfl (fun g13 => by exact ⟨g13, trivial⟩) (fun g13 => om) ?_)))))
  refine OpsL.consG (((!((decide (x_7 = 281)) || (decide (f_9 = 281)))) && x_3) && !(decide (x_2 = [48]))) 99 [] (.under rfl) (and_f _ _) rfl rfl (fun g14 => trivial) (fun g14 => om) (OpsL.consG (((!((decide (x_7 = 281)) || (decide (f_9 = 281)))) && x_3) && !(decide (x_2 = [48]))) 99 [44] (.under rfl) (and_f _ _) rfl rfl (fun g15 => ⟨g15, trivial⟩) (fun g15 => op_eql_str rfl rfl) (OpsL.consG ((!((decide (x_7 = 281)) || (decide (f_9 = 281)))) && x_3) 99 [43] (.under rfl) (and_t _ _) rfl rfl (fun g16 => ⟨g16, trivial⟩) (fun g16 => op_pick_or (fun e => by rw [g16, e]; rfl) rfl rfl rfl rfl) (OpsL.keepS ⟨[(2, Pt 101 0), (5, .b (.one (.str x_2))), (7, Pt 102 0), (8, I x_7), (9, I f_9), (38, B ((decide (x_7 = 281)) || (decide (f_9 = 281)))), (40, .opt (!((decide (x_7 = 281)) || (decide (f_9 = 281)))) (.one (.bool x_3))), (46, .opt ((!((decide (x_7 = 281)) || (decide (f_9 = 281)))) && x_3) (.one (.bool ((decide (x_2 = [48])) || (decide (x_2 = [49]))))))], [(101, .box 27 zFrc), (102, .box 27 (eFrc x_8))]⟩ rfl (OpsL.consG ((!((decide (x_7 = 281)) || (decide (f_9 = 281)))) && x_3) 99 [46] (.under rfl) (and_t _ _) rfl rfl (fun g17 => ⟨g17, trivial⟩) (fun g17 => om) (OpsL.consG (((!((decide (x_7 = 281)) || (decide (f_9 = 281)))) && x_3) && !((decide (x_2 = [48])) || (decide (x_2 = [49])))) 99 [] (.under rfl) (and_f _ _) rfl rfl (fun g18 => trivial) (fun g18 => om) ?_)))))
  obtain ⟨x_12, e20, h⟩ := bnd h
  refine OpsL.consG (((!((decide (x_7 = 281)) || (decide (f_9 = 281)))) && x_3) && !((decide (x_2 = [48])) || (decide (x_2 = [49])))) 99 [48] (.under rfl) (and_f _ _) rfl rfl (fun g19 => ⟨g19, trivial⟩) (fun g19 => op_call0 (strings_HasPrefix_spec (gc e20 g19)) goes107 rfl rfl) (OpsL.consG ((!((decide (x_7 = 281)) || (decide (f_9 = 281)))) && x_3) 99 [47] (.under rfl) (and_t _ _) rfl rfl (fun g21 => ⟨g21, trivial⟩) (fun g21 => op_pick_or (fun e => by rw [g21, e]; rfl) rfl rfl rfl rfl) (CgF (!((decide (x_7 = 281)) || (decide (f_9 = 281)))) [40] (fun g22 => ⟨g22, trivial⟩) (fun g22 => op_pick_and (fun e => by rw [g22, e]; rfl) rfl rfl rfl rfl) (OpsL.consB h rfl (op_pick_or (fun e => by rw [e]; rfl) rfl rfl rfl rfl) (fun x_13 h => ?_))))
  refine Oc oa (OpsL.nilS ⟨[(2, Pt 101 0), (7, Pt 102 0), (8, I x_7), (9, I f_9), (31, B x_13)], [(101, .box 27 zFrc), (102, .box 27 (eFrc x_8))]⟩ rfl (Tri.ite h rfl (fun _ h => ?_) (fun _ h => ?_)))
  ·refine Tri.seq (Tri.regionL ?_)
   obtain ⟨x_14, e23, h⟩ := bnd h
   refine Oc (op_call0 (q_Bad_spec e23) goes27 rfl rfl) (Oc (op_store_p tyAgg27 rfl rfl rfl rfl (Nat.le_of_ble_eq_true rfl) rfl) (Oc oa ?_))
   refine OpsL.nilS ⟨[(2, Pt 101 0), (3, I 281)], [(101, .box 27 (eFrc x_14))]⟩ rfl (Tri.ret (Fin.block_ret (Fin.then_ret ?_)))
   obtain rfl := Option.some.inj h
   refine Fin.keepS ⟨[(2, Pt 101 0), (3, I 281)], [(101, .box 27 (eFrc x_14))]⟩ rfl (Fin.result' [.agg (eFrc x_14), .one (.i 281)] (.inl rfl) rfl (.cons (.agg tyAgg27 rfl rfl rfl rfl) (.cons (.tmp rfl) .nil)) ⟨rfl, rfl⟩)
  ·refine Tri.seq (Tri.regionL ?_)
   refine Oc om (Oc (op_neq rfl rfl) (Oc om ?_))
   refine CgF (!(decide (x_7 ≠ 0))) [] (fun g24 => trivial) (fun g24 => om) (CgF (!(decide (x_7 ≠ 0))) [58] (fun g25 => by exact ⟨g25, trivial⟩) (fun g25 => op_neq rfl rfl) (Oc (op_pick_or (fun e => by rw [e]; rfl) rfl rfl rfl rfl) (Oc oa ?_)))
   refine OpsL.nilS ⟨[(2, Pt 101 0), (7, Pt 102 0), (54, B ((decide (x_7 ≠ 0)) || (decide (f_9 ≠ 0))))], [(101, .box 27 zFrc), (102, .box 27 (eFrc x_8))]⟩ rfl (Tri.ite h rfl (fun _ h => ?_) (fun _ h => ?_))
   ·refine Tri.seq (Tri.regionL ?_)
    obtain ⟨x_15, e26, h⟩ := bnd h
    refine Oc (op_call0 (q_Bad_spec e26) goes27 rfl rfl) (Oc (op_store_p tyAgg27 rfl rfl rfl rfl (Nat.le_of_ble_eq_true rfl) rfl) (Oc oa ?_))
    refine OpsL.nilS ⟨[(2, Pt 101 0), (3, I 30)], [(101, .box 27 (eFrc x_15))]⟩ rfl (Tri.ret (Fin.block_ret (Fin.then_ret ?_)))
    obtain rfl := Option.some.inj h
    refine Fin.keepS ⟨[(2, Pt 101 0), (3, I 30)], [(101, .box 27 (eFrc x_15))]⟩ rfl (Fin.result' [.agg (eFrc x_15), .one (.i 30)] (.inl rfl) rfl (.cons (.agg tyAgg27 rfl rfl rfl rfl) (.cons (.tmp rfl) .nil)) ⟨rfl, rfl⟩)
   ·refine Tri.seq (Tri.regionL ?_)
    refine Oc (lp tyAgg27) ?_
    obtain ⟨x_16, e27, h⟩ := bnd h
    refine Oc (op_call0 (q_Good_spec e27) goes26 rfl rfl) (Oc (op_not rfl) (Oc oa ?_))
    refine OpsL.nilS ⟨[(2, Pt 101 0), (7, Pt 102 0), (62, B (!x_16))], [(101, .box 27 zFrc), (102, .box 27 (eFrc x_8))]⟩ rfl (Tri.ite h rfl (fun _ h => ?_) (fun _ h => ?_))
    ·refine Tri.seq (Tri.regionL ?_)
     obtain ⟨x_17, e28, h⟩ := bnd h
     refine Oc (op_call0 (q_Bad_spec e28) goes27 rfl rfl) (Oc (op_store_p tyAgg27 rfl rfl rfl rfl (Nat.le_of_ble_eq_true rfl) rfl) (Oc oa ?_))
     refine OpsL.nilS ⟨[(2, Pt 101 0), (3, I 281)], [(101, .box 27 (eFrc x_17))]⟩ rfl (Tri.ret (Fin.block_ret (Fin.then_ret ?_)))
     obtain rfl := Option.some.inj h
     refine Fin.keepS ⟨[(2, Pt 101 0), (3, I 281)], [(101, .box 27 (eFrc x_17))]⟩ rfl (Fin.result' [.agg (eFrc x_17), .one (.i 281)] (.inl rfl) rfl (.cons (.agg tyAgg27 rfl rfl rfl rfl) (.cons (.tmp rfl) .nil)) ⟨rfl, rfl⟩)
    ·refine Tri.skip (Fin.block_normal (Fin.keepS ⟨[(2, Pt 101 0), (7, Pt 102 0)], [(101, .box 27 zFrc), (102, .box 27 (eFrc x_8))]⟩ rfl (Fin.then (Tri.seq (Tri.regionL ?_)))))
     refine Oc (lp tyAgg27) (Oc (op_store_p tyAgg27 rfl rfl rfl rfl (Nat.le_of_ble_eq_true rfl) rfl) (Oc oa ?_))
     refine OpsL.nilS ⟨[(2, Pt 101 0), (3, I 0)], [(101, .box 27 (eFrc x_8))]⟩ rfl (Tri.ret ?_)
     obtain rfl := Option.some.inj h
     refine Fin.keepS ⟨[(2, Pt 101 0), (3, I 0)], [(101, .box 27 (eFrc x_8))]⟩ rfl (Fin.result' [.agg (eFrc x_8), .one (.i 0)] (.inl rfl) rfl (.cons (.agg tyAgg27 rfl rfl rfl rfl) (.cons (.tmp rfl) .nil)) ⟨rfl, rfl⟩)
end Go.Proofs.YtdjnlmmhbeeihaaGreatDoor

