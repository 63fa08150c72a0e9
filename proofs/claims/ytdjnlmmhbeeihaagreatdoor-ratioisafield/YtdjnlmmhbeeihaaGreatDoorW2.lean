/- printed walks -/
import Derived.Test.YtdjnlmmhbeeihaaGreatDoorW1
namespace Go.Proofs.YtdjnlmmhbeeihaaGreatDoor
open Go.Sk
set_option maxHeartbeats 1000000
set_option maxRecDepth 4000
set_option linter.unusedSimpArgs false
set_option linter.unusedVariables false
variable {mx : Int}
def w_quotient_S (F : Nat) (a0 : A16) (b0 : A16) : Option (A16 × A16) :=
 (w_size_S F b0).bind fun x_1 => (w_size_S F a0).bind fun x_2 => (w_order_S F a0 b0).bind fun x_3 => if (decide (x_3 < 0)) = true then (some (A16.zero, a0)) else (if (decide (x_1 = 1)) = true then (Option.bind (w_short_S F a0 b0.a0) (un2 fun x_4 x_5 => letN (⟨x_5, 0, 0, 0, 0, 0, 0, 0, 0, 0, 0, 0, 0, 0, 0, 0⟩ : A16) fun x_6 => some (x_4, x_6))) else ((idx? b0.l (IntKind.i64.wrap (x_1 - 1))).bind fun x_7 => (bits_LeadingZeros32_S F x_7).bind fun x_8 => Option.bind (w_up_S F b0 x_8) (un2 fun x_9 x_10 => Option.bind (w_up_S F a0 x_8) (un2 fun x_11 x_12 => Option.bind (iter F (un3 fun q_15 u_16 j_17 => if (decide (0 ≤ j_17)) = true then (Option.bind ((w_guess_S F x_9 x_1 j_17 u_16).bind fun x_22 => Option.bind (Option.bind (w_take_S F x_9 x_1 j_17 x_22 u_16) (un2 fun x_25 x_26 => if x_25 = true then ((w_give_S F x_9 x_1 j_17 x_26).bind fun x_27 => some (x_27, IntKind.u64.wrap (x_22 - 1))) else (some (x_26, x_22)))) (un2 fun u_23 d_24 => (idx? q_15.l j_17).bind fun x_28 => some (q_15.set j_17 (IntKind.u32.wrap d_24), u_23))) (un2 fun q_20 u_21 => some (.inl (q_20, u_21, IntKind.i64.wrap (j_17 - 1))))) else (some (.inr (q_15, u_16)))) (A16.zero, (⟨(A17.of (spliceE A17.zero.l 0 ((x_11.l.drop 0).take 16))).a0, (A17.of (spliceE A17.zero.l 0 ((x_11.l.drop 0).take 16))).a1, (A17.of (spliceE A17.zero.l 0 ((x_11.l.drop 0).take 16))).a2, (A17.of (spliceE A17.zero.l 0 ((x_11.l.drop 0).take 16))).a3, (A17.of (spliceE A17.zero.l 0 ((x_11.l.drop 0).take 16))).a4, (A17.of (spliceE A17.zero.l 0 ((x_11.l.drop 0).take 16))).a5, (A17.of (spliceE A17.zero.l 0 ((x_11.l.drop 0).take 16))).a6, (A17.of (spliceE A17.zero.l 0 ((x_11.l.drop 0).take 16))).a7, (A17.of (spliceE A17.zero.l 0 ((x_11.l.drop 0).take 16))).a8, (A17.of (spliceE A17.zero.l 0 ((x_11.l.drop 0).take 16))).a9, (A17.of (spliceE A17.zero.l 0 ((x_11.l.drop 0).take 16))).a10, (A17.of (spliceE A17.zero.l 0 ((x_11.l.drop 0).take 16))).a11, (A17.of (spliceE A17.zero.l 0 ((x_11.l.drop 0).take 16))).a12, (A17.of (spliceE A17.zero.l 0 ((x_11.l.drop 0).take 16))).a13, (A17.of (spliceE A17.zero.l 0 ((x_11.l.drop 0).take 16))).a14, (A17.of (spliceE A17.zero.l 0 ((x_11.l.drop 0).take 16))).a15, x_12⟩ : A17), IntKind.i64.wrap (x_2 - x_1))) (un2 fun q_13 u_14 => (w_down_S F (⟨u_14.a0, u_14.a1, u_14.a2, u_14.a3, u_14.a4, u_14.a5, u_14.a6, u_14.a7, u_14.a8, u_14.a9, u_14.a10, u_14.a11, u_14.a12, u_14.a13, u_14.a14, u_14.a15⟩ : A16) x_8).bind fun x_29 => some (q_13, x_29))))))
theorem w_quotient_spec {F : Nat} {a0 : A16} {b0 : A16} {r : A16 × A16} (h : w_quotient_S F a0 b0 = some r) : Meets Tryz.prog (tabs mx) 116 [] [.agg (eW a0), .agg (eW b0)] (Is [] (.tup [.agg (eW r.1), .agg (eW r.2)])) := by
 unfold w_quotient_S at h
 refine Meets.intro 94 Tryz.func116 Tryz.ntmps116 rfl (by simp) fun E => ?_
 show Tri _ E ⟨94, [], []⟩ _ ⟨[(0, .b (.agg (eW a0))), (1, .b (.agg (eW b0)))], []⟩ _
 refine Tri.seq (Tri.regionL ?_)
 refine Oc (op_box (k := 101) rfl rfl) (Oc (op_box (k := 102) rfl rfl) (Oc (op_alloc (k := 103) tyZero23 rfl) (Oc (op_alloc (k := 104) tyZero23 rfl) ?_)))
 refine OpsL.nilS ⟨[(2, Pt 101 0), (3, Pt 102 0), (4, Pt 103 0), (5, Pt 104 0)], [(101, .box 23 (eW a0)), (102, .box 23 (eW b0)), (103, .box 23 (eW A16.zero)), (104, .box 23 (eW A16.zero))]⟩ rfl (Tri.seq ?_)
 obtain ⟨x_1, e1, h⟩ := bnd h
 obtain ⟨x_2, e2, h⟩ := bnd h
 refine Tri.regionY mixed 6 [.b (.agg (eW b0)), I x_1, .b (.agg (eW a0)), I x_2, I x_1, I x_2] [2, 3, 4, 5, 6, 7] [101, 102, 103, 104] (s' := ⟨[(2, Pt 101 0), (3, Pt 102 0), (4, Pt 103 0), (5, Pt 104 0), (6, I x_1), (7, I x_2)], [(101, .box 23 (eW a0)), (102, .box 23 (eW b0)), (103, .box 23 (eW A16.zero)), (104, .box 23 (eW A16.zero))]⟩) rfl ⟨fun _ => .p (lp tyAgg23), fun _ => .p (op_call0 (w_size_spec e1) goes114 rfl rfl), fun _ => .p (lp tyAgg23), fun _ => .p (op_call0 (w_size_spec e2) goes114 rfl rfl), fun _ => .p oa, fun _ => .p oa, trivial⟩ rfl rfl (Tri.seq (Tri.seq (Tri.regionL ?_)))
 refine Oc (lp tyAgg23) (Oc (lp tyAgg23) ?_)
 obtain ⟨x_3, e3, h⟩ := bnd h
 refine Oc (op_call0 (w_order_spec e3) goes127 rfl rfl) (Oc (op_lss rfl rfl) ?_)
 refine OpsL.nilS ⟨[(2, Pt 101 0), (3, Pt 102 0), (4, Pt 103 0), (5, Pt 104 0), (6, I x_1), (7, I x_2), (25, B (decide (x_3 < 0)))], [(101, .box 23 (eW a0)), (102, .box 23 (eW b0)), (103, .box 23 (eW A16.zero)), (104, .box 23 (eW A16.zero))]⟩ rfl (Tri.ite h rfl (fun _ h => ?_) (fun _ h => ?_))
 ·refine Tri.seq (Tri.keepS ⟨[(2, Pt 101 0), (4, Pt 103 0), (5, Pt 104 0)], [(101, .box 23 (eW a0)), (103, .box 23 (eW A16.zero)), (104, .box 23 (eW A16.zero))]⟩ rfl (Tri.regionW mixed [false, false, true, true] [.b (.agg (eW A16.zero)), .b (.agg (eW a0)), B true, B true] [⟨[false, false, false, false], [(2, Pt 101 0), (4, Pt 103 0), (5, Pt 104 0)], [(101, .box 23 (eW a0)), (103, .box 23 (eW A16.zero)), (104, .box 23 (eW A16.zero))], [true, true, true, true], []⟩, ⟨[false, false, true, false], [(2, Pt 101 0), (4, Pt 103 0), (5, Pt 104 0)], [(101, .box 23 (eW a0)), (103, .box 23 (eW A16.zero)), (104, .box 23 (eW A16.zero))], [true, true, true, true], [0, 2]⟩, ⟨[false, false, true, true], [(2, Pt 101 0), (4, Pt 103 0), (5, Pt 104 0)], [(101, .box 23 (eW a0)), (103, .box 23 (eW A16.zero)), (104, .box 23 (eW a0))], [true, true, true, true], [0, 1, 2, 3]⟩] rfl (⟨by kernel_rfl, ⟨⟨.b (.agg (eW A16.zero)), fun _ => rfl, fun _ => .p (by exact op_buildA tyBuild23 rfl rfl)⟩, ⟨.b (.agg (eW a0)), fun _ => rfl, fun _ => .p (by exact op_load_p tyAgg23 rfl rfl rfl rfl)⟩, ⟨_, none, .b (.one .any), rfl, (fun e => by simp at e), rfl, rfl, fun _ => .toO [101, 103, 104] (by exact .p (by exact op_store_p tyAgg23 rfl rfl rfl rfl (Nat.le_of_ble_eq_true rfl) rfl)) (by exact rfl)⟩, trivial, trivial⟩, ⟨by kernel_rfl, ⟨trivial, ⟨.b (.agg (eW a0)), fun _ => rfl, fun _ => .p (by exact op_load_p tyAgg23 rfl rfl rfl rfl)⟩, trivial, ⟨_, none, .b (.one .any), rfl, (fun e => by simp at e), rfl, rfl, fun _ => .toO [101, 103, 104] (by exact .p (by exact op_store_p tyAgg23 rfl rfl rfl rfl (Nat.le_of_ble_eq_true rfl) rfl)) (by exact rfl)⟩, trivial⟩, ⟨by kernel_rfl, ⟨trivial, trivial, trivial, trivial, trivial⟩, trivial⟩⟩⟩) rfl rfl rfl [4, 5] [103, 104] (s' := ⟨[(4, Pt 103 0), (5, Pt 104 0)], [(103, .box 23 (eW A16.zero)), (104, .box 23 (eW a0))]⟩) rfl (Tri.ret (Fin.then_ret ?_))))
  obtain rfl := Option.some.inj h
  refine Fin.keepS ⟨[(4, Pt 103 0), (5, Pt 104 0)], [(103, .box 23 (eW A16.zero)), (104, .box 23 (eW a0))]⟩ rfl (Fin.result' [.agg (eW A16.zero), .agg (eW a0)] (.inl rfl) rfl (.cons (.agg tyAgg23 rfl rfl rfl rfl) (.cons (.agg tyAgg23 rfl rfl rfl rfl) .nil)) ⟨rfl, rfl⟩)
 ·refine Tri.skip (Fin.keepS ⟨[(2, Pt 101 0), (3, Pt 102 0), (4, Pt 103 0), (5, Pt 104 0), (6, I x_1), (7, I x_2)], [(101, .box 23 (eW a0)), (102, .box 23 (eW b0)), (103, .box 23 (eW A16.zero)), (104, .box 23 (eW A16.zero))]⟩ rfl (Fin.then (Tri.seq (Tri.seq (Tri.regionL ?_)))))
  refine Oc om (Oc (op_eql rfl rfl) ?_)
  refine OpsL.nilS ⟨[(2, Pt 101 0), (3, Pt 102 0), (4, Pt 103 0), (5, Pt 104 0), (6, I x_1), (7, I x_2), (29, B (decide (x_1 = 1)))], [(101, .box 23 (eW a0)), (102, .box 23 (eW b0)), (103, .box 23 (eW A16.zero)), (104, .box 23 (eW A16.zero))]⟩ rfl (Tri.ite h rfl (fun _ h => ?_) (fun _ h => ?_))
  ·refine Tri.seq (Tri.regionL ?_)
   refine Oc (lp tyAgg23) (Oc (op_index_p tyArr23 (by decide) (by decide) rfl rfl rfl) (Oc (op_load_p1 tyOne22 rfl rfl rfl) ?_))
   obtain ⟨⟨x_4, x_5⟩, e4, h⟩ := bnd h
   refine Oc (op_call0 (w_short_spec e4) goes134 rfl rfl) (Oc om ?_)
   refine OpsL.keepS ⟨[(4, Pt 103 0), (5, Pt 104 0), (30, .tup [.agg (eW x_4), .one (.int .u32 x_5)])], [(103, .box 23 (eW A16.zero)), (104, .box 23 (eW A16.zero))]⟩ rfl (Oc (op_extract rfl rfl) (Oc (op_extract rfl rfl) (Oc (op_alloc (k := 105) tyZero23 rfl) (Oc (op_store_p tyAgg23 rfl rfl rfl rfl (Nat.le_of_ble_eq_true rfl) rfl) (Oc oa ?_)))))
   refine OpsL.nilS ⟨[(4, Pt 103 0), (5, Pt 104 0), (8, Pt 105 0), (9, .b (.one (.int .u32 x_5)))], [(103, .box 23 (eW A16.zero)), (104, .box 23 (eW A16.zero)), (105, .box 23 (eW x_4))]⟩ rfl (Tri.seq (Tri.regionL ?_))
   refine Oc (lp tyAgg23) (Oc om ?_)
   refine OpsL.consA eW h rfl (op_buildA tyBuild23 rfl rfl) (fun x_6 h => ?_)
   refine Oc (op_store_p tyAgg23 rfl rfl rfl rfl (Nat.le_of_ble_eq_true rfl) rfl) (Oc (op_store_p tyAgg23 rfl rfl rfl rfl (Nat.le_of_ble_eq_true rfl) rfl) ?_)
   refine OpsL.nilS ⟨[(4, Pt 103 0), (5, Pt 104 0)], [(103, .box 23 (eW x_4)), (104, .box 23 (eW x_6))]⟩ rfl (Tri.ret (Fin.then_ret ?_))
   obtain rfl := Option.some.inj h
   refine Fin.keepS ⟨[(4, Pt 103 0), (5, Pt 104 0)], [(103, .box 23 (eW x_4)), (104, .box 23 (eW x_6))]⟩ rfl (Fin.result' [.agg (eW x_4), .agg (eW x_6)] (.inl rfl) rfl (.cons (.agg tyAgg23 rfl rfl rfl rfl) (.cons (.agg tyAgg23 rfl rfl rfl rfl) .nil)) ⟨rfl, rfl⟩)
  ·refine Tri.skip (Fin.keepS ⟨[(2, Pt 101 0), (3, Pt 102 0), (4, Pt 103 0), (5, Pt 104 0), (6, I x_1), (7, I x_2)], [(101, .box 23 (eW a0)), (102, .box 23 (eW b0)), (103, .box 23 (eW A16.zero)), (104, .box 23 (eW A16.zero))]⟩ rfl (Fin.then (Tri.seq (Tri.regionL ?_))))
   refine Oc om (Oc (op_sub rfl rfl) ?_)
   obtain ⟨x_7, e5, h⟩ := bnd h
   refine Oc (op_index_p tyArr23 (ix_lo e5) (ix_hi e5) rfl rfl rfl) (Oc (op_load_p1 tyOne22 rfl rfl (arr_get (post := []) (k := .u32) [] e5 rfl rfl rfl)) ?_)
   obtain ⟨x_8, e6, h⟩ := bnd h
   refine Oc (op_call0 (bits_LeadingZeros32_spec e6) goes139 rfl rfl) (Oc oa ?_)
   refine OpsL.nilS ⟨[(2, Pt 101 0), (3, Pt 102 0), (4, Pt 103 0), (5, Pt 104 0), (6, I x_1), (7, I x_2), (10, I x_8)], [(101, .box 23 (eW a0)), (102, .box 23 (eW b0)), (103, .box 23 (eW A16.zero)), (104, .box 23 (eW A16.zero))]⟩ rfl (Tri.seq (Tri.regionL ?_))
   refine Oc (lp tyAgg23) (Oc om ?_)
   obtain ⟨⟨x_9, x_10⟩, e7, h⟩ := bnd h
   refine Oc (op_call0 (w_up_spec e7) goes125 rfl rfl) (Oc om (Oc (op_extract rfl rfl) ?_))
   refine OpsL.keepS ⟨[(2, Pt 101 0), (4, Pt 103 0), (5, Pt 104 0), (6, I x_1), (7, I x_2), (10, I x_8), (45, .tup [.agg (eW x_9), .one (.int .u32 x_10)]), (49, .b (.agg (eW x_9)))], [(101, .box 23 (eW a0)), (103, .box 23 (eW A16.zero)), (104, .box 23 (eW A16.zero))]⟩ rfl (Oc (op_extract rfl rfl) (Oc (op_alloc (k := 106) tyZero23 rfl) (Oc (op_store_p tyAgg23 rfl rfl rfl rfl (Nat.le_of_ble_eq_true rfl) rfl) (Oc oa ?_))))
   refine OpsL.nilS ⟨[(2, Pt 101 0), (4, Pt 103 0), (5, Pt 104 0), (6, I x_1), (7, I x_2), (10, I x_8), (11, Pt 106 0)], [(101, .box 23 (eW a0)), (103, .box 23 (eW A16.zero)), (104, .box 23 (eW A16.zero)), (106, .box 23 (eW x_9))]⟩ rfl (Tri.seq (Tri.regionL ?_))
   refine Oc (lp tyAgg23) (Oc om ?_)
   obtain ⟨⟨x_11, x_12⟩, e8, h⟩ := bnd h
   refine Oc (op_call0 (w_up_spec e8) goes125 rfl rfl) (Oc om (Oc (op_extract rfl rfl) ?_))
   refine OpsL.keepS ⟨[(4, Pt 103 0), (5, Pt 104 0), (6, I x_1), (7, I x_2), (10, I x_8), (11, Pt 106 0), (51, .tup [.agg (eW x_11), .one (.int .u32 x_12)]), (55, .b (.agg (eW x_11)))], [(103, .box 23 (eW A16.zero)), (104, .box 23 (eW A16.zero)), (106, .box 23 (eW x_9))]⟩ rfl (Oc (op_extract rfl rfl) (Oc (op_alloc (k := 107) tyZero23 rfl) (Oc (op_store_p tyAgg23 rfl rfl rfl rfl (Nat.le_of_ble_eq_true rfl) rfl) (Oc oa ?_))))
   refine OpsL.nilS ⟨[(4, Pt 103 0), (5, Pt 104 0), (6, I x_1), (7, I x_2), (10, I x_8), (11, Pt 106 0), (13, Pt 107 0), (14, .b (.one (.int .u32 x_12)))], [(103, .box 23 (eW A16.zero)), (104, .box 23 (eW A16.zero)), (106, .box 23 (eW x_9)), (107, .box 23 (eW x_11))]⟩ rfl (Tri.seq (Tri.regionL ?_))
   refine Oc (op_alloc (k := 108) tyZero119 rfl) (OpsL.nilS ⟨[(4, Pt 103 0), (5, Pt 104 0), (6, I x_1), (7, I x_2), (10, I x_8), (11, Pt 106 0), (13, Pt 107 0), (14, .b (.one (.int .u32 x_12))), (15, Pt 108 0)], [(103, .box 23 (eW A16.zero)), (104, .box 23 (eW A16.zero)), (106, .box 23 (eW x_9)), (107, .box 23 (eW x_11)), (108, .box 119 ((eA17 .u32) A17.zero))]⟩ rfl (Tri.seq (Tri.regionY mixed 2 [.b (.psl 108 0 17 17), .b (.psl 107 0 16 16)] [4, 5, 6, 7, 10, 11, 14, 15] [103, 104, 106, 108] (s' := ⟨[(4, Pt 103 0), (5, Pt 104 0), (6, I x_1), (7, I x_2), (10, I x_8), (11, Pt 106 0), (14, .b (.one (.int .u32 x_12))), (15, Pt 108 0)], [(103, .box 23 (eW A16.zero)), (104, .box 23 (eW A16.zero)), (106, .box 23 (eW x_9)), (108, .box 119 ((eA17 .u32) (A17.of (spliceE A17.zero.l 0 ((x_11.l.drop 0).take 16)))))]⟩) rfl ⟨fun _ => .p (op_slice_a tyArr119 (by decide) rfl), fun _ => .p (op_slice_a tyArr23 (by decide) rfl), trivial⟩ ⟨_, by exact .p (op_copy_psl (m := 16) tySl100 (by decide) (by first | decide | (show 16 ≤ 9223372036854775807; omega)) rfl rfl rfl rfl (by first | decide | (show 0 + 16 ≤ 17; omega)) (by first | decide | (show 0 + 16 ≤ 16; omega)) (splice_arr (a := 0) (a2 := 0) (off := 0) (off2 := 0) (post := []) (post2 := []) (l := A17.zero.l) (l2 := x_11.l) (kd := .u32) (lo := 0) (lo2 := 0) [] [] rfl rfl rfl rfl (by rfl) (by rfl) (by first | decide | (show 0 + 16 ≤ 17; omega)) (by first | decide | (show 0 + 16 ≤ 16; omega)) (A17.l_of (spliceE_lenA rfl (by first | decide | (show 0 + 16 ≤ 17; omega)) (by first | decide | (show 0 + 16 ≤ 16; omega)))) rfl)), rfl⟩ rfl (Tri.seq (Tri.regionL ?_)))))
   refine Oc om (Oc (op_index_p tyArr119 (by decide) (by decide) rfl rfl rfl) (Oc (op_store_p1 tyOne22 rfl rfl rfl (Nat.le_of_ble_eq_true rfl) rfl) ?_))
   refine OpsL.nilS ⟨[(4, Pt 103 0), (5, Pt 104 0), (6, I x_1), (7, I x_2), (10, I x_8), (11, Pt 106 0), (15, Pt 108 0)], [(103, .box 23 (eW A16.zero)), (104, .box 23 (eW A16.zero)), (106, .box 23 (eW x_9)), (108, .box 119 [.int .u32 ((A17.of (spliceE A17.zero.l 0 ((x_11.l.drop 0).take 16))).a0), .int .u32 ((A17.of (spliceE A17.zero.l 0 ((x_11.l.drop 0).take 16))).a1), .int .u32 ((A17.of (spliceE A17.zero.l 0 ((x_11.l.drop 0).take 16))).a2), .int .u32 ((A17.of (spliceE A17.zero.l 0 ((x_11.l.drop 0).take 16))).a3), .int .u32 ((A17.of (spliceE A17.zero.l 0 ((x_11.l.drop 0).take 16))).a4), .int .u32 ((A17.of (spliceE A17.zero.l 0 ((x_11.l.drop 0).take 16))).a5), .int .u32 ((A17.of (spliceE A17.zero.l 0 ((x_11.l.drop 0).take 16))).a6), .int .u32 ((A17.of (spliceE A17.zero.l 0 ((x_11.l.drop 0).take 16))).a7), .int .u32 ((A17.of (spliceE A17.zero.l 0 ((x_11.l.drop 0).take 16))).a8), .int .u32 ((A17.of (spliceE A17.zero.l 0 ((x_11.l.drop 0).take 16))).a9), .int .u32 ((A17.of (spliceE A17.zero.l 0 ((x_11.l.drop 0).take 16))).a10), .int .u32 ((A17.of (spliceE A17.zero.l 0 ((x_11.l.drop 0).take 16))).a11), .int .u32 ((A17.of (spliceE A17.zero.l 0 ((x_11.l.drop 0).take 16))).a12), .int .u32 ((A17.of (spliceE A17.zero.l 0 ((x_11.l.drop 0).take 16))).a13), .int .u32 ((A17.of (spliceE A17.zero.l 0 ((x_11.l.drop 0).take 16))).a14), .int .u32 ((A17.of (spliceE A17.zero.l 0 ((x_11.l.drop 0).take 16))).a15), .int .u32 x_12])]⟩ rfl ?_
   obtain ⟨v9, h10, h⟩ := bnd h
   refine Tri.seqJ (v := v9) (un2 fun (q_13 : A16) (u_14 : A17) => ⟨[(4, Pt 103 0), (5, Pt 104 0), (10, I x_8), (15, Pt 108 0)], [(103, .box 23 (eW q_13)), (104, .box 23 (eW A16.zero)), (108, .box 119 ((eA17 .u32) u_14))]⟩) (fun z => z) ?_ ?_
   ·refine Tri.seq (Tri.regionL ?_)
    refine Oc om (Oc om (Oc (op_sub rfl rfl) (Oc oa ?_)))
    refine OpsL.nilS ⟨[(4, Pt 103 0), (5, Pt 104 0), (6, I x_1), (10, I x_8), (11, Pt 106 0), (15, Pt 108 0), (16, I (IntKind.i64.wrap (x_2 - x_1)))], [(103, .box 23 (eW A16.zero)), (104, .box 23 (eW A16.zero)), (106, .box 23 (eW x_9)), (108, .box 119 [.int .u32 ((A17.of (spliceE A17.zero.l 0 ((x_11.l.drop 0).take 16))).a0), .int .u32 ((A17.of (spliceE A17.zero.l 0 ((x_11.l.drop 0).take 16))).a1), .int .u32 ((A17.of (spliceE A17.zero.l 0 ((x_11.l.drop 0).take 16))).a2), .int .u32 ((A17.of (spliceE A17.zero.l 0 ((x_11.l.drop 0).take 16))).a3), .int .u32 ((A17.of (spliceE A17.zero.l 0 ((x_11.l.drop 0).take 16))).a4), .int .u32 ((A17.of (spliceE A17.zero.l 0 ((x_11.l.drop 0).take 16))).a5), .int .u32 ((A17.of (spliceE A17.zero.l 0 ((x_11.l.drop 0).take 16))).a6), .int .u32 ((A17.of (spliceE A17.zero.l 0 ((x_11.l.drop 0).take 16))).a7), .int .u32 ((A17.of (spliceE A17.zero.l 0 ((x_11.l.drop 0).take 16))).a8), .int .u32 ((A17.of (spliceE A17.zero.l 0 ((x_11.l.drop 0).take 16))).a9), .int .u32 ((A17.of (spliceE A17.zero.l 0 ((x_11.l.drop 0).take 16))).a10), .int .u32 ((A17.of (spliceE A17.zero.l 0 ((x_11.l.drop 0).take 16))).a11), .int .u32 ((A17.of (spliceE A17.zero.l 0 ((x_11.l.drop 0).take 16))).a12), .int .u32 ((A17.of (spliceE A17.zero.l 0 ((x_11.l.drop 0).take 16))).a13), .int .u32 ((A17.of (spliceE A17.zero.l 0 ((x_11.l.drop 0).take 16))).a14), .int .u32 ((A17.of (spliceE A17.zero.l 0 ((x_11.l.drop 0).take 16))).a15), .int .u32 x_12])]⟩ rfl (Tri.block (Tri.loopJ h10 (un3 fun (q_15 : A16) (u_16 : A17) (j_17 : Int) => ⟨[(4, Pt 103 0), (5, Pt 104 0), (6, I x_1), (10, I x_8), (11, Pt 106 0), (15, Pt 108 0), (16, I j_17)], [(103, .box 23 (eW q_15)), (104, .box 23 (eW A16.zero)), (106, .box 23 (eW x_9)), (108, .box 119 ((eA17 .u32) u_16))]⟩) [4, 5, 6, 10, 11, 15, 16] [103, 104, 106, 108] rfl ?_))
    rintro ⟨q_15, u_16, j_17⟩ o11 h12 hy13
    refine Tri.seq (Tri.seq (Tri.regionL ?_))
    refine Oc om (Oc (op_geq rfl rfl) ?_)
    refine OpsL.nilS ⟨[(4, Pt 103 0), (5, Pt 104 0), (6, I x_1), (10, I x_8), (11, Pt 106 0), (15, Pt 108 0), (16, I j_17), (66, B (decide (0 ≤ j_17)))], [(103, .box 23 (eW q_15)), (104, .box 23 (eW A16.zero)), (106, .box 23 (eW x_9)), (108, .box 119 ((eA17 .u32) u_16))]⟩ rfl (Tri.ite h12 rfl (fun _ h12 => ?_) (fun _ h12 => ?_))
    ·refine Tri.skip (Fin.keepS ⟨[(4, Pt 103 0), (5, Pt 104 0), (6, I x_1), (10, I x_8), (11, Pt 106 0), (15, Pt 108 0), (16, I j_17)], [(103, .box 23 (eW q_15)), (104, .box 23 (eW A16.zero)), (106, .box 23 (eW x_9)), (108, .box 119 ((eA17 .u32) u_16))]⟩ rfl (Fin.then ?_))
     obtain ⟨v14, h15, h12⟩ := bnd h12
     refine Tri.seqJ (v := v14) (un2 fun (q_20 : A16) (u_21 : A17) => ⟨[(4, Pt 103 0), (5, Pt 104 0), (6, I x_1), (10, I x_8), (11, Pt 106 0), (15, Pt 108 0), (16, I j_17)], [(103, .box 23 (eW q_20)), (104, .box 23 (eW A16.zero)), (106, .box 23 (eW x_9)), (108, .box 119 ((eA17 .u32) u_21))]⟩) (fun z => z) ?_ ?_
     ·refine Tri.block (Tri.seq (Tri.regionL ?_))
      refine Oc (lp tyAgg23) (Oc om (Oc om ?_))
      obtain ⟨x_22, e16, h15⟩ := bnd h15
      refine Oc (op_call (own_a := [(108, _)]) ((w_guess_spec e16).sw 1 108) goes140 rfl ⟨rfl, trivial⟩ rfl rfl) (Oc oa ?_)
      refine OpsL.nilS ⟨[(4, Pt 103 0), (5, Pt 104 0), (6, I x_1), (10, I x_8), (11, Pt 106 0), (15, Pt 108 0), (16, I j_17), (17, .b (.one (.int .u64 x_22)))], [(103, .box 23 (eW q_15)), (104, .box 23 (eW A16.zero)), (106, .box 23 (eW x_9)), (108, .box 119 ((eA17 .u32) u_16))]⟩ rfl ?_
      obtain ⟨v17, h18, h15⟩ := bnd h15
      refine Tri.seqJ (v := v17) (un2 fun (u_23 : A17) (d_24 : Int) => ⟨[(4, Pt 103 0), (5, Pt 104 0), (6, I x_1), (10, I x_8), (11, Pt 106 0), (15, Pt 108 0), (16, I j_17), (17, .b (.one (.int .u64 d_24)))], [(103, .box 23 (eW q_15)), (104, .box 23 (eW A16.zero)), (106, .box 23 (eW x_9)), (108, .box 119 ((eA17 .u32) u_23))]⟩) (fun z => z) ?_ ?_
      ·refine Tri.seq (Tri.regionL ?_)
       refine Oc (lp tyAgg23) (Oc om (Oc om (Oc om ?_)))
       obtain ⟨⟨x_25, x_26⟩, e19, h18⟩ := bnd h18
       refine Oc (op_call (own_a := [(108, _)]) ((w_take_spec e19).sw 1 108) goes141 rfl ⟨rfl, trivial⟩ rfl rfl) (OpsL.nilS ⟨[(4, Pt 103 0), (5, Pt 104 0), (6, I x_1), (10, I x_8), (11, Pt 106 0), (15, Pt 108 0), (16, I j_17), (17, .b (.one (.int .u64 x_22))), (77, B x_25)], [(103, .box 23 (eW q_15)), (104, .box 23 (eW A16.zero)), (106, .box 23 (eW x_9)), (108, .box 119 ((eA17 .u32) x_26))]⟩ rfl (Tri.ite h18 rfl (fun _ h18 => ?_) (fun _ h18 => ?_)))
       ·refine Tri.seq (Tri.regionL ?_)
        refine Oc om (Oc (op_sub rfl rfl) (Oc oa ?_))
        refine OpsL.nilS ⟨[(4, Pt 103 0), (5, Pt 104 0), (6, I x_1), (10, I x_8), (11, Pt 106 0), (15, Pt 108 0), (16, I j_17), (17, .b (.one (.int .u64 (IntKind.u64.wrap (x_22 - 1)))))], [(103, .box 23 (eW q_15)), (104, .box 23 (eW A16.zero)), (106, .box 23 (eW x_9)), (108, .box 119 ((eA17 .u32) x_26))]⟩ rfl (Tri.regionL (Oc (lp tyAgg23) (Oc om (Oc om ?_))))
        obtain ⟨x_27, e20, h18⟩ := bnd h18
        refine Oc (op_call (own_a := [(108, _)]) ((w_give_spec e20).sw 1 108) goes142 rfl ⟨rfl, trivial⟩ rfl rfl) (OpsL.nil ?_)
        exact Fin.join [4, 5, 6, 10, 11, 15, 16, 17] [103, 104, 106, 108] (x_27, IntKind.u64.wrap (x_22 - 1)) (Option.some.inj h18) rfl
       ·refine Tri.skip ?_
        exact Fin.join [4, 5, 6, 10, 11, 15, 16, 17] [103, 104, 106, 108] (x_26, x_22) (Option.some.inj h18) rfl
      ·rintro ⟨u_23, d_24⟩ hv
       subst v17
       refine Tri.regionL (Oc om (Oc om (Oc (op_conv_wrap undi79 undi22 rfl) ?_)))
       obtain ⟨x_28, e21, h15⟩ := bnd h15
       refine Oc (op_index_p tyArr23 (ix_lo e21) (ix_hi e21) rfl rfl rfl) (Oc (op_store_p1 tyOne22 rfl rfl rfl (arr_lt (post := []) (k := .u32) [] e21 rfl rfl rfl) (arr_set (post := []) (k := .u32) [] e21 rfl rfl (A16.set_l q_15 j_17 (IntKind.u32.wrap d_24)) rfl rfl)) ?_)
       refine OpsL.nil (Fin.block_normal ?_)
       exact Fin.join [4, 5, 6, 10, 11, 15, 16] [103, 104, 106, 108] (q_15.set j_17 (IntKind.u32.wrap d_24), u_23) (Option.some.inj h15) rfl
     ·rintro ⟨q_20, u_21⟩ hv
      subst v14
      refine Tri.regionL (Oc om (Oc (op_sub rfl rfl) (Oc oa ?_)))
      refine OpsL.nil ?_
      exact Fin.againJ [4, 5, 6, 10, 11, 15, 16] [103, 104, 106, 108] (q_20, u_21, IntKind.i64.wrap (j_17 - 1)) (Option.some.inj h12) rfl
    ·refine Tri.exit (Fin.then_exit ?_)
     obtain rfl := hy13 _ (Option.some.inj h12).symm
     refine Fin.then_exit (Fin.block_exit ?_)
     exact Fin.join [4, 5, 10, 15] [103, 104, 108] (q_15, u_16) rfl rfl
   ·rintro ⟨q_13, u_14⟩ hv
    subst v9
    refine Tri.seq (Tri.keepS ⟨[(4, Pt 103 0), (5, Pt 104 0), (10, I x_8), (15, Pt 108 0)], [(103, .box 23 (eW q_13)), (104, .box 23 (eW A16.zero)), (108, .box 119 ((eA17 .u32) u_14))]⟩ rfl ?_)
    obtain ⟨x_29, e22, h⟩ := bnd h
    refine Tri.regionY mixed 6 [.b (.agg (eW q_13)), .b (.psl 108 0 16 17), Pt 108 0, .b (.agg [.int .u32 u_14.a0, .int .u32 u_14.a1, .int .u32 u_14.a2, .int .u32 u_14.a3, .int .u32 u_14.a4, .int .u32 u_14.a5, .int .u32 u_14.a6, .int .u32 u_14.a7, .int .u32 u_14.a8, .int .u32 u_14.a9, .int .u32 u_14.a10, .int .u32 u_14.a11, .int .u32 u_14.a12, .int .u32 u_14.a13, .int .u32 u_14.a14, .int .u32 u_14.a15]), I x_8, .b (.agg (eW x_29))] [4, 5] [103, 104] (s' := ⟨[(4, Pt 103 0), (5, Pt 104 0)], [(103, .box 23 (eW q_13)), (104, .box 23 (eW x_29))]⟩) rfl ⟨fun _ => .p (lp tyAgg23), fun _ => .p (op_slice_ah (i := 16) tyArr119 (by decide) (by decide) rfl rfl), fun _ => .p (op_toArr tyArr23 (by decide) rfl), fun _ => .p (lp tyAgg23), fun _ => .p om, fun _ => .p (op_call0 (w_down_spec e22) goes126 rfl rfl), trivial⟩ ⟨_, by exact .p (op_store_p tyAgg23 rfl rfl rfl rfl (Nat.le_of_ble_eq_true rfl) rfl), ⟨_, by exact .p (op_store_p tyAgg23 rfl rfl rfl rfl (Nat.le_of_ble_eq_true rfl) rfl), rfl⟩⟩ rfl (Tri.ret ?_)
    obtain rfl := Option.some.inj h
    refine Fin.keepS ⟨[(4, Pt 103 0), (5, Pt 104 0)], [(103, .box 23 (eW q_13)), (104, .box 23 (eW x_29))]⟩ rfl (Fin.result' [.agg (eW q_13), .agg (eW x_29)] (.inl rfl) rfl (.cons (.agg tyAgg23 rfl rfl rfl rfl) (.cons (.agg tyAgg23 rfl rfl rfl rfl) .nil)) ⟨rfl, rfl⟩)
def w_Abs_S (F : Nat) (x0 : Big) : Option Big :=
 (w_good_S F [x0]).bind fun x_1 => if (!x_1) = true then ((w_Bad_S F).bind fun x_2 => some x_2) else ((w_signed_S F false x0.W).bind fun x_3 => some x_3)
theorem w_Abs_spec {F : Nat} {x0 : Big} {r : Big} (h : w_Abs_S F x0 = some r) : Meets Tryz.prog (tabs mx) 117 [] [.agg (eBig x0)] (Is [] (.b (.agg (eBig r)))) := by
 unfold w_Abs_S at h
 refine Meets.intro 11 Tryz.func117 Tryz.ntmps117 rfl (by simp) fun E => ?_
 show Tri _ E ⟨11, [], []⟩ _ ⟨[(0, .b (.agg (eBig x0)))], []⟩ _
 refine Tri.seq (Tri.regionL ?_)
 refine Oc (op_box (k := 101) rfl rfl) (Oc (op_alloc (k := 102) tyZero25 rfl) ?_)
 refine OpsL.nilS ⟨[(1, Pt 101 0), (2, Pt 102 0)], [(101, .box 25 (eBig x0)), (102, .box 25 zBig)]⟩ rfl (Tri.seq (Tri.seq (Tri.regionL ?_)))
 refine Oc (lp tyAgg25) (Oc (op_buildSlice (k := 103) (es := [x0].map eBig) tySl117 rfl rfl (uni_map fun _ => rfl) rfl (by decide) (by decide) rfl) ?_)
 obtain ⟨x_1, e1, h⟩ := bnd h
 refine Oc (op_callB (w_good_spec e1) goes113 rfl CP.flat_bool) (Oc (op_not rfl) ?_)
 refine OpsL.nilS ⟨[(1, Pt 101 0), (2, Pt 102 0), (6, B (!x_1))], [(101, .box 25 (eBig x0)), (102, .box 25 zBig)]⟩ rfl (Tri.ite h rfl (fun _ h => ?_) (fun _ h => ?_))
 ·refine Tri.seq (Tri.regionL ?_)
  obtain ⟨x_2, e2, h⟩ := bnd h
  refine Oc (op_call0 (w_Bad_spec e2) goes92 rfl rfl) (Oc (op_store_p tyAgg25 rfl rfl rfl rfl (Nat.le_of_ble_eq_true rfl) rfl) ?_)
  refine OpsL.nilS ⟨[(2, Pt 102 0)], [(102, .box 25 (eBig x_2))]⟩ rfl (Tri.ret (Fin.then_ret ?_))
  obtain rfl := Option.some.inj h
  refine Fin.keepS ⟨[(2, Pt 102 0)], [(102, .box 25 (eBig x_2))]⟩ rfl (Fin.result' [.agg (eBig x_2)] (.inl rfl) rfl (.cons (.agg tyAgg25 rfl rfl rfl rfl) .nil) ⟨rfl, rfl⟩)
 ·refine Tri.skip (Fin.keepS ⟨[(1, Pt 101 0), (2, Pt 102 0)], [(101, .box 25 (eBig x0)), (102, .box 25 zBig)]⟩ rfl (Fin.then (Tri.seq (Tri.regionL ?_))))
  refine Oc (op_field_p tyFld25_2 rfl rfl) (Oc (lp tyAgg23) ?_)
  obtain ⟨x_3, e3, h⟩ := bnd h
  refine Oc (op_call0 (w_signed_spec e3) goes115 rfl rfl) (Oc (op_store_p tyAgg25 rfl rfl rfl rfl (Nat.le_of_ble_eq_true rfl) rfl) ?_)
  refine OpsL.nilS ⟨[(2, Pt 102 0)], [(102, .box 25 (eBig x_3))]⟩ rfl (Tri.ret ?_)
  obtain rfl := Option.some.inj h
  refine Fin.keepS ⟨[(2, Pt 102 0)], [(102, .box 25 (eBig x_3))]⟩ rfl (Fin.result' [.agg (eBig x_3)] (.inl rfl) rfl (.cons (.agg tyAgg25 rfl rfl rfl rfl) .nil) ⟨rfl, rfl⟩)
def w_Gcd_R (F : Nat) : Nat → Big → Big → Option Big
 | 0, _, _ => none
 | n + 1, a0, b0 => (w_good_S F [a0, b0]).bind fun x_1 => if (!x_1) = true then ((w_Bad_S F).bind fun x_2 => some x_2) else (Option.bind ((w_size_S F a0.W).bind fun x_3 => (gcall (decide (x_3 ≤ 2)) (w_size_S F b0.W)).bind fun x_4 => if ((decide (x_3 ≤ 2)) && (decide (x_4 ≤ 2))) = true then (Option.bind (iter F (un2 fun x_6 y_7 => if (decide (y_7 ≠ 0)) = true then ((rem? x_6 y_7).bind fun x_9 => some (.inl (y_7, x_9))) else (some (.inr x_6))) (ior .u64 (IntKind.u64.wrap ((IntKind.u64.wrap a0.W.a1) * 4294967296)) (IntKind.u64.wrap a0.W.a0), ior .u64 (IntKind.u64.wrap ((IntKind.u64.wrap b0.W.a1) * 4294967296)) (IntKind.u64.wrap b0.W.a0))) (fun x_5 => letN (⟨IntKind.u32.wrap x_5, IntKind.u32.wrap (x_5 / 4294967296), 0, 0, 0, 0, 0, 0, 0, 0, 0, 0, 0, 0, 0, 0⟩ : A16) fun x_10 => (w_signed_S F false x_10).bind fun x_11 => some (.inr x_11))) else (some (.inl ()))) (alt2 (fun _ => if (decide (b0.W ≠ A16.zero)) = true then (Option.bind (w_quotient_S F a0.W b0.W) (un2 fun x_12 x_13 => (w_signed_S F false b0.W).bind fun x_14 => (w_signed_S F false x_13).bind fun x_15 => (w_Gcd_R F n x_14 x_15).bind fun x_16 => some x_16)) else ((w_Abs_S F a0).bind fun x_17 => some x_17)) (fun y => some y)))
def w_Gcd_S (F : Nat) (a0 : Big) (b0 : Big) : Option Big := w_Gcd_R F F a0 b0
theorem w_Gcd_specR {F : Nat} : ∀ (n : Nat) {a0 : Big} {b0 : Big} {r : Big} (h : w_Gcd_R F n a0 b0 = some r), Meets Tryz.prog (tabs mx) 73 [] [.agg (eBig a0), .agg (eBig b0)] (Is [] (.b (.agg (eBig r)))) := by
 intro n
 induction n with
 | zero => intro a0 b0 r h; simp [w_Gcd_R] at h
 | succ n ih =>
 intro a0 b0 r h
 unfold w_Gcd_R at h
 refine Meets.intro 80 Tryz.func73 Tryz.ntmps73 rfl (by simp) fun E => ?_
 show Tri _ E ⟨80, [], []⟩ _ ⟨[(0, .b (.agg (eBig a0))), (1, .b (.agg (eBig b0)))], []⟩ _
 refine Tri.seq (Tri.regionL ?_)
 refine Oc (op_box (k := 101) rfl rfl) (Oc (op_box (k := 102) rfl rfl) (Oc (op_alloc (k := 103) tyZero25 rfl) ?_))
 refine OpsL.nilS ⟨[(2, Pt 101 0), (3, Pt 102 0), (4, Pt 103 0)], [(101, .box 25 (eBig a0)), (102, .box 25 (eBig b0)), (103, .box 25 zBig)]⟩ rfl (Tri.seq (Tri.seq (Tri.regionL ?_)))
 refine Oc (lp tyAgg25) (Oc (lp tyAgg25) (Oc (op_buildSlice (k := 104) (es := [a0, b0].map eBig) tySl117 rfl rfl (uni_map fun _ => rfl) rfl (by decide) (by decide) rfl) ?_))
 obtain ⟨x_1, e1, h⟩ := bnd h
 refine Oc (op_callB (w_good_spec e1) goes113 rfl CP.flat_bool) (Oc (op_not rfl) ?_)
 refine OpsL.nilS ⟨[(2, Pt 101 0), (3, Pt 102 0), (4, Pt 103 0), (15, B (!x_1))], [(101, .box 25 (eBig a0)), (102, .box 25 (eBig b0)), (103, .box 25 zBig)]⟩ rfl (Tri.ite h rfl (fun _ h => ?_) (fun _ h => ?_))
 ·refine Tri.seq (Tri.regionL ?_)
  obtain ⟨x_2, e2, h⟩ := bnd h
  refine Oc (op_call0 (w_Bad_spec e2) goes92 rfl rfl) (Oc (op_store_p tyAgg25 rfl rfl rfl rfl (Nat.le_of_ble_eq_true rfl) rfl) ?_)
  refine OpsL.nilS ⟨[(4, Pt 103 0)], [(103, .box 25 (eBig x_2))]⟩ rfl (Tri.ret (Fin.then_ret ?_))
  obtain rfl := Option.some.inj h
  refine Fin.keepS ⟨[(4, Pt 103 0)], [(103, .box 25 (eBig x_2))]⟩ rfl (Fin.result' [.agg (eBig x_2)] (.inl rfl) rfl (.cons (.agg tyAgg25 rfl rfl rfl rfl) .nil) ⟨rfl, rfl⟩)
 ·refine Tri.skip (Fin.keepS ⟨[(2, Pt 101 0), (3, Pt 102 0), (4, Pt 103 0)], [(101, .box 25 (eBig a0)), (102, .box 25 (eBig b0)), (103, .box 25 zBig)]⟩ rfl (Fin.then ?_))
  obtain ⟨v3, h4, h⟩ := bnd h
  refine Tri.seqJ (v := v3) (fun (_ : Unit) => ⟨[(2, Pt 101 0), (3, Pt 102 0), (4, Pt 103 0)], [(101, .box 25 (eBig a0)), (102, .box 25 (eBig b0)), (103, .box 25 zBig)]⟩) (fun z => .inl z) ?_ ?_
  ·refine Tri.seq (Tri.regionL ?_)
   refine Oc (op_field_p tyFld25_2 rfl rfl) (Oc (lp tyAgg23) ?_)
   obtain ⟨x_3, e5, h4⟩ := bnd h4
   refine Oc (op_call0 (w_size_spec e5) goes114 rfl rfl) (Oc (op_leq rfl rfl) (Oc om ?_))
   refine OpsL.keepS ⟨[(2, Pt 101 0), (3, Pt 102 0), (4, Pt 103 0), (21, B (decide (x_3 ≤ 2)))], [(101, .box 25 (eBig a0)), (102, .box 25 (eBig b0)), (103, .box 25 zBig)]⟩ rfl (CgT (decide (x_3 ≤ 2)) [] (fun g6 => trivial) (fun g6 => op_field_p tyFld25_2 rfl rfl) (CgT (decide (x_3 ≤ 2)) [22] (fun g7 => ⟨g7, trivial⟩) (fun g7 => lp tyAgg23) ?_))
   obtain ⟨x_4, e9, h4⟩ := bnd h4
   refine CgT (decide (x_3 ≤ 2)) [23] (fun g8 => ⟨g8, trivial⟩) (fun g8 => op_call0 (w_size_spec (gc e9 g8)) goes114 rfl rfl) (CgT (decide (x_3 ≤ 2)) [24] (fun g10 => ⟨g10, trivial⟩) (fun g10 => op_leq rfl rfl) (Oc (op_pick_and (fun e => e) rfl rfl rfl rfl) (OpsL.nilS ⟨[(2, Pt 101 0), (3, Pt 102 0), (4, Pt 103 0), (26, B ((decide (x_3 ≤ 2)) && (decide (x_4 ≤ 2))))], [(101, .box 25 (eBig a0)), (102, .box 25 (eBig b0)), (103, .box 25 zBig)]⟩ rfl (Tri.ite h4 rfl (fun _ h4 => ?_) (fun _ h4 => ?_)))))
   ·refine Tri.seq (Tri.keepS ⟨[(2, Pt 101 0), (3, Pt 102 0), (4, Pt 103 0)], [(101, .box 25 (eBig a0)), (102, .box 25 (eBig b0)), (103, .box 25 zBig)]⟩ rfl (Tri.regionY mixed 22 [Pt 101 2, Pt 101 3, .b (.one (.int .u32 a0.W.a1)), .b (.one (.int .u64 (IntKind.u64.wrap a0.W.a1))), .b (.one (.int .u64 (IntKind.u64.wrap ((IntKind.u64.wrap a0.W.a1) * 4294967296)))), Pt 101 2, Pt 101 2, .b (.one (.int .u32 a0.W.a0)), .b (.one (.int .u64 (IntKind.u64.wrap a0.W.a0))), .b (.one (.int .u64 (ior .u64 (IntKind.u64.wrap ((IntKind.u64.wrap a0.W.a1) * 4294967296)) (IntKind.u64.wrap a0.W.a0)))), Pt 102 2, Pt 102 3, .b (.one (.int .u32 b0.W.a1)), .b (.one (.int .u64 (IntKind.u64.wrap b0.W.a1))), .b (.one (.int .u64 (IntKind.u64.wrap ((IntKind.u64.wrap b0.W.a1) * 4294967296)))), Pt 102 2, Pt 102 2, .b (.one (.int .u32 b0.W.a0)), .b (.one (.int .u64 (IntKind.u64.wrap b0.W.a0))), .b (.one (.int .u64 (ior .u64 (IntKind.u64.wrap ((IntKind.u64.wrap b0.W.a1) * 4294967296)) (IntKind.u64.wrap b0.W.a0)))), .b (.one (.int .u64 (ior .u64 (IntKind.u64.wrap ((IntKind.u64.wrap a0.W.a1) * 4294967296)) (IntKind.u64.wrap a0.W.a0)))), .b (.one (.int .u64 (ior .u64 (IntKind.u64.wrap ((IntKind.u64.wrap b0.W.a1) * 4294967296)) (IntKind.u64.wrap b0.W.a0))))] [4, 5, 6] [103] (s' := ⟨[(4, Pt 103 0), (5, .b (.one (.int .u64 (ior .u64 (IntKind.u64.wrap ((IntKind.u64.wrap a0.W.a1) * 4294967296)) (IntKind.u64.wrap a0.W.a0))))), (6, .b (.one (.int .u64 (ior .u64 (IntKind.u64.wrap ((IntKind.u64.wrap b0.W.a1) * 4294967296)) (IntKind.u64.wrap b0.W.a0)))))], [(103, .box 25 zBig)]⟩) rfl ⟨fun _ => .p (op_field_p tyFld25_2 rfl rfl), fun _ => .p (op_index_p tyArr23 (by decide) (by decide) rfl rfl rfl), fun _ => .p (op_load_p1 tyOne22 rfl rfl rfl), fun _ => .p (op_conv_wrap undi22 undi79 rfl), fun _ => .p (op_shl0 (m := 32) (q := 4294967296) (by decide) rfl rfl (by decide)), fun _ => .p (op_field_p tyFld25_2 rfl rfl), fun _ => .p (op_index_p tyArr23 (by decide) (by decide) rfl rfl rfl), fun _ => .p (op_load_p1 tyOne22 rfl rfl rfl), fun _ => .p (op_conv_wrap undi22 undi79 rfl), fun _ => .p (op_or rfl rfl), fun _ => .p (op_field_p tyFld25_2 rfl rfl), fun _ => .p (op_index_p tyArr23 (by decide) (by decide) rfl rfl rfl), fun _ => .p (op_load_p1 tyOne22 rfl rfl rfl), fun _ => .p (op_conv_wrap undi22 undi79 rfl), fun _ => .p (op_shl0 (m := 32) (q := 4294967296) (by decide) rfl rfl (by decide)), fun _ => .p (op_field_p tyFld25_2 rfl rfl), fun _ => .p (op_index_p tyArr23 (by decide) (by decide) rfl rfl rfl), fun _ => .p (op_load_p1 tyOne22 rfl rfl rfl), fun _ => .p (op_conv_wrap undi22 undi79 rfl), fun _ => .p (op_or rfl rfl), fun _ => .p oa, fun _ => .p oa, trivial⟩ rfl rfl ?_))
    obtain ⟨v11, h12, h4⟩ := bnd h4
    refine Tri.seqJ (v := v11) (fun (x_5 : Int) => ⟨[(4, Pt 103 0), (5, .b (.one (.int .u64 x_5)))], [(103, .box 25 zBig)]⟩) (fun z => z) ?_ ?_
    ·refine Tri.block (Tri.loopJ h12 (un2 fun (x_6 : Int) (y_7 : Int) => ⟨[(4, Pt 103 0), (5, .b (.one (.int .u64 x_6))), (6, .b (.one (.int .u64 y_7)))], [(103, .box 25 zBig)]⟩) [4, 5, 6] [103] rfl ?_)
     rintro ⟨x_6, y_7⟩ o13 h14 hy15
     refine Tri.seq (Tri.seq (Tri.regionL ?_))
     refine Oc om (Oc (op_neq rfl rfl) ?_)
     refine OpsL.nilS ⟨[(4, Pt 103 0), (5, .b (.one (.int .u64 x_6))), (6, .b (.one (.int .u64 y_7))), (48, B (decide (y_7 ≠ 0)))], [(103, .box 25 zBig)]⟩ rfl (Tri.ite h14 rfl (fun _ h14 => ?_) (fun _ h14 => ?_))
     ·refine Tri.skip (Fin.keepS ⟨[(4, Pt 103 0), (5, .b (.one (.int .u64 x_6))), (6, .b (.one (.int .u64 y_7)))], [(103, .box 25 zBig)]⟩ rfl (Fin.then (Tri.block ?_)))
      refine Tri.keepS ⟨[(4, Pt 103 0), (5, .b (.one (.int .u64 x_6))), (6, .b (.one (.int .u64 y_7)))], [(103, .box 25 zBig)]⟩ rfl ?_
      obtain ⟨x_9, e16, h14⟩ := bnd h14
      refine Tri.regionYF mixed 5 [.b (.one (.int .u64 y_7)), .b (.one (.int .u64 x_6)), .b (.one (.int .u64 y_7)), .b (.one (.int .u64 x_9)), .b (.one (.int .u64 y_7))] [4, 5, 6] [103] (s' := ⟨[(4, Pt 103 0), (5, .b (.one (.int .u64 y_7))), (6, .b (.one (.int .u64 x_9)))], [(103, .box 25 zBig)]⟩) rfl ⟨fun _ => .p om, fun _ => .p om, fun _ => .p om, fun _ => .p (op_rem2 e16 rfl rfl), fun _ => .p oa, trivial⟩ ⟨_, by exact .p oa, rfl⟩ rfl (Fin.block_normal ?_)
      exact Fin.againJ [4, 5, 6] [103] (y_7, x_9) (Option.some.inj h14) rfl
     ·refine Tri.exit (Fin.then_exit ?_)
      obtain rfl := hy15 _ (Option.some.inj h14).symm
      refine Fin.then_exit (Fin.block_exit ?_)
      exact Fin.join [4, 5] [103] x_6 rfl rfl
    ·rintro x_5 hv
     subst v11
     refine Tri.seq (Tri.regionL ?_)
     refine Oc om (Oc (op_conv_wrap undi79 undi22 rfl) (Oc om (Oc (op_shr2 (m := 32) (by decide) rfl rfl rfl) (Oc (op_conv_wrap undi79 undi22 rfl) ?_))))
     refine OpsL.consA eW h4 rfl (op_buildA tyBuild23 rfl rfl) (fun x_10 h4 => ?_)
     obtain ⟨x_11, e17, h4⟩ := bnd h4
     refine Oc (op_call0 (w_signed_spec e17) goes115 rfl rfl) (Oc (op_store_p tyAgg25 rfl rfl rfl rfl (Nat.le_of_ble_eq_true rfl) rfl) ?_)
     refine OpsL.nilS ⟨[(4, Pt 103 0)], [(103, .box 25 (eBig x_11))]⟩ rfl (Tri.ret ?_)
     obtain rfl := Option.some.inj h4
     refine Fin.then_ret ?_
     obtain rfl := Option.some.inj h
     refine Fin.keepS ⟨[(4, Pt 103 0)], [(103, .box 25 (eBig x_11))]⟩ rfl (Fin.result' [.agg (eBig x_11)] (.inl rfl) rfl (.cons (.agg tyAgg25 rfl rfl rfl rfl) .nil) ⟨rfl, rfl⟩)
   ·refine Tri.skip ?_
    exact Fin.join [2, 3, 4] [101, 102, 103] () (Option.some.inj h4) rfl
  ·rintro _ hv
   subst v3
   refine Tri.seq (Tri.seq ?_)
   refine Tri.keepS ⟨[(2, Pt 101 0), (3, Pt 102 0), (4, Pt 103 0)], [(101, .box 25 (eBig a0)), (102, .box 25 (eBig b0)), (103, .box 25 zBig)]⟩ rfl (Tri.regionW mixed [false, false, false, false, true, true, true, true] [Pt 101 2, .b (.agg (eW a0.W)), Pt 102 2, .b (.agg (eW b0.W)), Pt 105 0, Pt 106 0, B true, B true] [⟨[false, false, false, false, false, false, false, false], [(2, Pt 101 0), (3, Pt 102 0), (4, Pt 103 0)], [(101, .box 25 (eBig a0)), (102, .box 25 (eBig b0)), (103, .box 25 zBig)], [true, true, true, true, true, true, true, true], []⟩, ⟨[false, false, false, false, true, false, false, false], [(2, Pt 101 0), (3, Pt 102 0), (4, Pt 103 0)], [(101, .box 25 (eBig a0)), (102, .box 25 (eBig b0)), (103, .box 25 zBig), (105, .box 23 (eW A16.zero))], [true, true, true, true, true, true, true, true], [4]⟩, ⟨[false, false, false, false, false, true, false, false], [(2, Pt 101 0), (3, Pt 102 0), (4, Pt 103 0)], [(101, .box 25 (eBig a0)), (102, .box 25 (eBig b0)), (103, .box 25 zBig), (106, .box 23 (eW A16.zero))], [true, true, true, true, true, true, true, true], [5]⟩, ⟨[false, false, false, false, true, true, false, false], [(2, Pt 101 0), (3, Pt 102 0), (4, Pt 103 0)], [(101, .box 25 (eBig a0)), (102, .box 25 (eBig b0)), (103, .box 25 zBig), (105, .box 23 (eW A16.zero)), (106, .box 23 (eW A16.zero))], [true, true, true, true, true, true, true, true], [4, 5]⟩, ⟨[false, false, false, false, true, true, true, false], [(2, Pt 101 0), (3, Pt 102 0), (4, Pt 103 0)], [(101, .box 25 (eBig a0)), (102, .box 25 (eBig b0)), (103, .box 25 zBig), (105, .box 23 (eW a0.W)), (106, .box 23 (eW A16.zero))], [true, true, true, true, true, true, true, true], [0, 1, 4, 5, 6]⟩, ⟨[false, false, false, false, true, true, true, true], [(2, Pt 101 0), (3, Pt 102 0), (4, Pt 103 0)], [(101, .box 25 (eBig a0)), (102, .box 25 (eBig b0)), (103, .box 25 zBig), (105, .box 23 (eW a0.W)), (106, .box 23 (eW b0.W))], [true, true, true, true, true, true, true, true], [0, 1, 2, 3, 4, 5, 6, 7]⟩] rfl (⟨by kernel_rfl, ⟨⟨Pt 101 2, fun _ => rfl, fun _ => .p (by exact op_field_p tyFld25_2 rfl rfl)⟩, ⟨.b (.agg (eW a0.W)), fun _ => rfl, fun _ => .p (by exact op_load_p tyAgg23 rfl rfl rfl rfl)⟩, ⟨Pt 102 2, fun _ => rfl, fun _ => .p (by exact op_field_p tyFld25_2 rfl rfl)⟩, ⟨.b (.agg (eW b0.W)), fun _ => rfl, fun _ => .p (by exact op_load_p tyAgg23 rfl rfl rfl rfl)⟩, ⟨_, some 105, Pt 105 0, rfl, fun _ => rfl, rfl, rfl, fun _ => .toO [101, 102, 103, 105] (by exact .p (by exact op_alloc (k := 105) tyZero23 rfl)) (by exact rfl)⟩, ⟨_, some 106, Pt 106 0, rfl, fun _ => rfl, rfl, rfl, fun _ => .toO [101, 102, 103, 106] (by exact .p (by exact op_alloc (k := 106) tyZero23 rfl)) (by exact rfl)⟩, trivial, trivial, trivial⟩, ⟨by kernel_rfl, ⟨⟨Pt 101 2, fun _ => rfl, fun _ => .p (by exact op_field_p tyFld25_2 rfl rfl)⟩, ⟨.b (.agg (eW a0.W)), fun _ => rfl, fun _ => .p (by exact op_load_p tyAgg23 rfl rfl rfl rfl)⟩, ⟨Pt 102 2, fun _ => rfl, fun _ => .p (by exact op_field_p tyFld25_2 rfl rfl)⟩, ⟨.b (.agg (eW b0.W)), fun _ => rfl, fun _ => .p (by exact op_load_p tyAgg23 rfl rfl rfl rfl)⟩, trivial, ⟨_, some 106, Pt 106 0, rfl, fun _ => rfl, rfl, rfl, fun _ => .toO [101, 102, 103, 105, 106] (by exact .p (by exact op_alloc (k := 106) tyZero23 rfl)) (by exact rfl)⟩, trivial, trivial, trivial⟩, ⟨by kernel_rfl, ⟨⟨Pt 101 2, fun _ => rfl, fun _ => .p (by exact op_field_p tyFld25_2 rfl rfl)⟩, ⟨.b (.agg (eW a0.W)), fun _ => rfl, fun _ => .p (by exact op_load_p tyAgg23 rfl rfl rfl rfl)⟩, ⟨Pt 102 2, fun _ => rfl, fun _ => .p (by exact op_field_p tyFld25_2 rfl rfl)⟩, ⟨.b (.agg (eW b0.W)), fun _ => rfl, fun _ => .p (by exact op_load_p tyAgg23 rfl rfl rfl rfl)⟩, ⟨_, some 105, Pt 105 0, rfl, fun _ => rfl, rfl, rfl, fun _ => .toO [101, 102, 103, 105, 106] (by exact .p (by exact op_alloc (k := 105) tyZero23 rfl)) (by exact rfl)⟩, trivial, trivial, trivial, trivial⟩, ⟨by kernel_rfl, ⟨⟨Pt 101 2, fun _ => rfl, fun _ => .p (by exact op_field_p tyFld25_2 rfl rfl)⟩, ⟨.b (.agg (eW a0.W)), fun _ => rfl, fun _ => .p (by exact op_load_p tyAgg23 rfl rfl rfl rfl)⟩, ⟨Pt 102 2, fun _ => rfl, fun _ => .p (by exact op_field_p tyFld25_2 rfl rfl)⟩, ⟨.b (.agg (eW b0.W)), fun _ => rfl, fun _ => .p (by exact op_load_p tyAgg23 rfl rfl rfl rfl)⟩, trivial, trivial, ⟨_, none, .b (.one .any), rfl, (fun e => by simp at e), rfl, rfl, fun _ => .toO [101, 102, 103, 105, 106] (by exact .p (by exact op_store_p tyAgg23 rfl rfl rfl rfl (Nat.le_of_ble_eq_true rfl) rfl)) (by exact rfl)⟩, trivial, trivial⟩, ⟨by kernel_rfl, ⟨trivial, trivial, ⟨Pt 102 2, fun _ => rfl, fun _ => .p (by exact op_field_p tyFld25_2 rfl rfl)⟩, ⟨.b (.agg (eW b0.W)), fun _ => rfl, fun _ => .p (by exact op_load_p tyAgg23 rfl rfl rfl rfl)⟩, trivial, trivial, trivial, ⟨_, none, .b (.one .any), rfl, (fun e => by simp at e), rfl, rfl, fun _ => .toO [101, 102, 103, 105, 106] (by exact .p (by exact op_store_p tyAgg23 rfl rfl rfl rfl (Nat.le_of_ble_eq_true rfl) rfl)) (by exact rfl)⟩, trivial⟩, ⟨by kernel_rfl, ⟨trivial, trivial, trivial, trivial, trivial, trivial, trivial, trivial, trivial⟩, trivial⟩⟩⟩⟩⟩⟩) rfl rfl rfl [2, 4, 7, 8] [101, 103, 105, 106] (s' := ⟨[(2, Pt 101 0), (4, Pt 103 0), (7, Pt 105 0), (8, Pt 106 0)], [(101, .box 25 (eBig a0)), (103, .box 25 zBig), (105, .box 23 (eW a0.W)), (106, .box 23 (eW b0.W))]⟩) rfl ?_)
   refine Tri.seq (Tri.regionL ?_)
   refine Oc (lp tyAgg23) (Oc (op_buildA tyBuild23 rfl rfl) (Oc (op_neq_agg (eqAgg23 b0.W A16.zero) rfl rfl neg_dec) ?_))
   refine OpsL.nilS ⟨[(2, Pt 101 0), (4, Pt 103 0), (7, Pt 105 0), (8, Pt 106 0), (66, B (decide (b0.W ≠ A16.zero)))], [(101, .box 25 (eBig a0)), (103, .box 25 zBig), (105, .box 23 (eW a0.W)), (106, .box 23 (eW b0.W))]⟩ rfl (Tri.ite h rfl (fun _ h => ?_) (fun _ h => ?_))
   ·refine Tri.seq (Tri.regionL ?_)
    refine Oc (lp tyAgg23) (Oc (lp tyAgg23) ?_)
    obtain ⟨⟨x_12, x_13⟩, e18, h⟩ := bnd h
    refine Oc (op_call0 (w_quotient_spec e18) goes116 rfl rfl) (Oc om (Oc (op_extract rfl rfl) ?_))
    refine OpsL.keepS ⟨[(4, Pt 103 0), (8, Pt 106 0), (67, .tup [.agg (eW x_12), .agg (eW x_13)]), (71, .b (.agg (eW x_12)))], [(103, .box 25 zBig), (106, .box 23 (eW b0.W))]⟩ rfl (Oc (op_extract rfl rfl) (Oc (op_alloc (k := 107) tyZero23 rfl) (Oc (op_alloc (k := 108) tyZero23 rfl) (Oc (op_store_p tyAgg23 rfl rfl rfl rfl (Nat.le_of_ble_eq_true rfl) rfl) (Oc (op_store_p tyAgg23 rfl rfl rfl rfl (Nat.le_of_ble_eq_true rfl) rfl) ?_)))))
    refine OpsL.nilS ⟨[(4, Pt 103 0), (8, Pt 106 0), (10, Pt 108 0)], [(103, .box 25 zBig), (106, .box 23 (eW b0.W)), (108, .box 23 (eW x_13))]⟩ rfl (Tri.seq ?_)
    obtain ⟨x_14, e19, h⟩ := bnd h
    obtain ⟨x_15, e20, h⟩ := bnd h
    obtain ⟨x_16, e21, h⟩ := bnd h
    refine Tri.regionY mixed 5 [.b (.agg (eW b0.W)), .b (.agg (eBig x_14)), .b (.agg (eW x_13)), .b (.agg (eBig x_15)), .b (.agg (eBig x_16))] [4] [103] (s' := ⟨[(4, Pt 103 0)], [(103, .box 25 (eBig x_16))]⟩) rfl ⟨fun _ => .p (lp tyAgg23), fun _ => .p (op_call0 (w_signed_spec e19) goes115 rfl rfl), fun _ => .p (lp tyAgg23), fun _ => .p (op_call0 (w_signed_spec e20) goes115 rfl rfl), fun _ => .p (op_call0 (ih e21) goes73 rfl rfl), trivial⟩ ⟨_, by exact .p (op_store_p tyAgg25 rfl rfl rfl rfl (Nat.le_of_ble_eq_true rfl) rfl), rfl⟩ rfl (Tri.ret (Fin.then_ret ?_))
    obtain rfl := Option.some.inj h
    refine Fin.keepS ⟨[(4, Pt 103 0)], [(103, .box 25 (eBig x_16))]⟩ rfl (Fin.result' [.agg (eBig x_16)] (.inl rfl) rfl (.cons (.agg tyAgg25 rfl rfl rfl rfl) .nil) ⟨rfl, rfl⟩)
   ·refine Tri.skip (Fin.keepS ⟨[(2, Pt 101 0), (4, Pt 103 0)], [(101, .box 25 (eBig a0)), (103, .box 25 zBig)]⟩ rfl (Fin.then (Tri.seq (Tri.regionL ?_))))
    refine Oc (lp tyAgg25) ?_
    obtain ⟨x_17, e22, h⟩ := bnd h
    refine Oc (op_call0 (w_Abs_spec e22) goes117 rfl rfl) (Oc (op_store_p tyAgg25 rfl rfl rfl rfl (Nat.le_of_ble_eq_true rfl) rfl) ?_)
    refine OpsL.nilS ⟨[(4, Pt 103 0)], [(103, .box 25 (eBig x_17))]⟩ rfl (Tri.ret ?_)
    obtain rfl := Option.some.inj h
    refine Fin.keepS ⟨[(4, Pt 103 0)], [(103, .box 25 (eBig x_17))]⟩ rfl (Fin.result' [.agg (eBig x_17)] (.inl rfl) rfl (.cons (.agg tyAgg25 rfl rfl rfl rfl) .nil) ⟨rfl, rfl⟩)
theorem w_Gcd_spec {F : Nat} {a0 : Big} {b0 : Big} {r : Big} (h : w_Gcd_S F a0 b0 = some r) : Meets Tryz.prog (tabs mx) 73 [] [.agg (eBig a0), .agg (eBig b0)] (Is [] (.b (.agg (eBig r)))) := w_Gcd_specR F h
def w_Neg_S (F : Nat) (x0 : Big) : Option Big :=
 (w_good_S F [x0]).bind fun x_1 => if (!x_1) = true then ((w_Bad_S F).bind fun x_2 => some x_2) else ((w_signed_S F (!x0.Neg) x0.W).bind fun x_3 => some x_3)
theorem w_Neg_spec {F : Nat} {x0 : Big} {r : Big} (h : w_Neg_S F x0 = some r) : Meets Tryz.prog (tabs mx) 74 [] [.agg (eBig x0)] (Is [] (.b (.agg (eBig r)))) := by
 unfold w_Neg_S at h
 refine Meets.intro 14 Tryz.func74 Tryz.ntmps74 rfl (by simp) fun E => ?_
 show Tri _ E ⟨14, [], []⟩ _ ⟨[(0, .b (.agg (eBig x0)))], []⟩ _
 refine Tri.seq (Tri.regionL ?_)
 refine Oc (op_box (k := 101) rfl rfl) (Oc (op_alloc (k := 102) tyZero25 rfl) ?_)
 refine OpsL.nilS ⟨[(1, Pt 101 0), (2, Pt 102 0)], [(101, .box 25 (eBig x0)), (102, .box 25 zBig)]⟩ rfl (Tri.seq (Tri.seq (Tri.regionL ?_)))
 refine Oc (lp tyAgg25) (Oc (op_buildSlice (k := 103) (es := [x0].map eBig) tySl117 rfl rfl (uni_map fun _ => rfl) rfl (by decide) (by decide) rfl) ?_)
 obtain ⟨x_1, e1, h⟩ := bnd h
 refine Oc (op_callB (w_good_spec e1) goes113 rfl CP.flat_bool) (Oc (op_not rfl) ?_)
 refine OpsL.nilS ⟨[(1, Pt 101 0), (2, Pt 102 0), (6, B (!x_1))], [(101, .box 25 (eBig x0)), (102, .box 25 zBig)]⟩ rfl (Tri.ite h rfl (fun _ h => ?_) (fun _ h => ?_))
 ·refine Tri.seq (Tri.regionL ?_)
  obtain ⟨x_2, e2, h⟩ := bnd h
  refine Oc (op_call0 (w_Bad_spec e2) goes92 rfl rfl) (Oc (op_store_p tyAgg25 rfl rfl rfl rfl (Nat.le_of_ble_eq_true rfl) rfl) ?_)
  refine OpsL.nilS ⟨[(2, Pt 102 0)], [(102, .box 25 (eBig x_2))]⟩ rfl (Tri.ret (Fin.then_ret ?_))
  obtain rfl := Option.some.inj h
  refine Fin.keepS ⟨[(2, Pt 102 0)], [(102, .box 25 (eBig x_2))]⟩ rfl (Fin.result' [.agg (eBig x_2)] (.inl rfl) rfl (.cons (.agg tyAgg25 rfl rfl rfl rfl) .nil) ⟨rfl, rfl⟩)
 ·refine Tri.skip (Fin.keepS ⟨[(1, Pt 101 0), (2, Pt 102 0)], [(101, .box 25 (eBig x0)), (102, .box 25 zBig)]⟩ rfl (Fin.then (Tri.seq (Tri.regionL ?_))))
  refine Oc (op_field_p tyFld25_1 rfl rfl) (Oc (op_load_p1 tyOne4 rfl rfl rfl) (Oc (op_not rfl) (Oc (op_field_p tyFld25_2 rfl rfl) (Oc (lp tyAgg23) ?_))))
  obtain ⟨x_3, e3, h⟩ := bnd h
  refine Oc (op_call0 (w_signed_spec e3) goes115 rfl rfl) (Oc (op_store_p tyAgg25 rfl rfl rfl rfl (Nat.le_of_ble_eq_true rfl) rfl) ?_)
  refine OpsL.nilS ⟨[(2, Pt 102 0)], [(102, .box 25 (eBig x_3))]⟩ rfl (Tri.ret ?_)
  obtain rfl := Option.some.inj h
  refine Fin.keepS ⟨[(2, Pt 102 0)], [(102, .box 25 (eBig x_3))]⟩ rfl (Fin.result' [.agg (eBig x_3)] (.inl rfl) rfl (.cons (.agg tyAgg25 rfl rfl rfl rfl) .nil) ⟨rfl, rfl⟩)
def w_Bits_S (F : Nat) (x0 : Big) : Option Int :=
 (w_size_S F x0.W).bind fun x_1 => (w_good_S F [x0]).bind fun x_2 => if ((!x_2) || (decide (x_1 = 0))) = true then (some 0) else (letN (IntKind.i64.wrap (32 * (IntKind.i64.wrap (x_1 - 1)))) fun x_3 => (idx? x0.W.l (IntKind.i64.wrap (x_1 - 1))).bind fun x_4 => (bits_Len32_S F x_4).bind fun x_5 => some (IntKind.i64.wrap (x_3 + x_5)))
theorem w_Bits_spec {F : Nat} {x0 : Big} {r : Int} (h : w_Bits_S F x0 = some r) : Meets Tryz.prog (tabs mx) 123 [] [.agg (eBig x0)] (Is [] (.b (.one (.i r)))) := by
 unfold w_Bits_S at h
 refine Meets.intro 25 Tryz.func123 Tryz.ntmps123 rfl (by simp) fun E => ?_
 show Tri _ E ⟨25, [], []⟩ _ ⟨[(0, .b (.agg (eBig x0)))], []⟩ _
 refine Tri.seq (Tri.regionL ?_)
 refine Oc (op_box (k := 101) rfl rfl) (Oc oa ?_)
 refine OpsL.nilS ⟨[(1, Pt 101 0)], [(101, .box 25 (eBig x0))]⟩ rfl (Tri.seq (Tri.regionL ?_))
 refine Oc (op_field_p tyFld25_2 rfl rfl) (Oc (lp tyAgg23) ?_)
 obtain ⟨x_1, e1, h⟩ := bnd h
 refine Oc (op_call0 (w_size_spec e1) goes114 rfl rfl) (Oc oa ?_)
 refine OpsL.nilS ⟨[(1, Pt 101 0), (3, I x_1)], [(101, .box 25 (eBig x0))]⟩ rfl (Tri.seq (Tri.seq (Tri.regionL ?_)))
 refine Oc (lp tyAgg25) (Oc (op_buildSlice (k := 102) (es := [x0].map eBig) tySl117 rfl rfl (uni_map fun _ => rfl) rfl (by decide) (by decide) rfl) ?_)
 obtain ⟨x_2, e2, h⟩ := bnd h
 refine Oc (op_callB (w_good_spec e2) goes113 rfl CP.flat_bool) (Oc (op_not rfl) ?_)
 refine OpsL.keepS ⟨[(1, Pt 101 0), (3, I x_1), (10, B (!x_2))], [(101, .box 25 (eBig x0))]⟩ rfl (Oc om (CgF (!(!x_2)) [] (fun g3 => by exact trivial) (fun g3 => om) (CgF (!(!x_2)) [12] (fun g4 => by exact ⟨g4, trivial⟩) (fun g4 => op_eql rfl rfl) (Oc (op_pick_or (fun e => by rw [e]; rfl) rfl rfl rfl rfl) (OpsL.nilS ⟨[(1, Pt 101 0), (3, I x_1), (14, B ((!x_2) || (decide (x_1 = 0))))], [(101, .box 25 (eBig x0))]⟩ rfl ?_)))))
 refine Tri.ite h rfl (fun _ h => ?_) (fun _ h => ?_)
 ·refine Tri.seq (Tri.regionL ?_)
  refine Oc oa (OpsL.nilS ⟨[(2, I 0)], []⟩ rfl (Tri.ret (Fin.then_ret ?_)))
  obtain rfl := Option.some.inj h
  refine Fin.keepS ⟨[(2, I 0)], []⟩ rfl (Fin.result' [.one (.i 0)] (.inl rfl) rfl (.cons (.tmp rfl) .nil) ⟨rfl, rfl⟩)
 ·refine Tri.skip (Fin.keepS ⟨[(1, Pt 101 0), (3, I x_1)], [(101, .box 25 (eBig x0))]⟩ rfl (Fin.then (Tri.seq (Tri.regionL ?_))))
  refine Oc om (Oc (op_sub rfl rfl) ?_)
  refine OpsL.consI .i64 h rfl (op_mul rfl rfl) (fun x_3 h => ?_)
  refine Oc om (Oc (op_sub rfl rfl) (Oc (op_field_p tyFld25_2 rfl rfl) ?_))
  obtain ⟨x_4, e5, h⟩ := bnd h
  refine Oc (op_index_p tyArr23 (ix_lo e5) (ix_hi e5) rfl rfl rfl) (OpsL.keepS ⟨[(17, I x_3), (21, .b (.ptr 101 (2 + (IntKind.i64.wrap (x_1 - 1) : Int).toNat * 1)))], [(101, .box 25 (eBig x0))]⟩ rfl (Oc (op_load_p1 tyOne22 rfl rfl (arr_get (post := []) (k := .u32) [.bool x0.Bad, .bool x0.Neg] e5 rfl rfl rfl)) ?_))
  obtain ⟨x_5, e6, h⟩ := bnd h
  refine Oc (op_call0 (bits_Len32_spec e6) goes145 rfl rfl) (Oc (op_add rfl rfl) (Oc oa ?_))
  refine OpsL.nilS ⟨[(2, I (IntKind.i64.wrap (x_3 + x_5)))], []⟩ rfl (Tri.ret ?_)
  obtain rfl := Option.some.inj h
  refine Fin.keepS ⟨[(2, I (IntKind.i64.wrap (x_3 + x_5)))], []⟩ rfl (Fin.result' [.one (.i (IntKind.i64.wrap (x_3 + x_5)))] (.inl rfl) rfl (.cons (.tmp rfl) .nil) ⟨rfl, rfl⟩)
def w_Small_S (F : Nat) (x0 : Big) : Option (Int × Bool) :=
 (w_good_S F [x0]).bind fun x_1 => (gcall (!(!x_1)) (w_Bits_S F x0)).bind fun x_2 => if ((!x_1) || (decide (64 < x_2))) = true then (some (0, false)) else (letN (IntKind.u64.wrap ((IntKind.u64.wrap x0.W.a1) * 4294967296)) fun x_3 => letN (ior .u64 x_3 (IntKind.u64.wrap x0.W.a0)) fun x_4 => if (x0.Neg && (decide (x_4 ≤ 9223372036854775808))) = true then (letN (IntKind.i64.wrap (IntKind.u64.wrap (-x_4))) fun x_5 => some (x_5, true)) else (if ((!x0.Neg) && (decide (x_4 < 9223372036854775808))) = true then (some (IntKind.i64.wrap x_4, true)) else (some (0, false))))
theorem w_Small_spec {F : Nat} {x0 : Big} {r : Int × Bool} (h : w_Small_S F x0 = some r) : Meets Tryz.prog (tabs mx) 143 [] [.agg (eBig x0)] (Is [] (.tup [.one (.i r.1), .one (.bool r.2)])) := by
 unfold w_Small_S at h
 refine Meets.intro 44 Tryz.func143 Tryz.ntmps143 rfl (by simp) fun E => ?_
 show Tri _ E ⟨44, [], []⟩ _ ⟨[(0, .b (.agg (eBig x0)))], []⟩ _
 refine Tri.seq (Tri.regionL ?_)
 refine Oc (op_box (k := 101) rfl rfl) (Oc oa (Oc oa ?_))
 refine OpsL.nilS ⟨[(1, Pt 101 0)], [(101, .box 25 (eBig x0))]⟩ rfl (Tri.seq (Tri.seq (Tri.regionL ?_)))
 refine Oc (lp tyAgg25) (Oc (op_buildSlice (k := 102) (es := [x0].map eBig) tySl117 rfl rfl (uni_map fun _ => rfl) rfl (by decide) (by decide) rfl) ?_)
 obtain ⟨x_1, e1, h⟩ := bnd h
 refine Oc (op_callB (w_good_spec e1) goes113 rfl CP.flat_bool) (Oc (op_not rfl) ?_)
 refine OpsL.keepS ⟨[(1, Pt 101 0), (8, B (!x_1))], [(101, .box 25 (eBig x0))]⟩ rfl (Oc om (CgF (!(!x_1)) [] (fun g2 => by exact trivial) (fun g2 => lp tyAgg25) ?_))
 obtain ⟨x_2, e4, h⟩ := bnd h
 refine CgF (!(!x_1)) [10] (fun g3 => ⟨g3, trivial⟩) (fun g3 => op_call0 (w_Bits_spec (gc e4 g3)) goes123 rfl rfl) (CgF (!(!x_1)) [11] (fun g5 => ⟨g5, trivial⟩) (fun g5 => op_gtr rfl rfl) (Oc (op_pick_or (fun e => by rw [e]; rfl) rfl rfl rfl rfl) (OpsL.nilS ⟨[(1, Pt 101 0), (13, B ((!x_1) || (decide (64 < x_2))))], [(101, .box 25 (eBig x0))]⟩ rfl (Tri.ite h rfl (fun _ h => ?_) (fun _ h => ?_)))))
 ·refine Tri.seq (Tri.regionL ?_)
  refine Oc oa (Oc oa ?_)
  refine OpsL.nilS ⟨[(2, I 0), (3, B false)], []⟩ rfl (Tri.ret (Fin.then_ret ?_))
  obtain rfl := Option.some.inj h
  refine Fin.keepS ⟨[(2, I 0), (3, B false)], []⟩ rfl (Fin.result' [.one (.i 0), .one (.bool false)] (.inl rfl) rfl (.cons (.tmp rfl) (.cons (.tmp rfl) .nil)) ⟨rfl, rfl⟩)
 ·refine Tri.skip (Fin.keepS ⟨[(1, Pt 101 0)], [(101, .box 25 (eBig x0))]⟩ rfl (Fin.then (Tri.seq (Tri.regionL ?_))))
  refine Oc (op_field_p tyFld25_2 rfl rfl) (Oc (op_index_p tyArr23 (by decide) (by decide) rfl rfl rfl) (Oc (op_load_p1 tyOne22 rfl rfl rfl) (Oc (op_conv_wrap undi22 undi79 rfl) ?_)))
  refine OpsL.consI .u64 h rfl (op_shl0 (m := 32) (q := 4294967296) (by decide) rfl rfl (by decide)) (fun x_3 h => ?_)
  refine Oc (op_field_p tyFld25_2 rfl rfl) (Oc (op_index_p tyArr23 (by decide) (by decide) rfl rfl rfl) ?_)
  refine OpsL.keepS ⟨[(1, Pt 101 0), (18, .b (.one (.int .u64 x_3))), (20, Pt 101 2)], [(101, .box 25 (eBig x0))]⟩ rfl (Oc (op_load_p1 tyOne22 rfl rfl rfl) (Oc (op_conv_wrap undi22 undi79 rfl) ?_))
  refine OpsL.consI .u64 h rfl (op_or rfl rfl) (fun x_4 h => ?_)
  refine Oc oa (OpsL.nilS ⟨[(1, Pt 101 0), (4, .b (.one (.int .u64 x_4)))], [(101, .box 25 (eBig x0))]⟩ rfl (Tri.seq (Tri.block (Tri.seq (Tri.regionL ?_)))))
  refine Oc (op_field_p tyFld25_1 rfl rfl) (Oc (op_load_p1 tyOne4 rfl rfl rfl) (Oc om ?_))
  refine CgT x0.Neg [] (fun g6 => trivial) (fun g6 => om) (CgT x0.Neg [28] (fun g7 => by exact ⟨g7, trivial⟩) (fun g7 => op_leq rfl rfl) (Oc (op_pick_and (fun e => e) rfl rfl rfl rfl) (Oc oa ?_)))
  refine OpsL.nilS ⟨[(1, Pt 101 0), (4, .b (.one (.int .u64 x_4))), (24, B (x0.Neg && (decide (x_4 ≤ 9223372036854775808))))], [(101, .box 25 (eBig x0))]⟩ rfl (Tri.ite h rfl (fun _ h => ?_) (fun _ h => ?_))
  ·refine Tri.seq (Tri.regionL ?_)
   refine Oc om (Oc (op_neg rfl) ?_)
   refine OpsL.consI .i64 h rfl (op_conv_wrap undi79 undi3 rfl) (fun x_5 h => ?_)
   refine Oc oa (Oc oa ?_)
   refine OpsL.nilS ⟨[(2, I x_5), (3, B true)], []⟩ rfl (Tri.ret (Fin.block_ret (Fin.then_ret ?_)))
   obtain rfl := Option.some.inj h
   refine Fin.keepS ⟨[(2, I x_5), (3, B true)], []⟩ rfl (Fin.result' [.one (.i x_5), .one (.bool true)] (.inl rfl) rfl (.cons (.tmp rfl) (.cons (.tmp rfl) .nil)) ⟨rfl, rfl⟩)
  ·refine Tri.seq (Tri.regionL ?_)
   refine Oc (op_field_p tyFld25_1 rfl rfl) (Oc (op_load_p1 tyOne4 rfl rfl rfl) (Oc (op_not rfl) (Oc om ?_)))
   refine CgT (!x0.Neg) [] (fun g8 => trivial) (fun g8 => om) (CgT (!x0.Neg) [39] (fun g9 => by exact ⟨g9, trivial⟩) (fun g9 => op_lss rfl rfl) (Oc (op_pick_and (fun e => e) rfl rfl rfl rfl) (Oc oa ?_)))
   refine OpsL.nilS ⟨[(4, .b (.one (.int .u64 x_4))), (34, B ((!x0.Neg) && (decide (x_4 < 9223372036854775808))))], []⟩ rfl (Tri.ite h rfl (fun _ h => ?_) (fun _ h => ?_))
   ·refine Tri.seq (Tri.regionL ?_)
    refine Oc om (Oc (op_conv_wrap undi79 undi3 rfl) (Oc oa (Oc oa ?_)))
    refine OpsL.nilS ⟨[(2, I (IntKind.i64.wrap x_4)), (3, B true)], []⟩ rfl (Tri.ret (Fin.block_ret (Fin.then_ret ?_)))
    obtain rfl := Option.some.inj h
    refine Fin.keepS ⟨[(2, I (IntKind.i64.wrap x_4)), (3, B true)], []⟩ rfl (Fin.result' [.one (.i (IntKind.i64.wrap x_4)), .one (.bool true)] (.inl rfl) rfl (.cons (.tmp rfl) (.cons (.tmp rfl) .nil)) ⟨rfl, rfl⟩)
   ·refine Tri.skip (Fin.block_normal (Fin.keepS ⟨[], []⟩ rfl (Fin.then (Tri.seq (Tri.regionL ?_)))))
    refine Oc oa (Oc oa ?_)
    refine OpsL.nilS ⟨[(2, I 0), (3, B false)], []⟩ rfl (Tri.ret ?_)
    obtain rfl := Option.some.inj h
    refine Fin.keepS ⟨[(2, I 0), (3, B false)], []⟩ rfl (Fin.result' [.one (.i 0), .one (.bool false)] (.inl rfl) rfl (.cons (.tmp rfl) (.cons (.tmp rfl) .nil)) ⟨rfl, rfl⟩)
def w_plus_S (F : Nat) (a0 : A16) (b0 : A16) : Option (A16 × Bool) :=
 Option.bind (iter F (un3 fun out_3 carry_4 x_5 => if (decide (x_5 < 16)) = true then ((idx? a0.l x_5).bind fun x_8 => (idx? b0.l x_5).bind fun x_9 => letN (IntKind.u64.wrap (carry_4 + (IntKind.u64.wrap ((IntKind.u64.wrap x_8) + (IntKind.u64.wrap x_9))))) fun x_10 => (idx? out_3.l x_5).bind fun x_11 => letN (IntKind.u64.wrap (carry_4 + (IntKind.u64.wrap ((IntKind.u64.wrap x_8) + (IntKind.u64.wrap x_9))))) fun x_12 => some (.inl (out_3.set x_5 (IntKind.u32.wrap x_10), x_12 / 4294967296, IntKind.i64.wrap (x_5 + 1)))) else (some (.inr (out_3, carry_4)))) (A16.zero, 0, 0)) (un2 fun out_1 carry_2 => some (out_1, decide (carry_2 = 0)))
theorem w_plus_spec {F : Nat} {a0 : A16} {b0 : A16} {r : A16 × Bool} (h : w_plus_S F a0 b0 = some r) : Meets Tryz.prog (tabs mx) 128 [] [.agg (eW a0), .agg (eW b0)] (Is [] (.tup [.agg (eW r.1), .one (.bool r.2)])) := by
 unfold w_plus_S at h
 refine Meets.intro 33 Tryz.func128 Tryz.ntmps128 rfl (by simp) fun E => ?_
 show Tri _ E ⟨33, [], []⟩ _ ⟨[(0, .b (.agg (eW a0))), (1, .b (.agg (eW b0)))], []⟩ _
 refine Tri.seq (Tri.regionL ?_)
 refine Oc (op_box (k := 101) rfl rfl) (Oc (op_box (k := 102) rfl rfl) (Oc (op_alloc (k := 103) tyZero23 rfl) (Oc oa ?_)))
 refine OpsL.nilS ⟨[(2, Pt 101 0), (3, Pt 102 0), (4, Pt 103 0)], [(101, .box 23 (eW a0)), (102, .box 23 (eW b0)), (103, .box 23 (eW A16.zero))]⟩ rfl (Tri.seq (Tri.regionL ?_))
 refine Oc (op_alloc (k := 104) tyZero23 rfl) (OpsL.nilS ⟨[(2, Pt 101 0), (3, Pt 102 0), (4, Pt 103 0), (6, Pt 104 0)], [(101, .box 23 (eW a0)), (102, .box 23 (eW b0)), (103, .box 23 (eW A16.zero)), (104, .box 23 (eW A16.zero))]⟩ rfl (Tri.seq (Tri.regionL ?_)))
 refine Oc oa (OpsL.nilS ⟨[(2, Pt 101 0), (3, Pt 102 0), (4, Pt 103 0), (6, Pt 104 0), (7, .b (.one (.int .u64 0)))], [(101, .box 23 (eW a0)), (102, .box 23 (eW b0)), (103, .box 23 (eW A16.zero)), (104, .box 23 (eW A16.zero))]⟩ rfl ?_)
 obtain ⟨v1, h2, h⟩ := bnd h
 refine Tri.seqJ (v := v1) (un2 fun (out_1 : A16) (carry_2 : Int) => ⟨[(4, Pt 103 0), (6, Pt 104 0), (7, .b (.one (.int .u64 carry_2)))], [(103, .box 23 (eW A16.zero)), (104, .box 23 (eW out_1))]⟩) (fun z => z) ?_ ?_
 ·refine Tri.seq (Tri.regionL ?_)
  refine Oc om (OpsL.nilS ⟨[(2, Pt 101 0), (3, Pt 102 0), (4, Pt 103 0), (6, Pt 104 0), (7, .b (.one (.int .u64 0))), (9, I 0)], [(101, .box 23 (eW a0)), (102, .box 23 (eW b0)), (103, .box 23 (eW A16.zero)), (104, .box 23 (eW A16.zero))]⟩ rfl (Tri.block (Tri.loopJ h2 (un3 fun (out_3 : A16) (carry_4 : Int) (x_5 : Int) => ⟨[(2, Pt 101 0), (3, Pt 102 0), (4, Pt 103 0), (6, Pt 104 0), (7, .b (.one (.int .u64 carry_4))), (9, I x_5)], [(101, .box 23 (eW a0)), (102, .box 23 (eW b0)), (103, .box 23 (eW A16.zero)), (104, .box 23 (eW out_3))]⟩) [2, 3, 4, 6, 7, 9] [101, 102, 103, 104] rfl ?_)))
  rintro ⟨out_3, carry_4, x_5⟩ o3 h4 hy5
  refine Tri.seq (Tri.regionL ?_)
  refine Oc (op_lss rfl rfl) (OpsL.nilS ⟨[(2, Pt 101 0), (3, Pt 102 0), (4, Pt 103 0), (6, Pt 104 0), (7, .b (.one (.int .u64 carry_4))), (9, I x_5), (10, B (decide (x_5 < 16)))], [(101, .box 23 (eW a0)), (102, .box 23 (eW b0)), (103, .box 23 (eW A16.zero)), (104, .box 23 (eW out_3))]⟩ rfl (Tri.seq (Tri.ite h4 rfl (fun _ h4 => ?_) (fun _ h4 => ?_))))
  ·refine Tri.skip (Fin.keepS ⟨[(2, Pt 101 0), (3, Pt 102 0), (4, Pt 103 0), (6, Pt 104 0), (7, .b (.one (.int .u64 carry_4))), (9, I x_5)], [(101, .box 23 (eW a0)), (102, .box 23 (eW b0)), (103, .box 23 (eW A16.zero)), (104, .box 23 (eW out_3))]⟩ rfl (Fin.then (Tri.seq (Tri.block (Tri.seq (Tri.regionL ?_))))))
   refine Oc om (Oc oa ?_)
   refine OpsL.nilS ⟨[(2, Pt 101 0), (3, Pt 102 0), (4, Pt 103 0), (6, Pt 104 0), (7, .b (.one (.int .u64 carry_4))), (8, I x_5), (9, I x_5)], [(101, .box 23 (eW a0)), (102, .box 23 (eW b0)), (103, .box 23 (eW A16.zero)), (104, .box 23 (eW out_3))]⟩ rfl (Tri.seq ?_)
   obtain ⟨x_8, e6, h4⟩ := bnd h4
   obtain ⟨x_9, e7, h4⟩ := bnd h4
   refine Tri.regionY mixed 11 [.b (.one (.int .u64 carry_4)), I x_5, .b (.ptr 101 (0 + (x_5 : Int).toNat * 1)), .b (.one (.int .u32 x_8)), .b (.one (.int .u64 (IntKind.u64.wrap x_8))), I x_5, .b (.ptr 102 (0 + (x_5 : Int).toNat * 1)), .b (.one (.int .u32 x_9)), .b (.one (.int .u64 (IntKind.u64.wrap x_9))), .b (.one (.int .u64 (IntKind.u64.wrap ((IntKind.u64.wrap x_8) + (IntKind.u64.wrap x_9))))), .b (.one (.int .u64 (IntKind.u64.wrap (carry_4 + (IntKind.u64.wrap ((IntKind.u64.wrap x_8) + (IntKind.u64.wrap x_9)))))))] [2, 3, 4, 6, 7, 8, 9] [101, 102, 103, 104] (s' := ⟨[(2, Pt 101 0), (3, Pt 102 0), (4, Pt 103 0), (6, Pt 104 0), (7, .b (.one (.int .u64 (IntKind.u64.wrap (carry_4 + (IntKind.u64.wrap ((IntKind.u64.wrap x_8) + (IntKind.u64.wrap x_9)))))))), (8, I x_5), (9, I x_5)], [(101, .box 23 (eW a0)), (102, .box 23 (eW b0)), (103, .box 23 (eW A16.zero)), (104, .box 23 (eW out_3))]⟩) rfl ⟨fun _ => .p om, fun _ => .p om, fun _ => .p (op_index_p tyArr23 (ix_lo e6) (ix_hi e6) rfl rfl rfl), fun _ => .p (op_load_p1 tyOne22 rfl rfl (arr_get (post := []) (k := .u32) [] e6 rfl rfl rfl)), fun _ => .p (op_conv_wrap undi22 undi79 rfl), fun _ => .p om, fun _ => .p (op_index_p tyArr23 (ix_lo e7) (ix_hi e7) rfl rfl rfl), fun _ => .p (op_load_p1 tyOne22 rfl rfl (arr_get (post := []) (k := .u32) [] e7 rfl rfl rfl)), fun _ => .p (op_conv_wrap undi22 undi79 rfl), fun _ => .p (op_add rfl rfl), fun _ => .p (op_add rfl rfl), trivial⟩ ⟨_, by exact .p oa, rfl⟩ rfl (Tri.seq (Tri.regionL ?_))
   refine Oc om (OpsL.consI .u64 h4 rfl om (fun x_10 h4 => ?_))
   refine Oc (op_conv_wrap undi79 undi22 rfl) ?_
   obtain ⟨x_11, e8, h4⟩ := bnd h4
   refine Oc (op_index_p tyArr23 (ix_lo e8) (ix_hi e8) rfl rfl rfl) (Oc (op_store_p1 tyOne22 rfl rfl rfl (arr_lt (post := []) (k := .u32) [] e8 rfl rfl rfl) (arr_set (post := []) (k := .u32) [] e8 rfl rfl (A16.set_l out_3 x_5 (IntKind.u32.wrap x_10)) rfl rfl)) ?_)
   refine OpsL.nilS ⟨[(2, Pt 101 0), (3, Pt 102 0), (4, Pt 103 0), (6, Pt 104 0), (7, .b (.one (.int .u64 (IntKind.u64.wrap (carry_4 + (IntKind.u64.wrap ((IntKind.u64.wrap x_8) + (IntKind.u64.wrap x_9)))))))), (9, I x_5)], [(101, .box 23 (eW a0)), (102, .box 23 (eW b0)), (103, .box 23 (eW A16.zero)), (104, .box 23 (eW (out_3.set x_5 (IntKind.u32.wrap x_10))))]⟩ rfl (Tri.regionL (OpsL.consI .u64 h4 rfl om (fun x_12 h4 => ?_)))
   refine Oc (op_shr2 (m := 32) (by decide) rfl rfl rfl) (Oc oa ?_)
   refine OpsL.nil (Fin.block_normal (Fin.keepS ⟨[(2, Pt 101 0), (3, Pt 102 0), (4, Pt 103 0), (6, Pt 104 0), (7, .b (.one (.int .u64 (x_12 / 4294967296)))), (9, I x_5)], [(101, .box 23 (eW a0)), (102, .box 23 (eW b0)), (103, .box 23 (eW A16.zero)), (104, .box 23 (eW (out_3.set x_5 (IntKind.u32.wrap x_10))))]⟩ rfl (Fin.then (Tri.regionL ?_))))
   refine Oc (op_add rfl rfl) (Oc om ?_)
   refine OpsL.nil ?_
   exact Fin.againJ [2, 3, 4, 6, 7, 9] [101, 102, 103, 104] (out_3.set x_5 (IntKind.u32.wrap x_10), x_12 / 4294967296, IntKind.i64.wrap (x_5 + 1)) (Option.some.inj h4) rfl
  ·refine Tri.exit (Fin.then_exit ?_)
   obtain rfl := hy5 _ (Option.some.inj h4).symm
   refine Fin.then_exit (Fin.block_exit ?_)
   exact Fin.join [4, 6, 7] [103, 104] (out_3, carry_4) rfl rfl
 ·rintro ⟨out_1, carry_2⟩ hv
  subst v1
  refine Tri.seq (Tri.regionL ?_)
  refine Oc (lp tyAgg23) (Oc om (Oc (op_eql rfl rfl) (Oc (op_store_p tyAgg23 rfl rfl rfl rfl (Nat.le_of_ble_eq_true rfl) rfl) (Oc oa ?_))))
  refine OpsL.nilS ⟨[(4, Pt 103 0), (5, B (decide (carry_2 = 0)))], [(103, .box 23 (eW out_1))]⟩ rfl (Tri.ret ?_)
  obtain rfl := Option.some.inj h
  refine Fin.keepS ⟨[(4, Pt 103 0), (5, B (decide (carry_2 = 0)))], [(103, .box 23 (eW out_1))]⟩ rfl (Fin.result' [.agg (eW out_1), .one (.bool (decide (carry_2 = 0)))] (.inl rfl) rfl (.cons (.agg tyAgg23 rfl rfl rfl rfl) (.cons (.tmp rfl) .nil)) ⟨rfl, rfl⟩)
def w_minus_S (F : Nat) (a0 : A16) (b0 : A16) : Option A16 :=
 Option.bind (iter F (un3 fun out_2 borrow_3 x_4 => if (decide (x_4 < 16)) = true then ((idx? a0.l x_4).bind fun x_6 => (idx? b0.l x_4).bind fun x_7 => letN (IntKind.u64.wrap ((IntKind.u64.wrap ((IntKind.u64.wrap x_6) - (IntKind.u64.wrap x_7))) - borrow_3)) fun x_8 => (idx? out_2.l x_4).bind fun x_9 => letN (IntKind.u64.wrap ((IntKind.u64.wrap ((IntKind.u64.wrap x_6) - (IntKind.u64.wrap x_7))) - borrow_3)) fun x_10 => some (.inl (out_2.set x_4 (IntKind.u32.wrap x_8), x_10 / 9223372036854775808, IntKind.i64.wrap (x_4 + 1)))) else (some (.inr out_2))) (A16.zero, 0, 0)) (fun out_1 => some out_1)
theorem w_minus_spec {F : Nat} {a0 : A16} {b0 : A16} {r : A16} (h : w_minus_S F a0 b0 = some r) : Meets Tryz.prog (tabs mx) 129 [] [.agg (eW a0), .agg (eW b0)] (Is [] (.b (.agg (eW r)))) := by
 unfold w_minus_S at h
 refine Meets.intro 31 Tryz.func129 Tryz.ntmps129 rfl (by simp) fun E => ?_
 show Tri _ E ⟨31, [], []⟩ _ ⟨[(0, .b (.agg (eW a0))), (1, .b (.agg (eW b0)))], []⟩ _
 refine Tri.seq (Tri.regionL ?_)
 refine Oc (op_box (k := 101) rfl rfl) (Oc (op_box (k := 102) rfl rfl) (Oc (op_alloc (k := 103) tyZero23 rfl) ?_))
 refine OpsL.nilS ⟨[(2, Pt 101 0), (3, Pt 102 0), (4, Pt 103 0)], [(101, .box 23 (eW a0)), (102, .box 23 (eW b0)), (103, .box 23 (eW A16.zero))]⟩ rfl (Tri.seq (Tri.regionL ?_))
 refine Oc (op_alloc (k := 104) tyZero23 rfl) (OpsL.nilS ⟨[(2, Pt 101 0), (3, Pt 102 0), (4, Pt 103 0), (5, Pt 104 0)], [(101, .box 23 (eW a0)), (102, .box 23 (eW b0)), (103, .box 23 (eW A16.zero)), (104, .box 23 (eW A16.zero))]⟩ rfl (Tri.seq (Tri.regionL ?_)))
 refine Oc oa (OpsL.nilS ⟨[(2, Pt 101 0), (3, Pt 102 0), (4, Pt 103 0), (5, Pt 104 0), (6, .b (.one (.int .u64 0)))], [(101, .box 23 (eW a0)), (102, .box 23 (eW b0)), (103, .box 23 (eW A16.zero)), (104, .box 23 (eW A16.zero))]⟩ rfl ?_)
 obtain ⟨v1, h2, h⟩ := bnd h
 refine Tri.seqJ (v := v1) (fun (out_1 : A16) => ⟨[(4, Pt 103 0), (5, Pt 104 0)], [(103, .box 23 (eW A16.zero)), (104, .box 23 (eW out_1))]⟩) (fun z => z) ?_ ?_
 ·refine Tri.seq (Tri.regionL ?_)
  refine Oc om (OpsL.nilS ⟨[(2, Pt 101 0), (3, Pt 102 0), (4, Pt 103 0), (5, Pt 104 0), (6, .b (.one (.int .u64 0))), (9, I 0)], [(101, .box 23 (eW a0)), (102, .box 23 (eW b0)), (103, .box 23 (eW A16.zero)), (104, .box 23 (eW A16.zero))]⟩ rfl (Tri.block (Tri.loopJ h2 (un3 fun (out_2 : A16) (borrow_3 : Int) (x_4 : Int) => ⟨[(2, Pt 101 0), (3, Pt 102 0), (4, Pt 103 0), (5, Pt 104 0), (6, .b (.one (.int .u64 borrow_3))), (9, I x_4)], [(101, .box 23 (eW a0)), (102, .box 23 (eW b0)), (103, .box 23 (eW A16.zero)), (104, .box 23 (eW out_2))]⟩) [2, 3, 4, 5, 6, 9] [101, 102, 103, 104] rfl ?_)))
  rintro ⟨out_2, borrow_3, x_4⟩ o3 h4 hy5
  refine Tri.seq (Tri.regionL ?_)
  refine Oc (op_lss rfl rfl) (OpsL.nilS ⟨[(2, Pt 101 0), (3, Pt 102 0), (4, Pt 103 0), (5, Pt 104 0), (6, .b (.one (.int .u64 borrow_3))), (9, I x_4), (10, B (decide (x_4 < 16)))], [(101, .box 23 (eW a0)), (102, .box 23 (eW b0)), (103, .box 23 (eW A16.zero)), (104, .box 23 (eW out_2))]⟩ rfl (Tri.seq (Tri.ite h4 rfl (fun _ h4 => ?_) (fun _ h4 => ?_))))
  ·refine Tri.skip (Fin.keepS ⟨[(2, Pt 101 0), (3, Pt 102 0), (4, Pt 103 0), (5, Pt 104 0), (6, .b (.one (.int .u64 borrow_3))), (9, I x_4)], [(101, .box 23 (eW a0)), (102, .box 23 (eW b0)), (103, .box 23 (eW A16.zero)), (104, .box 23 (eW out_2))]⟩ rfl (Fin.then (Tri.seq (Tri.block (Tri.seq (Tri.regionL ?_))))))
   refine Oc om (Oc oa ?_)
   refine OpsL.nilS ⟨[(2, Pt 101 0), (3, Pt 102 0), (4, Pt 103 0), (5, Pt 104 0), (6, .b (.one (.int .u64 borrow_3))), (7, I x_4), (9, I x_4)], [(101, .box 23 (eW a0)), (102, .box 23 (eW b0)), (103, .box 23 (eW A16.zero)), (104, .box 23 (eW out_2))]⟩ rfl (Tri.seq ?_)
   obtain ⟨x_6, e6, h4⟩ := bnd h4
   obtain ⟨x_7, e7, h4⟩ := bnd h4
   refine Tri.regionY mixed 12 [I x_4, .b (.ptr 101 (0 + (x_4 : Int).toNat * 1)), .b (.one (.int .u32 x_6)), .b (.one (.int .u64 (IntKind.u64.wrap x_6))), I x_4, .b (.ptr 102 (0 + (x_4 : Int).toNat * 1)), .b (.one (.int .u32 x_7)), .b (.one (.int .u64 (IntKind.u64.wrap x_7))), .b (.one (.int .u64 (IntKind.u64.wrap ((IntKind.u64.wrap x_6) - (IntKind.u64.wrap x_7))))), .b (.one (.int .u64 borrow_3)), .b (.one (.int .u64 (IntKind.u64.wrap ((IntKind.u64.wrap ((IntKind.u64.wrap x_6) - (IntKind.u64.wrap x_7))) - borrow_3)))), .b (.one (.int .u64 (IntKind.u64.wrap ((IntKind.u64.wrap ((IntKind.u64.wrap x_6) - (IntKind.u64.wrap x_7))) - borrow_3))))] [2, 3, 4, 5, 7, 8, 9] [101, 102, 103, 104] (s' := ⟨[(2, Pt 101 0), (3, Pt 102 0), (4, Pt 103 0), (5, Pt 104 0), (7, I x_4), (8, .b (.one (.int .u64 (IntKind.u64.wrap ((IntKind.u64.wrap ((IntKind.u64.wrap x_6) - (IntKind.u64.wrap x_7))) - borrow_3))))), (9, I x_4)], [(101, .box 23 (eW a0)), (102, .box 23 (eW b0)), (103, .box 23 (eW A16.zero)), (104, .box 23 (eW out_2))]⟩) rfl ⟨fun _ => .p om, fun _ => .p (op_index_p tyArr23 (ix_lo e6) (ix_hi e6) rfl rfl rfl), fun _ => .p (op_load_p1 tyOne22 rfl rfl (arr_get (post := []) (k := .u32) [] e6 rfl rfl rfl)), fun _ => .p (op_conv_wrap undi22 undi79 rfl), fun _ => .p om, fun _ => .p (op_index_p tyArr23 (ix_lo e7) (ix_hi e7) rfl rfl rfl), fun _ => .p (op_load_p1 tyOne22 rfl rfl (arr_get (post := []) (k := .u32) [] e7 rfl rfl rfl)), fun _ => .p (op_conv_wrap undi22 undi79 rfl), fun _ => .p (op_sub rfl rfl), fun _ => .p om, fun _ => .p (op_sub rfl rfl), fun _ => .p oa, trivial⟩ rfl rfl (Tri.seq (Tri.regionL ?_))
   refine Oc om (OpsL.consI .u64 h4 rfl om (fun x_8 h4 => ?_))
   refine Oc (op_conv_wrap undi79 undi22 rfl) ?_
   obtain ⟨x_9, e8, h4⟩ := bnd h4
   refine Oc (op_index_p tyArr23 (ix_lo e8) (ix_hi e8) rfl rfl rfl) (Oc (op_store_p1 tyOne22 rfl rfl rfl (arr_lt (post := []) (k := .u32) [] e8 rfl rfl rfl) (arr_set (post := []) (k := .u32) [] e8 rfl rfl (A16.set_l out_2 x_4 (IntKind.u32.wrap x_8)) rfl rfl)) ?_)
   refine OpsL.nilS ⟨[(2, Pt 101 0), (3, Pt 102 0), (4, Pt 103 0), (5, Pt 104 0), (8, .b (.one (.int .u64 (IntKind.u64.wrap ((IntKind.u64.wrap ((IntKind.u64.wrap x_6) - (IntKind.u64.wrap x_7))) - borrow_3))))), (9, I x_4)], [(101, .box 23 (eW a0)), (102, .box 23 (eW b0)), (103, .box 23 (eW A16.zero)), (104, .box 23 (eW (out_2.set x_4 (IntKind.u32.wrap x_8))))]⟩ rfl (Tri.regionL (OpsL.consI .u64 h4 rfl om (fun x_10 h4 => ?_)))
   refine Oc (op_shr2 (m := 63) (by decide) rfl rfl rfl) (Oc oa ?_)
   refine OpsL.nil (Fin.block_normal (Fin.keepS ⟨[(2, Pt 101 0), (3, Pt 102 0), (4, Pt 103 0), (5, Pt 104 0), (6, .b (.one (.int .u64 (x_10 / 9223372036854775808)))), (9, I x_4)], [(101, .box 23 (eW a0)), (102, .box 23 (eW b0)), (103, .box 23 (eW A16.zero)), (104, .box 23 (eW (out_2.set x_4 (IntKind.u32.wrap x_8))))]⟩ rfl (Fin.then (Tri.regionL ?_))))
   refine Oc (op_add rfl rfl) (Oc om ?_)
   refine OpsL.nil ?_
   exact Fin.againJ [2, 3, 4, 5, 6, 9] [101, 102, 103, 104] (out_2.set x_4 (IntKind.u32.wrap x_8), x_10 / 9223372036854775808, IntKind.i64.wrap (x_4 + 1)) (Option.some.inj h4) rfl
  ·refine Tri.exit (Fin.then_exit ?_)
   obtain rfl := hy5 _ (Option.some.inj h4).symm
   refine Fin.then_exit (Fin.block_exit ?_)
   exact Fin.join [4, 5] [103, 104] out_2 rfl rfl
 ·rintro out_1 hv
  subst v1
  refine Tri.seq (Tri.regionL ?_)
  refine Oc (lp tyAgg23) (Oc (op_store_p tyAgg23 rfl rfl rfl rfl (Nat.le_of_ble_eq_true rfl) rfl) ?_)
  refine OpsL.nilS ⟨[(4, Pt 103 0)], [(103, .box 23 (eW out_1))]⟩ rfl (Tri.ret ?_)
  obtain rfl := Option.some.inj h
  refine Fin.keepS ⟨[(4, Pt 103 0)], [(103, .box 23 (eW out_1))]⟩ rfl (Fin.result' [.agg (eW out_1)] (.inl rfl) rfl (.cons (.agg tyAgg23 rfl rfl rfl rfl) .nil) ⟨rfl, rfl⟩)
def w_Add_S (F : Nat) (a0 : Big) (b0 : Big) : Option Big :=
 (w_good_S F [a0, b0]).bind fun x_1 => if (!x_1) = true then ((w_Bad_S F).bind fun x_2 => some x_2) else (if (a0.Neg == b0.Neg) = true then (Option.bind (w_plus_S F a0.W b0.W) (un2 fun x_3 x_4 => if (!x_4) = true then ((w_Bad_S F).bind fun x_5 => some x_5) else ((w_signed_S F a0.Neg x_3).bind fun x_6 => some x_6))) else ((w_order_S F a0.W b0.W).bind fun x_7 => if (decide (0 ≤ x_7)) = true then ((w_minus_S F a0.W b0.W).bind fun x_8 => (w_signed_S F a0.Neg x_8).bind fun x_9 => some x_9) else ((w_minus_S F b0.W a0.W).bind fun x_10 => (w_signed_S F b0.Neg x_10).bind fun x_11 => some x_11)))
theorem w_Add_spec {F : Nat} {a0 : Big} {b0 : Big} {r : Big} (h : w_Add_S F a0 b0 = some r) : Meets Tryz.prog (tabs mx) 97 [] [.agg (eBig a0), .agg (eBig b0)] (Is [] (.b (.agg (eBig r)))) := by
 unfold w_Add_S at h
 refine Meets.intro 55 Tryz.func97 Tryz.ntmps97 rfl (by simp) fun E => ?_
 show Tri _ E ⟨55, [], []⟩ _ ⟨[(0, .b (.agg (eBig a0))), (1, .b (.agg (eBig b0)))], []⟩ _
 refine Tri.seq (Tri.regionL ?_)
 refine Oc (op_box (k := 101) rfl rfl) (Oc (op_box (k := 102) rfl rfl) (Oc (op_alloc (k := 103) tyZero25 rfl) ?_))
 refine OpsL.nilS ⟨[(2, Pt 101 0), (3, Pt 102 0), (4, Pt 103 0)], [(101, .box 25 (eBig a0)), (102, .box 25 (eBig b0)), (103, .box 25 zBig)]⟩ rfl (Tri.seq (Tri.seq (Tri.regionL ?_)))
 refine Oc (lp tyAgg25) (Oc (lp tyAgg25) (Oc (op_buildSlice (k := 104) (es := [a0, b0].map eBig) tySl117 rfl rfl (uni_map fun _ => rfl) rfl (by decide) (by decide) rfl) ?_))
 obtain ⟨x_1, e1, h⟩ := bnd h
 refine Oc (op_callB (w_good_spec e1) goes113 rfl CP.flat_bool) (Oc (op_not rfl) ?_)
 refine OpsL.nilS ⟨[(2, Pt 101 0), (3, Pt 102 0), (4, Pt 103 0), (11, B (!x_1))], [(101, .box 25 (eBig a0)), (102, .box 25 (eBig b0)), (103, .box 25 zBig)]⟩ rfl (Tri.ite h rfl (fun _ h => ?_) (fun _ h => ?_))
 ·refine Tri.seq (Tri.regionL ?_)
  obtain ⟨x_2, e2, h⟩ := bnd h
  refine Oc (op_call0 (w_Bad_spec e2) goes92 rfl rfl) (Oc (op_store_p tyAgg25 rfl rfl rfl rfl (Nat.le_of_ble_eq_true rfl) rfl) ?_)
  refine OpsL.nilS ⟨[(4, Pt 103 0)], [(103, .box 25 (eBig x_2))]⟩ rfl (Tri.ret (Fin.then_ret ?_))
  obtain rfl := Option.some.inj h
  refine Fin.keepS ⟨[(4, Pt 103 0)], [(103, .box 25 (eBig x_2))]⟩ rfl (Fin.result' [.agg (eBig x_2)] (.inl rfl) rfl (.cons (.agg tyAgg25 rfl rfl rfl rfl) .nil) ⟨rfl, rfl⟩)
 ·refine Tri.skip (Fin.keepS ⟨[(2, Pt 101 0), (3, Pt 102 0), (4, Pt 103 0)], [(101, .box 25 (eBig a0)), (102, .box 25 (eBig b0)), (103, .box 25 zBig)]⟩ rfl (Fin.then (Tri.seq (Tri.seq (Tri.regionL ?_)))))
  refine Oc (op_field_p tyFld25_1 rfl rfl) (Oc (op_load_p1 tyOne4 rfl rfl rfl) (Oc (op_field_p tyFld25_1 rfl rfl) (Oc (op_load_p1 tyOne4 rfl rfl rfl) (Oc (op_eql_bool und4 rfl rfl) ?_))))
  refine OpsL.nilS ⟨[(2, Pt 101 0), (3, Pt 102 0), (4, Pt 103 0), (17, B (a0.Neg == b0.Neg))], [(101, .box 25 (eBig a0)), (102, .box 25 (eBig b0)), (103, .box 25 zBig)]⟩ rfl (Tri.ite h rfl (fun _ h => ?_) (fun _ h => ?_))
  ·refine Tri.seq (Tri.regionL ?_)
   refine Oc (op_field_p tyFld25_2 rfl rfl) (Oc (lp tyAgg23) (Oc (op_field_p tyFld25_2 rfl rfl) (Oc (lp tyAgg23) ?_)))
   obtain ⟨⟨x_3, x_4⟩, e3, h⟩ := bnd h
   refine Oc (op_call0 (w_plus_spec e3) goes128 rfl rfl) (OpsL.keepS ⟨[(2, Pt 101 0), (4, Pt 103 0), (23, .tup [.agg (eW x_3), .one (.bool x_4)])], [(101, .box 25 (eBig a0)), (103, .box 25 zBig)]⟩ rfl (Oc om (Oc (op_extract rfl rfl) (Oc (op_extract rfl rfl) (Oc (op_alloc (k := 105) tyZero23 rfl) (Oc (op_store_p tyAgg23 rfl rfl rfl rfl (Nat.le_of_ble_eq_true rfl) rfl) (Oc oa ?_)))))))
   refine OpsL.nilS ⟨[(2, Pt 101 0), (4, Pt 103 0), (5, Pt 105 0), (6, B x_4)], [(101, .box 25 (eBig a0)), (103, .box 25 zBig), (105, .box 23 (eW x_3))]⟩ rfl (Tri.seq (Tri.seq (Tri.regionL ?_)))
   refine Oc om (Oc (op_not rfl) ?_)
   refine OpsL.nilS ⟨[(2, Pt 101 0), (4, Pt 103 0), (5, Pt 105 0), (27, B (!x_4))], [(101, .box 25 (eBig a0)), (103, .box 25 zBig), (105, .box 23 (eW x_3))]⟩ rfl (Tri.ite h rfl (fun _ h => ?_) (fun _ h => ?_))
   ·refine Tri.seq (Tri.regionL ?_)
    obtain ⟨x_5, e4, h⟩ := bnd h
    refine Oc (op_call0 (w_Bad_spec e4) goes92 rfl rfl) (Oc (op_store_p tyAgg25 rfl rfl rfl rfl (Nat.le_of_ble_eq_true rfl) rfl) ?_)
    refine OpsL.nilS ⟨[(4, Pt 103 0)], [(103, .box 25 (eBig x_5))]⟩ rfl (Tri.ret (Fin.then_ret (Fin.then_ret ?_)))
    obtain rfl := Option.some.inj h
    refine Fin.keepS ⟨[(4, Pt 103 0)], [(103, .box 25 (eBig x_5))]⟩ rfl (Fin.result' [.agg (eBig x_5)] (.inl rfl) rfl (.cons (.agg tyAgg25 rfl rfl rfl rfl) .nil) ⟨rfl, rfl⟩)
   ·refine Tri.skip (Fin.keepS ⟨[(2, Pt 101 0), (4, Pt 103 0), (5, Pt 105 0)], [(101, .box 25 (eBig a0)), (103, .box 25 zBig), (105, .box 23 (eW x_3))]⟩ rfl (Fin.then (Tri.seq (Tri.regionL ?_))))
    refine Oc (op_field_p tyFld25_1 rfl rfl) (Oc (op_load_p1 tyOne4 rfl rfl rfl) (Oc (lp tyAgg23) ?_))
    obtain ⟨x_6, e5, h⟩ := bnd h
    refine Oc (op_call0 (w_signed_spec e5) goes115 rfl rfl) (Oc (op_store_p tyAgg25 rfl rfl rfl rfl (Nat.le_of_ble_eq_true rfl) rfl) ?_)
    refine OpsL.nilS ⟨[(4, Pt 103 0)], [(103, .box 25 (eBig x_6))]⟩ rfl (Tri.ret (Fin.then_ret ?_))
    obtain rfl := Option.some.inj h
    refine Fin.keepS ⟨[(4, Pt 103 0)], [(103, .box 25 (eBig x_6))]⟩ rfl (Fin.result' [.agg (eBig x_6)] (.inl rfl) rfl (.cons (.agg tyAgg25 rfl rfl rfl rfl) .nil) ⟨rfl, rfl⟩)
  ·refine Tri.skip (Fin.keepS ⟨[(2, Pt 101 0), (3, Pt 102 0), (4, Pt 103 0)], [(101, .box 25 (eBig a0)), (102, .box 25 (eBig b0)), (103, .box 25 zBig)]⟩ rfl (Fin.then (Tri.seq (Tri.seq (Tri.regionL ?_)))))
   refine Oc (op_field_p tyFld25_2 rfl rfl) (Oc (lp tyAgg23) (Oc (op_field_p tyFld25_2 rfl rfl) (Oc (lp tyAgg23) ?_)))
   obtain ⟨x_7, e6, h⟩ := bnd h
   refine Oc (op_call0 (w_order_spec e6) goes127 rfl rfl) (Oc (op_geq rfl rfl) ?_)
   refine OpsL.nilS ⟨[(2, Pt 101 0), (3, Pt 102 0), (4, Pt 103 0), (38, B (decide (0 ≤ x_7)))], [(101, .box 25 (eBig a0)), (102, .box 25 (eBig b0)), (103, .box 25 zBig)]⟩ rfl (Tri.ite h rfl (fun _ h => ?_) (fun _ h => ?_))
   ·refine Tri.seq (Tri.keepS ⟨[(2, Pt 101 0), (3, Pt 102 0), (4, Pt 103 0)], [(101, .box 25 (eBig a0)), (102, .box 25 (eBig b0)), (103, .box 25 zBig)]⟩ rfl ?_)
    obtain ⟨x_8, e7, h⟩ := bnd h
    obtain ⟨x_9, e8, h⟩ := bnd h
    refine Tri.regionY mixed 8 [Pt 101 1, B a0.Neg, Pt 101 2, .b (.agg (eW a0.W)), Pt 102 2, .b (.agg (eW b0.W)), .b (.agg (eW x_8)), .b (.agg (eBig x_9))] [4] [103] (s' := ⟨[(4, Pt 103 0)], [(103, .box 25 (eBig x_9))]⟩) rfl ⟨fun _ => .p (op_field_p tyFld25_1 rfl rfl), fun _ => .p (op_load_p1 tyOne4 rfl rfl rfl), fun _ => .p (op_field_p tyFld25_2 rfl rfl), fun _ => .p (lp tyAgg23), fun _ => .p (op_field_p tyFld25_2 rfl rfl), fun _ => .p (lp tyAgg23), fun _ => .p (op_call0 (w_minus_spec e7) goes129 rfl rfl), fun _ => .p (op_call0 (w_signed_spec e8) goes115 rfl rfl), trivial⟩ ⟨_, by exact .p (op_store_p tyAgg25 rfl rfl rfl rfl (Nat.le_of_ble_eq_true rfl) rfl), rfl⟩ rfl (Tri.ret (Fin.then_ret ?_))
    obtain rfl := Option.some.inj h
    refine Fin.keepS ⟨[(4, Pt 103 0)], [(103, .box 25 (eBig x_9))]⟩ rfl (Fin.result' [.agg (eBig x_9)] (.inl rfl) rfl (.cons (.agg tyAgg25 rfl rfl rfl rfl) .nil) ⟨rfl, rfl⟩)
   ·refine Tri.skip (Fin.keepS ⟨[(2, Pt 101 0), (3, Pt 102 0), (4, Pt 103 0)], [(101, .box 25 (eBig a0)), (102, .box 25 (eBig b0)), (103, .box 25 zBig)]⟩ rfl (Fin.then (Tri.seq ?_)))
    refine Tri.keepS ⟨[(2, Pt 101 0), (3, Pt 102 0), (4, Pt 103 0)], [(101, .box 25 (eBig a0)), (102, .box 25 (eBig b0)), (103, .box 25 zBig)]⟩ rfl ?_
    obtain ⟨x_10, e9, h⟩ := bnd h
    obtain ⟨x_11, e10, h⟩ := bnd h
    refine Tri.regionY mixed 8 [Pt 102 1, B b0.Neg, Pt 102 2, .b (.agg (eW b0.W)), Pt 101 2, .b (.agg (eW a0.W)), .b (.agg (eW x_10)), .b (.agg (eBig x_11))] [4] [103] (s' := ⟨[(4, Pt 103 0)], [(103, .box 25 (eBig x_11))]⟩) rfl ⟨fun _ => .p (op_field_p tyFld25_1 rfl rfl), fun _ => .p (op_load_p1 tyOne4 rfl rfl rfl), fun _ => .p (op_field_p tyFld25_2 rfl rfl), fun _ => .p (lp tyAgg23), fun _ => .p (op_field_p tyFld25_2 rfl rfl), fun _ => .p (lp tyAgg23), fun _ => .p (op_call0 (w_minus_spec e9) goes129 rfl rfl), fun _ => .p (op_call0 (w_signed_spec e10) goes115 rfl rfl), trivial⟩ ⟨_, by exact .p (op_store_p tyAgg25 rfl rfl rfl rfl (Nat.le_of_ble_eq_true rfl) rfl), rfl⟩ rfl (Tri.ret ?_)
    obtain rfl := Option.some.inj h
    refine Fin.keepS ⟨[(4, Pt 103 0)], [(103, .box 25 (eBig x_11))]⟩ rfl (Fin.result' [.agg (eBig x_11)] (.inl rfl) rfl (.cons (.agg tyAgg25 rfl rfl rfl rfl) .nil) ⟨rfl, rfl⟩)
def w_Sub_S (F : Nat) (a0 : Big) (b0 : Big) : Option Big :=
 (w_Neg_S F b0).bind fun x_1 => (w_Add_S F a0 x_1).bind fun x_2 => some x_2
theorem w_Sub_spec {F : Nat} {a0 : Big} {b0 : Big} {r : Big} (h : w_Sub_S F a0 b0 = some r) : Meets Tryz.prog (tabs mx) 96 [] [.agg (eBig a0), .agg (eBig b0)] (Is [] (.b (.agg (eBig r)))) := by
 unfold w_Sub_S at h
 refine Meets.intro 9 Tryz.func96 Tryz.ntmps96 rfl (by simp) fun E => ?_
 show Tri _ E ⟨9, [], []⟩ _ ⟨[(0, .b (.agg (eBig a0))), (1, .b (.agg (eBig b0)))], []⟩ _
 refine Tri.seq (Tri.regionL ?_)
 refine Oc (op_box (k := 101) rfl rfl) (Oc (op_box (k := 102) rfl rfl) (Oc (op_alloc (k := 103) tyZero25 rfl) ?_))
 refine OpsL.nilS ⟨[(2, Pt 101 0), (3, Pt 102 0), (4, Pt 103 0)], [(101, .box 25 (eBig a0)), (102, .box 25 (eBig b0)), (103, .box 25 zBig)]⟩ rfl (Tri.seq ?_)
 obtain ⟨x_1, e1, h⟩ := bnd h
 obtain ⟨x_2, e2, h⟩ := bnd h
 refine Tri.regionY mixed 4 [.b (.agg (eBig a0)), .b (.agg (eBig b0)), .b (.agg (eBig x_1)), .b (.agg (eBig x_2))] [4] [103] (s' := ⟨[(4, Pt 103 0)], [(103, .box 25 (eBig x_2))]⟩) rfl ⟨fun _ => .p (lp tyAgg25), fun _ => .p (lp tyAgg25), fun _ => .p (op_call0 (w_Neg_spec e1) goes74 rfl rfl), fun _ => .p (op_call0 (w_Add_spec e2) goes97 rfl rfl), trivial⟩ ⟨_, by exact .p (op_store_p tyAgg25 rfl rfl rfl rfl (Nat.le_of_ble_eq_true rfl) rfl), rfl⟩ rfl (Tri.ret ?_)
 obtain rfl := Option.some.inj h
 refine Fin.keepS ⟨[(4, Pt 103 0)], [(103, .box 25 (eBig x_2))]⟩ rfl (Fin.result' [.agg (eBig x_2)] (.inl rfl) rfl (.cons (.agg tyAgg25 rfl rfl rfl rfl) .nil) ⟨rfl, rfl⟩)
def w_divided_S (F : Nat) (a0 : Big) (b0 : Big) : Option (Big × Big) :=
 (w_good_S F [a0, b0]).bind fun x_1 => (gcall (!(!x_1)) (w_Sign_S F b0)).bind fun x_2 => if ((!x_1) || (decide (x_2 = 0))) = true then ((w_Bad_S F).bind fun x_3 => (w_Bad_S F).bind fun x_4 => some (x_3, x_4)) else (Option.bind (Option.bind (w_Small_S F a0) (un2 fun x_5 x_6 => if (x_6 && (decide (x_5 ≠ (-9223372036854775808)))) = true then (Option.bind (w_Small_S F b0) (un2 fun x_7 x_8 => if (x_8 && (decide (x_7 ≠ (-9223372036854775808)))) = true then ((quo? .i64 x_5 x_7).bind fun x_9 => (rem? x_5 x_7).bind fun x_10 => Option.bind (letN ((decide (x_10 ≠ 0)) && ((decide (x_10 < 0)) != (decide (x_7 < 0)))) fun x_13 => if x_13 = true then (some (IntKind.i64.wrap (x_9 - 1), IntKind.i64.wrap (x_10 + x_7))) else (some (x_9, x_10))) (un2 fun q_11 r_12 => (w_Of_S F q_11).bind fun x_14 => (w_Of_S F r_12).bind fun x_15 => some (.inr (x_14, x_15)))) else (some (.inl ())))) else (some (.inl ())))) (alt2 (fun _ => Option.bind (w_quotient_S F a0.W b0.W) (un2 fun x_16 x_17 => (w_signed_S F (a0.Neg != b0.Neg) x_16).bind fun x_18 => Option.bind (if ((decide (x_17 ≠ A16.zero)) && (a0.Neg != b0.Neg)) = true then ((w_Of_S F 1).bind fun x_21 => (w_Sub_S F x_18 x_21).bind fun x_22 => (w_minus_S F b0.W x_17).bind fun x_23 => some (x_23, x_22)) else (some (x_17, x_18))) (un2 fun r_19 q_20 => (w_signed_S F b0.Neg r_19).bind fun x_24 => some (q_20, x_24)))) (fun y => some y)))
theorem w_divided_spec {F : Nat} {a0 : Big} {b0 : Big} {r : Big × Big} (h : w_divided_S F a0 b0 = some r) : Meets Tryz.prog (tabs mx) 118 [] [.agg (eBig a0), .agg (eBig b0)] (Is [] (.tup [.agg (eBig r.1), .agg (eBig r.2)])) := by
 unfold w_divided_S at h
 refine Meets.intro 108 Tryz.func118 Tryz.ntmps118 rfl (by simp) fun E => ?_
 show Tri _ E ⟨108, [], []⟩ _ ⟨[(0, .b (.agg (eBig a0))), (1, .b (.agg (eBig b0)))], []⟩ _
 refine Tri.seq (Tri.regionL ?_)
 refine Oc (op_box (k := 101) rfl rfl) (Oc (op_box (k := 102) rfl rfl) (Oc (op_alloc (k := 103) tyZero25 rfl) (Oc (op_alloc (k := 104) tyZero25 rfl) ?_)))
 refine OpsL.nilS ⟨[(2, Pt 101 0), (3, Pt 102 0), (4, Pt 103 0), (5, Pt 104 0)], [(101, .box 25 (eBig a0)), (102, .box 25 (eBig b0)), (103, .box 25 zBig), (104, .box 25 zBig)]⟩ rfl (Tri.seq (Tri.seq (Tri.regionL ?_)))
 refine Oc (lp tyAgg25) (Oc (lp tyAgg25) (Oc (op_buildSlice (k := 105) (es := [a0, b0].map eBig) tySl117 rfl rfl (uni_map fun _ => rfl) rfl (by decide) (by decide) rfl) ?_))
 obtain ⟨x_1, e1, h⟩ := bnd h
 refine Oc (op_callB (w_good_spec e1) goes113 rfl CP.flat_bool) (OpsL.keepS ⟨[(2, Pt 101 0), (3, Pt 102 0), (4, Pt 103 0), (5, Pt 104 0), (18, B x_1)], [(101, .box 25 (eBig a0)), (102, .box 25 (eBig b0)), (103, .box 25 zBig), (104, .box 25 zBig)]⟩ rfl (Oc (op_not rfl) (Oc om ?_)))
 refine CgF (!(!x_1)) [] (fun g2 => trivial) (fun g2 => lp tyAgg25) ?_
 obtain ⟨x_2, e4, h⟩ := bnd h
 refine CgF (!(!x_1)) [21] (fun g3 => ⟨g3, trivial⟩) (fun g3 => op_call0 (w_Sign_spec (gc e4 g3)) goes72 rfl rfl) (CgF (!(!x_1)) [22] (fun g5 => ⟨g5, trivial⟩) (fun g5 => op_eql rfl rfl) (Oc (op_pick_or (fun e => by rw [e]; rfl) rfl rfl rfl rfl) (OpsL.nilS ⟨[(2, Pt 101 0), (3, Pt 102 0), (4, Pt 103 0), (5, Pt 104 0), (24, B ((!x_1) || (decide (x_2 = 0))))], [(101, .box 25 (eBig a0)), (102, .box 25 (eBig b0)), (103, .box 25 zBig), (104, .box 25 zBig)]⟩ rfl (Tri.ite h rfl (fun _ h => ?_) (fun _ h => ?_)))))
 ·refine Tri.seq (Tri.regionL ?_)
  obtain ⟨x_3, e6, h⟩ := bnd h
  refine Oc (op_call0 (w_Bad_spec e6) goes92 rfl rfl) ?_
  obtain ⟨x_4, e7, h⟩ := bnd h
  refine Oc (op_call0 (w_Bad_spec e7) goes92 rfl rfl) (Oc (op_store_p tyAgg25 rfl rfl rfl rfl (Nat.le_of_ble_eq_true rfl) rfl) (Oc (op_store_p tyAgg25 rfl rfl rfl rfl (Nat.le_of_ble_eq_true rfl) rfl) ?_))
  refine OpsL.nilS ⟨[(4, Pt 103 0), (5, Pt 104 0)], [(103, .box 25 (eBig x_3)), (104, .box 25 (eBig x_4))]⟩ rfl (Tri.ret (Fin.then_ret ?_))
  obtain rfl := Option.some.inj h
  refine Fin.keepS ⟨[(4, Pt 103 0), (5, Pt 104 0)], [(103, .box 25 (eBig x_3)), (104, .box 25 (eBig x_4))]⟩ rfl (Fin.result' [.agg (eBig x_3), .agg (eBig x_4)] (.inl rfl) rfl (.cons (.agg tyAgg25 rfl rfl rfl rfl) (.cons (.agg tyAgg25 rfl rfl rfl rfl) .nil)) ⟨rfl, rfl⟩)
 ·refine Tri.skip (Fin.keepS ⟨[(2, Pt 101 0), (3, Pt 102 0), (4, Pt 103 0), (5, Pt 104 0)], [(101, .box 25 (eBig a0)), (102, .box 25 (eBig b0)), (103, .box 25 zBig), (104, .box 25 zBig)]⟩ rfl (Fin.then ?_))
  obtain ⟨v8, h9, h⟩ := bnd h
  refine Tri.seqJ (v := v8) (fun (_ : Unit) => ⟨[(2, Pt 101 0), (3, Pt 102 0), (4, Pt 103 0), (5, Pt 104 0)], [(101, .box 25 (eBig a0)), (102, .box 25 (eBig b0)), (103, .box 25 zBig), (104, .box 25 zBig)]⟩) (fun z => .inl z) ?_ ?_
  ·refine Tri.seq (Tri.regionL ?_)
   refine Oc (lp tyAgg25) ?_
   obtain ⟨⟨x_5, x_6⟩, e10, h9⟩ := bnd h9
   refine Oc (op_call0 (w_Small_spec e10) goes143 rfl rfl) (Oc om (Oc (op_extract rfl rfl) (Oc (op_extract rfl rfl) (Oc oa (Oc oa ?_)))))
   refine OpsL.nilS ⟨[(2, Pt 101 0), (3, Pt 102 0), (4, Pt 103 0), (5, Pt 104 0), (6, I x_5), (7, B x_6)], [(101, .box 25 (eBig a0)), (102, .box 25 (eBig b0)), (103, .box 25 zBig), (104, .box 25 zBig)]⟩ rfl (Tri.seq (Tri.regionL ?_))
   refine Oc om (Oc om ?_)
   refine CgT x_6 [] (fun g11 => trivial) (fun g11 => om) (CgT x_6 [34] (fun g12 => by exact ⟨g12, trivial⟩) (fun g12 => op_neq rfl rfl) (Oc (op_pick_and (fun e => e) rfl rfl rfl rfl) (OpsL.nilS ⟨[(2, Pt 101 0), (3, Pt 102 0), (4, Pt 103 0), (5, Pt 104 0), (6, I x_5), (36, B (x_6 && (decide (x_5 ≠ (-9223372036854775808)))))], [(101, .box 25 (eBig a0)), (102, .box 25 (eBig b0)), (103, .box 25 zBig), (104, .box 25 zBig)]⟩ rfl (Tri.ite h9 rfl (fun _ h9 => ?_) (fun _ h9 => ?_)))))
   ·refine Tri.seq (Tri.regionL ?_)
    refine Oc (lp tyAgg25) ?_
    obtain ⟨⟨x_7, x_8⟩, e13, h9⟩ := bnd h9
    refine Oc (op_call0 (w_Small_spec e13) goes143 rfl rfl) (Oc om (Oc (op_extract rfl rfl) (Oc (op_extract rfl rfl) (Oc oa (Oc oa ?_)))))
    refine OpsL.nilS ⟨[(2, Pt 101 0), (3, Pt 102 0), (4, Pt 103 0), (5, Pt 104 0), (6, I x_5), (8, I x_7), (9, B x_8)], [(101, .box 25 (eBig a0)), (102, .box 25 (eBig b0)), (103, .box 25 zBig), (104, .box 25 zBig)]⟩ rfl (Tri.seq (Tri.regionL ?_))
    refine Oc om (Oc om ?_)
    refine CgT x_8 [] (fun g14 => trivial) (fun g14 => om) (CgT x_8 [44] (fun g15 => by exact ⟨g15, trivial⟩) (fun g15 => op_neq rfl rfl) (Oc (op_pick_and (fun e => e) rfl rfl rfl rfl) (OpsL.nilS ⟨[(2, Pt 101 0), (3, Pt 102 0), (4, Pt 103 0), (5, Pt 104 0), (6, I x_5), (8, I x_7), (46, B (x_8 && (decide (x_7 ≠ (-9223372036854775808)))))], [(101, .box 25 (eBig a0)), (102, .box 25 (eBig b0)), (103, .box 25 zBig), (104, .box 25 zBig)]⟩ rfl (Tri.ite h9 rfl (fun _ h9 => ?_) (fun _ h9 => ?_)))))
    ·refine Tri.seq (Tri.keepS ⟨[(4, Pt 103 0), (5, Pt 104 0), (6, I x_5), (8, I x_7)], [(103, .box 25 zBig), (104, .box 25 zBig)]⟩ rfl ?_)
     obtain ⟨x_9, e16, h9⟩ := bnd h9
     obtain ⟨x_10, e17, h9⟩ := bnd h9
     refine Tri.regionY mixed 8 [I x_5, I x_7, I x_9, I x_5, I x_7, I x_10, I x_9, I x_10] [4, 5, 8, 10, 11] [103, 104] (s' := ⟨[(4, Pt 103 0), (5, Pt 104 0), (8, I x_7), (10, I x_9), (11, I x_10)], [(103, .box 25 zBig), (104, .box 25 zBig)]⟩) rfl ⟨fun _ => .p om, fun _ => .p om, fun _ => .p (op_quo2 e16 rfl rfl), fun _ => .p om, fun _ => .p om, fun _ => .p (op_rem2 e17 rfl rfl), fun _ => .p oa, fun _ => .p oa, trivial⟩ rfl rfl ?_
     obtain ⟨v18, h19, h9⟩ := bnd h9
     refine Tri.seqJ (v := v18) (un2 fun (q_11 : Int) (r_12 : Int) => ⟨[(4, Pt 103 0), (5, Pt 104 0), (10, I q_11), (11, I r_12)], [(103, .box 25 zBig), (104, .box 25 zBig)]⟩) (fun z => z) ?_ ?_
     ·refine Tri.seq (Tri.regionL ?_)
      refine Oc om (Oc (op_neq rfl rfl) (Oc om ?_))
      refine CgT (decide (x_10 ≠ 0)) [] (fun g20 => trivial) (fun g20 => om) (CgT (decide (x_10 ≠ 0)) [56] (fun g21 => by exact ⟨g21, trivial⟩) (fun g21 => op_lss rfl rfl) (CgT (decide (x_10 ≠ 0)) [] (fun g22 => by exact trivial) (fun g22 => om) (CgT (decide (x_10 ≠ 0)) [58] (fun g23 => by exact ⟨g23, trivial⟩) (fun g23 => op_lss rfl rfl) (CgT (decide (x_10 ≠ 0)) [57, 59] (fun g24 => by exact ⟨g24, g24, trivial⟩) (fun g24 => op_neq_bool und4 rfl rfl) (OpsL.consB h19 rfl (op_pick_and (fun e => e) rfl rfl rfl rfl) (fun x_13 h19 => ?_))))))
      refine OpsL.nilS ⟨[(4, Pt 103 0), (5, Pt 104 0), (8, I x_7), (10, I x_9), (11, I x_10), (61, B x_13)], [(103, .box 25 zBig), (104, .box 25 zBig)]⟩ rfl (Tri.ite h19 rfl (fun _ h19 => ?_) (fun _ h19 => ?_))
      ·refine Tri.regionL (Oc om (Oc (op_sub rfl rfl) (Oc om (Oc om (Oc (op_add rfl rfl) (Oc oa ?_))))))
       refine Oc oa (OpsL.nil ?_)
       exact Fin.join [4, 5, 10, 11] [103, 104] (IntKind.i64.wrap (x_9 - 1), IntKind.i64.wrap (x_10 + x_7)) (Option.some.inj h19) rfl
      ·refine Tri.skip ?_
       exact Fin.join [4, 5, 10, 11] [103, 104] (x_9, x_10) (Option.some.inj h19) rfl
     ·rintro ⟨q_11, r_12⟩ hv
      subst v18
      refine Tri.seq (Tri.regionL ?_)
      refine Oc om ?_
      obtain ⟨x_14, e25, h9⟩ := bnd h9
      refine Oc (op_call0 (w_Of_spec e25) goes91 rfl rfl) (Oc om ?_)
      refine OpsL.keepS ⟨[(4, Pt 103 0), (5, Pt 104 0), (68, .b (.agg (eBig x_14))), (69, I r_12)], [(103, .box 25 zBig), (104, .box 25 zBig)]⟩ rfl ?_
      obtain ⟨x_15, e26, h9⟩ := bnd h9
      refine Oc (op_call0 (w_Of_spec e26) goes91 rfl rfl) (Oc (op_store_p tyAgg25 rfl rfl rfl rfl (Nat.le_of_ble_eq_true rfl) rfl) (Oc (op_store_p tyAgg25 rfl rfl rfl rfl (Nat.le_of_ble_eq_true rfl) rfl) ?_))
      refine OpsL.nilS ⟨[(4, Pt 103 0), (5, Pt 104 0)], [(103, .box 25 (eBig x_14)), (104, .box 25 (eBig x_15))]⟩ rfl (Tri.ret ?_)
      obtain rfl := Option.some.inj h9
      refine Fin.then_ret ?_
      obtain rfl := Option.some.inj h
      refine Fin.keepS ⟨[(4, Pt 103 0), (5, Pt 104 0)], [(103, .box 25 (eBig x_14)), (104, .box 25 (eBig x_15))]⟩ rfl (Fin.result' [.agg (eBig x_14), .agg (eBig x_15)] (.inl rfl) rfl (.cons (.agg tyAgg25 rfl rfl rfl rfl) (.cons (.agg tyAgg25 rfl rfl rfl rfl) .nil)) ⟨rfl, rfl⟩)
    ·refine Tri.skip ?_
     exact Fin.join [2, 3, 4, 5] [101, 102, 103, 104] () (Option.some.inj h9) rfl
   ·refine Tri.skip ?_
    exact Fin.join [2, 3, 4, 5] [101, 102, 103, 104] () (Option.some.inj h9) rfl
  ·rintro _ hv
   subst v8
   refine Tri.seq (Tri.regionL ?_)
   refine Oc (op_field_p tyFld25_2 rfl rfl) (Oc (lp tyAgg23) (Oc (op_field_p tyFld25_2 rfl rfl) (Oc (lp tyAgg23) ?_)))
   obtain ⟨⟨x_16, x_17⟩, e27, h⟩ := bnd h
   refine Oc (op_call0 (w_quotient_spec e27) goes116 rfl rfl) (OpsL.keepS ⟨[(2, Pt 101 0), (3, Pt 102 0), (4, Pt 103 0), (5, Pt 104 0), (76, .tup [.agg (eW x_16), .agg (eW x_17)])], [(101, .box 25 (eBig a0)), (102, .box 25 (eBig b0)), (103, .box 25 zBig), (104, .box 25 zBig)]⟩ rfl (Oc om (Oc (op_extract rfl rfl) (Oc (op_extract rfl rfl) (Oc (op_alloc (k := 106) tyZero23 rfl) (Oc (op_alloc (k := 107) tyZero23 rfl) (Oc (op_store_p tyAgg23 rfl rfl rfl rfl (Nat.le_of_ble_eq_true rfl) rfl) ?_)))))))
   refine Oc (op_store_p tyAgg23 rfl rfl rfl rfl (Nat.le_of_ble_eq_true rfl) rfl) (OpsL.nilS ⟨[(2, Pt 101 0), (3, Pt 102 0), (4, Pt 103 0), (5, Pt 104 0), (12, Pt 106 0), (13, Pt 107 0)], [(101, .box 25 (eBig a0)), (102, .box 25 (eBig b0)), (103, .box 25 zBig), (104, .box 25 zBig), (106, .box 23 (eW x_16)), (107, .box 23 (eW x_17))]⟩ rfl (Tri.seq (Tri.regionL ?_)))
   refine Oc (op_field_p tyFld25_1 rfl rfl) (Oc (op_load_p1 tyOne4 rfl rfl rfl) (Oc (op_field_p tyFld25_1 rfl rfl) (Oc (op_load_p1 tyOne4 rfl rfl rfl) (Oc (op_neq_bool und4 rfl rfl) (Oc (lp tyAgg23) ?_)))))
   refine OpsL.keepS ⟨[(2, Pt 101 0), (3, Pt 102 0), (4, Pt 103 0), (5, Pt 104 0), (13, Pt 107 0), (83, B (a0.Neg != b0.Neg)), (84, .b (.agg (eW x_16)))], [(101, .box 25 (eBig a0)), (102, .box 25 (eBig b0)), (103, .box 25 zBig), (104, .box 25 zBig), (107, .box 23 (eW x_17))]⟩ rfl ?_
   obtain ⟨x_18, e28, h⟩ := bnd h
   refine Oc (op_call0 (w_signed_spec e28) goes115 rfl rfl) (Oc (op_alloc (k := 108) tyZero25 rfl) (Oc (op_store_p tyAgg25 rfl rfl rfl rfl (Nat.le_of_ble_eq_true rfl) rfl) ?_))
   refine OpsL.nilS ⟨[(2, Pt 101 0), (3, Pt 102 0), (4, Pt 103 0), (5, Pt 104 0), (13, Pt 107 0), (14, Pt 108 0)], [(101, .box 25 (eBig a0)), (102, .box 25 (eBig b0)), (103, .box 25 zBig), (104, .box 25 zBig), (107, .box 23 (eW x_17)), (108, .box 25 (eBig x_18))]⟩ rfl ?_
   obtain ⟨v29, h30, h⟩ := bnd h
   refine Tri.seqJ (v := v29) (un2 fun (r_19 : A16) (q_20 : Big) => ⟨[(3, Pt 102 0), (4, Pt 103 0), (5, Pt 104 0), (13, Pt 107 0), (14, Pt 108 0)], [(102, .box 25 (eBig b0)), (103, .box 25 zBig), (104, .box 25 zBig), (107, .box 23 (eW r_19)), (108, .box 25 (eBig q_20))]⟩) (fun z => z) ?_ ?_
   ·refine Tri.seq (Tri.regionL ?_)
    refine Oc (lp tyAgg23) (Oc (op_buildA tyBuild23 rfl rfl) (Oc (op_neq_agg (eqAgg23 x_17 A16.zero) rfl rfl neg_dec) (Oc om ?_)))
    refine CgT (decide (x_17 ≠ A16.zero)) [] (fun g31 => trivial) (fun g31 => op_field_p tyFld25_1 rfl rfl) (CgT (decide (x_17 ≠ A16.zero)) [90] (fun g32 => ⟨g32, trivial⟩) (fun g32 => op_load_p1 tyOne4 rfl rfl rfl) (CgT (decide (x_17 ≠ A16.zero)) [] (fun g33 => trivial) (fun g33 => op_field_p tyFld25_1 rfl rfl) (OpsL.keepS ⟨[(3, Pt 102 0), (4, Pt 103 0), (5, Pt 104 0), (13, Pt 107 0), (14, Pt 108 0), (89, B (decide (x_17 ≠ A16.zero))), (91, .opt (decide (x_17 ≠ A16.zero)) (.one (.bool a0.Neg))), (92, .opt (decide (x_17 ≠ A16.zero)) (.ptr 102 1))], [(102, .box 25 (eBig b0)), (103, .box 25 zBig), (104, .box 25 zBig), (107, .box 23 (eW x_17)), (108, .box 25 (eBig x_18))]⟩ rfl (CgT (decide (x_17 ≠ A16.zero)) [92] (fun g34 => ⟨g34, trivial⟩) (fun g34 => op_load_p1 tyOne4 rfl rfl rfl) (CgT (decide (x_17 ≠ A16.zero)) [91, 93] (fun g35 => ⟨g35, g35, trivial⟩) (fun g35 => op_neq_bool und4 rfl rfl) ?_)))))
    refine Oc (op_pick_and (fun e => e) rfl rfl rfl rfl) (OpsL.nilS ⟨[(3, Pt 102 0), (4, Pt 103 0), (5, Pt 104 0), (13, Pt 107 0), (14, Pt 108 0), (95, B ((decide (x_17 ≠ A16.zero)) && (a0.Neg != b0.Neg)))], [(102, .box 25 (eBig b0)), (103, .box 25 zBig), (104, .box 25 zBig), (107, .box 23 (eW x_17)), (108, .box 25 (eBig x_18))]⟩ rfl (Tri.ite h30 rfl (fun _ h30 => ?_) (fun _ h30 => ?_)))
    ·refine Tri.keepS ⟨[(3, Pt 102 0), (4, Pt 103 0), (5, Pt 104 0), (13, Pt 107 0), (14, Pt 108 0)], [(102, .box 25 (eBig b0)), (103, .box 25 zBig), (104, .box 25 zBig), (107, .box 23 (eW x_17)), (108, .box 25 (eBig x_18))]⟩ rfl ?_
     obtain ⟨x_21, e36, h30⟩ := bnd h30
     obtain ⟨x_22, e37, h30⟩ := bnd h30
     obtain ⟨x_23, e38, h30⟩ := bnd h30
     refine Tri.regionYF mixed 7 [.b (.agg (eBig x_18)), .b (.agg (eBig x_21)), .b (.agg (eBig x_22)), Pt 102 2, .b (.agg (eW b0.W)), .b (.agg (eW x_17)), .b (.agg (eW x_23))] [3, 4, 5, 13, 14] [102, 103, 104, 107, 108] (s' := ⟨[(3, Pt 102 0), (4, Pt 103 0), (5, Pt 104 0), (13, Pt 107 0), (14, Pt 108 0)], [(102, .box 25 (eBig b0)), (103, .box 25 zBig), (104, .box 25 zBig), (107, .box 23 (eW x_23)), (108, .box 25 (eBig x_22))]⟩) rfl ⟨fun _ => .p (lp tyAgg25), fun _ => .p (op_call0 (w_Of_spec e36) goes91 rfl rfl), fun _ => .p (op_call0 (w_Sub_spec e37) goes96 rfl rfl), fun _ => .p (op_field_p tyFld25_2 rfl rfl), fun _ => .p (lp tyAgg23), fun _ => .p (lp tyAgg23), fun _ => .p (op_call0 (w_minus_spec e38) goes129 rfl rfl), trivial⟩ ⟨_, by exact .p (op_store_p tyAgg25 rfl rfl rfl rfl (Nat.le_of_ble_eq_true rfl) rfl), ⟨_, by exact .p (op_store_p tyAgg23 rfl rfl rfl rfl (Nat.le_of_ble_eq_true rfl) rfl), rfl⟩⟩ rfl ?_
     exact Fin.join [3, 4, 5, 13, 14] [102, 103, 104, 107, 108] (x_23, x_22) (Option.some.inj h30) rfl
    ·refine Tri.skip ?_
     exact Fin.join [3, 4, 5, 13, 14] [102, 103, 104, 107, 108] (x_17, x_18) (Option.some.inj h30) rfl
   ·rintro ⟨r_19, q_20⟩ hv
    subst v29
    refine Tri.seq (Tri.keepS ⟨[(3, Pt 102 0), (4, Pt 103 0), (5, Pt 104 0), (13, Pt 107 0), (14, Pt 108 0)], [(102, .box 25 (eBig b0)), (103, .box 25 zBig), (104, .box 25 zBig), (107, .box 23 (eW r_19)), (108, .box 25 (eBig q_20))]⟩ rfl ?_)
    obtain ⟨x_24, e39, h⟩ := bnd h
    refine Tri.regionY mixed 5 [.b (.agg (eBig q_20)), Pt 102 1, B b0.Neg, .b (.agg (eW r_19)), .b (.agg (eBig x_24))] [4, 5] [103, 104] (s' := ⟨[(4, Pt 103 0), (5, Pt 104 0)], [(103, .box 25 (eBig q_20)), (104, .box 25 (eBig x_24))]⟩) rfl ⟨fun _ => .p (lp tyAgg25), fun _ => .p (op_field_p tyFld25_1 rfl rfl), fun _ => .p (op_load_p1 tyOne4 rfl rfl rfl), fun _ => .p (lp tyAgg23), fun _ => .p (op_call0 (w_signed_spec e39) goes115 rfl rfl), trivial⟩ ⟨_, by exact .p (op_store_p tyAgg25 rfl rfl rfl rfl (Nat.le_of_ble_eq_true rfl) rfl), ⟨_, by exact .p (op_store_p tyAgg25 rfl rfl rfl rfl (Nat.le_of_ble_eq_true rfl) rfl), rfl⟩⟩ rfl (Tri.ret ?_)
    obtain rfl := Option.some.inj h
    refine Fin.keepS ⟨[(4, Pt 103 0), (5, Pt 104 0)], [(103, .box 25 (eBig q_20)), (104, .box 25 (eBig x_24))]⟩ rfl (Fin.result' [.agg (eBig q_20), .agg (eBig x_24)] (.inl rfl) rfl (.cons (.agg tyAgg25 rfl rfl rfl rfl) (.cons (.agg tyAgg25 rfl rfl rfl rfl) .nil)) ⟨rfl, rfl⟩)
def w_Quo_S (F : Nat) (a0 : Big) (b0 : Big) : Option Big :=
 Option.bind (w_divided_S F a0 b0) (un2 fun x_1 x_2 => some x_1)
theorem w_Quo_spec {F : Nat} {a0 : Big} {b0 : Big} {r : Big} (h : w_Quo_S F a0 b0 = some r) : Meets Tryz.prog (tabs mx) 75 [] [.agg (eBig a0), .agg (eBig b0)] (Is [] (.b (.agg (eBig r)))) := by
 unfold w_Quo_S at h
 refine Meets.intro 14 Tryz.func75 Tryz.ntmps75 rfl (by simp) fun E => ?_
 show Tri _ E ⟨14, [], []⟩ _ ⟨[(0, .b (.agg (eBig a0))), (1, .b (.agg (eBig b0)))], []⟩ _
 refine Tri.seq (Tri.regionL ?_)
 refine Oc (op_box (k := 101) rfl rfl) (Oc (op_box (k := 102) rfl rfl) (Oc (op_alloc (k := 103) tyZero25 rfl) ?_))
 refine OpsL.nilS ⟨[(2, Pt 101 0), (3, Pt 102 0), (4, Pt 103 0)], [(101, .box 25 (eBig a0)), (102, .box 25 (eBig b0)), (103, .box 25 zBig)]⟩ rfl (Tri.seq (Tri.regionL ?_))
 refine Oc (lp tyAgg25) (Oc (lp tyAgg25) ?_)
 obtain ⟨⟨x_1, x_2⟩, e1, h⟩ := bnd h
 refine Oc (op_call0 (w_divided_spec e1) goes118 rfl rfl) (Oc om (Oc (op_extract rfl rfl) ?_))
 refine OpsL.keepS ⟨[(4, Pt 103 0), (7, .tup [.agg (eBig x_1), .agg (eBig x_2)]), (11, .b (.agg (eBig x_1)))], [(103, .box 25 zBig)]⟩ rfl (Oc (op_extract rfl rfl) (Oc (op_alloc (k := 104) tyZero25 rfl) (Oc (op_alloc (k := 105) tyZero25 rfl) (Oc (op_store_p tyAgg25 rfl rfl rfl rfl (Nat.le_of_ble_eq_true rfl) rfl) (Oc (op_store_p tyAgg25 rfl rfl rfl rfl (Nat.le_of_ble_eq_true rfl) rfl) ?_)))))
 refine OpsL.nilS ⟨[(4, Pt 103 0), (5, Pt 104 0)], [(103, .box 25 zBig), (104, .box 25 (eBig x_1))]⟩ rfl (Tri.seq (Tri.regionL ?_))
 refine Oc (lp tyAgg25) (Oc (op_store_p tyAgg25 rfl rfl rfl rfl (Nat.le_of_ble_eq_true rfl) rfl) ?_)
 refine OpsL.nilS ⟨[(4, Pt 103 0)], [(103, .box 25 (eBig x_1))]⟩ rfl (Tri.ret ?_)
 obtain rfl := Option.some.inj h
 refine Fin.keepS ⟨[(4, Pt 103 0)], [(103, .box 25 (eBig x_1))]⟩ rfl (Fin.result' [.agg (eBig x_1)] (.inl rfl) rfl (.cons (.agg tyAgg25 rfl rfl rfl rfl) .nil) ⟨rfl, rfl⟩)
def q_Make_S (F : Nat) (n0 : Big) (d0 : Big) : Option Frc :=
 (q_good_S F n0).bind fun x_1 => (gcall (!(!x_1)) (q_good_S F d0)).bind fun x_2 => (gcall (!((!x_1) || (!x_2))) (w_Sign_S F d0)).bind fun x_3 => if (((!x_1) || (!x_2)) || (decide (x_3 = 0))) = true then ((q_Bad_S F).bind fun x_4 => some x_4) else ((w_Gcd_S F n0 d0).bind fun x_5 => Option.bind ((w_Sign_S F d0).bind fun x_7 => if (decide (x_7 < 0)) = true then ((w_Neg_S F x_5).bind fun x_8 => some x_8) else (some x_5)) (fun g_6 => (w_Quo_S F n0 g_6).bind fun x_9 => (w_Quo_S F d0 g_6).bind fun x_10 => some (⟨x_9, x_10⟩ : Frc)))
theorem q_Make_spec {F : Nat} {n0 : Big} {d0 : Big} {r : Frc} (h : q_Make_S F n0 d0 = some r) : Meets Tryz.prog (tabs mx) 11 [] [.agg (eBig n0), .agg (eBig d0)] (Is [] (.b (.agg (eFrc r)))) := by
 unfold q_Make_S at h
 refine Meets.intro 35 Tryz.func11 Tryz.ntmps11 rfl (by simp) fun E => ?_
 show Tri _ E ⟨35, [], []⟩ _ ⟨[(0, .b (.agg (eBig n0))), (1, .b (.agg (eBig d0)))], []⟩ _
 refine Tri.seq (Tri.regionL ?_)
 refine Oc (op_box (k := 101) rfl rfl) (Oc (op_box (k := 102) rfl rfl) (Oc (op_alloc (k := 103) tyZero27 rfl) ?_))
 refine OpsL.nilS ⟨[(2, Pt 101 0), (3, Pt 102 0), (4, Pt 103 0)], [(101, .box 25 (eBig n0)), (102, .box 25 (eBig d0)), (103, .box 27 zFrc)]⟩ rfl (Tri.seq (Tri.seq (Tri.regionL ?_)))
 refine Oc (lp tyAgg25) ?_
 obtain ⟨x_1, e1, h⟩ := bnd h
 refine Oc (op_call0 (q_good_spec e1) goes71 rfl rfl) (Oc (op_not rfl) (Oc om ?_))
 refine CgF (!(!x_1)) [] (fun g2 => trivial) (fun g2 => lp tyAgg25) (OpsL.keepS ⟨[(2, Pt 101 0), (3, Pt 102 0), (4, Pt 103 0), (9, B (!x_1)), (10, .opt (!(!x_1)) (.agg (eBig d0)))], [(101, .box 25 (eBig n0)), (102, .box 25 (eBig d0)), (103, .box 27 zFrc)]⟩ rfl ?_)
 obtain ⟨x_2, e4, h⟩ := bnd h
 refine CgF (!(!x_1)) [10] (fun g3 => ⟨g3, trivial⟩) (fun g3 => op_call0 (q_good_spec (gc e4 g3)) goes71 rfl rfl) (CgF (!(!x_1)) [11] (fun g5 => ⟨g5, trivial⟩) (fun g5 => op_not rfl) (Oc (op_pick_or (fun e => by rw [e]; rfl) rfl rfl rfl rfl) (Oc om ?_)))
 refine CgF (!((!x_1) || (!x_2))) [] (fun g6 => trivial) (fun g6 => lp tyAgg25) ?_
 obtain ⟨x_3, e8, h⟩ := bnd h
 refine CgF (!((!x_1) || (!x_2))) [15] (fun g7 => ⟨g7, trivial⟩) (fun g7 => op_call0 (w_Sign_spec (gc e8 g7)) goes72 rfl rfl) (CgF (!((!x_1) || (!x_2))) [16] (fun g9 => ⟨g9, trivial⟩) (fun g9 => op_eql rfl rfl) (Oc (op_pick_or (fun e => by rw [e]; rfl) rfl rfl rfl rfl) (OpsL.nilS ⟨[(2, Pt 101 0), (3, Pt 102 0), (4, Pt 103 0), (18, B (((!x_1) || (!x_2)) || (decide (x_3 = 0))))], [(101, .box 25 (eBig n0)), (102, .box 25 (eBig d0)), (103, .box 27 zFrc)]⟩ rfl (Tri.ite h rfl (fun _ h => ?_) (fun _ h => ?_)))))
 ·refine Tri.seq (Tri.regionL ?_)
  obtain ⟨x_4, e10, h⟩ := bnd h
  refine Oc (op_call0 (q_Bad_spec e10) goes27 rfl rfl) (Oc (op_store_p tyAgg27 rfl rfl rfl rfl (Nat.le_of_ble_eq_true rfl) rfl) ?_)
  refine OpsL.nilS ⟨[(4, Pt 103 0)], [(103, .box 27 (eFrc x_4))]⟩ rfl (Tri.ret (Fin.then_ret ?_))
  obtain rfl := Option.some.inj h
  refine Fin.keepS ⟨[(4, Pt 103 0)], [(103, .box 27 (eFrc x_4))]⟩ rfl (Fin.result' [.agg (eFrc x_4)] (.inl rfl) rfl (.cons (.agg tyAgg27 rfl rfl rfl rfl) .nil) ⟨rfl, rfl⟩)
 ·refine Tri.skip (Fin.keepS ⟨[(2, Pt 101 0), (3, Pt 102 0), (4, Pt 103 0)], [(101, .box 25 (eBig n0)), (102, .box 25 (eBig d0)), (103, .box 27 zFrc)]⟩ rfl (Fin.then (Tri.seq (Tri.regionL ?_))))
  refine Oc (lp tyAgg25) (Oc (lp tyAgg25) ?_)
  obtain ⟨x_5, e11, h⟩ := bnd h
  refine Oc (op_call0 (w_Gcd_spec e11) goes73 rfl rfl) (Oc (op_alloc (k := 104) tyZero25 rfl) (Oc (op_store_p tyAgg25 rfl rfl rfl rfl (Nat.le_of_ble_eq_true rfl) rfl) ?_))
  refine OpsL.nilS ⟨[(2, Pt 101 0), (3, Pt 102 0), (4, Pt 103 0), (5, Pt 104 0)], [(101, .box 25 (eBig n0)), (102, .box 25 (eBig d0)), (103, .box 27 zFrc), (104, .box 25 (eBig x_5))]⟩ rfl ?_
  obtain ⟨v12, h13, h⟩ := bnd h
  refine Tri.seqJ (v := v12) (fun (g_6 : Big) => ⟨[(2, Pt 101 0), (3, Pt 102 0), (4, Pt 103 0), (5, Pt 104 0)], [(101, .box 25 (eBig n0)), (102, .box 25 (eBig d0)), (103, .box 27 zFrc), (104, .box 25 (eBig g_6))]⟩) (fun z => z) ?_ ?_
  ·refine Tri.seq (Tri.regionL ?_)
   refine Oc (lp tyAgg25) ?_
   obtain ⟨x_7, e14, h13⟩ := bnd h13
   refine Oc (op_call0 (w_Sign_spec e14) goes72 rfl rfl) (Oc (op_lss rfl rfl) ?_)
   refine OpsL.nilS ⟨[(2, Pt 101 0), (3, Pt 102 0), (4, Pt 103 0), (5, Pt 104 0), (25, B (decide (x_7 < 0)))], [(101, .box 25 (eBig n0)), (102, .box 25 (eBig d0)), (103, .box 27 zFrc), (104, .box 25 (eBig x_5))]⟩ rfl (Tri.ite h13 rfl (fun _ h13 => ?_) (fun _ h13 => ?_))
   ·refine Tri.regionL (Oc (lp tyAgg25) ?_)
    obtain ⟨x_8, e15, h13⟩ := bnd h13
    refine Oc (op_call0 (w_Neg_spec e15) goes74 rfl rfl) (Oc (op_store_p tyAgg25 rfl rfl rfl rfl (Nat.le_of_ble_eq_true rfl) rfl) ?_)
    refine OpsL.nil ?_
    exact Fin.join [2, 3, 4, 5] [101, 102, 103, 104] x_8 (Option.some.inj h13) rfl
   ·refine Tri.skip ?_
    exact Fin.join [2, 3, 4, 5] [101, 102, 103, 104] x_5 (Option.some.inj h13) rfl
  ·rintro g_6 hv
   subst v12
   refine Tri.seq (Tri.keepS ⟨[(2, Pt 101 0), (3, Pt 102 0), (4, Pt 103 0), (5, Pt 104 0)], [(101, .box 25 (eBig n0)), (102, .box 25 (eBig d0)), (103, .box 27 zFrc), (104, .box 25 (eBig g_6))]⟩ rfl ?_)
   obtain ⟨x_9, e16, h⟩ := bnd h
   obtain ⟨x_10, e17, h⟩ := bnd h
   refine Tri.regionY mixed 7 [.b (.agg (eBig n0)), .b (.agg (eBig g_6)), .b (.agg (eBig x_9)), .b (.agg (eBig d0)), .b (.agg (eBig g_6)), .b (.agg (eBig x_10)), .b (.agg (eBig x_9 ++ (eBig x_10)))] [4] [103] (s' := ⟨[(4, Pt 103 0)], [(103, .box 27 (eBig x_9 ++ (eBig x_10)))]⟩) rfl ⟨fun _ => .p (lp tyAgg25), fun _ => .p (lp tyAgg25), fun _ => .p (op_call0 (w_Quo_spec e16) goes75 rfl rfl), fun _ => .p (lp tyAgg25), fun _ => .p (lp tyAgg25), fun _ => .p (op_call0 (w_Quo_spec e17) goes75 rfl rfl), fun _ => .p (op_build tyBuild27 rfl rfl), trivial⟩ ⟨_, by exact .p (op_store_p tyAgg27 rfl rfl rfl rfl (Nat.le_of_ble_eq_true rfl) rfl), rfl⟩ rfl (Tri.ret ?_)
   obtain rfl := Option.some.inj h
   refine Fin.keepS ⟨[(4, Pt 103 0)], [(103, .box 27 (eBig x_9 ++ (eBig x_10)))]⟩ rfl (Fin.result' [.agg (eBig x_9 ++ (eBig x_10))] (.inl rfl) rfl (.cons (.agg tyAgg27 rfl rfl rfl rfl) .nil) ⟨rfl, rfl⟩)
def q_Frac_S (F : Nat) (a0 : Int) (b0 : Int) : Option Frc :=
 (w_Of_S F a0).bind fun x_1 => (w_Of_S F b0).bind fun x_2 => (q_Make_S F x_1 x_2).bind fun x_3 => some x_3
theorem q_Frac_spec {F : Nat} {a0 : Int} {b0 : Int} {r : Frc} (h : q_Frac_S F a0 b0 = some r) : Meets Tryz.prog (tabs mx) 22 [] [.one (.i a0), .one (.i b0)] (Is [] (.b (.agg (eFrc r)))) := by
 unfold q_Frac_S at h
 refine Meets.intro 10 Tryz.func22 Tryz.ntmps22 rfl (by simp) fun E => ?_
 show Tri _ E ⟨10, [], []⟩ _ ⟨[(0, I a0), (1, I b0)], []⟩ _
 refine Tri.seq (Tri.regionL ?_)
 refine Oc (op_alloc (k := 101) tyZero27 rfl) (OpsL.nilS ⟨[(0, I a0), (1, I b0), (4, Pt 101 0)], [(101, .box 27 zFrc)]⟩ rfl (Tri.seq (Tri.regionL ?_)))
 refine Oc om ?_
 obtain ⟨x_1, e1, h⟩ := bnd h
 refine Oc (op_call0 (w_Of_spec e1) goes91 rfl rfl) (Oc om ?_)
 refine OpsL.keepS ⟨[(4, Pt 101 0), (6, .b (.agg (eBig x_1))), (7, I b0)], [(101, .box 27 zFrc)]⟩ rfl ?_
 obtain ⟨x_2, e2, h⟩ := bnd h
 refine Oc (op_call0 (w_Of_spec e2) goes91 rfl rfl) ?_
 obtain ⟨x_3, e3, h⟩ := bnd h
 refine Oc (op_call0 (q_Make_spec e3) goes11 rfl rfl) (Oc (op_store_p tyAgg27 rfl rfl rfl rfl (Nat.le_of_ble_eq_true rfl) rfl) ?_)
 refine OpsL.nilS ⟨[(4, Pt 101 0)], [(101, .box 27 (eFrc x_3))]⟩ rfl (Tri.ret ?_)
 obtain rfl := Option.some.inj h
 refine Fin.keepS ⟨[(4, Pt 101 0)], [(101, .box 27 (eFrc x_3))]⟩ rfl (Fin.result' [.agg (eFrc x_3)] (.inl rfl) rfl (.cons (.agg tyAgg27 rfl rfl rfl rfl) .nil) ⟨rfl, rfl⟩)
def q_Good_S (F : Nat) (x0 : Frc) : Option Bool :=
 (q_good_S F x0.N).bind fun x_1 => (gcall x_1 (q_good_S F x0.D)).bind fun x_2 => (gcall (x_1 && x_2) (w_Sign_S F x0.D)).bind fun x_3 => (gcall ((x_1 && x_2) && (decide (0 < x_3))) (w_Gcd_S F x0.N x0.D)).bind fun x_4 => (gcall ((x_1 && x_2) && (decide (0 < x_3))) (q_one_S F)).bind fun x_5 => some (((x_1 && x_2) && (decide (0 < x_3))) && (decide (x_4 = x_5)))
theorem q_Good_spec {F : Nat} {x0 : Frc} {r : Bool} (h : q_Good_S F x0 = some r) : Meets Tryz.prog (tabs mx) 26 [] [.agg (eFrc x0)] (Is [] (.b (.one (.bool r)))) := by
 unfold q_Good_S at h
 refine Meets.intro 26 Tryz.func26 Tryz.ntmps26 rfl (by simp) fun E => ?_
 show Tri _ E ⟨26, [], []⟩ _ ⟨[(0, .b (.agg (eFrc x0)))], []⟩ _
 refine Tri.seq (Tri.regionL ?_)
 refine Oc (op_box (k := 101) rfl rfl) (Oc oa ?_)
 refine OpsL.nilS ⟨[(1, Pt 101 0)], [(101, .box 27 (eFrc x0))]⟩ rfl (Tri.seq (Tri.regionL ?_))
 refine Oc (op_field_p tyFld27_0 rfl rfl) (Oc (lp tyAgg25) ?_)
 obtain ⟨x_1, e1, h⟩ := bnd h
 refine Oc (op_call0 (q_good_spec e1) goes71 rfl rfl) (Oc om ?_)
 refine CgT x_1 [] (fun g2 => trivial) (fun g2 => op_field_p tyFld27_1 rfl rfl) (OpsL.keepS ⟨[(1, Pt 101 0), (6, B x_1), (7, .opt x_1 (.ptr 101 18))], [(101, .box 27 (eFrc x0))]⟩ rfl (CgT x_1 [7] (fun g3 => ⟨g3, trivial⟩) (fun g3 => lp tyAgg25) ?_))
 obtain ⟨x_2, e5, h⟩ := bnd h
 refine CgT x_1 [8] (fun g4 => ⟨g4, trivial⟩) (fun g4 => op_call0 (q_good_spec (gc e5 g4)) goes71 rfl rfl) (Oc (op_pick_and (fun e => e) rfl rfl rfl rfl) (Oc om ?_))
 refine CgT (x_1 && x_2) [] (fun g6 => trivial) (fun g6 => op_field_p tyFld27_1 rfl rfl) (CgT (x_1 && x_2) [12] (fun g7 => ⟨g7, trivial⟩) (fun g7 => lp tyAgg25) (OpsL.keepS ⟨[(1, Pt 101 0), (11, B (x_1 && x_2)), (13, .opt (x_1 && x_2) (.agg (eBig x0.D)))], [(101, .box 27 (eFrc x0))]⟩ rfl ?_))
 obtain ⟨x_3, e9, h⟩ := bnd h
 refine CgT (x_1 && x_2) [13] (fun g8 => ⟨g8, trivial⟩) (fun g8 => op_call0 (w_Sign_spec (gc e9 g8)) goes72 rfl rfl) (CgT (x_1 && x_2) [14] (fun g10 => ⟨g10, trivial⟩) (fun g10 => op_gtr rfl rfl) (Oc (op_pick_and (fun e => e) rfl rfl rfl rfl) (Oc om ?_)))
 refine CgT ((x_1 && x_2) && (decide (0 < x_3))) [] (fun g11 => trivial) (fun g11 => op_field_p tyFld27_0 rfl rfl) (CgT ((x_1 && x_2) && (decide (0 < x_3))) [18] (fun g12 => ⟨g12, trivial⟩) (fun g12 => lp tyAgg25) (CgT ((x_1 && x_2) && (decide (0 < x_3))) [] (fun g13 => by exact trivial) (fun g13 => op_field_p tyFld27_1 rfl rfl) (CgT ((x_1 && x_2) && (decide (0 < x_3))) [20] (fun g14 => by exact ⟨g14, trivial⟩) (fun g14 => lp tyAgg25) (OpsL.keepS ⟨[(17, B ((x_1 && x_2) && (decide (0 < x_3)))), (19, .opt ((x_1 && x_2) && (decide (0 < x_3))) (.agg (eBig x0.N))), (21, .opt ((x_1 && x_2) && (decide (0 < x_3))) (.agg (eBig x0.D)))], []⟩ rfl ?_))))
 obtain ⟨x_4, e16, h⟩ := bnd h
 refine CgT ((x_1 && x_2) && (decide (0 < x_3))) [19, 21] (fun g15 => ⟨g15, g15, trivial⟩) (fun g15 => op_call0 (w_Gcd_spec (gc e16 g15)) goes73 rfl rfl) ?_
 obtain ⟨x_5, e18, h⟩ := bnd h
 refine CgT ((x_1 && x_2) && (decide (0 < x_3))) [] (fun g17 => trivial) (fun g17 => op_call0 (q_one_spec (gc e18 g17)) goes90 rfl rfl) (CgT ((x_1 && x_2) && (decide (0 < x_3))) [22, 23] (fun g19 => ⟨g19, g19, trivial⟩) (fun g19 => op_eql_agg (eqAgg25 x_4 x_5) rfl rfl) (Oc (op_pick_and (fun e => e) rfl rfl rfl rfl) (Oc oa ?_)))
 refine OpsL.nilS ⟨[(2, B (((x_1 && x_2) && (decide (0 < x_3))) && (decide (x_4 = x_5))))], []⟩ rfl (Tri.ret ?_)
 obtain rfl := Option.some.inj h
 refine Fin.keepS ⟨[(2, B (((x_1 && x_2) && (decide (0 < x_3))) && (decide (x_4 = x_5))))], []⟩ rfl (Fin.result' [.one (.bool (((x_1 && x_2) && (decide (0 < x_3))) && (decide (x_4 = x_5))))] (.inl rfl) rfl (.cons (.tmp rfl) .nil) ⟨rfl, rfl⟩)
def slices_Reverse_S (F : Nat) (s0 : List Str) : Option (List Str) :=
 letN (IntKind.i64.wrap ((s0.length : Int) - 1)) fun x_1 => Option.bind (iter F (un3 fun s_2 i_3 j_4 => if (decide (i_3 < j_4)) = true then ((idx? s_2 j_4).bind fun x_6 => (idx? s_2 i_3).bind fun x_7 => (idx? s_2 i_3).bind fun x_8 => (idx? (s_2.set (i_3 : Int).toNat x_6) j_4).bind fun x_9 => some (.inl ((s_2.set (i_3 : Int).toNat x_6).set (j_4 : Int).toNat x_7, IntKind.i64.wrap (i_3 + 1), IntKind.i64.wrap (j_4 - 1)))) else (some (.inr s_2))) (s0, 0, x_1)) (fun y_5 => some y_5)
theorem slices_Reverse_spec {F : Nat} {s0 : List Str} {r : (List Str)} (h : slices_Reverse_S F s0 = some r) : Meets Tryz.prog (tabs mx) 137 [(1, .frow 9 1 (s0.map eS))] [.row 1] (Is [(1, .frow 9 1 (r.map eS))] (.tup [])) := by
 unfold slices_Reverse_S at h
 refine Meets.intro 28 Tryz.func137 Tryz.ntmps137 rfl (by simp) fun E => ?_
 show Tri _ E ⟨28, [1], [1]⟩ _ ⟨[(0, .b (.row 1))], [(1, .frow 9 1 (s0.map eS))]⟩ _
 refine Tri.unF 1 rfl (Tri.seq (Tri.regionL ?_))
 refine Oc om (Oc (op_len_r' und111 rfl rfl (List.length_map _)) ?_)
 refine OpsL.consI .i64 h rfl (op_sub rfl rfl) (fun x_1 h => ?_)
 refine Oc oa (Oc oa ?_)
 refine OpsL.nilS ⟨[(0, .b (.row 1)), (2, I 0), (3, I x_1)], [(1, .row 9 1 (s0.map eS))]⟩ rfl (Tri.block ?_)
 obtain ⟨v1, h2, h⟩ := bnd h
 refine Tri.loopJ h2 (un3 fun (s_2 : List Str) (i_3 : Int) (j_4 : Int) => ⟨[(0, .b (.row 1)), (2, I i_3), (3, I j_4)], [(1, .row 9 1 (s_2.map eS))]⟩) [0, 2, 3] [1] rfl ?_
 rintro ⟨s_2, i_3, j_4⟩ o3 h4 hy5
 refine Tri.seq (Tri.seq (Tri.regionL ?_))
 refine Oc om (Oc om (Oc (op_lss rfl rfl) ?_))
 refine OpsL.nilS ⟨[(0, .b (.row 1)), (2, I i_3), (3, I j_4), (9, B (decide (i_3 < j_4)))], [(1, .row 9 1 (s_2.map eS))]⟩ rfl (Tri.ite h4 rfl (fun _ h4 => ?_) (fun _ h4 => ?_))
 ·refine Tri.skip (Fin.keepS ⟨[(0, .b (.row 1)), (2, I i_3), (3, I j_4)], [(1, .row 9 1 (s_2.map eS))]⟩ rfl (Fin.then (Tri.seq (Tri.block ?_))))
  refine Tri.keepS ⟨[(0, .b (.row 1)), (2, I i_3), (3, I j_4)], [(1, .row 9 1 (s_2.map eS))]⟩ rfl ?_
  obtain ⟨x_6, e6, h4⟩ := bnd h4
  obtain ⟨x_7, e7, h4⟩ := bnd h4
  obtain ⟨x_8, e8, h4⟩ := bnd h4
  obtain ⟨x_9, e9, h4⟩ := bnd h4
  refine Tri.regionWF mixed [false, false, false, false, false, false, false, false, false, false, false, false, false, true, false, true] [.b (.row 1), I i_3, .b (.row 1), I j_4, .b (.row 1), I j_4, .b (.rptr 1 ((j_4 : Int).toNat * 1)), .b (.one (.str x_6)), .b (.row 1), I i_3, .b (.rptr 1 ((i_3 : Int).toNat * 1)), .b (.one (.str x_7)), .b (.rptr 1 ((i_3 : Int).toNat * 1)), B true, .b (.rptr 1 ((j_4 : Int).toNat * 1)), B true] [⟨[false, false, false, false, false, false, false, false, false, false, false, false, false, false, false, false], [(0, .b (.row 1)), (2, I i_3), (3, I j_4)], [(1, .row 9 1 (s_2.map eS))], [true, true, true, true, true, true, true, true, true, true, true, true, true, true, true, true], []⟩, ⟨[false, false, false, false, false, false, false, false, false, false, false, false, false, true, false, false], [(0, .b (.row 1)), (2, I i_3), (3, I j_4)], [(1, .row 9 1 ((s_2.set (i_3 : Int).toNat x_6).map eS))], [true, true, true, true, true, true, true, true, true, true, true, true, true, true, true, true], [0, 1, 4, 5, 6, 7, 8, 9, 10, 11, 12, 13]⟩, ⟨[false, false, false, false, false, false, false, false, false, false, false, false, false, true, false, true], [(0, .b (.row 1)), (2, I i_3), (3, I j_4)], [(1, .row 9 1 (((s_2.set (i_3 : Int).toNat x_6).set (j_4 : Int).toNat x_7).map eS))], [true, true, true, true, true, true, true, true, true, true, true, true, true, true, true, true], [0, 1, 2, 3, 4, 5, 6, 7, 8, 9, 10, 11, 12, 13, 14, 15]⟩] rfl (⟨by kernel_rfl, ⟨⟨.b (.row 1), fun _ => rfl, fun _ => .p (by exact op_move rfl)⟩, ⟨I i_3, fun _ => rfl, fun _ => .p (by exact op_move rfl)⟩, ⟨.b (.row 1), fun _ => rfl, fun _ => .p (by exact op_move rfl)⟩, ⟨I j_4, fun _ => rfl, fun _ => .p (by exact op_move rfl)⟩, ⟨.b (.row 1), fun _ => rfl, fun _ => .p (by exact op_move rfl)⟩, ⟨I j_4, fun _ => rfl, fun _ => .p (by exact op_move rfl)⟩, ⟨.b (.rptr 1 ((j_4 : Int).toNat * 1)), fun _ => rfl, fun _ => .p (by exact op_index_r tySl111 (ix_lo e6) (ix_lt' e6) rfl rfl rfl rfl)⟩, ⟨.b (.one (.str x_6)), fun _ => rfl, fun _ => .p (by exact op_load_r1 (i := (j_4 : Int).toNat) (f := 0) tyOne9 rfl rfl rfl (ix_map (e := eS) e6) rfl)⟩, ⟨.b (.row 1), fun _ => rfl, fun _ => .p (by exact op_move rfl)⟩, ⟨I i_3, fun _ => rfl, fun _ => .p (by exact op_move rfl)⟩, ⟨.b (.rptr 1 ((i_3 : Int).toNat * 1)), fun _ => rfl, fun _ => .p (by exact op_index_r tySl111 (ix_lo e7) (ix_lt' e7) rfl rfl rfl rfl)⟩, ⟨.b (.one (.str x_7)), fun _ => rfl, fun _ => .p (by exact op_load_r1 (i := (i_3 : Int).toNat) (f := 0) tyOne9 rfl rfl rfl (ix_map (e := eS) e7) rfl)⟩, ⟨.b (.rptr 1 ((i_3 : Int).toNat * 1)), fun _ => rfl, fun _ => .p (by exact op_index_r tySl111 (ix_lo e8) (ix_lt' e8) rfl rfl rfl rfl)⟩, ⟨_, none, .b (.one .any), rfl, (fun e => by simp at e), rfl, rfl, fun _ => .toO [1] (by exact .p (by exact op_store_r1 (i := (i_3 : Int).toNat) tyOne9 rfl rfl rfl rfl (ix_lt e8) (map_set _ _ _ _))) (by exact rfl)⟩, trivial, trivial, trivial⟩, ⟨by kernel_rfl, ⟨trivial, trivial, ⟨.b (.row 1), fun _ => rfl, fun _ => .p (by exact op_move rfl)⟩, ⟨I j_4, fun _ => rfl, fun _ => .p (by exact op_move rfl)⟩, trivial, trivial, trivial, trivial, trivial, trivial, trivial, trivial, trivial, trivial, ⟨.b (.rptr 1 ((j_4 : Int).toNat * 1)), fun _ => rfl, fun _ => .p (by exact op_index_r tySl111 (ix_lo e9) (ix_lt' e9) rfl rfl rfl rfl)⟩, ⟨_, none, .b (.one .any), rfl, (fun e => by simp at e), rfl, rfl, fun _ => .toO [1] (by exact .p (by exact op_store_r1 (i := (j_4 : Int).toNat) tyOne9 rfl rfl rfl rfl (ix_lt e9) (map_set _ _ _ _))) (by exact rfl)⟩, trivial⟩, ⟨by kernel_rfl, ⟨trivial, trivial, trivial, trivial, trivial, trivial, trivial, trivial, trivial, trivial, trivial, trivial, trivial, trivial, trivial, trivial, trivial⟩, trivial⟩⟩⟩) rfl rfl rfl [0, 2, 3] [1] (s' := ⟨[(0, .b (.row 1)), (2, I i_3), (3, I j_4)], [(1, .row 9 1 (((s_2.set (i_3 : Int).toNat x_6).set (j_4 : Int).toNat x_7).map eS))]⟩) rfl ?_
  refine Fin.block_normal (Fin.keepS ⟨[(0, .b (.row 1)), (2, I i_3), (3, I j_4)], [(1, .row 9 1 (((s_2.set (i_3 : Int).toNat x_6).set (j_4 : Int).toNat x_7).map eS))]⟩ rfl (Fin.then (Tri.regionL ?_)))
  refine Oc om (Oc (op_add rfl rfl) (Oc om (Oc (op_sub rfl rfl) (Oc oa (Oc oa ?_)))))
  refine OpsL.nil ?_
  exact Fin.againJ [0, 2, 3] [1] ((s_2.set (i_3 : Int).toNat x_6).set (j_4 : Int).toNat x_7, IntKind.i64.wrap (i_3 + 1), IntKind.i64.wrap (j_4 - 1)) (Option.some.inj h4) rfl
 ·refine Tri.exit (Fin.then_exit ?_)
  obtain rfl := hy5 _ (Option.some.inj h4).symm
  refine Fin.then_exit (Fin.block_exit ?_)
  obtain rfl := Option.some.inj h
  refine Fin.keepS ⟨[], [(1, .row 9 1 (s_2.map eS))]⟩ rfl (Fin.toF 1 rfl (Fin.keepS ⟨[], [(1, .frow 9 1 (s_2.map eS))]⟩ rfl ?_))
  exact Fin.result [] (.inr rfl) rfl (.nil) ⟨rfl, rfl⟩
def w_Text_S (F : Nat) (x0 : Big) : Option Str :=
 (w_good_S F [x0]).bind fun x_1 => if (!x_1) = true then (some []) else (Option.bind (iter F (un2 fun parts_3 w_4 => Option.bind (w_short_S F w_4 1000000000) (un2 fun x_6 x_7 => (strconv_Itoa_S F (IntKind.i64.wrap x_7)).bind fun x_8 => if (decide (x_6 = A16.zero)) = true then ((app? parts_3 [x_8]).bind fun x_9 => some (.inr x_9)) else (letN (IntKind.i64.wrap (9 - (x_8.length : Int))) fun x_10 => (strings_Repeat_S F [48] x_10).bind fun x_11 => (app? x_11 x_8).bind fun x_12 => (app? parts_3 [x_12]).bind fun x_13 => some (.inl (x_13, x_6))))) ([], x0.W)) (fun parts_2 => Option.bind (if x0.Neg = true then ((app? parts_2 [[45]]).bind fun x_15 => some x_15) else (some parts_2)) (fun parts_14 => (slices_Reverse_S F parts_14).bind fun x_16 => (strings_Join_S F x_16 []).bind fun x_17 => some x_17)))
theorem w_Text_spec {F : Nat} {x0 : Big} {r : Str} (h : w_Text_S F x0 = some r) : Meets Tryz.prog (tabs mx) 109 [] [.agg (eBig x0)] (Is [] (.b (.one (.str r)))) := by
 unfold w_Text_S at h
 refine Meets.intro 49 Tryz.func109 Tryz.ntmps109 rfl (by simp) fun E => ?_
 show Tri _ E ⟨49, [], []⟩ _ ⟨[(0, .b (.agg (eBig x0)))], []⟩ _
 refine Tri.seq (Tri.regionL ?_)
 refine Oc (op_box (k := 101) rfl rfl) (Oc oa ?_)
 refine OpsL.nilS ⟨[(1, Pt 101 0)], [(101, .box 25 (eBig x0))]⟩ rfl (Tri.seq (Tri.seq (Tri.regionL ?_)))
 refine Oc (lp tyAgg25) (Oc (op_buildSlice (k := 102) (es := [x0].map eBig) tySl117 rfl rfl (uni_map fun _ => rfl) rfl (by decide) (by decide) rfl) ?_)
 obtain ⟨x_1, e1, h⟩ := bnd h
 refine Oc (op_callB (w_good_spec e1) goes113 rfl CP.flat_bool) (Oc (op_not rfl) ?_)
 refine OpsL.nilS ⟨[(1, Pt 101 0), (11, B (!x_1))], [(101, .box 25 (eBig x0))]⟩ rfl (Tri.ite h rfl (fun _ h => ?_) (fun _ h => ?_))
 ·refine Tri.seq (Tri.regionL ?_)
  refine Oc oa (OpsL.nilS ⟨[(2, .b (.one (.str [])))], []⟩ rfl (Tri.ret (Fin.then_ret ?_)))
  obtain rfl := Option.some.inj h
  refine Fin.keepS ⟨[(2, .b (.one (.str [])))], []⟩ rfl (Fin.result' [.one (.str [])] (.inl rfl) rfl (.cons (.tmp rfl) .nil) ⟨rfl, rfl⟩)
 ·refine Tri.skip (Fin.keepS ⟨[(1, Pt 101 0)], [(101, .box 25 (eBig x0))]⟩ rfl (Fin.then (Tri.seq (Tri.regionL ?_))))
  refine Oc oa (OpsL.nilS ⟨[(1, Pt 101 0), (3, .b (.one (.nil)))], [(101, .box 25 (eBig x0))]⟩ rfl ?_)
  obtain ⟨v2, h3, h⟩ := bnd h
  refine Tri.seqJ (v := v2) (fun (parts_2 : List Str) => ⟨[(1, Pt 101 0), (3, .b (.row 108))], [(101, .box 25 (eBig x0)), (108, .row 9 1 (parts_2.map eS))]⟩) (fun z => z) ?_ ?_
  ·refine Tri.seq (Tri.regionL ?_)
   refine Oc (op_field_p tyFld25_2 rfl rfl) (Oc (lp tyAgg23) (Oc (op_alloc (k := 103) tyZero23 rfl) (Oc (op_store_p tyAgg23 rfl rfl rfl rfl (Nat.le_of_ble_eq_true rfl) rfl) ?_)))
   refine OpsL.nilS ⟨[(1, Pt 101 0), (3, .b (.one (.nil))), (4, Pt 103 0)], [(101, .box 25 (eBig x0)), (103, .box 23 (eW x0.W))]⟩ rfl (Tri.block (Tri.nilrow 3 108 1 9 rfl (by decide) rfl (Tri.loopJ h3 (un2 fun (parts_3 : List Str) (w_4 : A16) => ⟨[(1, Pt 101 0), (3, .b (.row 108)), (4, Pt 103 0)], [(101, .box 25 (eBig x0)), (103, .box 23 (eW w_4)), (108, .row 9 1 (parts_3.map eS))]⟩) [1, 3, 4] [101, 103, 108] rfl ?_)))
   rintro ⟨parts_3, w_4⟩ o4 h5 hy6
   refine Tri.seq (Tri.block (Tri.seq (Tri.regionL ?_)))
   refine Oc (lp tyAgg23) ?_
   obtain ⟨⟨x_6, x_7⟩, e7, h5⟩ := bnd h5
   refine Oc (op_call0 (w_short_spec e7) goes134 rfl rfl) (Oc om (Oc (op_extract rfl rfl) (Oc (op_extract rfl rfl) ?_)))
   refine OpsL.keepS ⟨[(1, Pt 101 0), (3, .b (.row 108)), (4, Pt 103 0), (17, .b (.agg (eW x_6))), (18, .b (.one (.int .u32 x_7)))], [(101, .box 25 (eBig x0)), (103, .box 23 (eW w_4)), (108, .row 9 1 (parts_3.map eS))]⟩ rfl (Oc (op_alloc (k := 109) tyZero23 rfl) (Oc (op_store_p tyAgg23 rfl rfl rfl rfl (Nat.le_of_ble_eq_true rfl) rfl) (Oc oa ?_)))
   refine OpsL.nilS ⟨[(1, Pt 101 0), (3, .b (.row 108)), (4, Pt 103 0), (5, Pt 109 0), (6, .b (.one (.int .u32 x_7)))], [(101, .box 25 (eBig x0)), (103, .box 23 (eW w_4)), (108, .row 9 1 (parts_3.map eS)), (109, .box 23 (eW x_6))]⟩ rfl (Tri.seq (Tri.regionL ?_))
   refine Oc om (Oc (op_conv_wrap undi22 undi3 rfl) ?_)
   obtain ⟨x_8, e8, h5⟩ := bnd h5
   refine Oc (op_call0 (strconv_Itoa_spec e8) goes135 rfl rfl) (Oc oa ?_)
   refine OpsL.nilS ⟨[(1, Pt 101 0), (3, .b (.row 108)), (4, Pt 103 0), (5, Pt 109 0), (7, .b (.one (.str x_8)))], [(101, .box 25 (eBig x0)), (103, .box 23 (eW w_4)), (108, .row 9 1 (parts_3.map eS)), (109, .box 23 (eW x_6))]⟩ rfl (Tri.seq (Tri.seq (Tri.regionL ?_)))
   refine Oc (lp tyAgg23) (Oc (op_buildA tyBuild23 rfl rfl) (Oc (op_eql_agg (eqAgg23 x_6 A16.zero) rfl rfl) ?_))
   refine OpsL.nilS ⟨[(1, Pt 101 0), (3, .b (.row 108)), (4, Pt 103 0), (5, Pt 109 0), (7, .b (.one (.str x_8))), (24, B (decide (x_6 = A16.zero)))], [(101, .box 25 (eBig x0)), (103, .box 23 (eW w_4)), (108, .row 9 1 (parts_3.map eS)), (109, .box 23 (eW x_6))]⟩ rfl (Tri.ite h5 rfl (fun _ h5 => ?_) (fun _ h5 => ?_))
   ·refine Tri.seq (Tri.regionL ?_)
    refine Oc om (Oc om (Oc (op_buildSlice (k := 110) (es := [x_8].map eS) tySl111 rfl rfl (uni_map fun _ => rfl) rfl (by decide) (by decide) rfl) ?_))
    obtain ⟨x_9, e9, h5⟩ := bnd h5
    refine Oc (op_append_r tySl111 (app_b e9) (app_m e9) rfl rfl rfl rfl (app_map e9) rfl) (Oc oa ?_)
    refine OpsL.nilS ⟨[(1, Pt 101 0), (3, .b (.row 108))], [(101, .box 25 (eBig x0)), (108, .row 9 1 (x_9.map eS))]⟩ rfl (Tri.exit (Fin.then_exit (Fin.block_exit_other (by decide) (Fin.then_exit ?_))))
    obtain rfl := hy6 _ (Option.some.inj h5).symm
    refine Fin.then_exit (Fin.block_exit ?_)
    exact Fin.join [1, 3] [101, 108] x_9 rfl rfl
   ·refine Tri.skip (Fin.keepS ⟨[(1, Pt 101 0), (3, .b (.row 108)), (4, Pt 103 0), (5, Pt 109 0), (7, .b (.one (.str x_8)))], [(101, .box 25 (eBig x0)), (103, .box 23 (eW w_4)), (108, .row 9 1 (parts_3.map eS)), (109, .box 23 (eW x_6))]⟩ rfl (Fin.then (Tri.seq (Tri.regionL ?_))))
    refine Oc om (Oc om (Oc (op_len_str und9 rfl) ?_))
    refine OpsL.consI .i64 h5 rfl (op_sub rfl rfl) (fun x_10 h5 => ?_)
    refine OpsL.keepS ⟨[(1, Pt 101 0), (3, .b (.row 108)), (4, Pt 103 0), (5, Pt 109 0), (7, .b (.one (.str x_8))), (29, .b (.row 108)), (32, I x_10)], [(101, .box 25 (eBig x0)), (103, .box 23 (eW w_4)), (108, .row 9 1 (parts_3.map eS)), (109, .box 23 (eW x_6))]⟩ rfl ?_
    obtain ⟨x_11, e10, h5⟩ := bnd h5
    refine Oc (op_call0 (strings_Repeat_spec e10) goes136 rfl rfl) (Oc om ?_)
    obtain ⟨x_12, e11, h5⟩ := bnd h5
    refine Oc (op_add_str2 e11 rfl rfl) (Oc (op_buildSlice (k := 111) (es := [x_12].map eS) tySl111 rfl rfl (uni_map fun _ => rfl) rfl (by decide) (by decide) rfl) ?_)
    obtain ⟨x_13, e12, h5⟩ := bnd h5
    refine Oc (op_append_r tySl111 (app_b e12) (app_m e12) rfl rfl rfl rfl (app_map e12) rfl) (Oc oa ?_)
    refine OpsL.nilS ⟨[(1, Pt 101 0), (3, .b (.row 108)), (4, Pt 103 0), (5, Pt 109 0)], [(101, .box 25 (eBig x0)), (103, .box 23 (eW w_4)), (108, .row 9 1 (x_13.map eS)), (109, .box 23 (eW x_6))]⟩ rfl (Tri.regionL (Oc (lp tyAgg23) (Oc (op_store_p tyAgg23 rfl rfl rfl rfl (Nat.le_of_ble_eq_true rfl) rfl) ?_)))
    refine OpsL.nil (Fin.block_normal (Fin.keepS ⟨[(1, Pt 101 0), (3, .b (.row 108)), (4, Pt 103 0)], [(101, .box 25 (eBig x0)), (103, .box 23 (eW x_6)), (108, .row 9 1 (x_13.map eS))]⟩ rfl (Fin.then (Tri.seq (Tri.regionL ?_)))))
    refine Oc (lp tyAgg23) (OpsL.nilS ⟨[(1, Pt 101 0), (3, .b (.row 108)), (39, .b (.agg (eW x_6)))], [(101, .box 25 (eBig x0)), (108, .row 9 1 (x_13.map eS))]⟩ rfl (Tri.regionL (Oc (op_alloc (k := 112) tyZero23 rfl) (Oc (op_store_p tyAgg23 rfl rfl rfl rfl (Nat.le_of_ble_eq_true rfl) rfl) ?_))))
    refine OpsL.nil (Fin.keepS ⟨[(1, Pt 101 0), (3, .b (.row 108)), (4, Pt 112 0)], [(101, .box 25 (eBig x0)), (108, .row 9 1 (x_13.map eS)), (112, .box 23 (eW x_6))]⟩ rfl (Fin.rename 112 103 rfl (by decide) rfl ?_))
    exact Fin.againJ [1, 3, 4] [101, 103, 108] (x_13, x_6) (Option.some.inj h5) rfl
  ·rintro parts_2 hv
   subst v2
   obtain ⟨v13, h14, h⟩ := bnd h
   refine Tri.seqJ (v := v13) (fun (parts_14 : List Str) => ⟨[(3, .b (.row 108))], [(108, .row 9 1 (parts_14.map eS))]⟩) (fun z => z) ?_ ?_
   ·refine Tri.seq (Tri.regionL ?_)
    refine Oc (op_field_p tyFld25_1 rfl rfl) (Oc (op_load_p1 tyOne4 rfl rfl rfl) ?_)
    refine OpsL.nilS ⟨[(3, .b (.row 108)), (41, B x0.Neg)], [(108, .row 9 1 (parts_2.map eS))]⟩ rfl (Tri.ite h14 rfl (fun _ h14 => ?_) (fun _ h14 => ?_))
    ·refine Tri.regionL (Oc om (Oc (op_buildSlice (k := 113) (es := [[45]].map eS) tySl111 rfl rfl (uni_map fun _ => rfl) rfl (by decide) (by decide) rfl) ?_))
     obtain ⟨x_15, e15, h14⟩ := bnd h14
     refine Oc (op_append_r tySl111 (app_b e15) (app_m e15) rfl rfl rfl rfl (app_map e15) rfl) (Oc oa ?_)
     refine OpsL.nil ?_
     exact Fin.join [3] [108] x_15 (Option.some.inj h14) rfl
    ·refine Tri.skip ?_
     exact Fin.join [3] [108] parts_2 (Option.some.inj h14) rfl
   ·rintro parts_14 hv
    subst v13
    refine Tri.seq (Tri.regionL ?_)
    refine Oc om (OpsL.toF 108 rfl ?_)
    obtain ⟨x_16, e16, h⟩ := bnd h
    refine Oc (op_call (own_a := [(108, _)]) ((slices_Reverse_spec e16).sw 1 108) goes137 rfl ⟨rfl, trivial⟩ rfl rfl) (OpsL.unF 108 rfl (OpsL.nilS ⟨[(3, .b (.row 108))], [(108, .row 9 1 (x_16.map eS))]⟩ rfl (Tri.seq (Tri.regionL ?_))))
    refine Oc om ?_
    obtain ⟨x_17, e17, h⟩ := bnd h
    refine Oc (op_callB (strings_Join_spec e17) goes138 rfl CP.flat_str) (Oc oa ?_)
    refine OpsL.nilS ⟨[(2, .b (.one (.str x_17)))], []⟩ rfl (Tri.ret ?_)
    obtain rfl := Option.some.inj h
    refine Fin.keepS ⟨[(2, .b (.one (.str x_17)))], []⟩ rfl (Fin.result' [.one (.str x_17)] (.inl rfl) rfl (.cons (.tmp rfl) .nil) ⟨rfl, rfl⟩)
def q_Text_S (F : Nat) (x0 : Frc) : Option Str :=
 (q_Good_S F x0).bind fun x_1 => if (!x_1) = true then (some []) else ((q_one_S F).bind fun x_2 => if (decide (x0.D = x_2)) = true then ((w_Text_S F x0.N).bind fun x_3 => some x_3) else ((w_Text_S F x0.N).bind fun x_4 => (app? x_4 [47]).bind fun x_5 => (w_Text_S F x0.D).bind fun x_6 => (app? x_5 x_6).bind fun x_7 => some x_7))
theorem q_Text_spec {F : Nat} {x0 : Frc} {r : Str} (h : q_Text_S F x0 = some r) : Meets Tryz.prog (tabs mx) 54 [] [.agg (eFrc x0)] (Is [] (.b (.one (.str r)))) := by
 unfold q_Text_S at h
 refine Meets.intro 23 Tryz.func54 Tryz.ntmps54 rfl (by simp) fun E => ?_
 show Tri _ E ⟨23, [], []⟩ _ ⟨[(0, .b (.agg (eFrc x0)))], []⟩ _
 refine Tri.seq (Tri.regionL ?_)
 refine Oc (op_box (k := 101) rfl rfl) (Oc oa ?_)
 refine OpsL.nilS ⟨[(1, Pt 101 0)], [(101, .box 27 (eFrc x0))]⟩ rfl (Tri.seq (Tri.block (Tri.seq (Tri.regionL ?_))))
 refine Oc (lp tyAgg27) ?_
 obtain ⟨x_1, e1, h⟩ := bnd h
 refine Oc (op_call0 (q_Good_spec e1) goes26 rfl rfl) (Oc (op_not rfl) (Oc oa ?_))
 refine OpsL.nilS ⟨[(1, Pt 101 0), (3, B (!x_1))], [(101, .box 27 (eFrc x0))]⟩ rfl (Tri.ite h rfl (fun _ h => ?_) (fun _ h => ?_))
 ·refine Tri.seq (Tri.regionL ?_)
  refine Oc oa (OpsL.nilS ⟨[(2, .b (.one (.str [])))], []⟩ rfl (Tri.ret (Fin.block_ret (Fin.then_ret ?_))))
  obtain rfl := Option.some.inj h
  refine Fin.keepS ⟨[(2, .b (.one (.str [])))], []⟩ rfl (Fin.result' [.one (.str [])] (.inl rfl) rfl (.cons (.tmp rfl) .nil) ⟨rfl, rfl⟩)
 ·refine Tri.seq (Tri.keepS ⟨[(1, Pt 101 0)], [(101, .box 27 (eFrc x0))]⟩ rfl ?_)
  obtain ⟨x_2, e2, h⟩ := bnd h
  refine Tri.regionY mixed 5 [Pt 101 18, .b (.agg (eBig x0.D)), .b (.agg (eBig x_2)), B (decide (x0.D = x_2)), B (decide (x0.D = x_2))] [1, 7] [101] (s' := ⟨[(1, Pt 101 0), (7, B (decide (x0.D = x_2)))], [(101, .box 27 (eFrc x0))]⟩) rfl ⟨fun _ => .p (op_field_p tyFld27_1 rfl rfl), fun _ => .p (lp tyAgg25), fun _ => .p (op_call0 (q_one_spec e2) goes90 rfl rfl), fun _ => .p (op_eql_agg (eqAgg25 x0.D x_2) rfl rfl), fun _ => .p oa, trivial⟩ rfl rfl (Tri.ite h rfl (fun _ h => ?_) (fun _ h => ?_))
  ·refine Tri.seq (Tri.regionL ?_)
   refine Oc (op_field_p tyFld27_0 rfl rfl) (Oc (lp tyAgg25) ?_)
   obtain ⟨x_3, e3, h⟩ := bnd h
   refine Oc (op_call0 (w_Text_spec e3) goes109 rfl rfl) (Oc oa ?_)
   refine OpsL.nilS ⟨[(2, .b (.one (.str x_3)))], []⟩ rfl (Tri.ret (Fin.block_ret (Fin.then_ret ?_)))
   obtain rfl := Option.some.inj h
   refine Fin.keepS ⟨[(2, .b (.one (.str x_3)))], []⟩ rfl (Fin.result' [.one (.str x_3)] (.inl rfl) rfl (.cons (.tmp rfl) .nil) ⟨rfl, rfl⟩)
  ·refine Tri.skip (Fin.block_normal (Fin.keepS ⟨[(1, Pt 101 0)], [(101, .box 27 (eFrc x0))]⟩ rfl (Fin.then (Tri.seq ?_))))
   refine Tri.keepS ⟨[(1, Pt 101 0)], [(101, .box 27 (eFrc x0))]⟩ rfl ?_
   obtain ⟨x_4, e4, h⟩ := bnd h
   obtain ⟨x_5, e5, h⟩ := bnd h
   obtain ⟨x_6, e6, h⟩ := bnd h
   obtain ⟨x_7, e7, h⟩ := bnd h
   refine Tri.regionY mixed 9 [Pt 101 0, .b (.agg (eBig x0.N)), .b (.one (.str x_4)), .b (.one (.str x_5)), Pt 101 18, .b (.agg (eBig x0.D)), .b (.one (.str x_6)), .b (.one (.str x_7)), .b (.one (.str x_7))] [2] [] (s' := ⟨[(2, .b (.one (.str x_7)))], []⟩) rfl ⟨fun _ => .p (op_field_p tyFld27_0 rfl rfl), fun _ => .p (lp tyAgg25), fun _ => .p (op_call0 (w_Text_spec e4) goes109 rfl rfl), fun _ => .p (op_add_str2 e5 rfl rfl), fun _ => .p (op_field_p tyFld27_1 rfl rfl), fun _ => .p (lp tyAgg25), fun _ => .p (op_call0 (w_Text_spec e6) goes109 rfl rfl), fun _ => .p (op_add_str2 e7 rfl rfl), fun _ => .p oa, trivial⟩ rfl rfl (Tri.ret ?_)
   obtain rfl := Option.some.inj h
   refine Fin.keepS ⟨[(2, .b (.one (.str x_7)))], []⟩ rfl (Fin.result' [.one (.str x_7)] (.inl rfl) rfl (.cons (.tmp rfl) .nil) ⟨rfl, rfl⟩)
def l4_text_S (F : Nat) (x0 : Frc) (s0 : Str) : Option Bool :=
 (q_Text_S F x0).bind fun x_1 => some (decide (x_1 = s0))
theorem l4_text_spec {F : Nat} {x0 : Frc} {s0 : Str} {r : Bool} (h : l4_text_S F x0 s0 = some r) : Meets Tryz.prog (tabs mx) 87 [] [.agg (eFrc x0), .one (.str s0)] (Is [] (.b (.one (.bool r)))) := by
 unfold l4_text_S at h
 refine Meets.intro 9 Tryz.func87 Tryz.ntmps87 rfl (by simp) fun E => ?_
 show Tri _ E ⟨9, [], []⟩ _ ⟨[(0, .b (.agg (eFrc x0))), (1, .b (.one (.str s0)))], []⟩ _
 refine Tri.seq (Tri.regionL ?_)
 refine Oc (op_box (k := 101) rfl rfl) (Oc oa ?_)
 refine OpsL.nilS ⟨[(1, .b (.one (.str s0))), (2, Pt 101 0)], [(101, .box 27 (eFrc x0))]⟩ rfl (Tri.seq (Tri.regionL ?_))
 refine Oc (lp tyAgg27) ?_
 obtain ⟨x_1, e1, h⟩ := bnd h
 refine Oc (op_call0 (q_Text_spec e1) goes54 rfl rfl) (Oc om (Oc (op_eql_str rfl rfl) (Oc oa ?_)))
 refine OpsL.nilS ⟨[(4, B (decide (x_1 = s0)))], []⟩ rfl (Tri.ret ?_)
 obtain rfl := Option.some.inj h
 refine Fin.keepS ⟨[(4, B (decide (x_1 = s0)))], []⟩ rfl (Fin.result' [.one (.bool (decide (x_1 = s0)))] (.inl rfl) rfl (.cons (.tmp rfl) .nil) ⟨rfl, rfl⟩)
def w_Mul_S (F : Nat) (a0 : Big) (b0 : Big) : Option Big :=
 (w_good_S F [a0, b0]).bind fun x_1 => if (!x_1) = true then ((w_Bad_S F).bind fun x_2 => some x_2) else ((w_size_S F a0.W).bind fun x_3 => (w_size_S F b0.W).bind fun x_4 => Option.bind (iter F (un2 fun out_6 x_7 => if (decide (x_7 < x_3)) = true then (Option.bind (Option.bind (iter F (un3 fun out_12 carry_13 x_14 => if (decide (x_14 < x_4)) = true then ((idx? a0.W.l x_7).bind fun x_17 => (idx? b0.W.l x_14).bind fun x_18 => (idx? out_12.l (IntKind.i64.wrap (x_7 + x_14))).bind fun x_19 => letN (IntKind.u64.wrap (carry_13 + (IntKind.u64.wrap ((IntKind.u64.wrap ((IntKind.u64.wrap x_17) * (IntKind.u64.wrap x_18))) + (IntKind.u64.wrap x_19))))) fun x_20 => (idx? out_12.l (IntKind.i64.wrap (x_7 + x_14))).bind fun x_21 => letN (IntKind.u64.wrap (carry_13 + (IntKind.u64.wrap ((IntKind.u64.wrap ((IntKind.u64.wrap x_17) * (IntKind.u64.wrap x_18))) + (IntKind.u64.wrap x_19))))) fun x_22 => some (.inl (out_12.set (IntKind.i64.wrap (x_7 + x_14)) (IntKind.u32.wrap x_20), x_22 / 4294967296, IntKind.i64.wrap (x_14 + 1)))) else (some (.inr (out_12, carry_13)))) (out_6, 0, 0)) (un2 fun out_10 carry_11 => (idx? out_10.l (IntKind.i64.wrap (x_7 + x_4))).bind fun x_23 => some (out_10.set (IntKind.i64.wrap (x_7 + x_4)) (IntKind.u32.wrap carry_11)))) (fun out_9 => some (.inl (out_9, IntKind.i64.wrap (x_7 + 1))))) else (some (.inr out_6))) (A32.zero, 0)) (fun out_5 => letN (⟨out_5.a16, out_5.a17, out_5.a18, out_5.a19, out_5.a20, out_5.a21, out_5.a22, out_5.a23, out_5.a24, out_5.a25, out_5.a26, out_5.a27, out_5.a28, out_5.a29, out_5.a30, out_5.a31⟩ : A16) fun x_24 => if (decide (x_24 ≠ A16.zero)) = true then ((w_Bad_S F).bind fun x_25 => some x_25) else ((w_signed_S F (a0.Neg != b0.Neg) (⟨out_5.a0, out_5.a1, out_5.a2, out_5.a3, out_5.a4, out_5.a5, out_5.a6, out_5.a7, out_5.a8, out_5.a9, out_5.a10, out_5.a11, out_5.a12, out_5.a13, out_5.a14, out_5.a15⟩ : A16)).bind fun x_26 => some x_26)))
theorem w_Mul_spec {F : Nat} {a0 : Big} {b0 : Big} {r : Big} (h : w_Mul_S F a0 b0 = some r) : Meets Tryz.prog (tabs mx) 102 [] [.agg (eBig a0), .agg (eBig b0)] (Is [] (.b (.agg (eBig r)))) := by
 unfold w_Mul_S at h
 refine Meets.intro 82 Tryz.func102 Tryz.ntmps102 rfl (by simp) fun E => ?_
 show Tri _ E ⟨82, [], []⟩ _ ⟨[(0, .b (.agg (eBig a0))), (1, .b (.agg (eBig b0)))], []⟩ _
 refine Tri.seq (Tri.regionL ?_)
 refine Oc (op_box (k := 101) rfl rfl) (Oc (op_box (k := 102) rfl rfl) (Oc (op_alloc (k := 103) tyZero25 rfl) ?_))
 refine OpsL.nilS ⟨[(2, Pt 101 0), (3, Pt 102 0), (4, Pt 103 0)], [(101, .box 25 (eBig a0)), (102, .box 25 (eBig b0)), (103, .box 25 zBig)]⟩ rfl (Tri.seq (Tri.seq (Tri.regionL ?_)))
 refine Oc (lp tyAgg25) (Oc (lp tyAgg25) (Oc (op_buildSlice (k := 104) (es := [a0, b0].map eBig) tySl117 rfl rfl (uni_map fun _ => rfl) rfl (by decide) (by decide) rfl) ?_))
 obtain ⟨x_1, e1, h⟩ := bnd h
 refine Oc (op_callB (w_good_spec e1) goes113 rfl CP.flat_bool) (Oc (op_not rfl) ?_)
 refine OpsL.nilS ⟨[(2, Pt 101 0), (3, Pt 102 0), (4, Pt 103 0), (15, B (!x_1))], [(101, .box 25 (eBig a0)), (102, .box 25 (eBig b0)), (103, .box 25 zBig)]⟩ rfl (Tri.ite h rfl (fun _ h => ?_) (fun _ h => ?_))
 ·refine Tri.seq (Tri.regionL ?_)
  obtain ⟨x_2, e2, h⟩ := bnd h
  refine Oc (op_call0 (w_Bad_spec e2) goes92 rfl rfl) (Oc (op_store_p tyAgg25 rfl rfl rfl rfl (Nat.le_of_ble_eq_true rfl) rfl) ?_)
  refine OpsL.nilS ⟨[(4, Pt 103 0)], [(103, .box 25 (eBig x_2))]⟩ rfl (Tri.ret (Fin.then_ret ?_))
  obtain rfl := Option.some.inj h
  refine Fin.keepS ⟨[(4, Pt 103 0)], [(103, .box 25 (eBig x_2))]⟩ rfl (Fin.result' [.agg (eBig x_2)] (.inl rfl) rfl (.cons (.agg tyAgg25 rfl rfl rfl rfl) .nil) ⟨rfl, rfl⟩)
 ·refine Tri.skip (Fin.keepS ⟨[(2, Pt 101 0), (3, Pt 102 0), (4, Pt 103 0)], [(101, .box 25 (eBig a0)), (102, .box 25 (eBig b0)), (103, .box 25 zBig)]⟩ rfl (Fin.then (Tri.seq (Tri.regionL ?_))))
  refine Oc (op_alloc (k := 105) tyZero109 rfl) (OpsL.nilS ⟨[(2, Pt 101 0), (3, Pt 102 0), (4, Pt 103 0), (5, Pt 105 0)], [(101, .box 25 (eBig a0)), (102, .box 25 (eBig b0)), (103, .box 25 zBig), (105, .box 109 ((eA32 .u32) A32.zero))]⟩ rfl (Tri.seq ?_))
  obtain ⟨x_3, e3, h⟩ := bnd h
  obtain ⟨x_4, e4, h⟩ := bnd h
  refine Tri.regionY mixed 8 [Pt 101 2, .b (.agg (eW a0.W)), I x_3, Pt 102 2, .b (.agg (eW b0.W)), I x_4, I x_3, I x_4] [2, 3, 4, 5, 6, 7] [101, 102, 103, 105] (s' := ⟨[(2, Pt 101 0), (3, Pt 102 0), (4, Pt 103 0), (5, Pt 105 0), (6, I x_3), (7, I x_4)], [(101, .box 25 (eBig a0)), (102, .box 25 (eBig b0)), (103, .box 25 zBig), (105, .box 109 ((eA32 .u32) A32.zero))]⟩) rfl ⟨fun _ => .p (op_field_p tyFld25_2 rfl rfl), fun _ => .p (lp tyAgg23), fun _ => .p (op_call0 (w_size_spec e3) goes114 rfl rfl), fun _ => .p (op_field_p tyFld25_2 rfl rfl), fun _ => .p (lp tyAgg23), fun _ => .p (op_call0 (w_size_spec e4) goes114 rfl rfl), fun _ => .p oa, fun _ => .p oa, trivial⟩ rfl rfl ?_
  obtain ⟨v5, h6, h⟩ := bnd h
  refine Tri.seqJ (v := v5) (fun (out_5 : A32) => ⟨[(2, Pt 101 0), (3, Pt 102 0), (4, Pt 103 0), (5, Pt 105 0)], [(101, .box 25 (eBig a0)), (102, .box 25 (eBig b0)), (103, .box 25 zBig), (105, .box 109 ((eA32 .u32) out_5))]⟩) (fun z => z) ?_ ?_
  ·refine Tri.seq (Tri.regionL ?_)
   refine Oc om (Oc om ?_)
   refine OpsL.nilS ⟨[(2, Pt 101 0), (3, Pt 102 0), (4, Pt 103 0), (5, Pt 105 0), (7, I x_4), (23, I x_3), (24, I 0)], [(101, .box 25 (eBig a0)), (102, .box 25 (eBig b0)), (103, .box 25 zBig), (105, .box 109 ((eA32 .u32) A32.zero))]⟩ rfl (Tri.block (Tri.loopJ h6 (un2 fun (out_6 : A32) (x_7 : Int) => ⟨[(2, Pt 101 0), (3, Pt 102 0), (4, Pt 103 0), (5, Pt 105 0), (7, I x_4), (23, I x_3), (24, I x_7)], [(101, .box 25 (eBig a0)), (102, .box 25 (eBig b0)), (103, .box 25 zBig), (105, .box 109 ((eA32 .u32) out_6))]⟩) [2, 3, 4, 5, 7, 23, 24] [101, 102, 103, 105] rfl ?_))
   rintro ⟨out_6, x_7⟩ o7 h8 hy9
   refine Tri.seq (Tri.regionL ?_)
   refine Oc (op_lss rfl rfl) (OpsL.nilS ⟨[(2, Pt 101 0), (3, Pt 102 0), (4, Pt 103 0), (5, Pt 105 0), (7, I x_4), (23, I x_3), (24, I x_7), (25, B (decide (x_7 < x_3)))], [(101, .box 25 (eBig a0)), (102, .box 25 (eBig b0)), (103, .box 25 zBig), (105, .box 109 ((eA32 .u32) out_6))]⟩ rfl (Tri.seq (Tri.ite h8 rfl (fun _ h8 => ?_) (fun _ h8 => ?_))))
   ·refine Tri.skip (Fin.keepS ⟨[(2, Pt 101 0), (3, Pt 102 0), (4, Pt 103 0), (5, Pt 105 0), (7, I x_4), (23, I x_3), (24, I x_7)], [(101, .box 25 (eBig a0)), (102, .box 25 (eBig b0)), (103, .box 25 zBig), (105, .box 109 ((eA32 .u32) out_6))]⟩ rfl (Fin.then ?_))
    obtain ⟨v10, h11, h8⟩ := bnd h8
    refine Tri.seqJ (v := v10) (fun (out_9 : A32) => ⟨[(2, Pt 101 0), (3, Pt 102 0), (4, Pt 103 0), (5, Pt 105 0), (7, I x_4), (23, I x_3), (24, I x_7)], [(101, .box 25 (eBig a0)), (102, .box 25 (eBig b0)), (103, .box 25 zBig), (105, .box 109 ((eA32 .u32) out_9))]⟩) (fun z => z) ?_ ?_
    ·refine Tri.block (Tri.seq (Tri.regionL ?_))
     refine Oc om (Oc oa ?_)
     refine OpsL.nilS ⟨[(2, Pt 101 0), (3, Pt 102 0), (4, Pt 103 0), (5, Pt 105 0), (7, I x_4), (8, I x_7), (23, I x_3), (24, I x_7)], [(101, .box 25 (eBig a0)), (102, .box 25 (eBig b0)), (103, .box 25 zBig), (105, .box 109 ((eA32 .u32) out_6))]⟩ rfl (Tri.seq (Tri.regionL ?_))
     refine Oc oa (OpsL.nilS ⟨[(2, Pt 101 0), (3, Pt 102 0), (4, Pt 103 0), (5, Pt 105 0), (7, I x_4), (8, I x_7), (9, .b (.one (.int .u64 0))), (23, I x_3), (24, I x_7)], [(101, .box 25 (eBig a0)), (102, .box 25 (eBig b0)), (103, .box 25 zBig), (105, .box 109 ((eA32 .u32) out_6))]⟩ rfl ?_)
     obtain ⟨v12, h13, h11⟩ := bnd h11
     refine Tri.seqJ (v := v12) (un2 fun (out_10 : A32) (carry_11 : Int) => ⟨[(2, Pt 101 0), (3, Pt 102 0), (4, Pt 103 0), (5, Pt 105 0), (7, I x_4), (8, I x_7), (9, .b (.one (.int .u64 carry_11))), (23, I x_3), (24, I x_7)], [(101, .box 25 (eBig a0)), (102, .box 25 (eBig b0)), (103, .box 25 zBig), (105, .box 109 ((eA32 .u32) out_10))]⟩) (fun z => z) ?_ ?_
     ·refine Tri.seq (Tri.regionL ?_)
      refine Oc om (Oc om ?_)
      refine OpsL.nilS ⟨[(2, Pt 101 0), (3, Pt 102 0), (4, Pt 103 0), (5, Pt 105 0), (7, I x_4), (8, I x_7), (9, .b (.one (.int .u64 0))), (23, I x_3), (24, I x_7), (27, I x_4), (28, I 0)], [(101, .box 25 (eBig a0)), (102, .box 25 (eBig b0)), (103, .box 25 zBig), (105, .box 109 ((eA32 .u32) out_6))]⟩ rfl (Tri.block (Tri.loopJ h13 (un3 fun (out_12 : A32) (carry_13 : Int) (x_14 : Int) => ⟨[(2, Pt 101 0), (3, Pt 102 0), (4, Pt 103 0), (5, Pt 105 0), (7, I x_4), (8, I x_7), (9, .b (.one (.int .u64 carry_13))), (23, I x_3), (24, I x_7), (27, I x_4), (28, I x_14)], [(101, .box 25 (eBig a0)), (102, .box 25 (eBig b0)), (103, .box 25 zBig), (105, .box 109 ((eA32 .u32) out_12))]⟩) [2, 3, 4, 5, 7, 8, 9, 23, 24, 27, 28] [101, 102, 103, 105] rfl ?_))
      rintro ⟨out_12, carry_13, x_14⟩ o14 h15 hy16
      refine Tri.seq (Tri.regionL ?_)
      refine Oc (op_lss rfl rfl) (OpsL.nilS ⟨[(2, Pt 101 0), (3, Pt 102 0), (4, Pt 103 0), (5, Pt 105 0), (7, I x_4), (8, I x_7), (9, .b (.one (.int .u64 carry_13))), (23, I x_3), (24, I x_7), (27, I x_4), (28, I x_14), (29, B (decide (x_14 < x_4)))], [(101, .box 25 (eBig a0)), (102, .box 25 (eBig b0)), (103, .box 25 zBig), (105, .box 109 ((eA32 .u32) out_12))]⟩ rfl (Tri.seq (Tri.ite h15 rfl (fun _ h15 => ?_) (fun _ h15 => ?_))))
      ·refine Tri.skip (Fin.keepS ⟨[(2, Pt 101 0), (3, Pt 102 0), (4, Pt 103 0), (5, Pt 105 0), (7, I x_4), (8, I x_7), (9, .b (.one (.int .u64 carry_13))), (23, I x_3), (24, I x_7), (27, I x_4), (28, I x_14)], [(101, .box 25 (eBig a0)), (102, .box 25 (eBig b0)), (103, .box 25 zBig), (105, .box 109 ((eA32 .u32) out_12))]⟩ rfl (Fin.then (Tri.seq (Tri.block (Tri.seq (Tri.regionL ?_))))))
       refine Oc om (Oc oa ?_)
       refine OpsL.nilS ⟨[(2, Pt 101 0), (3, Pt 102 0), (4, Pt 103 0), (5, Pt 105 0), (7, I x_4), (8, I x_7), (9, .b (.one (.int .u64 carry_13))), (10, I x_14), (23, I x_3), (24, I x_7), (27, I x_4), (28, I x_14)], [(101, .box 25 (eBig a0)), (102, .box 25 (eBig b0)), (103, .box 25 zBig), (105, .box 109 ((eA32 .u32) out_12))]⟩ rfl (Tri.seq ?_)
       obtain ⟨x_17, e17, h15⟩ := bnd h15
       obtain ⟨x_18, e18, h15⟩ := bnd h15
       obtain ⟨x_19, e19, h15⟩ := bnd h15
       refine Tri.regionY mixed 20 [.b (.one (.int .u64 carry_13)), I x_7, Pt 101 2, .b (.ptr 101 (2 + (x_7 : Int).toNat * 1)), .b (.one (.int .u32 x_17)), .b (.one (.int .u64 (IntKind.u64.wrap x_17))), I x_14, Pt 102 2, .b (.ptr 102 (2 + (x_14 : Int).toNat * 1)), .b (.one (.int .u32 x_18)), .b (.one (.int .u64 (IntKind.u64.wrap x_18))), .b (.one (.int .u64 (IntKind.u64.wrap ((IntKind.u64.wrap x_17) * (IntKind.u64.wrap x_18))))), I x_7, I x_14, I (IntKind.i64.wrap (x_7 + x_14)), .b (.ptr 105 (0 + (IntKind.i64.wrap (x_7 + x_14) : Int).toNat * 1)), .b (.one (.int .u32 x_19)), .b (.one (.int .u64 (IntKind.u64.wrap x_19))), .b (.one (.int .u64 (IntKind.u64.wrap ((IntKind.u64.wrap ((IntKind.u64.wrap x_17) * (IntKind.u64.wrap x_18))) + (IntKind.u64.wrap x_19))))), .b (.one (.int .u64 (IntKind.u64.wrap (carry_13 + (IntKind.u64.wrap ((IntKind.u64.wrap ((IntKind.u64.wrap x_17) * (IntKind.u64.wrap x_18))) + (IntKind.u64.wrap x_19)))))))] [2, 3, 4, 5, 7, 8, 9, 10, 23, 24, 27, 28] [101, 102, 103, 105] (s' := ⟨[(2, Pt 101 0), (3, Pt 102 0), (4, Pt 103 0), (5, Pt 105 0), (7, I x_4), (8, I x_7), (9, .b (.one (.int .u64 (IntKind.u64.wrap (carry_13 + (IntKind.u64.wrap ((IntKind.u64.wrap ((IntKind.u64.wrap x_17) * (IntKind.u64.wrap x_18))) + (IntKind.u64.wrap x_19)))))))), (10, I x_14), (23, I x_3), (24, I x_7), (27, I x_4), (28, I x_14)], [(101, .box 25 (eBig a0)), (102, .box 25 (eBig b0)), (103, .box 25 zBig), (105, .box 109 ((eA32 .u32) out_12))]⟩) rfl ⟨fun _ => .p om, fun _ => .p om, fun _ => .p (op_field_p tyFld25_2 rfl rfl), fun _ => .p (op_index_p tyArr23 (ix_lo e17) (ix_hi e17) rfl rfl rfl), fun _ => .p (op_load_p1 tyOne22 rfl rfl (arr_get (post := []) (k := .u32) [.bool a0.Bad, .bool a0.Neg] e17 rfl rfl rfl)), fun _ => .p (op_conv_wrap undi22 undi79 rfl), fun _ => .p om, fun _ => .p (op_field_p tyFld25_2 rfl rfl), fun _ => .p (op_index_p tyArr23 (ix_lo e18) (ix_hi e18) rfl rfl rfl), fun _ => .p (op_load_p1 tyOne22 rfl rfl (arr_get (post := []) (k := .u32) [.bool b0.Bad, .bool b0.Neg] e18 rfl rfl rfl)), fun _ => .p (op_conv_wrap undi22 undi79 rfl), fun _ => .p (op_mul rfl rfl), fun _ => .p om, fun _ => .p om, fun _ => .p (op_add rfl rfl), fun _ => .p (op_index_p tyArr109 (ix_lo e19) (ix_hi e19) rfl rfl rfl), fun _ => .p (op_load_p1 tyOne22 rfl rfl (arr_get (post := []) (k := .u32) [] e19 rfl rfl rfl)), fun _ => .p (op_conv_wrap undi22 undi79 rfl), fun _ => .p (op_add rfl rfl), fun _ => .p (op_add rfl rfl), trivial⟩ ⟨_, by exact .p oa, rfl⟩ rfl (Tri.seq (Tri.regionL ?_))
       refine Oc om (Oc om (Oc (op_add rfl rfl) ?_))
       refine OpsL.consI .u64 h15 rfl om (fun x_20 h15 => ?_)
       refine Oc (op_conv_wrap undi79 undi22 rfl) ?_
       obtain ⟨x_21, e20, h15⟩ := bnd h15
       refine Oc (op_index_p tyArr109 (ix_lo e20) (ix_hi e20) rfl rfl rfl) (Oc (op_store_p1 tyOne22 rfl rfl rfl (arr_lt (post := []) (k := .u32) [] e20 rfl rfl rfl) (arr_set (post := []) (k := .u32) [] e20 rfl rfl (A32.set_l out_12 (IntKind.i64.wrap (x_7 + x_14)) (IntKind.u32.wrap x_20)) rfl rfl)) ?_)
       refine OpsL.nilS ⟨[(2, Pt 101 0), (3, Pt 102 0), (4, Pt 103 0), (5, Pt 105 0), (7, I x_4), (8, I x_7), (9, .b (.one (.int .u64 (IntKind.u64.wrap (carry_13 + (IntKind.u64.wrap ((IntKind.u64.wrap ((IntKind.u64.wrap x_17) * (IntKind.u64.wrap x_18))) + (IntKind.u64.wrap x_19)))))))), (23, I x_3), (24, I x_7), (27, I x_4), (28, I x_14)], [(101, .box 25 (eBig a0)), (102, .box 25 (eBig b0)), (103, .box 25 zBig), (105, .box 109 ((eA32 .u32) (out_12.set (IntKind.i64.wrap (x_7 + x_14)) (IntKind.u32.wrap x_20))))]⟩ rfl (Tri.regionL (OpsL.consI .u64 h15 rfl om (fun x_22 h15 => ?_)))
       refine Oc (op_shr2 (m := 32) (by decide) rfl rfl rfl) (Oc oa ?_)
       refine OpsL.nil (Fin.block_normal (Fin.keepS ⟨[(2, Pt 101 0), (3, Pt 102 0), (4, Pt 103 0), (5, Pt 105 0), (7, I x_4), (8, I x_7), (9, .b (.one (.int .u64 (x_22 / 4294967296)))), (23, I x_3), (24, I x_7), (27, I x_4), (28, I x_14)], [(101, .box 25 (eBig a0)), (102, .box 25 (eBig b0)), (103, .box 25 zBig), (105, .box 109 ((eA32 .u32) (out_12.set (IntKind.i64.wrap (x_7 + x_14)) (IntKind.u32.wrap x_20))))]⟩ rfl (Fin.then (Tri.regionL ?_))))
       refine Oc (op_add rfl rfl) (Oc om ?_)
       refine OpsL.nil ?_
       exact Fin.againJ [2, 3, 4, 5, 7, 8, 9, 23, 24, 27, 28] [101, 102, 103, 105] (out_12.set (IntKind.i64.wrap (x_7 + x_14)) (IntKind.u32.wrap x_20), x_22 / 4294967296, IntKind.i64.wrap (x_14 + 1)) (Option.some.inj h15) rfl
      ·refine Tri.exit (Fin.then_exit ?_)
       obtain rfl := hy16 _ (Option.some.inj h15).symm
       refine Fin.then_exit (Fin.block_exit ?_)
       exact Fin.join [2, 3, 4, 5, 7, 8, 9, 23, 24] [101, 102, 103, 105] (out_12, carry_13) rfl rfl
     ·rintro ⟨out_10, carry_11⟩ hv
      subst v12
      refine Tri.regionL (Oc om (Oc om (Oc (op_add rfl rfl) (Oc om (Oc (op_conv_wrap undi79 undi22 rfl) ?_)))))
      obtain ⟨x_23, e21, h11⟩ := bnd h11
      refine Oc (op_index_p tyArr109 (ix_lo e21) (ix_hi e21) rfl rfl rfl) (Oc (op_store_p1 tyOne22 rfl rfl rfl (arr_lt (post := []) (k := .u32) [] e21 rfl rfl rfl) (arr_set (post := []) (k := .u32) [] e21 rfl rfl (A32.set_l out_10 (IntKind.i64.wrap (x_7 + x_4)) (IntKind.u32.wrap carry_11)) rfl rfl)) ?_)
      refine OpsL.nil (Fin.block_normal ?_)
      exact Fin.join [2, 3, 4, 5, 7, 23, 24] [101, 102, 103, 105] (out_10.set (IntKind.i64.wrap (x_7 + x_4)) (IntKind.u32.wrap carry_11)) (Option.some.inj h11) rfl
    ·rintro out_9 hv
     subst v10
     refine Tri.regionL (Oc (op_add rfl rfl) (Oc om ?_))
     refine OpsL.nil ?_
     exact Fin.againJ [2, 3, 4, 5, 7, 23, 24] [101, 102, 103, 105] (out_9, IntKind.i64.wrap (x_7 + 1)) (Option.some.inj h8) rfl
   ·refine Tri.exit (Fin.then_exit ?_)
    obtain rfl := hy9 _ (Option.some.inj h8).symm
    refine Fin.then_exit (Fin.block_exit ?_)
    exact Fin.join [2, 3, 4, 5] [101, 102, 103, 105] out_6 rfl rfl
  ·rintro out_5 hv
   subst v5
   refine Tri.seq (Tri.seq (Tri.regionL ?_))
   refine Oc (op_slice_al (i := 16) tyArr109 (by decide) (by decide) rfl rfl) (Oc (op_toArr tyArr23 (by decide) rfl) ?_)
   refine OpsL.consA eW h rfl (lp tyAgg23) (fun x_24 h => ?_)
   refine Oc (op_buildA tyBuild23 rfl rfl) (Oc (op_neq_agg (eqAgg23 x_24 A16.zero) rfl rfl neg_dec) ?_)
   refine OpsL.nilS ⟨[(2, Pt 101 0), (3, Pt 102 0), (4, Pt 103 0), (5, Pt 105 0), (71, B (decide (x_24 ≠ A16.zero)))], [(101, .box 25 (eBig a0)), (102, .box 25 (eBig b0)), (103, .box 25 zBig), (105, .box 109 ((eA32 .u32) out_5))]⟩ rfl (Tri.ite h rfl (fun _ h => ?_) (fun _ h => ?_))
   ·refine Tri.seq (Tri.regionL ?_)
    obtain ⟨x_25, e22, h⟩ := bnd h
    refine Oc (op_call0 (w_Bad_spec e22) goes92 rfl rfl) (Oc (op_store_p tyAgg25 rfl rfl rfl rfl (Nat.le_of_ble_eq_true rfl) rfl) ?_)
    refine OpsL.nilS ⟨[(4, Pt 103 0)], [(103, .box 25 (eBig x_25))]⟩ rfl (Tri.ret (Fin.then_ret ?_))
    obtain rfl := Option.some.inj h
    refine Fin.keepS ⟨[(4, Pt 103 0)], [(103, .box 25 (eBig x_25))]⟩ rfl (Fin.result' [.agg (eBig x_25)] (.inl rfl) rfl (.cons (.agg tyAgg25 rfl rfl rfl rfl) .nil) ⟨rfl, rfl⟩)
   ·refine Tri.skip (Fin.keepS ⟨[(2, Pt 101 0), (3, Pt 102 0), (4, Pt 103 0), (5, Pt 105 0)], [(101, .box 25 (eBig a0)), (102, .box 25 (eBig b0)), (103, .box 25 zBig), (105, .box 109 ((eA32 .u32) out_5))]⟩ rfl (Fin.then (Tri.seq ?_)))
    refine Tri.keepS ⟨[(2, Pt 101 0), (3, Pt 102 0), (4, Pt 103 0), (5, Pt 105 0)], [(101, .box 25 (eBig a0)), (102, .box 25 (eBig b0)), (103, .box 25 zBig), (105, .box 109 ((eA32 .u32) out_5))]⟩ rfl ?_
    obtain ⟨x_26, e23, h⟩ := bnd h
    refine Tri.regionY mixed 9 [Pt 101 1, B a0.Neg, Pt 102 1, B b0.Neg, B (a0.Neg != b0.Neg), .b (.psl 105 0 16 32), Pt 105 0, .b (.agg [.int .u32 out_5.a0, .int .u32 out_5.a1, .int .u32 out_5.a2, .int .u32 out_5.a3, .int .u32 out_5.a4, .int .u32 out_5.a5, .int .u32 out_5.a6, .int .u32 out_5.a7, .int .u32 out_5.a8, .int .u32 out_5.a9, .int .u32 out_5.a10, .int .u32 out_5.a11, .int .u32 out_5.a12, .int .u32 out_5.a13, .int .u32 out_5.a14, .int .u32 out_5.a15]), .b (.agg (eBig x_26))] [4] [103] (s' := ⟨[(4, Pt 103 0)], [(103, .box 25 (eBig x_26))]⟩) rfl ⟨fun _ => .p (op_field_p tyFld25_1 rfl rfl), fun _ => .p (op_load_p1 tyOne4 rfl rfl rfl), fun _ => .p (op_field_p tyFld25_1 rfl rfl), fun _ => .p (op_load_p1 tyOne4 rfl rfl rfl), fun _ => .p (op_neq_bool und4 rfl rfl), fun _ => .p (op_slice_ah (i := 16) tyArr109 (by decide) (by decide) rfl rfl), fun _ => .p (op_toArr tyArr23 (by decide) rfl), fun _ => .p (lp tyAgg23), fun _ => .p (op_call0 (w_signed_spec e23) goes115 rfl rfl), trivial⟩ ⟨_, by exact .p (op_store_p tyAgg25 rfl rfl rfl rfl (Nat.le_of_ble_eq_true rfl) rfl), rfl⟩ rfl (Tri.ret ?_)
    obtain rfl := Option.some.inj h
    refine Fin.keepS ⟨[(4, Pt 103 0)], [(103, .box 25 (eBig x_26))]⟩ rfl (Fin.result' [.agg (eBig x_26)] (.inl rfl) rfl (.cons (.agg tyAgg25 rfl rfl rfl rfl) .nil) ⟨rfl, rfl⟩)
def q_Add_S (F : Nat) (x0 : Frc) (y0 : Frc) : Option Frc :=
 (q_Good_S F x0).bind fun x_1 => (gcall (!(!x_1)) (q_Good_S F y0)).bind fun x_2 => if ((!x_1) || (!x_2)) = true then ((q_Bad_S F).bind fun x_3 => some x_3) else ((w_Gcd_S F x0.D y0.D).bind fun x_4 => (w_Quo_S F x0.D x_4).bind fun x_5 => (w_Quo_S F y0.D x_4).bind fun x_6 => (w_Mul_S F x0.N x_6).bind fun x_7 => (w_Mul_S F y0.N x_5).bind fun x_8 => (w_Add_S F x_7 x_8).bind fun x_9 => (w_Mul_S F x_5 y0.D).bind fun x_10 => (q_Make_S F x_9 x_10).bind fun x_11 => some x_11)
theorem q_Add_spec {F : Nat} {x0 : Frc} {y0 : Frc} {r : Frc} (h : q_Add_S F x0 y0 = some r) : Meets Tryz.prog (tabs mx) 42 [] [.agg (eFrc x0), .agg (eFrc y0)] (Is [] (.b (.agg (eFrc r)))) := by
 unfold q_Add_S at h
 refine Meets.intro 44 Tryz.func42 Tryz.ntmps42 rfl (by simp) fun E => ?_
 show Tri _ E ⟨44, [], []⟩ _ ⟨[(0, .b (.agg (eFrc x0))), (1, .b (.agg (eFrc y0)))], []⟩ _
 refine Tri.seq (Tri.regionL ?_)
 refine Oc (op_box (k := 101) rfl rfl) (Oc (op_box (k := 102) rfl rfl) (Oc (op_alloc (k := 103) tyZero27 rfl) ?_))
 refine OpsL.nilS ⟨[(2, Pt 101 0), (3, Pt 102 0), (4, Pt 103 0)], [(101, .box 27 (eFrc x0)), (102, .box 27 (eFrc y0)), (103, .box 27 zFrc)]⟩ rfl (Tri.seq (Tri.seq (Tri.regionL ?_)))
 refine Oc (lp tyAgg27) ?_
 obtain ⟨x_1, e1, h⟩ := bnd h
 refine Oc (op_call0 (q_Good_spec e1) goes26 rfl rfl) (Oc (op_not rfl) (Oc om ?_))
 refine CgF (!(!x_1)) [] (fun g2 => trivial) (fun g2 => lp tyAgg27) (OpsL.keepS ⟨[(2, Pt 101 0), (3, Pt 102 0), (4, Pt 103 0), (11, B (!x_1)), (12, .opt (!(!x_1)) (.agg (eFrc y0)))], [(101, .box 27 (eFrc x0)), (102, .box 27 (eFrc y0)), (103, .box 27 zFrc)]⟩ rfl ?_)
 obtain ⟨x_2, e4, h⟩ := bnd h
 refine CgF (!(!x_1)) [12] (fun g3 => ⟨g3, trivial⟩) (fun g3 => op_call0 (q_Good_spec (gc e4 g3)) goes26 rfl rfl) (CgF (!(!x_1)) [13] (fun g5 => ⟨g5, trivial⟩) (fun g5 => op_not rfl) (Oc (op_pick_or (fun e => by rw [e]; rfl) rfl rfl rfl rfl) (OpsL.nilS ⟨[(2, Pt 101 0), (3, Pt 102 0), (4, Pt 103 0), (15, B ((!x_1) || (!x_2)))], [(101, .box 27 (eFrc x0)), (102, .box 27 (eFrc y0)), (103, .box 27 zFrc)]⟩ rfl (Tri.ite h rfl (fun _ h => ?_) (fun _ h => ?_)))))
 ·refine Tri.seq (Tri.regionL ?_)
  obtain ⟨x_3, e6, h⟩ := bnd h
  refine Oc (op_call0 (q_Bad_spec e6) goes27 rfl rfl) (Oc (op_store_p tyAgg27 rfl rfl rfl rfl (Nat.le_of_ble_eq_true rfl) rfl) ?_)
  refine OpsL.nilS ⟨[(4, Pt 103 0)], [(103, .box 27 (eFrc x_3))]⟩ rfl (Tri.ret (Fin.then_ret ?_))
  obtain rfl := Option.some.inj h
  refine Fin.keepS ⟨[(4, Pt 103 0)], [(103, .box 27 (eFrc x_3))]⟩ rfl (Fin.result' [.agg (eFrc x_3)] (.inl rfl) rfl (.cons (.agg tyAgg27 rfl rfl rfl rfl) .nil) ⟨rfl, rfl⟩)
 ·refine Tri.skip (Fin.keepS ⟨[(2, Pt 101 0), (3, Pt 102 0), (4, Pt 103 0)], [(101, .box 27 (eFrc x0)), (102, .box 27 (eFrc y0)), (103, .box 27 zFrc)]⟩ rfl (Fin.then (Tri.seq (Tri.regionL ?_))))
  refine Oc (op_field_p tyFld27_1 rfl rfl) (Oc (lp tyAgg25) (Oc (op_field_p tyFld27_1 rfl rfl) (Oc (lp tyAgg25) ?_)))
  obtain ⟨x_4, e7, h⟩ := bnd h
  refine Oc (op_call0 (w_Gcd_spec e7) goes73 rfl rfl) (Oc (op_alloc (k := 104) tyZero25 rfl) (Oc (op_store_p tyAgg25 rfl rfl rfl rfl (Nat.le_of_ble_eq_true rfl) rfl) ?_))
  refine OpsL.nilS ⟨[(2, Pt 101 0), (3, Pt 102 0), (4, Pt 103 0), (5, Pt 104 0)], [(101, .box 27 (eFrc x0)), (102, .box 27 (eFrc y0)), (103, .box 27 zFrc), (104, .box 25 (eBig x_4))]⟩ rfl (Tri.seq ?_)
  obtain ⟨x_5, e8, h⟩ := bnd h
  obtain ⟨x_6, e9, h⟩ := bnd h
  refine Tri.regionW mixed [false, false, false, false, false, false, false, false, true, true, true, true] [Pt 101 18, .b (.agg (eBig x0.D)), .b (.agg (eBig x_4)), .b (.agg (eBig x_5)), Pt 102 18, .b (.agg (eBig y0.D)), .b (.agg (eBig x_4)), .b (.agg (eBig x_6)), Pt 105 0, Pt 106 0, B true, B true] [⟨[false, false, false, false, false, false, false, false, false, false, false, false], [(2, Pt 101 0), (3, Pt 102 0), (4, Pt 103 0), (5, Pt 104 0)], [(101, .box 27 (eFrc x0)), (102, .box 27 (eFrc y0)), (103, .box 27 zFrc), (104, .box 25 (eBig x_4))], [true, true, true, true, true, true, true, true, true, true, true, true], []⟩, ⟨[false, false, false, false, false, false, false, false, true, false, false, false], [(2, Pt 101 0), (3, Pt 102 0), (4, Pt 103 0), (5, Pt 104 0)], [(101, .box 27 (eFrc x0)), (102, .box 27 (eFrc y0)), (103, .box 27 zFrc), (104, .box 25 (eBig x_4)), (105, .box 25 zBig)], [true, true, true, true, true, true, true, true, true, true, true, true], [8]⟩, ⟨[false, false, false, false, false, false, false, false, false, true, false, false], [(2, Pt 101 0), (3, Pt 102 0), (4, Pt 103 0), (5, Pt 104 0)], [(101, .box 27 (eFrc x0)), (102, .box 27 (eFrc y0)), (103, .box 27 zFrc), (104, .box 25 (eBig x_4)), (106, .box 25 zBig)], [true, true, true, true, true, true, true, true, true, true, true, true], [9]⟩, ⟨[false, false, false, false, false, false, false, false, true, true, false, false], [(2, Pt 101 0), (3, Pt 102 0), (4, Pt 103 0), (5, Pt 104 0)], [(101, .box 27 (eFrc x0)), (102, .box 27 (eFrc y0)), (103, .box 27 zFrc), (104, .box 25 (eBig x_4)), (105, .box 25 zBig), (106, .box 25 zBig)], [true, true, true, true, true, true, true, true, true, true, true, true], [8, 9]⟩, ⟨[false, false, false, false, false, false, false, false, true, true, true, false], [(2, Pt 101 0), (3, Pt 102 0), (4, Pt 103 0), (5, Pt 104 0)], [(101, .box 27 (eFrc x0)), (102, .box 27 (eFrc y0)), (103, .box 27 zFrc), (104, .box 25 (eBig x_4)), (105, .box 25 (eBig x_5)), (106, .box 25 zBig)], [true, true, true, true, true, true, true, true, true, true, true, true], [0, 1, 2, 3, 4, 5, 6, 7, 8, 9, 10]⟩, ⟨[false, false, false, false, false, false, false, false, true, true, true, true], [(2, Pt 101 0), (3, Pt 102 0), (4, Pt 103 0), (5, Pt 104 0)], [(101, .box 27 (eFrc x0)), (102, .box 27 (eFrc y0)), (103, .box 27 zFrc), (104, .box 25 (eBig x_4)), (105, .box 25 (eBig x_5)), (106, .box 25 (eBig x_6))], [true, true, true, true, true, true, true, true, true, true, true, true], [0, 1, 2, 3, 4, 5, 6, 7, 8, 9, 10, 11]⟩] rfl (⟨by kernel_rfl, ⟨⟨Pt 101 18, fun _ => rfl, fun _ => .p (by exact op_field_p tyFld27_1 rfl rfl)⟩, ⟨.b (.agg (eBig x0.D)), fun _ => rfl, fun _ => .p (by exact op_load_p tyAgg25 rfl rfl rfl rfl)⟩, ⟨.b (.agg (eBig x_4)), fun _ => rfl, fun _ => .p (by exact op_load_p tyAgg25 rfl rfl rfl rfl)⟩, ⟨.b (.agg (eBig x_5)), fun _ => rfl, fun _ => .p (by exact op_call0 (w_Quo_spec e8) goes75 rfl rfl)⟩, ⟨Pt 102 18, fun _ => rfl, fun _ => .p (by exact op_field_p tyFld27_1 rfl rfl)⟩, ⟨.b (.agg (eBig y0.D)), fun _ => rfl, fun _ => .p (by exact op_load_p tyAgg25 rfl rfl rfl rfl)⟩, ⟨.b (.agg (eBig x_4)), fun _ => rfl, fun _ => .p (by exact op_load_p tyAgg25 rfl rfl rfl rfl)⟩, ⟨.b (.agg (eBig x_6)), fun _ => rfl, fun _ => .p (by exact op_call0 (w_Quo_spec e9) goes75 rfl rfl)⟩, ⟨_, some 105, Pt 105 0, rfl, fun _ => rfl, rfl, rfl, fun _ => .toO [101, 102, 103, 104, 105] (by exact .p (by exact op_alloc (k := 105) tyZero25 rfl)) (by exact rfl)⟩, ⟨_, some 106, Pt 106 0, rfl, fun _ => rfl, rfl, rfl, fun _ => .toO [101, 102, 103, 104, 106] (by exact .p (by exact op_alloc (k := 106) tyZero25 rfl)) (by exact rfl)⟩, trivial, trivial, trivial⟩, ⟨by kernel_rfl, ⟨⟨Pt 101 18, fun _ => rfl, fun _ => .p (by exact op_field_p tyFld27_1 rfl rfl)⟩, ⟨.b (.agg (eBig x0.D)), fun _ => rfl, fun _ => .p (by exact op_load_p tyAgg25 rfl rfl rfl rfl)⟩, ⟨.b (.agg (eBig x_4)), fun _ => rfl, fun _ => .p (by exact op_load_p tyAgg25 rfl rfl rfl rfl)⟩, ⟨.b (.agg (eBig x_5)), fun _ => rfl, fun _ => .p (by exact op_call0 (w_Quo_spec e8) goes75 rfl rfl)⟩, ⟨Pt 102 18, fun _ => rfl, fun _ => .p (by exact op_field_p tyFld27_1 rfl rfl)⟩, ⟨.b (.agg (eBig y0.D)), fun _ => rfl, fun _ => .p (by exact op_load_p tyAgg25 rfl rfl rfl rfl)⟩, ⟨.b (.agg (eBig x_4)), fun _ => rfl, fun _ => .p (by exact op_load_p tyAgg25 rfl rfl rfl rfl)⟩, ⟨.b (.agg (eBig x_6)), fun _ => rfl, fun _ => .p (by exact op_call0 (w_Quo_spec e9) goes75 rfl rfl)⟩, trivial, ⟨_, some 106, Pt 106 0, rfl, fun _ => rfl, rfl, rfl, fun _ => .toO [101, 102, 103, 104, 105, 106] (by exact .p (by exact op_alloc (k := 106) tyZero25 rfl)) (by exact rfl)⟩, trivial, trivial, trivial⟩, ⟨by kernel_rfl, ⟨⟨Pt 101 18, fun _ => rfl, fun _ => .p (by exact op_field_p tyFld27_1 rfl rfl)⟩, ⟨.b (.agg (eBig x0.D)), fun _ => rfl, fun _ => .p (by exact op_load_p tyAgg25 rfl rfl rfl rfl)⟩, ⟨.b (.agg (eBig x_4)), fun _ => rfl, fun _ => .p (by exact op_load_p tyAgg25 rfl rfl rfl rfl)⟩, ⟨.b (.agg (eBig x_5)), fun _ => rfl, fun _ => .p (by exact op_call0 (w_Quo_spec e8) goes75 rfl rfl)⟩, ⟨Pt 102 18, fun _ => rfl, fun _ => .p (by exact op_field_p tyFld27_1 rfl rfl)⟩, ⟨.b (.agg (eBig y0.D)), fun _ => rfl, fun _ => .p (by exact op_load_p tyAgg25 rfl rfl rfl rfl)⟩, ⟨.b (.agg (eBig x_4)), fun _ => rfl, fun _ => .p (by exact op_load_p tyAgg25 rfl rfl rfl rfl)⟩, ⟨.b (.agg (eBig x_6)), fun _ => rfl, fun _ => .p (by exact op_call0 (w_Quo_spec e9) goes75 rfl rfl)⟩, ⟨_, some 105, Pt 105 0, rfl, fun _ => rfl, rfl, rfl, fun _ => .toO [101, 102, 103, 104, 105, 106] (by exact .p (by exact op_alloc (k := 105) tyZero25 rfl)) (by exact rfl)⟩, trivial, trivial, trivial, trivial⟩, ⟨by kernel_rfl, ⟨⟨Pt 101 18, fun _ => rfl, fun _ => .p (by exact op_field_p tyFld27_1 rfl rfl)⟩, ⟨.b (.agg (eBig x0.D)), fun _ => rfl, fun _ => .p (by exact op_load_p tyAgg25 rfl rfl rfl rfl)⟩, ⟨.b (.agg (eBig x_4)), fun _ => rfl, fun _ => .p (by exact op_load_p tyAgg25 rfl rfl rfl rfl)⟩, ⟨.b (.agg (eBig x_5)), fun _ => rfl, fun _ => .p (by exact op_call0 (w_Quo_spec e8) goes75 rfl rfl)⟩, ⟨Pt 102 18, fun _ => rfl, fun _ => .p (by exact op_field_p tyFld27_1 rfl rfl)⟩, ⟨.b (.agg (eBig y0.D)), fun _ => rfl, fun _ => .p (by exact op_load_p tyAgg25 rfl rfl rfl rfl)⟩, ⟨.b (.agg (eBig x_4)), fun _ => rfl, fun _ => .p (by exact op_load_p tyAgg25 rfl rfl rfl rfl)⟩, ⟨.b (.agg (eBig x_6)), fun _ => rfl, fun _ => .p (by exact op_call0 (w_Quo_spec e9) goes75 rfl rfl)⟩, trivial, trivial, ⟨_, none, .b (.one .any), rfl, (fun e => by simp at e), rfl, rfl, fun _ => .toO [101, 102, 103, 104, 105, 106] (by exact .p (by exact op_store_p tyAgg25 rfl rfl rfl rfl (Nat.le_of_ble_eq_true rfl) rfl)) (by exact rfl)⟩, trivial, trivial⟩, ⟨by kernel_rfl, ⟨trivial, trivial, trivial, trivial, trivial, trivial, trivial, trivial, trivial, trivial, trivial, ⟨_, none, .b (.one .any), rfl, (fun e => by simp at e), rfl, rfl, fun _ => .toO [101, 102, 103, 104, 105, 106] (by exact .p (by exact op_store_p tyAgg25 rfl rfl rfl rfl (Nat.le_of_ble_eq_true rfl) rfl)) (by exact rfl)⟩, trivial⟩, ⟨by kernel_rfl, ⟨trivial, trivial, trivial, trivial, trivial, trivial, trivial, trivial, trivial, trivial, trivial, trivial, trivial⟩, trivial⟩⟩⟩⟩⟩⟩) rfl rfl rfl [2, 3, 4, 6, 7] [101, 102, 103, 105, 106] (s' := ⟨[(2, Pt 101 0), (3, Pt 102 0), (4, Pt 103 0), (6, Pt 105 0), (7, Pt 106 0)], [(101, .box 27 (eFrc x0)), (102, .box 27 (eFrc y0)), (103, .box 27 zFrc), (105, .box 25 (eBig x_5)), (106, .box 25 (eBig x_6))]⟩) rfl ?_
  refine Tri.seq (Tri.keepS ⟨[(2, Pt 101 0), (3, Pt 102 0), (4, Pt 103 0), (6, Pt 105 0), (7, Pt 106 0)], [(101, .box 27 (eFrc x0)), (102, .box 27 (eFrc y0)), (103, .box 27 zFrc), (105, .box 25 (eBig x_5)), (106, .box 25 (eBig x_6))]⟩ rfl ?_)
  obtain ⟨x_7, e10, h⟩ := bnd h
  obtain ⟨x_8, e11, h⟩ := bnd h
  obtain ⟨x_9, e12, h⟩ := bnd h
  obtain ⟨x_10, e13, h⟩ := bnd h
  obtain ⟨x_11, e14, h⟩ := bnd h
  refine Tri.regionY mixed 14 [Pt 101 0, .b (.agg (eBig x0.N)), .b (.agg (eBig x_6)), .b (.agg (eBig x_7)), Pt 102 0, .b (.agg (eBig y0.N)), .b (.agg (eBig x_5)), .b (.agg (eBig x_8)), .b (.agg (eBig x_9)), .b (.agg (eBig x_5)), Pt 102 18, .b (.agg (eBig y0.D)), .b (.agg (eBig x_10)), .b (.agg (eFrc x_11))] [4] [103] (s' := ⟨[(4, Pt 103 0)], [(103, .box 27 (eFrc x_11))]⟩) rfl ⟨fun _ => .p (op_field_p tyFld27_0 rfl rfl), fun _ => .p (lp tyAgg25), fun _ => .p (lp tyAgg25), fun _ => .p (op_call0 (w_Mul_spec e10) goes102 rfl rfl), fun _ => .p (op_field_p tyFld27_0 rfl rfl), fun _ => .p (lp tyAgg25), fun _ => .p (lp tyAgg25), fun _ => .p (op_call0 (w_Mul_spec e11) goes102 rfl rfl), fun _ => .p (op_call0 (w_Add_spec e12) goes97 rfl rfl), fun _ => .p (lp tyAgg25), fun _ => .p (op_field_p tyFld27_1 rfl rfl), fun _ => .p (lp tyAgg25), fun _ => .p (op_call0 (w_Mul_spec e13) goes102 rfl rfl), fun _ => .p (op_call0 (q_Make_spec e14) goes11 rfl rfl), trivial⟩ ⟨_, by exact .p (op_store_p tyAgg27 rfl rfl rfl rfl (Nat.le_of_ble_eq_true rfl) rfl), rfl⟩ rfl (Tri.ret ?_)
  obtain rfl := Option.some.inj h
  refine Fin.keepS ⟨[(4, Pt 103 0)], [(103, .box 27 (eFrc x_11))]⟩ rfl (Fin.result' [.agg (eFrc x_11)] (.inl rfl) rfl (.cons (.agg tyAgg27 rfl rfl rfl rfl) .nil) ⟨rfl, rfl⟩)
def q_Mul_S (F : Nat) (x0 : Frc) (y0 : Frc) : Option Frc :=
 (q_Good_S F x0).bind fun x_1 => (gcall (!(!x_1)) (q_Good_S F y0)).bind fun x_2 => if ((!x_1) || (!x_2)) = true then ((q_Bad_S F).bind fun x_3 => some x_3) else ((q_Make_S F x0.N y0.D).bind fun x_4 => (q_Make_S F y0.N x0.D).bind fun x_5 => (w_Mul_S F x_4.N x_5.N).bind fun x_6 => (w_Mul_S F x_4.D x_5.D).bind fun x_7 => if (x_6.Bad || x_7.Bad) = true then ((q_Bad_S F).bind fun x_8 => some x_8) else (some (⟨x_6, x_7⟩ : Frc)))
theorem q_Mul_spec {F : Nat} {x0 : Frc} {y0 : Frc} {r : Frc} (h : q_Mul_S F x0 y0 = some r) : Meets Tryz.prog (tabs mx) 45 [] [.agg (eFrc x0), .agg (eFrc y0)] (Is [] (.b (.agg (eFrc r)))) := by
 unfold q_Mul_S at h
 refine Meets.intro 48 Tryz.func45 Tryz.ntmps45 rfl (by simp) fun E => ?_
 show Tri _ E ⟨48, [], []⟩ _ ⟨[(0, .b (.agg (eFrc x0))), (1, .b (.agg (eFrc y0)))], []⟩ _
 refine Tri.seq (Tri.regionL ?_)
 refine Oc (op_box (k := 101) rfl rfl) (Oc (op_box (k := 102) rfl rfl) (Oc (op_alloc (k := 103) tyZero27 rfl) ?_))
 refine OpsL.nilS ⟨[(2, Pt 101 0), (3, Pt 102 0), (4, Pt 103 0)], [(101, .box 27 (eFrc x0)), (102, .box 27 (eFrc y0)), (103, .box 27 zFrc)]⟩ rfl (Tri.seq (Tri.seq (Tri.regionL ?_)))
 refine Oc (lp tyAgg27) ?_
 obtain ⟨x_1, e1, h⟩ := bnd h
 refine Oc (op_call0 (q_Good_spec e1) goes26 rfl rfl) (Oc (op_not rfl) (Oc om ?_))
 refine CgF (!(!x_1)) [] (fun g2 => trivial) (fun g2 => lp tyAgg27) (OpsL.keepS ⟨[(2, Pt 101 0), (3, Pt 102 0), (4, Pt 103 0), (12, B (!x_1)), (13, .opt (!(!x_1)) (.agg (eFrc y0)))], [(101, .box 27 (eFrc x0)), (102, .box 27 (eFrc y0)), (103, .box 27 zFrc)]⟩ rfl ?_)
 obtain ⟨x_2, e4, h⟩ := bnd h
 refine CgF (!(!x_1)) [13] (fun g3 => ⟨g3, trivial⟩) (fun g3 => op_call0 (q_Good_spec (gc e4 g3)) goes26 rfl rfl) (CgF (!(!x_1)) [14] (fun g5 => ⟨g5, trivial⟩) (fun g5 => op_not rfl) (Oc (op_pick_or (fun e => by rw [e]; rfl) rfl rfl rfl rfl) (OpsL.nilS ⟨[(2, Pt 101 0), (3, Pt 102 0), (4, Pt 103 0), (16, B ((!x_1) || (!x_2)))], [(101, .box 27 (eFrc x0)), (102, .box 27 (eFrc y0)), (103, .box 27 zFrc)]⟩ rfl (Tri.ite h rfl (fun _ h => ?_) (fun _ h => ?_)))))
 ·refine Tri.seq (Tri.regionL ?_)
  obtain ⟨x_3, e6, h⟩ := bnd h
  refine Oc (op_call0 (q_Bad_spec e6) goes27 rfl rfl) (Oc (op_store_p tyAgg27 rfl rfl rfl rfl (Nat.le_of_ble_eq_true rfl) rfl) ?_)
  refine OpsL.nilS ⟨[(4, Pt 103 0)], [(103, .box 27 (eFrc x_3))]⟩ rfl (Tri.ret (Fin.then_ret ?_))
  obtain rfl := Option.some.inj h
  refine Fin.keepS ⟨[(4, Pt 103 0)], [(103, .box 27 (eFrc x_3))]⟩ rfl (Fin.result' [.agg (eFrc x_3)] (.inl rfl) rfl (.cons (.agg tyAgg27 rfl rfl rfl rfl) .nil) ⟨rfl, rfl⟩)
 ·refine Tri.skip (Fin.keepS ⟨[(2, Pt 101 0), (3, Pt 102 0), (4, Pt 103 0)], [(101, .box 27 (eFrc x0)), (102, .box 27 (eFrc y0)), (103, .box 27 zFrc)]⟩ rfl (Fin.then (Tri.seq ?_)))
  refine Tri.keepS ⟨[(2, Pt 101 0), (3, Pt 102 0), (4, Pt 103 0)], [(101, .box 27 (eFrc x0)), (102, .box 27 (eFrc y0)), (103, .box 27 zFrc)]⟩ rfl ?_
  obtain ⟨x_4, e7, h⟩ := bnd h
  obtain ⟨x_5, e8, h⟩ := bnd h
  refine Tri.regionW mixed [false, false, false, false, false, false, false, false, false, false, true, true, true, true] [Pt 101 0, .b (.agg (eBig x0.N)), Pt 102 18, .b (.agg (eBig y0.D)), .b (.agg (eFrc x_4)), Pt 102 0, .b (.agg (eBig y0.N)), Pt 101 18, .b (.agg (eBig x0.D)), .b (.agg (eFrc x_5)), Pt 104 0, Pt 105 0, B true, B true] [⟨[false, false, false, false, false, false, false, false, false, false, false, false, false, false], [(2, Pt 101 0), (3, Pt 102 0), (4, Pt 103 0)], [(101, .box 27 (eFrc x0)), (102, .box 27 (eFrc y0)), (103, .box 27 zFrc)], [true, true, true, true, true, true, true, true, true, true, true, true, true, true], []⟩, ⟨[false, false, false, false, false, false, false, false, false, false, true, false, false, false], [(2, Pt 101 0), (3, Pt 102 0), (4, Pt 103 0)], [(101, .box 27 (eFrc x0)), (102, .box 27 (eFrc y0)), (103, .box 27 zFrc), (104, .box 27 zFrc)], [true, true, true, true, true, true, true, true, true, true, true, true, true, true], [10]⟩, ⟨[false, false, false, false, false, false, false, false, false, false, false, true, false, false], [(2, Pt 101 0), (3, Pt 102 0), (4, Pt 103 0)], [(101, .box 27 (eFrc x0)), (102, .box 27 (eFrc y0)), (103, .box 27 zFrc), (105, .box 27 zFrc)], [true, true, true, true, true, true, true, true, true, true, true, true, true, true], [11]⟩, ⟨[false, false, false, false, false, false, false, false, false, false, true, true, false, false], [(2, Pt 101 0), (3, Pt 102 0), (4, Pt 103 0)], [(101, .box 27 (eFrc x0)), (102, .box 27 (eFrc y0)), (103, .box 27 zFrc), (104, .box 27 zFrc), (105, .box 27 zFrc)], [true, true, true, true, true, true, true, true, true, true, true, true, true, true], [10, 11]⟩, ⟨[false, false, false, false, false, false, false, false, false, false, true, true, true, false], [(2, Pt 101 0), (3, Pt 102 0), (4, Pt 103 0)], [(101, .box 27 (eFrc x0)), (102, .box 27 (eFrc y0)), (103, .box 27 zFrc), (104, .box 27 (eFrc x_4)), (105, .box 27 zFrc)], [true, true, true, true, true, true, true, true, true, true, true, true, true, true], [0, 1, 2, 3, 4, 5, 6, 7, 8, 9, 10, 11, 12]⟩, ⟨[false, false, false, false, false, false, false, false, false, false, true, true, true, true], [(2, Pt 101 0), (3, Pt 102 0), (4, Pt 103 0)], [(101, .box 27 (eFrc x0)), (102, .box 27 (eFrc y0)), (103, .box 27 zFrc), (104, .box 27 (eFrc x_4)), (105, .box 27 (eFrc x_5))], [true, true, true, true, true, true, true, true, true, true, true, true, true, true], [0, 1, 2, 3, 4, 5, 6, 7, 8, 9, 10, 11, 12, 13]⟩] rfl (⟨by kernel_rfl, ⟨⟨Pt 101 0, fun _ => rfl, fun _ => .p (by exact op_field_p tyFld27_0 rfl rfl)⟩, ⟨.b (.agg (eBig x0.N)), fun _ => rfl, fun _ => .p (by exact op_load_p tyAgg25 rfl rfl rfl rfl)⟩, ⟨Pt 102 18, fun _ => rfl, fun _ => .p (by exact op_field_p tyFld27_1 rfl rfl)⟩, ⟨.b (.agg (eBig y0.D)), fun _ => rfl, fun _ => .p (by exact op_load_p tyAgg25 rfl rfl rfl rfl)⟩, ⟨.b (.agg (eFrc x_4)), fun _ => rfl, fun _ => .p (by exact op_call0 (q_Make_spec e7) goes11 rfl rfl)⟩, ⟨Pt 102 0, fun _ => rfl, fun _ => .p (by exact op_field_p tyFld27_0 rfl rfl)⟩, ⟨.b (.agg (eBig y0.N)), fun _ => rfl, fun _ => .p (by exact op_load_p tyAgg25 rfl rfl rfl rfl)⟩, ⟨Pt 101 18, fun _ => rfl, fun _ => .p (by exact op_field_p tyFld27_1 rfl rfl)⟩, ⟨.b (.agg (eBig x0.D)), fun _ => rfl, fun _ => .p (by exact op_load_p tyAgg25 rfl rfl rfl rfl)⟩, ⟨.b (.agg (eFrc x_5)), fun _ => rfl, fun _ => .p (by exact op_call0 (q_Make_spec e8) goes11 rfl rfl)⟩, ⟨_, some 104, Pt 104 0, rfl, fun _ => rfl, rfl, rfl, fun _ => .toO [101, 102, 103, 104] (by exact .p (by exact op_alloc (k := 104) tyZero27 rfl)) (by exact rfl)⟩, ⟨_, some 105, Pt 105 0, rfl, fun _ => rfl, rfl, rfl, fun _ => .toO [101, 102, 103, 105] (by exact .p (by exact op_alloc (k := 105) tyZero27 rfl)) (by exact rfl)⟩, trivial, trivial, trivial⟩, ⟨by kernel_rfl, ⟨⟨Pt 101 0, fun _ => rfl, fun _ => .p (by exact op_field_p tyFld27_0 rfl rfl)⟩, ⟨.b (.agg (eBig x0.N)), fun _ => rfl, fun _ => .p (by exact op_load_p tyAgg25 rfl rfl rfl rfl)⟩, ⟨Pt 102 18, fun _ => rfl, fun _ => .p (by exact op_field_p tyFld27_1 rfl rfl)⟩, ⟨.b (.agg (eBig y0.D)), fun _ => rfl, fun _ => .p (by exact op_load_p tyAgg25 rfl rfl rfl rfl)⟩, ⟨.b (.agg (eFrc x_4)), fun _ => rfl, fun _ => .p (by exact op_call0 (q_Make_spec e7) goes11 rfl rfl)⟩, ⟨Pt 102 0, fun _ => rfl, fun _ => .p (by exact op_field_p tyFld27_0 rfl rfl)⟩, ⟨.b (.agg (eBig y0.N)), fun _ => rfl, fun _ => .p (by exact op_load_p tyAgg25 rfl rfl rfl rfl)⟩, ⟨Pt 101 18, fun _ => rfl, fun _ => .p (by exact op_field_p tyFld27_1 rfl rfl)⟩, ⟨.b (.agg (eBig x0.D)), fun _ => rfl, fun _ => .p (by exact op_load_p tyAgg25 rfl rfl rfl rfl)⟩, ⟨.b (.agg (eFrc x_5)), fun _ => rfl, fun _ => .p (by exact op_call0 (q_Make_spec e8) goes11 rfl rfl)⟩, trivial, ⟨_, some 105, Pt 105 0, rfl, fun _ => rfl, rfl, rfl, fun _ => .toO [101, 102, 103, 104, 105] (by exact .p (by exact op_alloc (k := 105) tyZero27 rfl)) (by exact rfl)⟩, trivial, trivial, trivial⟩, ⟨by kernel_rfl, ⟨⟨Pt 101 0, fun _ => rfl, fun _ => .p (by exact op_field_p tyFld27_0 rfl rfl)⟩, ⟨.b (.agg (eBig x0.N)), fun _ => rfl, fun _ => .p (by exact op_load_p tyAgg25 rfl rfl rfl rfl)⟩, ⟨Pt 102 18, fun _ => rfl, fun _ => .p (by exact op_field_p tyFld27_1 rfl rfl)⟩, ⟨.b (.agg (eBig y0.D)), fun _ => rfl, fun _ => .p (by exact op_load_p tyAgg25 rfl rfl rfl rfl)⟩, ⟨.b (.agg (eFrc x_4)), fun _ => rfl, fun _ => .p (by exact op_call0 (q_Make_spec e7) goes11 rfl rfl)⟩, ⟨Pt 102 0, fun _ => rfl, fun _ => .p (by exact op_field_p tyFld27_0 rfl rfl)⟩, ⟨.b (.agg (eBig y0.N)), fun _ => rfl, fun _ => .p (by exact op_load_p tyAgg25 rfl rfl rfl rfl)⟩, ⟨Pt 101 18, fun _ => rfl, fun _ => .p (by exact op_field_p tyFld27_1 rfl rfl)⟩, ⟨.b (.agg (eBig x0.D)), fun _ => rfl, fun _ => .p (by exact op_load_p tyAgg25 rfl rfl rfl rfl)⟩, ⟨.b (.agg (eFrc x_5)), fun _ => rfl, fun _ => .p (by exact op_call0 (q_Make_spec e8) goes11 rfl rfl)⟩, ⟨_, some 104, Pt 104 0, rfl, fun _ => rfl, rfl, rfl, fun _ => .toO [101, 102, 103, 104, 105] (by exact .p (by exact op_alloc (k := 104) tyZero27 rfl)) (by exact rfl)⟩, trivial, trivial, trivial, trivial⟩, ⟨by kernel_rfl, ⟨⟨Pt 101 0, fun _ => rfl, fun _ => .p (by exact op_field_p tyFld27_0 rfl rfl)⟩, ⟨.b (.agg (eBig x0.N)), fun _ => rfl, fun _ => .p (by exact op_load_p tyAgg25 rfl rfl rfl rfl)⟩, ⟨Pt 102 18, fun _ => rfl, fun _ => .p (by exact op_field_p tyFld27_1 rfl rfl)⟩, ⟨.b (.agg (eBig y0.D)), fun _ => rfl, fun _ => .p (by exact op_load_p tyAgg25 rfl rfl rfl rfl)⟩, ⟨.b (.agg (eFrc x_4)), fun _ => rfl, fun _ => .p (by exact op_call0 (q_Make_spec e7) goes11 rfl rfl)⟩, ⟨Pt 102 0, fun _ => rfl, fun _ => .p (by exact op_field_p tyFld27_0 rfl rfl)⟩, ⟨.b (.agg (eBig y0.N)), fun _ => rfl, fun _ => .p (by exact op_load_p tyAgg25 rfl rfl rfl rfl)⟩, ⟨Pt 101 18, fun _ => rfl, fun _ => .p (by exact op_field_p tyFld27_1 rfl rfl)⟩, ⟨.b (.agg (eBig x0.D)), fun _ => rfl, fun _ => .p (by exact op_load_p tyAgg25 rfl rfl rfl rfl)⟩, ⟨.b (.agg (eFrc x_5)), fun _ => rfl, fun _ => .p (by exact op_call0 (q_Make_spec e8) goes11 rfl rfl)⟩, trivial, trivial, ⟨_, none, .b (.one .any), rfl, (fun e => by simp at e), rfl, rfl, fun _ => .toO [101, 102, 103, 104, 105] (by exact .p (by exact op_store_p tyAgg27 rfl rfl rfl rfl (Nat.le_of_ble_eq_true rfl) rfl)) (by exact rfl)⟩, trivial, trivial⟩, ⟨by kernel_rfl, ⟨trivial, trivial, trivial, trivial, trivial, trivial, trivial, trivial, trivial, trivial, trivial, trivial, trivial, ⟨_, none, .b (.one .any), rfl, (fun e => by simp at e), rfl, rfl, fun _ => .toO [101, 102, 103, 104, 105] (by exact .p (by exact op_store_p tyAgg27 rfl rfl rfl rfl (Nat.le_of_ble_eq_true rfl) rfl)) (by exact rfl)⟩, trivial⟩, ⟨by kernel_rfl, ⟨trivial, trivial, trivial, trivial, trivial, trivial, trivial, trivial, trivial, trivial, trivial, trivial, trivial, trivial, trivial⟩, trivial⟩⟩⟩⟩⟩⟩) rfl rfl rfl [4, 5, 6] [103, 104, 105] (s' := ⟨[(4, Pt 103 0), (5, Pt 104 0), (6, Pt 105 0)], [(103, .box 27 zFrc), (104, .box 27 (eFrc x_4)), (105, .box 27 (eFrc x_5))]⟩) rfl ?_
  refine Tri.seq (Tri.keepS ⟨[(4, Pt 103 0), (5, Pt 104 0), (6, Pt 105 0)], [(103, .box 27 zFrc), (104, .box 27 (eFrc x_4)), (105, .box 27 (eFrc x_5))]⟩ rfl ?_)
  obtain ⟨x_6, e9, h⟩ := bnd h
  obtain ⟨x_7, e10, h⟩ := bnd h
  refine Tri.regionW mixed [false, false, false, false, false, false, false, false, false, false, true, true, true, true] [Pt 104 0, .b (.agg (eBig x_4.N)), Pt 105 0, .b (.agg (eBig x_5.N)), .b (.agg (eBig x_6)), Pt 104 18, .b (.agg (eBig x_4.D)), Pt 105 18, .b (.agg (eBig x_5.D)), .b (.agg (eBig x_7)), Pt 106 0, Pt 107 0, B true, B true] [⟨[false, false, false, false, false, false, false, false, false, false, false, false, false, false], [(4, Pt 103 0), (5, Pt 104 0), (6, Pt 105 0)], [(103, .box 27 zFrc), (104, .box 27 (eFrc x_4)), (105, .box 27 (eFrc x_5))], [true, true, true, true, true, true, true, true, true, true, true, true, true, true], []⟩, ⟨[false, false, false, false, false, false, false, false, false, false, true, false, false, false], [(4, Pt 103 0), (5, Pt 104 0), (6, Pt 105 0)], [(103, .box 27 zFrc), (104, .box 27 (eFrc x_4)), (105, .box 27 (eFrc x_5)), (106, .box 25 zBig)], [true, true, true, true, true, true, true, true, true, true, true, true, true, true], [10]⟩, ⟨[false, false, false, false, false, false, false, false, false, false, false, true, false, false], [(4, Pt 103 0), (5, Pt 104 0), (6, Pt 105 0)], [(103, .box 27 zFrc), (104, .box 27 (eFrc x_4)), (105, .box 27 (eFrc x_5)), (107, .box 25 zBig)], [true, true, true, true, true, true, true, true, true, true, true, true, true, true], [11]⟩, ⟨[false, false, false, false, false, false, false, false, false, false, true, true, false, false], [(4, Pt 103 0), (5, Pt 104 0), (6, Pt 105 0)], [(103, .box 27 zFrc), (104, .box 27 (eFrc x_4)), (105, .box 27 (eFrc x_5)), (106, .box 25 zBig), (107, .box 25 zBig)], [true, true, true, true, true, true, true, true, true, true, true, true, true, true], [10, 11]⟩, ⟨[false, false, false, false, false, false, false, false, false, false, true, true, true, false], [(4, Pt 103 0), (5, Pt 104 0), (6, Pt 105 0)], [(103, .box 27 zFrc), (104, .box 27 (eFrc x_4)), (105, .box 27 (eFrc x_5)), (106, .box 25 (eBig x_6)), (107, .box 25 zBig)], [true, true, true, true, true, true, true, true, true, true, true, true, true, true], [0, 1, 2, 3, 4, 5, 6, 7, 8, 9, 10, 11, 12]⟩, ⟨[false, false, false, false, false, false, false, false, false, false, true, true, true, true], [(4, Pt 103 0), (5, Pt 104 0), (6, Pt 105 0)], [(103, .box 27 zFrc), (104, .box 27 (eFrc x_4)), (105, .box 27 (eFrc x_5)), (106, .box 25 (eBig x_6)), (107, .box 25 (eBig x_7))], [true, true, true, true, true, true, true, true, true, true, true, true, true, true], [0, 1, 2, 3, 4, 5, 6, 7, 8, 9, 10, 11, 12, 13]⟩] rfl (⟨by kernel_rfl, ⟨⟨Pt 104 0, fun _ => rfl, fun _ => .p (by exact op_field_p tyFld27_0 rfl rfl)⟩, ⟨.b (.agg (eBig x_4.N)), fun _ => rfl, fun _ => .p (by exact op_load_p tyAgg25 rfl rfl rfl rfl)⟩, ⟨Pt 105 0, fun _ => rfl, fun _ => .p (by exact op_field_p tyFld27_0 rfl rfl)⟩, ⟨.b (.agg (eBig x_5.N)), fun _ => rfl, fun _ => .p (by exact op_load_p tyAgg25 rfl rfl rfl rfl)⟩, ⟨.b (.agg (eBig x_6)), fun _ => rfl, fun _ => .p (by exact op_call0 (w_Mul_spec e9) goes102 rfl rfl)⟩, ⟨Pt 104 18, fun _ => rfl, fun _ => .p (by exact op_field_p tyFld27_1 rfl rfl)⟩, ⟨.b (.agg (eBig x_4.D)), fun _ => rfl, fun _ => .p (by exact op_load_p tyAgg25 rfl rfl rfl rfl)⟩, ⟨Pt 105 18, fun _ => rfl, fun _ => .p (by exact op_field_p tyFld27_1 rfl rfl)⟩, ⟨.b (.agg (eBig x_5.D)), fun _ => rfl, fun _ => .p (by exact op_load_p tyAgg25 rfl rfl rfl rfl)⟩, ⟨.b (.agg (eBig x_7)), fun _ => rfl, fun _ => .p (by exact op_call0 (w_Mul_spec e10) goes102 rfl rfl)⟩, ⟨_, some 106, Pt 106 0, rfl, fun _ => rfl, rfl, rfl, fun _ => .toO [103, 104, 105, 106] (by exact .p (by exact op_alloc (k := 106) tyZero25 rfl)) (by exact rfl)⟩, ⟨_, some 107, Pt 107 0, rfl, fun _ => rfl, rfl, rfl, fun _ => .toO [103, 104, 105, 107] (by exact .p (by exact op_alloc (k := 107) tyZero25 rfl)) (by exact rfl)⟩, trivial, trivial, trivial⟩, ⟨by kernel_rfl, ⟨⟨Pt 104 0, fun _ => rfl, fun _ => .p (by exact op_field_p tyFld27_0 rfl rfl)⟩, ⟨.b (.agg (eBig x_4.N)), fun _ => rfl, fun _ => .p (by exact op_load_p tyAgg25 rfl rfl rfl rfl)⟩, ⟨Pt 105 0, fun _ => rfl, fun _ => .p (by exact op_field_p tyFld27_0 rfl rfl)⟩, ⟨.b (.agg (eBig x_5.N)), fun _ => rfl, fun _ => .p (by exact op_load_p tyAgg25 rfl rfl rfl rfl)⟩, ⟨.b (.agg (eBig x_6)), fun _ => rfl, fun _ => .p (by exact op_call0 (w_Mul_spec e9) goes102 rfl rfl)⟩, ⟨Pt 104 18, fun _ => rfl, fun _ => .p (by exact op_field_p tyFld27_1 rfl rfl)⟩, ⟨.b (.agg (eBig x_4.D)), fun _ => rfl, fun _ => .p (by exact op_load_p tyAgg25 rfl rfl rfl rfl)⟩, ⟨Pt 105 18, fun _ => rfl, fun _ => .p (by exact op_field_p tyFld27_1 rfl rfl)⟩, ⟨.b (.agg (eBig x_5.D)), fun _ => rfl, fun _ => .p (by exact op_load_p tyAgg25 rfl rfl rfl rfl)⟩, ⟨.b (.agg (eBig x_7)), fun _ => rfl, fun _ => .p (by exact op_call0 (w_Mul_spec e10) goes102 rfl rfl)⟩, trivial, ⟨_, some 107, Pt 107 0, rfl, fun _ => rfl, rfl, rfl, fun _ => .toO [103, 104, 105, 106, 107] (by exact .p (by exact op_alloc (k := 107) tyZero25 rfl)) (by exact rfl)⟩, trivial, trivial, trivial⟩, ⟨by kernel_rfl, ⟨⟨Pt 104 0, fun _ => rfl, fun _ => .p (by exact op_field_p tyFld27_0 rfl rfl)⟩, ⟨.b (.agg (eBig x_4.N)), fun _ => rfl, fun _ => .p (by exact op_load_p tyAgg25 rfl rfl rfl rfl)⟩, ⟨Pt 105 0, fun _ => rfl, fun _ => .p (by exact op_field_p tyFld27_0 rfl rfl)⟩, ⟨.b (.agg (eBig x_5.N)), fun _ => rfl, fun _ => .p (by exact op_load_p tyAgg25 rfl rfl rfl rfl)⟩, ⟨.b (.agg (eBig x_6)), fun _ => rfl, fun _ => .p (by exact op_call0 (w_Mul_spec e9) goes102 rfl rfl)⟩, ⟨Pt 104 18, fun _ => rfl, fun _ => .p (by exact op_field_p tyFld27_1 rfl rfl)⟩, ⟨.b (.agg (eBig x_4.D)), fun _ => rfl, fun _ => .p (by exact op_load_p tyAgg25 rfl rfl rfl rfl)⟩, ⟨Pt 105 18, fun _ => rfl, fun _ => .p (by exact op_field_p tyFld27_1 rfl rfl)⟩, ⟨.b (.agg (eBig x_5.D)), fun _ => rfl, fun _ => .p (by exact op_load_p tyAgg25 rfl rfl rfl rfl)⟩, ⟨.b (.agg (eBig x_7)), fun _ => rfl, fun _ => .p (by exact op_call0 (w_Mul_spec e10) goes102 rfl rfl)⟩, ⟨_, some 106, Pt 106 0, rfl, fun _ => rfl, rfl, rfl, fun _ => .toO [103, 104, 105, 106, 107] (by exact .p (by exact op_alloc (k := 106) tyZero25 rfl)) (by exact rfl)⟩, trivial, trivial, trivial, trivial⟩, ⟨by kernel_rfl, ⟨⟨Pt 104 0, fun _ => rfl, fun _ => .p (by exact op_field_p tyFld27_0 rfl rfl)⟩, ⟨.b (.agg (eBig x_4.N)), fun _ => rfl, fun _ => .p (by exact op_load_p tyAgg25 rfl rfl rfl rfl)⟩, ⟨Pt 105 0, fun _ => rfl, fun _ => .p (by exact op_field_p tyFld27_0 rfl rfl)⟩, ⟨.b (.agg (eBig x_5.N)), fun _ => rfl, fun _ => .p (by exact op_load_p tyAgg25 rfl rfl rfl rfl)⟩, ⟨.b (.agg (eBig x_6)), fun _ => rfl, fun _ => .p (by exact op_call0 (w_Mul_spec e9) goes102 rfl rfl)⟩, ⟨Pt 104 18, fun _ => rfl, fun _ => .p (by exact op_field_p tyFld27_1 rfl rfl)⟩, ⟨.b (.agg (eBig x_4.D)), fun _ => rfl, fun _ => .p (by exact op_load_p tyAgg25 rfl rfl rfl rfl)⟩, ⟨Pt 105 18, fun _ => rfl, fun _ => .p (by exact op_field_p tyFld27_1 rfl rfl)⟩, ⟨.b (.agg (eBig x_5.D)), fun _ => rfl, fun _ => .p (by exact op_load_p tyAgg25 rfl rfl rfl rfl)⟩, ⟨.b (.agg (eBig x_7)), fun _ => rfl, fun _ => .p (by exact op_call0 (w_Mul_spec e10) goes102 rfl rfl)⟩, trivial, trivial, ⟨_, none, .b (.one .any), rfl, (fun e => by simp at e), rfl, rfl, fun _ => .toO [103, 104, 105, 106, 107] (by exact .p (by exact op_store_p tyAgg25 rfl rfl rfl rfl (Nat.le_of_ble_eq_true rfl) rfl)) (by exact rfl)⟩, trivial, trivial⟩, ⟨by kernel_rfl, ⟨trivial, trivial, trivial, trivial, trivial, trivial, trivial, trivial, trivial, trivial, trivial, trivial, trivial, ⟨_, none, .b (.one .any), rfl, (fun e => by simp at e), rfl, rfl, fun _ => .toO [103, 104, 105, 106, 107] (by exact .p (by exact op_store_p tyAgg25 rfl rfl rfl rfl (Nat.le_of_ble_eq_true rfl) rfl)) (by exact rfl)⟩, trivial⟩, ⟨by kernel_rfl, ⟨trivial, trivial, trivial, trivial, trivial, trivial, trivial, trivial, trivial, trivial, trivial, trivial, trivial, trivial, trivial⟩, trivial⟩⟩⟩⟩⟩⟩) rfl rfl rfl [4, 7, 8] [103, 106, 107] (s' := ⟨[(4, Pt 103 0), (7, Pt 106 0), (8, Pt 107 0)], [(103, .box 27 zFrc), (106, .box 25 (eBig x_6)), (107, .box 25 (eBig x_7))]⟩) rfl ?_
  refine Tri.seq (Tri.seq (Tri.regionL ?_))
  refine Oc (op_field_p tyFld25_0 rfl rfl) (Oc (op_load_p1 tyOne4 rfl rfl rfl) (Oc om ?_))
  refine CgF (!x_6.Bad) [] (fun g11 => trivial) (fun g11 => op_field_p tyFld25_0 rfl rfl) (CgF (!x_6.Bad) [41] (fun g12 => ⟨g12, trivial⟩) (fun g12 => op_load_p1 tyOne4 rfl rfl rfl) (Oc (op_pick_or (fun e => by rw [e]; rfl) rfl rfl rfl rfl) (OpsL.nilS ⟨[(4, Pt 103 0), (7, Pt 106 0), (8, Pt 107 0), (43, B (x_6.Bad || x_7.Bad))], [(103, .box 27 zFrc), (106, .box 25 (eBig x_6)), (107, .box 25 (eBig x_7))]⟩ rfl (Tri.ite h rfl (fun _ h => ?_) (fun _ h => ?_)))))
  ·refine Tri.seq (Tri.regionL ?_)
   obtain ⟨x_8, e13, h⟩ := bnd h
   refine Oc (op_call0 (q_Bad_spec e13) goes27 rfl rfl) (Oc (op_store_p tyAgg27 rfl rfl rfl rfl (Nat.le_of_ble_eq_true rfl) rfl) ?_)
   refine OpsL.nilS ⟨[(4, Pt 103 0)], [(103, .box 27 (eFrc x_8))]⟩ rfl (Tri.ret (Fin.then_ret ?_))
   obtain rfl := Option.some.inj h
   refine Fin.keepS ⟨[(4, Pt 103 0)], [(103, .box 27 (eFrc x_8))]⟩ rfl (Fin.result' [.agg (eFrc x_8)] (.inl rfl) rfl (.cons (.agg tyAgg27 rfl rfl rfl rfl) .nil) ⟨rfl, rfl⟩)
  ·refine Tri.skip (Fin.keepS ⟨[(4, Pt 103 0), (7, Pt 106 0), (8, Pt 107 0)], [(103, .box 27 zFrc), (106, .box 25 (eBig x_6)), (107, .box 25 (eBig x_7))]⟩ rfl (Fin.then (Tri.seq (Tri.regionL ?_))))
   refine Oc (lp tyAgg25) (Oc (lp tyAgg25) (Oc (op_build tyBuild27 rfl rfl) (Oc (op_store_p tyAgg27 rfl rfl rfl rfl (Nat.le_of_ble_eq_true rfl) rfl) ?_)))
   refine OpsL.nilS ⟨[(4, Pt 103 0)], [(103, .box 27 (eBig x_6 ++ (eBig x_7)))]⟩ rfl (Tri.ret ?_)
   obtain rfl := Option.some.inj h
   refine Fin.keepS ⟨[(4, Pt 103 0)], [(103, .box 27 (eBig x_6 ++ (eBig x_7)))]⟩ rfl (Fin.result' [.agg (eBig x_6 ++ (eBig x_7))] (.inl rfl) rfl (.cons (.agg tyAgg27 rfl rfl rfl rfl) .nil) ⟨rfl, rfl⟩)
def q_Div_S (F : Nat) (x0 : Frc) (y0 : Frc) : Option Frc :=
 (q_Good_S F y0).bind fun x_1 => if (!x_1) = true then ((q_Bad_S F).bind fun x_2 => some x_2) else ((q_Make_S F y0.D y0.N).bind fun x_3 => (q_Mul_S F x0 x_3).bind fun x_4 => some x_4)
theorem q_Div_spec {F : Nat} {x0 : Frc} {y0 : Frc} {r : Frc} (h : q_Div_S F x0 y0 = some r) : Meets Tryz.prog (tabs mx) 46 [] [.agg (eFrc x0), .agg (eFrc y0)] (Is [] (.b (.agg (eFrc r)))) := by
 unfold q_Div_S at h
 refine Meets.intro 16 Tryz.func46 Tryz.ntmps46 rfl (by simp) fun E => ?_
 show Tri _ E ⟨16, [], []⟩ _ ⟨[(0, .b (.agg (eFrc x0))), (1, .b (.agg (eFrc y0)))], []⟩ _
 refine Tri.seq (Tri.regionL ?_)
 refine Oc (op_box (k := 101) rfl rfl) (Oc (op_box (k := 102) rfl rfl) (Oc (op_alloc (k := 103) tyZero27 rfl) ?_))
 refine OpsL.nilS ⟨[(2, Pt 101 0), (3, Pt 102 0), (4, Pt 103 0)], [(101, .box 27 (eFrc x0)), (102, .box 27 (eFrc y0)), (103, .box 27 zFrc)]⟩ rfl (Tri.seq (Tri.seq (Tri.regionL ?_)))
 refine Oc (lp tyAgg27) ?_
 obtain ⟨x_1, e1, h⟩ := bnd h
 refine Oc (op_call0 (q_Good_spec e1) goes26 rfl rfl) (Oc (op_not rfl) ?_)
 refine OpsL.nilS ⟨[(2, Pt 101 0), (3, Pt 102 0), (4, Pt 103 0), (7, B (!x_1))], [(101, .box 27 (eFrc x0)), (102, .box 27 (eFrc y0)), (103, .box 27 zFrc)]⟩ rfl (Tri.ite h rfl (fun _ h => ?_) (fun _ h => ?_))
 ·refine Tri.seq (Tri.regionL ?_)
  obtain ⟨x_2, e2, h⟩ := bnd h
  refine Oc (op_call0 (q_Bad_spec e2) goes27 rfl rfl) (Oc (op_store_p tyAgg27 rfl rfl rfl rfl (Nat.le_of_ble_eq_true rfl) rfl) ?_)
  refine OpsL.nilS ⟨[(4, Pt 103 0)], [(103, .box 27 (eFrc x_2))]⟩ rfl (Tri.ret (Fin.then_ret ?_))
  obtain rfl := Option.some.inj h
  refine Fin.keepS ⟨[(4, Pt 103 0)], [(103, .box 27 (eFrc x_2))]⟩ rfl (Fin.result' [.agg (eFrc x_2)] (.inl rfl) rfl (.cons (.agg tyAgg27 rfl rfl rfl rfl) .nil) ⟨rfl, rfl⟩)
 ·refine Tri.skip (Fin.keepS ⟨[(2, Pt 101 0), (3, Pt 102 0), (4, Pt 103 0)], [(101, .box 27 (eFrc x0)), (102, .box 27 (eFrc y0)), (103, .box 27 zFrc)]⟩ rfl (Fin.then (Tri.seq ?_)))
  refine Tri.keepS ⟨[(2, Pt 101 0), (3, Pt 102 0), (4, Pt 103 0)], [(101, .box 27 (eFrc x0)), (102, .box 27 (eFrc y0)), (103, .box 27 zFrc)]⟩ rfl ?_
  obtain ⟨x_3, e3, h⟩ := bnd h
  obtain ⟨x_4, e4, h⟩ := bnd h
  refine Tri.regionY mixed 7 [.b (.agg (eFrc x0)), Pt 102 18, .b (.agg (eBig y0.D)), Pt 102 0, .b (.agg (eBig y0.N)), .b (.agg (eFrc x_3)), .b (.agg (eFrc x_4))] [4] [103] (s' := ⟨[(4, Pt 103 0)], [(103, .box 27 (eFrc x_4))]⟩) rfl ⟨fun _ => .p (lp tyAgg27), fun _ => .p (op_field_p tyFld27_1 rfl rfl), fun _ => .p (lp tyAgg25), fun _ => .p (op_field_p tyFld27_0 rfl rfl), fun _ => .p (lp tyAgg25), fun _ => .p (op_call0 (q_Make_spec e3) goes11 rfl rfl), fun _ => .p (op_call0 (q_Mul_spec e4) goes45 rfl rfl), trivial⟩ ⟨_, by exact .p (op_store_p tyAgg27 rfl rfl rfl rfl (Nat.le_of_ble_eq_true rfl) rfl), rfl⟩ rfl (Tri.ret ?_)
  obtain rfl := Option.some.inj h
  refine Fin.keepS ⟨[(4, Pt 103 0)], [(103, .box 27 (eFrc x_4))]⟩ rfl (Fin.result' [.agg (eFrc x_4)] (.inl rfl) rfl (.cons (.agg tyAgg27 rfl rfl rfl rfl) .nil) ⟨rfl, rfl⟩)
def q_Floor_S (F : Nat) (x0 : Frc) : Option Big :=
 (q_Good_S F x0).bind fun x_1 => if (!x_1) = true then ((w_Bad_S F).bind fun x_2 => some x_2) else ((w_Quo_S F x0.N x0.D).bind fun x_3 => some x_3)
theorem q_Floor_spec {F : Nat} {x0 : Frc} {r : Big} (h : q_Floor_S F x0 = some r) : Meets Tryz.prog (tabs mx) 31 [] [.agg (eFrc x0)] (Is [] (.b (.agg (eBig r)))) := by
 unfold q_Floor_S at h
 refine Meets.intro 12 Tryz.func31 Tryz.ntmps31 rfl (by simp) fun E => ?_
 show Tri _ E ⟨12, [], []⟩ _ ⟨[(0, .b (.agg (eFrc x0)))], []⟩ _
 refine Tri.seq (Tri.regionL ?_)
 refine Oc (op_box (k := 101) rfl rfl) (Oc (op_alloc (k := 102) tyZero25 rfl) ?_)
 refine OpsL.nilS ⟨[(1, Pt 101 0), (2, Pt 102 0)], [(101, .box 27 (eFrc x0)), (102, .box 25 zBig)]⟩ rfl (Tri.seq (Tri.seq (Tri.regionL ?_)))
 refine Oc (lp tyAgg27) ?_
 obtain ⟨x_1, e1, h⟩ := bnd h
 refine Oc (op_call0 (q_Good_spec e1) goes26 rfl rfl) (Oc (op_not rfl) ?_)
 refine OpsL.nilS ⟨[(1, Pt 101 0), (2, Pt 102 0), (5, B (!x_1))], [(101, .box 27 (eFrc x0)), (102, .box 25 zBig)]⟩ rfl (Tri.ite h rfl (fun _ h => ?_) (fun _ h => ?_))
 ·refine Tri.seq (Tri.regionL ?_)
  obtain ⟨x_2, e2, h⟩ := bnd h
  refine Oc (op_call0 (w_Bad_spec e2) goes92 rfl rfl) (Oc (op_store_p tyAgg25 rfl rfl rfl rfl (Nat.le_of_ble_eq_true rfl) rfl) ?_)
  refine OpsL.nilS ⟨[(2, Pt 102 0)], [(102, .box 25 (eBig x_2))]⟩ rfl (Tri.ret (Fin.then_ret ?_))
  obtain rfl := Option.some.inj h
  refine Fin.keepS ⟨[(2, Pt 102 0)], [(102, .box 25 (eBig x_2))]⟩ rfl (Fin.result' [.agg (eBig x_2)] (.inl rfl) rfl (.cons (.agg tyAgg25 rfl rfl rfl rfl) .nil) ⟨rfl, rfl⟩)
 ·refine Tri.skip (Fin.keepS ⟨[(1, Pt 101 0), (2, Pt 102 0)], [(101, .box 27 (eFrc x0)), (102, .box 25 zBig)]⟩ rfl (Fin.then (Tri.seq (Tri.regionL ?_))))
  refine Oc (op_field_p tyFld27_0 rfl rfl) (Oc (lp tyAgg25) (Oc (op_field_p tyFld27_1 rfl rfl) (Oc (lp tyAgg25) ?_)))
  obtain ⟨x_3, e3, h⟩ := bnd h
  refine Oc (op_call0 (w_Quo_spec e3) goes75 rfl rfl) (Oc (op_store_p tyAgg25 rfl rfl rfl rfl (Nat.le_of_ble_eq_true rfl) rfl) ?_)
  refine OpsL.nilS ⟨[(2, Pt 102 0)], [(102, .box 25 (eBig x_3))]⟩ rfl (Tri.ret ?_)
  obtain rfl := Option.some.inj h
  refine Fin.keepS ⟨[(2, Pt 102 0)], [(102, .box 25 (eBig x_3))]⟩ rfl (Fin.result' [.agg (eBig x_3)] (.inl rfl) rfl (.cons (.agg tyAgg25 rfl rfl rfl rfl) .nil) ⟨rfl, rfl⟩)
def q_Neg_S (F : Nat) (x0 : Frc) : Option Frc :=
 (q_Good_S F x0).bind fun x_1 => if (!x_1) = true then ((q_Bad_S F).bind fun x_2 => some x_2) else ((w_Neg_S F x0.N).bind fun x_3 => some (⟨x_3, x0.D⟩ : Frc))
theorem q_Neg_spec {F : Nat} {x0 : Frc} {r : Frc} (h : q_Neg_S F x0 = some r) : Meets Tryz.prog (tabs mx) 43 [] [.agg (eFrc x0)] (Is [] (.b (.agg (eFrc r)))) := by
 unfold q_Neg_S at h
 refine Meets.intro 13 Tryz.func43 Tryz.ntmps43 rfl (by simp) fun E => ?_
 show Tri _ E ⟨13, [], []⟩ _ ⟨[(0, .b (.agg (eFrc x0)))], []⟩ _
 refine Tri.seq (Tri.regionL ?_)
 refine Oc (op_box (k := 101) rfl rfl) (Oc (op_alloc (k := 102) tyZero27 rfl) ?_)
 refine OpsL.nilS ⟨[(1, Pt 101 0), (2, Pt 102 0)], [(101, .box 27 (eFrc x0)), (102, .box 27 zFrc)]⟩ rfl (Tri.seq (Tri.seq (Tri.regionL ?_)))
 refine Oc (lp tyAgg27) ?_
 obtain ⟨x_1, e1, h⟩ := bnd h
 refine Oc (op_call0 (q_Good_spec e1) goes26 rfl rfl) (Oc (op_not rfl) ?_)
 refine OpsL.nilS ⟨[(1, Pt 101 0), (2, Pt 102 0), (5, B (!x_1))], [(101, .box 27 (eFrc x0)), (102, .box 27 zFrc)]⟩ rfl (Tri.ite h rfl (fun _ h => ?_) (fun _ h => ?_))
 ·refine Tri.seq (Tri.regionL ?_)
  obtain ⟨x_2, e2, h⟩ := bnd h
  refine Oc (op_call0 (q_Bad_spec e2) goes27 rfl rfl) (Oc (op_store_p tyAgg27 rfl rfl rfl rfl (Nat.le_of_ble_eq_true rfl) rfl) ?_)
  refine OpsL.nilS ⟨[(2, Pt 102 0)], [(102, .box 27 (eFrc x_2))]⟩ rfl (Tri.ret (Fin.then_ret ?_))
  obtain rfl := Option.some.inj h
  refine Fin.keepS ⟨[(2, Pt 102 0)], [(102, .box 27 (eFrc x_2))]⟩ rfl (Fin.result' [.agg (eFrc x_2)] (.inl rfl) rfl (.cons (.agg tyAgg27 rfl rfl rfl rfl) .nil) ⟨rfl, rfl⟩)
 ·refine Tri.skip (Fin.keepS ⟨[(1, Pt 101 0), (2, Pt 102 0)], [(101, .box 27 (eFrc x0)), (102, .box 27 zFrc)]⟩ rfl (Fin.then (Tri.seq ?_)))
  refine Tri.keepS ⟨[(1, Pt 101 0), (2, Pt 102 0)], [(101, .box 27 (eFrc x0)), (102, .box 27 zFrc)]⟩ rfl ?_
  obtain ⟨x_3, e3, h⟩ := bnd h
  refine Tri.regionY mixed 6 [Pt 101 0, .b (.agg (eBig x0.N)), .b (.agg (eBig x_3)), Pt 101 18, .b (.agg (eBig x0.D)), .b (.agg (eBig x_3 ++ (eBig x0.D)))] [2] [102] (s' := ⟨[(2, Pt 102 0)], [(102, .box 27 (eBig x_3 ++ (eBig x0.D)))]⟩) rfl ⟨fun _ => .p (op_field_p tyFld27_0 rfl rfl), fun _ => .p (lp tyAgg25), fun _ => .p (op_call0 (w_Neg_spec e3) goes74 rfl rfl), fun _ => .p (op_field_p tyFld27_1 rfl rfl), fun _ => .p (lp tyAgg25), fun _ => .p (op_build tyBuild27 rfl rfl), trivial⟩ ⟨_, by exact .p (op_store_p tyAgg27 rfl rfl rfl rfl (Nat.le_of_ble_eq_true rfl) rfl), rfl⟩ rfl (Tri.ret ?_)
  obtain rfl := Option.some.inj h
  refine Fin.keepS ⟨[(2, Pt 102 0)], [(102, .box 27 (eBig x_3 ++ (eBig x0.D)))]⟩ rfl (Fin.result' [.agg (eBig x_3 ++ (eBig x0.D))] (.inl rfl) rfl (.cons (.agg tyAgg27 rfl rfl rfl rfl) .nil) ⟨rfl, rfl⟩)
def q_Ceil_S (F : Nat) (x0 : Frc) : Option Big :=
 (q_Neg_S F x0).bind fun x_1 => (q_Floor_S F x_1).bind fun x_2 => (w_Neg_S F x_2).bind fun x_3 => some x_3
theorem q_Ceil_spec {F : Nat} {x0 : Frc} {r : Big} (h : q_Ceil_S F x0 = some r) : Meets Tryz.prog (tabs mx) 33 [] [.agg (eFrc x0)] (Is [] (.b (.agg (eBig r)))) := by
 unfold q_Ceil_S at h
 refine Meets.intro 7 Tryz.func33 Tryz.ntmps33 rfl (by simp) fun E => ?_
 show Tri _ E ⟨7, [], []⟩ _ ⟨[(0, .b (.agg (eFrc x0)))], []⟩ _
 refine Tri.seq (Tri.regionL ?_)
 refine Oc (op_box (k := 101) rfl rfl) (Oc (op_alloc (k := 102) tyZero25 rfl) ?_)
 refine OpsL.nilS ⟨[(1, Pt 101 0), (2, Pt 102 0)], [(101, .box 27 (eFrc x0)), (102, .box 25 zBig)]⟩ rfl (Tri.seq (Tri.regionL ?_))
 refine Oc (lp tyAgg27) ?_
 obtain ⟨x_1, e1, h⟩ := bnd h
 refine Oc (op_call0 (q_Neg_spec e1) goes43 rfl rfl) ?_
 obtain ⟨x_2, e2, h⟩ := bnd h
 refine Oc (op_call0 (q_Floor_spec e2) goes31 rfl rfl) ?_
 obtain ⟨x_3, e3, h⟩ := bnd h
 refine Oc (op_call0 (w_Neg_spec e3) goes74 rfl rfl) (Oc (op_store_p tyAgg25 rfl rfl rfl rfl (Nat.le_of_ble_eq_true rfl) rfl) ?_)
 refine OpsL.nilS ⟨[(2, Pt 102 0)], [(102, .box 25 (eBig x_3))]⟩ rfl (Tri.ret ?_)
 obtain rfl := Option.some.inj h
 refine Fin.keepS ⟨[(2, Pt 102 0)], [(102, .box 25 (eBig x_3))]⟩ rfl (Fin.result' [.agg (eBig x_3)] (.inl rfl) rfl (.cons (.agg tyAgg25 rfl rfl rfl rfl) .nil) ⟨rfl, rfl⟩)
def w_Rem_S (F : Nat) (a0 : Big) (b0 : Big) : Option Big :=
 Option.bind (w_divided_S F a0 b0) (un2 fun x_1 x_2 => some x_2)
theorem w_Rem_spec {F : Nat} {a0 : Big} {b0 : Big} {r : Big} (h : w_Rem_S F a0 b0 = some r) : Meets Tryz.prog (tabs mx) 94 [] [.agg (eBig a0), .agg (eBig b0)] (Is [] (.b (.agg (eBig r)))) := by
 unfold w_Rem_S at h
 refine Meets.intro 14 Tryz.func94 Tryz.ntmps94 rfl (by simp) fun E => ?_
 show Tri _ E ⟨14, [], []⟩ _ ⟨[(0, .b (.agg (eBig a0))), (1, .b (.agg (eBig b0)))], []⟩ _
 refine Tri.seq (Tri.regionL ?_)
 refine Oc (op_box (k := 101) rfl rfl) (Oc (op_box (k := 102) rfl rfl) (Oc (op_alloc (k := 103) tyZero25 rfl) ?_))
 refine OpsL.nilS ⟨[(2, Pt 101 0), (3, Pt 102 0), (4, Pt 103 0)], [(101, .box 25 (eBig a0)), (102, .box 25 (eBig b0)), (103, .box 25 zBig)]⟩ rfl (Tri.seq (Tri.regionL ?_))
 refine Oc (lp tyAgg25) (Oc (lp tyAgg25) ?_)
 obtain ⟨⟨x_1, x_2⟩, e1, h⟩ := bnd h
 refine Oc (op_call0 (w_divided_spec e1) goes118 rfl rfl) (Oc om (Oc (op_extract rfl rfl) ?_))
 refine OpsL.keepS ⟨[(4, Pt 103 0), (7, .tup [.agg (eBig x_1), .agg (eBig x_2)]), (11, .b (.agg (eBig x_1)))], [(103, .box 25 zBig)]⟩ rfl (Oc (op_extract rfl rfl) (Oc (op_alloc (k := 104) tyZero25 rfl) (Oc (op_alloc (k := 105) tyZero25 rfl) (Oc (op_store_p tyAgg25 rfl rfl rfl rfl (Nat.le_of_ble_eq_true rfl) rfl) (Oc (op_store_p tyAgg25 rfl rfl rfl rfl (Nat.le_of_ble_eq_true rfl) rfl) ?_)))))
 refine OpsL.nilS ⟨[(4, Pt 103 0), (6, Pt 105 0)], [(103, .box 25 zBig), (105, .box 25 (eBig x_2))]⟩ rfl (Tri.seq (Tri.regionL ?_))
 refine Oc (lp tyAgg25) (Oc (op_store_p tyAgg25 rfl rfl rfl rfl (Nat.le_of_ble_eq_true rfl) rfl) ?_)
 refine OpsL.nilS ⟨[(4, Pt 103 0)], [(103, .box 25 (eBig x_2))]⟩ rfl (Tri.ret ?_)
 obtain rfl := Option.some.inj h
 refine Fin.keepS ⟨[(4, Pt 103 0)], [(103, .box 25 (eBig x_2))]⟩ rfl (Fin.result' [.agg (eBig x_2)] (.inl rfl) rfl (.cons (.agg tyAgg25 rfl rfl rfl rfl) .nil) ⟨rfl, rfl⟩)
def w_Cmp_S (F : Nat) (a0 : Big) (b0 : Big) : Option Int :=
 (w_good_S F [a0]).bind fun x_1 => (w_good_S F [b0]).bind fun x_2 => if ((!x_1) && (!x_2)) = true then (some 0) else (if (!x_1) = true then (some (-1)) else (if (!x_2) = true then (some 1) else (if (a0.Neg != b0.Neg) = true then (if a0.Neg = true then (some (-1)) else (some 1)) else (if a0.Neg = true then ((w_order_S F b0.W a0.W).bind fun x_3 => some x_3) else ((w_order_S F a0.W b0.W).bind fun x_4 => some x_4)))))
theorem w_Cmp_spec {F : Nat} {a0 : Big} {b0 : Big} {r : Int} (h : w_Cmp_S F a0 b0 = some r) : Meets Tryz.prog (tabs mx) 95 [] [.agg (eBig a0), .agg (eBig b0)] (Is [] (.b (.one (.i r)))) := by
 unfold w_Cmp_S at h
 refine Meets.intro 47 Tryz.func95 Tryz.ntmps95 rfl (by simp) fun E => ?_
 show Tri _ E ⟨47, [], []⟩ _ ⟨[(0, .b (.agg (eBig a0))), (1, .b (.agg (eBig b0)))], []⟩ _
 refine Tri.seq (Tri.regionL ?_)
 refine Oc (op_box (k := 101) rfl rfl) (Oc (op_box (k := 102) rfl rfl) (Oc oa ?_))
 refine OpsL.nilS ⟨[(2, Pt 101 0), (3, Pt 102 0)], [(101, .box 25 (eBig a0)), (102, .box 25 (eBig b0))]⟩ rfl (Tri.seq ?_)
 obtain ⟨x_1, e1, h⟩ := bnd h
 obtain ⟨x_2, e2, h⟩ := bnd h
 refine Tri.regionY mixed 8 [.b (.agg (eBig a0)), .b (.one (.sl 18 ([a0].map eBig))), B x_1, .b (.agg (eBig b0)), .b (.one (.sl 18 ([b0].map eBig))), B x_2, B x_1, B x_2] [2, 3, 5, 6] [101, 102] (s' := ⟨[(2, Pt 101 0), (3, Pt 102 0), (5, B x_1), (6, B x_2)], [(101, .box 25 (eBig a0)), (102, .box 25 (eBig b0))]⟩) rfl ⟨fun _ => .p (lp tyAgg25), fun _ => .p (op_buildSliceP (es := [a0].map eBig) tySl117 rfl rfl (uni_map fun _ => rfl) rfl (by decide) (by decide)), fun _ => .p (op_call0 (w_good_spec e1) goes113 rfl rfl), fun _ => .p (lp tyAgg25), fun _ => .p (op_buildSliceP (es := [b0].map eBig) tySl117 rfl rfl (uni_map fun _ => rfl) rfl (by decide) (by decide)), fun _ => .p (op_call0 (w_good_spec e2) goes113 rfl rfl), fun _ => .p oa, fun _ => .p oa, trivial⟩ rfl rfl (Tri.seq (Tri.block (Tri.seq (Tri.regionL ?_))))
 refine Oc om (Oc (op_not rfl) (Oc om ?_))
 refine CgT (!x_1) [] (fun g3 => trivial) (fun g3 => om) (CgT (!x_1) [17] (fun g4 => by exact ⟨g4, trivial⟩) (fun g4 => op_not rfl) (Oc (op_pick_and (fun e => e) rfl rfl rfl rfl) (Oc oa ?_)))
 refine OpsL.nilS ⟨[(2, Pt 101 0), (3, Pt 102 0), (5, B x_1), (6, B x_2), (13, B ((!x_1) && (!x_2)))], [(101, .box 25 (eBig a0)), (102, .box 25 (eBig b0))]⟩ rfl (Tri.ite h rfl (fun _ h => ?_) (fun _ h => ?_))
 ·refine Tri.seq (Tri.regionL ?_)
  refine Oc oa (OpsL.nilS ⟨[(4, I 0)], []⟩ rfl (Tri.ret (Fin.block_ret (Fin.then_ret ?_))))
  obtain rfl := Option.some.inj h
  refine Fin.keepS ⟨[(4, I 0)], []⟩ rfl (Fin.result' [.one (.i 0)] (.inl rfl) rfl (.cons (.tmp rfl) .nil) ⟨rfl, rfl⟩)
 ·refine Tri.seq (Tri.regionL ?_)
  refine Oc om (Oc (op_not rfl) (Oc oa ?_))
  refine OpsL.nilS ⟨[(2, Pt 101 0), (3, Pt 102 0), (6, B x_2), (20, B (!x_1))], [(101, .box 25 (eBig a0)), (102, .box 25 (eBig b0))]⟩ rfl (Tri.ite h rfl (fun _ h => ?_) (fun _ h => ?_))
  ·refine Tri.seq (Tri.regionL ?_)
   refine Oc oa (OpsL.nilS ⟨[(4, I (-1))], []⟩ rfl (Tri.ret (Fin.block_ret (Fin.then_ret ?_))))
   obtain rfl := Option.some.inj h
   refine Fin.keepS ⟨[(4, I (-1))], []⟩ rfl (Fin.result' [.one (.i (-1))] (.inl rfl) rfl (.cons (.tmp rfl) .nil) ⟨rfl, rfl⟩)
  ·refine Tri.seq (Tri.regionL ?_)
   refine Oc om (Oc (op_not rfl) (Oc oa ?_))
   refine OpsL.nilS ⟨[(2, Pt 101 0), (3, Pt 102 0), (23, B (!x_2))], [(101, .box 25 (eBig a0)), (102, .box 25 (eBig b0))]⟩ rfl (Tri.ite h rfl (fun _ h => ?_) (fun _ h => ?_))
   ·refine Tri.seq (Tri.regionL ?_)
    refine Oc oa (OpsL.nilS ⟨[(4, I 1)], []⟩ rfl (Tri.ret (Fin.block_ret (Fin.then_ret ?_))))
    obtain rfl := Option.some.inj h
    refine Fin.keepS ⟨[(4, I 1)], []⟩ rfl (Fin.result' [.one (.i 1)] (.inl rfl) rfl (.cons (.tmp rfl) .nil) ⟨rfl, rfl⟩)
   ·refine Tri.seq (Tri.regionL ?_)
    refine Oc (op_field_p tyFld25_1 rfl rfl) (Oc (op_load_p1 tyOne4 rfl rfl rfl) (Oc (op_field_p tyFld25_1 rfl rfl) (Oc (op_load_p1 tyOne4 rfl rfl rfl) (Oc (op_neq_bool und4 rfl rfl) (Oc oa ?_)))))
    refine OpsL.nilS ⟨[(2, Pt 101 0), (3, Pt 102 0), (26, B (a0.Neg != b0.Neg))], [(101, .box 25 (eBig a0)), (102, .box 25 (eBig b0))]⟩ rfl (Tri.ite h rfl (fun _ h => ?_) (fun _ h => ?_))
    ·refine Tri.seq (Tri.seq (Tri.regionL ?_))
     refine Oc (op_field_p tyFld25_1 rfl rfl) (Oc (op_load_p1 tyOne4 rfl rfl rfl) ?_)
     refine OpsL.nilS ⟨[(33, B a0.Neg)], []⟩ rfl (Tri.ite h rfl (fun _ h => ?_) (fun _ h => ?_))
     ·refine Tri.seq (Tri.regionL ?_)
      refine Oc oa (OpsL.nilS ⟨[(4, I (-1))], []⟩ rfl (Tri.ret (Fin.then_ret (Fin.block_ret (Fin.then_ret ?_)))))
      obtain rfl := Option.some.inj h
      refine Fin.keepS ⟨[(4, I (-1))], []⟩ rfl (Fin.result' [.one (.i (-1))] (.inl rfl) rfl (.cons (.tmp rfl) .nil) ⟨rfl, rfl⟩)
     ·refine Tri.skip (Fin.keepS ⟨[], []⟩ rfl (Fin.then (Tri.seq (Tri.regionL ?_))))
      refine Oc oa (OpsL.nilS ⟨[(4, I 1)], []⟩ rfl (Tri.ret (Fin.block_ret (Fin.then_ret ?_))))
      obtain rfl := Option.some.inj h
      refine Fin.keepS ⟨[(4, I 1)], []⟩ rfl (Fin.result' [.one (.i 1)] (.inl rfl) rfl (.cons (.tmp rfl) .nil) ⟨rfl, rfl⟩)
    ·refine Tri.seq (Tri.regionL ?_)
     refine Oc (op_field_p tyFld25_1 rfl rfl) (Oc (op_load_p1 tyOne4 rfl rfl rfl) (Oc oa ?_))
     refine OpsL.nilS ⟨[(2, Pt 101 0), (3, Pt 102 0), (34, B a0.Neg)], [(101, .box 25 (eBig a0)), (102, .box 25 (eBig b0))]⟩ rfl (Tri.ite h rfl (fun _ h => ?_) (fun _ h => ?_))
     ·refine Tri.seq (Tri.regionL ?_)
      refine Oc (op_field_p tyFld25_2 rfl rfl) (Oc (lp tyAgg23) (Oc (op_field_p tyFld25_2 rfl rfl) (Oc (lp tyAgg23) ?_)))
      obtain ⟨x_3, e5, h⟩ := bnd h
      refine Oc (op_call0 (w_order_spec e5) goes127 rfl rfl) (Oc oa ?_)
      refine OpsL.nilS ⟨[(4, I x_3)], []⟩ rfl (Tri.ret (Fin.block_ret (Fin.then_ret ?_)))
      obtain rfl := Option.some.inj h
      refine Fin.keepS ⟨[(4, I x_3)], []⟩ rfl (Fin.result' [.one (.i x_3)] (.inl rfl) rfl (.cons (.tmp rfl) .nil) ⟨rfl, rfl⟩)
     ·refine Tri.skip (Fin.block_normal (Fin.keepS ⟨[(2, Pt 101 0), (3, Pt 102 0)], [(101, .box 25 (eBig a0)), (102, .box 25 (eBig b0))]⟩ rfl (Fin.then (Tri.seq (Tri.regionL ?_)))))
      refine Oc (op_field_p tyFld25_2 rfl rfl) (Oc (lp tyAgg23) (Oc (op_field_p tyFld25_2 rfl rfl) (Oc (lp tyAgg23) ?_)))
      obtain ⟨x_4, e6, h⟩ := bnd h
      refine Oc (op_call0 (w_order_spec e6) goes127 rfl rfl) (Oc oa ?_)
      refine OpsL.nilS ⟨[(4, I x_4)], []⟩ rfl (Tri.ret ?_)
      obtain rfl := Option.some.inj h
      refine Fin.keepS ⟨[(4, I x_4)], []⟩ rfl (Fin.result' [.one (.i x_4)] (.inl rfl) rfl (.cons (.tmp rfl) .nil) ⟨rfl, rfl⟩)
def q_Near_S (F : Nat) (x0 : Frc) : Option Big :=
 (q_Floor_S F x0).bind fun x_1 => if x_1.Bad = true then (some x_1) else ((w_Rem_S F x0.N x0.D).bind fun x_2 => (w_Sub_S F x0.D x_2).bind fun x_3 => (w_Cmp_S F x_2 x_3).bind fun x_4 => if (decide (0 ≤ x_4)) = true then ((q_one_S F).bind fun x_5 => (w_Add_S F x_1 x_5).bind fun x_6 => some x_6) else (some x_1))
theorem q_Near_spec {F : Nat} {x0 : Frc} {r : Big} (h : q_Near_S F x0 = some r) : Meets Tryz.prog (tabs mx) 35 [] [.agg (eFrc x0)] (Is [] (.b (.agg (eBig r)))) := by
 unfold q_Near_S at h
 refine Meets.intro 26 Tryz.func35 Tryz.ntmps35 rfl (by simp) fun E => ?_
 show Tri _ E ⟨26, [], []⟩ _ ⟨[(0, .b (.agg (eFrc x0)))], []⟩ _
 refine Tri.seq (Tri.regionL ?_)
 refine Oc (op_box (k := 101) rfl rfl) (Oc (op_alloc (k := 102) tyZero25 rfl) ?_)
 refine OpsL.nilS ⟨[(1, Pt 101 0), (2, Pt 102 0)], [(101, .box 27 (eFrc x0)), (102, .box 25 zBig)]⟩ rfl (Tri.seq (Tri.regionL ?_))
 refine Oc (lp tyAgg27) ?_
 obtain ⟨x_1, e1, h⟩ := bnd h
 refine Oc (op_call0 (q_Floor_spec e1) goes31 rfl rfl) (Oc (op_alloc (k := 103) tyZero25 rfl) (Oc (op_store_p tyAgg25 rfl rfl rfl rfl (Nat.le_of_ble_eq_true rfl) rfl) ?_))
 refine OpsL.nilS ⟨[(1, Pt 101 0), (2, Pt 102 0), (3, Pt 103 0)], [(101, .box 27 (eFrc x0)), (102, .box 25 zBig), (103, .box 25 (eBig x_1))]⟩ rfl (Tri.seq (Tri.seq (Tri.regionL ?_)))
 refine Oc (op_field_p tyFld25_0 rfl rfl) (Oc (op_load_p1 tyOne4 rfl rfl rfl) ?_)
 refine OpsL.nilS ⟨[(1, Pt 101 0), (2, Pt 102 0), (3, Pt 103 0), (8, B x_1.Bad)], [(101, .box 27 (eFrc x0)), (102, .box 25 zBig), (103, .box 25 (eBig x_1))]⟩ rfl (Tri.ite h rfl (fun _ h => ?_) (fun _ h => ?_))
 ·refine Tri.seq (Tri.regionL ?_)
  refine Oc (lp tyAgg25) (Oc (op_store_p tyAgg25 rfl rfl rfl rfl (Nat.le_of_ble_eq_true rfl) rfl) ?_)
  refine OpsL.nilS ⟨[(2, Pt 102 0)], [(102, .box 25 (eBig x_1))]⟩ rfl (Tri.ret (Fin.then_ret ?_))
  obtain rfl := Option.some.inj h
  refine Fin.keepS ⟨[(2, Pt 102 0)], [(102, .box 25 (eBig x_1))]⟩ rfl (Fin.result' [.agg (eBig x_1)] (.inl rfl) rfl (.cons (.agg tyAgg25 rfl rfl rfl rfl) .nil) ⟨rfl, rfl⟩)
 ·refine Tri.skip (Fin.keepS ⟨[(1, Pt 101 0), (2, Pt 102 0), (3, Pt 103 0)], [(101, .box 27 (eFrc x0)), (102, .box 25 zBig), (103, .box 25 (eBig x_1))]⟩ rfl (Fin.then (Tri.seq (Tri.seq (Tri.regionL ?_)))))
  refine Oc (op_field_p tyFld27_0 rfl rfl) (Oc (lp tyAgg25) (Oc (op_field_p tyFld27_1 rfl rfl) (Oc (lp tyAgg25) ?_)))
  obtain ⟨x_2, e2, h⟩ := bnd h
  refine Oc (op_call0 (w_Rem_spec e2) goes94 rfl rfl) (Oc (op_alloc (k := 104) tyZero25 rfl) (Oc (op_store_p tyAgg25 rfl rfl rfl rfl (Nat.le_of_ble_eq_true rfl) rfl) ?_))
  refine OpsL.nilS ⟨[(1, Pt 101 0), (2, Pt 102 0), (3, Pt 103 0), (4, Pt 104 0)], [(101, .box 27 (eFrc x0)), (102, .box 25 zBig), (103, .box 25 (eBig x_1)), (104, .box 25 (eBig x_2))]⟩ rfl (Tri.seq ?_)
  obtain ⟨x_3, e3, h⟩ := bnd h
  obtain ⟨x_4, e4, h⟩ := bnd h
  refine Tri.regionY mixed 7 [.b (.agg (eBig x_2)), Pt 101 18, .b (.agg (eBig x0.D)), .b (.agg (eBig x_2)), .b (.agg (eBig x_3)), I x_4, B (decide (0 ≤ x_4))] [2, 3, 21] [102, 103] (s' := ⟨[(2, Pt 102 0), (3, Pt 103 0), (21, B (decide (0 ≤ x_4)))], [(102, .box 25 zBig), (103, .box 25 (eBig x_1))]⟩) rfl ⟨fun _ => .p (lp tyAgg25), fun _ => .p (op_field_p tyFld27_1 rfl rfl), fun _ => .p (lp tyAgg25), fun _ => .p (lp tyAgg25), fun _ => .p (op_call0 (w_Sub_spec e3) goes96 rfl rfl), fun _ => .p (op_call0 (w_Cmp_spec e4) goes95 rfl rfl), fun _ => .p (op_geq rfl rfl), trivial⟩ rfl rfl (Tri.ite h rfl (fun _ h => ?_) (fun _ h => ?_))
  ·refine Tri.seq (Tri.keepS ⟨[(2, Pt 102 0), (3, Pt 103 0)], [(102, .box 25 zBig), (103, .box 25 (eBig x_1))]⟩ rfl ?_)
   obtain ⟨x_5, e5, h⟩ := bnd h
   obtain ⟨x_6, e6, h⟩ := bnd h
   refine Tri.regionY mixed 3 [.b (.agg (eBig x_1)), .b (.agg (eBig x_5)), .b (.agg (eBig x_6))] [2] [102] (s' := ⟨[(2, Pt 102 0)], [(102, .box 25 (eBig x_6))]⟩) rfl ⟨fun _ => .p (lp tyAgg25), fun _ => .p (op_call0 (q_one_spec e5) goes90 rfl rfl), fun _ => .p (op_call0 (w_Add_spec e6) goes97 rfl rfl), trivial⟩ ⟨_, by exact .p (op_store_p tyAgg25 rfl rfl rfl rfl (Nat.le_of_ble_eq_true rfl) rfl), rfl⟩ rfl (Tri.ret (Fin.then_ret ?_))
   obtain rfl := Option.some.inj h
   refine Fin.keepS ⟨[(2, Pt 102 0)], [(102, .box 25 (eBig x_6))]⟩ rfl (Fin.result' [.agg (eBig x_6)] (.inl rfl) rfl (.cons (.agg tyAgg25 rfl rfl rfl rfl) .nil) ⟨rfl, rfl⟩)
  ·refine Tri.skip (Fin.keepS ⟨[(2, Pt 102 0), (3, Pt 103 0)], [(102, .box 25 zBig), (103, .box 25 (eBig x_1))]⟩ rfl (Fin.then (Tri.seq (Tri.regionL ?_))))
   refine Oc (lp tyAgg25) (Oc (op_store_p tyAgg25 rfl rfl rfl rfl (Nat.le_of_ble_eq_true rfl) rfl) ?_)
   refine OpsL.nilS ⟨[(2, Pt 102 0)], [(102, .box 25 (eBig x_1))]⟩ rfl (Tri.ret ?_)
   obtain rfl := Option.some.inj h
   refine Fin.keepS ⟨[(2, Pt 102 0)], [(102, .box 25 (eBig x_1))]⟩ rfl (Fin.result' [.agg (eBig x_1)] (.inl rfl) rfl (.cons (.agg tyAgg25 rfl rfl rfl rfl) .nil) ⟨rfl, rfl⟩)
def w_trailing_S (F : Nat) (w0 : A16) : Option Int :=
 Option.bind (iter F (fun k_2 => (idx? w0.l k_2).bind fun x_4 => if (decide (x_4 = 0)) = true then (some (.inl (IntKind.i64.wrap (k_2 + 1)))) else (some (.inr k_2))) 0) (fun k_1 => (idx? w0.l k_1).bind fun x_5 => (bits_TZ32_S F x_5).bind fun x_6 => letN (IntKind.i64.wrap ((IntKind.i64.wrap (32 * k_1)) + x_6)) fun x_7 => some x_7)
theorem w_trailing_spec {F : Nat} {w0 : A16} {r : Int} (h : w_trailing_S F w0 = some r) : Meets Tryz.prog (tabs mx) 146 [] [.agg (eW w0)] (Is [] (.b (.one (.i r)))) := by
 unfold w_trailing_S at h
 refine Meets.intro 17 Tryz.func146 Tryz.ntmps146 rfl (by simp) fun E => ?_
 show Tri _ E ⟨17, [], []⟩ _ ⟨[(0, .b (.agg (eW w0)))], []⟩ _
 refine Tri.seq (Tri.regionL ?_)
 refine Oc (op_box (k := 101) rfl rfl) (Oc oa ?_)
 refine OpsL.nilS ⟨[(1, Pt 101 0)], [(101, .box 23 (eW w0))]⟩ rfl (Tri.seq (Tri.regionL ?_))
 refine Oc oa (OpsL.nilS ⟨[(1, Pt 101 0), (3, I 0)], [(101, .box 23 (eW w0))]⟩ rfl ?_)
 obtain ⟨v1, h2, h⟩ := bnd h
 refine Tri.seqJ (v := v1) (fun (k_1 : Int) => ⟨[(1, Pt 101 0), (3, I k_1)], [(101, .box 23 (eW w0))]⟩) (fun z => z) ?_ ?_
 ·refine Tri.block (Tri.loopJ h2 (fun (k_2 : Int) => ⟨[(1, Pt 101 0), (3, I k_2)], [(101, .box 23 (eW w0))]⟩) [1, 3] [101] rfl ?_)
  rintro k_2 o3 h4 hy5
  refine Tri.seq (Tri.seq (Tri.regionL ?_))
  refine Oc om ?_
  obtain ⟨x_4, e6, h4⟩ := bnd h4
  refine Oc (op_index_p tyArr23 (ix_lo e6) (ix_hi e6) rfl rfl rfl) (Oc (op_load_p1 tyOne22 rfl rfl (arr_get (post := []) (k := .u32) [] e6 rfl rfl rfl)) (Oc (op_eql rfl rfl) ?_))
  refine OpsL.nilS ⟨[(1, Pt 101 0), (3, I k_2), (7, B (decide (x_4 = 0)))], [(101, .box 23 (eW w0))]⟩ rfl (Tri.ite h4 rfl (fun _ h4 => ?_) (fun _ h4 => ?_))
  ·refine Tri.skip (Fin.keepS ⟨[(1, Pt 101 0), (3, I k_2)], [(101, .box 23 (eW w0))]⟩ rfl (Fin.then (Tri.block (Tri.regionL ?_))))
   refine Oc om (Oc (op_add rfl rfl) (Oc oa ?_))
   refine OpsL.nil (Fin.block_normal ?_)
   exact Fin.againJ [1, 3] [101] (IntKind.i64.wrap (k_2 + 1)) (Option.some.inj h4) rfl
  ·refine Tri.exit (Fin.then_exit ?_)
   obtain rfl := hy5 _ (Option.some.inj h4).symm
   refine Fin.then_exit (Fin.block_exit ?_)
   exact Fin.join [1, 3] [101] k_2 rfl rfl
 ·rintro k_1 hv
  subst v1
  refine Tri.seq (Tri.regionL ?_)
  refine Oc om (Oc (op_mul rfl rfl) (Oc om ?_))
  obtain ⟨x_5, e7, h⟩ := bnd h
  refine Oc (op_index_p tyArr23 (ix_lo e7) (ix_hi e7) rfl rfl rfl) (Oc (op_load_p1 tyOne22 rfl rfl (arr_get (post := []) (k := .u32) [] e7 rfl rfl rfl)) ?_)
  refine OpsL.keepS ⟨[(11, I (IntKind.i64.wrap (32 * k_1))), (14, .b (.one (.int .u32 x_5)))], []⟩ rfl ?_
  obtain ⟨x_6, e8, h⟩ := bnd h
  refine Oc (op_call0 (bits_TZ32_spec e8) goes155 rfl rfl) (OpsL.consI .i64 h rfl (op_add rfl rfl) (fun x_7 h => ?_))
  refine Oc oa (OpsL.nilS ⟨[(2, I x_7)], []⟩ rfl (Tri.ret ?_))
  obtain rfl := Option.some.inj h
  refine Fin.keepS ⟨[(2, I x_7)], []⟩ rfl (Fin.result' [.one (.i x_7)] (.inl rfl) rfl (.cons (.tmp rfl) .nil) ⟨rfl, rfl⟩)
def w_lost_S (F : Nat) (x0 : Big) (w0 : A16) (n0 : List Int) : Option Big :=
 (w_signed_S F x0.Neg w0).bind fun x_1 => (gcall (x0.Neg && !(decide ((n0.length : Int) = 0))) (w_trailing_S F x0.W)).bind fun x_2 => (gcall (x0.Neg && !(decide ((n0.length : Int) = 0))) (idx? n0 0)).bind fun x_3 => if (x0.Neg && ((decide ((n0.length : Int) = 0)) || (decide (x_2 < x_3)))) = true then ((w_Of_S F 1).bind fun x_4 => (w_Sub_S F x_1 x_4).bind fun x_5 => some x_5) else (some x_1)
theorem w_lost_spec {F : Nat} {x0 : Big} {w0 : A16} {n0 : List Int} {r : Big} (h : w_lost_S F x0 w0 n0 = some r) : Meets Tryz.prog (tabs mx) 124 [] [.agg (eBig x0), .agg (eW w0), .one (.sl 1 (n0.map eI))] (Is [] (.b (.agg (eBig r)))) := by
 unfold w_lost_S at h
 refine Meets.intro 32 Tryz.func124 Tryz.ntmps124 rfl (by simp) fun E => ?_
 show Tri _ E ⟨32, [], []⟩ _ ⟨[(0, .b (.agg (eBig x0))), (1, .b (.agg (eW w0))), (2, .b (.one (.sl 1 (n0.map eI))))], []⟩ _
 refine Tri.seq (Tri.regionL ?_)
 refine Oc (op_box (k := 101) rfl rfl) (Oc (op_box (k := 102) rfl rfl) (Oc (op_alloc (k := 103) tyZero25 rfl) ?_))
 refine OpsL.nilS ⟨[(2, .b (.one (.sl 1 (n0.map eI)))), (3, Pt 101 0), (4, Pt 102 0), (6, Pt 103 0)], [(101, .box 25 (eBig x0)), (102, .box 23 (eW w0)), (103, .box 25 zBig)]⟩ rfl (Tri.seq (Tri.regionL ?_))
 refine Oc (op_field_p tyFld25_1 rfl rfl) (Oc (op_load_p1 tyOne4 rfl rfl rfl) (Oc (lp tyAgg23) ?_))
 obtain ⟨x_1, e1, h⟩ := bnd h
 refine Oc (op_call0 (w_signed_spec e1) goes115 rfl rfl) (Oc (op_alloc (k := 104) tyZero25 rfl) (Oc (op_store_p tyAgg25 rfl rfl rfl rfl (Nat.le_of_ble_eq_true rfl) rfl) ?_))
 refine OpsL.nilS ⟨[(2, .b (.one (.sl 1 (n0.map eI)))), (3, Pt 101 0), (6, Pt 103 0), (7, Pt 104 0)], [(101, .box 25 (eBig x0)), (103, .box 25 zBig), (104, .box 25 (eBig x_1))]⟩ rfl (Tri.seq (Tri.seq ?_))
 refine Tri.keepS ⟨[(2, .b (.one (.sl 1 (n0.map eI)))), (3, Pt 101 0), (6, Pt 103 0), (7, Pt 104 0)], [(101, .box 25 (eBig x0)), (103, .box 25 zBig), (104, .box 25 (eBig x_1))]⟩ rfl ?_
 obtain ⟨x_2, e9, h⟩ := bnd h
 obtain ⟨x_3, e12, h⟩ := bnd h
 refine Tri.regionY mixed 16 [Pt 101 1, B x0.Neg, B x0.Neg, .opt x0.Neg (.one (.sl 1 (n0.map eI))), .opt x0.Neg (.one (.i (n0.length : Int))), .opt x0.Neg (.one (.bool (decide ((n0.length : Int) = 0)))), .opt x0.Neg (.one (.bool (decide ((n0.length : Int) = 0)))), .opt (x0.Neg && !(decide ((n0.length : Int) = 0))) (.ptr 101 2), .opt (x0.Neg && !(decide ((n0.length : Int) = 0))) (.agg (eW x0.W)), .opt (x0.Neg && !(decide ((n0.length : Int) = 0))) (.one (.i x_2)), .opt (x0.Neg && !(decide ((n0.length : Int) = 0))) (.one (.sl 1 (n0.map eI))), .opt (x0.Neg && !(decide ((n0.length : Int) = 0))) (.eptr [.i x_3]), .opt (x0.Neg && !(decide ((n0.length : Int) = 0))) (.one (.i x_3)), .opt (x0.Neg && !(decide ((n0.length : Int) = 0))) (.one (.bool (decide (x_2 < x_3)))), .opt x0.Neg (.one (.bool ((decide ((n0.length : Int) = 0)) || (decide (x_2 < x_3))))), B (x0.Neg && ((decide ((n0.length : Int) = 0)) || (decide (x_2 < x_3))))] [6, 7, 27] [103, 104] (s' := ⟨[(6, Pt 103 0), (7, Pt 104 0), (27, B (x0.Neg && ((decide ((n0.length : Int) = 0)) || (decide (x_2 < x_3)))))], [(103, .box 25 zBig), (104, .box 25 (eBig x_1))]⟩) rfl ⟨fun _ => .p (op_field_p tyFld25_1 rfl rfl), fun _ => .p (op_load_p1 tyOne4 rfl rfl rfl), fun _ => .p om, fun _ => by exact .guard x0.Neg 1 [] (.plain rfl) (eq_t _) rfl rfl (fun g2 => trivial) (fun g2 => om), fun _ => by exact .guard x0.Neg 2 [15] (.plain rfl) (eq_t _) rfl rfl (fun g3 => ⟨g3, trivial⟩) (fun g3 => op_len_e' und70 rfl (List.length_map _)), fun _ => by exact .guard x0.Neg 2 [16] (.plain rfl) (eq_t _) rfl rfl (fun g4 => ⟨g4, trivial⟩) (fun g4 => op_eql rfl rfl), fun _ => by exact .guard x0.Neg 3 [17] (.plain rfl) (eq_t _) rfl rfl (fun g5 => ⟨g5, trivial⟩) (fun g5 => om), fun _ => by exact .guard (x0.Neg && !(decide ((n0.length : Int) = 0))) 1 [] (.under rfl) (and_f _ _) rfl rfl (fun g6 => trivial) (fun g6 => op_field_p tyFld25_2 rfl rfl), fun _ => by exact .guard (x0.Neg && !(decide ((n0.length : Int) = 0))) 2 [19] (.under rfl) (and_f _ _) rfl rfl (fun g7 => ⟨g7, trivial⟩) (fun g7 => lp tyAgg23), fun _ => by exact .guard (x0.Neg && !(decide ((n0.length : Int) = 0))) 3 [20] (.under rfl) (and_f _ _) rfl rfl (fun g8 => ⟨g8, trivial⟩) (fun g8 => op_call0 (w_trailing_spec (gc e9 g8)) goes146 rfl rfl), fun _ => by exact .guard (x0.Neg && !(decide ((n0.length : Int) = 0))) 1 [] (.under rfl) (and_f _ _) rfl rfl (fun g10 => trivial) (fun g10 => om), fun _ => by exact .guard (x0.Neg && !(decide ((n0.length : Int) = 0))) 2 [22] (.under rfl) (and_f _ _) rfl rfl (fun g11 => ⟨g11, trivial⟩) (fun g11 => op_index_e tySl70 (ix_lo (gc e12 g11)) (ix_map (e := eI) (gc e12 g11)) rfl rfl), fun _ => by exact .guard (x0.Neg && !(decide ((n0.length : Int) = 0))) 2 [23] (.under rfl) (and_f _ _) rfl rfl (fun g13 => ⟨g13, trivial⟩) (fun g13 => op_load_e1 tyOne3 rfl rfl), fun _ => by exact .guard (x0.Neg && !(decide ((n0.length : Int) = 0))) 3 [21, 24] (.under rfl) (and_f _ _) rfl rfl (fun g14 => ⟨g14, g14, trivial⟩) (fun g14 => op_lss rfl rfl), fun _ => by exact .guard x0.Neg 3 [18] (.plain rfl) (eq_t _) rfl rfl (fun g15 => ⟨g15, trivial⟩) (fun g15 => op_pick_or (fun e => by rw [g15, e]; rfl) rfl rfl rfl rfl), fun _ => .p (op_pick_and (fun e => e) rfl rfl rfl rfl), trivial⟩ rfl rfl ?_
 refine Tri.ite h rfl (fun _ h => ?_) (fun _ h => ?_)
 ·refine Tri.seq (Tri.keepS ⟨[(6, Pt 103 0), (7, Pt 104 0)], [(103, .box 25 zBig), (104, .box 25 (eBig x_1))]⟩ rfl ?_)
  obtain ⟨x_4, e16, h⟩ := bnd h
  obtain ⟨x_5, e17, h⟩ := bnd h
  refine Tri.regionY mixed 3 [.b (.agg (eBig x_1)), .b (.agg (eBig x_4)), .b (.agg (eBig x_5))] [6] [103] (s' := ⟨[(6, Pt 103 0)], [(103, .box 25 (eBig x_5))]⟩) rfl ⟨fun _ => .p (lp tyAgg25), fun _ => .p (op_call0 (w_Of_spec e16) goes91 rfl rfl), fun _ => .p (op_call0 (w_Sub_spec e17) goes96 rfl rfl), trivial⟩ ⟨_, by exact .p (op_store_p tyAgg25 rfl rfl rfl rfl (Nat.le_of_ble_eq_true rfl) rfl), rfl⟩ rfl (Tri.ret (Fin.then_ret ?_))
  obtain rfl := Option.some.inj h
  refine Fin.keepS ⟨[(6, Pt 103 0)], [(103, .box 25 (eBig x_5))]⟩ rfl (Fin.result' [.agg (eBig x_5)] (.inl rfl) rfl (.cons (.agg tyAgg25 rfl rfl rfl rfl) .nil) ⟨rfl, rfl⟩)
 ·refine Tri.skip (Fin.keepS ⟨[(6, Pt 103 0), (7, Pt 104 0)], [(103, .box 25 zBig), (104, .box 25 (eBig x_1))]⟩ rfl (Fin.then (Tri.seq (Tri.regionL ?_))))
  refine Oc (lp tyAgg25) (Oc (op_store_p tyAgg25 rfl rfl rfl rfl (Nat.le_of_ble_eq_true rfl) rfl) ?_)
  refine OpsL.nilS ⟨[(6, Pt 103 0)], [(103, .box 25 (eBig x_1))]⟩ rfl (Tri.ret ?_)
  obtain rfl := Option.some.inj h
  refine Fin.keepS ⟨[(6, Pt 103 0)], [(103, .box 25 (eBig x_1))]⟩ rfl (Fin.result' [.agg (eBig x_1)] (.inl rfl) rfl (.cons (.agg tyAgg25 rfl rfl rfl rfl) .nil) ⟨rfl, rfl⟩)
end Go.Proofs.YtdjnlmmhbeeihaaGreatDoor

