/- printed walks -/
import Derived.Test.YtimhhebjefkjlaaW1
namespace Go.Proofs.Ytimhhebjefkjlaa
open Go.Sk Go
set_option maxHeartbeats 1000000
set_option maxRecDepth 4000
set_option linter.unusedSimpArgs false
set_option linter.unusedVariables false
def skewbacklaw39_sanity_S (F : Nat) : Option Bool :=
 (skewbacklaw39_is_S F 0 1 2 5).bind fun x_1 => (skewbacklaw39_is_S F 1 2 1 1).bind fun x_2 => (skewbacklaw39_is_S F 0 2 0 4).bind fun x_3 => (take? [x_1, x_2, x_3] 2).bind fun x_4 => Option.bind (sensor_Boxes_S F x_4 0) (un2 fun x_5 x_6 => Option.bind (sensor_Boxes_S F [x_1, x_2, x_3] 0) (un2 fun x_7 x_8 => Option.bind (sensor_Solution_S F [x_1, x_2, x_3] 0) (un2 fun x_9 x_10 => letN (((decide (x_6 ≠ 0)) || (decide (x_8 ≠ 0))) || (decide (x_10 ≠ 0))) fun x_11 => letN ((x_11 || (decide ((x_5.length : Int) ≠ 2))) || (decide ((x_7.length : Int) ≠ 2))) fun x_12 => if (x_12 || (decide ((x_9.length : Int) ≠ 2))) = true then (some false) else ((idx? x_5 0).bind fun x_13 => (skewbacklaw39_sanity_1_S F 2 5).bind fun x_14 => (gcall (decide (x_13 = x_14)) (idx? x_5 1)).bind fun x_15 => (gcall (decide (x_13 = x_14)) (skewbacklaw39_sanity_1_S F 3 6)).bind fun x_16 => (gcall ((decide (x_13 = x_14)) && (decide (x_15 = x_16))) (idx? x_7 0)).bind fun x_17 => (gcall ((decide (x_13 = x_14)) && (decide (x_15 = x_16))) (skewbacklaw39_sanity_1_S F 2 3)).bind fun x_18 => (gcall (((decide (x_13 = x_14)) && (decide (x_15 = x_16))) && (decide (x_17 = x_18))) (idx? x_7 1)).bind fun x_19 => (gcall (((decide (x_13 = x_14)) && (decide (x_15 = x_16))) && (decide (x_17 = x_18))) (skewbacklaw39_sanity_1_S F 3 4)).bind fun x_20 => (gcall ((((decide (x_13 = x_14)) && (decide (x_15 = x_16))) && (decide (x_17 = x_18))) && (decide (x_19 = x_20))) (idx? x_9 0)).bind fun x_21 => (gcall (((((decide (x_13 = x_14)) && (decide (x_15 = x_16))) && (decide (x_17 = x_18))) && (decide (x_19 = x_20))) && (decide (x_21 = (⟨2, 0, 0⟩ : A3)))) (idx? x_9 1)).bind fun x_22 => (take? [x_1, x_2, x_3] 3).bind fun x_23 => (skewbacklaw39_is_S F 0 2 5 9).bind fun x_24 => (app? x_23 [x_24]).bind fun x_25 => Option.bind (sensor_Contradiction_S F x_25 0) (un2 fun x_26 x_27 => (take? [x_1, x_2, x_3] 2).bind fun x_28 => (skewbacklaw39_is_S F 0 2 0 2).bind fun x_29 => (app? x_28 [x_29]).bind fun x_30 => Option.bind (sensor_Contradiction_S F x_30 0) (un2 fun x_31 x_32 => Option.bind (sensor_Contradiction_S F [x_1, x_2, x_3] 0) (un2 fun x_33 x_34 => (take? [x_1, x_2, x_3] 2).bind fun x_35 => (skewbacklaw39_is_S F 0 2 3 7).bind fun x_36 => Option.bind (sensor_Implied_S F x_35 0 x_36) (un2 fun x_37 x_38 => (take? [x_1, x_2, x_3] 2).bind fun x_39 => (skewbacklaw39_is_S F 0 2 4 6).bind fun x_40 => Option.bind (sensor_Implied_S F x_39 0 x_40) (un2 fun x_41 x_42 => (skewbacklaw39_ints_S F x_26 [2, 3]).bind fun x_43 => (gcall (x_43 && (decide (x_27 = 0))) (skewbacklaw39_ints_S F x_31 [0, 1, 2])).bind fun x_44 => letN (((x_43 && (decide (x_27 = 0))) && x_44) && (decide (x_32 = 0))) fun x_45 => letN ((x_45 && (decide ((x_33.length : Int) = 0))) && (decide (x_34 = (-1)))) fun x_46 => letN ((((((decide (x_13 = x_14)) && (decide (x_15 = x_16))) && (decide (x_17 = x_18))) && (decide (x_19 = x_20))) && (decide (x_21 = (⟨2, 0, 0⟩ : A3)))) && (decide (x_22 = (⟨3, 0, 0⟩ : A3)))) fun x_47 => letN (((((x_47 && x_46) && x_37) && (!x_41)) && (decide (x_38 = 0))) && (decide (x_42 = 0))) fun x_48 => (gcall x_48 (sensor_Consistent_S F [x_1, x_2, x_3] 0)).bind fun x_49 => (gcall (x_48 && x_49) (sensor_Fits_S F [x_1, x_2, x_3] 0 x_9)).bind fun x_50 => some ((x_48 && x_49) && x_50))))))))))
theorem skewbacklaw39_sanity_spec {F : Nat} {r : Bool} (h : skewbacklaw39_sanity_S F = some r) : Meets Try.prog [] 9 [] [] (Is [] (.b (.one (.bool r)))) := by
 unfold skewbacklaw39_sanity_S at h
 refine Meets.intro 200 Try.func9 Try.ntmps9 rfl (by simp) fun E => ?_
 show Tri _ E ⟨200, [], [], []⟩ _ ⟨[], []⟩ _
 refine Tri.seq (Tri.regionL ?_)
 refine Oc oa (OpsL.nilS ⟨[], []⟩ rfl (Tri.seq (Tri.regionL ?_)))
 obtain ⟨x_1, e1, h⟩ := bnd h
 refine Oc (op_call0 (skewbacklaw39_is_spec e1) goes31 rfl rfl) ?_
 obtain ⟨x_2, e2, h⟩ := bnd h
 refine Oc (op_call0 (skewbacklaw39_is_spec e2) goes31 rfl rfl) (OpsL.keepS ⟨[(21, .b (.agg (eReport x_1))), (22, .b (.agg (eReport x_2)))], []⟩ rfl ?_)
 obtain ⟨x_3, e3, h⟩ := bnd h
 refine Oc (op_call0 (skewbacklaw39_is_spec e3) goes31 rfl rfl) (Oc (op_buildSlice (k := 101) (es := [x_1, x_2, x_3].map eReport) tySl22 rfl rfl (uni_map fun _ => rfl) rfl (by decide) (by decide) rfl) (Oc oa ?_))
 refine OpsL.nilS ⟨[(1, .b (.row 101))], [(101, .row 24 6 ([x_1, x_2, x_3].map eReport))]⟩ rfl (Tri.seq (Tri.regionL ?_))
 refine Oc om (OpsL.persist 101 rfl ?_)
 obtain ⟨x_4, e4, h⟩ := bnd h
 refine Oc (op_slice_h2 tySl22 e4 rfl rfl) ?_
 obtain ⟨⟨x_5, x_6⟩, e5, h⟩ := bnd h
 refine Oc (op_call (sensor_Boxes_spec 102 e5) goes10 rfl trivial rfl rfl) (OpsL.keepS ⟨[(1, .b (.one (.sl 6 ([x_1, x_2, x_3].map eReport)))), (28, .tup [.row 102, .one (.i x_6)])], [(102, .row 36 12 (x_5.map eArr3Bound))]⟩ rfl (Oc om (Oc (op_extract rfl rfl) (Oc (op_extract rfl rfl) (Oc oa (Oc oa ?_))))))
 refine OpsL.nilS ⟨[(1, _), (2, .b (.row 102)), (3, I x_6)], [(102, _)]⟩ rfl (Tri.seq (Tri.regionL ?_))
 refine Oc om ?_
 obtain ⟨⟨x_7, x_8⟩, e6, h⟩ := bnd h
 refine Oc (op_call (sensor_Boxes_spec 103 e6) goes10 rfl trivial rfl rfl) (Oc om (Oc (op_extract rfl rfl) (Oc (op_extract rfl rfl) (Oc oa (Oc oa ?_)))))
 refine OpsL.nilS ⟨[(1, _), (2, _), (3, _), (4, .b (.row 103)), (5, I x_8)], [(102, _), (103, .row 36 12 (x_7.map eArr3Bound))]⟩ rfl (Tri.seq (Tri.regionL ?_))
 refine Oc om ?_
 obtain ⟨⟨x_9, x_10⟩, e7, h⟩ := bnd h
 refine Oc (op_call (sensor_Solution_spec 104 e7) goes24 rfl trivial rfl rfl) (Oc om (Oc (op_extract rfl rfl) (Oc (op_extract rfl rfl) (Oc oa (Oc oa ?_)))))
 refine OpsL.nilS ⟨[(1, _), (2, _), (3, _), (4, _), (5, _), (6, .b (.row 104)), (7, I x_10)], [(102, _), (103, _), (104, .row 52 3 (x_9.map (eA3 .i64)))]⟩ rfl (Tri.seq (Tri.seq (Tri.regionL ?_)))
 refine Oc om (Oc (op_neq rfl rfl) (Oc om ?_))
 refine CgF (!(decide (x_6 ≠ 0))) [] (fun g8 => trivial) (fun g8 => om) (CgF (!(decide (x_6 ≠ 0))) [44] (fun g9 => by exact ⟨g9, trivial⟩) (fun g9 => op_neq rfl rfl) (Oc (op_pick_or (fun e => by rw [e]; rfl) rfl rfl rfl rfl) (Oc om ?_)))
 refine OpsL.keepS ⟨[(1, _), (2, _), (4, _), (6, _), (7, _), (47, B ((decide (x_6 ≠ 0)) || (decide (x_8 ≠ 0))))], [(102, _), (103, _), (104, _)]⟩ rfl (CgF (!((decide (x_6 ≠ 0)) || (decide (x_8 ≠ 0)))) [] (fun g10 => trivial) (fun g10 => om) (CgF (!((decide (x_6 ≠ 0)) || (decide (x_8 ≠ 0)))) [48] (fun g11 => by exact ⟨g11, trivial⟩) (fun g11 => op_neq rfl rfl) (OpsL.consB h rfl (op_pick_or (fun e => by rw [e]; rfl) rfl rfl rfl rfl) (fun x_11 h => ?_))))
 refine Oc om (CgF (!x_11) [] (fun g12 => by exact trivial) (fun g12 => om) (CgF (!x_11) [52] (fun g13 => by exact ⟨g13, trivial⟩) (fun g13 => op_len_r' und27 rfl rfl (List.length_map _)) (CgF (!x_11) [53] (fun g14 => by exact ⟨g14, trivial⟩) (fun g14 => op_neq rfl rfl) (OpsL.keepS ⟨[(1, _), (2, _), (4, _), (6, _), (51, B x_11), (54, .opt (!x_11) (.one (.bool (decide ((x_5.length : Int) ≠ 2)))))], [(102, _), (103, _), (104, _)]⟩ rfl (Oc (op_pick_or (fun e => by rw [e]; rfl) rfl rfl rfl rfl) (Oc om ?_))))))
 refine CgF (!(x_11 || (decide ((x_5.length : Int) ≠ 2)))) [] (fun g15 => trivial) (fun g15 => om) (CgF (!(x_11 || (decide ((x_5.length : Int) ≠ 2)))) [57] (fun g16 => by exact ⟨g16, trivial⟩) (fun g16 => op_len_r' und27 rfl rfl (List.length_map _)) (CgF (!(x_11 || (decide ((x_5.length : Int) ≠ 2)))) [58] (fun g17 => by exact ⟨g17, trivial⟩) (fun g17 => op_neq rfl rfl) (OpsL.consB h rfl (op_pick_or (fun e => by rw [e]; rfl) rfl rfl rfl rfl) (fun x_12 h => ?_))))
 refine Oc om (OpsL.keepS ⟨[(1, _), (2, _), (4, _), (6, _), (61, B x_12)], [(102, _), (103, _), (104, _)]⟩ rfl (CgF (!x_12) [] (fun g18 => by exact trivial) (fun g18 => om) (CgF (!x_12) [62] (fun g19 => by exact ⟨g19, trivial⟩) (fun g19 => op_len_r' und50 rfl rfl (List.length_map _)) (CgF (!x_12) [63] (fun g20 => by exact ⟨g20, trivial⟩) (fun g20 => op_neq rfl rfl) (Oc (op_pick_or (fun e => by rw [e]; rfl) rfl rfl rfl rfl) ?_)))))
 refine OpsL.nilS ⟨[(1, _), (2, _), (4, _), (6, _), (65, B (x_12 || (decide ((x_9.length : Int) ≠ 2))))], [(102, _), (103, _), (104, _)]⟩ rfl (Tri.ite h rfl (fun _ h => ?_) (fun _ h => ?_))
 ·refine Tri.seq (Tri.regionL ?_)
  refine Oc oa (OpsL.nilS ⟨[(0, B false)], []⟩ rfl (Tri.ret (Fin.then_ret ?_)))
  obtain rfl := Option.some.inj h
  refine Fin.keepS ⟨[(0, _)], []⟩ rfl (Fin.result' [.one (.bool false)] (.inl rfl) rfl (.cons (.tmp rfl) .nil) ⟨rfl, rfl⟩)
 ·refine Tri.skip (Fin.keepS ⟨[(1, _), (2, _), (4, _), (6, _)], [(102, _), (103, _), (104, _)]⟩ rfl (Fin.then (Tri.seq (Tri.regionL ?_))))
  refine Oc oa (OpsL.nilS ⟨[(1, _), (2, _), (4, _), (6, _), (8, .b (.one (.raw (.func (.func 32) #[] #[]))))], [(102, _), (103, _), (104, _)]⟩ rfl (Tri.seq ?_))
  obtain ⟨x_13, e21, h⟩ := bnd h
  obtain ⟨x_14, e22, h⟩ := bnd h
  obtain ⟨x_15, e25, h⟩ := bnd h
  obtain ⟨x_16, e29, h⟩ := bnd h
  obtain ⟨x_17, e33, h⟩ := bnd h
  obtain ⟨x_18, e37, h⟩ := bnd h
  obtain ⟨x_19, e41, h⟩ := bnd h
  obtain ⟨x_20, e45, h⟩ := bnd h
  obtain ⟨x_21, e49, h⟩ := bnd h
  obtain ⟨x_22, e55, h⟩ := bnd h
  refine Tri.regionY mixed 45 [.b (.row 102), .b (.rptr 102 ((0 : Int).toNat * 12)), .b (.agg (eArr3Bound x_13)), .b (.one (.raw (.func (.func 32) #[] #[]))), .b (.agg (eArr3Bound x_14)), B (decide (x_13 = x_14)), B (decide (x_13 = x_14)), .opt (decide (x_13 = x_14)) (.row 102), .opt (decide (x_13 = x_14)) (.rptr 102 ((1 : Int).toNat * 12)), .opt (decide (x_13 = x_14)) (.agg (eArr3Bound x_15)), .opt (decide (x_13 = x_14)) (.one (.raw (.func (.func 32) #[] #[]))), .opt (decide (x_13 = x_14)) (.agg (eArr3Bound x_16)), .opt (decide (x_13 = x_14)) (.one (.bool (decide (x_15 = x_16)))), B ((decide (x_13 = x_14)) && (decide (x_15 = x_16))), B ((decide (x_13 = x_14)) && (decide (x_15 = x_16))), .opt ((decide (x_13 = x_14)) && (decide (x_15 = x_16))) (.row 103), .opt ((decide (x_13 = x_14)) && (decide (x_15 = x_16))) (.rptr 103 ((0 : Int).toNat * 12)), .opt ((decide (x_13 = x_14)) && (decide (x_15 = x_16))) (.agg (eArr3Bound x_17)), .opt ((decide (x_13 = x_14)) && (decide (x_15 = x_16))) (.one (.raw (.func (.func 32) #[] #[]))), .opt ((decide (x_13 = x_14)) && (decide (x_15 = x_16))) (.agg (eArr3Bound x_18)), .opt ((decide (x_13 = x_14)) && (decide (x_15 = x_16))) (.one (.bool (decide (x_17 = x_18)))), B (((decide (x_13 = x_14)) && (decide (x_15 = x_16))) && (decide (x_17 = x_18))), B (((decide (x_13 = x_14)) && (decide (x_15 = x_16))) && (decide (x_17 = x_18))), .opt (((decide (x_13 = x_14)) && (decide (x_15 = x_16))) && (decide (x_17 = x_18))) (.row 103), .opt (((decide (x_13 = x_14)) && (decide (x_15 = x_16))) && (decide (x_17 = x_18))) (.rptr 103 ((1 : Int).toNat * 12)), .opt (((decide (x_13 = x_14)) && (decide (x_15 = x_16))) && (decide (x_17 = x_18))) (.agg (eArr3Bound x_19)), .opt (((decide (x_13 = x_14)) && (decide (x_15 = x_16))) && (decide (x_17 = x_18))) (.one (.raw (.func (.func 32) #[] #[]))), .opt (((decide (x_13 = x_14)) && (decide (x_15 = x_16))) && (decide (x_17 = x_18))) (.agg (eArr3Bound x_20)), .opt (((decide (x_13 = x_14)) && (decide (x_15 = x_16))) && (decide (x_17 = x_18))) (.one (.bool (decide (x_19 = x_20)))), B ((((decide (x_13 = x_14)) && (decide (x_15 = x_16))) && (decide (x_17 = x_18))) && (decide (x_19 = x_20))), B ((((decide (x_13 = x_14)) && (decide (x_15 = x_16))) && (decide (x_17 = x_18))) && (decide (x_19 = x_20))), .opt ((((decide (x_13 = x_14)) && (decide (x_15 = x_16))) && (decide (x_17 = x_18))) && (decide (x_19 = x_20))) (.row 104), .opt ((((decide (x_13 = x_14)) && (decide (x_15 = x_16))) && (decide (x_17 = x_18))) && (decide (x_19 = x_20))) (.rptr 104 ((0 : Int).toNat * 3)), .opt ((((decide (x_13 = x_14)) && (decide (x_15 = x_16))) && (decide (x_17 = x_18))) && (decide (x_19 = x_20))) (.agg ((eA3 .i64) x_21)), .opt ((((decide (x_13 = x_14)) && (decide (x_15 = x_16))) && (decide (x_17 = x_18))) && (decide (x_19 = x_20))) (.agg [.i 2, .i 0, .i 0]), .opt ((((decide (x_13 = x_14)) && (decide (x_15 = x_16))) && (decide (x_17 = x_18))) && (decide (x_19 = x_20))) (.one (.bool (decide (x_21 = (⟨2, 0, 0⟩ : A3))))), B (((((decide (x_13 = x_14)) && (decide (x_15 = x_16))) && (decide (x_17 = x_18))) && (decide (x_19 = x_20))) && (decide (x_21 = (⟨2, 0, 0⟩ : A3)))), B (((((decide (x_13 = x_14)) && (decide (x_15 = x_16))) && (decide (x_17 = x_18))) && (decide (x_19 = x_20))) && (decide (x_21 = (⟨2, 0, 0⟩ : A3)))), .opt (((((decide (x_13 = x_14)) && (decide (x_15 = x_16))) && (decide (x_17 = x_18))) && (decide (x_19 = x_20))) && (decide (x_21 = (⟨2, 0, 0⟩ : A3)))) (.row 104), .opt (((((decide (x_13 = x_14)) && (decide (x_15 = x_16))) && (decide (x_17 = x_18))) && (decide (x_19 = x_20))) && (decide (x_21 = (⟨2, 0, 0⟩ : A3)))) (.rptr 104 ((1 : Int).toNat * 3)), .opt (((((decide (x_13 = x_14)) && (decide (x_15 = x_16))) && (decide (x_17 = x_18))) && (decide (x_19 = x_20))) && (decide (x_21 = (⟨2, 0, 0⟩ : A3)))) (.agg ((eA3 .i64) x_22)), .opt (((((decide (x_13 = x_14)) && (decide (x_15 = x_16))) && (decide (x_17 = x_18))) && (decide (x_19 = x_20))) && (decide (x_21 = (⟨2, 0, 0⟩ : A3)))) (.agg [.i 3, .i 0, .i 0]), .opt (((((decide (x_13 = x_14)) && (decide (x_15 = x_16))) && (decide (x_17 = x_18))) && (decide (x_19 = x_20))) && (decide (x_21 = (⟨2, 0, 0⟩ : A3)))) (.one (.bool (decide (x_22 = (⟨3, 0, 0⟩ : A3))))), B ((((((decide (x_13 = x_14)) && (decide (x_15 = x_16))) && (decide (x_17 = x_18))) && (decide (x_19 = x_20))) && (decide (x_21 = (⟨2, 0, 0⟩ : A3)))) && (decide (x_22 = (⟨3, 0, 0⟩ : A3)))), B ((((((decide (x_13 = x_14)) && (decide (x_15 = x_16))) && (decide (x_17 = x_18))) && (decide (x_19 = x_20))) && (decide (x_21 = (⟨2, 0, 0⟩ : A3)))) && (decide (x_22 = (⟨3, 0, 0⟩ : A3))))] [1, 6, 9] [104] (s' := ⟨[(1, _), (6, _), (9, B ((((((decide (x_13 = x_14)) && (decide (x_15 = x_16))) && (decide (x_17 = x_18))) && (decide (x_19 = x_20))) && (decide (x_21 = (⟨2, 0, 0⟩ : A3)))) && (decide (x_22 = (⟨3, 0, 0⟩ : A3)))))], [(104, _)]⟩) rfl ⟨fun _ => .p om, fun _ => .p (op_index_r tySl27 (ix_lo e21) (ix_lt' e21) rfl rfl rfl rfl), fun _ => .p (op_load_r (i := (0 : Int).toNat) (f := 0) tyAgg36 rfl rfl rfl (ix_map (e := eArr3Bound) e21) rfl rfl), fun _ => .p om, fun _ => .p (op_callv0 (skewbacklaw39_sanity_1_spec e22) goes32 rfl rfl rfl), fun _ => .p (op_eql_agg (eqAgg36 x_13 x_14) rfl rfl), fun _ => .p om, fun _ => by exact .guard (decide (x_13 = x_14)) 1 [] (.plain rfl) (eq_t _) rfl rfl (fun g23 => trivial) (fun g23 => om), fun _ => by exact .guard (decide (x_13 = x_14)) 2 [73] (.plain rfl) (eq_t _) rfl rfl (fun g24 => ⟨g24, trivial⟩) (fun g24 => op_index_r tySl27 (ix_lo (gc e25 g24)) (ix_lt' (gc e25 g24)) rfl rfl rfl rfl), fun _ => by exact .guard (decide (x_13 = x_14)) 2 [74] (.plain rfl) (eq_t _) rfl rfl (fun g26 => ⟨g26, trivial⟩) (fun g26 => op_load_r (i := (1 : Int).toNat) (f := 0) tyAgg36 rfl rfl rfl (ix_map (e := eArr3Bound) (gc e25 g26)) rfl rfl), fun _ => by exact .guard (decide (x_13 = x_14)) 1 [] (.plain rfl) (eq_t _) rfl rfl (fun g27 => trivial) (fun g27 => om), fun _ => by exact .guard (decide (x_13 = x_14)) 3 [76] (.plain rfl) (eq_t _) rfl rfl (fun g28 => ⟨g28, trivial⟩) (fun g28 => op_callv0 (skewbacklaw39_sanity_1_spec (gc e29 g28)) goes32 rfl rfl rfl), fun _ => by exact .guard (decide (x_13 = x_14)) 3 [75, 77] (.plain rfl) (eq_t _) rfl rfl (fun g30 => ⟨g30, g30, trivial⟩) (fun g30 => op_eql_agg (eqAgg36 x_15 x_16) rfl rfl), fun _ => .p (op_pick_and (fun e => e) rfl rfl rfl rfl), fun _ => .p om, fun _ => by exact .guard ((decide (x_13 = x_14)) && (decide (x_15 = x_16))) 1 [] (.plain rfl) (eq_t _) rfl rfl (fun g31 => trivial) (fun g31 => om), fun _ => by exact .guard ((decide (x_13 = x_14)) && (decide (x_15 = x_16))) 2 [81] (.plain rfl) (eq_t _) rfl rfl (fun g32 => ⟨g32, trivial⟩) (fun g32 => op_index_r tySl27 (ix_lo (gc e33 g32)) (ix_lt' (gc e33 g32)) rfl rfl rfl rfl), fun _ => by exact .guard ((decide (x_13 = x_14)) && (decide (x_15 = x_16))) 2 [82] (.plain rfl) (eq_t _) rfl rfl (fun g34 => ⟨g34, trivial⟩) (fun g34 => op_load_r (i := (0 : Int).toNat) (f := 0) tyAgg36 rfl rfl rfl (ix_map (e := eArr3Bound) (gc e33 g34)) rfl rfl), fun _ => by exact .guard ((decide (x_13 = x_14)) && (decide (x_15 = x_16))) 1 [] (.plain rfl) (eq_t _) rfl rfl (fun g35 => trivial) (fun g35 => om), fun _ => by exact .guard ((decide (x_13 = x_14)) && (decide (x_15 = x_16))) 3 [84] (.plain rfl) (eq_t _) rfl rfl (fun g36 => ⟨g36, trivial⟩) (fun g36 => op_callv0 (skewbacklaw39_sanity_1_spec (gc e37 g36)) goes32 rfl rfl rfl), fun _ => by exact .guard ((decide (x_13 = x_14)) && (decide (x_15 = x_16))) 3 [83, 85] (.plain rfl) (eq_t _) rfl rfl (fun g38 => ⟨g38, g38, trivial⟩) (fun g38 => op_eql_agg (eqAgg36 x_17 x_18) rfl rfl), fun _ => .p (op_pick_and (fun e => e) rfl rfl rfl rfl), fun _ => .p om, fun _ => by exact .guard (((decide (x_13 = x_14)) && (decide (x_15 = x_16))) && (decide (x_17 = x_18))) 1 [] (.plain rfl) (eq_t _) rfl rfl (fun g39 => trivial) (fun g39 => om), fun _ => by exact .guard (((decide (x_13 = x_14)) && (decide (x_15 = x_16))) && (decide (x_17 = x_18))) 2 [89] (.plain rfl) (eq_t _) rfl rfl (fun g40 => ⟨g40, trivial⟩) (fun g40 => op_index_r tySl27 (ix_lo (gc e41 g40)) (ix_lt' (gc e41 g40)) rfl rfl rfl rfl), fun _ => by exact .guard (((decide (x_13 = x_14)) && (decide (x_15 = x_16))) && (decide (x_17 = x_18))) 2 [90] (.plain rfl) (eq_t _) rfl rfl (fun g42 => ⟨g42, trivial⟩) (fun g42 => op_load_r (i := (1 : Int).toNat) (f := 0) tyAgg36 rfl rfl rfl (ix_map (e := eArr3Bound) (gc e41 g42)) rfl rfl), fun _ => by exact .guard (((decide (x_13 = x_14)) && (decide (x_15 = x_16))) && (decide (x_17 = x_18))) 1 [] (.plain rfl) (eq_t _) rfl rfl (fun g43 => trivial) (fun g43 => om), fun _ => by exact .guard (((decide (x_13 = x_14)) && (decide (x_15 = x_16))) && (decide (x_17 = x_18))) 3 [92] (.plain rfl) (eq_t _) rfl rfl (fun g44 => ⟨g44, trivial⟩) (fun g44 => op_callv0 (skewbacklaw39_sanity_1_spec (gc e45 g44)) goes32 rfl rfl rfl), fun _ => by exact .guard (((decide (x_13 = x_14)) && (decide (x_15 = x_16))) && (decide (x_17 = x_18))) 3 [91, 93] (.plain rfl) (eq_t _) rfl rfl (fun g46 => ⟨g46, g46, trivial⟩) (fun g46 => op_eql_agg (eqAgg36 x_19 x_20) rfl rfl), fun _ => .p (op_pick_and (fun e => e) rfl rfl rfl rfl), fun _ => .p om, fun _ => by exact .guard ((((decide (x_13 = x_14)) && (decide (x_15 = x_16))) && (decide (x_17 = x_18))) && (decide (x_19 = x_20))) 1 [] (.plain rfl) (eq_t _) rfl rfl (fun g47 => trivial) (fun g47 => om), fun _ => by exact .guard ((((decide (x_13 = x_14)) && (decide (x_15 = x_16))) && (decide (x_17 = x_18))) && (decide (x_19 = x_20))) 2 [97] (.plain rfl) (eq_t _) rfl rfl (fun g48 => ⟨g48, trivial⟩) (fun g48 => op_index_r tySl50 (ix_lo (gc e49 g48)) (ix_lt' (gc e49 g48)) rfl rfl rfl rfl), fun _ => by exact .guard ((((decide (x_13 = x_14)) && (decide (x_15 = x_16))) && (decide (x_17 = x_18))) && (decide (x_19 = x_20))) 2 [98] (.plain rfl) (eq_t _) rfl rfl (fun g50 => ⟨g50, trivial⟩) (fun g50 => op_load_r (i := (0 : Int).toNat) (f := 0) tyAgg52 rfl rfl rfl (ix_map (e := (eA3 .i64)) (gc e49 g50)) rfl rfl), fun _ => by exact .guard ((((decide (x_13 = x_14)) && (decide (x_15 = x_16))) && (decide (x_17 = x_18))) && (decide (x_19 = x_20))) 1 [] (.plain rfl) (eq_t _) rfl rfl (fun g51 => trivial) (fun g51 => op_buildA tyBuild52 rfl rfl), fun _ => by exact .guard ((((decide (x_13 = x_14)) && (decide (x_15 = x_16))) && (decide (x_17 = x_18))) && (decide (x_19 = x_20))) 3 [99, 100] (.plain rfl) (eq_t _) rfl rfl (fun g52 => ⟨g52, g52, trivial⟩) (fun g52 => op_eql_agg (eqAgg52 x_21 (⟨2, 0, 0⟩ : A3)) rfl rfl), fun _ => .p (op_pick_and (fun e => e) rfl rfl rfl rfl), fun _ => .p om, fun _ => by exact .guard (((((decide (x_13 = x_14)) && (decide (x_15 = x_16))) && (decide (x_17 = x_18))) && (decide (x_19 = x_20))) && (decide (x_21 = (⟨2, 0, 0⟩ : A3)))) 1 [] (.plain rfl) (eq_t _) rfl rfl (fun g53 => trivial) (fun g53 => om), fun _ => by exact .guard (((((decide (x_13 = x_14)) && (decide (x_15 = x_16))) && (decide (x_17 = x_18))) && (decide (x_19 = x_20))) && (decide (x_21 = (⟨2, 0, 0⟩ : A3)))) 2 [104] (.plain rfl) (eq_t _) rfl rfl (fun g54 => ⟨g54, trivial⟩) (fun g54 => op_index_r tySl50 (ix_lo (gc e55 g54)) (ix_lt' (gc e55 g54)) rfl rfl rfl rfl), fun _ => by exact .guard (((((decide (x_13 = x_14)) && (decide (x_15 = x_16))) && (decide (x_17 = x_18))) && (decide (x_19 = x_20))) && (decide (x_21 = (⟨2, 0, 0⟩ : A3)))) 2 [105] (.plain rfl) (eq_t _) rfl rfl (fun g56 => ⟨g56, trivial⟩) (fun g56 => op_load_r (i := (1 : Int).toNat) (f := 0) tyAgg52 rfl rfl rfl (ix_map (e := (eA3 .i64)) (gc e55 g56)) rfl rfl), fun _ => by exact .guard (((((decide (x_13 = x_14)) && (decide (x_15 = x_16))) && (decide (x_17 = x_18))) && (decide (x_19 = x_20))) && (decide (x_21 = (⟨2, 0, 0⟩ : A3)))) 1 [] (.plain rfl) (eq_t _) rfl rfl (fun g57 => trivial) (fun g57 => op_buildA tyBuild52 rfl rfl), fun _ => by exact .guard (((((decide (x_13 = x_14)) && (decide (x_15 = x_16))) && (decide (x_17 = x_18))) && (decide (x_19 = x_20))) && (decide (x_21 = (⟨2, 0, 0⟩ : A3)))) 3 [106, 107] (.plain rfl) (eq_t _) rfl rfl (fun g58 => ⟨g58, g58, trivial⟩) (fun g58 => op_eql_agg (eqAgg52 x_22 (⟨3, 0, 0⟩ : A3)) rfl rfl), fun _ => .p (op_pick_and (fun e => e) rfl rfl rfl rfl), fun _ => .p oa, trivial⟩ rfl rfl ?_
  refine Tri.seq (Tri.keepS ⟨[(1, _), (6, _), (9, _)], [(104, _)]⟩ rfl ?_)
  obtain ⟨x_23, e59, h⟩ := bnd h
  obtain ⟨x_24, e60, h⟩ := bnd h
  obtain ⟨x_25, e61, h⟩ := bnd h
  obtain ⟨⟨x_26, x_27⟩, e62, h⟩ := bnd h
  refine Tri.regionY mixed 11 [.b (.one (.sl 6 ([x_1, x_2, x_3].map eReport))), .b (.one (.slf 6 (x_23.map eReport))), .b (.agg (eReport x_24)), .b (.one (.sl 6 ([x_24].map eReport))), .b (.one (.sl 6 (x_25.map eReport))), .tup [.one (.sl 1 (x_26.map eI)), .one (.i x_27)], .tup [.one (.sl 1 (x_26.map eI)), .one (.i x_27)], .b (.one (.sl 1 (x_26.map eI))), I x_27, .b (.one (.sl 1 (x_26.map eI))), I x_27] [1, 6, 9, 10, 11] [104] (s' := ⟨[(1, _), (6, _), (9, _), (10, .b (.one (.sl 1 (x_26.map eI)))), (11, I x_27)], [(104, _)]⟩) rfl ⟨fun _ => .p om, fun _ => .p (op_slice_3 tySl22 e59 rfl rfl rfl), fun _ => .p (op_call0 (skewbacklaw39_is_spec e60) goes31 rfl rfl), fun _ => .p (op_buildSliceP (es := [x_24].map eReport) tySl22 rfl rfl (uni_map fun _ => rfl) rfl (by decide) (by decide)), fun _ => .p (op_append_fp tySl22 (app_b e61) (app_m e61) (Nat.le_of_ble_eq_true rfl) rfl rfl (app_map e61)), fun _ => .p (op_call0 (sensor_Contradiction_spec e62) goes12 rfl rfl), fun _ => .p om, fun _ => .p (op_extract rfl rfl), fun _ => .p (op_extract rfl rfl), fun _ => .p oa, fun _ => .p oa, trivial⟩ rfl rfl (Tri.seq (Tri.keepS ⟨[(1, _), (6, _), (9, _), (10, _), (11, _)], [(104, _)]⟩ rfl ?_))
  obtain ⟨x_28, e63, h⟩ := bnd h
  obtain ⟨x_29, e64, h⟩ := bnd h
  obtain ⟨x_30, e65, h⟩ := bnd h
  obtain ⟨⟨x_31, x_32⟩, e66, h⟩ := bnd h
  refine Tri.regionY mixed 11 [.b (.one (.sl 6 ([x_1, x_2, x_3].map eReport))), .b (.one (.slf 6 (x_28.map eReport))), .b (.agg (eReport x_29)), .b (.one (.sl 6 ([x_29].map eReport))), .b (.one (.sl 6 (x_30.map eReport))), .tup [.one (.sl 1 (x_31.map eI)), .one (.i x_32)], .tup [.one (.sl 1 (x_31.map eI)), .one (.i x_32)], .b (.one (.sl 1 (x_31.map eI))), I x_32, .b (.one (.sl 1 (x_31.map eI))), I x_32] [1, 6, 9, 10, 11, 12, 13] [104] (s' := ⟨[(1, _), (6, _), (9, _), (10, _), (11, _), (12, .b (.one (.sl 1 (x_31.map eI)))), (13, I x_32)], [(104, _)]⟩) rfl ⟨fun _ => .p om, fun _ => .p (op_slice_3 tySl22 e63 rfl rfl rfl), fun _ => .p (op_call0 (skewbacklaw39_is_spec e64) goes31 rfl rfl), fun _ => .p (op_buildSliceP (es := [x_29].map eReport) tySl22 rfl rfl (uni_map fun _ => rfl) rfl (by decide) (by decide)), fun _ => .p (op_append_fp tySl22 (app_b e65) (app_m e65) (Nat.le_of_ble_eq_true rfl) rfl rfl (app_map e65)), fun _ => .p (op_call0 (sensor_Contradiction_spec e66) goes12 rfl rfl), fun _ => .p om, fun _ => .p (op_extract rfl rfl), fun _ => .p (op_extract rfl rfl), fun _ => .p oa, fun _ => .p oa, trivial⟩ rfl rfl (Tri.seq (Tri.regionL ?_))
  refine Oc om ?_
  obtain ⟨⟨x_33, x_34⟩, e67, h⟩ := bnd h
  refine Oc (op_call0 (sensor_Contradiction_spec e67) goes12 rfl rfl) (Oc om (Oc (op_extract rfl rfl) (Oc (op_extract rfl rfl) (Oc oa (Oc oa ?_)))))
  refine OpsL.nilS ⟨[(1, _), (6, _), (9, _), (10, _), (11, _), (12, _), (13, _), (14, .b (.one (.sl 1 (x_33.map eI)))), (15, I x_34)], [(104, _)]⟩ rfl (Tri.seq ?_)
  obtain ⟨x_35, e68, h⟩ := bnd h
  obtain ⟨x_36, e69, h⟩ := bnd h
  obtain ⟨⟨x_37, x_38⟩, e70, h⟩ := bnd h
  refine Tri.regionY mixed 9 [.b (.one (.sl 6 ([x_1, x_2, x_3].map eReport))), .b (.one (.sl 6 (x_35.map eReport))), .b (.agg (eReport x_36)), .tup [.one (.bool x_37), .one (.i x_38)], .tup [.one (.bool x_37), .one (.i x_38)], B x_37, I x_38, B x_37, I x_38] [1, 6, 9, 10, 11, 12, 13, 14, 15, 16, 17] [104] (s' := ⟨[(1, _), (6, _), (9, _), (10, _), (11, _), (12, _), (13, _), (14, _), (15, _), (16, B x_37), (17, I x_38)], [(104, _)]⟩) rfl ⟨fun _ => .p om, fun _ => .p (op_slice_h2 tySl22 e68 rfl rfl), fun _ => .p (op_call0 (skewbacklaw39_is_spec e69) goes31 rfl rfl), fun _ => .p (op_call0 (sensor_Implied_spec e70) goes14 rfl rfl), fun _ => .p om, fun _ => .p (op_extract rfl rfl), fun _ => .p (op_extract rfl rfl), fun _ => .p oa, fun _ => .p oa, trivial⟩ rfl rfl (Tri.seq (Tri.keepS ⟨[(1, _), (6, _), (9, _), (10, _), (11, _), (12, _), (13, _), (14, _), (15, _), (16, _), (17, _)], [(104, _)]⟩ rfl ?_))
  obtain ⟨x_39, e71, h⟩ := bnd h
  obtain ⟨x_40, e72, h⟩ := bnd h
  obtain ⟨⟨x_41, x_42⟩, e73, h⟩ := bnd h
  refine Tri.regionY mixed 9 [.b (.one (.sl 6 ([x_1, x_2, x_3].map eReport))), .b (.one (.sl 6 (x_39.map eReport))), .b (.agg (eReport x_40)), .tup [.one (.bool x_41), .one (.i x_42)], .tup [.one (.bool x_41), .one (.i x_42)], B x_41, I x_42, B x_41, I x_42] [1, 6, 9, 10, 11, 12, 13, 14, 15, 16, 17, 18, 19] [104] (s' := ⟨[(1, _), (6, _), (9, _), (10, _), (11, _), (12, _), (13, _), (14, _), (15, _), (16, _), (17, _), (18, B x_41), (19, I x_42)], [(104, _)]⟩) rfl ⟨fun _ => .p om, fun _ => .p (op_slice_h2 tySl22 e71 rfl rfl), fun _ => .p (op_call0 (skewbacklaw39_is_spec e72) goes31 rfl rfl), fun _ => .p (op_call0 (sensor_Implied_spec e73) goes14 rfl rfl), fun _ => .p om, fun _ => .p (op_extract rfl rfl), fun _ => .p (op_extract rfl rfl), fun _ => .p oa, fun _ => .p oa, trivial⟩ rfl rfl (Tri.seq (Tri.regionL ?_))
  refine Oc om (Oc (op_buildSlice (k := 107) (es := [2, 3].map eI) tySl37 rfl rfl (uni_map fun _ => rfl) rfl (by decide) (by decide) rfl) ?_)
  obtain ⟨x_43, e74, h⟩ := bnd h
  refine Oc (op_callB (skewbacklaw39_ints_spec e74) goes16 rfl CP.flat_bool) (Oc om ?_)
  refine OpsL.keepS ⟨[(1, _), (6, _), (9, _), (11, _), (12, _), (13, _), (14, _), (15, _), (16, _), (17, _), (18, _), (19, _), (150, B x_43)], [(104, _)]⟩ rfl (CgT x_43 [] (fun g75 => trivial) (fun g75 => om) (CgT x_43 [151] (fun g76 => by exact ⟨g76, trivial⟩) (fun g76 => op_eql rfl rfl) (Oc (op_pick_and (fun e => e) rfl rfl rfl rfl) (Oc om ?_))))
  refine CgT (x_43 && (decide (x_27 = 0))) [] (fun g77 => trivial) (fun g77 => om) (CgT (x_43 && (decide (x_27 = 0))) [] (fun g78 => by exact trivial) (fun g78 => op_buildSliceP (es := [0, 1, 2].map eI) tySl37 rfl rfl (uni_map fun _ => rfl) rfl (by decide) (by decide)) (OpsL.keepS ⟨[(1, _), (6, _), (9, _), (13, _), (14, _), (15, _), (16, _), (17, _), (18, _), (19, _), (154, B (x_43 && (decide (x_27 = 0)))), (155, .opt (x_43 && (decide (x_27 = 0))) (.one (.sl 1 (x_31.map eI)))), (156, .opt (x_43 && (decide (x_27 = 0))) (.one (.sl 1 ([0, 1, 2].map eI))))], [(104, _)]⟩ rfl ?_))
  obtain ⟨x_44, e80, h⟩ := bnd h
  refine CgT (x_43 && (decide (x_27 = 0))) [155, 156] (fun g79 => ⟨g79, g79, trivial⟩) (fun g79 => op_call0 (skewbacklaw39_ints_spec (gc e80 g79)) goes16 rfl rfl) (Oc (op_pick_and (fun e => e) rfl rfl rfl rfl) (Oc om ?_))
  refine CgT ((x_43 && (decide (x_27 = 0))) && x_44) [] (fun g81 => trivial) (fun g81 => om) (CgT ((x_43 && (decide (x_27 = 0))) && x_44) [160] (fun g82 => by exact ⟨g82, trivial⟩) (fun g82 => op_eql rfl rfl) (OpsL.consB h rfl (op_pick_and (fun e => e) rfl rfl rfl rfl) (fun x_45 h => ?_)))
  refine Oc om (CgT x_45 [] (fun g83 => by exact trivial) (fun g83 => om) (OpsL.keepS ⟨[(1, _), (6, _), (9, _), (15, _), (16, _), (17, _), (18, _), (19, _), (163, B x_45), (164, .opt x_45 (.one (.sl 1 (x_33.map eI))))], [(104, _)]⟩ rfl (CgT x_45 [164] (fun g84 => by exact ⟨g84, trivial⟩) (fun g84 => op_len_e' und37 rfl (List.length_map _)) (CgT x_45 [165] (fun g85 => by exact ⟨g85, trivial⟩) (fun g85 => op_eql rfl rfl) (Oc (op_pick_and (fun e => e) rfl rfl rfl rfl) (Oc om ?_))))))
  refine CgT (x_45 && (decide ((x_33.length : Int) = 0))) [] (fun g86 => trivial) (fun g86 => om) (CgT (x_45 && (decide ((x_33.length : Int) = 0))) [169] (fun g87 => by exact ⟨g87, trivial⟩) (fun g87 => op_eql rfl rfl) (OpsL.consB h rfl (op_pick_and (fun e => e) rfl rfl rfl rfl) (fun x_46 h => ?_)))
  refine Oc oa (OpsL.nilS ⟨[(1, _), (6, _), (9, _), (16, _), (17, _), (18, _), (19, _), (20, B x_46)], [(104, _)]⟩ rfl (Tri.seq (Tri.regionL ?_)))
  refine OpsL.consB h rfl om (fun x_47 h => ?_)
  refine Oc om (CgT x_47 [] (fun g88 => by exact trivial) (fun g88 => om) (Oc (op_pick_and (fun e => e) rfl rfl rfl rfl) (Oc om ?_)))
  refine CgT (x_47 && x_46) [] (fun g89 => trivial) (fun g89 => om) (Oc (op_pick_and (fun e => e) rfl rfl rfl rfl) (OpsL.keepS ⟨[(1, _), (6, _), (17, _), (18, _), (19, _), (178, B ((x_47 && x_46) && x_37))], [(104, _)]⟩ rfl (Oc om (CgT ((x_47 && x_46) && x_37) [] (fun g90 => by exact trivial) (fun g90 => om) (CgT ((x_47 && x_46) && x_37) [180] (fun g91 => by exact ⟨g91, trivial⟩) (fun g91 => op_not rfl) ?_)))))
  refine Oc (op_pick_and (fun e => e) rfl rfl rfl rfl) (Oc om ?_)
  refine CgT (((x_47 && x_46) && x_37) && (!x_41)) [] (fun g92 => trivial) (fun g92 => om) (CgT (((x_47 && x_46) && x_37) && (!x_41)) [184] (fun g93 => by exact ⟨g93, trivial⟩) (fun g93 => op_eql rfl rfl) (Oc (op_pick_and (fun e => e) rfl rfl rfl rfl) (OpsL.keepS ⟨[(1, _), (6, _), (19, _), (186, B ((((x_47 && x_46) && x_37) && (!x_41)) && (decide (x_38 = 0))))], [(104, _)]⟩ rfl (Oc om (CgT ((((x_47 && x_46) && x_37) && (!x_41)) && (decide (x_38 = 0))) [] (fun g94 => by exact trivial) (fun g94 => om) ?_)))))
  refine CgT ((((x_47 && x_46) && x_37) && (!x_41)) && (decide (x_38 = 0))) [188] (fun g95 => ⟨g95, trivial⟩) (fun g95 => op_eql rfl rfl) (OpsL.consB h rfl (op_pick_and (fun e => e) rfl rfl rfl rfl) (fun x_48 h => ?_))
  refine Oc om (CgT x_48 [] (fun g96 => by exact trivial) (fun g96 => om) (OpsL.keepS ⟨[(1, _), (6, _), (191, B x_48), (192, .opt x_48 (.one (.sl 6 ([x_1, x_2, x_3].map eReport))))], [(104, _)]⟩ rfl ?_))
  obtain ⟨x_49, e98, h⟩ := bnd h
  refine CgT x_48 [192] (fun g97 => ⟨g97, trivial⟩) (fun g97 => op_call0 (sensor_Consistent_spec (gc e98 g97)) goes17 rfl rfl) (Oc (op_pick_and (fun e => e) rfl rfl rfl rfl) (Oc om ?_))
  refine CgT (x_48 && x_49) [] (fun g99 => trivial) (fun g99 => om) (CgT (x_48 && x_49) [] (fun g100 => by exact trivial) (fun g100 => om) ?_)
  obtain ⟨x_50, e102, h⟩ := bnd h
  refine CgT (x_48 && x_49) [196, 197] (fun g101 => ⟨g101, g101, trivial⟩) (fun g101 => op_callB (sensor_Fits_spec (gc e102 g101)) goes18 rfl CP.flat_bool) (Oc (op_pick_and (fun e => e) rfl rfl rfl rfl) (Oc oa ?_))
  refine OpsL.nilS ⟨[(0, B ((x_48 && x_49) && x_50))], []⟩ rfl (Tri.ret ?_)
  obtain rfl := Option.some.inj h
  refine Fin.keepS ⟨[(0, _)], []⟩ rfl (Fin.result' [.one (.bool ((x_48 && x_49) && x_50))] (.inl rfl) rfl (.cons (.tmp rfl) .nil) ⟨rfl, rfl⟩)
def skewbackref39_Edges_S (F : Nat) (l0 : List Report) (now0 : Int) (axis0 : Int) : Option (List REdge) :=
 Option.bind (iter F (un2 fun out_2 i_3 => if (decide (i_3 < (l0.length : Int))) = true then (Option.bind ((idx? l0 i_3).bind fun x_6 => (gcall (decide (x_6.Time ≤ now0)) (idx? l0 i_3)).bind fun x_7 => if ((decide (x_6.Time ≤ now0)) && (decide (x_7.Axis = axis0))) = true then ((idx? l0 i_3).bind fun x_8 => (idx? l0 i_3).bind fun x_9 => (idx? l0 i_3).bind fun x_10 => (idx? l0 i_3).bind fun x_11 => (idx? l0 i_3).bind fun x_12 => (idx? l0 i_3).bind fun x_13 => (app? out_2 [(⟨x_8.A, x_9.B, x_10.Hi, i_3⟩ : REdge), (⟨x_11.B, x_12.A, IntKind.i64.wrap (-x_13.Lo), i_3⟩ : REdge)]).bind fun x_14 => some x_14) else (some out_2)) (fun out_5 => some (.inl (out_5, IntKind.i64.wrap (i_3 + 1))))) else (some (.inr out_2))) ([], 0)) (fun out_1 => some out_1)
theorem skewbackref39_Edges_spec (kr0 : Nat) {F : Nat} {l0 : List Report} {now0 : Int} {axis0 : Int} {r : (List REdge)} (h : skewbackref39_Edges_S F l0 now0 axis0 = some r) : Meets Try.prog [] 37 [] [.one (.sl 6 (l0.map eReport)), .one (.i now0), .one (.i axis0)] (Is [(kr0, .row 103 4 (r.map eREdge))] (.b (.row kr0))) := by
 unfold skewbackref39_Edges_S at h
 refine Meets.intro 70 Try.func37 Try.ntmps37 rfl (by simp) fun E => ?_
 show Tri _ E ⟨70, [], [], []⟩ _ ⟨[(0, .b (.one (.sl 6 (l0.map eReport)))), (1, I now0), (2, I axis0)], []⟩ _
 refine Tri.seq (Tri.regionL ?_)
 refine Oc oa (OpsL.nilS ⟨[(0, .b (.one (.sl 6 (l0.map eReport)))), (1, I now0), (2, I axis0)], []⟩ rfl (Tri.seq (Tri.regionL ?_)))
 refine Oc oa (OpsL.nilS ⟨[(0, _), (1, _), (2, _), (7, .b (.one (.nil)))], []⟩ rfl ?_)
 obtain ⟨v1, h2, h⟩ := bnd h
 refine Tri.seqJ (v := v1) (fun (out_1 : List REdge) => ⟨[(7, .b (.row 102))], [(102, .row 103 4 (out_1.map eREdge))]⟩) (fun z => z) ?_ ?_
 ·refine Tri.seq (Tri.regionL ?_)
  refine Oc oa (OpsL.nilS ⟨[(0, _), (1, _), (2, _), (7, _), (8, I 0)], []⟩ rfl (Tri.block (Tri.nilrow 7 102 4 103 rfl (by decide) rfl (Tri.loopJ h2 (un2 fun (out_2 : List REdge) (i_3 : Int) => ⟨[(0, .b (.one (.sl 6 (l0.map eReport)))), (1, I now0), (2, I axis0), (7, .b (.row 102)), (8, I i_3)], [(102, .row 103 4 (out_2.map eREdge))]⟩) [0, 1, 2, 7, 8] [102] rfl ?_))))
  rintro ⟨out_2, i_3⟩ o3 h4 hy5
  refine Tri.seq (Tri.seq (Tri.regionL ?_))
  refine Oc om (Oc om (Oc (op_len_e' und22 rfl (List.length_map _)) (Oc (op_lss rfl rfl) ?_)))
  refine OpsL.nilS ⟨[(0, _), (1, _), (2, _), (7, _), (8, _), (12, B (decide (i_3 < (l0.length : Int))))], [(102, _)]⟩ rfl (Tri.ite h4 rfl (fun _ h4 => ?_) (fun _ h4 => ?_))
  ·refine Tri.skip (Fin.keepS ⟨[(0, _), (1, _), (2, _), (7, _), (8, _)], [(102, _)]⟩ rfl (Fin.then ?_))
   obtain ⟨v6, h7, h4⟩ := bnd h4
   refine Tri.seqJ (v := v6) (fun (out_5 : List REdge) => ⟨[(0, .b (.one (.sl 6 (l0.map eReport)))), (1, I now0), (2, I axis0), (7, .b (.row 102)), (8, I i_3)], [(102, .row 103 4 (out_5.map eREdge))]⟩) (fun z => z) ?_ ?_
   ·refine Tri.block (Tri.seq (Tri.regionL ?_))
    refine Oc om (Oc om ?_)
    obtain ⟨x_6, e8, h7⟩ := bnd h7
    refine Oc (op_index_e tySl22 (ix_lo e8) (ix_map (e := eReport) e8) rfl rfl) (Oc (op_field_e tyFld24_5 rfl rfl) (Oc (op_load_e1 tyOne3 rfl rfl) (Oc om (Oc (op_leq rfl rfl) ?_))))
    refine OpsL.keepS ⟨[(0, _), (1, _), (2, _), (7, _), (8, _), (21, B (decide (x_6.Time ≤ now0)))], [(102, _)]⟩ rfl (Oc om (CgT (decide (x_6.Time ≤ now0)) [] (fun g9 => by exact trivial) (fun g9 => om) (CgT (decide (x_6.Time ≤ now0)) [] (fun g10 => by exact trivial) (fun g10 => om) ?_)))
    obtain ⟨x_7, e12, h7⟩ := bnd h7
    refine CgT (decide (x_6.Time ≤ now0)) [23, 24] (fun g11 => ⟨g11, g11, trivial⟩) (fun g11 => op_index_e tySl22 (ix_lo (gc e12 g11)) (ix_map (e := eReport) (gc e12 g11)) rfl rfl) (CgT (decide (x_6.Time ≤ now0)) [25] (fun g13 => ⟨g13, trivial⟩) (fun g13 => op_field_e tyFld24_2 rfl rfl) (CgT (decide (x_6.Time ≤ now0)) [26] (fun g14 => ⟨g14, trivial⟩) (fun g14 => op_load_e1 tyOne3 rfl rfl) (CgT (decide (x_6.Time ≤ now0)) [] (fun g15 => trivial) (fun g15 => om) (CgT (decide (x_6.Time ≤ now0)) [27, 28] (fun g16 => by exact ⟨g16, g16, trivial⟩) (fun g16 => op_eql rfl rfl) (Oc (op_pick_and (fun e => e) rfl rfl rfl rfl) ?_)))))
    refine OpsL.nilS ⟨[(0, _), (1, _), (2, _), (7, _), (8, _), (30, B ((decide (x_6.Time ≤ now0)) && (decide (x_7.Axis = axis0))))], [(102, _)]⟩ rfl (Tri.ite h7 rfl (fun _ h7 => ?_) (fun _ h7 => ?_))
    ·refine Tri.keepS ⟨[(0, _), (1, _), (2, _), (7, _), (8, _)], [(102, _)]⟩ rfl ?_
     obtain ⟨x_8, e17, h7⟩ := bnd h7
     obtain ⟨x_9, e18, h7⟩ := bnd h7
     obtain ⟨x_10, e19, h7⟩ := bnd h7
     obtain ⟨x_11, e20, h7⟩ := bnd h7
     obtain ⟨x_12, e21, h7⟩ := bnd h7
     obtain ⟨x_13, e22, h7⟩ := bnd h7
     obtain ⟨x_14, e23, h7⟩ := bnd h7
     refine Tri.regionYF mixed 37 [.b (.row 102), .b (.one (.sl 6 (l0.map eReport))), I i_3, .b (.eptr (eReport x_8)), .b (.eptr (eReport x_8)), I x_8.A, .b (.one (.sl 6 (l0.map eReport))), I i_3, .b (.eptr (eReport x_9)), .b (.eptr [.i x_9.B, .i x_9.Axis, .i x_9.Lo, .i x_9.Hi, .i x_9.Time]), I x_9.B, .b (.one (.sl 6 (l0.map eReport))), I i_3, .b (.eptr (eReport x_10)), .b (.eptr [.i x_10.Hi, .i x_10.Time]), I x_10.Hi, I i_3, .b (.agg [.i x_8.A, .i x_9.B, .i x_10.Hi, .i i_3]), .b (.one (.sl 6 (l0.map eReport))), I i_3, .b (.eptr (eReport x_11)), .b (.eptr [.i x_11.B, .i x_11.Axis, .i x_11.Lo, .i x_11.Hi, .i x_11.Time]), I x_11.B, .b (.one (.sl 6 (l0.map eReport))), I i_3, .b (.eptr (eReport x_12)), .b (.eptr (eReport x_12)), I x_12.A, .b (.one (.sl 6 (l0.map eReport))), I i_3, .b (.eptr (eReport x_13)), .b (.eptr [.i x_13.Lo, .i x_13.Hi, .i x_13.Time]), I x_13.Lo, I (IntKind.i64.wrap (-x_13.Lo)), I i_3, .b (.agg [.i x_11.B, .i x_12.A, .i (IntKind.i64.wrap (-x_13.Lo)), .i i_3]), .b (.one (.sl 4 ([(⟨x_8.A, x_9.B, x_10.Hi, i_3⟩ : REdge), (⟨x_11.B, x_12.A, IntKind.i64.wrap (-x_13.Lo), i_3⟩ : REdge)].map eREdge)))] [0, 1, 2, 7, 8] [102] (s' := ⟨[(0, _), (1, _), (2, _), (7, _), (8, _)], [(102, .row 103 4 (x_14.map eREdge))]⟩) rfl ⟨fun _ => .p om, fun _ => .p om, fun _ => .p om, fun _ => .p (op_index_e tySl22 (ix_lo e17) (ix_map (e := eReport) e17) rfl rfl), fun _ => by exact .p (op_field_e tyFld24_0 rfl rfl), fun _ => .p (op_load_e1 tyOne3 rfl rfl), fun _ => .p om, fun _ => .p om, fun _ => .p (op_index_e tySl22 (ix_lo e18) (ix_map (e := eReport) e18) rfl rfl), fun _ => by exact .p (op_field_e tyFld24_1 rfl rfl), fun _ => .p (op_load_e1 tyOne3 rfl rfl), fun _ => .p om, fun _ => .p om, fun _ => .p (op_index_e tySl22 (ix_lo e19) (ix_map (e := eReport) e19) rfl rfl), fun _ => by exact .p (op_field_e tyFld24_4 rfl rfl), fun _ => .p (op_load_e1 tyOne3 rfl rfl), fun _ => .p om, fun _ => .p (op_build tyBuild103 rfl rfl), fun _ => .p om, fun _ => .p om, fun _ => .p (op_index_e tySl22 (ix_lo e20) (ix_map (e := eReport) e20) rfl rfl), fun _ => by exact .p (op_field_e tyFld24_1 rfl rfl), fun _ => .p (op_load_e1 tyOne3 rfl rfl), fun _ => .p om, fun _ => .p om, fun _ => .p (op_index_e tySl22 (ix_lo e21) (ix_map (e := eReport) e21) rfl rfl), fun _ => by exact .p (op_field_e tyFld24_0 rfl rfl), fun _ => .p (op_load_e1 tyOne3 rfl rfl), fun _ => .p om, fun _ => .p om, fun _ => .p (op_index_e tySl22 (ix_lo e22) (ix_map (e := eReport) e22) rfl rfl), fun _ => by exact .p (op_field_e tyFld24_3 rfl rfl), fun _ => .p (op_load_e1 tyOne3 rfl rfl), fun _ => .p (op_neg rfl), fun _ => .p om, fun _ => .p (op_build tyBuild103 rfl rfl), fun _ => .p (op_buildSliceP (es := [(⟨x_8.A, x_9.B, x_10.Hi, i_3⟩ : REdge), (⟨x_11.B, x_12.A, IntKind.i64.wrap (-x_13.Lo), i_3⟩ : REdge)].map eREdge) tySl76 rfl rfl (uni_map fun _ => rfl) rfl (by decide) (by decide)), trivial⟩ ⟨_, by exact .p (op_append tySl76 (app_b e23) (app_m e23) rfl rfl rfl (app_map e23) rfl), ⟨_, by exact .p oa, rfl⟩⟩ rfl ?_
     refine Fin.block_normal ?_
     exact Fin.join [0, 1, 2, 7, 8] [102] x_14 (Option.some.inj h7) rfl
    ·refine Tri.skip (Fin.block_normal ?_)
     exact Fin.join [0, 1, 2, 7, 8] [102] out_2 (Option.some.inj h7) rfl
   ·rintro out_5 hv
    subst v6
    refine Tri.regionL (Oc om (Oc (op_add rfl rfl) (Oc oa ?_)))
    refine OpsL.nil ?_
    exact Fin.againJ [0, 1, 2, 7, 8] [102] (out_5, IntKind.i64.wrap (i_3 + 1)) (Option.some.inj h4) rfl
  ·refine Tri.exit (Fin.then_exit ?_)
   obtain rfl := hy5 _ (Option.some.inj h4).symm
   refine Fin.then_exit (Fin.block_exit ?_)
   exact Fin.join [7] [102] out_2 rfl rfl
 ·rintro out_1 hv
  subst v1
  refine Tri.seq (Tri.regionL ?_)
  refine Oc om (Oc oa ?_)
  refine OpsL.nilS ⟨[(6, .b (.row 102))], [(102, _)]⟩ rfl (Tri.ret ?_)
  obtain rfl := Option.some.inj h
  refine Fin.keepS ⟨[(6, _)], [(102, _)]⟩ rfl (Fin.resultK 102 kr0 [.row 102] (.inl rfl) rfl (.cons (.tmp rfl) .nil) rfl rfl rfl rfl ⟨rfl, rfl⟩)
def skewbackref39_none_S (F : Nat) : Option Int :=
 some 1152921504606846976
theorem skewbackref39_none_spec {F : Nat} {r : Int} (h : skewbackref39_none_S F = some r) : Meets Try.prog [] 40 [] [] (Is [] (.b (.one (.i r)))) := by
 unfold skewbackref39_none_S at h
 refine Meets.intro 1 Try.func40 Try.ntmps40 rfl (by simp) fun E => ?_
 show Tri _ E ⟨1, [], [], []⟩ _ ⟨[], []⟩ _
 refine Tri.seq (Tri.regionL ?_)
 refine Oc oa (OpsL.nilS ⟨[], []⟩ rfl (Tri.seq (Tri.regionL ?_)))
 refine Oc oa (OpsL.nilS ⟨[(0, I 1152921504606846976)], []⟩ rfl (Tri.ret ?_))
 obtain rfl := Option.some.inj h
 refine Fin.keepS ⟨[(0, _)], []⟩ rfl (Fin.result' [.one (.i 1152921504606846976)] (.inl rfl) rfl (.cons (.tmp rfl) .nil) ⟨rfl, rfl⟩)
def skewbackref39_least_S (F : Nat) (n0 : Int) (l0 : List REdge) (start0 : Int) : Option ((List Int) × Bool) :=
 Option.bind (mk? (0 : Int) (IntKind.i64.wrap (n0 + 1)) (IntKind.i64.wrap (n0 + 1))) (fun x_1 => Option.bind (iter F (un2 fun d_3 k_4 => if (decide (k_4 ≤ n0)) = true then (Option.bind (if ((decide (0 ≤ start0)) && (decide (k_4 ≠ start0))) = true then ((skewbackref39_none_S F).bind fun x_7 => (idx? d_3 k_4).bind fun x_8 => some (d_3.set (k_4 : Int).toNat x_7)) else (some d_3)) (fun d_6 => some (.inl (d_6, IntKind.i64.wrap (k_4 + 1))))) else (some (.inr d_3))) (x_1, 0)) (fun d_2 => Option.bind (iter F (un2 fun d_10 round_11 => if (decide (round_11 ≤ (IntKind.i64.wrap (n0 + 1)))) = true then (Option.bind (Option.bind (iter F (un3 fun d_16 changed_17 i_18 => if (decide (i_18 < (l0.length : Int))) = true then (Option.bind ((idx? l0 i_18).bind fun x_23 => (idx? d_16 x_23.From).bind fun x_24 => (skewbackref39_none_S F).bind fun x_25 => (gcall (decide (x_24 < x_25)) (idx? l0 i_18)).bind fun x_26 => (gcall (decide (x_24 < x_25)) (idx? d_16 x_26.From)).bind fun x_27 => (gcall (decide (x_24 < x_25)) (idx? l0 i_18)).bind fun x_28 => (gcall (decide (x_24 < x_25)) (idx? l0 i_18)).bind fun x_29 => (gcall (decide (x_24 < x_25)) (idx? d_16 x_29.To)).bind fun x_30 => if ((decide (x_24 < x_25)) && (decide ((IntKind.i64.wrap (x_27 + x_28.Weight)) < x_30))) = true then ((idx? l0 i_18).bind fun x_31 => (idx? l0 i_18).bind fun x_32 => (idx? d_16 x_32.From).bind fun x_33 => (idx? l0 i_18).bind fun x_34 => (idx? d_16 x_31.To).bind fun x_35 => some (d_16.set (x_31.To : Int).toNat (IntKind.i64.wrap (x_33 + x_34.Weight)), true)) else (some (d_16, changed_17))) (un2 fun d_21 changed_22 => some (.inl (d_21, changed_22, IntKind.i64.wrap (i_18 + 1))))) else (some (.inr (d_16, changed_17)))) (d_10, false, 0)) (un2 fun d_14 changed_15 => if (!changed_15) = true then (some (.inr (d_14, true))) else (some (.inl d_14)))) (alt2 (fun d_13 => some (.inl (d_13, IntKind.i64.wrap (round_11 + 1)))) (fun y => some (.inr (.inr y))))) else (some (.inr (.inl d_10)))) (d_2, 0)) (alt2 (fun d_9 => some (d_9, false)) (fun y => some y))))
theorem skewbackref39_least_spec (kr0 : Nat) {F : Nat} {n0 : Int} {l0 : List REdge} {start0 : Int} {r : (List Int) × Bool} (h : skewbackref39_least_S F n0 l0 start0 = some r) : Meets Try.prog [] 38 [] [.one (.i n0), .one (.sl 4 (l0.map eREdge)), .one (.i start0)] (Is [(kr0, .row 3 1 (r.1.map eI))] (.tup [.row kr0, .one (.bool r.2)])) := by
 unfold skewbackref39_least_S at h
 refine Meets.intro 104 Try.func38 Try.ntmps38 rfl (by simp) fun E => ?_
 show Tri _ E ⟨104, [], [], []⟩ _ ⟨[(0, I n0), (1, .b (.one (.sl 4 (l0.map eREdge)))), (2, I start0)], []⟩ _
 refine Tri.seq (Tri.regionL ?_)
 refine Oc oa (Oc oa ?_)
 refine OpsL.nilS ⟨[(0, I n0), (1, .b (.one (.sl 4 (l0.map eREdge)))), (2, I start0)], []⟩ rfl (Tri.seq (Tri.regionL ?_))
 refine Oc om (Oc (op_add rfl rfl) ?_)
 obtain ⟨x_1, e1, h⟩ := bnd h
 refine Oc (op_makeSlice (k := 101) (enc := eI) tySl37 e1 (by decide) (.cons .refl .nil) rfl rfl rfl) (Oc oa ?_)
 refine OpsL.nilS ⟨[(0, _), (1, _), (2, _), (8, .b (.row 101))], [(101, .row 3 1 (x_1.map eI))]⟩ rfl ?_
 obtain ⟨v2, h3, h⟩ := bnd h
 refine Tri.seqJ (v := v2) (fun (d_2 : List Int) => ⟨[(0, I n0), (1, .b (.one (.sl 4 (l0.map eREdge)))), (8, .b (.row 101))], [(101, .row 3 1 (d_2.map eI))]⟩) (fun z => z) ?_ ?_
 ·refine Tri.seq (Tri.regionL ?_)
  refine Oc oa (OpsL.nilS ⟨[(0, _), (1, _), (2, _), (8, _), (9, I 0)], [(101, _)]⟩ rfl (Tri.block (Tri.loopJ h3 (un2 fun (d_3 : List Int) (k_4 : Int) => ⟨[(0, I n0), (1, .b (.one (.sl 4 (l0.map eREdge)))), (2, I start0), (8, .b (.row 101)), (9, I k_4)], [(101, .row 3 1 (d_3.map eI))]⟩) [0, 1, 2, 8, 9] [101] rfl ?_)))
  rintro ⟨d_3, k_4⟩ o4 h5 hy6
  refine Tri.seq (Tri.seq (Tri.regionL ?_))
  refine Oc om (Oc om (Oc (op_leq rfl rfl) ?_))
  refine OpsL.nilS ⟨[(0, _), (1, _), (2, _), (8, _), (9, _), (18, B (decide (k_4 ≤ n0)))], [(101, _)]⟩ rfl (Tri.ite h5 rfl (fun _ h5 => ?_) (fun _ h5 => ?_))
  ·refine Tri.skip (Fin.keepS ⟨[(0, _), (1, _), (2, _), (8, _), (9, _)], [(101, _)]⟩ rfl (Fin.then ?_))
   obtain ⟨v7, h8, h5⟩ := bnd h5
   refine Tri.seqJ (v := v7) (fun (d_6 : List Int) => ⟨[(0, I n0), (1, .b (.one (.sl 4 (l0.map eREdge)))), (2, I start0), (8, .b (.row 101)), (9, I k_4)], [(101, .row 3 1 (d_6.map eI))]⟩) (fun z => z) ?_ ?_
   ·refine Tri.block (Tri.seq (Tri.regionL ?_))
    refine Oc om (Oc (op_geq rfl rfl) (Oc om ?_))
    refine CgT (decide (0 ≤ start0)) [] (fun g9 => trivial) (fun g9 => om) (CgT (decide (0 ≤ start0)) [] (fun g10 => by exact trivial) (fun g10 => om) (CgT (decide (0 ≤ start0)) [24, 25] (fun g11 => by exact ⟨g11, g11, trivial⟩) (fun g11 => op_neq rfl rfl) (Oc (op_pick_and (fun e => e) rfl rfl rfl rfl) (OpsL.nilS ⟨[(0, _), (1, _), (2, _), (8, _), (9, _), (27, B ((decide (0 ≤ start0)) && (decide (k_4 ≠ start0))))], [(101, _)]⟩ rfl (Tri.ite h8 rfl (fun _ h8 => ?_) (fun _ h8 => ?_))))))
    ·refine Tri.regionL (Oc om (Oc om ?_))
     obtain ⟨x_7, e12, h8⟩ := bnd h8
     refine Oc (op_call0 (skewbackref39_none_spec e12) goes40 rfl rfl) ?_
     obtain ⟨x_8, e13, h8⟩ := bnd h8
     refine Oc (op_index_r tySl37 (ix_lo e13) (ix_lt' e13) rfl rfl rfl rfl) (Oc (op_store_r1 (i := (k_4 : Int).toNat) tyOne3 rfl rfl rfl rfl (ix_lt e13) (map_set _ _ _ _)) ?_)
     refine OpsL.nil (Fin.block_normal ?_)
     exact Fin.join [0, 1, 2, 8, 9] [101] (d_3.set (k_4 : Int).toNat x_7) (Option.some.inj h8) rfl
    ·refine Tri.skip (Fin.block_normal ?_)
     exact Fin.join [0, 1, 2, 8, 9] [101] d_3 (Option.some.inj h8) rfl
   ·rintro d_6 hv
    subst v7
    refine Tri.regionL (Oc om (Oc (op_add rfl rfl) (Oc oa ?_)))
    refine OpsL.nil ?_
    exact Fin.againJ [0, 1, 2, 8, 9] [101] (d_6, IntKind.i64.wrap (k_4 + 1)) (Option.some.inj h5) rfl
  ·refine Tri.exit (Fin.then_exit ?_)
   obtain rfl := hy6 _ (Option.some.inj h5).symm
   refine Fin.then_exit (Fin.block_exit ?_)
   exact Fin.join [0, 1, 8] [101] d_3 rfl rfl
 ·rintro d_2 hv
  subst v2
  obtain ⟨v14, h15, h⟩ := bnd h
  refine Tri.seqJ (v := v14) (fun (d_9 : List Int) => ⟨[(8, .b (.row 101))], [(101, .row 3 1 (d_9.map eI))]⟩) (fun z => .inl z) ?_ ?_
  ·refine Tri.seq (Tri.regionL ?_)
   refine Oc oa (OpsL.nilS ⟨[(0, _), (1, _), (8, _), (10, I 0)], [(101, _)]⟩ rfl (Tri.block (Tri.loopJ h15 (un2 fun (d_10 : List Int) (round_11 : Int) => ⟨[(0, I n0), (1, .b (.one (.sl 4 (l0.map eREdge)))), (8, .b (.row 101)), (10, I round_11)], [(101, .row 3 1 (d_10.map eI))]⟩) [0, 1, 8, 10] [101] rfl ?_)))
   rintro ⟨d_10, round_11⟩ o16 h17 hy18
   refine Tri.seq (Tri.seq (Tri.regionL ?_))
   refine Oc om (Oc om (Oc (op_add rfl rfl) (Oc (op_leq rfl rfl) ?_)))
   refine OpsL.nilS ⟨[(0, _), (1, _), (8, _), (10, _), (35, B (decide (round_11 ≤ (IntKind.i64.wrap (n0 + 1)))))], [(101, _)]⟩ rfl (Tri.ite h17 rfl (fun _ h17 => ?_) (fun _ h17 => ?_))
   ·refine Tri.skip (Fin.keepS ⟨[(0, _), (1, _), (8, _), (10, _)], [(101, _)]⟩ rfl (Fin.then ?_))
    obtain ⟨v19, h20, h17⟩ := bnd h17
    refine Tri.seqJ (v := v19) (fun (d_13 : List Int) => ⟨[(0, I n0), (1, .b (.one (.sl 4 (l0.map eREdge)))), (8, .b (.row 101)), (10, I round_11)], [(101, .row 3 1 (d_13.map eI))]⟩) (fun z => .inl z) ?_ ?_
    ·refine Tri.block (Tri.seq (Tri.regionL ?_))
     refine Oc oa (OpsL.nilS ⟨[(0, _), (1, _), (8, _), (10, _), (11, B false)], [(101, _)]⟩ rfl ?_)
     obtain ⟨v21, h22, h20⟩ := bnd h20
     refine Tri.seqJ (v := v21) (un2 fun (d_14 : List Int) (changed_15 : Bool) => ⟨[(0, I n0), (1, .b (.one (.sl 4 (l0.map eREdge)))), (8, .b (.row 101)), (10, I round_11), (11, B changed_15)], [(101, .row 3 1 (d_14.map eI))]⟩) (fun z => z) ?_ ?_
     ·refine Tri.seq (Tri.regionL ?_)
      refine Oc oa (OpsL.nilS ⟨[(0, _), (1, _), (8, _), (10, _), (11, _), (12, I 0)], [(101, _)]⟩ rfl (Tri.block (Tri.loopJ h22 (un3 fun (d_16 : List Int) (changed_17 : Bool) (i_18 : Int) => ⟨[(0, I n0), (1, .b (.one (.sl 4 (l0.map eREdge)))), (8, .b (.row 101)), (10, I round_11), (11, B changed_17), (12, I i_18)], [(101, .row 3 1 (d_16.map eI))]⟩) [0, 1, 8, 10, 11, 12] [101] rfl ?_)))
      rintro ⟨d_16, changed_17, i_18⟩ o23 h24 hy25
      refine Tri.seq (Tri.seq (Tri.regionL ?_))
      refine Oc om (Oc om (Oc (op_len_e' und76 rfl (List.length_map _)) (Oc (op_lss rfl rfl) ?_)))
      refine OpsL.nilS ⟨[(0, _), (1, _), (8, _), (10, _), (11, _), (12, _), (41, B (decide (i_18 < (l0.length : Int))))], [(101, _)]⟩ rfl (Tri.ite h24 rfl (fun _ h24 => ?_) (fun _ h24 => ?_))
      ·refine Tri.skip (Fin.keepS ⟨[(0, _), (1, _), (8, _), (10, _), (11, _), (12, _)], [(101, _)]⟩ rfl (Fin.then ?_))
       obtain ⟨v26, h27, h24⟩ := bnd h24
       refine Tri.seqJ (v := v26) (un2 fun (d_21 : List Int) (changed_22 : Bool) => ⟨[(0, I n0), (1, .b (.one (.sl 4 (l0.map eREdge)))), (8, .b (.row 101)), (10, I round_11), (11, B changed_22), (12, I i_18)], [(101, .row 3 1 (d_21.map eI))]⟩) (fun z => z) ?_ ?_
       ·refine Tri.block (Tri.seq ?_)
        refine Tri.keepS ⟨[(0, _), (1, _), (8, _), (10, _), (11, _), (12, _)], [(101, _)]⟩ rfl ?_
        obtain ⟨x_23, e28, h27⟩ := bnd h27
        obtain ⟨x_24, e29, h27⟩ := bnd h27
        obtain ⟨x_25, e30, h27⟩ := bnd h27
        obtain ⟨x_26, e35, h27⟩ := bnd h27
        obtain ⟨x_27, e39, h27⟩ := bnd h27
        obtain ⟨x_28, e44, h27⟩ := bnd h27
        obtain ⟨x_29, e52, h27⟩ := bnd h27
        obtain ⟨x_30, e56, h27⟩ := bnd h27
        refine Tri.regionY mixed 35 [.b (.row 101), .b (.one (.sl 4 (l0.map eREdge))), I i_18, .b (.eptr (eREdge x_23)), .b (.eptr (eREdge x_23)), I x_23.From, .b (.rptr 101 ((x_23.From : Int).toNat * 1)), I x_24, I x_25, B (decide (x_24 < x_25)), B (decide (x_24 < x_25)), .opt (decide (x_24 < x_25)) (.row 101), .opt (decide (x_24 < x_25)) (.one (.sl 4 (l0.map eREdge))), .opt (decide (x_24 < x_25)) (.one (.i i_18)), .opt (decide (x_24 < x_25)) (.eptr (eREdge x_26)), .opt (decide (x_24 < x_25)) (.eptr (eREdge x_26)), .opt (decide (x_24 < x_25)) (.one (.i x_26.From)), .opt (decide (x_24 < x_25)) (.rptr 101 ((x_26.From : Int).toNat * 1)), .opt (decide (x_24 < x_25)) (.one (.i x_27)), .opt (decide (x_24 < x_25)) (.one (.sl 4 (l0.map eREdge))), .opt (decide (x_24 < x_25)) (.one (.i i_18)), .opt (decide (x_24 < x_25)) (.eptr (eREdge x_28)), .opt (decide (x_24 < x_25)) (.eptr [.i x_28.Weight, .i x_28.Report]), .opt (decide (x_24 < x_25)) (.one (.i x_28.Weight)), .opt (decide (x_24 < x_25)) (.one (.i (IntKind.i64.wrap (x_27 + x_28.Weight)))), .opt (decide (x_24 < x_25)) (.row 101), .opt (decide (x_24 < x_25)) (.one (.sl 4 (l0.map eREdge))), .opt (decide (x_24 < x_25)) (.one (.i i_18)), .opt (decide (x_24 < x_25)) (.eptr (eREdge x_29)), .opt (decide (x_24 < x_25)) (.eptr [.i x_29.To, .i x_29.Weight, .i x_29.Report]), .opt (decide (x_24 < x_25)) (.one (.i x_29.To)), .opt (decide (x_24 < x_25)) (.rptr 101 ((x_29.To : Int).toNat * 1)), .opt (decide (x_24 < x_25)) (.one (.i x_30)), .opt (decide (x_24 < x_25)) (.one (.bool (decide ((IntKind.i64.wrap (x_27 + x_28.Weight)) < x_30)))), B ((decide (x_24 < x_25)) && (decide ((IntKind.i64.wrap (x_27 + x_28.Weight)) < x_30)))] [0, 1, 8, 10, 11, 12, 78] [101] (s' := ⟨[(0, _), (1, _), (8, _), (10, _), (11, _), (12, _), (78, B ((decide (x_24 < x_25)) && (decide ((IntKind.i64.wrap (x_27 + x_28.Weight)) < x_30))))], [(101, _)]⟩) rfl ⟨fun _ => .p om, fun _ => .p om, fun _ => .p om, fun _ => .p (op_index_e tySl76 (ix_lo e28) (ix_map (e := eREdge) e28) rfl rfl), fun _ => by exact .p (op_field_e tyFld103_0 rfl rfl), fun _ => .p (op_load_e1 tyOne3 rfl rfl), fun _ => .p (op_index_r tySl37 (ix_lo e29) (ix_lt' e29) rfl rfl rfl rfl), fun _ => .p (op_load_r1 (i := (x_23.From : Int).toNat) (f := 0) tyOne3 rfl rfl rfl (ix_map (e := eI) e29) rfl), fun _ => .p (op_call0 (skewbackref39_none_spec e30) goes40 rfl rfl), fun _ => .p (op_lss rfl rfl), fun _ => .p om, fun _ => by exact .guard (decide (x_24 < x_25)) 1 [] (.plain rfl) (eq_t _) rfl rfl (fun g31 => trivial) (fun g31 => om), fun _ => by exact .guard (decide (x_24 < x_25)) 1 [] (.plain rfl) (eq_t _) rfl rfl (fun g32 => trivial) (fun g32 => om), fun _ => by exact .guard (decide (x_24 < x_25)) 1 [] (.plain rfl) (eq_t _) rfl rfl (fun g33 => trivial) (fun g33 => om), fun _ => by exact .guard (decide (x_24 < x_25)) 3 [56, 57] (.plain rfl) (eq_t _) rfl rfl (fun g34 => ⟨g34, g34, trivial⟩) (fun g34 => op_index_e tySl76 (ix_lo (gc e35 g34)) (ix_map (e := eREdge) (gc e35 g34)) rfl rfl), fun _ => by exact .guard (decide (x_24 < x_25)) 2 [58] (.plain rfl) (eq_t _) rfl rfl (fun g36 => ⟨g36, trivial⟩) (fun g36 => op_field_e tyFld103_0 rfl rfl), fun _ => by exact .guard (decide (x_24 < x_25)) 2 [59] (.plain rfl) (eq_t _) rfl rfl (fun g37 => ⟨g37, trivial⟩) (fun g37 => op_load_e1 tyOne3 rfl rfl), fun _ => by exact .guard (decide (x_24 < x_25)) 3 [55, 60] (.plain rfl) (eq_t _) rfl rfl (fun g38 => ⟨g38, g38, trivial⟩) (fun g38 => op_index_r tySl37 (ix_lo (gc e39 g38)) (ix_lt' (gc e39 g38)) rfl rfl rfl rfl), fun _ => by exact .guard (decide (x_24 < x_25)) 2 [61] (.plain rfl) (eq_t _) rfl rfl (fun g40 => ⟨g40, trivial⟩) (fun g40 => op_load_r1 (i := (x_26.From : Int).toNat) (f := 0) tyOne3 rfl rfl rfl (ix_map (e := eI) (gc e39 g40)) rfl), fun _ => by exact .guard (decide (x_24 < x_25)) 1 [] (.plain rfl) (eq_t _) rfl rfl (fun g41 => trivial) (fun g41 => om), fun _ => by exact .guard (decide (x_24 < x_25)) 1 [] (.plain rfl) (eq_t _) rfl rfl (fun g42 => trivial) (fun g42 => om), fun _ => by exact .guard (decide (x_24 < x_25)) 3 [63, 64] (.plain rfl) (eq_t _) rfl rfl (fun g43 => ⟨g43, g43, trivial⟩) (fun g43 => op_index_e tySl76 (ix_lo (gc e44 g43)) (ix_map (e := eREdge) (gc e44 g43)) rfl rfl), fun _ => by exact .guard (decide (x_24 < x_25)) 2 [65] (.plain rfl) (eq_t _) rfl rfl (fun g45 => ⟨g45, trivial⟩) (fun g45 => op_field_e tyFld103_2 rfl rfl), fun _ => by exact .guard (decide (x_24 < x_25)) 2 [66] (.plain rfl) (eq_t _) rfl rfl (fun g46 => ⟨g46, trivial⟩) (fun g46 => op_load_e1 tyOne3 rfl rfl), fun _ => by exact .guard (decide (x_24 < x_25)) 3 [62, 67] (.plain rfl) (eq_t _) rfl rfl (fun g47 => ⟨g47, g47, trivial⟩) (fun g47 => op_add rfl rfl), fun _ => by exact .guard (decide (x_24 < x_25)) 1 [] (.plain rfl) (eq_t _) rfl rfl (fun g48 => trivial) (fun g48 => om), fun _ => by exact .guard (decide (x_24 < x_25)) 1 [] (.plain rfl) (eq_t _) rfl rfl (fun g49 => trivial) (fun g49 => om), fun _ => by exact .guard (decide (x_24 < x_25)) 1 [] (.plain rfl) (eq_t _) rfl rfl (fun g50 => trivial) (fun g50 => om), fun _ => by exact .guard (decide (x_24 < x_25)) 3 [70, 71] (.plain rfl) (eq_t _) rfl rfl (fun g51 => ⟨g51, g51, trivial⟩) (fun g51 => op_index_e tySl76 (ix_lo (gc e52 g51)) (ix_map (e := eREdge) (gc e52 g51)) rfl rfl), fun _ => by exact .guard (decide (x_24 < x_25)) 2 [72] (.plain rfl) (eq_t _) rfl rfl (fun g53 => ⟨g53, trivial⟩) (fun g53 => op_field_e tyFld103_1 rfl rfl), fun _ => by exact .guard (decide (x_24 < x_25)) 2 [73] (.plain rfl) (eq_t _) rfl rfl (fun g54 => ⟨g54, trivial⟩) (fun g54 => op_load_e1 tyOne3 rfl rfl), fun _ => by exact .guard (decide (x_24 < x_25)) 3 [69, 74] (.plain rfl) (eq_t _) rfl rfl (fun g55 => ⟨g55, g55, trivial⟩) (fun g55 => op_index_r tySl37 (ix_lo (gc e56 g55)) (ix_lt' (gc e56 g55)) rfl rfl rfl rfl), fun _ => by exact .guard (decide (x_24 < x_25)) 2 [75] (.plain rfl) (eq_t _) rfl rfl (fun g57 => ⟨g57, trivial⟩) (fun g57 => op_load_r1 (i := (x_29.To : Int).toNat) (f := 0) tyOne3 rfl rfl rfl (ix_map (e := eI) (gc e56 g57)) rfl), fun _ => by exact .guard (decide (x_24 < x_25)) 3 [68, 76] (.plain rfl) (eq_t _) rfl rfl (fun g58 => ⟨g58, g58, trivial⟩) (fun g58 => op_lss rfl rfl), fun _ => .p (op_pick_and (fun e => e) rfl rfl rfl rfl), trivial⟩ rfl rfl ?_
        refine Tri.ite h27 rfl (fun _ h27 => ?_) (fun _ h27 => ?_)
        ·refine Tri.seq (Tri.keepS ⟨[(0, _), (1, _), (8, _), (10, _), (12, _)], [(101, _)]⟩ rfl ?_)
         obtain ⟨x_31, e59, h27⟩ := bnd h27
         obtain ⟨x_32, e60, h27⟩ := bnd h27
         obtain ⟨x_33, e61, h27⟩ := bnd h27
         obtain ⟨x_34, e62, h27⟩ := bnd h27
         obtain ⟨x_35, e63, h27⟩ := bnd h27
         refine Tri.regionY mixed 21 [.b (.row 101), .b (.one (.sl 4 (l0.map eREdge))), I i_18, .b (.eptr (eREdge x_31)), .b (.eptr [.i x_31.To, .i x_31.Weight, .i x_31.Report]), I x_31.To, .b (.row 101), .b (.one (.sl 4 (l0.map eREdge))), I i_18, .b (.eptr (eREdge x_32)), .b (.eptr (eREdge x_32)), I x_32.From, .b (.rptr 101 ((x_32.From : Int).toNat * 1)), I x_33, .b (.one (.sl 4 (l0.map eREdge))), I i_18, .b (.eptr (eREdge x_34)), .b (.eptr [.i x_34.Weight, .i x_34.Report]), I x_34.Weight, I (IntKind.i64.wrap (x_33 + x_34.Weight)), .b (.rptr 101 ((x_31.To : Int).toNat * 1))] [0, 1, 8, 10, 12] [101] (s' := ⟨[(0, _), (1, _), (8, _), (10, _), (12, _)], [(101, .row 3 1 ((d_16.set (x_31.To : Int).toNat (IntKind.i64.wrap (x_33 + x_34.Weight))).map eI))]⟩) rfl ⟨fun _ => .p om, fun _ => .p om, fun _ => .p om, fun _ => .p (op_index_e tySl76 (ix_lo e59) (ix_map (e := eREdge) e59) rfl rfl), fun _ => by exact .p (op_field_e tyFld103_1 rfl rfl), fun _ => .p (op_load_e1 tyOne3 rfl rfl), fun _ => .p om, fun _ => .p om, fun _ => .p om, fun _ => .p (op_index_e tySl76 (ix_lo e60) (ix_map (e := eREdge) e60) rfl rfl), fun _ => by exact .p (op_field_e tyFld103_0 rfl rfl), fun _ => .p (op_load_e1 tyOne3 rfl rfl), fun _ => .p (op_index_r tySl37 (ix_lo e61) (ix_lt' e61) rfl rfl rfl rfl), fun _ => .p (op_load_r1 (i := (x_32.From : Int).toNat) (f := 0) tyOne3 rfl rfl rfl (ix_map (e := eI) e61) rfl), fun _ => .p om, fun _ => .p om, fun _ => .p (op_index_e tySl76 (ix_lo e62) (ix_map (e := eREdge) e62) rfl rfl), fun _ => by exact .p (op_field_e tyFld103_2 rfl rfl), fun _ => .p (op_load_e1 tyOne3 rfl rfl), fun _ => .p (op_add rfl rfl), fun _ => .p (op_index_r tySl37 (ix_lo e63) (ix_lt' e63) rfl rfl rfl rfl), trivial⟩ ⟨_, by exact .p (op_store_r1 (i := (x_31.To : Int).toNat) tyOne3 rfl rfl rfl rfl (ix_lt e63) (map_set _ _ _ _)), rfl⟩ rfl (Tri.regionL (Oc oa (OpsL.nil (Fin.block_normal ?_))))
         exact Fin.join [0, 1, 8, 10, 11, 12] [101] (d_16.set (x_31.To : Int).toNat (IntKind.i64.wrap (x_33 + x_34.Weight)), true) (Option.some.inj h27) rfl
        ·refine Tri.skip (Fin.block_normal ?_)
         exact Fin.join [0, 1, 8, 10, 11, 12] [101] (d_16, changed_17) (Option.some.inj h27) rfl
       ·rintro ⟨d_21, changed_22⟩ hv
        subst v26
        refine Tri.regionL (Oc om (Oc (op_add rfl rfl) (Oc oa ?_)))
        refine OpsL.nil ?_
        exact Fin.againJ [0, 1, 8, 10, 11, 12] [101] (d_21, changed_22, IntKind.i64.wrap (i_18 + 1)) (Option.some.inj h24) rfl
      ·refine Tri.exit (Fin.then_exit ?_)
       obtain rfl := hy25 _ (Option.some.inj h24).symm
       refine Fin.then_exit (Fin.block_exit ?_)
       exact Fin.join [0, 1, 8, 10, 11] [101] (d_16, changed_17) rfl rfl
     ·rintro ⟨d_14, changed_15⟩ hv
      subst v21
      refine Tri.seq (Tri.regionL ?_)
      refine Oc om (Oc (op_not rfl) ?_)
      refine OpsL.nilS ⟨[(0, _), (1, _), (8, _), (10, _), (101, B (!changed_15))], [(101, _)]⟩ rfl (Tri.ite h20 rfl (fun _ h20 => ?_) (fun _ h20 => ?_))
      ·refine Tri.seq (Tri.regionL ?_)
       refine Oc om (Oc oa (Oc oa ?_))
       refine OpsL.nilS ⟨[(6, .b (.row 101)), (7, B true)], [(101, _)]⟩ rfl (Tri.ret (Fin.block_ret ?_))
       obtain rfl := Option.some.inj h20
       refine Fin.then_ret ?_
       obtain rfl := hy18 _ (Option.some.inj h17).symm
       refine Fin.then_ret (Fin.block_ret (Fin.then_ret ?_))
       obtain rfl := Option.some.inj h
       refine Fin.keepS ⟨[(6, _), (7, _)], [(101, _)]⟩ rfl (Fin.resultK 101 kr0 [.row 101, .one (.bool true)] (.inl rfl) rfl (.cons (.tmp rfl) (.cons (.tmp rfl) .nil)) rfl rfl rfl rfl ⟨rfl, rfl⟩)
      ·refine Tri.skip (Fin.block_normal ?_)
       exact Fin.join [0, 1, 8, 10] [101] d_14 (Option.some.inj h20) rfl
    ·rintro d_13 hv
     subst v19
     refine Tri.regionL (Oc om (Oc (op_add rfl rfl) (Oc oa ?_)))
     refine OpsL.nil ?_
     exact Fin.againJ [0, 1, 8, 10] [101] (d_13, IntKind.i64.wrap (round_11 + 1)) (Option.some.inj h17) rfl
   ·refine Tri.exit (Fin.then_exit ?_)
    obtain rfl := hy18 _ (Option.some.inj h17).symm
    refine Fin.then_exit (Fin.block_exit ?_)
    exact Fin.join [8] [101] d_10 rfl rfl
  ·rintro d_9 hv
   subst v14
   refine Tri.seq (Tri.regionL ?_)
   refine Oc om (Oc oa (Oc oa ?_))
   refine OpsL.nilS ⟨[(6, .b (.row 101)), (7, B false)], [(101, _)]⟩ rfl (Tri.ret ?_)
   obtain rfl := Option.some.inj h
   refine Fin.keepS ⟨[(6, _), (7, _)], [(101, _)]⟩ rfl (Fin.resultK 101 kr0 [.row 101, .one (.bool false)] (.inl rfl) rfl (.cons (.tmp rfl) (.cons (.tmp rfl) .nil)) rfl rfl rfl rfl ⟨rfl, rfl⟩)
def skewbackref39_Consistent_S (F : Nat) (l0 : List Report) (now0 : Int) : Option Bool :=
 Option.bind (iter F (fun axis_1 => if (decide (axis_1 < 3)) = true then ((skewbackref39_Things_S F l0).bind fun x_2 => (skewbackref39_Edges_S F l0 now0 axis_1).bind fun x_3 => Option.bind (skewbackref39_least_S F x_2 x_3 (-1)) (un2 fun x_4 x_5 => if (!x_5) = true then (some (.inr (.inr false))) else (some (.inl (IntKind.i64.wrap (axis_1 + 1)))))) else (some (.inr (.inl ())))) 0) (alt2 (fun _ => some true) (fun y => some y))
theorem skewbackref39_Consistent_spec {F : Nat} {l0 : List Report} {now0 : Int} {r : Bool} (h : skewbackref39_Consistent_S F l0 now0 = some r) : Meets Try.prog [] 28 [] [.one (.sl 6 (l0.map eReport)), .one (.i now0)] (Is [] (.b (.one (.bool r)))) := by
 unfold skewbackref39_Consistent_S at h
 refine Meets.intro 24 Try.func28 Try.ntmps28 rfl (by simp) fun E => ?_
 show Tri _ E ⟨24, [], [], []⟩ _ ⟨[(0, .b (.one (.sl 6 (l0.map eReport)))), (1, I now0)], []⟩ _
 refine Tri.seq (Tri.regionL ?_)
 refine Oc oa (OpsL.nilS ⟨[(0, .b (.one (.sl 6 (l0.map eReport)))), (1, I now0)], []⟩ rfl ?_)
 obtain ⟨v1, h2, h⟩ := bnd h
 refine Tri.seqJ (v := v1) (fun (_ : Unit) => ⟨[], []⟩) (fun z => .inl z) ?_ ?_
 ·refine Tri.seq (Tri.regionL ?_)
  refine Oc oa (OpsL.nilS ⟨[(0, _), (1, _), (5, I 0)], []⟩ rfl (Tri.block (Tri.loopJ h2 (fun (axis_1 : Int) => ⟨[(0, .b (.one (.sl 6 (l0.map eReport)))), (1, I now0), (5, I axis_1)], []⟩) [0, 1, 5] [] rfl ?_)))
  rintro axis_1 o3 h4 hy5
  refine Tri.seq (Tri.seq (Tri.regionL ?_))
  refine Oc om (Oc (op_lss rfl rfl) ?_)
  refine OpsL.nilS ⟨[(0, _), (1, _), (5, _), (9, B (decide (axis_1 < 3)))], []⟩ rfl (Tri.ite h4 rfl (fun _ h4 => ?_) (fun _ h4 => ?_))
  ·refine Tri.skip (Fin.keepS ⟨[(0, _), (1, _), (5, _)], []⟩ rfl (Fin.then (Tri.seq (Tri.block (Tri.seq (Tri.regionL ?_))))))
   refine Oc om ?_
   obtain ⟨x_2, e6, h4⟩ := bnd h4
   refine Oc (op_call0 (skewbackref39_Things_spec e6) goes30 rfl rfl) (Oc om (Oc om (Oc om ?_)))
   refine OpsL.keepS ⟨[(0, _), (1, _), (5, _), (14, I x_2), (15, .b (.one (.sl 6 (l0.map eReport)))), (16, I now0), (17, I axis_1)], []⟩ rfl ?_
   obtain ⟨x_3, e7, h4⟩ := bnd h4
   refine Oc (op_call (skewbackref39_Edges_spec 101 e7) goes37 rfl trivial rfl rfl) (OpsL.persist 101 rfl ?_)
   obtain ⟨⟨x_4, x_5⟩, e8, h4⟩ := bnd h4
   refine Oc (op_call (skewbackref39_least_spec 102 e8) goes38 rfl trivial rfl rfl) (Oc om (Oc (op_extract rfl rfl) ?_))
   refine OpsL.keepS ⟨[(0, .b (.one (.sl 6 (l0.map eReport)))), (1, I now0), (5, I axis_1), (12, .tup [.row 102, .one (.bool x_5)]), (20, .b (.row 102))], [(102, .row 3 1 (x_4.map eI))]⟩ rfl (Oc (op_extract rfl rfl) (Oc oa (Oc oa ?_)))
   refine OpsL.nilS ⟨[(0, _), (1, _), (5, _), (7, B x_5)], []⟩ rfl (Tri.seq (Tri.regionL ?_))
   refine Oc om (Oc (op_not rfl) ?_)
   refine OpsL.nilS ⟨[(0, _), (1, _), (5, _), (23, B (!x_5))], []⟩ rfl (Tri.ite h4 rfl (fun _ h4 => ?_) (fun _ h4 => ?_))
   ·refine Tri.seq (Tri.regionL ?_)
    refine Oc oa (OpsL.nilS ⟨[(4, B false)], []⟩ rfl (Tri.ret (Fin.block_ret (Fin.then_ret ?_))))
    obtain rfl := hy5 _ (Option.some.inj h4).symm
    refine Fin.then_ret (Fin.block_ret (Fin.then_ret ?_))
    obtain rfl := Option.some.inj h
    refine Fin.keepS ⟨[(4, _)], []⟩ rfl (Fin.result' [.one (.bool false)] (.inl rfl) rfl (.cons (.tmp rfl) .nil) ⟨rfl, rfl⟩)
   ·refine Tri.skip (Fin.block_normal (Fin.keepS ⟨[(0, _), (1, _), (5, _)], []⟩ rfl (Fin.then (Tri.regionL ?_))))
    refine Oc om (Oc (op_add rfl rfl) (Oc oa ?_))
    refine OpsL.nil ?_
    exact Fin.againJ [0, 1, 5] [] (IntKind.i64.wrap (axis_1 + 1)) (Option.some.inj h4) rfl
  ·refine Tri.exit (Fin.then_exit ?_)
   obtain rfl := hy5 _ (Option.some.inj h4).symm
   refine Fin.then_exit (Fin.block_exit ?_)
   exact Fin.join [] [] () rfl rfl
 ·rintro _ hv
  subst v1
  refine Tri.seq (Tri.regionL ?_)
  refine Oc oa (OpsL.nilS ⟨[(4, B true)], []⟩ rfl (Tri.ret ?_))
  obtain rfl := Option.some.inj h
  refine Fin.keepS ⟨[(4, _)], []⟩ rfl (Fin.result' [.one (.bool true)] (.inl rfl) rfl (.cons (.tmp rfl) .nil) ⟨rfl, rfl⟩)
def skewbackref39_turned_S (F : Nat) (l0 : List REdge) : Option (List REdge) :=
 Option.bind (iter F (un2 fun out_2 i_3 => if (decide (i_3 < (l0.length : Int))) = true then ((idx? l0 i_3).bind fun x_5 => (idx? l0 i_3).bind fun x_6 => (idx? l0 i_3).bind fun x_7 => (app? out_2 [(⟨x_5.To, x_6.From, x_7.Weight, 0⟩ : REdge)]).bind fun x_8 => some (.inl (x_8, IntKind.i64.wrap (i_3 + 1)))) else (some (.inr out_2))) ([], 0)) (fun out_1 => some out_1)
theorem skewbackref39_turned_spec (kr0 : Nat) {F : Nat} {l0 : List REdge} {r : (List REdge)} (h : skewbackref39_turned_S F l0 = some r) : Meets Try.prog [] 39 [] [.one (.sl 4 (l0.map eREdge))] (Is [(kr0, .row 103 4 (r.map eREdge))] (.b (.row kr0))) := by
 unfold skewbackref39_turned_S at h
 refine Meets.intro 31 Try.func39 Try.ntmps39 rfl (by simp) fun E => ?_
 show Tri _ E ⟨31, [], [], []⟩ _ ⟨[(0, .b (.one (.sl 4 (l0.map eREdge))))], []⟩ _
 refine Tri.seq (Tri.regionL ?_)
 refine Oc oa (OpsL.nilS ⟨[(0, .b (.one (.sl 4 (l0.map eREdge))))], []⟩ rfl (Tri.seq (Tri.regionL ?_)))
 refine Oc oa (OpsL.nilS ⟨[(0, _), (3, .b (.one (.nil)))], []⟩ rfl ?_)
 obtain ⟨v1, h2, h⟩ := bnd h
 refine Tri.seqJ (v := v1) (fun (out_1 : List REdge) => ⟨[(3, .b (.row 102))], [(102, .row 103 4 (out_1.map eREdge))]⟩) (fun z => z) ?_ ?_
 ·refine Tri.seq (Tri.regionL ?_)
  refine Oc oa (OpsL.nilS ⟨[(0, _), (3, _), (4, I 0)], []⟩ rfl (Tri.block (Tri.nilrow 3 102 4 103 rfl (by decide) rfl (Tri.loopJ h2 (un2 fun (out_2 : List REdge) (i_3 : Int) => ⟨[(0, .b (.one (.sl 4 (l0.map eREdge)))), (3, .b (.row 102)), (4, I i_3)], [(102, .row 103 4 (out_2.map eREdge))]⟩) [0, 3, 4] [102] rfl ?_))))
  rintro ⟨out_2, i_3⟩ o3 h4 hy5
  refine Tri.seq (Tri.seq (Tri.regionL ?_))
  refine Oc om (Oc om (Oc (op_len_e' und76 rfl (List.length_map _)) (Oc (op_lss rfl rfl) ?_)))
  refine OpsL.nilS ⟨[(0, _), (3, _), (4, _), (8, B (decide (i_3 < (l0.length : Int))))], [(102, _)]⟩ rfl (Tri.ite h4 rfl (fun _ h4 => ?_) (fun _ h4 => ?_))
  ·refine Tri.skip (Fin.keepS ⟨[(0, _), (3, _), (4, _)], [(102, _)]⟩ rfl (Fin.then (Tri.seq (Tri.block ?_))))
   refine Tri.keepS ⟨[(0, _), (3, _), (4, _)], [(102, _)]⟩ rfl ?_
   obtain ⟨x_5, e6, h4⟩ := bnd h4
   obtain ⟨x_6, e7, h4⟩ := bnd h4
   obtain ⟨x_7, e8, h4⟩ := bnd h4
   obtain ⟨x_8, e9, h4⟩ := bnd h4
   refine Tri.regionYF mixed 18 [.b (.row 102), .b (.one (.sl 4 (l0.map eREdge))), I i_3, .b (.eptr (eREdge x_5)), .b (.eptr [.i x_5.To, .i x_5.Weight, .i x_5.Report]), I x_5.To, .b (.one (.sl 4 (l0.map eREdge))), I i_3, .b (.eptr (eREdge x_6)), .b (.eptr (eREdge x_6)), I x_6.From, .b (.one (.sl 4 (l0.map eREdge))), I i_3, .b (.eptr (eREdge x_7)), .b (.eptr [.i x_7.Weight, .i x_7.Report]), I x_7.Weight, .b (.agg [.i x_5.To, .i x_6.From, .i x_7.Weight, .i 0]), .b (.one (.sl 4 ([(⟨x_5.To, x_6.From, x_7.Weight, 0⟩ : REdge)].map eREdge)))] [0, 3, 4] [102] (s' := ⟨[(0, _), (3, _), (4, _)], [(102, .row 103 4 (x_8.map eREdge))]⟩) rfl ⟨fun _ => .p om, fun _ => .p om, fun _ => .p om, fun _ => .p (op_index_e tySl76 (ix_lo e6) (ix_map (e := eREdge) e6) rfl rfl), fun _ => by exact .p (op_field_e tyFld103_1 rfl rfl), fun _ => .p (op_load_e1 tyOne3 rfl rfl), fun _ => .p om, fun _ => .p om, fun _ => .p (op_index_e tySl76 (ix_lo e7) (ix_map (e := eREdge) e7) rfl rfl), fun _ => by exact .p (op_field_e tyFld103_0 rfl rfl), fun _ => .p (op_load_e1 tyOne3 rfl rfl), fun _ => .p om, fun _ => .p om, fun _ => .p (op_index_e tySl76 (ix_lo e8) (ix_map (e := eREdge) e8) rfl rfl), fun _ => by exact .p (op_field_e tyFld103_2 rfl rfl), fun _ => .p (op_load_e1 tyOne3 rfl rfl), fun _ => .p (op_build tyBuild103 rfl rfl), fun _ => .p (op_buildSliceP (es := [(⟨x_5.To, x_6.From, x_7.Weight, 0⟩ : REdge)].map eREdge) tySl76 rfl rfl (uni_map fun _ => rfl) rfl (by decide) (by decide)), trivial⟩ ⟨_, by exact .p (op_append tySl76 (app_b e9) (app_m e9) rfl rfl rfl (app_map e9) rfl), ⟨_, by exact .p oa, rfl⟩⟩ rfl (Fin.block_normal (Fin.keepS ⟨[(0, _), (3, _), (4, _)], [(102, _)]⟩ rfl (Fin.then (Tri.regionL ?_))))
   refine Oc om (Oc (op_add rfl rfl) (Oc oa ?_))
   refine OpsL.nil ?_
   exact Fin.againJ [0, 3, 4] [102] (x_8, IntKind.i64.wrap (i_3 + 1)) (Option.some.inj h4) rfl
  ·refine Tri.exit (Fin.then_exit ?_)
   obtain rfl := hy5 _ (Option.some.inj h4).symm
   refine Fin.then_exit (Fin.block_exit ?_)
   exact Fin.join [3] [102] out_2 rfl rfl
 ·rintro out_1 hv
  subst v1
  refine Tri.seq (Tri.regionL ?_)
  refine Oc om (Oc oa ?_)
  refine OpsL.nilS ⟨[(2, .b (.row 102))], [(102, _)]⟩ rfl (Tri.ret ?_)
  obtain rfl := Option.some.inj h
  refine Fin.keepS ⟨[(2, _)], [(102, _)]⟩ rfl (Fin.resultK 102 kr0 [.row 102] (.inl rfl) rfl (.cons (.tmp rfl) .nil) rfl rfl rfl rfl ⟨rfl, rfl⟩)
def skewbackref39_Boxes_S (F : Nat) (l0 : List Report) (now0 : Int) : Option Ranges :=
 (skewbackref39_Consistent_S F l0 now0).bind fun x_1 => if (!x_1) = true then (some (⟨[], 200⟩ : Ranges)) else ((skewbackref39_Things_S F l0).bind fun x_2 => Option.bind (mk? ((⟨(⟨0, 0, false, false⟩ : Bound), (⟨0, 0, false, false⟩ : Bound), (⟨0, 0, false, false⟩ : Bound)⟩ : Arr3Bound) : Arr3Bound) x_2 x_2) (fun x_3 => Option.bind (iter F (un2 fun out_5 axis_6 => if (decide (axis_6 < 3)) = true then (Option.bind ((skewbackref39_Edges_S F l0 now0 axis_6).bind fun x_9 => Option.bind (skewbackref39_least_S F x_2 x_9 0) (un2 fun x_10 x_11 => (skewbackref39_turned_S F x_9).bind fun x_12 => Option.bind (skewbackref39_least_S F x_2 x_12 0) (un2 fun x_13 x_14 => Option.bind (iter F (un2 fun out_15 k_16 => if (decide (k_16 ≤ x_2)) = true then (Option.bind (Option.bind ((idx? x_10 k_16).bind fun x_20 => (skewbackref39_none_S F).bind fun x_21 => if (decide (x_20 < x_21)) = true then ((idx? x_10 k_16).bind fun x_22 => some (⟨0, x_22, false, true⟩ : Bound)) else (some (⟨0, 0, false, false⟩ : Bound))) (fun b_19 => Option.bind ((idx? x_13 k_16).bind fun x_24 => (skewbackref39_none_S F).bind fun x_25 => if (decide (x_24 < x_25)) = true then ((idx? x_13 k_16).bind fun x_26 => some (⟨IntKind.i64.wrap (-x_26), b_19.Hi, true, b_19.Above⟩ : Bound)) else (some b_19)) (fun b_23 => (idx? out_15 (IntKind.i64.wrap (k_16 - 1))).bind fun x_27 => (idx? x_27.l axis_6).bind fun x_28 => some (out_15.set (IntKind.i64.wrap (k_16 - 1) : Int).toNat (x_27.set axis_6 b_23))))) (fun out_18 => some (.inl (out_18, IntKind.i64.wrap (k_16 + 1))))) else (some (.inr out_15))) (out_5, 1)) (fun out_17 => some out_17)))) (fun out_8 => some (.inl (out_8, IntKind.i64.wrap (axis_6 + 1))))) else (some (.inr out_5))) (x_3, 0)) (fun out_4 => some (⟨out_4, 0⟩ : Ranges))))
theorem skewbackref39_Boxes_spec {F : Nat} {l0 : List Report} {now0 : Int} {r : Ranges} (h : skewbackref39_Boxes_S F l0 now0 = some r) : Meets Try.prog [] 11 [] [.one (.sl 6 (l0.map eReport)), .one (.i now0)] (Is [] (.b (.agg (eRanges r)))) := by
 unfold skewbackref39_Boxes_S at h
 refine Meets.intro 86 Try.func11 Try.ntmps11 rfl (by simp) fun E => ?_
 show Tri _ E ⟨86, [], [], []⟩ _ ⟨[(0, .b (.one (.sl 6 (l0.map eReport)))), (1, I now0)], []⟩ _
 refine Tri.seq (Tri.regionL ?_)
 refine Oc (op_alloc (k := 101) tyZero32 rfl) (OpsL.nilS ⟨[(0, .b (.one (.sl 6 (l0.map eReport)))), (1, I now0), (4, Pt 101 0)], [(101, .box 32 [.nil, .i 0])]⟩ rfl (Tri.seq (Tri.regionL ?_)))
 refine Oc om (Oc om ?_)
 obtain ⟨x_1, e1, h⟩ := bnd h
 refine Oc (op_call0 (skewbackref39_Consistent_spec e1) goes28 rfl rfl) (Oc oa ?_)
 refine OpsL.nilS ⟨[(0, _), (1, _), (4, _), (5, B x_1)], [(101, _)]⟩ rfl (Tri.seq (Tri.seq (Tri.regionL ?_)))
 refine Oc om (Oc (op_not rfl) ?_)
 refine OpsL.nilS ⟨[(0, _), (1, _), (4, _), (20, B (!x_1))], [(101, _)]⟩ rfl (Tri.ite h rfl (fun _ h => ?_) (fun _ h => ?_))
 ·refine Tri.seq (Tri.regionL ?_)
  refine Oc (op_build tyBuild32 rfl rfl) (Oc (op_store_p tyAgg32 rfl rfl rfl rfl (Nat.le_of_ble_eq_true rfl) rfl) ?_)
  refine OpsL.nilS ⟨[(4, _)], [(101, .box 32 [.nil, .i 200])]⟩ rfl (Tri.ret (Fin.then_ret ?_))
  obtain rfl := Option.some.inj h
  refine Fin.keepS ⟨[(4, _)], [(101, _)]⟩ rfl (Fin.nilbox 101 0 12 rfl rfl (by decide) (Fin.result' [.agg [.sl 12 ([].map eArr3Bound), .i 200]] (.inl rfl) rfl (.cons (.agg tyAgg32 rfl rfl rfl rfl) .nil) ⟨rfl, rfl⟩))
 ·refine Tri.skip (Fin.keepS ⟨[(0, _), (1, _), (4, _)], [(101, _)]⟩ rfl (Fin.then (Tri.seq (Tri.regionL ?_))))
  refine Oc om ?_
  obtain ⟨x_2, e2, h⟩ := bnd h
  refine Oc (op_call0 (skewbackref39_Things_spec e2) goes30 rfl rfl) (Oc oa ?_)
  refine OpsL.nilS ⟨[(0, _), (1, _), (4, _), (6, I x_2)], [(101, _)]⟩ rfl (Tri.seq (Tri.regionL ?_))
  refine Oc om ?_
  obtain ⟨x_3, e3, h⟩ := bnd h
  refine Oc (op_makeSlice (k := 102) (enc := eArr3Bound) tySl27 e3 (by decide) (.cons .refl (.cons .refl (.cons .refl (.cons .refl (.cons .refl (.cons .refl (.cons .refl (.cons .refl (.cons .refl (.cons .refl (.cons .refl (.cons .refl .nil)))))))))))) rfl rfl rfl) (Oc oa ?_)
  refine OpsL.nilS ⟨[(0, _), (1, _), (4, _), (6, _), (7, .b (.row 102))], [(101, _), (102, .row 36 12 (x_3.map eArr3Bound))]⟩ rfl ?_
  obtain ⟨v4, h5, h⟩ := bnd h
  refine Tri.seqJ (v := v4) (fun (out_4 : List Arr3Bound) => ⟨[(4, Pt 101 0), (7, .b (.row 102))], [(101, .box 32 [.nil, .i 0]), (102, .row 36 12 (out_4.map eArr3Bound))]⟩) (fun z => z) ?_ ?_
  ·refine Tri.seq (Tri.regionL ?_)
   refine Oc oa (OpsL.nilS ⟨[(0, _), (1, _), (4, _), (6, _), (7, _), (8, I 0)], [(101, _), (102, _)]⟩ rfl (Tri.block (Tri.loopJ h5 (un2 fun (out_5 : List Arr3Bound) (axis_6 : Int) => ⟨[(0, .b (.one (.sl 6 (l0.map eReport)))), (1, I now0), (4, Pt 101 0), (6, I x_2), (7, .b (.row 102)), (8, I axis_6)], [(101, .box 32 [.nil, .i 0]), (102, .row 36 12 (out_5.map eArr3Bound))]⟩) [0, 1, 4, 6, 7, 8] [101, 102] rfl ?_)))
   rintro ⟨out_5, axis_6⟩ o6 h7 hy8
   refine Tri.seq (Tri.seq (Tri.regionL ?_))
   refine Oc om (Oc (op_lss rfl rfl) ?_)
   refine OpsL.nilS ⟨[(0, _), (1, _), (4, _), (6, _), (7, _), (8, _), (27, B (decide (axis_6 < 3)))], [(101, _), (102, _)]⟩ rfl (Tri.ite h7 rfl (fun _ h7 => ?_) (fun _ h7 => ?_))
   ·refine Tri.skip (Fin.keepS ⟨[(0, _), (1, _), (4, _), (6, _), (7, _), (8, _)], [(101, _), (102, _)]⟩ rfl (Fin.then ?_))
    obtain ⟨v9, h10, h7⟩ := bnd h7
    refine Tri.seqJ (v := v9) (fun (out_8 : List Arr3Bound) => ⟨[(0, .b (.one (.sl 6 (l0.map eReport)))), (1, I now0), (4, Pt 101 0), (6, I x_2), (7, .b (.row 102)), (8, I axis_6)], [(101, .box 32 [.nil, .i 0]), (102, .row 36 12 (out_8.map eArr3Bound))]⟩) (fun z => z) ?_ ?_
    ·refine Tri.block (Tri.seq (Tri.regionL ?_))
     refine Oc om (Oc om (Oc om ?_))
     obtain ⟨x_9, e11, h10⟩ := bnd h10
     refine Oc (op_call (skewbackref39_Edges_spec 103 e11) goes37 rfl trivial rfl rfl) (Oc oa ?_)
     refine OpsL.nilS ⟨[(0, _), (1, _), (4, _), (6, _), (7, _), (8, _), (9, .b (.row 103))], [(101, _), (102, _), (103, .row 103 4 (x_9.map eREdge))]⟩ rfl (Tri.seq (Tri.regionL ?_))
     refine Oc om (Oc om ?_)
     refine OpsL.persist 103 rfl ?_
     obtain ⟨⟨x_10, x_11⟩, e12, h10⟩ := bnd h10
     refine Oc (op_call (skewbackref39_least_spec 104 e12) goes38 rfl trivial rfl rfl) (OpsL.keepS ⟨[(0, .b (.one (.sl 6 (l0.map eReport)))), (1, I now0), (4, Pt 101 0), (6, I x_2), (7, .b (.row 102)), (8, I axis_6), (9, .b (.one (.sl 4 (x_9.map eREdge)))), (37, .tup [.row 104, .one (.bool x_11)])], [(101, .box 32 [.nil, .i 0]), (102, .row 36 12 (out_5.map eArr3Bound)), (104, .row 3 1 (x_10.map eI))]⟩ rfl (Oc om (Oc (op_extract rfl rfl) (Oc (op_extract rfl rfl) (Oc oa (Oc oa ?_))))))
     refine OpsL.nilS ⟨[(0, _), (1, _), (4, _), (6, _), (7, _), (8, _), (9, _), (10, .b (.row 104))], [(101, _), (102, _), (104, _)]⟩ rfl (Tri.seq (Tri.regionL ?_))
     refine Oc om (Oc om ?_)
     obtain ⟨x_12, e13, h10⟩ := bnd h10
     refine Oc (op_call (skewbackref39_turned_spec 105 e13) goes39 rfl trivial rfl rfl) (OpsL.persist 105 rfl (OpsL.keepS ⟨[(0, .b (.one (.sl 6 (l0.map eReport)))), (1, I now0), (4, Pt 101 0), (6, I x_2), (7, .b (.row 102)), (8, I axis_6), (10, .b (.row 104)), (41, I x_2), (43, .b (.one (.sl 4 (x_12.map eREdge))))], [(101, .box 32 [.nil, .i 0]), (102, .row 36 12 (out_5.map eArr3Bound)), (104, .row 3 1 (x_10.map eI))]⟩ rfl ?_))
     obtain ⟨⟨x_13, x_14⟩, e14, h10⟩ := bnd h10
     refine Oc (op_call (skewbackref39_least_spec 106 e14) goes38 rfl trivial rfl rfl) (Oc om (Oc (op_extract rfl rfl) (Oc (op_extract rfl rfl) (Oc oa (Oc oa ?_)))))
     refine OpsL.nilS ⟨[(0, _), (1, _), (4, _), (6, _), (7, _), (8, _), (10, _), (12, .b (.row 106))], [(101, _), (102, _), (104, _), (106, .row 3 1 (x_13.map eI))]⟩ rfl (Tri.seq (Tri.regionL ?_))
     refine Oc oa (OpsL.nilS ⟨[(0, _), (1, _), (4, _), (6, _), (7, _), (8, _), (10, _), (12, _), (14, I 1)], [(101, _), (102, _), (104, _), (106, _)]⟩ rfl (Tri.block ?_))
     obtain ⟨v15, h16, h10⟩ := bnd h10
     refine Tri.loopJ h16 (un2 fun (out_15 : List Arr3Bound) (k_16 : Int) => ⟨[(0, .b (.one (.sl 6 (l0.map eReport)))), (1, I now0), (4, Pt 101 0), (6, I x_2), (7, .b (.row 102)), (8, I axis_6), (10, .b (.row 104)), (12, .b (.row 106)), (14, I k_16)], [(101, .box 32 [.nil, .i 0]), (102, .row 36 12 (out_15.map eArr3Bound)), (104, .row 3 1 (x_10.map eI)), (106, .row 3 1 (x_13.map eI))]⟩) [0, 1, 4, 6, 7, 8, 10, 12, 14] [101, 102, 104, 106] rfl ?_
     rintro ⟨out_15, k_16⟩ o17 h18 hy19
     refine Tri.seq (Tri.seq (Tri.regionL ?_))
     refine Oc om (Oc om (Oc (op_leq rfl rfl) ?_))
     refine OpsL.nilS ⟨[(0, _), (1, _), (4, _), (6, _), (7, _), (8, _), (10, _), (12, _), (14, _), (49, B (decide (k_16 ≤ x_2)))], [(101, _), (102, _), (104, _), (106, _)]⟩ rfl (Tri.ite h18 rfl (fun _ h18 => ?_) (fun _ h18 => ?_))
     ·refine Tri.skip (Fin.keepS ⟨[(0, _), (1, _), (4, _), (6, _), (7, _), (8, _), (10, _), (12, _), (14, _)], [(101, _), (102, _), (104, _), (106, _)]⟩ rfl (Fin.then ?_))
      obtain ⟨v20, h21, h18⟩ := bnd h18
      refine Tri.seqJ (v := v20) (fun (out_18 : List Arr3Bound) => ⟨[(0, .b (.one (.sl 6 (l0.map eReport)))), (1, I now0), (4, Pt 101 0), (6, I x_2), (7, .b (.row 102)), (8, I axis_6), (10, .b (.row 104)), (12, .b (.row 106)), (14, I k_16)], [(101, .box 32 [.nil, .i 0]), (102, .row 36 12 (out_18.map eArr3Bound)), (104, .row 3 1 (x_10.map eI)), (106, .row 3 1 (x_13.map eI))]⟩) (fun z => z) ?_ ?_
      ·refine Tri.block (Tri.seq (Tri.regionL ?_))
       refine Oc (op_alloc (k := 107) tyZero35 rfl) (OpsL.nilS ⟨[(0, _), (1, _), (4, _), (6, _), (7, _), (8, _), (10, _), (12, _), (14, _), (15, Pt 107 0)], [(101, _), (102, _), (104, _), (106, _), (107, .box 35 [.i 0, .i 0, .bool false, .bool false])]⟩ rfl ?_)
       obtain ⟨v22, h23, h21⟩ := bnd h21
       refine Tri.seqJ (v := v22) (fun (b_19 : Bound) => ⟨[(0, .b (.one (.sl 6 (l0.map eReport)))), (1, I now0), (4, Pt 101 0), (6, I x_2), (7, .b (.row 102)), (8, I axis_6), (10, .b (.row 104)), (12, .b (.row 106)), (14, I k_16), (15, Pt 107 0)], [(101, .box 32 [.nil, .i 0]), (102, .row 36 12 (out_15.map eArr3Bound)), (104, .row 3 1 (x_10.map eI)), (106, .row 3 1 (x_13.map eI)), (107, .box 35 (eBound b_19))]⟩) (fun z => z) ?_ ?_
       ·refine Tri.seq (Tri.keepS ⟨[(0, _), (1, _), (4, _), (6, _), (7, _), (8, _), (10, _), (12, _), (14, _), (15, _)], [(101, _), (102, _), (104, _), (106, _), (107, _)]⟩ rfl ?_)
        obtain ⟨x_20, e24, h23⟩ := bnd h23
        obtain ⟨x_21, e25, h23⟩ := bnd h23
        refine Tri.regionY mixed 6 [.b (.row 104), I k_16, .b (.rptr 104 ((k_16 : Int).toNat * 1)), I x_20, I x_21, B (decide (x_20 < x_21))] [0, 1, 4, 6, 7, 8, 10, 12, 14, 15, 57] [101, 102, 104, 106, 107] (s' := ⟨[(0, _), (1, _), (4, _), (6, _), (7, _), (8, _), (10, _), (12, _), (14, _), (15, _), (57, B (decide (x_20 < x_21)))], [(101, _), (102, _), (104, _), (106, _), (107, _)]⟩) rfl ⟨fun _ => .p om, fun _ => .p om, fun _ => .p (op_index_r tySl37 (ix_lo e24) (ix_lt' e24) rfl rfl rfl rfl), fun _ => .p (op_load_r1 (i := (k_16 : Int).toNat) (f := 0) tyOne3 rfl rfl rfl (ix_map (e := eI) e24) rfl), fun _ => .p (op_call0 (skewbackref39_none_spec e25) goes40 rfl rfl), fun _ => .p (op_lss rfl rfl), trivial⟩ rfl rfl (Tri.ite h23 rfl (fun _ h23 => ?_) (fun _ h23 => ?_))
        ·refine Tri.seq (Tri.regionL ?_)
         refine Oc om (Oc om ?_)
         obtain ⟨x_22, e26, h23⟩ := bnd h23
         refine Oc (op_index_r tySl37 (ix_lo e26) (ix_lt' e26) rfl rfl rfl rfl) (Oc (op_load_r1 (i := (k_16 : Int).toNat) (f := 0) tyOne3 rfl rfl rfl (ix_map (e := eI) e26) rfl) (Oc (op_field_p tyFld35_1 rfl rfl) (Oc (op_store_p1 tyOne3 rfl rfl rfl (Nat.le_of_ble_eq_true rfl) rfl) ?_)))
         refine OpsL.nilS ⟨[(0, _), (1, _), (4, _), (6, _), (7, _), (8, _), (10, _), (12, _), (14, _), (15, _)], [(101, _), (102, _), (104, _), (106, _), (107, .box 35 [.i 0, .i x_22, .bool false, .bool false])]⟩ rfl (Tri.regionL (Oc (op_field_p tyFld35_3 rfl rfl) (Oc (op_store_p1 tyOne4 rfl rfl rfl (Nat.le_of_ble_eq_true rfl) rfl) ?_)))
         refine OpsL.nil ?_
         exact Fin.join [0, 1, 4, 6, 7, 8, 10, 12, 14, 15] [101, 102, 104, 106, 107] (⟨0, x_22, false, true⟩ : Bound) (Option.some.inj h23) rfl
        ·refine Tri.skip ?_
         exact Fin.join [0, 1, 4, 6, 7, 8, 10, 12, 14, 15] [101, 102, 104, 106, 107] (⟨0, 0, false, false⟩ : Bound) (Option.some.inj h23) rfl
       ·rintro b_19 hv
        subst v22
        obtain ⟨v27, h28, h21⟩ := bnd h21
        refine Tri.seqJ (v := v27) (fun (b_23 : Bound) => ⟨[(0, .b (.one (.sl 6 (l0.map eReport)))), (1, I now0), (4, Pt 101 0), (6, I x_2), (7, .b (.row 102)), (8, I axis_6), (10, .b (.row 104)), (12, .b (.row 106)), (14, I k_16), (15, Pt 107 0)], [(101, .box 32 [.nil, .i 0]), (102, .row 36 12 (out_15.map eArr3Bound)), (104, .row 3 1 (x_10.map eI)), (106, .row 3 1 (x_13.map eI)), (107, .box 35 (eBound b_23))]⟩) (fun z => z) ?_ ?_
        ·refine Tri.seq (Tri.keepS ⟨[(0, _), (1, _), (4, _), (6, _), (7, _), (8, _), (10, _), (12, _), (14, _), (15, _)], [(101, _), (102, _), (104, _), (106, _), (107, _)]⟩ rfl ?_)
         obtain ⟨x_24, e29, h28⟩ := bnd h28
         obtain ⟨x_25, e30, h28⟩ := bnd h28
         refine Tri.regionY mixed 6 [.b (.row 106), I k_16, .b (.rptr 106 ((k_16 : Int).toNat * 1)), I x_24, I x_25, B (decide (x_24 < x_25))] [0, 1, 4, 6, 7, 8, 10, 12, 14, 15, 69] [101, 102, 104, 106, 107] (s' := ⟨[(0, _), (1, _), (4, _), (6, _), (7, _), (8, _), (10, _), (12, _), (14, _), (15, _), (69, B (decide (x_24 < x_25)))], [(101, _), (102, _), (104, _), (106, _), (107, _)]⟩) rfl ⟨fun _ => .p om, fun _ => .p om, fun _ => .p (op_index_r tySl37 (ix_lo e29) (ix_lt' e29) rfl rfl rfl rfl), fun _ => .p (op_load_r1 (i := (k_16 : Int).toNat) (f := 0) tyOne3 rfl rfl rfl (ix_map (e := eI) e29) rfl), fun _ => .p (op_call0 (skewbackref39_none_spec e30) goes40 rfl rfl), fun _ => .p (op_lss rfl rfl), trivial⟩ rfl rfl (Tri.ite h28 rfl (fun _ h28 => ?_) (fun _ h28 => ?_))
         ·refine Tri.seq (Tri.regionL ?_)
          refine Oc om (Oc om ?_)
          obtain ⟨x_26, e31, h28⟩ := bnd h28
          refine Oc (op_index_r tySl37 (ix_lo e31) (ix_lt' e31) rfl rfl rfl rfl) (Oc (op_load_r1 (i := (k_16 : Int).toNat) (f := 0) tyOne3 rfl rfl rfl (ix_map (e := eI) e31) rfl) (Oc (op_neg rfl) (Oc (op_field_p tyFld35_0 rfl rfl) (Oc (op_store_p1 tyOne3 rfl rfl rfl (Nat.le_of_ble_eq_true rfl) rfl) ?_))))
          refine OpsL.nilS ⟨[(0, _), (1, _), (4, _), (6, _), (7, _), (8, _), (10, _), (12, _), (14, _), (15, _)], [(101, _), (102, _), (104, _), (106, _), (107, .box 35 [.i (IntKind.i64.wrap (-x_26)), .i b_19.Hi, .bool b_19.Below, .bool b_19.Above])]⟩ rfl (Tri.regionL (Oc (op_field_p tyFld35_2 rfl rfl) (Oc (op_store_p1 tyOne4 rfl rfl rfl (Nat.le_of_ble_eq_true rfl) rfl) ?_)))
          refine OpsL.nil ?_
          exact Fin.join [0, 1, 4, 6, 7, 8, 10, 12, 14, 15] [101, 102, 104, 106, 107] (⟨IntKind.i64.wrap (-x_26), b_19.Hi, true, b_19.Above⟩ : Bound) (Option.some.inj h28) rfl
         ·refine Tri.skip ?_
          exact Fin.join [0, 1, 4, 6, 7, 8, 10, 12, 14, 15] [101, 102, 104, 106, 107] b_19 (Option.some.inj h28) rfl
        ·rintro b_23 hv
         subst v27
         refine Tri.keepS ⟨[(0, _), (1, _), (4, _), (6, _), (7, _), (8, _), (10, _), (12, _), (14, _), (15, _)], [(101, _), (102, _), (104, _), (106, _), (107, _)]⟩ rfl ?_
         obtain ⟨x_27, e32, h21⟩ := bnd h21
         obtain ⟨x_28, e33, h21⟩ := bnd h21
         refine Tri.regionYF mixed 7 [.b (.row 102), I k_16, I (IntKind.i64.wrap (k_16 - 1)), I axis_6, .b (.agg (eBound b_23)), .b (.rptr 102 ((IntKind.i64.wrap (k_16 - 1) : Int).toNat * 12)), .b (.rptr 102 ((IntKind.i64.wrap (k_16 - 1) : Int).toNat * 12 + (axis_6 : Int).toNat * 4))] [0, 1, 4, 6, 7, 8, 10, 12, 14] [101, 102, 104, 106] (s' := ⟨[(0, _), (1, _), (4, _), (6, _), (7, _), (8, _), (10, _), (12, _), (14, _)], [(101, _), (102, .row 36 12 ((out_15.set (IntKind.i64.wrap (k_16 - 1) : Int).toNat (x_27.set axis_6 b_23)).map eArr3Bound)), (104, _), (106, _)]⟩) rfl ⟨fun _ => .p om, fun _ => .p om, fun _ => .p (op_sub rfl rfl), fun _ => .p om, fun _ => .p (lp tyAgg35), fun _ => .p (op_index_r tySl27 (ix_lo e32) (ix_lt' e32) rfl rfl rfl rfl), fun _ => .p (op_index_ra tyArr36 (ix_lo e33) (ix_hi e33) rfl rfl rfl), trivial⟩ ⟨_, by exact .p (op_store_rf (i := (IntKind.i64.wrap (k_16 - 1) : Int).toNat) (f := (axis_6 : Int).toNat * 4) tyAgg35 rfl rfl rfl rfl (ix_map (e := eArr3Bound) e32) (part_lt (m := 4) (f := 0) (sz := 4) (ix_lo e33) (ix_hi e33) (by decide) (Nat.le_of_ble_eq_true rfl)) (part_set (z' := x_27.set axis_6 b_23) (arr_part (e := eBound) (sz := 4) (f := 0) (Arr3Bound.e_l) (fun _ => rfl) e33 (Nat.le_of_ble_eq_true rfl) rfl (Arr3Bound.set_l _ _ _))) rfl), rfl⟩ rfl (Fin.block_normal ?_)
         exact Fin.join [0, 1, 4, 6, 7, 8, 10, 12, 14] [101, 102, 104, 106] (out_15.set (IntKind.i64.wrap (k_16 - 1) : Int).toNat (x_27.set axis_6 b_23)) (Option.some.inj h21) rfl
      ·rintro out_18 hv
       subst v20
       refine Tri.regionL (Oc om (Oc (op_add rfl rfl) (Oc oa ?_)))
       refine OpsL.nil ?_
       exact Fin.againJ [0, 1, 4, 6, 7, 8, 10, 12, 14] [101, 102, 104, 106] (out_18, IntKind.i64.wrap (k_16 + 1)) (Option.some.inj h18) rfl
     ·refine Tri.exit (Fin.then_exit ?_)
      obtain rfl := hy19 _ (Option.some.inj h18).symm
      refine Fin.then_exit (Fin.block_exit (Fin.block_normal ?_))
      exact Fin.join [0, 1, 4, 6, 7, 8] [101, 102] out_15 (Option.some.inj h10) rfl
    ·rintro out_8 hv
     subst v9
     refine Tri.regionL (Oc om (Oc (op_add rfl rfl) (Oc oa ?_)))
     refine OpsL.nil ?_
     exact Fin.againJ [0, 1, 4, 6, 7, 8] [101, 102] (out_8, IntKind.i64.wrap (axis_6 + 1)) (Option.some.inj h7) rfl
   ·refine Tri.exit (Fin.then_exit ?_)
    obtain rfl := hy8 _ (Option.some.inj h7).symm
    refine Fin.then_exit (Fin.block_exit ?_)
    exact Fin.join [4, 7] [101, 102] out_5 rfl rfl
  ·rintro out_4 hv
   subst v4
   refine Tri.seq (Tri.regionL ?_)
   refine Oc om (OpsL.persist 102 rfl (Oc (op_build tyBuild32 rfl rfl) (Oc (op_store_p tyAgg32 rfl rfl rfl rfl (Nat.le_of_ble_eq_true rfl) rfl) ?_)))
   refine OpsL.nilS ⟨[(4, Pt 101 0)], [(101, .box 32 [.sl 12 (out_4.map eArr3Bound), .i 0])]⟩ rfl (Tri.ret ?_)
   obtain rfl := Option.some.inj h
   refine Fin.keepS ⟨[(4, _)], [(101, _)]⟩ rfl (Fin.result' [.agg [.sl 12 (out_4.map eArr3Bound), .i 0]] (.inl rfl) rfl (.cons (.agg tyAgg32 rfl rfl rfl rfl) .nil) ⟨rfl, rfl⟩)
def skewbackref39_rest_S (F : Nat) (n0 : Int) (l0 : List REdge) (to0 : Int) (edges0 : Int) : Option (List Int) :=
 Option.bind (mk? (0 : Int) (IntKind.i64.wrap (n0 + 1)) (IntKind.i64.wrap (n0 + 1))) (fun x_1 => Option.bind (iter F (un2 fun d_3 k_4 => if (decide (k_4 ≤ n0)) = true then (Option.bind (if (decide (k_4 ≠ to0)) = true then ((skewbackref39_none_S F).bind fun x_7 => (idx? d_3 k_4).bind fun x_8 => some (d_3.set (k_4 : Int).toNat x_7)) else (some d_3)) (fun d_6 => some (.inl (d_6, IntKind.i64.wrap (k_4 + 1))))) else (some (.inr d_3))) (x_1, 0)) (fun d_2 => Option.bind (iter F (un2 fun d_10 i_11 => if (decide (i_11 < edges0)) = true then (Option.bind (Option.bind (mk? (0 : Int) (IntKind.i64.wrap (n0 + 1)) (IntKind.i64.wrap (n0 + 1))) (fun x_14 => Option.bind (iter F (un2 fun next_16 k_17 => if (decide (k_17 ≤ n0)) = true then ((skewbackref39_none_S F).bind fun x_19 => (idx? next_16 k_17).bind fun x_20 => some (.inl (next_16.set (k_17 : Int).toNat x_19, IntKind.i64.wrap (k_17 + 1)))) else (some (.inr next_16))) (x_14, 0)) (fun next_15 => Option.bind (iter F (un2 fun next_22 j_23 => if (decide (j_23 < (l0.length : Int))) = true then (Option.bind ((idx? l0 j_23).bind fun x_26 => (idx? d_10 x_26.To).bind fun x_27 => (skewbackref39_none_S F).bind fun x_28 => if (decide (x_27 < x_28)) = true then ((idx? l0 j_23).bind fun x_29 => (idx? l0 j_23).bind fun x_30 => (idx? next_22 x_30.From).bind fun x_31 => (idx? l0 j_23).bind fun x_32 => (idx? l0 j_23).bind fun x_33 => (idx? d_10 x_33.To).bind fun x_34 => (idx? next_22 x_29.From).bind fun x_35 => some (next_22.set (x_29.From : Int).toNat (min x_31 (IntKind.i64.wrap (x_32.Weight + x_34))))) else (some next_22)) (fun next_25 => some (.inl (next_25, IntKind.i64.wrap (j_23 + 1))))) else (some (.inr next_22))) (next_15, 0)) (fun next_21 => some next_21)))) (fun d_13 => some (.inl (d_13, IntKind.i64.wrap (i_11 + 1))))) else (some (.inr d_10))) (d_2, 0)) (fun d_9 => some d_9)))
theorem skewbackref39_rest_spec (kr0 : Nat) {F : Nat} {n0 : Int} {l0 : List REdge} {to0 : Int} {edges0 : Int} {r : (List Int)} (h : skewbackref39_rest_S F n0 l0 to0 edges0 = some r) : Meets Try.prog [] 62 [] [.one (.i n0), .one (.sl 4 (l0.map eREdge)), .one (.i to0), .one (.i edges0)] (Is [(kr0, .row 3 1 (r.map eI))] (.b (.row kr0))) := by
 unfold skewbackref39_rest_S at h
 refine Meets.intro 95 Try.func62 Try.ntmps62 rfl (by simp) fun E => ?_
 show Tri _ E ⟨95, [], [], []⟩ _ ⟨[(0, I n0), (1, .b (.one (.sl 4 (l0.map eREdge)))), (2, I to0), (3, I edges0)], []⟩ _
 refine Tri.seq (Tri.regionL ?_)
 refine Oc oa (OpsL.nilS ⟨[(0, I n0), (1, .b (.one (.sl 4 (l0.map eREdge)))), (2, I to0), (3, I edges0)], []⟩ rfl (Tri.seq (Tri.regionL ?_)))
 refine Oc om (Oc (op_add rfl rfl) ?_)
 obtain ⟨x_1, e1, h⟩ := bnd h
 refine Oc (op_makeSlice (k := 101) (enc := eI) tySl37 e1 (by decide) (.cons .refl .nil) rfl rfl rfl) (Oc oa ?_)
 refine OpsL.nilS ⟨[(0, _), (1, _), (2, _), (3, _), (9, .b (.row 101))], [(101, .row 3 1 (x_1.map eI))]⟩ rfl ?_
 obtain ⟨v2, h3, h⟩ := bnd h
 refine Tri.seqJ (v := v2) (fun (d_2 : List Int) => ⟨[(0, I n0), (1, .b (.one (.sl 4 (l0.map eREdge)))), (3, I edges0), (9, .b (.row 101))], [(101, .row 3 1 (d_2.map eI))]⟩) (fun z => z) ?_ ?_
 ·refine Tri.seq (Tri.regionL ?_)
  refine Oc oa (OpsL.nilS ⟨[(0, _), (1, _), (2, _), (3, _), (9, _), (10, I 0)], [(101, _)]⟩ rfl (Tri.block (Tri.loopJ h3 (un2 fun (d_3 : List Int) (k_4 : Int) => ⟨[(0, I n0), (1, .b (.one (.sl 4 (l0.map eREdge)))), (2, I to0), (3, I edges0), (9, .b (.row 101)), (10, I k_4)], [(101, .row 3 1 (d_3.map eI))]⟩) [0, 1, 2, 3, 9, 10] [101] rfl ?_)))
  rintro ⟨d_3, k_4⟩ o4 h5 hy6
  refine Tri.seq (Tri.seq (Tri.regionL ?_))
  refine Oc om (Oc om (Oc (op_leq rfl rfl) ?_))
  refine OpsL.nilS ⟨[(0, _), (1, _), (2, _), (3, _), (9, _), (10, _), (20, B (decide (k_4 ≤ n0)))], [(101, _)]⟩ rfl (Tri.ite h5 rfl (fun _ h5 => ?_) (fun _ h5 => ?_))
  ·refine Tri.skip (Fin.keepS ⟨[(0, _), (1, _), (2, _), (3, _), (9, _), (10, _)], [(101, _)]⟩ rfl (Fin.then ?_))
   obtain ⟨v7, h8, h5⟩ := bnd h5
   refine Tri.seqJ (v := v7) (fun (d_6 : List Int) => ⟨[(0, I n0), (1, .b (.one (.sl 4 (l0.map eREdge)))), (2, I to0), (3, I edges0), (9, .b (.row 101)), (10, I k_4)], [(101, .row 3 1 (d_6.map eI))]⟩) (fun z => z) ?_ ?_
   ·refine Tri.block (Tri.seq (Tri.regionL ?_))
    refine Oc om (Oc om (Oc (op_neq rfl rfl) ?_))
    refine OpsL.nilS ⟨[(0, _), (1, _), (2, _), (3, _), (9, _), (10, _), (25, B (decide (k_4 ≠ to0)))], [(101, _)]⟩ rfl (Tri.ite h8 rfl (fun _ h8 => ?_) (fun _ h8 => ?_))
    ·refine Tri.regionL (Oc om (Oc om ?_))
     obtain ⟨x_7, e9, h8⟩ := bnd h8
     refine Oc (op_call0 (skewbackref39_none_spec e9) goes40 rfl rfl) ?_
     obtain ⟨x_8, e10, h8⟩ := bnd h8
     refine Oc (op_index_r tySl37 (ix_lo e10) (ix_lt' e10) rfl rfl rfl rfl) (Oc (op_store_r1 (i := (k_4 : Int).toNat) tyOne3 rfl rfl rfl rfl (ix_lt e10) (map_set _ _ _ _)) ?_)
     refine OpsL.nil (Fin.block_normal ?_)
     exact Fin.join [0, 1, 2, 3, 9, 10] [101] (d_3.set (k_4 : Int).toNat x_7) (Option.some.inj h8) rfl
    ·refine Tri.skip (Fin.block_normal ?_)
     exact Fin.join [0, 1, 2, 3, 9, 10] [101] d_3 (Option.some.inj h8) rfl
   ·rintro d_6 hv
    subst v7
    refine Tri.regionL (Oc om (Oc (op_add rfl rfl) (Oc oa ?_)))
    refine OpsL.nil ?_
    exact Fin.againJ [0, 1, 2, 3, 9, 10] [101] (d_6, IntKind.i64.wrap (k_4 + 1)) (Option.some.inj h5) rfl
  ·refine Tri.exit (Fin.then_exit ?_)
   obtain rfl := hy6 _ (Option.some.inj h5).symm
   refine Fin.then_exit (Fin.block_exit ?_)
   exact Fin.join [0, 1, 3, 9] [101] d_3 rfl rfl
 ·rintro d_2 hv
  subst v2
  obtain ⟨v11, h12, h⟩ := bnd h
  refine Tri.seqJ (v := v11) (fun (d_9 : List Int) => ⟨[(9, .b (.row 101))], [(101, .row 3 1 (d_9.map eI))]⟩) (fun z => z) ?_ ?_
  ·refine Tri.seq (Tri.regionL ?_)
   refine Oc oa (OpsL.nilS ⟨[(0, _), (1, _), (3, _), (9, _), (11, I 0)], [(101, _)]⟩ rfl (Tri.block (Tri.loopJ h12 (un2 fun (d_10 : List Int) (i_11 : Int) => ⟨[(0, I n0), (1, .b (.one (.sl 4 (l0.map eREdge)))), (3, I edges0), (9, .b (.row 101)), (11, I i_11)], [(101, .row 3 1 (d_10.map eI))]⟩) [0, 1, 3, 9, 11] [101] rfl ?_)))
   rintro ⟨d_10, i_11⟩ o13 h14 hy15
   refine Tri.seq (Tri.seq (Tri.regionL ?_))
   refine Oc om (Oc om (Oc (op_lss rfl rfl) ?_))
   refine OpsL.nilS ⟨[(0, _), (1, _), (3, _), (9, _), (11, _), (32, B (decide (i_11 < edges0)))], [(101, _)]⟩ rfl (Tri.ite h14 rfl (fun _ h14 => ?_) (fun _ h14 => ?_))
   ·refine Tri.skip (Fin.keepS ⟨[(0, _), (1, _), (3, _), (9, _), (11, _)], [(101, _)]⟩ rfl (Fin.then ?_))
    obtain ⟨v16, h17, h14⟩ := bnd h14
    refine Tri.seqJ (v := v16) (fun (d_13 : List Int) => ⟨[(0, I n0), (1, .b (.one (.sl 4 (l0.map eREdge)))), (3, I edges0), (9, .b (.row 102)), (11, I i_11)], [(102, .row 3 1 (d_13.map eI))]⟩) (fun z => z) ?_ ?_
    ·refine Tri.block (Tri.seq (Tri.regionL ?_))
     refine Oc om (Oc (op_add rfl rfl) ?_)
     obtain ⟨x_14, e18, h17⟩ := bnd h17
     refine Oc (op_makeSlice (k := 102) (enc := eI) tySl37 e18 (by decide) (.cons .refl .nil) rfl rfl rfl) (Oc oa ?_)
     refine OpsL.nilS ⟨[(0, _), (1, _), (3, _), (9, _), (11, _), (12, .b (.row 102))], [(101, _), (102, .row 3 1 (x_14.map eI))]⟩ rfl ?_
     obtain ⟨v19, h20, h17⟩ := bnd h17
     refine Tri.seqJ (v := v19) (fun (next_15 : List Int) => ⟨[(0, I n0), (1, .b (.one (.sl 4 (l0.map eREdge)))), (3, I edges0), (9, .b (.row 101)), (11, I i_11), (12, .b (.row 102))], [(101, .row 3 1 (d_10.map eI)), (102, .row 3 1 (next_15.map eI))]⟩) (fun z => z) ?_ ?_
     ·refine Tri.seq (Tri.regionL ?_)
      refine Oc oa (OpsL.nilS ⟨[(0, _), (1, _), (3, _), (9, _), (11, _), (12, _), (13, I 0)], [(101, _), (102, _)]⟩ rfl (Tri.block (Tri.loopJ h20 (un2 fun (next_16 : List Int) (k_17 : Int) => ⟨[(0, I n0), (1, .b (.one (.sl 4 (l0.map eREdge)))), (3, I edges0), (9, .b (.row 101)), (11, I i_11), (12, .b (.row 102)), (13, I k_17)], [(101, .row 3 1 (d_10.map eI)), (102, .row 3 1 (next_16.map eI))]⟩) [0, 1, 3, 9, 11, 12, 13] [101, 102] rfl ?_)))
      rintro ⟨next_16, k_17⟩ o21 h22 hy23
      refine Tri.seq (Tri.seq (Tri.regionL ?_))
      refine Oc om (Oc om (Oc (op_leq rfl rfl) ?_))
      refine OpsL.nilS ⟨[(0, _), (1, _), (3, _), (9, _), (11, _), (12, _), (13, _), (40, B (decide (k_17 ≤ n0)))], [(101, _), (102, _)]⟩ rfl (Tri.ite h22 rfl (fun _ h22 => ?_) (fun _ h22 => ?_))
      ·refine Tri.skip (Fin.keepS ⟨[(0, _), (1, _), (3, _), (9, _), (11, _), (12, _), (13, _)], [(101, _), (102, _)]⟩ rfl (Fin.then (Tri.seq (Tri.block (Tri.regionL ?_)))))
       refine Oc om (Oc om ?_)
       obtain ⟨x_19, e24, h22⟩ := bnd h22
       refine Oc (op_call0 (skewbackref39_none_spec e24) goes40 rfl rfl) ?_
       obtain ⟨x_20, e25, h22⟩ := bnd h22
       refine Oc (op_index_r tySl37 (ix_lo e25) (ix_lt' e25) rfl rfl rfl rfl) (Oc (op_store_r1 (i := (k_17 : Int).toNat) tyOne3 rfl rfl rfl rfl (ix_lt e25) (map_set _ _ _ _)) ?_)
       refine OpsL.nil (Fin.block_normal (Fin.keepS ⟨[(0, _), (1, _), (3, _), (9, _), (11, _), (12, _), (13, _)], [(101, _), (102, .row 3 1 ((next_16.set (k_17 : Int).toNat x_19).map eI))]⟩ rfl (Fin.then (Tri.regionL ?_))))
       refine Oc om (Oc (op_add rfl rfl) (Oc oa ?_))
       refine OpsL.nil ?_
       exact Fin.againJ [0, 1, 3, 9, 11, 12, 13] [101, 102] (next_16.set (k_17 : Int).toNat x_19, IntKind.i64.wrap (k_17 + 1)) (Option.some.inj h22) rfl
      ·refine Tri.exit (Fin.then_exit ?_)
       obtain rfl := hy23 _ (Option.some.inj h22).symm
       refine Fin.then_exit (Fin.block_exit ?_)
       exact Fin.join [0, 1, 3, 9, 11, 12] [101, 102] next_16 rfl rfl
     ·rintro next_15 hv
      subst v19
      obtain ⟨v26, h27, h17⟩ := bnd h17
      refine Tri.seqJ (v := v26) (fun (next_21 : List Int) => ⟨[(0, I n0), (1, .b (.one (.sl 4 (l0.map eREdge)))), (3, I edges0), (11, I i_11), (12, .b (.row 102))], [(102, .row 3 1 (next_21.map eI))]⟩) (fun z => z) ?_ ?_
      ·refine Tri.seq (Tri.regionL ?_)
       refine Oc oa (OpsL.nilS ⟨[(0, _), (1, _), (3, _), (9, _), (11, _), (12, _), (14, I 0)], [(101, _), (102, _)]⟩ rfl (Tri.block (Tri.loopJ h27 (un2 fun (next_22 : List Int) (j_23 : Int) => ⟨[(0, I n0), (1, .b (.one (.sl 4 (l0.map eREdge)))), (3, I edges0), (9, .b (.row 101)), (11, I i_11), (12, .b (.row 102)), (14, I j_23)], [(101, .row 3 1 (d_10.map eI)), (102, .row 3 1 (next_22.map eI))]⟩) [0, 1, 3, 9, 11, 12, 14] [101, 102] rfl ?_)))
       rintro ⟨next_22, j_23⟩ o28 h29 hy30
       refine Tri.seq (Tri.seq (Tri.regionL ?_))
       refine Oc om (Oc om (Oc (op_len_e' und76 rfl (List.length_map _)) (Oc (op_lss rfl rfl) ?_)))
       refine OpsL.nilS ⟨[(0, _), (1, _), (3, _), (9, _), (11, _), (12, _), (14, _), (50, B (decide (j_23 < (l0.length : Int))))], [(101, _), (102, _)]⟩ rfl (Tri.ite h29 rfl (fun _ h29 => ?_) (fun _ h29 => ?_))
       ·refine Tri.skip (Fin.keepS ⟨[(0, _), (1, _), (3, _), (9, _), (11, _), (12, _), (14, _)], [(101, _), (102, _)]⟩ rfl (Fin.then ?_))
        obtain ⟨v31, h32, h29⟩ := bnd h29
        refine Tri.seqJ (v := v31) (fun (next_25 : List Int) => ⟨[(0, I n0), (1, .b (.one (.sl 4 (l0.map eREdge)))), (3, I edges0), (9, .b (.row 101)), (11, I i_11), (12, .b (.row 102)), (14, I j_23)], [(101, .row 3 1 (d_10.map eI)), (102, .row 3 1 (next_25.map eI))]⟩) (fun z => z) ?_ ?_
        ·refine Tri.block (Tri.seq ?_)
         refine Tri.keepS ⟨[(0, _), (1, _), (3, _), (9, _), (11, _), (12, _), (14, _)], [(101, _), (102, _)]⟩ rfl ?_
         obtain ⟨x_26, e33, h32⟩ := bnd h32
         obtain ⟨x_27, e34, h32⟩ := bnd h32
         obtain ⟨x_28, e35, h32⟩ := bnd h32
         refine Tri.regionY mixed 10 [.b (.row 101), .b (.one (.sl 4 (l0.map eREdge))), I j_23, .b (.eptr (eREdge x_26)), .b (.eptr [.i x_26.To, .i x_26.Weight, .i x_26.Report]), I x_26.To, .b (.rptr 101 ((x_26.To : Int).toNat * 1)), I x_27, I x_28, B (decide (x_27 < x_28))] [0, 1, 3, 9, 11, 12, 14, 62] [101, 102] (s' := ⟨[(0, _), (1, _), (3, _), (9, _), (11, _), (12, _), (14, _), (62, B (decide (x_27 < x_28)))], [(101, _), (102, _)]⟩) rfl ⟨fun _ => .p om, fun _ => .p om, fun _ => .p om, fun _ => .p (op_index_e tySl76 (ix_lo e33) (ix_map (e := eREdge) e33) rfl rfl), fun _ => by exact .p (op_field_e tyFld103_1 rfl rfl), fun _ => .p (op_load_e1 tyOne3 rfl rfl), fun _ => .p (op_index_r tySl37 (ix_lo e34) (ix_lt' e34) rfl rfl rfl rfl), fun _ => .p (op_load_r1 (i := (x_26.To : Int).toNat) (f := 0) tyOne3 rfl rfl rfl (ix_map (e := eI) e34) rfl), fun _ => .p (op_call0 (skewbackref39_none_spec e35) goes40 rfl rfl), fun _ => .p (op_lss rfl rfl), trivial⟩ rfl rfl (Tri.ite h32 rfl (fun _ h32 => ?_) (fun _ h32 => ?_))
         ·refine Tri.keepS ⟨[(0, _), (1, _), (3, _), (9, _), (11, _), (12, _), (14, _)], [(101, _), (102, _)]⟩ rfl ?_
          obtain ⟨x_29, e36, h32⟩ := bnd h32
          obtain ⟨x_30, e37, h32⟩ := bnd h32
          obtain ⟨x_31, e38, h32⟩ := bnd h32
          obtain ⟨x_32, e39, h32⟩ := bnd h32
          obtain ⟨x_33, e40, h32⟩ := bnd h32
          obtain ⟨x_34, e41, h32⟩ := bnd h32
          obtain ⟨x_35, e42, h32⟩ := bnd h32
          refine Tri.regionYF mixed 30 [.b (.row 102), .b (.one (.sl 4 (l0.map eREdge))), I j_23, .b (.eptr (eREdge x_29)), .b (.eptr (eREdge x_29)), I x_29.From, .b (.row 102), .b (.one (.sl 4 (l0.map eREdge))), I j_23, .b (.eptr (eREdge x_30)), .b (.eptr (eREdge x_30)), I x_30.From, .b (.rptr 102 ((x_30.From : Int).toNat * 1)), I x_31, .b (.one (.sl 4 (l0.map eREdge))), I j_23, .b (.eptr (eREdge x_32)), .b (.eptr [.i x_32.Weight, .i x_32.Report]), I x_32.Weight, .b (.row 101), .b (.one (.sl 4 (l0.map eREdge))), I j_23, .b (.eptr (eREdge x_33)), .b (.eptr [.i x_33.To, .i x_33.Weight, .i x_33.Report]), I x_33.To, .b (.rptr 101 ((x_33.To : Int).toNat * 1)), I x_34, I (IntKind.i64.wrap (x_32.Weight + x_34)), I (min x_31 (IntKind.i64.wrap (x_32.Weight + x_34))), .b (.rptr 102 ((x_29.From : Int).toNat * 1))] [0, 1, 3, 9, 11, 12, 14] [101, 102] (s' := ⟨[(0, _), (1, _), (3, _), (9, _), (11, _), (12, _), (14, _)], [(101, _), (102, .row 3 1 ((next_22.set (x_29.From : Int).toNat (min x_31 (IntKind.i64.wrap (x_32.Weight + x_34)))).map eI))]⟩) rfl ⟨fun _ => .p om, fun _ => .p om, fun _ => .p om, fun _ => .p (op_index_e tySl76 (ix_lo e36) (ix_map (e := eREdge) e36) rfl rfl), fun _ => by exact .p (op_field_e tyFld103_0 rfl rfl), fun _ => .p (op_load_e1 tyOne3 rfl rfl), fun _ => .p om, fun _ => .p om, fun _ => .p om, fun _ => .p (op_index_e tySl76 (ix_lo e37) (ix_map (e := eREdge) e37) rfl rfl), fun _ => by exact .p (op_field_e tyFld103_0 rfl rfl), fun _ => .p (op_load_e1 tyOne3 rfl rfl), fun _ => .p (op_index_r tySl37 (ix_lo e38) (ix_lt' e38) rfl rfl rfl rfl), fun _ => .p (op_load_r1 (i := (x_30.From : Int).toNat) (f := 0) tyOne3 rfl rfl rfl (ix_map (e := eI) e38) rfl), fun _ => .p om, fun _ => .p om, fun _ => .p (op_index_e tySl76 (ix_lo e39) (ix_map (e := eREdge) e39) rfl rfl), fun _ => by exact .p (op_field_e tyFld103_2 rfl rfl), fun _ => .p (op_load_e1 tyOne3 rfl rfl), fun _ => .p om, fun _ => .p om, fun _ => .p om, fun _ => .p (op_index_e tySl76 (ix_lo e40) (ix_map (e := eREdge) e40) rfl rfl), fun _ => by exact .p (op_field_e tyFld103_1 rfl rfl), fun _ => .p (op_load_e1 tyOne3 rfl rfl), fun _ => .p (op_index_r tySl37 (ix_lo e41) (ix_lt' e41) rfl rfl rfl rfl), fun _ => .p (op_load_r1 (i := (x_33.To : Int).toNat) (f := 0) tyOne3 rfl rfl rfl (ix_map (e := eI) e41) rfl), fun _ => .p (op_add rfl rfl), fun _ => .p (op_min rfl rfl), fun _ => .p (op_index_r tySl37 (ix_lo e42) (ix_lt' e42) rfl rfl rfl rfl), trivial⟩ ⟨_, by exact .p (op_store_r1 (i := (x_29.From : Int).toNat) tyOne3 rfl rfl rfl rfl (ix_lt e42) (map_set _ _ _ _)), rfl⟩ rfl ?_
          refine Fin.block_normal ?_
          exact Fin.join [0, 1, 3, 9, 11, 12, 14] [101, 102] (next_22.set (x_29.From : Int).toNat (min x_31 (IntKind.i64.wrap (x_32.Weight + x_34)))) (Option.some.inj h32) rfl
         ·refine Tri.skip (Fin.block_normal ?_)
          exact Fin.join [0, 1, 3, 9, 11, 12, 14] [101, 102] next_22 (Option.some.inj h32) rfl
        ·rintro next_25 hv
         subst v31
         refine Tri.regionL (Oc om (Oc (op_add rfl rfl) (Oc oa ?_)))
         refine OpsL.nil ?_
         exact Fin.againJ [0, 1, 3, 9, 11, 12, 14] [101, 102] (next_25, IntKind.i64.wrap (j_23 + 1)) (Option.some.inj h29) rfl
       ·refine Tri.exit (Fin.then_exit ?_)
        obtain rfl := hy30 _ (Option.some.inj h29).symm
        refine Fin.then_exit (Fin.block_exit ?_)
        exact Fin.join [0, 1, 3, 11, 12] [102] next_22 rfl rfl
      ·rintro next_21 hv
       subst v26
       refine Tri.regionL (Oc om (Oc oa ?_))
       refine OpsL.nil (Fin.block_normal ?_)
       exact Fin.join [0, 1, 3, 9, 11] [102] next_21 (Option.some.inj h17) rfl
    ·rintro d_13 hv
     subst v16
     refine Tri.regionL (Oc om (Oc (op_add rfl rfl) (Oc oa ?_)))
     refine OpsL.nil (Fin.keepS ⟨[(0, I n0), (1, .b (.one (.sl 4 (l0.map eREdge)))), (3, I edges0), (9, .b (.row 102)), (11, I (IntKind.i64.wrap (i_11 + 1)))], [(102, .row 3 1 (d_13.map eI))]⟩ rfl (Fin.rename 102 101 rfl (by decide) rfl ?_))
     exact Fin.againJ [0, 1, 3, 9, 11] [101] (d_13, IntKind.i64.wrap (i_11 + 1)) (Option.some.inj h14) rfl
   ·refine Tri.exit (Fin.then_exit ?_)
    obtain rfl := hy15 _ (Option.some.inj h14).symm
    refine Fin.then_exit (Fin.block_exit ?_)
    exact Fin.join [9] [101] d_10 rfl rfl
  ·rintro d_9 hv
   subst v11
   refine Tri.seq (Tri.regionL ?_)
   refine Oc om (Oc oa ?_)
   refine OpsL.nilS ⟨[(8, .b (.row 101))], [(101, _)]⟩ rfl (Tri.ret ?_)
   obtain rfl := Option.some.inj h
   refine Fin.keepS ⟨[(8, _)], [(101, _)]⟩ rfl (Fin.resultK 101 kr0 [.row 101] (.inl rfl) rfl (.cons (.tmp rfl) .nil) rfl rfl rfl rfl ⟨rfl, rfl⟩)
def skewbackref39_first_S (F : Nat) (n0 : Int) (l0 : List REdge) (start0 : Int) (edges0 : Int) : Option RWalk :=
 (skewbackref39_rest_S F n0 l0 start0 edges0).bind fun x_1 => (idx? x_1 start0).bind fun x_2 => if (decide (0 ≤ x_2)) = true then (some (⟨[], false⟩ : RWalk)) else (Option.bind (iter F (un4 fun out_4 at_5 sum_6 left_7 => if (decide (0 ≤ left_7)) = true then (Option.bind ((skewbackref39_rest_S F n0 l0 start0 left_7).bind fun x_12 => Option.bind (iter F (fun j_13 => if (decide (j_13 < (l0.length : Int))) = true then ((idx? l0 j_13).bind fun x_17 => (gcall (decide (x_17.From = at_5)) (idx? l0 j_13)).bind fun x_18 => (gcall (decide (x_17.From = at_5)) (idx? x_12 x_18.To)).bind fun x_19 => (gcall (decide (x_17.From = at_5)) (skewbackref39_none_S F)).bind fun x_20 => (gcall ((decide (x_17.From = at_5)) && (decide (x_19 < x_20))) (idx? l0 j_13)).bind fun x_21 => (gcall ((decide (x_17.From = at_5)) && (decide (x_19 < x_20))) (idx? l0 j_13)).bind fun x_22 => (gcall ((decide (x_17.From = at_5)) && (decide (x_19 < x_20))) (idx? x_12 x_22.To)).bind fun x_23 => if (((decide (x_17.From = at_5)) && (decide (x_19 < x_20))) && (decide ((IntKind.i64.wrap ((IntKind.i64.wrap (sum_6 + x_21.Weight)) + x_23)) < 0))) = true then ((idx? l0 j_13).bind fun x_24 => (app? out_4 [x_24]).bind fun x_25 => (idx? l0 j_13).bind fun x_26 => letN (IntKind.i64.wrap (sum_6 + x_26.Weight)) fun x_27 => (idx? l0 j_13).bind fun x_28 => some (.inr (x_25, x_28.To, x_27))) else (some (.inl (IntKind.i64.wrap (j_13 + 1))))) else (some (.inr (out_4, at_5, sum_6)))) 0) (un3 fun out_14 at_15 sum_16 => some (out_14, at_15, sum_16))) (un3 fun out_9 at_10 sum_11 => some (.inl (out_9, at_10, sum_11, IntKind.i64.wrap (left_7 - 1))))) else (some (.inr out_4))) ([], start0, 0, IntKind.i64.wrap (edges0 - 1))) (fun out_3 => some (⟨out_3, true⟩ : RWalk)))
theorem skewbackref39_first_spec {F : Nat} {n0 : Int} {l0 : List REdge} {start0 : Int} {edges0 : Int} {r : RWalk} (h : skewbackref39_first_S F n0 l0 start0 edges0 = some r) : Meets Try.prog [] 45 [] [.one (.i n0), .one (.sl 4 (l0.map eREdge)), .one (.i start0), .one (.i edges0)] (Is [] (.b (.agg (eRWalk r)))) := by
 unfold skewbackref39_first_S at h
 refine Meets.intro 103 Try.func45 Try.ntmps45 rfl (by simp) fun E => ?_
 show Tri _ E ⟨103, [], [], []⟩ _ ⟨[(0, I n0), (1, .b (.one (.sl 4 (l0.map eREdge)))), (2, I start0), (3, I edges0)], []⟩ _
 refine Tri.seq (Tri.regionL ?_)
 refine Oc (op_alloc (k := 101) tyZero91 rfl) (OpsL.nilS ⟨[(0, I n0), (1, .b (.one (.sl 4 (l0.map eREdge)))), (2, I start0), (3, I edges0), (8, Pt 101 0)], [(101, .box 91 [.nil, .bool false])]⟩ rfl (Tri.seq (Tri.regionL ?_)))
 refine Oc om (Oc om (Oc om (Oc om ?_)))
 obtain ⟨x_1, e1, h⟩ := bnd h
 refine Oc (op_call (skewbackref39_rest_spec 102 e1) goes62 rfl trivial rfl rfl) (Oc oa ?_)
 refine OpsL.nilS ⟨[(0, _), (1, _), (2, _), (3, _), (8, _), (9, .b (.row 102))], [(101, _), (102, .row 3 1 (x_1.map eI))]⟩ rfl (Tri.seq (Tri.seq (Tri.regionL ?_)))
 refine Oc om (Oc om ?_)
 obtain ⟨x_2, e2, h⟩ := bnd h
 refine Oc (op_index_r tySl37 (ix_lo e2) (ix_lt' e2) rfl rfl rfl rfl) (Oc (op_load_r1 (i := (start0 : Int).toNat) (f := 0) tyOne3 rfl rfl rfl (ix_map (e := eI) e2) rfl) (Oc (op_geq rfl rfl) ?_))
 refine OpsL.nilS ⟨[(0, _), (1, _), (2, _), (3, _), (8, _), (24, B (decide (0 ≤ x_2)))], [(101, _)]⟩ rfl (Tri.ite h rfl (fun _ h => ?_) (fun _ h => ?_))
 ·refine Tri.seq (Tri.regionL ?_)
  refine Oc (op_build tyBuild91 rfl rfl) (Oc (op_store_p tyAgg91 rfl rfl rfl rfl (Nat.le_of_ble_eq_true rfl) rfl) ?_)
  refine OpsL.nilS ⟨[(8, _)], [(101, _)]⟩ rfl (Tri.ret (Fin.then_ret ?_))
  obtain rfl := Option.some.inj h
  refine Fin.keepS ⟨[(8, _)], [(101, _)]⟩ rfl (Fin.nilbox 101 0 4 rfl rfl (by decide) (Fin.result' [.agg [.sl 4 ([].map eREdge), .bool false]] (.inl rfl) rfl (.cons (.agg tyAgg91 rfl rfl rfl rfl) .nil) ⟨rfl, rfl⟩))
 ·refine Tri.skip (Fin.keepS ⟨[(0, _), (1, _), (2, _), (3, _), (8, _)], [(101, _)]⟩ rfl (Fin.then (Tri.seq (Tri.regionL ?_))))
  refine Oc oa (OpsL.nilS ⟨[(0, _), (1, _), (2, _), (3, _), (8, _), (10, .b (.one (.nil)))], [(101, _)]⟩ rfl (Tri.seq (Tri.regionL ?_)))
  refine Oc om (Oc oa ?_)
  refine OpsL.nilS ⟨[(0, _), (1, _), (2, _), (3, _), (8, _), (10, _), (11, I start0)], [(101, _)]⟩ rfl (Tri.seq (Tri.regionL ?_))
  refine Oc oa (OpsL.nilS ⟨[(0, _), (1, _), (2, _), (3, _), (8, _), (10, _), (11, _), (12, I 0)], [(101, _)]⟩ rfl ?_)
  obtain ⟨v3, h4, h⟩ := bnd h
  refine Tri.seqJ (v := v3) (fun (out_3 : List REdge) => ⟨[(8, Pt 101 0), (10, .b (.row 105))], [(101, .box 91 [.nil, .bool false]), (105, .row 103 4 (out_3.map eREdge))]⟩) (fun z => z) ?_ ?_
  ·refine Tri.seq (Tri.regionL ?_)
   refine Oc om (Oc (op_sub rfl rfl) (Oc oa ?_))
   refine OpsL.nilS ⟨[(0, _), (1, _), (2, _), (8, _), (10, _), (11, _), (12, _), (13, I (IntKind.i64.wrap (edges0 - 1)))], [(101, _)]⟩ rfl (Tri.block (Tri.nilrow 10 105 4 103 rfl (by decide) rfl (Tri.loopJ h4 (un4 fun (out_4 : List REdge) (at_5 : Int) (sum_6 : Int) (left_7 : Int) => ⟨[(0, I n0), (1, .b (.one (.sl 4 (l0.map eREdge)))), (2, I start0), (8, Pt 101 0), (10, .b (.row 105)), (11, I at_5), (12, I sum_6), (13, I left_7)], [(101, .box 91 [.nil, .bool false]), (105, .row 103 4 (out_4.map eREdge))]⟩) [0, 1, 2, 8, 10, 11, 12, 13] [101, 105] rfl ?_)))
   rintro ⟨out_4, at_5, sum_6, left_7⟩ o5 h6 hy7
   refine Tri.seq (Tri.seq (Tri.regionL ?_))
   refine Oc om (Oc (op_geq rfl rfl) ?_)
   refine OpsL.nilS ⟨[(0, _), (1, _), (2, _), (8, _), (10, _), (11, _), (12, _), (13, _), (30, B (decide (0 ≤ left_7)))], [(101, _), (105, _)]⟩ rfl (Tri.ite h6 rfl (fun _ h6 => ?_) (fun _ h6 => ?_))
   ·refine Tri.skip (Fin.keepS ⟨[(0, _), (1, _), (2, _), (8, _), (10, _), (11, _), (12, _), (13, _)], [(101, _), (105, _)]⟩ rfl (Fin.then ?_))
    obtain ⟨v8, h9, h6⟩ := bnd h6
    refine Tri.seqJ (v := v8) (un3 fun (out_9 : List REdge) (at_10 : Int) (sum_11 : Int) => ⟨[(0, I n0), (1, .b (.one (.sl 4 (l0.map eREdge)))), (2, I start0), (8, Pt 101 0), (10, .b (.row 105)), (11, I at_10), (12, I sum_11), (13, I left_7)], [(101, .box 91 [.nil, .bool false]), (105, .row 103 4 (out_9.map eREdge))]⟩) (fun z => z) ?_ ?_
    ·refine Tri.block (Tri.seq (Tri.regionL ?_))
     refine Oc om (Oc om (Oc om (Oc om ?_)))
     obtain ⟨x_12, e10, h9⟩ := bnd h9
     refine Oc (op_call (skewbackref39_rest_spec 106 e10) goes62 rfl trivial rfl rfl) (Oc oa ?_)
     refine OpsL.nilS ⟨[(0, _), (1, _), (2, _), (8, _), (9, .b (.row 106)), (10, _), (11, _), (12, _), (13, _)], [(101, _), (105, _), (106, .row 3 1 (x_12.map eI))]⟩ rfl (Tri.seq (Tri.regionL ?_))
     refine Oc oa (OpsL.nilS ⟨[(0, _), (1, _), (2, _), (8, _), (9, _), (10, _), (11, _), (12, _), (13, _), (14, I 0)], [(101, _), (105, _), (106, _)]⟩ rfl (Tri.block ?_))
     obtain ⟨v11, h12, h9⟩ := bnd h9
     refine Tri.loopJ h12 (fun (j_13 : Int) => ⟨[(0, I n0), (1, .b (.one (.sl 4 (l0.map eREdge)))), (2, I start0), (8, Pt 101 0), (9, .b (.row 106)), (10, .b (.row 105)), (11, I at_5), (12, I sum_6), (13, I left_7), (14, I j_13)], [(101, .box 91 [.nil, .bool false]), (105, .row 103 4 (out_4.map eREdge)), (106, .row 3 1 (x_12.map eI))]⟩) [0, 1, 2, 8, 9, 10, 11, 12, 13, 14] [101, 105, 106] rfl ?_
     rintro j_13 o13 h14 hy15
     refine Tri.seq (Tri.seq (Tri.regionL ?_))
     refine Oc om (Oc om (Oc (op_len_e' und76 rfl (List.length_map _)) (Oc (op_lss rfl rfl) ?_)))
     refine OpsL.nilS ⟨[(0, _), (1, _), (2, _), (8, _), (9, _), (10, _), (11, _), (12, _), (13, _), (14, _), (41, B (decide (j_13 < (l0.length : Int))))], [(101, _), (105, _), (106, _)]⟩ rfl (Tri.ite h14 rfl (fun _ h14 => ?_) (fun _ h14 => ?_))
     ·refine Tri.skip (Fin.keepS ⟨[(0, _), (1, _), (2, _), (8, _), (9, _), (10, _), (11, _), (12, _), (13, _), (14, _)], [(101, _), (105, _), (106, _)]⟩ rfl (Fin.then (Tri.seq (Tri.block (Tri.seq ?_)))))
      refine Tri.keepS ⟨[(0, _), (1, _), (2, _), (8, _), (9, _), (10, _), (11, _), (12, _), (13, _), (14, _)], [(101, _), (105, _), (106, _)]⟩ rfl ?_
      obtain ⟨x_17, e16, h14⟩ := bnd h14
      obtain ⟨x_18, e21, h14⟩ := bnd h14
      obtain ⟨x_19, e25, h14⟩ := bnd h14
      obtain ⟨x_20, e28, h14⟩ := bnd h14
      obtain ⟨x_21, e34, h14⟩ := bnd h14
      obtain ⟨x_22, e42, h14⟩ := bnd h14
      obtain ⟨x_23, e46, h14⟩ := bnd h14
      refine Tri.regionY mixed 38 [.b (.one (.sl 4 (l0.map eREdge))), I j_13, .b (.eptr (eREdge x_17)), .b (.eptr (eREdge x_17)), I x_17.From, I at_5, B (decide (x_17.From = at_5)), B (decide (x_17.From = at_5)), .opt (decide (x_17.From = at_5)) (.row 106), .opt (decide (x_17.From = at_5)) (.one (.sl 4 (l0.map eREdge))), .opt (decide (x_17.From = at_5)) (.one (.i j_13)), .opt (decide (x_17.From = at_5)) (.eptr (eREdge x_18)), .opt (decide (x_17.From = at_5)) (.eptr [.i x_18.To, .i x_18.Weight, .i x_18.Report]), .opt (decide (x_17.From = at_5)) (.one (.i x_18.To)), .opt (decide (x_17.From = at_5)) (.rptr 106 ((x_18.To : Int).toNat * 1)), .opt (decide (x_17.From = at_5)) (.one (.i x_19)), .opt (decide (x_17.From = at_5)) (.one (.i x_20)), .opt (decide (x_17.From = at_5)) (.one (.bool (decide (x_19 < x_20)))), B ((decide (x_17.From = at_5)) && (decide (x_19 < x_20))), B ((decide (x_17.From = at_5)) && (decide (x_19 < x_20))), .opt ((decide (x_17.From = at_5)) && (decide (x_19 < x_20))) (.one (.i sum_6)), .opt ((decide (x_17.From = at_5)) && (decide (x_19 < x_20))) (.one (.sl 4 (l0.map eREdge))), .opt ((decide (x_17.From = at_5)) && (decide (x_19 < x_20))) (.one (.i j_13)), .opt ((decide (x_17.From = at_5)) && (decide (x_19 < x_20))) (.eptr (eREdge x_21)), .opt ((decide (x_17.From = at_5)) && (decide (x_19 < x_20))) (.eptr [.i x_21.Weight, .i x_21.Report]), .opt ((decide (x_17.From = at_5)) && (decide (x_19 < x_20))) (.one (.i x_21.Weight)), .opt ((decide (x_17.From = at_5)) && (decide (x_19 < x_20))) (.one (.i (IntKind.i64.wrap (sum_6 + x_21.Weight)))), .opt ((decide (x_17.From = at_5)) && (decide (x_19 < x_20))) (.row 106), .opt ((decide (x_17.From = at_5)) && (decide (x_19 < x_20))) (.one (.sl 4 (l0.map eREdge))), .opt ((decide (x_17.From = at_5)) && (decide (x_19 < x_20))) (.one (.i j_13)), .opt ((decide (x_17.From = at_5)) && (decide (x_19 < x_20))) (.eptr (eREdge x_22)), .opt ((decide (x_17.From = at_5)) && (decide (x_19 < x_20))) (.eptr [.i x_22.To, .i x_22.Weight, .i x_22.Report]), .opt ((decide (x_17.From = at_5)) && (decide (x_19 < x_20))) (.one (.i x_22.To)), .opt ((decide (x_17.From = at_5)) && (decide (x_19 < x_20))) (.rptr 106 ((x_22.To : Int).toNat * 1)), .opt ((decide (x_17.From = at_5)) && (decide (x_19 < x_20))) (.one (.i x_23)), .opt ((decide (x_17.From = at_5)) && (decide (x_19 < x_20))) (.one (.i (IntKind.i64.wrap ((IntKind.i64.wrap (sum_6 + x_21.Weight)) + x_23)))), .opt ((decide (x_17.From = at_5)) && (decide (x_19 < x_20))) (.one (.bool (decide ((IntKind.i64.wrap ((IntKind.i64.wrap (sum_6 + x_21.Weight)) + x_23)) < 0)))), B (((decide (x_17.From = at_5)) && (decide (x_19 < x_20))) && (decide ((IntKind.i64.wrap ((IntKind.i64.wrap (sum_6 + x_21.Weight)) + x_23)) < 0)))] [0, 1, 2, 8, 9, 10, 11, 12, 13, 14, 81] [101, 105, 106] (s' := ⟨[(0, _), (1, _), (2, _), (8, _), (9, _), (10, _), (11, _), (12, _), (13, _), (14, _), (81, B (((decide (x_17.From = at_5)) && (decide (x_19 < x_20))) && (decide ((IntKind.i64.wrap ((IntKind.i64.wrap (sum_6 + x_21.Weight)) + x_23)) < 0))))], [(101, _), (105, _), (106, _)]⟩) rfl ⟨fun _ => .p om, fun _ => .p om, fun _ => .p (op_index_e tySl76 (ix_lo e16) (ix_map (e := eREdge) e16) rfl rfl), fun _ => by exact .p (op_field_e tyFld103_0 rfl rfl), fun _ => .p (op_load_e1 tyOne3 rfl rfl), fun _ => .p om, fun _ => .p (op_eql rfl rfl), fun _ => .p om, fun _ => by exact .guard (decide (x_17.From = at_5)) 1 [] (.plain rfl) (eq_t _) rfl rfl (fun g17 => trivial) (fun g17 => om), fun _ => by exact .guard (decide (x_17.From = at_5)) 1 [] (.plain rfl) (eq_t _) rfl rfl (fun g18 => trivial) (fun g18 => om), fun _ => by exact .guard (decide (x_17.From = at_5)) 1 [] (.plain rfl) (eq_t _) rfl rfl (fun g19 => trivial) (fun g19 => om), fun _ => by exact .guard (decide (x_17.From = at_5)) 3 [53, 54] (.plain rfl) (eq_t _) rfl rfl (fun g20 => ⟨g20, g20, trivial⟩) (fun g20 => op_index_e tySl76 (ix_lo (gc e21 g20)) (ix_map (e := eREdge) (gc e21 g20)) rfl rfl), fun _ => by exact .guard (decide (x_17.From = at_5)) 2 [55] (.plain rfl) (eq_t _) rfl rfl (fun g22 => ⟨g22, trivial⟩) (fun g22 => op_field_e tyFld103_1 rfl rfl), fun _ => by exact .guard (decide (x_17.From = at_5)) 2 [56] (.plain rfl) (eq_t _) rfl rfl (fun g23 => ⟨g23, trivial⟩) (fun g23 => op_load_e1 tyOne3 rfl rfl), fun _ => by exact .guard (decide (x_17.From = at_5)) 3 [52, 57] (.plain rfl) (eq_t _) rfl rfl (fun g24 => ⟨g24, g24, trivial⟩) (fun g24 => op_index_r tySl37 (ix_lo (gc e25 g24)) (ix_lt' (gc e25 g24)) rfl rfl rfl rfl), fun _ => by exact .guard (decide (x_17.From = at_5)) 2 [58] (.plain rfl) (eq_t _) rfl rfl (fun g26 => ⟨g26, trivial⟩) (fun g26 => op_load_r1 (i := (x_18.To : Int).toNat) (f := 0) tyOne3 rfl rfl rfl (ix_map (e := eI) (gc e25 g26)) rfl), fun _ => by exact .guard (decide (x_17.From = at_5)) 2 [] (.plain rfl) (eq_t _) rfl rfl (fun g27 => trivial) (fun g27 => op_call0 (skewbackref39_none_spec (gc e28 g27)) goes40 rfl rfl), fun _ => by exact .guard (decide (x_17.From = at_5)) 3 [59, 60] (.plain rfl) (eq_t _) rfl rfl (fun g29 => ⟨g29, g29, trivial⟩) (fun g29 => op_lss rfl rfl), fun _ => .p (op_pick_and (fun e => e) rfl rfl rfl rfl), fun _ => .p om, fun _ => by exact .guard ((decide (x_17.From = at_5)) && (decide (x_19 < x_20))) 1 [] (.plain rfl) (eq_t _) rfl rfl (fun g30 => trivial) (fun g30 => om), fun _ => by exact .guard ((decide (x_17.From = at_5)) && (decide (x_19 < x_20))) 1 [] (.plain rfl) (eq_t _) rfl rfl (fun g31 => trivial) (fun g31 => om), fun _ => by exact .guard ((decide (x_17.From = at_5)) && (decide (x_19 < x_20))) 1 [] (.plain rfl) (eq_t _) rfl rfl (fun g32 => trivial) (fun g32 => om), fun _ => by exact .guard ((decide (x_17.From = at_5)) && (decide (x_19 < x_20))) 3 [65, 66] (.plain rfl) (eq_t _) rfl rfl (fun g33 => ⟨g33, g33, trivial⟩) (fun g33 => op_index_e tySl76 (ix_lo (gc e34 g33)) (ix_map (e := eREdge) (gc e34 g33)) rfl rfl), fun _ => by exact .guard ((decide (x_17.From = at_5)) && (decide (x_19 < x_20))) 2 [67] (.plain rfl) (eq_t _) rfl rfl (fun g35 => ⟨g35, trivial⟩) (fun g35 => op_field_e tyFld103_2 rfl rfl), fun _ => by exact .guard ((decide (x_17.From = at_5)) && (decide (x_19 < x_20))) 2 [68] (.plain rfl) (eq_t _) rfl rfl (fun g36 => ⟨g36, trivial⟩) (fun g36 => op_load_e1 tyOne3 rfl rfl), fun _ => by exact .guard ((decide (x_17.From = at_5)) && (decide (x_19 < x_20))) 3 [64, 69] (.plain rfl) (eq_t _) rfl rfl (fun g37 => ⟨g37, g37, trivial⟩) (fun g37 => op_add rfl rfl), fun _ => by exact .guard ((decide (x_17.From = at_5)) && (decide (x_19 < x_20))) 1 [] (.plain rfl) (eq_t _) rfl rfl (fun g38 => trivial) (fun g38 => om), fun _ => by exact .guard ((decide (x_17.From = at_5)) && (decide (x_19 < x_20))) 1 [] (.plain rfl) (eq_t _) rfl rfl (fun g39 => trivial) (fun g39 => om), fun _ => by exact .guard ((decide (x_17.From = at_5)) && (decide (x_19 < x_20))) 1 [] (.plain rfl) (eq_t _) rfl rfl (fun g40 => trivial) (fun g40 => om), fun _ => by exact .guard ((decide (x_17.From = at_5)) && (decide (x_19 < x_20))) 3 [72, 73] (.plain rfl) (eq_t _) rfl rfl (fun g41 => ⟨g41, g41, trivial⟩) (fun g41 => op_index_e tySl76 (ix_lo (gc e42 g41)) (ix_map (e := eREdge) (gc e42 g41)) rfl rfl), fun _ => by exact .guard ((decide (x_17.From = at_5)) && (decide (x_19 < x_20))) 2 [74] (.plain rfl) (eq_t _) rfl rfl (fun g43 => ⟨g43, trivial⟩) (fun g43 => op_field_e tyFld103_1 rfl rfl), fun _ => by exact .guard ((decide (x_17.From = at_5)) && (decide (x_19 < x_20))) 2 [75] (.plain rfl) (eq_t _) rfl rfl (fun g44 => ⟨g44, trivial⟩) (fun g44 => op_load_e1 tyOne3 rfl rfl), fun _ => by exact .guard ((decide (x_17.From = at_5)) && (decide (x_19 < x_20))) 3 [71, 76] (.plain rfl) (eq_t _) rfl rfl (fun g45 => ⟨g45, g45, trivial⟩) (fun g45 => op_index_r tySl37 (ix_lo (gc e46 g45)) (ix_lt' (gc e46 g45)) rfl rfl rfl rfl), fun _ => by exact .guard ((decide (x_17.From = at_5)) && (decide (x_19 < x_20))) 2 [77] (.plain rfl) (eq_t _) rfl rfl (fun g47 => ⟨g47, trivial⟩) (fun g47 => op_load_r1 (i := (x_22.To : Int).toNat) (f := 0) tyOne3 rfl rfl rfl (ix_map (e := eI) (gc e46 g47)) rfl), fun _ => by exact .guard ((decide (x_17.From = at_5)) && (decide (x_19 < x_20))) 3 [70, 78] (.plain rfl) (eq_t _) rfl rfl (fun g48 => ⟨g48, g48, trivial⟩) (fun g48 => op_add rfl rfl), fun _ => by exact .guard ((decide (x_17.From = at_5)) && (decide (x_19 < x_20))) 2 [79] (.plain rfl) (eq_t _) rfl rfl (fun g49 => ⟨g49, trivial⟩) (fun g49 => op_lss rfl rfl), fun _ => .p (op_pick_and (fun e => e) rfl rfl rfl rfl), trivial⟩ rfl rfl ?_
      refine Tri.ite h14 rfl (fun _ h14 => ?_) (fun _ h14 => ?_)
      ·refine Tri.seq (Tri.regionL ?_)
       refine Oc om (Oc om (Oc om ?_))
       obtain ⟨x_24, e50, h14⟩ := bnd h14
       refine Oc (op_index_e tySl76 (ix_lo e50) (ix_map (e := eREdge) e50) rfl rfl) (Oc (op_load_e tyAgg103 rfl rfl rfl) (Oc (op_buildSlice (k := 107) (es := [x_24].map eREdge) tySl76 rfl rfl (uni_map fun _ => rfl) rfl (by decide) (by decide) rfl) ?_))
       obtain ⟨x_25, e51, h14⟩ := bnd h14
       refine Oc (op_append_r tySl76 (app_b e51) (app_m e51) rfl rfl rfl rfl (app_map e51) rfl) (Oc oa ?_)
       refine OpsL.nilS ⟨[(0, _), (1, _), (2, _), (8, _), (10, _), (12, _), (13, _), (14, _)], [(101, _), (105, .row 103 4 (x_25.map eREdge))]⟩ rfl (Tri.seq (Tri.regionL ?_))
       refine Oc om (Oc om (Oc om ?_))
       obtain ⟨x_26, e52, h14⟩ := bnd h14
       refine Oc (op_index_e tySl76 (ix_lo e52) (ix_map (e := eREdge) e52) rfl rfl) (Oc (op_field_e tyFld103_2 rfl rfl) (Oc (op_load_e1 tyOne3 rfl rfl) ?_))
       refine OpsL.consI .i64 h14 rfl (op_add rfl rfl) (fun x_27 h14 => ?_)
       refine Oc oa (OpsL.nilS ⟨[(0, _), (1, _), (2, _), (8, _), (10, _), (12, I x_27), (13, _), (14, _)], [(101, _), (105, _)]⟩ rfl (Tri.seq (Tri.regionL ?_)))
       refine Oc om (Oc om ?_)
       obtain ⟨x_28, e53, h14⟩ := bnd h14
       refine Oc (op_index_e tySl76 (ix_lo e53) (ix_map (e := eREdge) e53) rfl rfl) (Oc (op_field_e tyFld103_1 rfl rfl) (Oc (op_load_e1 tyOne3 rfl rfl) (Oc oa ?_)))
       refine OpsL.nilS ⟨[(0, _), (1, _), (2, _), (8, _), (10, _), (11, I x_28.To), (12, _), (13, _)], [(101, _), (105, _)]⟩ rfl (Tri.exit (Fin.block_exit_other (by decide) (Fin.then_exit ?_)))
       obtain rfl := hy15 _ (Option.some.inj h14).symm
       refine Fin.then_exit (Fin.block_exit (Fin.block_normal ?_))
       exact Fin.join [0, 1, 2, 8, 10, 11, 12, 13] [101, 105] (x_25, x_28.To, x_27) (Option.some.inj h9) rfl
      ·refine Tri.skip (Fin.block_normal (Fin.keepS ⟨[(0, _), (1, _), (2, _), (8, _), (9, _), (10, _), (11, _), (12, _), (13, _), (14, _)], [(101, _), (105, _), (106, _)]⟩ rfl (Fin.then (Tri.regionL ?_))))
       refine Oc om (Oc (op_add rfl rfl) (Oc oa ?_))
       refine OpsL.nil ?_
       exact Fin.againJ [0, 1, 2, 8, 9, 10, 11, 12, 13, 14] [101, 105, 106] (IntKind.i64.wrap (j_13 + 1)) (Option.some.inj h14) rfl
     ·refine Tri.exit (Fin.then_exit ?_)
      obtain rfl := hy15 _ (Option.some.inj h14).symm
      refine Fin.then_exit (Fin.block_exit (Fin.block_normal ?_))
      exact Fin.join [0, 1, 2, 8, 10, 11, 12, 13] [101, 105] (out_4, at_5, sum_6) (Option.some.inj h9) rfl
    ·rintro ⟨out_9, at_10, sum_11⟩ hv
     subst v8
     refine Tri.regionL (Oc om (Oc (op_sub rfl rfl) (Oc oa ?_)))
     refine OpsL.nil ?_
     exact Fin.againJ [0, 1, 2, 8, 10, 11, 12, 13] [101, 105] (out_9, at_10, sum_11, IntKind.i64.wrap (left_7 - 1)) (Option.some.inj h6) rfl
   ·refine Tri.exit (Fin.then_exit ?_)
    obtain rfl := hy7 _ (Option.some.inj h6).symm
    refine Fin.then_exit (Fin.block_exit ?_)
    exact Fin.join [8, 10] [101, 105] out_4 rfl rfl
  ·rintro out_3 hv
   subst v3
   refine Tri.seq (Tri.regionL ?_)
   refine Oc om (OpsL.persist 105 rfl (Oc (op_build tyBuild91 rfl rfl) (Oc (op_store_p tyAgg91 rfl rfl rfl rfl (Nat.le_of_ble_eq_true rfl) rfl) ?_)))
   refine OpsL.nilS ⟨[(8, Pt 101 0)], [(101, .box 91 [.sl 4 (out_3.map eREdge), .bool true])]⟩ rfl (Tri.ret ?_)
   obtain rfl := Option.some.inj h
   refine Fin.keepS ⟨[(8, _)], [(101, _)]⟩ rfl (Fin.result' [.agg [.sl 4 (out_3.map eREdge), .bool true]] (.inl rfl) rfl (.cons (.agg tyAgg91 rfl rfl rfl rfl) .nil) ⟨rfl, rfl⟩)
def skewbackref39_places_S (F : Nat) (l0 : List REdge) : Option (List Int) :=
 Option.bind (iter F (un2 fun out_2 place_3 => if (decide (place_3 < 200)) = true then (Option.bind (Option.bind (iter F (un2 fun there_7 i_8 => if (decide (i_8 < (l0.length : Int))) = true then ((gcall (!there_7) (idx? l0 i_8)).bind fun x_10 => some (.inl (there_7 || (decide (x_10.Report = place_3)), IntKind.i64.wrap (i_8 + 1)))) else (some (.inr there_7))) (false, 0)) (fun there_6 => if there_6 = true then ((app? out_2 [place_3]).bind fun x_11 => some x_11) else (some out_2))) (fun out_5 => some (.inl (out_5, IntKind.i64.wrap (place_3 + 1))))) else (some (.inr out_2))) ([], 0)) (fun out_1 => some out_1)
theorem skewbackref39_places_spec (kr0 : Nat) {F : Nat} {l0 : List REdge} {r : (List Int)} (h : skewbackref39_places_S F l0 = some r) : Meets Try.prog [] 46 [] [.one (.sl 4 (l0.map eREdge))] (Is [(kr0, .row 3 1 (r.map eI))] (.b (.row kr0))) := by
 unfold skewbackref39_places_S at h
 refine Meets.intro 33 Try.func46 Try.ntmps46 rfl (by simp) fun E => ?_
 show Tri _ E ⟨33, [], [], []⟩ _ ⟨[(0, .b (.one (.sl 4 (l0.map eREdge))))], []⟩ _
 refine Tri.seq (Tri.regionL ?_)
 refine Oc oa (OpsL.nilS ⟨[(0, .b (.one (.sl 4 (l0.map eREdge))))], []⟩ rfl (Tri.seq (Tri.regionL ?_)))
 refine Oc oa (OpsL.nilS ⟨[(0, _), (3, .b (.one (.nil)))], []⟩ rfl ?_)
 obtain ⟨v1, h2, h⟩ := bnd h
 refine Tri.seqJ (v := v1) (fun (out_1 : List Int) => ⟨[(3, .b (.row 102))], [(102, .row 3 1 (out_1.map eI))]⟩) (fun z => z) ?_ ?_
 ·refine Tri.seq (Tri.regionL ?_)
  refine Oc oa (OpsL.nilS ⟨[(0, _), (3, _), (4, I 0)], []⟩ rfl (Tri.block (Tri.nilrow 3 102 1 3 rfl (by decide) rfl (Tri.loopJ h2 (un2 fun (out_2 : List Int) (place_3 : Int) => ⟨[(0, .b (.one (.sl 4 (l0.map eREdge)))), (3, .b (.row 102)), (4, I place_3)], [(102, .row 3 1 (out_2.map eI))]⟩) [0, 3, 4] [102] rfl ?_))))
  rintro ⟨out_2, place_3⟩ o3 h4 hy5
  refine Tri.seq (Tri.seq (Tri.regionL ?_))
  refine Oc om (Oc (op_lss rfl rfl) ?_)
  refine OpsL.nilS ⟨[(0, _), (3, _), (4, _), (8, B (decide (place_3 < 200)))], [(102, _)]⟩ rfl (Tri.ite h4 rfl (fun _ h4 => ?_) (fun _ h4 => ?_))
  ·refine Tri.skip (Fin.keepS ⟨[(0, _), (3, _), (4, _)], [(102, _)]⟩ rfl (Fin.then ?_))
   obtain ⟨v6, h7, h4⟩ := bnd h4
   refine Tri.seqJ (v := v6) (fun (out_5 : List Int) => ⟨[(0, .b (.one (.sl 4 (l0.map eREdge)))), (3, .b (.row 102)), (4, I place_3)], [(102, .row 3 1 (out_5.map eI))]⟩) (fun z => z) ?_ ?_
   ·refine Tri.block (Tri.seq (Tri.regionL ?_))
    refine Oc oa (OpsL.nilS ⟨[(0, _), (3, _), (4, _), (5, B false)], [(102, _)]⟩ rfl ?_)
    obtain ⟨v8, h9, h7⟩ := bnd h7
    refine Tri.seqJ (v := v8) (fun (there_6 : Bool) => ⟨[(0, .b (.one (.sl 4 (l0.map eREdge)))), (3, .b (.row 102)), (4, I place_3), (5, B there_6)], [(102, .row 3 1 (out_2.map eI))]⟩) (fun z => z) ?_ ?_
    ·refine Tri.seq (Tri.regionL ?_)
     refine Oc oa (OpsL.nilS ⟨[(0, _), (3, _), (4, _), (5, _), (6, I 0)], [(102, _)]⟩ rfl (Tri.block (Tri.loopJ h9 (un2 fun (there_7 : Bool) (i_8 : Int) => ⟨[(0, .b (.one (.sl 4 (l0.map eREdge)))), (3, .b (.row 102)), (4, I place_3), (5, B there_7), (6, I i_8)], [(102, .row 3 1 (out_2.map eI))]⟩) [0, 3, 4, 5, 6] [102] rfl ?_)))
     rintro ⟨there_7, i_8⟩ o10 h11 hy12
     refine Tri.seq (Tri.seq (Tri.regionL ?_))
     refine Oc om (Oc om (Oc (op_len_e' und76 rfl (List.length_map _)) (Oc (op_lss rfl rfl) ?_)))
     refine OpsL.nilS ⟨[(0, _), (3, _), (4, _), (5, _), (6, _), (14, B (decide (i_8 < (l0.length : Int))))], [(102, _)]⟩ rfl (Tri.ite h11 rfl (fun _ h11 => ?_) (fun _ h11 => ?_))
     ·refine Tri.skip (Fin.keepS ⟨[(0, _), (3, _), (4, _), (5, _), (6, _)], [(102, _)]⟩ rfl (Fin.then (Tri.seq (Tri.block (Tri.regionL ?_)))))
      refine Oc om (Oc om ?_)
      refine CgF (!there_7) [] (fun g13 => trivial) (fun g13 => om) (CgF (!there_7) [] (fun g14 => by exact trivial) (fun g14 => om) ?_)
      obtain ⟨x_10, e16, h11⟩ := bnd h11
      refine CgF (!there_7) [19, 20] (fun g15 => ⟨g15, g15, trivial⟩) (fun g15 => op_index_e tySl76 (ix_lo (gc e16 g15)) (ix_map (e := eREdge) (gc e16 g15)) rfl rfl) (CgF (!there_7) [21] (fun g17 => ⟨g17, trivial⟩) (fun g17 => op_field_e tyFld103_3 rfl rfl) (CgF (!there_7) [22] (fun g18 => ⟨g18, trivial⟩) (fun g18 => op_load_e1 tyOne3 rfl rfl) (OpsL.keepS ⟨[(0, _), (3, _), (4, _), (5, _), (6, _), (18, B there_7), (23, .opt (!there_7) (.one (.i x_10.Report)))], [(102, _)]⟩ rfl (CgF (!there_7) [] (fun g19 => trivial) (fun g19 => om) (CgF (!there_7) [23, 24] (fun g20 => by exact ⟨g20, g20, trivial⟩) (fun g20 => op_eql rfl rfl) ?_)))))
      refine Oc (op_pick_or (fun e => by rw [e]; rfl) rfl rfl rfl rfl) (Oc oa ?_)
      refine OpsL.nil (Fin.block_normal (Fin.keepS ⟨[(0, _), (3, _), (4, _), (5, B (there_7 || (decide (x_10.Report = place_3)))), (6, _)], [(102, _)]⟩ rfl (Fin.then (Tri.regionL ?_))))
      refine Oc om (Oc (op_add rfl rfl) (Oc oa ?_))
      refine OpsL.nil ?_
      exact Fin.againJ [0, 3, 4, 5, 6] [102] (there_7 || (decide (x_10.Report = place_3)), IntKind.i64.wrap (i_8 + 1)) (Option.some.inj h11) rfl
     ·refine Tri.exit (Fin.then_exit ?_)
      obtain rfl := hy12 _ (Option.some.inj h11).symm
      refine Fin.then_exit (Fin.block_exit ?_)
      exact Fin.join [0, 3, 4, 5] [102] there_7 rfl rfl
    ·rintro there_6 hv
     subst v8
     refine Tri.seq (Tri.regionL ?_)
     refine Oc om (OpsL.nilS ⟨[(0, _), (3, _), (4, _), (27, B there_6)], [(102, _)]⟩ rfl (Tri.ite h7 rfl (fun _ h7 => ?_) (fun _ h7 => ?_)))
     ·refine Tri.regionL (Oc om (Oc om (Oc (op_buildSlice (k := 103) (es := [place_3].map eI) tySl37 rfl rfl (uni_map fun _ => rfl) rfl (by decide) (by decide) rfl) ?_)))
      obtain ⟨x_11, e21, h7⟩ := bnd h7
      refine Oc (op_append_r tySl37 (app_b e21) (app_m e21) rfl rfl rfl rfl (app_map e21) rfl) (Oc oa ?_)
      refine OpsL.nil (Fin.block_normal ?_)
      exact Fin.join [0, 3, 4] [102] x_11 (Option.some.inj h7) rfl
     ·refine Tri.skip (Fin.block_normal ?_)
      exact Fin.join [0, 3, 4] [102] out_2 (Option.some.inj h7) rfl
   ·rintro out_5 hv
    subst v6
    refine Tri.regionL (Oc om (Oc (op_add rfl rfl) (Oc oa ?_)))
    refine OpsL.nil ?_
    exact Fin.againJ [0, 3, 4] [102] (out_5, IntKind.i64.wrap (place_3 + 1)) (Option.some.inj h4) rfl
  ·refine Tri.exit (Fin.then_exit ?_)
   obtain rfl := hy5 _ (Option.some.inj h4).symm
   refine Fin.then_exit (Fin.block_exit ?_)
   exact Fin.join [3] [102] out_2 rfl rfl
 ·rintro out_1 hv
  subst v1
  refine Tri.seq (Tri.regionL ?_)
  refine Oc om (Oc oa ?_)
  refine OpsL.nilS ⟨[(2, .b (.row 102))], [(102, _)]⟩ rfl (Tri.ret ?_)
  obtain rfl := Option.some.inj h
  refine Fin.keepS ⟨[(2, _)], [(102, _)]⟩ rfl (Fin.resultK 102 kr0 [.row 102] (.inl rfl) rfl (.cons (.tmp rfl) .nil) rfl rfl rfl rfl ⟨rfl, rfl⟩)
def skewbackref39_Contradiction_S (F : Nat) (l0 : List Report) (now0 : Int) : Option PSet :=
 Option.bind (iter F (fun i_1 => if (decide (i_1 < (l0.length : Int))) = true then ((idx? l0 i_1).bind fun x_2 => (gcall (decide (x_2.Time ≤ now0)) (idx? l0 i_1)).bind fun x_3 => (gcall (decide (x_2.Time ≤ now0)) (idx? l0 i_1)).bind fun x_4 => if ((decide (x_2.Time ≤ now0)) && (decide (x_4.Hi < x_3.Lo))) = true then ((idx? l0 i_1).bind fun x_5 => some (.inr (.inr (⟨[i_1], x_5.Axis⟩ : PSet)))) else (some (.inl (IntKind.i64.wrap (i_1 + 1))))) else (some (.inr (.inl ())))) 0) (alt2 (fun _ => (skewbackref39_Consistent_S F l0 now0).bind fun x_6 => if x_6 = true then (some (⟨[], (-1)⟩ : PSet)) else ((skewbackref39_Things_S F l0).bind fun x_7 => Option.bind (iter F (fun edges_8 => if (decide (edges_8 ≤ (IntKind.i64.wrap (x_7 + 1)))) = true then (Option.bind (Option.bind (iter F (fun axis_9 => if (decide (axis_9 < 3)) = true then (Option.bind ((skewbackref39_Edges_S F l0 now0 axis_9).bind fun x_10 => Option.bind (iter F (un2 fun e_11 start_12 => if (decide (start_12 ≤ x_7)) = true then ((skewbackref39_first_S F x_7 e_11 start_12 edges_8).bind fun x_13 => if x_13.Is = true then ((skewbackref39_places_S F x_13.L).bind fun x_14 => some (.inr (.inr (⟨x_14, axis_9⟩ : PSet)))) else (some (.inl (e_11, IntKind.i64.wrap (start_12 + 1))))) else (some (.inr (.inl ())))) (x_10, 0)) (alt2 (fun _ => some (.inl ())) (fun y => some (.inr y)))) (alt2 (fun _ => some (.inl (IntKind.i64.wrap (axis_9 + 1)))) (fun y => some (.inr (.inr y))))) else (some (.inr (.inl ())))) 0) (alt2 (fun _ => some (.inl ())) (fun y => some (.inr y)))) (alt2 (fun _ => some (.inl (IntKind.i64.wrap (edges_8 + 1)))) (fun y => some (.inr (.inr y))))) else (some (.inr (.inl ())))) 2) (alt2 (fun _ => some (⟨[], (-1)⟩ : PSet)) (fun y => some y)))) (fun y => some y))
theorem skewbackref39_Contradiction_spec {F : Nat} {l0 : List Report} {now0 : Int} {r : PSet} (h : skewbackref39_Contradiction_S F l0 now0 = some r) : Meets Try.prog [] 13 [] [.one (.sl 6 (l0.map eReport)), .one (.i now0)] (Is [] (.b (.agg (ePSet r)))) := by
 unfold skewbackref39_Contradiction_S at h
 refine Meets.intro 86 Try.func13 Try.ntmps13 rfl (by simp) fun E => ?_
 show Tri _ E ⟨86, [], [], []⟩ _ ⟨[(0, .b (.one (.sl 6 (l0.map eReport)))), (1, I now0)], []⟩ _
 refine Tri.seq (Tri.regionL ?_)
 refine Oc (op_alloc (k := 101) tyZero41 rfl) (OpsL.nilS ⟨[(0, .b (.one (.sl 6 (l0.map eReport)))), (1, I now0), (4, Pt 101 0)], [(101, .box 41 [.nil, .i 0])]⟩ rfl ?_)
 obtain ⟨v1, h2, h⟩ := bnd h
 refine Tri.seqJ (v := v1) (fun (_ : Unit) => ⟨[(0, .b (.one (.sl 6 (l0.map eReport)))), (1, I now0), (4, Pt 101 0)], [(101, .box 41 [.nil, .i 0])]⟩) (fun z => .inl z) ?_ ?_
 ·refine Tri.seq (Tri.regionL ?_)
  refine Oc oa (OpsL.nilS ⟨[(0, _), (1, _), (4, _), (5, I 0)], [(101, _)]⟩ rfl (Tri.block (Tri.loopJ h2 (fun (i_1 : Int) => ⟨[(0, .b (.one (.sl 6 (l0.map eReport)))), (1, I now0), (4, Pt 101 0), (5, I i_1)], [(101, .box 41 [.nil, .i 0])]⟩) [0, 1, 4, 5] [101] rfl ?_)))
  rintro i_1 o3 h4 hy5
  refine Tri.seq (Tri.seq (Tri.regionL ?_))
  refine Oc om (Oc om (Oc (op_len_e' und22 rfl (List.length_map _)) (Oc (op_lss rfl rfl) ?_)))
  refine OpsL.nilS ⟨[(0, _), (1, _), (4, _), (5, _), (16, B (decide (i_1 < (l0.length : Int))))], [(101, _)]⟩ rfl (Tri.ite h4 rfl (fun _ h4 => ?_) (fun _ h4 => ?_))
  ·refine Tri.skip (Fin.keepS ⟨[(0, _), (1, _), (4, _), (5, _)], [(101, _)]⟩ rfl (Fin.then (Tri.seq (Tri.block (Tri.seq ?_)))))
   refine Tri.keepS ⟨[(0, _), (1, _), (4, _), (5, _)], [(101, _)]⟩ rfl ?_
   obtain ⟨x_2, e6, h4⟩ := bnd h4
   obtain ⟨x_3, e10, h4⟩ := bnd h4
   obtain ⟨x_4, e16, h4⟩ := bnd h4
   refine Tri.regionY mixed 20 [.b (.one (.sl 6 (l0.map eReport))), I i_1, .b (.eptr (eReport x_2)), .b (.eptr [.i x_2.Time]), I x_2.Time, I now0, B (decide (x_2.Time ≤ now0)), B (decide (x_2.Time ≤ now0)), .opt (decide (x_2.Time ≤ now0)) (.one (.sl 6 (l0.map eReport))), .opt (decide (x_2.Time ≤ now0)) (.one (.i i_1)), .opt (decide (x_2.Time ≤ now0)) (.eptr (eReport x_3)), .opt (decide (x_2.Time ≤ now0)) (.eptr [.i x_3.Lo, .i x_3.Hi, .i x_3.Time]), .opt (decide (x_2.Time ≤ now0)) (.one (.i x_3.Lo)), .opt (decide (x_2.Time ≤ now0)) (.one (.sl 6 (l0.map eReport))), .opt (decide (x_2.Time ≤ now0)) (.one (.i i_1)), .opt (decide (x_2.Time ≤ now0)) (.eptr (eReport x_4)), .opt (decide (x_2.Time ≤ now0)) (.eptr [.i x_4.Hi, .i x_4.Time]), .opt (decide (x_2.Time ≤ now0)) (.one (.i x_4.Hi)), .opt (decide (x_2.Time ≤ now0)) (.one (.bool (decide (x_4.Hi < x_3.Lo)))), B ((decide (x_2.Time ≤ now0)) && (decide (x_4.Hi < x_3.Lo)))] [0, 1, 4, 5, 38] [101] (s' := ⟨[(0, _), (1, _), (4, _), (5, _), (38, B ((decide (x_2.Time ≤ now0)) && (decide (x_4.Hi < x_3.Lo))))], [(101, _)]⟩) rfl ⟨fun _ => .p om, fun _ => .p om, fun _ => .p (op_index_e tySl22 (ix_lo e6) (ix_map (e := eReport) e6) rfl rfl), fun _ => by exact .p (op_field_e tyFld24_5 rfl rfl), fun _ => .p (op_load_e1 tyOne3 rfl rfl), fun _ => .p om, fun _ => .p (op_leq rfl rfl), fun _ => .p om, fun _ => by exact .guard (decide (x_2.Time ≤ now0)) 1 [] (.plain rfl) (eq_t _) rfl rfl (fun g7 => trivial) (fun g7 => om), fun _ => by exact .guard (decide (x_2.Time ≤ now0)) 1 [] (.plain rfl) (eq_t _) rfl rfl (fun g8 => trivial) (fun g8 => om), fun _ => by exact .guard (decide (x_2.Time ≤ now0)) 3 [27, 28] (.plain rfl) (eq_t _) rfl rfl (fun g9 => ⟨g9, g9, trivial⟩) (fun g9 => op_index_e tySl22 (ix_lo (gc e10 g9)) (ix_map (e := eReport) (gc e10 g9)) rfl rfl), fun _ => by exact .guard (decide (x_2.Time ≤ now0)) 2 [29] (.plain rfl) (eq_t _) rfl rfl (fun g11 => ⟨g11, trivial⟩) (fun g11 => op_field_e tyFld24_3 rfl rfl), fun _ => by exact .guard (decide (x_2.Time ≤ now0)) 2 [30] (.plain rfl) (eq_t _) rfl rfl (fun g12 => ⟨g12, trivial⟩) (fun g12 => op_load_e1 tyOne3 rfl rfl), fun _ => by exact .guard (decide (x_2.Time ≤ now0)) 1 [] (.plain rfl) (eq_t _) rfl rfl (fun g13 => trivial) (fun g13 => om), fun _ => by exact .guard (decide (x_2.Time ≤ now0)) 1 [] (.plain rfl) (eq_t _) rfl rfl (fun g14 => trivial) (fun g14 => om), fun _ => by exact .guard (decide (x_2.Time ≤ now0)) 3 [32, 33] (.plain rfl) (eq_t _) rfl rfl (fun g15 => ⟨g15, g15, trivial⟩) (fun g15 => op_index_e tySl22 (ix_lo (gc e16 g15)) (ix_map (e := eReport) (gc e16 g15)) rfl rfl), fun _ => by exact .guard (decide (x_2.Time ≤ now0)) 2 [34] (.plain rfl) (eq_t _) rfl rfl (fun g17 => ⟨g17, trivial⟩) (fun g17 => op_field_e tyFld24_4 rfl rfl), fun _ => by exact .guard (decide (x_2.Time ≤ now0)) 2 [35] (.plain rfl) (eq_t _) rfl rfl (fun g18 => ⟨g18, trivial⟩) (fun g18 => op_load_e1 tyOne3 rfl rfl), fun _ => by exact .guard (decide (x_2.Time ≤ now0)) 3 [31, 36] (.plain rfl) (eq_t _) rfl rfl (fun g19 => ⟨g19, g19, trivial⟩) (fun g19 => op_gtr rfl rfl), fun _ => .p (op_pick_and (fun e => e) rfl rfl rfl rfl), trivial⟩ rfl rfl ?_
   refine Tri.ite h4 rfl (fun _ h4 => ?_) (fun _ h4 => ?_)
   ·refine Tri.seq (Tri.regionL ?_)
    refine Oc om (Oc (op_buildSlice (k := 102) (es := [i_1].map eI) tySl37 rfl rfl (uni_map fun _ => rfl) rfl (by decide) (by decide) rfl) (Oc om (Oc om ?_)))
    obtain ⟨x_5, e20, h4⟩ := bnd h4
    refine Oc (op_index_e tySl22 (ix_lo e20) (ix_map (e := eReport) e20) rfl rfl) (Oc (op_field_e tyFld24_2 rfl rfl) ?_)
    refine OpsL.keepS ⟨[(4, Pt 101 0), (40, .b (.row 102)), (44, .b (.eptr [.i x_5.Axis, .i x_5.Lo, .i x_5.Hi, .i x_5.Time]))], [(101, .box 41 [.nil, .i 0]), (102, .row 3 1 ([i_1].map eI))]⟩ rfl (Oc (op_load_e1 tyOne3 rfl rfl) (OpsL.persist 102 rfl (Oc (op_build tyBuild41 rfl rfl) (Oc (op_store_p tyAgg41 rfl rfl rfl rfl (Nat.le_of_ble_eq_true rfl) rfl) ?_))))
    refine OpsL.nilS ⟨[(4, _)], [(101, .box 41 [.sl 1 ([i_1].map eI), .i x_5.Axis])]⟩ rfl (Tri.ret (Fin.block_ret (Fin.then_ret ?_)))
    obtain rfl := hy5 _ (Option.some.inj h4).symm
    refine Fin.then_ret (Fin.block_ret (Fin.then_ret ?_))
    obtain rfl := Option.some.inj h
    refine Fin.keepS ⟨[(4, _)], [(101, _)]⟩ rfl (Fin.result' [.agg [.sl 1 ([i_1].map eI), .i x_5.Axis]] (.inl rfl) rfl (.cons (.agg tyAgg41 rfl rfl rfl rfl) .nil) ⟨rfl, rfl⟩)
   ·refine Tri.skip (Fin.block_normal (Fin.keepS ⟨[(0, _), (1, _), (4, _), (5, _)], [(101, _)]⟩ rfl (Fin.then (Tri.regionL ?_))))
    refine Oc om (Oc (op_add rfl rfl) (Oc oa ?_))
    refine OpsL.nil ?_
    exact Fin.againJ [0, 1, 4, 5] [101] (IntKind.i64.wrap (i_1 + 1)) (Option.some.inj h4) rfl
  ·refine Tri.exit (Fin.then_exit ?_)
   obtain rfl := hy5 _ (Option.some.inj h4).symm
   refine Fin.then_exit (Fin.block_exit ?_)
   exact Fin.join [0, 1, 4] [101] () rfl rfl
 ·rintro _ hv
  subst v1
  refine Tri.seq (Tri.regionL ?_)
  refine Oc om (Oc om ?_)
  obtain ⟨x_6, e21, h⟩ := bnd h
  refine Oc (op_call0 (skewbackref39_Consistent_spec e21) goes28 rfl rfl) (Oc oa ?_)
  refine OpsL.nilS ⟨[(0, _), (1, _), (4, _), (6, B x_6)], [(101, _)]⟩ rfl (Tri.seq (Tri.seq (Tri.regionL ?_)))
  refine Oc om (OpsL.nilS ⟨[(0, _), (1, _), (4, _), (50, B x_6)], [(101, _)]⟩ rfl (Tri.ite h rfl (fun _ h => ?_) (fun _ h => ?_)))
  ·refine Tri.seq (Tri.regionL ?_)
   refine Oc (op_build tyBuild41 rfl rfl) (Oc (op_store_p tyAgg41 rfl rfl rfl rfl (Nat.le_of_ble_eq_true rfl) rfl) ?_)
   refine OpsL.nilS ⟨[(4, _)], [(101, .box 41 [.nil, .i (-1)])]⟩ rfl (Tri.ret (Fin.then_ret ?_))
   obtain rfl := Option.some.inj h
   refine Fin.keepS ⟨[(4, _)], [(101, _)]⟩ rfl (Fin.nilbox 101 0 1 rfl rfl (by decide) (Fin.result' [.agg [.sl 1 ([].map eI), .i (-1)]] (.inl rfl) rfl (.cons (.agg tyAgg41 rfl rfl rfl rfl) .nil) ⟨rfl, rfl⟩))
  ·refine Tri.skip (Fin.keepS ⟨[(0, _), (1, _), (4, _)], [(101, _)]⟩ rfl (Fin.then (Tri.seq (Tri.regionL ?_))))
   refine Oc om ?_
   obtain ⟨x_7, e22, h⟩ := bnd h
   refine Oc (op_call0 (skewbackref39_Things_spec e22) goes30 rfl rfl) (Oc oa ?_)
   refine OpsL.nilS ⟨[(0, _), (1, _), (4, _), (7, I x_7)], [(101, _)]⟩ rfl ?_
   obtain ⟨v23, h24, h⟩ := bnd h
   refine Tri.seqJ (v := v23) (fun (_ : Unit) => ⟨[(4, Pt 101 0)], [(101, .box 41 [.nil, .i 0])]⟩) (fun z => .inl z) ?_ ?_
   ·refine Tri.seq (Tri.regionL ?_)
    refine Oc oa (OpsL.nilS ⟨[(0, _), (1, _), (4, _), (7, _), (8, I 2)], [(101, _)]⟩ rfl (Tri.block (Tri.loopJ h24 (fun (edges_8 : Int) => ⟨[(0, .b (.one (.sl 6 (l0.map eReport)))), (1, I now0), (4, Pt 101 0), (7, I x_7), (8, I edges_8)], [(101, .box 41 [.nil, .i 0])]⟩) [0, 1, 4, 7, 8] [101] rfl ?_)))
    rintro edges_8 o25 h26 hy27
    refine Tri.seq (Tri.seq (Tri.regionL ?_))
    refine Oc om (Oc om (Oc (op_add rfl rfl) (Oc (op_leq rfl rfl) ?_)))
    refine OpsL.nilS ⟨[(0, _), (1, _), (4, _), (7, _), (8, _), (57, B (decide (edges_8 ≤ (IntKind.i64.wrap (x_7 + 1)))))], [(101, _)]⟩ rfl (Tri.ite h26 rfl (fun _ h26 => ?_) (fun _ h26 => ?_))
    ·refine Tri.skip (Fin.keepS ⟨[(0, _), (1, _), (4, _), (7, _), (8, _)], [(101, _)]⟩ rfl (Fin.then ?_))
     obtain ⟨v28, h29, h26⟩ := bnd h26
     refine Tri.seqJ (v := v28) (fun (_ : Unit) => ⟨[(0, .b (.one (.sl 6 (l0.map eReport)))), (1, I now0), (4, Pt 101 0), (7, I x_7), (8, I edges_8)], [(101, .box 41 [.nil, .i 0])]⟩) (fun z => .inl z) ?_ ?_
     ·refine Tri.block (Tri.seq (Tri.regionL ?_))
      refine Oc oa (OpsL.nilS ⟨[(0, _), (1, _), (4, _), (7, _), (8, _), (9, I 0)], [(101, _)]⟩ rfl (Tri.block ?_))
      obtain ⟨v30, h31, h29⟩ := bnd h29
      refine Tri.loopJ h31 (fun (axis_9 : Int) => ⟨[(0, .b (.one (.sl 6 (l0.map eReport)))), (1, I now0), (4, Pt 101 0), (7, I x_7), (8, I edges_8), (9, I axis_9)], [(101, .box 41 [.nil, .i 0])]⟩) [0, 1, 4, 7, 8, 9] [101] rfl ?_
      rintro axis_9 o32 h33 hy34
      refine Tri.seq (Tri.seq (Tri.regionL ?_))
      refine Oc om (Oc (op_lss rfl rfl) ?_)
      refine OpsL.nilS ⟨[(0, _), (1, _), (4, _), (7, _), (8, _), (9, _), (61, B (decide (axis_9 < 3)))], [(101, _)]⟩ rfl (Tri.ite h33 rfl (fun _ h33 => ?_) (fun _ h33 => ?_))
      ·refine Tri.skip (Fin.keepS ⟨[(0, _), (1, _), (4, _), (7, _), (8, _), (9, _)], [(101, _)]⟩ rfl (Fin.then ?_))
       obtain ⟨v35, h36, h33⟩ := bnd h33
       refine Tri.seqJ (v := v35) (fun (_ : Unit) => ⟨[(0, .b (.one (.sl 6 (l0.map eReport)))), (1, I now0), (4, Pt 101 0), (7, I x_7), (8, I edges_8), (9, I axis_9)], [(101, .box 41 [.nil, .i 0])]⟩) (fun z => .inl z) ?_ ?_
       ·refine Tri.block (Tri.seq (Tri.regionL ?_))
        refine Oc om (Oc om (Oc om ?_))
        obtain ⟨x_10, e37, h36⟩ := bnd h36
        refine Oc (op_call (skewbackref39_Edges_spec 103 e37) goes37 rfl trivial rfl rfl) (Oc oa ?_)
        refine OpsL.nilS ⟨[(0, _), (1, _), (4, _), (7, _), (8, _), (9, _), (10, .b (.row 103))], [(101, _), (103, .row 103 4 (x_10.map eREdge))]⟩ rfl (Tri.seq (Tri.regionL ?_))
        refine Oc oa (OpsL.nilS ⟨[(0, .b (.one (.sl 6 (l0.map eReport)))), (1, I now0), (4, Pt 101 0), (7, I x_7), (8, I edges_8), (9, I axis_9), (10, .b (.row 103)), (11, I 0)], [(101, .box 41 [.nil, .i 0]), (103, .row 103 4 (x_10.map eREdge))]⟩ rfl (Tri.block (Tri.persist 103 rfl ?_)))
        obtain ⟨v38, h39, h36⟩ := bnd h36
        refine Tri.loopJ h39 (un2 fun (e_11 : List REdge) (start_12 : Int) => ⟨[(0, .b (.one (.sl 6 (l0.map eReport)))), (1, I now0), (4, Pt 101 0), (7, I x_7), (8, I edges_8), (9, I axis_9), (10, .b (.one (.sl 4 (e_11.map eREdge)))), (11, I start_12)], [(101, .box 41 [.nil, .i 0])]⟩) [0, 1, 4, 7, 8, 9, 10, 11] [101] rfl ?_
        rintro ⟨e_11, start_12⟩ o40 h41 hy42
        refine Tri.seq (Tri.seq (Tri.regionL ?_))
        refine Oc om (Oc om (Oc (op_leq rfl rfl) ?_))
        refine OpsL.nilS ⟨[(0, _), (1, _), (4, _), (7, _), (8, _), (9, _), (10, _), (11, _), (70, B (decide (start_12 ≤ x_7)))], [(101, _)]⟩ rfl (Tri.ite h41 rfl (fun _ h41 => ?_) (fun _ h41 => ?_))
        ·refine Tri.skip (Fin.keepS ⟨[(0, _), (1, _), (4, _), (7, _), (8, _), (9, _), (10, _), (11, _)], [(101, _)]⟩ rfl (Fin.then (Tri.seq (Tri.block (Tri.seq (Tri.regionL ?_))))))
         refine Oc om (Oc om (Oc om (Oc om ?_)))
         obtain ⟨x_13, e43, h41⟩ := bnd h41
         refine Oc (op_call0 (skewbackref39_first_spec e43) goes45 rfl rfl) (Oc (op_alloc (k := 104) tyZero91 rfl) (Oc (op_store_p tyAgg91 rfl rfl rfl rfl (Nat.le_of_ble_eq_true rfl) rfl) ?_))
         refine OpsL.nilS ⟨[(0, _), (1, _), (4, _), (7, _), (8, _), (9, _), (10, _), (11, _), (12, Pt 104 0)], [(101, _), (104, .box 91 (eRWalk x_13))]⟩ rfl (Tri.seq (Tri.regionL ?_))
         refine Oc (op_field_p tyFld91_1 rfl rfl) (Oc (op_load_p1 tyOne4 rfl rfl rfl) ?_)
         refine OpsL.nilS ⟨[(0, _), (1, _), (4, _), (7, _), (8, _), (9, _), (10, _), (11, _), (12, _), (79, B x_13.Is)], [(101, _), (104, _)]⟩ rfl (Tri.ite h41 rfl (fun _ h41 => ?_) (fun _ h41 => ?_))
         ·refine Tri.seq (Tri.regionL ?_)
          refine Oc (op_field_p tyFld91_0 rfl rfl) (Oc (op_load_p1 tyOne76 rfl rfl rfl) ?_)
          obtain ⟨x_14, e44, h41⟩ := bnd h41
          refine Oc (op_call (skewbackref39_places_spec 105 e44) goes46 rfl trivial rfl rfl) (Oc om ?_)
          refine OpsL.persist 105 rfl (Oc (op_build tyBuild41 rfl rfl) (Oc (op_store_p tyAgg41 rfl rfl rfl rfl (Nat.le_of_ble_eq_true rfl) rfl) ?_))
          refine OpsL.nilS ⟨[(4, Pt 101 0)], [(101, .box 41 [.sl 1 (x_14.map eI), .i axis_9])]⟩ rfl (Tri.ret (Fin.block_ret (Fin.then_ret ?_)))
          obtain rfl := hy42 _ (Option.some.inj h41).symm
          refine Fin.then_ret (Fin.block_ret (Fin.block_ret ?_))
          obtain rfl := Option.some.inj h36
          refine Fin.then_ret ?_
          obtain rfl := hy34 _ (Option.some.inj h33).symm
          refine Fin.then_ret (Fin.block_ret (Fin.block_ret ?_))
          obtain rfl := Option.some.inj h29
          refine Fin.then_ret ?_
          obtain rfl := hy27 _ (Option.some.inj h26).symm
          refine Fin.then_ret (Fin.block_ret (Fin.then_ret ?_))
          obtain rfl := Option.some.inj h
          refine Fin.keepS ⟨[(4, _)], [(101, _)]⟩ rfl (Fin.result' [.agg [.sl 1 (x_14.map eI), .i axis_9]] (.inl rfl) rfl (.cons (.agg tyAgg41 rfl rfl rfl rfl) .nil) ⟨rfl, rfl⟩)
         ·refine Tri.skip (Fin.block_normal (Fin.keepS ⟨[(0, _), (1, _), (4, _), (7, _), (8, _), (9, _), (10, _), (11, _)], [(101, _)]⟩ rfl (Fin.then (Tri.regionL ?_))))
          refine Oc om (Oc (op_add rfl rfl) (Oc oa ?_))
          refine OpsL.nil ?_
          exact Fin.againJ [0, 1, 4, 7, 8, 9, 10, 11] [101] (e_11, IntKind.i64.wrap (start_12 + 1)) (Option.some.inj h41) rfl
        ·refine Tri.exit (Fin.then_exit ?_)
         obtain rfl := hy42 _ (Option.some.inj h41).symm
         refine Fin.then_exit (Fin.block_exit (Fin.block_normal ?_))
         exact Fin.join [0, 1, 4, 7, 8, 9] [101] () (Option.some.inj h36) rfl
       ·rintro _ hv
        subst v35
        refine Tri.regionL (Oc om (Oc (op_add rfl rfl) (Oc oa ?_)))
        refine OpsL.nil ?_
        exact Fin.againJ [0, 1, 4, 7, 8, 9] [101] (IntKind.i64.wrap (axis_9 + 1)) (Option.some.inj h33) rfl
      ·refine Tri.exit (Fin.then_exit ?_)
       obtain rfl := hy34 _ (Option.some.inj h33).symm
       refine Fin.then_exit (Fin.block_exit (Fin.block_normal ?_))
       exact Fin.join [0, 1, 4, 7, 8] [101] () (Option.some.inj h29) rfl
     ·rintro _ hv
      subst v28
      refine Tri.regionL (Oc om (Oc (op_add rfl rfl) (Oc oa ?_)))
      refine OpsL.nil ?_
      exact Fin.againJ [0, 1, 4, 7, 8] [101] (IntKind.i64.wrap (edges_8 + 1)) (Option.some.inj h26) rfl
    ·refine Tri.exit (Fin.then_exit ?_)
     obtain rfl := hy27 _ (Option.some.inj h26).symm
     refine Fin.then_exit (Fin.block_exit ?_)
     exact Fin.join [4] [101] () rfl rfl
   ·rintro _ hv
    subst v23
    refine Tri.seq (Tri.regionL ?_)
    refine Oc (op_build tyBuild41 rfl rfl) (Oc (op_store_p tyAgg41 rfl rfl rfl rfl (Nat.le_of_ble_eq_true rfl) rfl) ?_)
    refine OpsL.nilS ⟨[(4, _)], [(101, .box 41 [.nil, .i (-1)])]⟩ rfl (Tri.ret ?_)
    obtain rfl := Option.some.inj h
    refine Fin.keepS ⟨[(4, _)], [(101, _)]⟩ rfl (Fin.nilbox 101 0 1 rfl rfl (by decide) (Fin.result' [.agg [.sl 1 ([].map eI), .i (-1)]] (.inl rfl) rfl (.cons (.agg tyAgg41 rfl rfl rfl rfl) .nil) ⟨rfl, rfl⟩))
def skewbackref39_Implied_S (F : Nat) (l0 : List Report) (now0 : Int) (r0 : Report) : Option Answer :=
 (skewbackref39_Valid_S F r0).bind fun x_1 => if (!x_1) = true then (some (⟨false, 1⟩ : Answer)) else ((skewbackref39_Consistent_S F l0 now0).bind fun x_2 => if (!x_2) = true then (some (⟨false, 200⟩ : Answer)) else ((skewbackref39_Things_S F l0).bind fun x_3 => (skewbackref39_Edges_S F l0 now0 r0.Axis).bind fun x_4 => Option.bind (skewbackref39_least_S F (max x_3 (max r0.A r0.B)) x_4 r0.A) (un2 fun x_5 x_6 => Option.bind (skewbackref39_least_S F (max x_3 (max r0.A r0.B)) x_4 r0.B) (un2 fun x_7 x_8 => (idx? x_5 r0.B).bind fun x_9 => (skewbackref39_none_S F).bind fun x_10 => (gcall (decide (x_9 < x_10)) (idx? x_5 r0.B)).bind fun x_11 => (gcall ((decide (x_9 < x_10)) && (decide (x_11 ≤ r0.Hi))) (idx? x_7 r0.A)).bind fun x_12 => (gcall ((decide (x_9 < x_10)) && (decide (x_11 ≤ r0.Hi))) (skewbackref39_none_S F)).bind fun x_13 => (gcall (((decide (x_9 < x_10)) && (decide (x_11 ≤ r0.Hi))) && (decide (x_12 < x_13))) (idx? x_7 r0.A)).bind fun x_14 => some (⟨(((decide (x_9 < x_10)) && (decide (x_11 ≤ r0.Hi))) && (decide (x_12 < x_13))) && (decide (r0.Lo ≤ (IntKind.i64.wrap (-x_14)))), 0⟩ : Answer)))))
theorem skewbackref39_Implied_spec {F : Nat} {l0 : List Report} {now0 : Int} {r0 : Report} {r : Answer} (h : skewbackref39_Implied_S F l0 now0 r0 = some r) : Meets Try.prog [] 15 [] [.one (.sl 6 (l0.map eReport)), .one (.i now0), .agg (eReport r0)] (Is [] (.b (.agg (eAnswer r)))) := by
 unfold skewbackref39_Implied_S at h
 refine Meets.intro 93 Try.func15 Try.ntmps15 rfl (by simp) fun E => ?_
 show Tri _ E ⟨93, [], [], []⟩ _ ⟨[(0, .b (.one (.sl 6 (l0.map eReport)))), (1, I now0), (2, .b (.agg (eReport r0)))], []⟩ _
 refine Tri.seq (Tri.regionL ?_)
 refine Oc (op_box (k := 101) rfl rfl) (Oc (op_alloc (k := 102) tyZero46 rfl) ?_)
 refine OpsL.nilS ⟨[(0, .b (.one (.sl 6 (l0.map eReport)))), (1, I now0), (5, Pt 101 0), (6, Pt 102 0)], [(101, .box 24 (eReport r0)), (102, .box 46 [.bool false, .i 0])]⟩ rfl (Tri.seq (Tri.regionL ?_))
 refine Oc (lp tyAgg24) ?_
 obtain ⟨x_1, e1, h⟩ := bnd h
 refine Oc (op_call0 (skewbackref39_Valid_spec e1) goes48 rfl rfl) (Oc oa ?_)
 refine OpsL.nilS ⟨[(0, _), (1, _), (5, _), (6, _), (7, B x_1)], [(101, _), (102, _)]⟩ rfl (Tri.seq (Tri.seq (Tri.regionL ?_)))
 refine Oc om (Oc (op_not rfl) ?_)
 refine OpsL.nilS ⟨[(0, _), (1, _), (5, _), (6, _), (18, B (!x_1))], [(101, _), (102, _)]⟩ rfl (Tri.ite h rfl (fun _ h => ?_) (fun _ h => ?_))
 ·refine Tri.seq (Tri.regionL ?_)
  refine Oc (op_build tyBuild46 rfl rfl) (Oc (op_store_p tyAgg46 rfl rfl rfl rfl (Nat.le_of_ble_eq_true rfl) rfl) ?_)
  refine OpsL.nilS ⟨[(6, _)], [(102, .box 46 [.bool false, .i 1])]⟩ rfl (Tri.ret (Fin.then_ret ?_))
  obtain rfl := Option.some.inj h
  refine Fin.keepS ⟨[(6, _)], [(102, _)]⟩ rfl (Fin.result' [.agg [.bool false, .i 1]] (.inl rfl) rfl (.cons (.agg tyAgg46 rfl rfl rfl rfl) .nil) ⟨rfl, rfl⟩)
 ·refine Tri.skip (Fin.keepS ⟨[(0, _), (1, _), (5, _), (6, _)], [(101, _), (102, _)]⟩ rfl (Fin.then (Tri.seq (Tri.regionL ?_))))
  refine Oc om (Oc om ?_)
  obtain ⟨x_2, e2, h⟩ := bnd h
  refine Oc (op_call0 (skewbackref39_Consistent_spec e2) goes28 rfl rfl) (Oc oa ?_)
  refine OpsL.nilS ⟨[(0, _), (1, _), (5, _), (6, _), (8, B x_2)], [(101, _), (102, _)]⟩ rfl (Tri.seq (Tri.seq (Tri.regionL ?_)))
  refine Oc om (Oc (op_not rfl) ?_)
  refine OpsL.nilS ⟨[(0, _), (1, _), (5, _), (6, _), (24, B (!x_2))], [(101, _), (102, _)]⟩ rfl (Tri.ite h rfl (fun _ h => ?_) (fun _ h => ?_))
  ·refine Tri.seq (Tri.regionL ?_)
   refine Oc (op_build tyBuild46 rfl rfl) (Oc (op_store_p tyAgg46 rfl rfl rfl rfl (Nat.le_of_ble_eq_true rfl) rfl) ?_)
   refine OpsL.nilS ⟨[(6, _)], [(102, .box 46 [.bool false, .i 200])]⟩ rfl (Tri.ret (Fin.then_ret ?_))
   obtain rfl := Option.some.inj h
   refine Fin.keepS ⟨[(6, _)], [(102, _)]⟩ rfl (Fin.result' [.agg [.bool false, .i 200]] (.inl rfl) rfl (.cons (.agg tyAgg46 rfl rfl rfl rfl) .nil) ⟨rfl, rfl⟩)
  ·refine Tri.skip (Fin.keepS ⟨[(0, _), (1, _), (5, _), (6, _)], [(101, _), (102, _)]⟩ rfl (Fin.then (Tri.seq ?_)))
   refine Tri.keepS ⟨[(0, _), (1, _), (5, _), (6, _)], [(101, _), (102, _)]⟩ rfl ?_
   obtain ⟨x_3, e3, h⟩ := bnd h
   refine Tri.regionY mixed 9 [.b (.one (.sl 6 (l0.map eReport))), I x_3, Pt 101 0, I r0.A, Pt 101 1, I r0.B, I (max r0.A r0.B), I (max x_3 (max r0.A r0.B)), I (max x_3 (max r0.A r0.B))] [0, 1, 5, 6, 9] [101, 102] (s' := ⟨[(0, _), (1, _), (5, _), (6, _), (9, I (max x_3 (max r0.A r0.B)))], [(101, _), (102, _)]⟩) rfl ⟨fun _ => .p om, fun _ => .p (op_call0 (skewbackref39_Things_spec e3) goes30 rfl rfl), fun _ => .p (op_field_p tyFld24_0 rfl rfl), fun _ => .p (op_load_p1 tyOne3 rfl rfl rfl), fun _ => .p (op_field_p tyFld24_1 rfl rfl), fun _ => .p (op_load_p1 tyOne3 rfl rfl rfl), fun _ => .p (op_max rfl rfl), fun _ => .p (op_max rfl rfl), fun _ => .p oa, trivial⟩ rfl rfl (Tri.seq (Tri.regionL ?_))
   refine Oc om (Oc om (Oc (op_field_p tyFld24_2 rfl rfl) (Oc (op_load_p1 tyOne3 rfl rfl rfl) ?_)))
   obtain ⟨x_4, e4, h⟩ := bnd h
   refine Oc (op_call (skewbackref39_Edges_spec 103 e4) goes37 rfl trivial rfl rfl) (Oc oa ?_)
   refine OpsL.nilS ⟨[(5, _), (6, _), (9, _), (10, .b (.row 103))], [(101, _), (102, _), (103, .row 103 4 (x_4.map eREdge))]⟩ rfl (Tri.seq (Tri.regionL ?_))
   refine Oc om (Oc om (Oc (op_field_p tyFld24_0 rfl rfl) (Oc (op_load_p1 tyOne3 rfl rfl rfl) ?_)))
   refine OpsL.persist 103 rfl (OpsL.keepS ⟨[(5, Pt 101 0), (6, Pt 102 0), (9, I (max x_3 (max r0.A r0.B))), (10, .b (.one (.sl 4 (x_4.map eREdge)))), (40, I (max x_3 (max r0.A r0.B))), (41, .b (.one (.sl 4 (x_4.map eREdge)))), (43, I r0.A)], [(101, .box 24 (eReport r0)), (102, .box 46 [.bool false, .i 0])]⟩ rfl ?_)
   obtain ⟨⟨x_5, x_6⟩, e5, h⟩ := bnd h
   refine Oc (op_call (skewbackref39_least_spec 104 e5) goes38 rfl trivial rfl rfl) (Oc om (Oc (op_extract rfl rfl) (Oc (op_extract rfl rfl) (Oc oa (Oc oa ?_)))))
   refine OpsL.nilS ⟨[(5, _), (6, _), (9, _), (10, _), (11, .b (.row 104))], [(101, _), (102, _), (104, .row 3 1 (x_5.map eI))]⟩ rfl (Tri.seq (Tri.regionL ?_))
   refine Oc om (Oc om (Oc (op_field_p tyFld24_1 rfl rfl) (Oc (op_load_p1 tyOne3 rfl rfl rfl) ?_)))
   obtain ⟨⟨x_7, x_8⟩, e6, h⟩ := bnd h
   refine Oc (op_call (skewbackref39_least_spec 105 e6) goes38 rfl trivial rfl rfl) (OpsL.keepS ⟨[(5, _), (6, _), (11, _), (52, .tup [.row 105, .one (.bool x_8)])], [(101, _), (102, _), (104, _), (105, .row 3 1 (x_7.map eI))]⟩ rfl (Oc om (Oc (op_extract rfl rfl) (Oc (op_extract rfl rfl) (Oc oa (Oc oa ?_))))))
   refine OpsL.nilS ⟨[(5, _), (6, _), (11, _), (13, .b (.row 105))], [(101, _), (102, _), (104, _), (105, _)]⟩ rfl (Tri.seq ?_)
   obtain ⟨x_9, e7, h⟩ := bnd h
   obtain ⟨x_10, e8, h⟩ := bnd h
   obtain ⟨x_11, e13, h⟩ := bnd h
   obtain ⟨x_12, e22, h⟩ := bnd h
   obtain ⟨x_13, e25, h⟩ := bnd h
   obtain ⟨x_14, e31, h⟩ := bnd h
   refine Tri.regionY mixed 38 [.b (.row 104), Pt 101 1, I r0.B, .b (.rptr 104 ((r0.B : Int).toNat * 1)), I x_9, I x_10, B (decide (x_9 < x_10)), B (decide (x_9 < x_10)), .opt (decide (x_9 < x_10)) (.row 104), .opt (decide (x_9 < x_10)) (.ptr 101 1), .opt (decide (x_9 < x_10)) (.one (.i r0.B)), .opt (decide (x_9 < x_10)) (.rptr 104 ((r0.B : Int).toNat * 1)), .opt (decide (x_9 < x_10)) (.one (.i x_11)), .opt (decide (x_9 < x_10)) (.ptr 101 4), .opt (decide (x_9 < x_10)) (.one (.i r0.Hi)), .opt (decide (x_9 < x_10)) (.one (.bool (decide (x_11 ≤ r0.Hi)))), B ((decide (x_9 < x_10)) && (decide (x_11 ≤ r0.Hi))), B ((decide (x_9 < x_10)) && (decide (x_11 ≤ r0.Hi))), .opt ((decide (x_9 < x_10)) && (decide (x_11 ≤ r0.Hi))) (.row 105), .opt ((decide (x_9 < x_10)) && (decide (x_11 ≤ r0.Hi))) (.ptr 101 0), .opt ((decide (x_9 < x_10)) && (decide (x_11 ≤ r0.Hi))) (.one (.i r0.A)), .opt ((decide (x_9 < x_10)) && (decide (x_11 ≤ r0.Hi))) (.rptr 105 ((r0.A : Int).toNat * 1)), .opt ((decide (x_9 < x_10)) && (decide (x_11 ≤ r0.Hi))) (.one (.i x_12)), .opt ((decide (x_9 < x_10)) && (decide (x_11 ≤ r0.Hi))) (.one (.i x_13)), .opt ((decide (x_9 < x_10)) && (decide (x_11 ≤ r0.Hi))) (.one (.bool (decide (x_12 < x_13)))), B (((decide (x_9 < x_10)) && (decide (x_11 ≤ r0.Hi))) && (decide (x_12 < x_13))), B (((decide (x_9 < x_10)) && (decide (x_11 ≤ r0.Hi))) && (decide (x_12 < x_13))), .opt (((decide (x_9 < x_10)) && (decide (x_11 ≤ r0.Hi))) && (decide (x_12 < x_13))) (.row 105), .opt (((decide (x_9 < x_10)) && (decide (x_11 ≤ r0.Hi))) && (decide (x_12 < x_13))) (.ptr 101 0), .opt (((decide (x_9 < x_10)) && (decide (x_11 ≤ r0.Hi))) && (decide (x_12 < x_13))) (.one (.i r0.A)), .opt (((decide (x_9 < x_10)) && (decide (x_11 ≤ r0.Hi))) && (decide (x_12 < x_13))) (.rptr 105 ((r0.A : Int).toNat * 1)), .opt (((decide (x_9 < x_10)) && (decide (x_11 ≤ r0.Hi))) && (decide (x_12 < x_13))) (.one (.i x_14)), .opt (((decide (x_9 < x_10)) && (decide (x_11 ≤ r0.Hi))) && (decide (x_12 < x_13))) (.one (.i (IntKind.i64.wrap (-x_14)))), .opt (((decide (x_9 < x_10)) && (decide (x_11 ≤ r0.Hi))) && (decide (x_12 < x_13))) (.ptr 101 3), .opt (((decide (x_9 < x_10)) && (decide (x_11 ≤ r0.Hi))) && (decide (x_12 < x_13))) (.one (.i r0.Lo)), .opt (((decide (x_9 < x_10)) && (decide (x_11 ≤ r0.Hi))) && (decide (x_12 < x_13))) (.one (.bool (decide (r0.Lo ≤ (IntKind.i64.wrap (-x_14)))))), B ((((decide (x_9 < x_10)) && (decide (x_11 ≤ r0.Hi))) && (decide (x_12 < x_13))) && (decide (r0.Lo ≤ (IntKind.i64.wrap (-x_14))))), .b (.agg [.bool ((((decide (x_9 < x_10)) && (decide (x_11 ≤ r0.Hi))) && (decide (x_12 < x_13))) && (decide (r0.Lo ≤ (IntKind.i64.wrap (-x_14))))), .i 0])] [6] [102] (s' := ⟨[(6, _)], [(102, .box 46 [.bool ((((decide (x_9 < x_10)) && (decide (x_11 ≤ r0.Hi))) && (decide (x_12 < x_13))) && (decide (r0.Lo ≤ (IntKind.i64.wrap (-x_14))))), .i 0])]⟩) rfl ⟨fun _ => .p om, fun _ => .p (op_field_p tyFld24_1 rfl rfl), fun _ => .p (op_load_p1 tyOne3 rfl rfl rfl), fun _ => .p (op_index_r tySl37 (ix_lo e7) (ix_lt' e7) rfl rfl rfl rfl), fun _ => .p (op_load_r1 (i := (r0.B : Int).toNat) (f := 0) tyOne3 rfl rfl rfl (ix_map (e := eI) e7) rfl), fun _ => .p (op_call0 (skewbackref39_none_spec e8) goes40 rfl rfl), fun _ => .p (op_lss rfl rfl), fun _ => .p om, fun _ => by exact .guard (decide (x_9 < x_10)) 1 [] (.plain rfl) (eq_t _) rfl rfl (fun g9 => trivial) (fun g9 => om), fun _ => by exact .guard (decide (x_9 < x_10)) 1 [] (.plain rfl) (eq_t _) rfl rfl (fun g10 => trivial) (fun g10 => op_field_p tyFld24_1 rfl rfl), fun _ => by exact .guard (decide (x_9 < x_10)) 2 [64] (.plain rfl) (eq_t _) rfl rfl (fun g11 => ⟨g11, trivial⟩) (fun g11 => op_load_p1 tyOne3 rfl rfl rfl), fun _ => by exact .guard (decide (x_9 < x_10)) 3 [63, 65] (.plain rfl) (eq_t _) rfl rfl (fun g12 => ⟨g12, g12, trivial⟩) (fun g12 => op_index_r tySl37 (ix_lo (gc e13 g12)) (ix_lt' (gc e13 g12)) rfl rfl rfl rfl), fun _ => by exact .guard (decide (x_9 < x_10)) 2 [66] (.plain rfl) (eq_t _) rfl rfl (fun g14 => ⟨g14, trivial⟩) (fun g14 => op_load_r1 (i := (r0.B : Int).toNat) (f := 0) tyOne3 rfl rfl rfl (ix_map (e := eI) (gc e13 g14)) rfl), fun _ => by exact .guard (decide (x_9 < x_10)) 1 [] (.plain rfl) (eq_t _) rfl rfl (fun g15 => trivial) (fun g15 => op_field_p tyFld24_4 rfl rfl), fun _ => by exact .guard (decide (x_9 < x_10)) 2 [68] (.plain rfl) (eq_t _) rfl rfl (fun g16 => ⟨g16, trivial⟩) (fun g16 => op_load_p1 tyOne3 rfl rfl rfl), fun _ => by exact .guard (decide (x_9 < x_10)) 3 [67, 69] (.plain rfl) (eq_t _) rfl rfl (fun g17 => ⟨g17, g17, trivial⟩) (fun g17 => op_leq rfl rfl), fun _ => .p (op_pick_and (fun e => e) rfl rfl rfl rfl), fun _ => .p om, fun _ => by exact .guard ((decide (x_9 < x_10)) && (decide (x_11 ≤ r0.Hi))) 1 [] (.plain rfl) (eq_t _) rfl rfl (fun g18 => trivial) (fun g18 => om), fun _ => by exact .guard ((decide (x_9 < x_10)) && (decide (x_11 ≤ r0.Hi))) 1 [] (.plain rfl) (eq_t _) rfl rfl (fun g19 => trivial) (fun g19 => op_field_p tyFld24_0 rfl rfl), fun _ => by exact .guard ((decide (x_9 < x_10)) && (decide (x_11 ≤ r0.Hi))) 2 [74] (.plain rfl) (eq_t _) rfl rfl (fun g20 => ⟨g20, trivial⟩) (fun g20 => op_load_p1 tyOne3 rfl rfl rfl), fun _ => by exact .guard ((decide (x_9 < x_10)) && (decide (x_11 ≤ r0.Hi))) 3 [73, 75] (.plain rfl) (eq_t _) rfl rfl (fun g21 => ⟨g21, g21, trivial⟩) (fun g21 => op_index_r tySl37 (ix_lo (gc e22 g21)) (ix_lt' (gc e22 g21)) rfl rfl rfl rfl), fun _ => by exact .guard ((decide (x_9 < x_10)) && (decide (x_11 ≤ r0.Hi))) 2 [76] (.plain rfl) (eq_t _) rfl rfl (fun g23 => ⟨g23, trivial⟩) (fun g23 => op_load_r1 (i := (r0.A : Int).toNat) (f := 0) tyOne3 rfl rfl rfl (ix_map (e := eI) (gc e22 g23)) rfl), fun _ => by exact .guard ((decide (x_9 < x_10)) && (decide (x_11 ≤ r0.Hi))) 2 [] (.plain rfl) (eq_t _) rfl rfl (fun g24 => trivial) (fun g24 => op_call0 (skewbackref39_none_spec (gc e25 g24)) goes40 rfl rfl), fun _ => by exact .guard ((decide (x_9 < x_10)) && (decide (x_11 ≤ r0.Hi))) 3 [77, 78] (.plain rfl) (eq_t _) rfl rfl (fun g26 => ⟨g26, g26, trivial⟩) (fun g26 => op_lss rfl rfl), fun _ => .p (op_pick_and (fun e => e) rfl rfl rfl rfl), fun _ => .p om, fun _ => by exact .guard (((decide (x_9 < x_10)) && (decide (x_11 ≤ r0.Hi))) && (decide (x_12 < x_13))) 1 [] (.plain rfl) (eq_t _) rfl rfl (fun g27 => trivial) (fun g27 => om), fun _ => by exact .guard (((decide (x_9 < x_10)) && (decide (x_11 ≤ r0.Hi))) && (decide (x_12 < x_13))) 1 [] (.plain rfl) (eq_t _) rfl rfl (fun g28 => trivial) (fun g28 => op_field_p tyFld24_0 rfl rfl), fun _ => by exact .guard (((decide (x_9 < x_10)) && (decide (x_11 ≤ r0.Hi))) && (decide (x_12 < x_13))) 2 [83] (.plain rfl) (eq_t _) rfl rfl (fun g29 => ⟨g29, trivial⟩) (fun g29 => op_load_p1 tyOne3 rfl rfl rfl), fun _ => by exact .guard (((decide (x_9 < x_10)) && (decide (x_11 ≤ r0.Hi))) && (decide (x_12 < x_13))) 3 [82, 84] (.plain rfl) (eq_t _) rfl rfl (fun g30 => ⟨g30, g30, trivial⟩) (fun g30 => op_index_r tySl37 (ix_lo (gc e31 g30)) (ix_lt' (gc e31 g30)) rfl rfl rfl rfl), fun _ => by exact .guard (((decide (x_9 < x_10)) && (decide (x_11 ≤ r0.Hi))) && (decide (x_12 < x_13))) 2 [85] (.plain rfl) (eq_t _) rfl rfl (fun g32 => ⟨g32, trivial⟩) (fun g32 => op_load_r1 (i := (r0.A : Int).toNat) (f := 0) tyOne3 rfl rfl rfl (ix_map (e := eI) (gc e31 g32)) rfl), fun _ => by exact .guard (((decide (x_9 < x_10)) && (decide (x_11 ≤ r0.Hi))) && (decide (x_12 < x_13))) 2 [86] (.plain rfl) (eq_t _) rfl rfl (fun g33 => ⟨g33, trivial⟩) (fun g33 => op_neg rfl), fun _ => by exact .guard (((decide (x_9 < x_10)) && (decide (x_11 ≤ r0.Hi))) && (decide (x_12 < x_13))) 1 [] (.plain rfl) (eq_t _) rfl rfl (fun g34 => trivial) (fun g34 => op_field_p tyFld24_3 rfl rfl), fun _ => by exact .guard (((decide (x_9 < x_10)) && (decide (x_11 ≤ r0.Hi))) && (decide (x_12 < x_13))) 2 [88] (.plain rfl) (eq_t _) rfl rfl (fun g35 => ⟨g35, trivial⟩) (fun g35 => op_load_p1 tyOne3 rfl rfl rfl), fun _ => by exact .guard (((decide (x_9 < x_10)) && (decide (x_11 ≤ r0.Hi))) && (decide (x_12 < x_13))) 3 [87, 89] (.plain rfl) (eq_t _) rfl rfl (fun g36 => ⟨g36, g36, trivial⟩) (fun g36 => op_geq rfl rfl), fun _ => .p (op_pick_and (fun e => e) rfl rfl rfl rfl), fun _ => .p (op_build tyBuild46 rfl rfl), trivial⟩ ⟨_, by exact .p (op_store_p tyAgg46 rfl rfl rfl rfl (Nat.le_of_ble_eq_true rfl) rfl), rfl⟩ rfl ?_
   refine Tri.ret ?_
   obtain rfl := Option.some.inj h
   refine Fin.keepS ⟨[(6, _)], [(102, _)]⟩ rfl (Fin.result' [.agg [.bool ((((decide (x_9 < x_10)) && (decide (x_11 ≤ r0.Hi))) && (decide (x_12 < x_13))) && (decide (r0.Lo ≤ (IntKind.i64.wrap (-x_14))))), .i 0]] (.inl rfl) rfl (.cons (.agg tyAgg46 rfl rfl rfl rfl) .nil) ⟨rfl, rfl⟩)
def skewbacklaw39_SensorAnswersAsSpecified_S (F : Nat) (l0 : List Report) (now0 : Int) (r0 : Report) : Option Bool :=
 (skewbackref39_Few_S F l0 30).bind fun x_1 => if (((!x_1) || (decide (9 < r0.A))) || (decide (9 < r0.B))) = true then ((skewbacklaw39_sanity_S F).bind fun x_2 => some x_2) else (Option.bind (sensor_Boxes_S F l0 now0) (un2 fun x_3 x_4 => (skewbackref39_Boxes_S F l0 now0).bind fun x_5 => letN ((decide (x_4 ≠ x_5.E)) || (decide ((x_3.length : Int) ≠ (x_5.L.length : Int)))) fun x_6 => if x_6 = true then (some false) else (Option.bind (iter F (fun x_7 => if (decide (x_7 < (x_3.length : Int))) = true then ((idx? x_3 x_7).bind fun x_8 => (idx? x_5.L x_7).bind fun x_9 => if (decide (x_8 ≠ x_9)) = true then (some (.inr (.inr false))) else (some (.inl (IntKind.i64.wrap (x_7 + 1))))) else (some (.inr (.inl ())))) 0) (alt2 (fun _ => Option.bind (sensor_Contradiction_S F l0 now0) (un2 fun x_10 x_11 => (skewbackref39_Contradiction_S F l0 now0).bind fun x_12 => Option.bind (sensor_Implied_S F l0 now0 r0) (un2 fun x_13 x_14 => (skewbackref39_Implied_S F l0 now0 r0).bind fun x_15 => (skewbacklaw39_sanity_S F).bind fun x_16 => (gcall x_16 (skewbacklaw39_ints_S F x_10 x_12.L)).bind fun x_17 => letN (((x_16 && x_17) && (decide (x_11 = x_12.Axis))) && (x_13 == x_15.Is)) fun x_18 => some (x_18 && (decide (x_14 = x_15.E)))))) (fun y => some y)))))
theorem skewbacklaw39_SensorAnswersAsSpecified_spec {F : Nat} {l0 : List Report} {now0 : Int} {r0 : Report} {r : Bool} (h : skewbacklaw39_SensorAnswersAsSpecified_S F l0 now0 r0 = some r) : Meets Try.prog [] 3 [] [.one (.sl 6 (l0.map eReport)), .one (.i now0), .agg (eReport r0)] (Is [] (.b (.one (.bool r)))) := by
 unfold skewbacklaw39_SensorAnswersAsSpecified_S at h
 refine Meets.intro 113 Try.func3 Try.ntmps3 rfl (by simp) fun E => ?_
 show Tri _ E ⟨113, [], [], []⟩ _ ⟨[(0, .b (.one (.sl 6 (l0.map eReport)))), (1, I now0), (2, .b (.agg (eReport r0)))], []⟩ _
 refine Tri.seq (Tri.regionL ?_)
 refine Oc (op_box (k := 101) rfl rfl) (Oc oa ?_)
 refine OpsL.nilS ⟨[(0, .b (.one (.sl 6 (l0.map eReport)))), (1, I now0), (5, Pt 101 0)], [(101, .box 24 (eReport r0))]⟩ rfl (Tri.seq (Tri.seq (Tri.regionL ?_)))
 refine Oc om ?_
 obtain ⟨x_1, e1, h⟩ := bnd h
 refine Oc (op_call0 (skewbackref39_Few_spec e1) goes8 rfl rfl) (Oc (op_not rfl) (Oc om ?_))
 refine CgF (!(!x_1)) [] (fun g2 => trivial) (fun g2 => op_field_p tyFld24_0 rfl rfl) (OpsL.keepS ⟨[(0, _), (1, _), (5, _), (20, B (!x_1)), (21, .opt (!(!x_1)) (.ptr 101 0))], [(101, _)]⟩ rfl (CgF (!(!x_1)) [21] (fun g3 => ⟨g3, trivial⟩) (fun g3 => op_load_p1 tyOne3 rfl rfl rfl) (CgF (!(!x_1)) [22] (fun g4 => ⟨g4, trivial⟩) (fun g4 => op_gtr rfl rfl) (Oc (op_pick_or (fun e => by rw [e]; rfl) rfl rfl rfl rfl) (Oc om ?_)))))
 refine CgF (!((!x_1) || (decide (9 < r0.A)))) [] (fun g5 => trivial) (fun g5 => op_field_p tyFld24_1 rfl rfl) (CgF (!((!x_1) || (decide (9 < r0.A)))) [26] (fun g6 => ⟨g6, trivial⟩) (fun g6 => op_load_p1 tyOne3 rfl rfl rfl) (CgF (!((!x_1) || (decide (9 < r0.A)))) [27] (fun g7 => ⟨g7, trivial⟩) (fun g7 => op_gtr rfl rfl) (Oc (op_pick_or (fun e => by rw [e]; rfl) rfl rfl rfl rfl) (OpsL.nilS ⟨[(0, _), (1, _), (5, _), (29, B (((!x_1) || (decide (9 < r0.A))) || (decide (9 < r0.B))))], [(101, _)]⟩ rfl (Tri.ite h rfl (fun _ h => ?_) (fun _ h => ?_))))))
 ·refine Tri.seq (Tri.regionL ?_)
  obtain ⟨x_2, e8, h⟩ := bnd h
  refine Oc (op_call0 (skewbacklaw39_sanity_spec e8) goes9 rfl rfl) (Oc oa ?_)
  refine OpsL.nilS ⟨[(6, B x_2)], []⟩ rfl (Tri.ret (Fin.then_ret ?_))
  obtain rfl := Option.some.inj h
  refine Fin.keepS ⟨[(6, _)], []⟩ rfl (Fin.result' [.one (.bool x_2)] (.inl rfl) rfl (.cons (.tmp rfl) .nil) ⟨rfl, rfl⟩)
 ·refine Tri.skip (Fin.keepS ⟨[(0, _), (1, _), (5, _)], [(101, _)]⟩ rfl (Fin.then (Tri.seq (Tri.regionL ?_))))
  refine Oc om (Oc om ?_)
  obtain ⟨⟨x_3, x_4⟩, e9, h⟩ := bnd h
  refine Oc (op_call (sensor_Boxes_spec 102 e9) goes10 rfl trivial rfl rfl) (Oc om (Oc (op_extract rfl rfl) ?_))
  refine OpsL.keepS ⟨[(0, _), (1, _), (5, _), (31, .tup [.row 102, .one (.i x_4)]), (35, .b (.row 102))], [(101, _), (102, .row 36 12 (x_3.map eArr3Bound))]⟩ rfl (Oc (op_extract rfl rfl) (Oc oa (Oc oa ?_)))
  refine OpsL.nilS ⟨[(0, _), (1, _), (5, _), (7, .b (.row 102)), (8, I x_4)], [(101, _), (102, _)]⟩ rfl (Tri.seq (Tri.regionL ?_))
  refine Oc om (Oc om ?_)
  obtain ⟨x_5, e10, h⟩ := bnd h
  refine Oc (op_call0 (skewbackref39_Boxes_spec e10) goes11 rfl rfl) (Oc (op_alloc (k := 103) tyZero32 rfl) (Oc (op_store_p tyAgg32 rfl rfl rfl rfl (Nat.le_of_ble_eq_true rfl) rfl) ?_))
  refine OpsL.nilS ⟨[(0, _), (1, _), (5, _), (7, _), (8, _), (9, Pt 103 0)], [(101, _), (102, _), (103, .box 32 (eRanges x_5))]⟩ rfl (Tri.seq (Tri.seq (Tri.regionL ?_)))
  refine Oc om (Oc (op_field_p tyFld32_1 rfl rfl) (Oc (op_load_p1 tyOne28 rfl rfl rfl) (Oc (op_neq rfl rfl) (Oc om ?_))))
  refine CgF (!(decide (x_4 ≠ x_5.E))) [] (fun g11 => trivial) (fun g11 => om) (OpsL.keepS ⟨[(0, _), (1, _), (5, _), (7, _), (9, _), (44, B (decide (x_4 ≠ x_5.E))), (45, .opt (!(decide (x_4 ≠ x_5.E))) (.row 102))], [(101, _), (102, _), (103, _)]⟩ rfl (CgF (!(decide (x_4 ≠ x_5.E))) [45] (fun g12 => by exact ⟨g12, trivial⟩) (fun g12 => op_len_r' und27 rfl rfl (List.length_map _)) (CgF (!(decide (x_4 ≠ x_5.E))) [] (fun g13 => by exact trivial) (fun g13 => op_field_p tyFld32_0 rfl rfl) (CgF (!(decide (x_4 ≠ x_5.E))) [47] (fun g14 => by exact ⟨g14, trivial⟩) (fun g14 => op_load_p1 tyOne27 rfl rfl rfl) (CgF (!(decide (x_4 ≠ x_5.E))) [48] (fun g15 => by exact ⟨g15, trivial⟩) (fun g15 => op_len_e' und27 rfl (List.length_map _)) ?_)))))
  refine CgF (!(decide (x_4 ≠ x_5.E))) [46, 49] (fun g16 => ⟨g16, g16, trivial⟩) (fun g16 => op_neq rfl rfl) (OpsL.consB h rfl (op_pick_or (fun e => by rw [e]; rfl) rfl rfl rfl rfl) (fun x_6 h => ?_))
  refine OpsL.nilS ⟨[(0, _), (1, _), (5, _), (7, _), (9, _), (51, B x_6)], [(101, _), (102, _), (103, _)]⟩ rfl (Tri.ite h rfl (fun _ h => ?_) (fun _ h => ?_))
  ·refine Tri.seq (Tri.regionL ?_)
   refine Oc oa (OpsL.nilS ⟨[(6, B false)], []⟩ rfl (Tri.ret (Fin.then_ret ?_)))
   obtain rfl := Option.some.inj h
   refine Fin.keepS ⟨[(6, _)], []⟩ rfl (Fin.result' [.one (.bool false)] (.inl rfl) rfl (.cons (.tmp rfl) .nil) ⟨rfl, rfl⟩)
  ·refine Tri.skip (Fin.keepS ⟨[(0, _), (1, _), (5, _), (7, _), (9, _)], [(101, _), (102, _), (103, _)]⟩ rfl (Fin.then ?_))
   obtain ⟨v17, h18, h⟩ := bnd h
   refine Tri.seqJ (v := v17) (fun (_ : Unit) => ⟨[(0, .b (.one (.sl 6 (l0.map eReport)))), (1, I now0), (5, Pt 101 0)], [(101, .box 24 (eReport r0))]⟩) (fun z => .inl z) ?_ ?_
   ·refine Tri.seq (Tri.regionL ?_)
    refine Oc om (Oc (op_len_r' und27 rfl rfl (List.length_map _)) (Oc om ?_))
    refine OpsL.nilS ⟨[(0, _), (1, _), (5, _), (7, _), (9, _), (53, I (x_3.length : Int)), (54, I 0)], [(101, _), (102, _), (103, _)]⟩ rfl (Tri.block (Tri.loopJ h18 (fun (x_7 : Int) => ⟨[(0, .b (.one (.sl 6 (l0.map eReport)))), (1, I now0), (5, Pt 101 0), (7, .b (.row 102)), (9, Pt 103 0), (53, I (x_3.length : Int)), (54, I x_7)], [(101, .box 24 (eReport r0)), (102, .row 36 12 (x_3.map eArr3Bound)), (103, .box 32 (eRanges x_5))]⟩) [0, 1, 5, 7, 9, 53, 54] [101, 102, 103] rfl ?_))
    rintro x_7 o19 h20 hy21
    refine Tri.seq (Tri.regionL ?_)
    refine Oc (op_lss rfl rfl) (OpsL.nilS ⟨[(0, _), (1, _), (5, _), (7, _), (9, _), (53, _), (54, _), (55, B (decide (x_7 < (x_3.length : Int))))], [(101, _), (102, _), (103, _)]⟩ rfl (Tri.seq (Tri.ite h20 rfl (fun _ h20 => ?_) (fun _ h20 => ?_))))
    ·refine Tri.skip (Fin.keepS ⟨[(0, _), (1, _), (5, _), (7, _), (9, _), (53, _), (54, _)], [(101, _), (102, _), (103, _)]⟩ rfl (Fin.then (Tri.seq (Tri.block (Tri.seq (Tri.regionL ?_))))))
     refine Oc om (Oc oa ?_)
     refine OpsL.nilS ⟨[(0, _), (1, _), (5, _), (7, _), (9, _), (10, I x_7), (53, _), (54, _)], [(101, _), (102, _), (103, _)]⟩ rfl (Tri.seq ?_)
     obtain ⟨x_8, e22, h20⟩ := bnd h20
     obtain ⟨x_9, e23, h20⟩ := bnd h20
     refine Tri.regionY mixed 10 [.b (.row 102), I x_7, .b (.rptr 102 ((x_7 : Int).toNat * 12)), .b (.agg (eArr3Bound x_8)), Pt 103 0, .b (.one (.sl 12 (x_5.L.map eArr3Bound))), I x_7, .b (.eptr (eArr3Bound x_9)), .b (.agg (eArr3Bound x_9)), B (decide (x_8 ≠ x_9))] [0, 1, 5, 7, 9, 53, 54, 66] [101, 102, 103] (s' := ⟨[(0, _), (1, _), (5, _), (7, _), (9, _), (53, _), (54, _), (66, B (decide (x_8 ≠ x_9)))], [(101, _), (102, _), (103, _)]⟩) rfl ⟨fun _ => .p om, fun _ => .p om, fun _ => .p (op_index_r tySl27 (ix_lo e22) (ix_lt' e22) rfl rfl rfl rfl), fun _ => .p (op_load_r (i := (x_7 : Int).toNat) (f := 0) tyAgg36 rfl rfl rfl (ix_map (e := eArr3Bound) e22) rfl rfl), fun _ => .p (op_field_p tyFld32_0 rfl rfl), fun _ => .p (op_load_p1 tyOne27 rfl rfl rfl), fun _ => .p om, fun _ => .p (op_index_e tySl27 (ix_lo e23) (ix_map (e := eArr3Bound) e23) rfl rfl), fun _ => .p (op_load_e tyAgg36 rfl rfl rfl), fun _ => .p (op_neq_agg (eqAgg36 x_8 x_9) rfl rfl neg_dec), trivial⟩ rfl rfl (Tri.ite h20 rfl (fun _ h20 => ?_) (fun _ h20 => ?_))
     ·refine Tri.seq (Tri.regionL ?_)
      refine Oc oa (OpsL.nilS ⟨[(6, B false)], []⟩ rfl (Tri.ret (Fin.block_ret (Fin.then_ret ?_))))
      obtain rfl := hy21 _ (Option.some.inj h20).symm
      refine Fin.then_ret (Fin.block_ret (Fin.then_ret ?_))
      obtain rfl := Option.some.inj h
      refine Fin.keepS ⟨[(6, _)], []⟩ rfl (Fin.result' [.one (.bool false)] (.inl rfl) rfl (.cons (.tmp rfl) .nil) ⟨rfl, rfl⟩)
     ·refine Tri.skip (Fin.block_normal (Fin.keepS ⟨[(0, _), (1, _), (5, _), (7, _), (9, _), (53, _), (54, _)], [(101, _), (102, _), (103, _)]⟩ rfl (Fin.then (Tri.regionL ?_))))
      refine Oc (op_add rfl rfl) (Oc om ?_)
      refine OpsL.nil ?_
      exact Fin.againJ [0, 1, 5, 7, 9, 53, 54] [101, 102, 103] (IntKind.i64.wrap (x_7 + 1)) (Option.some.inj h20) rfl
    ·refine Tri.exit (Fin.then_exit ?_)
     obtain rfl := hy21 _ (Option.some.inj h20).symm
     refine Fin.then_exit (Fin.block_exit ?_)
     exact Fin.join [0, 1, 5] [101] () rfl rfl
   ·rintro _ hv
    subst v17
    refine Tri.seq (Tri.regionL ?_)
    refine Oc om (Oc om ?_)
    obtain ⟨⟨x_10, x_11⟩, e24, h⟩ := bnd h
    refine Oc (op_call0 (sensor_Contradiction_spec e24) goes12 rfl rfl) (Oc om (Oc (op_extract rfl rfl) ?_))
    refine OpsL.keepS ⟨[(0, _), (1, _), (5, _), (68, .tup [.one (.sl 1 (x_10.map eI)), .one (.i x_11)]), (72, .b (.one (.sl 1 (x_10.map eI))))], [(101, _)]⟩ rfl (Oc (op_extract rfl rfl) (Oc oa (Oc oa ?_)))
    refine OpsL.nilS ⟨[(0, _), (1, _), (5, _), (11, .b (.one (.sl 1 (x_10.map eI)))), (12, I x_11)], [(101, _)]⟩ rfl (Tri.seq (Tri.regionL ?_))
    refine Oc om (Oc om ?_)
    obtain ⟨x_12, e25, h⟩ := bnd h
    refine Oc (op_call0 (skewbackref39_Contradiction_spec e25) goes13 rfl rfl) (Oc (op_alloc (k := 104) tyZero41 rfl) (Oc (op_store_p tyAgg41 rfl rfl rfl rfl (Nat.le_of_ble_eq_true rfl) rfl) ?_))
    refine OpsL.nilS ⟨[(0, _), (1, _), (5, _), (11, _), (12, _), (13, Pt 104 0)], [(101, _), (104, .box 41 (ePSet x_12))]⟩ rfl (Tri.seq (Tri.regionL ?_))
    refine Oc om (Oc om (Oc (lp tyAgg24) ?_))
    obtain ⟨⟨x_13, x_14⟩, e26, h⟩ := bnd h
    refine Oc (op_call0 (sensor_Implied_spec e26) goes14 rfl rfl) (Oc om ?_)
    refine OpsL.keepS ⟨[(0, _), (1, _), (5, _), (11, _), (12, _), (13, _), (77, .tup [.one (.bool x_13), .one (.i x_14)])], [(101, _), (104, _)]⟩ rfl (Oc (op_extract rfl rfl) (Oc (op_extract rfl rfl) (Oc oa (Oc oa ?_))))
    refine OpsL.nilS ⟨[(0, _), (1, _), (5, _), (11, _), (12, _), (13, _), (14, B x_13), (15, I x_14)], [(101, _), (104, _)]⟩ rfl (Tri.seq (Tri.regionL ?_))
    refine Oc om (Oc om (Oc (lp tyAgg24) ?_))
    obtain ⟨x_15, e27, h⟩ := bnd h
    refine Oc (op_call0 (skewbackref39_Implied_spec e27) goes15 rfl rfl) (Oc (op_alloc (k := 105) tyZero46 rfl) (Oc (op_store_p tyAgg46 rfl rfl rfl rfl (Nat.le_of_ble_eq_true rfl) rfl) ?_))
    refine OpsL.nilS ⟨[(11, _), (12, _), (13, _), (14, _), (15, _), (16, Pt 105 0)], [(104, _), (105, .box 46 (eAnswer x_15))]⟩ rfl (Tri.seq (Tri.regionL ?_))
    obtain ⟨x_16, e28, h⟩ := bnd h
    refine Oc (op_call0 (skewbacklaw39_sanity_spec e28) goes9 rfl rfl) (Oc om ?_)
    refine CgT x_16 [] (fun g29 => trivial) (fun g29 => om) (CgT x_16 [] (fun g30 => by exact trivial) (fun g30 => op_field_p tyFld41_0 rfl rfl) (CgT x_16 [91] (fun g31 => by exact ⟨g31, trivial⟩) (fun g31 => op_load_p1 tyOne37 rfl rfl rfl) (OpsL.keepS ⟨[(12, _), (13, _), (14, _), (15, _), (16, _), (89, B x_16), (90, .opt x_16 (.one (.sl 1 (x_10.map eI)))), (92, .opt x_16 (.one (.sl 1 (x_12.L.map eI))))], [(104, _), (105, _)]⟩ rfl ?_)))
    obtain ⟨x_17, e33, h⟩ := bnd h
    refine CgT x_16 [90, 92] (fun g32 => ⟨g32, g32, trivial⟩) (fun g32 => op_call0 (skewbacklaw39_ints_spec (gc e33 g32)) goes16 rfl rfl) (Oc (op_pick_and (fun e => e) rfl rfl rfl rfl) (Oc om ?_))
    refine CgT (x_16 && x_17) [] (fun g34 => trivial) (fun g34 => om) (CgT (x_16 && x_17) [] (fun g35 => by exact trivial) (fun g35 => op_field_p tyFld41_1 rfl rfl) (CgT (x_16 && x_17) [97] (fun g36 => by exact ⟨g36, trivial⟩) (fun g36 => op_load_p1 tyOne3 rfl rfl rfl) (CgT (x_16 && x_17) [96, 98] (fun g37 => by exact ⟨g37, g37, trivial⟩) (fun g37 => op_eql rfl rfl) (Oc (op_pick_and (fun e => e) rfl rfl rfl rfl) (OpsL.keepS ⟨[(14, _), (15, _), (16, _), (100, B ((x_16 && x_17) && (decide (x_11 = x_12.Axis))))], [(105, _)]⟩ rfl ?_)))))
    refine Oc om (CgT ((x_16 && x_17) && (decide (x_11 = x_12.Axis))) [] (fun g38 => by exact trivial) (fun g38 => om) (CgT ((x_16 && x_17) && (decide (x_11 = x_12.Axis))) [] (fun g39 => by exact trivial) (fun g39 => op_field_p tyFld46_0 rfl rfl) (CgT ((x_16 && x_17) && (decide (x_11 = x_12.Axis))) [103] (fun g40 => by exact ⟨g40, trivial⟩) (fun g40 => op_load_p1 tyOne4 rfl rfl rfl) (CgT ((x_16 && x_17) && (decide (x_11 = x_12.Axis))) [102, 104] (fun g41 => by exact ⟨g41, g41, trivial⟩) (fun g41 => op_eql_bool und4 rfl rfl) (OpsL.consB h rfl (op_pick_and (fun e => e) rfl rfl rfl rfl) (fun x_18 h => ?_))))))
    refine Oc om (CgT x_18 [] (fun g42 => by exact trivial) (fun g42 => om) (OpsL.keepS ⟨[(16, _), (107, B x_18), (108, .opt x_18 (.one (.i x_14)))], [(105, _)]⟩ rfl (CgT x_18 [] (fun g43 => by exact trivial) (fun g43 => op_field_p tyFld46_1 rfl rfl) (CgT x_18 [109] (fun g44 => by exact ⟨g44, trivial⟩) (fun g44 => op_load_p1 tyOne28 rfl rfl rfl) (CgT x_18 [108, 110] (fun g45 => by exact ⟨g45, g45, trivial⟩) (fun g45 => op_eql rfl rfl) ?_)))))
    refine Oc (op_pick_and (fun e => e) rfl rfl rfl rfl) (Oc oa ?_)
    refine OpsL.nilS ⟨[(6, B (x_18 && (decide (x_14 = x_15.E))))], []⟩ rfl (Tri.ret ?_)
    obtain rfl := Option.some.inj h
    refine Fin.keepS ⟨[(6, _)], []⟩ rfl (Fin.result' [.one (.bool (x_18 && (decide (x_14 = x_15.E))))] (.inl rfl) rfl (.cons (.tmp rfl) .nil) ⟨rfl, rfl⟩)
end Go.Proofs.Ytimhhebjefkjlaa

