/- printed walks -/
import Derived.Test.YtimhhebjefkjlaaW1
namespace Go.Proofs.Ytimhhebjefkjlaa
open Go.Sk Go
set_option maxHeartbeats 1000000
set_option maxRecDepth 4000
set_option linter.unusedSimpArgs false
set_option linter.unusedVariables false
def skewbacklaw39_sanity_S (F : Nat) : Option Bool :=
 (skewbacklaw39_is_S F 0 1 2 5).bind fun x_1 => (skewbacklaw39_is_S F 1 2 1 1).bind fun x_2 => (skewbacklaw39_is_S F 0 2 0 4).bind fun x_3 => (take? [x_1, x_2, x_3] 2).bind fun x_4 => Option.bind (sensor_Boxes_S F x_4 0) (un2 fun x_5 x_6 => Option.bind (sensor_Boxes_S F [x_1, x_2, x_3] 0) (un2 fun x_7 x_8 => Option.bind (sensor_Solution_S F [x_1, x_2, x_3] 0) (un2 fun x_9 x_10 => letN (((decide (x_6 ≠ 0)) || (decide (x_8 ≠ 0))) || (decide (x_10 ≠ 0))) fun x_11 => letN ((x_11 || (decide ((x_5.length : Int) ≠ 2))) || (decide ((x_7.length : Int) ≠ 2))) fun x_12 => if (x_12 || (decide ((x_9.length : Int) ≠ 2))) = true then (some false) else ((idx? x_5 0).bind fun x_13 => (skewbacklaw39_sanity_1_S F 2 5).bind fun x_14 => (gcall (decide (x_13 = x_14)) (idx? x_5 1)).bind fun x_15 => (gcall (decide (x_13 = x_14)) (skewbacklaw39_sanity_1_S F 3 6)).bind fun x_16 => (gcall ((decide (x_13 = x_14)) && (decide (x_15 = x_16))) (idx? x_7 0)).bind fun x_17 => (gcall ((decide (x_13 = x_14)) && (decide (x_15 = x_16))) (skewbacklaw39_sanity_1_S F 2 3)).bind fun x_18 => (gcall (((decide (x_13 = x_14)) && (decide (x_15 = x_16))) && (decide (x_17 = x_18))) (idx? x_7 1)).bind fun x_19 => (gcall (((decide (x_13 = x_14)) && (decide (x_15 = x_16))) && (decide (x_17 = x_18))) (skewbacklaw39_sanity_1_S F 3 4)).bind fun x_20 => (gcall ((((decide (x_13 = x_14)) && (decide (x_15 = x_16))) && (decide (x_17 = x_18))) && (decide (x_19 = x_20))) (idx? x_9 0)).bind fun x_21 => (gcall (((((decide (x_13 = x_14)) && (decide (x_15 = x_16))) && (decide (x_17 = x_18))) && (decide (x_19 = x_20))) && (decide (x_21 = (⟨2, 0, 0⟩ : A3)))) (idx? x_9 1)).bind fun x_22 => (take? [x_1, x_2, x_3] 3).bind fun x_23 => (skewbacklaw39_is_S F 0 2 5 9).bind fun x_24 => (app? x_23 [x_24]).bind fun x_25 => Option.bind (sensor_Contradiction_S F x_25 0) (un2 fun x_26 x_27 => (take? [x_1, x_2, x_3] 2).bind fun x_28 => (skewbacklaw39_is_S F 0 2 0 2).bind fun x_29 => (app? x_28 [x_29]).bind fun x_30 => Option.bind (sensor_Contradiction_S F x_30 0) (un2 fun x_31 x_32 => Option.bind (sensor_Contradiction_S F [x_1, x_2, x_3] 0) (un2 fun x_33 x_34 => (take? [x_1, x_2, x_3] 2).bind fun x_35 => (skewbacklaw39_is_S F 0 2 3 7).bind fun x_36 => Option.bind (sensor_Implied_S F x_35 0 x_36) (un2 fun x_37 x_38 => (take? [x_1, x_2, x_3] 2).bind fun x_39 => (skewbacklaw39_is_S F 0 2 4 6).bind fun x_40 => Option.bind (sensor_Implied_S F x_39 0 x_40) (un2 fun x_41 x_42 => (skewbacklaw39_ints_S F x_26 [2, 3]).bind fun x_43 => (gcall (x_43 && (decide (x_27 = 0))) (skewbacklaw39_ints_S F x_31 [0, 1, 2])).bind fun x_44 => letN (((x_43 && (decide (x_27 = 0))) && x_44) && (decide (x_32 = 0))) fun x_45 => letN ((x_45 && (decide ((x_33.length : Int) = 0))) && (decide (x_34 = (-1)))) fun x_46 => letN ((((((decide (x_13 = x_14)) && (decide (x_15 = x_16))) && (decide (x_17 = x_18))) && (decide (x_19 = x_20))) && (decide (x_21 = (⟨2, 0, 0⟩ : A3)))) && (decide (x_22 = (⟨3, 0, 0⟩ : A3)))) fun x_47 => letN (((((x_47 && x_46) && x_37) && (!x_41)) && (decide (x_38 = 0))) && (decide (x_42 = 0))) fun x_48 => (gcall x_48 (sensor_Consistent_S F [x_1, x_2, x_3] 0)).bind fun x_49 => (gcall (x_48 && x_49) (sensor_Fits_S F [x_1, x_2, x_3] 0 x_9)).bind fun x_50 => some ((x_48 && x_49) && x_50))))))))))
theorem skewbacklaw39_sanity_spec {F : Nat} {r : Bool} (h : skewbacklaw39_sanity_S F = some r) : Meets Try.prog [] 9 [] [] (Is [] (.b (.one (.bool r)))) := by
 unfold skewbacklaw39_sanity_S at h
 refine Meets.intro 200 Try.func9 Try.ntmps9 rfl (by simp) fun E => ?_
 show Tri _ E ⟨200, [], [], []⟩ _ ⟨[], []⟩ _
 refine Tri.seq (Tri.regionL ?_)
 refine Oc oa (OpsL.nilS ⟨[], []⟩ rfl (Tri.seq (Tri.regionL ?_)))
 obtain ⟨x_1, e1, h⟩ := bnd h
 refine Oc (op_call0 (skewbacklaw39_is_spec e1) goes31 rfl rfl) ?_
 obtain ⟨x_2, e2, h⟩ := bnd h
 refine Oc (op_call0 (skewbacklaw39_is_spec e2) goes31 rfl rfl) (OpsL.keepS ⟨[(21, .b (.agg (eReport x_1))), (22, .b (.agg (eReport x_2)))], []⟩ rfl ?_)
 obtain ⟨x_3, e3, h⟩ := bnd h
 refine Oc (op_call0 (skewbacklaw39_is_spec e3) goes31 rfl rfl) (Oc (op_buildSlice (k := 101) (es := [x_1, x_2, x_3].map eReport) tySl22 rfl rfl (uni_map fun _ => rfl) rfl (by decide) (by decide) rfl) (Oc oa ?_))
 refine OpsL.nilS ⟨[(1, .b (.row 101))], [(101, .row 24 6 ([x_1, x_2, x_3].map eReport))]⟩ rfl (Tri.seq (Tri.regionL ?_))
 refine Oc om (OpsL.persist 101 rfl ?_)
 obtain ⟨x_4, e4, h⟩ := bnd h
 refine Oc (op_slice_h2 tySl22 e4 rfl rfl) ?_
 obtain ⟨⟨x_5, x_6⟩, e5, h⟩ := bnd h
 refine Oc (op_call (sensor_Boxes_spec 102 e5) goes10 rfl trivial rfl rfl) (OpsL.keepS ⟨[(1, .b (.one (.sl 6 ([x_1, x_2, x_3].map eReport)))), (28, .tup [.row 102, .one (.i x_6)])], [(102, .row 36 12 (x_5.map eArr3Bound))]⟩ rfl (Oc om (Oc (op_extract rfl rfl) (Oc (op_extract rfl rfl) (Oc oa (Oc oa ?_))))))
 refine OpsL.nilS ⟨[(1, _), (2, .b (.row 102)), (3, I x_6)], [(102, _)]⟩ rfl (Tri.seq (Tri.regionL ?_))
 refine Oc om ?_
 obtain ⟨⟨x_7, x_8⟩, e6, h⟩ := bnd h
 refine Oc (op_call (sensor_Boxes_spec 103 e6) goes10 rfl trivial rfl rfl) (Oc om (Oc (op_extract rfl rfl) (Oc (op_extract rfl rfl) (Oc oa (Oc oa ?_)))))
 refine OpsL.nilS ⟨[(1, _), (2, _), (3, _), (4, .b (.row 103)), (5, I x_8)], [(102, _), (103, .row 36 12 (x_7.map eArr3Bound))]⟩ rfl (Tri.seq (Tri.regionL ?_))
 refine Oc om ?_
 obtain ⟨⟨x_9, x_10⟩, e7, h⟩ := bnd h
 refine Oc (op_call (sensor_Solution_spec 104 e7) goes24 rfl trivial rfl rfl) (Oc om (Oc (op_extract rfl rfl) (Oc (op_extract rfl rfl) (Oc oa (Oc oa ?_)))))
 refine OpsL.nilS ⟨[(1, _), (2, _), (3, _), (4, _), (5, _), (6, .b (.row 104)), (7, I x_10)], [(102, _), (103, _), (104, .row 52 3 (x_9.map (eA3 .i64)))]⟩ rfl (Tri.seq (Tri.seq (Tri.regionL ?_)))
 refine Oc om (Oc (op_neq rfl rfl) (Oc om ?_))
 refine CgF (!(decide (x_6 ≠ 0))) [] (fun g8 => trivial) (fun g8 => om) (CgF (!(decide (x_6 ≠ 0))) [44] (fun g9 => by exact ⟨g9, trivial⟩) (fun g9 => op_neq rfl rfl) (Oc (op_pick_or (fun e => by rw [e]; rfl) rfl rfl rfl rfl) (Oc om ?_)))
 refine OpsL.keepS ⟨[(1, _), (2, _), (4, _), (6, _), (7, _), (47, B ((decide (x_6 ≠ 0)) || (decide (x_8 ≠ 0))))], [(102, _), (103, _), (104, _)]⟩ rfl (CgF (!((decide (x_6 ≠ 0)) || (decide (x_8 ≠ 0)))) [] (fun g10 => trivial) (fun g10 => om) (CgF (!((decide (x_6 ≠ 0)) || (decide (x_8 ≠ 0)))) [48] (fun g11 => by exact ⟨g11, trivial⟩) (fun g11 => op_neq rfl rfl) (OpsL.consB h rfl (op_pick_or (fun e => by rw [e]; rfl) rfl rfl rfl rfl) (fun x_11 h => ?_))))
 refine Oc om (CgF (!x_11) [] (fun g12 => by exact trivial) (fun g12 => om) (CgF (!x_11) [52] (fun g13 => by exact ⟨g13, trivial⟩) (fun g13 => op_len_r' und27 rfl rfl (List.length_map _)) (CgF (!x_11) [53] (fun g14 => by exact ⟨g14, trivial⟩) (fun g14 => op_neq rfl rfl) (OpsL.keepS ⟨[(1, _), (2, _), (4, _), (6, _), (51, B x_11), (54, .opt (!x_11) (.one (.bool (decide ((x_5.length : Int) ≠ 2)))))], [(102, _), (103, _), (104, _)]⟩ rfl (Oc (op_pick_or (fun e => by rw [e]; rfl) rfl rfl rfl rfl) (Oc om ?_))))))
 refine CgF (!(x_11 || (decide ((x_5.length : Int) ≠ 2)))) [] (fun g15 => trivial) (fun g15 => om) (CgF (!(x_11 || (decide ((x_5.length : Int) ≠ 2)))) [57] (fun g16 => by exact ⟨g16, trivial⟩) (fun g16 => op_len_r' und27 rfl rfl (List.length_map _)) (CgF (!(x_11 || (decide ((x_5.length : Int) ≠ 2)))) [58] (fun g17 => by exact ⟨g17, trivial⟩) (fun g17 => op_neq rfl rfl) (OpsL.consB h rfl (op_pick_or (fun e => by rw [e]; rfl) rfl rfl rfl rfl) (fun x_12 h => ?_))))
 refine Oc om (OpsL.keepS ⟨[(1, _), (2, _), (4, _), (6, _), (61, B x_12)], [(102, _), (103, _), (104, _)]⟩ rfl (CgF (!x_12) [] (fun g18 => by exact trivial) (fun g18 => om) (CgF (!x_12) [62] (fun g19 => by exact ⟨g19, trivial⟩) (fun g19 => op_len_r' und50 rfl rfl (List.length_map _)) (CgF (!x_12) [63] (fun g20 => by exact ⟨g20, trivial⟩) (fun g20 => op_neq rfl rfl) (Oc (op_pick_or (fun e => by rw [e]; rfl) rfl rfl rfl rfl) ?_)))))
 refine OpsL.nilS ⟨[(1, _), (2, _), (4, _), (6, _), (65, B (x_12 || (decide ((x_9.length : Int) ≠ 2))))], [(102, _), (103, _), (104, _)]⟩ rfl (Tri.ite h rfl (fun _ h => ?_) (fun _ h => ?_))
 ·refine Tri.seq (Tri.regionL ?_)
  refine Oc oa (OpsL.nilS ⟨[(0, B false)], []⟩ rfl (Tri.ret (Fin.then_ret ?_)))
  obtain rfl := Option.some.inj h
  refine Fin.keepS ⟨[(0, _)], []⟩ rfl (Fin.result' [.one (.bool false)] (.inl rfl) rfl (.cons (.tmp rfl) .nil) ⟨rfl, rfl⟩)
 ·refine Tri.skip (Fin.keepS ⟨[(1, _), (2, _), (4, _), (6, _)], [(102, _), (103, _), (104, _)]⟩ rfl (Fin.then (Tri.seq (Tri.regionL ?_))))
  refine Oc oa (OpsL.nilS ⟨[(1, _), (2, _), (4, _), (6, _), (8, .b (.one (.raw (.func (.func 32) #[] #[]))))], [(102, _), (103, _), (104, _)]⟩ rfl (Tri.seq ?_))
  obtain ⟨x_13, e21, h⟩ := bnd h
  obtain ⟨x_14, e22, h⟩ := bnd h
  obtain ⟨x_15, e25, h⟩ := bnd h
  obtain ⟨x_16, e29, h⟩ := bnd h
  obtain ⟨x_17, e33, h⟩ := bnd h
  obtain ⟨x_18, e37, h⟩ := bnd h
  obtain ⟨x_19, e41, h⟩ := bnd h
  obtain ⟨x_20, e45, h⟩ := bnd h
  obtain ⟨x_21, e49, h⟩ := bnd h
  obtain ⟨x_22, e55, h⟩ := bnd h
  refine Tri.regionY mixed 45 [.b (.row 102), .b (.rptr 102 ((0 : Int).toNat * 12)), .b (.agg (eArr3Bound x_13)), .b (.one (.raw (.func (.func 32) #[] #[]))), .b (.agg (eArr3Bound x_14)), B (decide (x_13 = x_14)), B (decide (x_13 = x_14)), .opt (decide (x_13 = x_14)) (.row 102), .opt (decide (x_13 = x_14)) (.rptr 102 ((1 : Int).toNat * 12)), .opt (decide (x_13 = x_14)) (.agg (eArr3Bound x_15)), .opt (decide (x_13 = x_14)) (.one (.raw (.func (.func 32) #[] #[]))), .opt (decide (x_13 = x_14)) (.agg (eArr3Bound x_16)), .opt (decide (x_13 = x_14)) (.one (.bool (decide (x_15 = x_16)))), B ((decide (x_13 = x_14)) && (decide (x_15 = x_16))), B ((decide (x_13 = x_14)) && (decide (x_15 = x_16))), .opt ((decide (x_13 = x_14)) && (decide (x_15 = x_16))) (.row 103), .opt ((decide (x_13 = x_14)) && (decide (x_15 = x_16))) (.rptr 103 ((0 : Int).toNat * 12)), .opt ((decide (x_13 = x_14)) && (decide (x_15 = x_16))) (.agg (eArr3Bound x_17)), .opt ((decide (x_13 = x_14)) && (decide (x_15 = x_16))) (.one (.raw (.func (.func 32) #[] #[]))), .opt ((decide (x_13 = x_14)) && (decide (x_15 = x_16))) (.agg (eArr3Bound x_18)), .opt ((decide (x_13 = x_14)) && (decide (x_15 = x_16))) (.one (.bool (decide (x_17 = x_18)))), B (((decide (x_13 = x_14)) && (decide (x_15 = x_16))) && (decide (x_17 = x_18))), B (((decide (x_13 = x_14)) && (decide (x_15 = x_16))) && (decide (x_17 = x_18))), .opt (((decide (x_13 = x_14)) && (decide (x_15 = x_16))) && (decide (x_17 = x_18))) (.row 103), .opt (((decide (x_13 = x_14)) && (decide (x_15 = x_16))) && (decide (x_17 = x_18))) (.rptr 103 ((1 : Int).toNat * 12)), .opt (((decide (x_13 = x_14)) && (decide (x_15 = x_16))) && (decide (x_17 = x_18))) (.agg (eArr3Bound x_19)), .opt (((decide (x_13 = x_14)) && (decide (x_15 = x_16))) && (decide (x_17 = x_18))) (.one (.raw (.func (.func 32) #[] #[]))), .opt (((decide (x_13 = x_14)) && (decide (x_15 = x_16))) && (decide (x_17 = x_18))) (.agg (eArr3Bound x_20)), .opt (((decide (x_13 = x_14)) && (decide (x_15 = x_16))) && (decide (x_17 = x_18))) (.one (.bool (decide (x_19 = x_20)))), B ((((decide (x_13 = x_14)) && (decide (x_15 = x_16))) && (decide (x_17 = x_18))) && (decide (x_19 = x_20))), B ((((decide (x_13 = x_14)) && (decide (x_15 = x_16))) && (decide (x_17 = x_18))) && (decide (x_19 = x_20))), .opt ((((decide (x_13 = x_14)) && (decide (x_15 = x_16))) && (decide (x_17 = x_18))) && (decide (x_19 = x_20))) (.row 104), .opt ((((decide (x_13 = x_14)) && (decide (x_15 = x_16))) && (decide (x_17 = x_18))) && (decide (x_19 = x_20))) (.rptr 104 ((0 : Int).toNat * 3)), .opt ((((decide (x_13 = x_14)) && (decide (x_15 = x_16))) && (decide (x_17 = x_18))) && (decide (x_19 = x_20))) (.agg ((eA3 .i64) x_21)), .opt ((((decide (x_13 = x_14)) && (decide (x_15 = x_16))) && (decide (x_17 = x_18))) && (decide (x_19 = x_20))) (.agg [.i 2, .i 0, .i 0]), .opt ((((decide (x_13 = x_14)) && (decide (x_15 = x_16))) && (decide (x_17 = x_18))) && (decide (x_19 = x_20))) (.one (.bool (decide (x_21 = (⟨2, 0, 0⟩ : A3))))), B (((((decide (x_13 = x_14)) && (decide (x_15 = x_16))) && (decide (x_17 = x_18))) && (decide (x_19 = x_20))) && (decide (x_21 = (⟨2, 0, 0⟩ : A3)))), B (((((decide (x_13 = x_14)) && (decide (x_15 = x_16))) && (decide (x_17 = x_18))) && (decide (x_19 = x_20))) && (decide (x_21 = (⟨2, 0, 0⟩ : A3)))), .opt (((((decide (x_13 = x_14)) && (decide (x_15 = x_16))) && (decide (x_17 = x_18))) && (decide (x_19 = x_20))) && (decide (x_21 = (⟨2, 0, 0⟩ : A3)))) (.row 104), .opt (((((decide (x_13 = x_14)) && (decide (x_15 = x_16))) && (decide (x_17 = x_18))) && (decide (x_19 = x_20))) && (decide (x_21 = (⟨2, 0, 0⟩ : A3)))) (.rptr 104 ((1 : Int).toNat * 3)), .opt (((((decide (x_13 = x_14)) && (decide (x_15 = x_16))) && (decide (x_17 = x_18))) && (decide (x_19 = x_20))) && (decide (x_21 = (⟨2, 0, 0⟩ : A3)))) (.agg ((eA3 .i64) x_22)), .opt (((((decide (x_13 = x_14)) && (decide (x_15 = x_16))) && (decide (x_17 = x_18))) && (decide (x_19 = x_20))) && (decide (x_21 = (⟨2, 0, 0⟩ : A3)))) (.agg [.i 3, .i 0, .i 0]), .opt (((((decide (x_13 = x_14)) && (decide (x_15 = x_16))) && (decide (x_17 = x_18))) && (decide (x_19 = x_20))) && (decide (x_21 = (⟨2, 0, 0⟩ : A3)))) (.one (.bool (decide (x_22 = (⟨3, 0, 0⟩ : A3))))), B ((((((decide (x_13 = x_14)) && (decide (x_15 = x_16))) && (decide (x_17 = x_18))) && (decide (x_19 = x_20))) && (decide (x_21 = (⟨2, 0, 0⟩ : A3)))) && (decide (x_22 = (⟨3, 0, 0⟩ : A3)))), B ((((((decide (x_13 = x_14)) && (decide (x_15 = x_16))) && (decide (x_17 = x_18))) && (decide (x_19 = x_20))) && (decide (x_21 = (⟨2, 0, 0⟩ : A3)))) && (decide (x_22 = (⟨3, 0, 0⟩ : A3))))] [1, 6, 9] [104] (s' := ⟨[(1, _), (6, _), (9, B ((((((decide (x_13 = x_14)) && (decide (x_15 = x_16))) && (decide (x_17 = x_18))) && (decide (x_19 = x_20))) && (decide (x_21 = (⟨2, 0, 0⟩ : A3)))) && (decide (x_22 = (⟨3, 0, 0⟩ : A3)))))], [(104, _)]⟩) rfl ⟨fun _ => .p om, fun _ => .p (op_index_r tySl27 (ix_lo e21) (ix_lt' e21) rfl rfl rfl rfl), fun _ => .p (op_load_r (i := (0 : Int).toNat) (f := 0) tyAgg36 rfl rfl rfl (ix_map (e := eArr3Bound) e21) rfl rfl), fun _ => .p om, fun _ => .p (op_callv0 (skewbacklaw39_sanity_1_spec e22) goes32 rfl rfl rfl), fun _ => .p (op_eql_agg (eqAgg36 x_13 x_14) rfl rfl), fun _ => .p om, fun _ => by exact .guard (decide (x_13 = x_14)) 1 [] (.plain rfl) (eq_t _) rfl rfl (fun g23 => trivial) (fun g23 => om), fun _ => by exact .guard (decide (x_13 = x_14)) 2 [73] (.plain rfl) (eq_t _) rfl rfl (fun g24 => ⟨g24, trivial⟩) (fun g24 => op_index_r tySl27 (ix_lo (gc e25 g24)) (ix_lt' (gc e25 g24)) rfl rfl rfl rfl), fun _ => by exact .guard (decide (x_13 = x_14)) 2 [74] (.plain rfl) (eq_t _) rfl rfl (fun g26 => ⟨g26, trivial⟩) (fun g26 => op_load_r (i := (1 : Int).toNat) (f := 0) tyAgg36 rfl rfl rfl (ix_map (e := eArr3Bound) (gc e25 g26)) rfl rfl), fun _ => by exact .guard (decide (x_13 = x_14)) 1 [] (.plain rfl) (eq_t _) rfl rfl (fun g27 => trivial) (fun g27 => om), fun _ => by exact .guard (decide (x_13 = x_14)) 3 [76] (.plain rfl) (eq_t _) rfl rfl (fun g28 => ⟨g28, trivial⟩) (fun g28 => op_callv0 (skewbacklaw39_sanity_1_spec (gc e29 g28)) goes32 rfl rfl rfl), fun _ => by exact .guard (decide (x_13 = x_14)) 3 [75, 77] (.plain rfl) (eq_t _) rfl rfl (fun g30 => ⟨g30, g30, trivial⟩) (fun g30 => op_eql_agg (eqAgg36 x_15 x_16) rfl rfl), fun _ => .p (op_pick_and (fun e => e) rfl rfl rfl rfl), fun _ => .p om, fun _ => by exact .guard ((decide (x_13 = x_14)) && (decide (x_15 = x_16))) 1 [] (.plain rfl) (eq_t _) rfl rfl (fun g31 => trivial) (fun g31 => om), fun _ => by exact .guard ((decide (x_13 = x_14)) && (decide (x_15 = x_16))) 2 [81] (.plain rfl) (eq_t _) rfl rfl (fun g32 => ⟨g32, trivial⟩) (fun g32 => op_index_r tySl27 (ix_lo (gc e33 g32)) (ix_lt' (gc e33 g32)) rfl rfl rfl rfl), fun _ => by exact .guard ((decide (x_13 = x_14)) && (decide (x_15 = x_16))) 2 [82] (.plain rfl) (eq_t _) rfl rfl (fun g34 => ⟨g34, trivial⟩) (fun g34 => op_load_r (i := (0 : Int).toNat) (f := 0) tyAgg36 rfl rfl rfl (ix_map (e := eArr3Bound) (gc e33 g34)) rfl rfl), fun _ => by exact .guard ((decide (x_13 = x_14)) && (decide (x_15 = x_16))) 1 [] (.plain rfl) (eq_t _) rfl rfl (fun g35 => trivial) (fun g35 => om), fun _ => by exact .guard ((decide (x_13 = x_14)) && (decide (x_15 = x_16))) 3 [84] (.plain rfl) (eq_t _) rfl rfl (fun g36 => ⟨g36, trivial⟩) (fun g36 => op_callv0 (skewbacklaw39_sanity_1_spec (gc e37 g36)) goes32 rfl rfl rfl), fun _ => by exact .guard ((decide (x_13 = x_14)) && (decide (x_15 = x_16))) 3 [83, 85] (.plain rfl) (eq_t _) rfl rfl (fun g38 => ⟨g38, g38, trivial⟩) (fun g38 => op_eql_agg (eqAgg36 x_17 x_18) rfl rfl), fun _ => .p (op_pick_and (fun e => e) rfl rfl rfl rfl), fun _ => .p om, fun _ => by exact .guard (((decide (x_13 = x_14)) && (decide (x_15 = x_16))) && (decide (x_17 = x_18))) 1 [] (.plain rfl) (eq_t _) rfl rfl (fun g39 => trivial) (fun g39 => om), fun _ => by exact .guard (((decide (x_13 = x_14)) && (decide (x_15 = x_16))) && (decide (x_17 = x_18))) 2 [89] (.plain rfl) (eq_t _) rfl rfl (fun g40 => ⟨g40, trivial⟩) (fun g40 => op_index_r tySl27 (ix_lo (gc e41 g40)) (ix_lt' (gc e41 g40)) rfl rfl rfl rfl), fun _ => by exact .guard (((decide (x_13 = x_14)) && (decide (x_15 = x_16))) && (decide (x_17 = x_18))) 2 [90] (.plain rfl) (eq_t _) rfl rfl (fun g42 => ⟨g42, trivial⟩) (fun g42 => op_load_r (i := (1 : Int).toNat) (f := 0) tyAgg36 rfl rfl rfl (ix_map (e := eArr3Bound) (gc e41 g42)) rfl rfl), fun _ => by exact .guard (((decide (x_13 = x_14)) && (decide (x_15 = x_16))) && (decide (x_17 = x_18))) 1 [] (.plain rfl) (eq_t _) rfl rfl (fun g43 => trivial) (fun g43 => om), fun _ => by exact .guard (((decide (x_13 = x_14)) && (decide (x_15 = x_16))) && (decide (x_17 = x_18))) 3 [92] (.plain rfl) (eq_t _) rfl rfl (fun g44 => ⟨g44, trivial⟩) (fun g44 => op_callv0 (skewbacklaw39_sanity_1_spec (gc e45 g44)) goes32 rfl rfl rfl), fun _ => by exact .guard (((decide (x_13 = x_14)) && (decide (x_15 = x_16))) && (decide (x_17 = x_18))) 3 [91, 93] (.plain rfl) (eq_t _) rfl rfl (fun g46 => ⟨g46, g46, trivial⟩) (fun g46 => op_eql_agg (eqAgg36 x_19 x_20) rfl rfl), fun _ => .p (op_pick_and (fun e => e) rfl rfl rfl rfl), fun _ => .p om, fun _ => by exact .guard ((((decide (x_13 = x_14)) && (decide (x_15 = x_16))) && (decide (x_17 = x_18))) && (decide (x_19 = x_20))) 1 [] (.plain rfl) (eq_t _) rfl rfl (fun g47 => trivial) (fun g47 => om), fun _ => by exact .guard ((((decide (x_13 = x_14)) && (decide (x_15 = x_16))) && (decide (x_17 = x_18))) && (decide (x_19 = x_20))) 2 [97] (.plain rfl) (eq_t _) rfl rfl (fun g48 => ⟨g48, trivial⟩) (fun g48 => op_index_r tySl50 (ix_lo (gc e49 g48)) (ix_lt' (gc e49 g48)) rfl rfl rfl rfl), fun _ => by exact .guard ((((decide (x_13 = x_14)) && (decide (x_15 = x_16))) && (decide (x_17 = x_18))) && (decide (x_19 = x_20))) 2 [98] (.plain rfl) (eq_t _) rfl rfl (fun g50 => ⟨g50, trivial⟩) (fun g50 => op_load_r (i := (0 : Int).toNat) (f := 0) tyAgg52 rfl rfl rfl (ix_map (e := (eA3 .i64)) (gc e49 g50)) rfl rfl), fun _ => by exact .guard ((((decide (x_13 = x_14)) && (decide (x_15 = x_16))) && (decide (x_17 = x_18))) && (decide (x_19 = x_20))) 1 [] (.plain rfl) (eq_t _) rfl rfl (fun g51 => trivial) (fun g51 => op_buildA tyBuild52 rfl rfl), fun _ => by exact .guard ((((decide (x_13 = x_14)) && (decide (x_15 = x_16))) && (decide (x_17 = x_18))) && (decide (x_19 = x_20))) 3 [99, 100] (.plain rfl) (eq_t _) rfl rfl (fun g52 => ⟨g52, g52, trivial⟩) (fun g52 => op_eql_agg (eqAgg52 x_21 (⟨2, 0, 0⟩ : A3)) rfl rfl), fun _ => .p (op_pick_and (fun e => e) rfl rfl rfl rfl), fun _ => .p om, fun _ => by exact .guard (((((decide (x_13 = x_14)) && (decide (x_15 = x_16))) && (decide (x_17 = x_18))) && (decide (x_19 = x_20))) && (decide (x_21 = (⟨2, 0, 0⟩ : A3)))) 1 [] (.plain rfl) (eq_t _) rfl rfl (fun g53 => trivial) (fun g53 => om), fun _ => by exact .guard (((((decide (x_13 = x_14)) && (decide (x_15 = x_16))) && (decide (x_17 = x_18))) && (decide (x_19 = x_20))) && (decide (x_21 = (⟨2, 0, 0⟩ : A3)))) 2 [104] (.plain rfl) (eq_t _) rfl rfl (fun g54 => ⟨g54, trivial⟩) (fun g54 => op_index_r tySl50 (ix_lo (gc e55 g54)) (ix_lt' (gc e55 g54)) rfl rfl rfl rfl), fun _ => by exact .guard (((((decide (x_13 = x_14)) && (decide (x_15 = x_16))) && (decide (x_17 = x_18))) && (decide (x_19 = x_20))) && (decide (x_21 = (⟨2, 0, 0⟩ : A3)))) 2 [105] (.plain rfl) (eq_t _) rfl rfl (fun g56 => ⟨g56, trivial⟩) (fun g56 => op_load_r (i := (1 : Int).toNat) (f := 0) tyAgg52 rfl rfl rfl (ix_map (e := (eA3 .i64)) (gc e55 g56)) rfl rfl), fun _ => by exact .guard (((((decide (x_13 = x_14)) && (decide (x_15 = x_16))) && (decide (x_17 = x_18))) && (decide (x_19 = x_20))) && (decide (x_21 = (⟨2, 0, 0⟩ : A3)))) 1 [] (.plain rfl) (eq_t _) rfl rfl (fun g57 => trivial) (fun g57 => op_buildA tyBuild52 rfl rfl), fun _ => by exact .guard (((((decide (x_13 = x_14)) && (decide (x_15 = x_16))) && (decide (x_17 = x_18))) && (decide (x_19 = x_20))) && (decide (x_21 = (⟨2, 0, 0⟩ : A3)))) 3 [106, 107] (.plain rfl) (eq_t _) rfl rfl (fun g58 => ⟨g58, g58, trivial⟩) (fun g58 => op_eql_agg (eqAgg52 x_22 (⟨3, 0, 0⟩ : A3)) rfl rfl), fun _ => .p (op_pick_and (fun e => e) rfl rfl rfl rfl), fun _ => .p oa, trivial⟩ rfl rfl ?_
  refine Tri.seq (Tri.keepS ⟨[(1, _), (6, _), (9, _)], [(104, _)]⟩ rfl ?_)
  obtain ⟨x_23, e59, h⟩ := bnd h
  obtain ⟨x_24, e60, h⟩ := bnd h
  obtain ⟨x_25, e61, h⟩ := bnd h
  obtain ⟨⟨x_26, x_27⟩, e62, h⟩ := bnd h
  refine Tri.regionY mixed 11 [.b (.one (.sl 6 ([x_1, x_2, x_3].map eReport))), .b (.one (.slf 6 (x_23.map eReport))), .b (.agg (eReport x_24)), .b (.one (.sl 6 ([x_24].map eReport))), .b (.one (.sl 6 (x_25.map eReport))), .tup [.one (.sl 1 (x_26.map eI)), .one (.i x_27)], .tup [.one (.sl 1 (x_26.map eI)), .one (.i x_27)], .b (.one (.sl 1 (x_26.map eI))), I x_27, .b (.one (.sl 1 (x_26.map eI))), I x_27] [1, 6, 9, 10, 11] [104] (s' := ⟨[(1, _), (6, _), (9, _), (10, .b (.one (.sl 1 (x_26.map eI)))), (11, I x_27)], [(104, _)]⟩) rfl ⟨fun _ => .p om, fun _ => .p (op_slice_3 tySl22 e59 rfl rfl rfl), fun _ => .p (op_call0 (skewbacklaw39_is_spec e60) goes31 rfl rfl), fun _ => .p (op_buildSliceP (es := [x_24].map eReport) tySl22 rfl rfl (uni_map fun _ => rfl) rfl (by decide) (by decide)), fun _ => .p (op_append_fp tySl22 (app_b e61) (app_m e61) (Nat.le_of_ble_eq_true rfl) rfl rfl (app_map e61)), fun _ => .p (op_call0 (sensor_Contradiction_spec e62) goes12 rfl rfl), fun _ => .p om, fun _ => .p (op_extract rfl rfl), fun _ => .p (op_extract rfl rfl), fun _ => .p oa, fun _ => .p oa, trivial⟩ rfl rfl (Tri.seq (Tri.keepS ⟨[(1, _), (6, _), (9, _), (10, _), (11, _)], [(104, _)]⟩ rfl ?_))
  obtain ⟨x_28, e63, h⟩ := bnd h
  obtain ⟨x_29, e64, h⟩ := bnd h
  obtain ⟨x_30, e65, h⟩ := bnd h
  obtain ⟨⟨x_31, x_32⟩, e66, h⟩ := bnd h
  refine Tri.regionY mixed 11 [.b (.one (.sl 6 ([x_1, x_2, x_3].map eReport))), .b (.one (.slf 6 (x_28.map eReport))), .b (.agg (eReport x_29)), .b (.one (.sl 6 ([x_29].map eReport))), .b (.one (.sl 6 (x_30.map eReport))), .tup [.one (.sl 1 (x_31.map eI)), .one (.i x_32)], .tup [.one (.sl 1 (x_31.map eI)), .one (.i x_32)], .b (.one (.sl 1 (x_31.map eI))), I x_32, .b (.one (.sl 1 (x_31.map eI))), I x_32] [1, 6, 9, 10, 11, 12, 13] [104] (s' := ⟨[(1, _), (6, _), (9, _), (10, _), (11, _), (12, .b (.one (.sl 1 (x_31.map eI)))), (13, I x_32)], [(104, _)]⟩) rfl ⟨fun _ => .p om, fun _ => .p (op_slice_3 tySl22 e63 rfl rfl rfl), fun _ => .p (op_call0 (skewbacklaw39_is_spec e64) goes31 rfl rfl), fun _ => .p (op_buildSliceP (es := [x_29].map eReport) tySl22 rfl rfl (uni_map fun _ => rfl) rfl (by decide) (by decide)), fun _ => .p (op_append_fp tySl22 (app_b e65) (app_m e65) (Nat.le_of_ble_eq_true rfl) rfl rfl (app_map e65)), fun _ => .p (op_call0 (sensor_Contradiction_spec e66) goes12 rfl rfl), fun _ => .p om, fun _ => .p (op_extract rfl rfl), fun _ => .p (op_extract rfl rfl), fun _ => .p oa, fun _ => .p oa, trivial⟩ rfl rfl (Tri.seq (Tri.regionL ?_))
  refine Oc om ?_
  obtain ⟨⟨x_33, x_34⟩, e67, h⟩ := bnd h
  refine Oc (op_call0 (sensor_Contradiction_spec e67) goes12 rfl rfl) (Oc om (Oc (op_extract rfl rfl) (Oc (op_extract rfl rfl) (Oc oa (Oc oa ?_)))))
  refine OpsL.nilS ⟨[(1, _), (6, _), (9, _), (10, _), (11, _), (12, _), (13, _), (14, .b (.one (.sl 1 (x_33.map eI)))), (15, I x_34)], [(104, _)]⟩ rfl (Tri.seq ?_)
  obtain ⟨x_35, e68, h⟩ := bnd h
  obtain ⟨x_36, e69, h⟩ := bnd h
  obtain ⟨⟨x_37, x_38⟩, e70, h⟩ := bnd h
  refine Tri.regionY mixed 9 [.b (.one (.sl 6 ([x_1, x_2, x_3].map eReport))), .b (.one (.sl 6 (x_35.map eReport))), .b (.agg (eReport x_36)), .tup [.one (.bool x_37), .one (.i x_38)], .tup [.one (.bool x_37), .one (.i x_38)], B x_37, I x_38, B x_37, I x_38] [1, 6, 9, 10, 11, 12, 13, 14, 15, 16, 17] [104] (s' := ⟨[(1, _), (6, _), (9, _), (10, _), (11, _), (12, _), (13, _), (14, _), (15, _), (16, B x_37), (17, I x_38)], [(104, _)]⟩) rfl ⟨fun _ => .p om, fun _ => .p (op_slice_h2 tySl22 e68 rfl rfl), fun _ => .p (op_call0 (skewbacklaw39_is_spec e69) goes31 rfl rfl), fun _ => .p (op_call0 (sensor_Implied_spec e70) goes14 rfl rfl), fun _ => .p om, fun _ => .p (op_extract rfl rfl), fun _ => .p (op_extract rfl rfl), fun _ => .p oa, fun _ => .p oa, trivial⟩ rfl rfl (Tri.seq (Tri.keepS ⟨[(1, _), (6, _), (9, _), (10, _), (11, _), (12, _), (13, _), (14, _), (15, _), (16, _), (17, _)], [(104, _)]⟩ rfl ?_))
  obtain ⟨x_39, e71, h⟩ := bnd h
  obtain ⟨x_40, e72, h⟩ := bnd h
  obtain ⟨⟨x_41, x_42⟩, e73, h⟩ := bnd h
  refine Tri.regionY mixed 9 [.b (.one (.sl 6 ([x_1, x_2, x_3].map eReport))), .b (.one (.sl 6 (x_39.map eReport))), .b (.agg (eReport x_40)), .tup [.one (.bool x_41), .one (.i x_42)], .tup [.one (.bool x_41), .one (.i x_42)], B x_41, I x_42, B x_41, I x_42] [1, 6, 9, 10, 11, 12, 13, 14, 15, 16, 17, 18, 19] [104] (s' := ⟨[(1, _), (6, _), (9, _), (10, _), (11, _), (12, _), (13, _), (14, _), (15, _), (16, _), (17, _), (18, B x_41), (19, I x_42)], [(104, _)]⟩) rfl ⟨fun _ => .p om, fun _ => .p (op_slice_h2 tySl22 e71 rfl rfl), fun _ => .p (op_call0 (skewbacklaw39_is_spec e72) goes31 rfl rfl), fun _ => .p (op_call0 (sensor_Implied_spec e73) goes14 rfl rfl), fun _ => .p om, fun _ => .p (op_extract rfl rfl), fun _ => .p (op_extract rfl rfl), fun _ => .p oa, fun _ => .p oa, trivial⟩ rfl rfl (Tri.seq (Tri.regionL ?_))
  refine Oc om (Oc (op_buildSlice (k := 107) (es := [2, 3].map eI) tySl37 rfl rfl (uni_map fun _ => rfl) rfl (by decide) (by decide) rfl) ?_)
  obtain ⟨x_43, e74, h⟩ := bnd h
  refine Oc (op_callB (skewbacklaw39_ints_spec e74) goes16 rfl CP.flat_bool) (Oc om ?_)
  refine OpsL.keepS ⟨[(1, _), (6, _), (9, _), (11, _), (12, _), (13, _), (14, _), (15, _), (16, _), (17, _), (18, _), (19, _), (150, B x_43)], [(104, _)]⟩ rfl (CgT x_43 [] (fun g75 => trivial) (fun g75 => om) (CgT x_43 [151] (fun g76 => by exact ⟨g76, trivial⟩) (fun g76 => op_eql rfl rfl) (Oc (op_pick_and (fun e => e) rfl rfl rfl rfl) (Oc om ?_))))
  refine CgT (x_43 && (decide (x_27 = 0))) [] (fun g77 => trivial) (fun g77 => om) (CgT (x_43 && (decide (x_27 = 0))) [] (fun g78 => by exact trivial) (fun g78 => op_buildSliceP (es := [0, 1, 2].map eI) tySl37 rfl rfl (uni_map fun _ => rfl) rfl (by decide) (by decide)) (OpsL.keepS ⟨[(1, _), (6, _), (9, _), (13, _), (14, _), (15, _), (16, _), (17, _), (18, _), (19, _), (154, B (x_43 && (decide (x_27 = 0)))), (155, .opt (x_43 && (decide (x_27 = 0))) (.one (.sl 1 (x_31.map eI)))), (156, .opt (x_43 && (decide (x_27 = 0))) (.one (.sl 1 ([0, 1, 2].map eI))))], [(104, _)]⟩ rfl ?_))
  obtain ⟨x_44, e80, h⟩ := bnd h
  refine CgT (x_43 && (decide (x_27 = 0))) [155, 156] (fun g79 => ⟨g79, g79, trivial⟩) (fun g79 => op_call0 (skewbacklaw39_ints_spec (gc e80 g79)) goes16 rfl rfl) (Oc (op_pick_and (fun e => e) rfl rfl rfl rfl) (Oc om ?_))
  refine CgT ((x_43 && (decide (x_27 = 0))) && x_44) [] (fun g81 => trivial) (fun g81 => om) (CgT ((x_43 && (decide (x_27 = 0))) && x_44) [160] (fun g82 => by exact ⟨g82, trivial⟩) (fun g82 => op_eql rfl rfl) (OpsL.consB h rfl (op_pick_and (fun e => e) rfl rfl rfl rfl) (fun x_45 h => ?_)))
  refine Oc om (CgT x_45 [] (fun g83 => by exact trivial) (fun g83 => om) (OpsL.keepS ⟨[(1, _), (6, _), (9, _), (15, _), (16, _), (17, _), (18, _), (19, _), (163, B x_45), (164, .opt x_45 (.one (.sl 1 (x_33.map eI))))], [(104, _)]⟩ rfl (CgT x_45 [164] (fun g84 => by exact ⟨g84, trivial⟩) (fun g84 => op_len_e' und37 rfl (List.length_map _)) (CgT x_45 [165] (fun g85 => by exact ⟨g85, trivial⟩) (fun g85 => op_eql rfl rfl) (Oc (op_pick_and (fun e => e) rfl rfl rfl rfl) (Oc om ?_))))))
  refine CgT (x_45 && (decide ((x_33.length : Int) = 0))) [] (fun g86 => trivial) (fun g86 => om) (CgT (x_45 && (decide ((x_33.length : Int) = 0))) [169] (fun g87 => by exact ⟨g87, trivial⟩) (fun g87 => op_eql rfl rfl) (OpsL.consB h rfl (op_pick_and (fun e => e) rfl rfl rfl rfl) (fun x_46 h => ?_)))
  refine Oc oa (OpsL.nilS ⟨[(1, _), (6, _), (9, _), (16, _), (17, _), (18, _), (19, _), (20, B x_46)], [(104, _)]⟩ rfl (Tri.seq (Tri.regionL ?_)))
  refine OpsL.consB h rfl om (fun x_47 h => ?_)
  refine Oc om (CgT x_47 [] (fun g88 => by exact trivial) (fun g88 => om) (Oc (op_pick_and (fun e => e) rfl rfl rfl rfl) (Oc om ?_)))
  refine CgT (x_47 && x_46) [] (fun g89 => trivial) (fun g89 => om) (Oc (op_pick_and (fun e => e) rfl rfl rfl rfl) (OpsL.keepS ⟨[(1, _), (6, _), (17, _), (18, _), (19, _), (178, B ((x_47 && x_46) && x_37))], [(104, _)]⟩ rfl (Oc om (CgT ((x_47 && x_46) && x_37) [] (fun g90 => by exact trivial) (fun g90 => om) (CgT ((x_47 && x_46) && x_37) [180] (fun g91 => by exact ⟨g91, trivial⟩) (fun g91 => op_not rfl) ?_)))))
  refine Oc (op_pick_and (fun e => e) rfl rfl rfl rfl) (Oc om ?_)
  refine CgT (((x_47 && x_46) && x_37) && (!x_41)) [] (fun g92 => trivial) (fun g92 => om) (CgT (((x_47 && x_46) && x_37) && (!x_41)) [184] (fun g93 => by exact ⟨g93, trivial⟩) (fun g93 => op_eql rfl rfl) (Oc (op_pick_and (fun e => e) rfl rfl rfl rfl) (OpsL.keepS ⟨[(1, _), (6, _), (19, _), (186, B ((((x_47 && x_46) && x_37) && (!x_41)) && (decide (x_38 = 0))))], [(104, _)]⟩ rfl (Oc om (CgT ((((x_47 && x_46) && x_37) && (!x_41)) && (decide (x_38 = 0))) [] (fun g94 => by exact trivial) (fun g94 => om) ?_)))))
  refine CgT ((((x_47 && x_46) && x_37) && (!x_41)) && (decide (x_38 = 0))) [188] (fun g95 => ⟨g95, trivial⟩) (fun g95 => op_eql rfl rfl) (OpsL.consB h rfl (op_pick_and (fun e => e) rfl rfl rfl rfl) (fun x_48 h => ?_))
  refine Oc om (CgT x_48 [] (fun g96 => by exact trivial) (fun g96 => om) (OpsL.keepS ⟨[(1, _), (6, _), (191, B x_48), (192, .opt x_48 (.one (.sl 6 ([x_1, x_2, x_3].map eReport))))], [(104, _)]⟩ rfl ?_))
  obtain ⟨x_49, e98, h⟩ := bnd h
  refine CgT x_48 [192] (fun g97 => ⟨g97, trivial⟩) (fun g97 => op_call0 (sensor_Consistent_spec (gc e98 g97)) goes17 rfl rfl) (Oc (op_pick_and (fun e => e) rfl rfl rfl rfl) (Oc om ?_))
  refine CgT (x_48 && x_49) [] (fun g99 => trivial) (fun g99 => om) (CgT (x_48 && x_49) [] (fun g100 => by exact trivial) (fun g100 => om) ?_)
  obtain ⟨x_50, e102, h⟩ := bnd h
  refine CgT (x_48 && x_49) [196, 197] (fun g101 => ⟨g101, g101, trivial⟩) (fun g101 => op_callB (sensor_Fits_spec (gc e102 g101)) goes18 rfl CP.flat_bool) (Oc (op_pick_and (fun e => e) rfl rfl rfl rfl) (Oc oa ?_))
  refine OpsL.nilS ⟨[(0, B ((x_48 && x_49) && x_50))], []⟩ rfl (Tri.ret ?_)
  obtain rfl := Option.some.inj h
  refine Fin.keepS ⟨[(0, _)], []⟩ rfl (Fin.result' [.one (.bool ((x_48 && x_49) && x_50))] (.inl rfl) rfl (.cons (.tmp rfl) .nil) ⟨rfl, rfl⟩)
def skewbackref39_Chosen_S (F : Nat) (l0 : List Report) (at0 : List Int) : Option (List Report) :=
 Option.bind (iter F (un2 fun out_2 i_3 => if (decide (i_3 < (at0.length : Int))) = true then ((idx? at0 i_3).bind fun x_5 => (idx? l0 x_5).bind fun x_6 => (app? out_2 [x_6]).bind fun x_7 => some (.inl (x_7, IntKind.i64.wrap (i_3 + 1)))) else (some (.inr out_2))) ([], 0)) (fun out_1 => some out_1)
theorem skewbackref39_Chosen_spec (kr0 : Nat) {F : Nat} {l0 : List Report} {at0 : List Int} {r : (List Report)} (h : skewbackref39_Chosen_S F l0 at0 = some r) : Meets Try.prog [] 20 [] [.one (.sl 6 (l0.map eReport)), .one (.sl 1 (at0.map eI))] (Is [(kr0, .row 24 6 (r.map eReport))] (.b (.row kr0))) := by
 unfold skewbackref39_Chosen_S at h
 refine Meets.intro 24 Try.func20 Try.ntmps20 rfl (by simp) fun E => ?_
 show Tri _ E ⟨24, [], [], []⟩ _ ⟨[(0, .b (.one (.sl 6 (l0.map eReport)))), (1, .b (.one (.sl 1 (at0.map eI))))], []⟩ _
 refine Tri.seq (Tri.regionL ?_)
 refine Oc oa (OpsL.nilS ⟨[(0, .b (.one (.sl 6 (l0.map eReport)))), (1, .b (.one (.sl 1 (at0.map eI))))], []⟩ rfl (Tri.seq (Tri.regionL ?_)))
 refine Oc oa (OpsL.nilS ⟨[(0, _), (1, _), (5, .b (.one (.nil)))], []⟩ rfl ?_)
 obtain ⟨v1, h2, h⟩ := bnd h
 refine Tri.seqJ (v := v1) (fun (out_1 : List Report) => ⟨[(5, .b (.row 102))], [(102, .row 24 6 (out_1.map eReport))]⟩) (fun z => z) ?_ ?_
 ·refine Tri.seq (Tri.regionL ?_)
  refine Oc oa (OpsL.nilS ⟨[(0, _), (1, _), (5, _), (6, I 0)], []⟩ rfl (Tri.block (Tri.nilrow 5 102 6 24 rfl (by decide) rfl (Tri.loopJ h2 (un2 fun (out_2 : List Report) (i_3 : Int) => ⟨[(0, .b (.one (.sl 6 (l0.map eReport)))), (1, .b (.one (.sl 1 (at0.map eI)))), (5, .b (.row 102)), (6, I i_3)], [(102, .row 24 6 (out_2.map eReport))]⟩) [0, 1, 5, 6] [102] rfl ?_))))
  rintro ⟨out_2, i_3⟩ o3 h4 hy5
  refine Tri.seq (Tri.seq (Tri.regionL ?_))
  refine Oc om (Oc om (Oc (op_len_e' und37 rfl (List.length_map _)) (Oc (op_lss rfl rfl) ?_)))
  refine OpsL.nilS ⟨[(0, _), (1, _), (5, _), (6, _), (10, B (decide (i_3 < (at0.length : Int))))], [(102, _)]⟩ rfl (Tri.ite h4 rfl (fun _ h4 => ?_) (fun _ h4 => ?_))
  ·refine Tri.skip (Fin.keepS ⟨[(0, _), (1, _), (5, _), (6, _)], [(102, _)]⟩ rfl (Fin.then (Tri.seq (Tri.block (Tri.regionL ?_)))))
   refine Oc om (Oc om (Oc om (Oc om ?_)))
   obtain ⟨x_5, e6, h4⟩ := bnd h4
   refine Oc (op_index_e tySl37 (ix_lo e6) (ix_map (e := eI) e6) rfl rfl) (Oc (op_load_e1 tyOne3 rfl rfl) ?_)
   obtain ⟨x_6, e7, h4⟩ := bnd h4
   refine Oc (op_index_e tySl22 (ix_lo e7) (ix_map (e := eReport) e7) rfl rfl) (OpsL.keepS ⟨[(0, _), (1, _), (5, _), (6, _), (13, .b (.row 102)), (19, .b (.eptr (eReport x_6)))], [(102, _)]⟩ rfl (Oc (op_load_e tyAgg24 rfl rfl rfl) (Oc (op_buildSlice (k := 103) (es := [x_6].map eReport) tySl22 rfl rfl (uni_map fun _ => rfl) rfl (by decide) (by decide) rfl) ?_)))
   obtain ⟨x_7, e8, h4⟩ := bnd h4
   refine Oc (op_append_r tySl22 (app_b e8) (app_m e8) rfl rfl rfl rfl (app_map e8) rfl) (Oc oa ?_)
   refine OpsL.nil (Fin.block_normal (Fin.keepS ⟨[(0, _), (1, _), (5, _), (6, _)], [(102, .row 24 6 (x_7.map eReport))]⟩ rfl (Fin.then (Tri.regionL ?_))))
   refine Oc om (Oc (op_add rfl rfl) (Oc oa ?_))
   refine OpsL.nil ?_
   exact Fin.againJ [0, 1, 5, 6] [102] (x_7, IntKind.i64.wrap (i_3 + 1)) (Option.some.inj h4) rfl
  ·refine Tri.exit (Fin.then_exit ?_)
   obtain rfl := hy5 _ (Option.some.inj h4).symm
   refine Fin.then_exit (Fin.block_exit ?_)
   exact Fin.join [5] [102] out_2 rfl rfl
 ·rintro out_1 hv
  subst v1
  refine Tri.seq (Tri.regionL ?_)
  refine Oc om (Oc oa ?_)
  refine OpsL.nilS ⟨[(4, .b (.row 102))], [(102, _)]⟩ rfl (Tri.ret ?_)
  obtain rfl := Option.some.inj h
  refine Fin.keepS ⟨[(4, _)], [(102, _)]⟩ rfl (Fin.resultK 102 kr0 [.row 102] (.inl rfl) rfl (.cons (.tmp rfl) .nil) rfl rfl rfl rfl ⟨rfl, rfl⟩)
def skewbackref39_Without_S (F : Nat) (l0 : List Report) (k0 : Int) : Option (List Report) :=
 (take? l0 k0).bind fun x_1 => (app? [] x_1).bind fun x_2 => (drop? l0 (IntKind.i64.wrap (k0 + 1))).bind fun x_3 => (app? x_2 x_3).bind fun x_4 => some x_4
theorem skewbackref39_Without_spec (kr0 : Nat) {F : Nat} {l0 : List Report} {k0 : Int} {r : (List Report)} (h : skewbackref39_Without_S F l0 k0 = some r) : Meets Try.prog [] 21 [] [.one (.sl 6 (l0.map eReport)), .one (.i k0)] (Is [(kr0, .row 24 6 (r.map eReport))] (.b (.row kr0))) := by
 unfold skewbackref39_Without_S at h
 refine Meets.intro 17 Try.func21 Try.ntmps21 rfl (by simp) fun E => ?_
 show Tri _ E ⟨17, [], [], []⟩ _ ⟨[(0, .b (.one (.sl 6 (l0.map eReport)))), (1, I k0)], []⟩ _
 refine Tri.seq (Tri.regionL ?_)
 refine Oc oa (OpsL.nilS ⟨[(0, .b (.one (.sl 6 (l0.map eReport)))), (1, I k0)], []⟩ rfl (Tri.seq (Tri.regionL ?_)))
 refine Oc (op_build0 (k := 101) tySl22 rfl) (Oc om (Oc om ?_))
 obtain ⟨x_1, e1, h⟩ := bnd h
 refine Oc (op_slice_h2 tySl22 e1 rfl rfl) ?_
 obtain ⟨x_2, e2, h⟩ := bnd h
 refine Oc (op_append tySl22 (app_b e2) (app_m e2) rfl rfl rfl (app_map e2) rfl) (Oc oa ?_)
 refine OpsL.nilS ⟨[(0, _), (1, _), (5, .b (.row 101))], [(101, .row 24 6 (x_2.map eReport))]⟩ rfl (Tri.seq (Tri.regionL ?_))
 refine Oc om (Oc om (Oc om (Oc (op_add rfl rfl) ?_)))
 obtain ⟨x_3, e3, h⟩ := bnd h
 refine Oc (op_slice_l2 tySl22 e3 rfl rfl) ?_
 obtain ⟨x_4, e4, h⟩ := bnd h
 refine Oc (op_append tySl22 (app_b e4) (app_m e4) rfl rfl rfl (app_map e4) rfl) (Oc oa ?_)
 refine OpsL.nilS ⟨[(4, .b (.row 101))], [(101, .row 24 6 (x_4.map eReport))]⟩ rfl (Tri.ret ?_)
 obtain rfl := Option.some.inj h
 refine Fin.keepS ⟨[(4, _)], [(101, _)]⟩ rfl (Fin.resultK 101 kr0 [.row 101] (.inl rfl) rfl (.cons (.tmp rfl) .nil) rfl rfl rfl rfl ⟨rfl, rfl⟩)
def skewbacklaw39_SensorBlamesASmallestSet_S (F : Nat) (l0 : List Report) (now0 : Int) : Option Bool :=
 (skewbackref39_Few_S F l0 10).bind fun x_1 => if (!x_1) = true then ((skewbacklaw39_sanity_S F).bind fun x_2 => some x_2) else (Option.bind (sensor_Contradiction_S F l0 now0) (un2 fun x_3 x_4 => (sensor_Consistent_S F l0 now0).bind fun x_5 => if x_5 = true then ((skewbacklaw39_sanity_S F).bind fun x_6 => letN ((x_6 && (decide ((x_3.length : Int) = 0))) && (decide (x_4 = (-1)))) fun x_7 => some x_7) else (if (decide ((x_3.length : Int) = 0)) = true then (some false) else (Option.bind (iter F (fun x_8 => if (decide (x_8 < (x_3.length : Int))) = true then ((idx? x_3 x_8).bind fun x_9 => (gcall ((!((decide (x_9 < 0)) || (decide ((l0.length : Int) ≤ x_9)))) && (decide (0 < x_8))) (idx? x_3 (IntKind.i64.wrap (x_8 - 1)))).bind fun x_10 => letN (((decide (x_9 < 0)) || (decide ((l0.length : Int) ≤ x_9))) || ((decide (0 < x_8)) && (decide (x_9 ≤ x_10)))) fun x_11 => (gcall (!x_11) (idx? l0 x_9)).bind fun x_12 => (gcall (!(x_11 || (decide (now0 < x_12.Time)))) (idx? l0 x_9)).bind fun x_13 => letN ((x_11 || (decide (now0 < x_12.Time))) || (decide (x_13.Axis ≠ x_4))) fun x_14 => if x_14 = true then (some (.inr (.inr false))) else (some (.inl (IntKind.i64.wrap (x_8 + 1))))) else (some (.inr (.inl ())))) 0) (alt2 (fun _ => (skewbackref39_Chosen_S F l0 x_3).bind fun x_15 => (sensor_Consistent_S F x_15 now0).bind fun x_16 => if x_16 = true then (some false) else (Option.bind (iter F (un2 fun set_17 x_18 => if (decide (x_18 < (x_15.length : Int))) = true then ((skewbackref39_Without_S F set_17 x_18).bind fun x_19 => (sensor_Consistent_S F x_19 now0).bind fun x_20 => if (!x_20) = true then (some (.inr (.inr false))) else (some (.inl (set_17, IntKind.i64.wrap (x_18 + 1))))) else (some (.inr (.inl ())))) (x_15, 0)) (alt2 (fun _ => Option.bind (Option.bind (shl? .i64 1 (l0.length : Int)) (fun x_21 => iter F (fun x_22 => if (decide (x_22 < x_21)) = true then (Option.bind (Option.bind (iter F (un2 fun some_24 x_25 => if (decide (x_25 < (l0.length : Int))) = true then (Option.bind (Option.bind (shr? .i64 x_22 x_25) (fun x_28 => if (decide ((x_28 % 2 ^ 1) = 1)) = true then ((app? some_24 [x_25]).bind fun x_29 => some x_29) else (some some_24))) (fun some_27 => some (.inl (some_27, IntKind.i64.wrap (x_25 + 1))))) else (some (.inr some_24))) ([], 0)) (fun some_23 => (gcall (decide ((some_23.length : Int) < (x_3.length : Int))) (skewbackref39_Chosen_S F l0 some_23)).bind fun x_30 => (gcall (decide ((some_23.length : Int) < (x_3.length : Int))) (sensor_Consistent_S F x_30 now0)).bind fun x_31 => letN ((decide ((some_23.length : Int) < (x_3.length : Int))) && (!x_31)) fun x_32 => if x_32 = true then (some (.inr false)) else (some (.inl ())))) (alt2 (fun _ => some (.inl (IntKind.i64.wrap (x_22 + 1)))) (fun y => some (.inr (.inr y))))) else (some (.inr (.inl ())))) 0)) (alt2 (fun _ => (skewbacklaw39_sanity_S F).bind fun x_33 => some x_33) (fun y => some y))) (fun y => some y)))) (fun y => some y))))))
theorem skewbacklaw39_SensorBlamesASmallestSet_spec {F : Nat} {l0 : List Report} {now0 : Int} {r : Bool} (h : skewbacklaw39_SensorBlamesASmallestSet_S F l0 now0 = some r) : Meets Try.prog [] 5 [] [.one (.sl 6 (l0.map eReport)), .one (.i now0)] (Is [] (.b (.one (.bool r)))) := by
 unfold skewbacklaw39_SensorBlamesASmallestSet_S at h
 refine Meets.intro 141 Try.func5 Try.ntmps5 rfl (by simp) fun E => ?_
 show Tri _ E ⟨141, [], [], []⟩ _ ⟨[(0, .b (.one (.sl 6 (l0.map eReport)))), (1, I now0)], []⟩ _
 refine Tri.seq (Tri.regionL ?_)
 refine Oc oa (OpsL.nilS ⟨[(0, .b (.one (.sl 6 (l0.map eReport)))), (1, I now0)], []⟩ rfl (Tri.seq (Tri.seq (Tri.regionL ?_))))
 refine Oc om ?_
 obtain ⟨x_1, e1, h⟩ := bnd h
 refine Oc (op_call0 (skewbackref39_Few_spec e1) goes8 rfl rfl) (Oc (op_not rfl) ?_)
 refine OpsL.nilS ⟨[(0, _), (1, _), (16, B (!x_1))], []⟩ rfl (Tri.ite h rfl (fun _ h => ?_) (fun _ h => ?_))
 ·refine Tri.seq (Tri.regionL ?_)
  obtain ⟨x_2, e2, h⟩ := bnd h
  refine Oc (op_call0 (skewbacklaw39_sanity_spec e2) goes9 rfl rfl) (Oc oa ?_)
  refine OpsL.nilS ⟨[(4, B x_2)], []⟩ rfl (Tri.ret (Fin.then_ret ?_))
  obtain rfl := Option.some.inj h
  refine Fin.keepS ⟨[(4, _)], []⟩ rfl (Fin.result' [.one (.bool x_2)] (.inl rfl) rfl (.cons (.tmp rfl) .nil) ⟨rfl, rfl⟩)
 ·refine Tri.skip (Fin.keepS ⟨[(0, _), (1, _)], []⟩ rfl (Fin.then (Tri.seq (Tri.regionL ?_))))
  refine Oc om (Oc om ?_)
  obtain ⟨⟨x_3, x_4⟩, e3, h⟩ := bnd h
  refine Oc (op_call0 (sensor_Contradiction_spec e3) goes12 rfl rfl) (Oc om (Oc (op_extract rfl rfl) ?_))
  refine OpsL.keepS ⟨[(0, _), (1, _), (18, .tup [.one (.sl 1 (x_3.map eI)), .one (.i x_4)]), (22, .b (.one (.sl 1 (x_3.map eI))))], []⟩ rfl (Oc (op_extract rfl rfl) (Oc oa (Oc oa ?_)))
  refine OpsL.nilS ⟨[(0, _), (1, _), (5, .b (.one (.sl 1 (x_3.map eI)))), (6, I x_4)], []⟩ rfl (Tri.seq (Tri.seq (Tri.regionL ?_)))
  refine Oc om (Oc om ?_)
  obtain ⟨x_5, e4, h⟩ := bnd h
  refine Oc (op_call0 (sensor_Consistent_spec e4) goes17 rfl rfl) (OpsL.nilS ⟨[(0, _), (1, _), (5, _), (6, _), (26, B x_5)], []⟩ rfl (Tri.ite h rfl (fun _ h => ?_) (fun _ h => ?_)))
  ·refine Tri.seq (Tri.regionL ?_)
   obtain ⟨x_6, e5, h⟩ := bnd h
   refine Oc (op_call0 (skewbacklaw39_sanity_spec e5) goes9 rfl rfl) (Oc om ?_)
   refine CgT x_6 [] (fun g6 => trivial) (fun g6 => om) (CgT x_6 [29] (fun g7 => by exact ⟨g7, trivial⟩) (fun g7 => op_len_e' und37 rfl (List.length_map _)) (OpsL.keepS ⟨[(6, _), (28, B x_6), (30, .opt x_6 (.one (.i (x_3.length : Int))))], []⟩ rfl (CgT x_6 [30] (fun g8 => by exact ⟨g8, trivial⟩) (fun g8 => op_eql rfl rfl) (Oc (op_pick_and (fun e => e) rfl rfl rfl rfl) (Oc om ?_)))))
   refine CgT (x_6 && (decide ((x_3.length : Int) = 0))) [] (fun g9 => trivial) (fun g9 => om) (CgT (x_6 && (decide ((x_3.length : Int) = 0))) [34] (fun g10 => by exact ⟨g10, trivial⟩) (fun g10 => op_eql rfl rfl) (OpsL.consB h rfl (op_pick_and (fun e => e) rfl rfl rfl rfl) (fun x_7 h => ?_)))
   refine Oc oa (OpsL.nilS ⟨[(4, B x_7)], []⟩ rfl (Tri.ret (Fin.then_ret ?_)))
   obtain rfl := Option.some.inj h
   refine Fin.keepS ⟨[(4, _)], []⟩ rfl (Fin.result' [.one (.bool x_7)] (.inl rfl) rfl (.cons (.tmp rfl) .nil) ⟨rfl, rfl⟩)
  ·refine Tri.skip (Fin.keepS ⟨[(0, _), (1, _), (5, _), (6, _)], []⟩ rfl (Fin.then (Tri.seq (Tri.seq (Tri.regionL ?_)))))
   refine Oc om (Oc (op_len_e' und37 rfl (List.length_map _)) (Oc (op_eql rfl rfl) ?_))
   refine OpsL.nilS ⟨[(0, _), (1, _), (5, _), (6, _), (39, B (decide ((x_3.length : Int) = 0)))], []⟩ rfl (Tri.ite h rfl (fun _ h => ?_) (fun _ h => ?_))
   ·refine Tri.seq (Tri.regionL ?_)
    refine Oc oa (OpsL.nilS ⟨[(4, B false)], []⟩ rfl (Tri.ret (Fin.then_ret ?_)))
    obtain rfl := Option.some.inj h
    refine Fin.keepS ⟨[(4, _)], []⟩ rfl (Fin.result' [.one (.bool false)] (.inl rfl) rfl (.cons (.tmp rfl) .nil) ⟨rfl, rfl⟩)
   ·refine Tri.skip (Fin.keepS ⟨[(0, _), (1, _), (5, _), (6, _)], []⟩ rfl (Fin.then ?_))
    obtain ⟨v11, h12, h⟩ := bnd h
    refine Tri.seqJ (v := v11) (fun (_ : Unit) => ⟨[(0, .b (.one (.sl 6 (l0.map eReport)))), (1, I now0), (5, .b (.one (.sl 1 (x_3.map eI))))], []⟩) (fun z => .inl z) ?_ ?_
    ·refine Tri.seq (Tri.regionL ?_)
     refine Oc om (Oc (op_len_e' und37 rfl (List.length_map _)) (Oc om ?_))
     refine OpsL.nilS ⟨[(0, _), (1, _), (5, _), (6, _), (40, .b (.one (.sl 1 (x_3.map eI)))), (41, I (x_3.length : Int)), (42, I 0)], []⟩ rfl (Tri.block (Tri.loopJ h12 (fun (x_8 : Int) => ⟨[(0, .b (.one (.sl 6 (l0.map eReport)))), (1, I now0), (5, .b (.one (.sl 1 (x_3.map eI)))), (6, I x_4), (40, .b (.one (.sl 1 (x_3.map eI)))), (41, I (x_3.length : Int)), (42, I x_8)], []⟩) [0, 1, 5, 6, 40, 41, 42] [] rfl ?_))
     rintro x_8 o13 h14 hy15
     refine Tri.seq (Tri.regionL ?_)
     refine Oc (op_lss rfl rfl) (OpsL.nilS ⟨[(0, _), (1, _), (5, _), (6, _), (40, _), (41, _), (42, _), (43, B (decide (x_8 < (x_3.length : Int))))], []⟩ rfl (Tri.seq (Tri.ite h14 rfl (fun _ h14 => ?_) (fun _ h14 => ?_))))
     ·refine Tri.skip (Fin.keepS ⟨[(0, _), (1, _), (5, _), (6, _), (40, _), (41, _), (42, _)], []⟩ rfl (Fin.then (Tri.seq (Tri.block (Tri.seq (Tri.regionL ?_))))))
      refine Oc om ?_
      obtain ⟨x_9, e16, h14⟩ := bnd h14
      refine Oc (op_index_e tySl37 (ix_lo e16) (ix_map (e := eI) e16) rfl rfl) (Oc (op_load_e1 tyOne3 rfl rfl) (Oc oa (Oc oa ?_)))
      refine OpsL.nilS ⟨[(0, _), (1, _), (5, _), (6, _), (7, I x_8), (8, I x_9), (40, _), (41, _), (42, _)], []⟩ rfl (Tri.seq (Tri.regionL ?_))
      refine Oc om (Oc (op_lss rfl rfl) (Oc om ?_))
      refine CgF (!(decide (x_9 < 0))) [] (fun g17 => trivial) (fun g17 => om) (CgF (!(decide (x_9 < 0))) [] (fun g18 => by exact trivial) (fun g18 => om) (CgF (!(decide (x_9 < 0))) [51] (fun g19 => by exact ⟨g19, trivial⟩) (fun g19 => op_len_e' und22 rfl (List.length_map _)) (OpsL.keepS ⟨[(0, _), (1, _), (5, _), (6, _), (7, _), (8, _), (40, _), (41, _), (42, _), (49, B (decide (x_9 < 0))), (50, .opt (!(decide (x_9 < 0))) (.one (.i x_9))), (52, .opt (!(decide (x_9 < 0))) (.one (.i (l0.length : Int))))], []⟩ rfl (CgF (!(decide (x_9 < 0))) [50, 52] (fun g20 => by exact ⟨g20, g20, trivial⟩) (fun g20 => op_geq rfl rfl) (Oc (op_pick_or (fun e => by rw [e]; rfl) rfl rfl rfl rfl) (Oc om ?_))))))
      refine CgF (!((decide (x_9 < 0)) || (decide ((l0.length : Int) ≤ x_9)))) [] (fun g21 => trivial) (fun g21 => om) (CgF (!((decide (x_9 < 0)) || (decide ((l0.length : Int) ≤ x_9)))) [56] (fun g22 => by exact ⟨g22, trivial⟩) (fun g22 => op_gtr rfl rfl) (CgF (!((decide (x_9 < 0)) || (decide ((l0.length : Int) ≤ x_9)))) [57] (fun g23 => by exact ⟨g23, trivial⟩) (fun g23 => om) (OpsL.consG ((!((decide (x_9 < 0)) || (decide ((l0.length : Int) ≤ x_9)))) && (decide (0 < x_8))) 99 [] (.under rfl) (and_t _ _) rfl rfl (fun g24 => by exact trivial) (fun g24 => om) (OpsL.consG ((!((decide (x_9 < 0)) || (decide ((l0.length : Int) ≤ x_9)))) && (decide (0 < x_8))) 99 [] (.under rfl) (and_t _ _) rfl rfl (fun g25 => by exact trivial) (fun g25 => om) (OpsL.keepS ⟨[(0, _), (1, _), (5, _), (6, _), (8, _), (40, _), (41, _), (42, _), (55, B ((decide (x_9 < 0)) || (decide ((l0.length : Int) ≤ x_9)))), (58, .opt (!((decide (x_9 < 0)) || (decide ((l0.length : Int) ≤ x_9)))) (.one (.bool (decide (0 < x_8))))), (59, .opt ((!((decide (x_9 < 0)) || (decide ((l0.length : Int) ≤ x_9)))) && (decide (0 < x_8))) (.one (.sl 1 (x_3.map eI)))), (60, .opt ((!((decide (x_9 < 0)) || (decide ((l0.length : Int) ≤ x_9)))) && (decide (0 < x_8))) (.one (.i x_8)))], []⟩ rfl ?_)))))
      refine OpsL.consG ((!((decide (x_9 < 0)) || (decide ((l0.length : Int) ≤ x_9)))) && (decide (0 < x_8))) 99 [60] (.under rfl) (and_t _ _) rfl rfl (fun g26 => ⟨g26, trivial⟩) (fun g26 => op_sub rfl rfl) ?_
      obtain ⟨x_10, e28, h14⟩ := bnd h14
      refine OpsL.consG ((!((decide (x_9 < 0)) || (decide ((l0.length : Int) ≤ x_9)))) && (decide (0 < x_8))) 99 [59, 61] (.under rfl) (and_t _ _) rfl rfl (fun g27 => ⟨g27, g27, trivial⟩) (fun g27 => op_index_e tySl37 (ix_lo (gc e28 g27)) (ix_map (e := eI) (gc e28 g27)) rfl rfl) (OpsL.consG ((!((decide (x_9 < 0)) || (decide ((l0.length : Int) ≤ x_9)))) && (decide (0 < x_8))) 99 [62] (.under rfl) (and_t _ _) rfl rfl (fun g29 => ⟨g29, trivial⟩) (fun g29 => op_load_e1 tyOne3 rfl rfl) (OpsL.consG ((!((decide (x_9 < 0)) || (decide ((l0.length : Int) ≤ x_9)))) && (decide (0 < x_8))) 99 [] (.under rfl) (and_t _ _) rfl rfl (fun g30 => trivial) (fun g30 => om) (OpsL.consG ((!((decide (x_9 < 0)) || (decide ((l0.length : Int) ≤ x_9)))) && (decide (0 < x_8))) 99 [63, 64] (.under rfl) (and_t _ _) rfl rfl (fun g31 => by exact ⟨g31, g31, trivial⟩) (fun g31 => op_geq rfl rfl) (CgF (!((decide (x_9 < 0)) || (decide ((l0.length : Int) ≤ x_9)))) [58] (fun g32 => by exact ⟨g32, trivial⟩) (fun g32 => op_pick_and (fun e => by rw [g32, e]; rfl) rfl rfl rfl rfl) (OpsL.consB h14 rfl (op_pick_or (fun e => by rw [e]; rfl) rfl rfl rfl rfl) (fun x_11 h14 => ?_))))))
      refine Oc om (OpsL.keepS ⟨[(0, _), (1, _), (5, _), (6, _), (8, _), (40, _), (41, _), (42, _), (68, B x_11)], []⟩ rfl (CgF (!x_11) [] (fun g33 => by exact trivial) (fun g33 => om) (CgF (!x_11) [] (fun g34 => by exact trivial) (fun g34 => om) ?_)))
      obtain ⟨x_12, e36, h14⟩ := bnd h14
      refine CgF (!x_11) [69, 70] (fun g35 => ⟨g35, g35, trivial⟩) (fun g35 => op_index_e tySl22 (ix_lo (gc e36 g35)) (ix_map (e := eReport) (gc e36 g35)) rfl rfl) (CgF (!x_11) [71] (fun g37 => ⟨g37, trivial⟩) (fun g37 => op_field_e tyFld24_5 rfl rfl) (CgF (!x_11) [72] (fun g38 => ⟨g38, trivial⟩) (fun g38 => op_load_e1 tyOne3 rfl rfl) (CgF (!x_11) [] (fun g39 => trivial) (fun g39 => om) (CgF (!x_11) [73, 74] (fun g40 => by exact ⟨g40, g40, trivial⟩) (fun g40 => op_gtr rfl rfl) (Oc (op_pick_or (fun e => by rw [e]; rfl) rfl rfl rfl rfl) ?_)))))
      refine OpsL.keepS ⟨[(0, _), (1, _), (5, _), (6, _), (8, _), (40, _), (41, _), (42, _), (76, B (x_11 || (decide (now0 < x_12.Time))))], []⟩ rfl (Oc om (CgF (!(x_11 || (decide (now0 < x_12.Time)))) [] (fun g41 => by exact trivial) (fun g41 => om) (CgF (!(x_11 || (decide (now0 < x_12.Time)))) [] (fun g42 => by exact trivial) (fun g42 => om) ?_)))
      obtain ⟨x_13, e44, h14⟩ := bnd h14
      refine CgF (!(x_11 || (decide (now0 < x_12.Time)))) [78, 79] (fun g43 => ⟨g43, g43, trivial⟩) (fun g43 => op_index_e tySl22 (ix_lo (gc e44 g43)) (ix_map (e := eReport) (gc e44 g43)) rfl rfl) (CgF (!(x_11 || (decide (now0 < x_12.Time)))) [80] (fun g45 => ⟨g45, trivial⟩) (fun g45 => op_field_e tyFld24_2 rfl rfl) (CgF (!(x_11 || (decide (now0 < x_12.Time)))) [81] (fun g46 => ⟨g46, trivial⟩) (fun g46 => op_load_e1 tyOne3 rfl rfl) (CgF (!(x_11 || (decide (now0 < x_12.Time)))) [] (fun g47 => trivial) (fun g47 => om) (CgF (!(x_11 || (decide (now0 < x_12.Time)))) [82, 83] (fun g48 => by exact ⟨g48, g48, trivial⟩) (fun g48 => op_neq rfl rfl) (OpsL.consB h14 rfl (op_pick_or (fun e => by rw [e]; rfl) rfl rfl rfl rfl) (fun x_14 h14 => ?_))))))
      refine OpsL.nilS ⟨[(0, _), (1, _), (5, _), (6, _), (40, _), (41, _), (42, _), (85, B x_14)], []⟩ rfl (Tri.ite h14 rfl (fun _ h14 => ?_) (fun _ h14 => ?_))
      ·refine Tri.seq (Tri.regionL ?_)
       refine Oc oa (OpsL.nilS ⟨[(4, B false)], []⟩ rfl (Tri.ret (Fin.block_ret (Fin.then_ret ?_))))
       obtain rfl := hy15 _ (Option.some.inj h14).symm
       refine Fin.then_ret (Fin.block_ret (Fin.then_ret ?_))
       obtain rfl := Option.some.inj h
       refine Fin.keepS ⟨[(4, _)], []⟩ rfl (Fin.result' [.one (.bool false)] (.inl rfl) rfl (.cons (.tmp rfl) .nil) ⟨rfl, rfl⟩)
      ·refine Tri.skip (Fin.block_normal (Fin.keepS ⟨[(0, _), (1, _), (5, _), (6, _), (40, _), (41, _), (42, _)], []⟩ rfl (Fin.then (Tri.regionL ?_))))
       refine Oc (op_add rfl rfl) (Oc om ?_)
       refine OpsL.nil ?_
       exact Fin.againJ [0, 1, 5, 6, 40, 41, 42] [] (IntKind.i64.wrap (x_8 + 1)) (Option.some.inj h14) rfl
     ·refine Tri.exit (Fin.then_exit ?_)
      obtain rfl := hy15 _ (Option.some.inj h14).symm
      refine Fin.then_exit (Fin.block_exit ?_)
      exact Fin.join [0, 1, 5] [] () rfl rfl
    ·rintro _ hv
     subst v11
     refine Tri.seq (Tri.regionL ?_)
     refine Oc om (Oc om ?_)
     obtain ⟨x_15, e49, h⟩ := bnd h
     refine Oc (op_call (skewbackref39_Chosen_spec 101 e49) goes20 rfl trivial rfl rfl) (Oc oa ?_)
     refine OpsL.nilS ⟨[(0, _), (1, _), (5, _), (9, .b (.row 101))], [(101, .row 24 6 (x_15.map eReport))]⟩ rfl (Tri.seq (Tri.seq (Tri.regionL ?_)))
     refine Oc om (Oc om ?_)
     obtain ⟨x_16, e50, h⟩ := bnd h
     refine Oc (op_callB (sensor_Consistent_spec e50) goes17 rfl CP.flat_bool) (OpsL.nilS ⟨[(0, _), (1, _), (5, _), (9, _), (92, B x_16)], [(101, _)]⟩ rfl (Tri.ite h rfl (fun _ h => ?_) (fun _ h => ?_)))
     ·refine Tri.seq (Tri.regionL ?_)
      refine Oc oa (OpsL.nilS ⟨[(4, B false)], []⟩ rfl (Tri.ret (Fin.then_ret ?_)))
      obtain rfl := Option.some.inj h
      refine Fin.keepS ⟨[(4, _)], []⟩ rfl (Fin.result' [.one (.bool false)] (.inl rfl) rfl (.cons (.tmp rfl) .nil) ⟨rfl, rfl⟩)
     ·refine Tri.skip (Fin.keepS ⟨[(0, _), (1, _), (5, _), (9, _)], [(101, _)]⟩ rfl (Fin.then ?_))
      obtain ⟨v51, h52, h⟩ := bnd h
      refine Tri.seqJ (v := v51) (fun (_ : Unit) => ⟨[(0, .b (.one (.sl 6 (l0.map eReport)))), (1, I now0), (5, .b (.one (.sl 1 (x_3.map eI))))], []⟩) (fun z => .inl z) ?_ ?_
      ·refine Tri.seq (Tri.regionL ?_)
       refine Oc om (Oc (op_len_r' und22 rfl rfl (List.length_map _)) (Oc om ?_))
       refine OpsL.nilS ⟨[(0, .b (.one (.sl 6 (l0.map eReport)))), (1, I now0), (5, .b (.one (.sl 1 (x_3.map eI)))), (9, .b (.row 101)), (94, I (x_15.length : Int)), (95, I 0)], [(101, .row 24 6 (x_15.map eReport))]⟩ rfl (Tri.block (Tri.persist 101 rfl (Tri.loopJ h52 (un2 fun (set_17 : List Report) (x_18 : Int) => ⟨[(0, .b (.one (.sl 6 (l0.map eReport)))), (1, I now0), (5, .b (.one (.sl 1 (x_3.map eI)))), (9, .b (.one (.sl 6 (set_17.map eReport)))), (94, I (x_15.length : Int)), (95, I x_18)], []⟩) [0, 1, 5, 9, 94, 95] [] rfl ?_)))
       rintro ⟨set_17, x_18⟩ o53 h54 hy55
       refine Tri.seq (Tri.regionL ?_)
       refine Oc (op_lss rfl rfl) (OpsL.nilS ⟨[(0, _), (1, _), (5, _), (9, _), (94, _), (95, _), (96, B (decide (x_18 < (x_15.length : Int))))], []⟩ rfl (Tri.seq (Tri.ite h54 rfl (fun _ h54 => ?_) (fun _ h54 => ?_))))
       ·refine Tri.skip (Fin.keepS ⟨[(0, _), (1, _), (5, _), (9, _), (94, _), (95, _)], []⟩ rfl (Fin.then (Tri.seq (Tri.block (Tri.seq (Tri.regionL ?_))))))
        refine Oc om (Oc oa ?_)
        refine OpsL.nilS ⟨[(0, _), (1, _), (5, _), (9, _), (10, I x_18), (94, _), (95, _)], []⟩ rfl (Tri.seq (Tri.regionL ?_))
        refine Oc om (Oc om ?_)
        obtain ⟨x_19, e56, h54⟩ := bnd h54
        refine Oc (op_call (skewbackref39_Without_spec 102 e56) goes21 rfl trivial rfl rfl) (Oc om ?_)
        obtain ⟨x_20, e57, h54⟩ := bnd h54
        refine Oc (op_callB (sensor_Consistent_spec e57) goes17 rfl CP.flat_bool) (Oc (op_not rfl) ?_)
        refine OpsL.nilS ⟨[(0, _), (1, _), (5, _), (9, _), (94, _), (95, _), (103, B (!x_20))], []⟩ rfl (Tri.ite h54 rfl (fun _ h54 => ?_) (fun _ h54 => ?_))
        ·refine Tri.seq (Tri.regionL ?_)
         refine Oc oa (OpsL.nilS ⟨[(4, B false)], []⟩ rfl (Tri.ret (Fin.block_ret (Fin.then_ret ?_))))
         obtain rfl := hy55 _ (Option.some.inj h54).symm
         refine Fin.then_ret (Fin.block_ret (Fin.then_ret ?_))
         obtain rfl := Option.some.inj h
         refine Fin.keepS ⟨[(4, _)], []⟩ rfl (Fin.result' [.one (.bool false)] (.inl rfl) rfl (.cons (.tmp rfl) .nil) ⟨rfl, rfl⟩)
        ·refine Tri.skip (Fin.block_normal (Fin.keepS ⟨[(0, _), (1, _), (5, _), (9, _), (94, _), (95, _)], []⟩ rfl (Fin.then (Tri.regionL ?_))))
         refine Oc (op_add rfl rfl) (Oc om ?_)
         refine OpsL.nil ?_
         exact Fin.againJ [0, 1, 5, 9, 94, 95] [] (set_17, IntKind.i64.wrap (x_18 + 1)) (Option.some.inj h54) rfl
       ·refine Tri.exit (Fin.then_exit ?_)
        obtain rfl := hy55 _ (Option.some.inj h54).symm
        refine Fin.then_exit (Fin.block_exit ?_)
        exact Fin.join [0, 1, 5] [] () rfl rfl
      ·rintro _ hv
       subst v51
       obtain ⟨v58, h59, h⟩ := bnd h
       refine Tri.seqJ (v := v58) (fun (_ : Unit) => ⟨[], []⟩) (fun z => .inl z) ?_ ?_
       ·refine Tri.seq (Tri.regionL ?_)
        refine Oc om (Oc (op_len_e' und22 rfl (List.length_map _)) ?_)
        obtain ⟨x_21, e60, h59⟩ := bnd h59
        refine Oc (op_shl e60 rfl rfl) (Oc om ?_)
        refine OpsL.nilS ⟨[(0, _), (1, _), (5, _), (107, I x_21), (108, I 0)], []⟩ rfl (Tri.block (Tri.loopJ h59 (fun (x_22 : Int) => ⟨[(0, .b (.one (.sl 6 (l0.map eReport)))), (1, I now0), (5, .b (.one (.sl 1 (x_3.map eI)))), (107, I x_21), (108, I x_22)], []⟩) [0, 1, 5, 107, 108] [] rfl ?_))
        rintro x_22 o61 h62 hy63
        refine Tri.seq (Tri.regionL ?_)
        refine Oc (op_lss rfl rfl) (OpsL.nilS ⟨[(0, _), (1, _), (5, _), (107, _), (108, _), (109, B (decide (x_22 < x_21)))], []⟩ rfl (Tri.seq (Tri.ite h62 rfl (fun _ h62 => ?_) (fun _ h62 => ?_))))
        ·refine Tri.skip (Fin.keepS ⟨[(0, _), (1, _), (5, _), (107, _), (108, _)], []⟩ rfl (Fin.then ?_))
         obtain ⟨v64, h65, h62⟩ := bnd h62
         refine Tri.seqJ (v := v64) (fun (_ : Unit) => ⟨[(0, .b (.one (.sl 6 (l0.map eReport)))), (1, I now0), (5, .b (.one (.sl 1 (x_3.map eI)))), (107, I x_21), (108, I x_22)], []⟩) (fun z => .inl z) ?_ ?_
         ·refine Tri.block (Tri.seq (Tri.regionL ?_))
          refine Oc om (Oc oa ?_)
          refine OpsL.nilS ⟨[(0, _), (1, _), (5, _), (11, I x_22), (107, _), (108, _)], []⟩ rfl (Tri.seq (Tri.regionL ?_))
          refine Oc oa (OpsL.nilS ⟨[(0, _), (1, _), (5, _), (11, _), (12, .b (.one (.nil))), (107, _), (108, _)], []⟩ rfl ?_)
          obtain ⟨v66, h67, h65⟩ := bnd h65
          refine Tri.seqJ (v := v66) (fun (some_23 : List Int) => ⟨[(0, .b (.one (.sl 6 (l0.map eReport)))), (1, I now0), (5, .b (.one (.sl 1 (x_3.map eI)))), (12, .b (.row 104)), (107, I x_21), (108, I x_22)], [(104, .row 3 1 (some_23.map eI))]⟩) (fun z => z) ?_ ?_
          ·refine Tri.seq (Tri.regionL ?_)
           refine Oc om (Oc (op_len_e' und22 rfl (List.length_map _)) (Oc om ?_))
           refine OpsL.nilS ⟨[(0, _), (1, _), (5, _), (11, _), (12, _), (107, _), (108, _), (112, I (l0.length : Int)), (113, I 0)], []⟩ rfl (Tri.block (Tri.nilrow 12 104 1 3 rfl (by decide) rfl (Tri.loopJ h67 (un2 fun (some_24 : List Int) (x_25 : Int) => ⟨[(0, .b (.one (.sl 6 (l0.map eReport)))), (1, I now0), (5, .b (.one (.sl 1 (x_3.map eI)))), (11, I x_22), (12, .b (.row 104)), (107, I x_21), (108, I x_22), (112, I (l0.length : Int)), (113, I x_25)], [(104, .row 3 1 (some_24.map eI))]⟩) [0, 1, 5, 11, 12, 107, 108, 112, 113] [104] rfl ?_)))
           rintro ⟨some_24, x_25⟩ o68 h69 hy70
           refine Tri.seq (Tri.regionL ?_)
           refine Oc (op_lss rfl rfl) (OpsL.nilS ⟨[(0, _), (1, _), (5, _), (11, _), (12, _), (107, _), (108, _), (112, _), (113, _), (114, B (decide (x_25 < (l0.length : Int))))], [(104, _)]⟩ rfl (Tri.seq (Tri.ite h69 rfl (fun _ h69 => ?_) (fun _ h69 => ?_))))
           ·refine Tri.skip (Fin.keepS ⟨[(0, _), (1, _), (5, _), (11, _), (12, _), (107, _), (108, _), (112, _), (113, _)], [(104, _)]⟩ rfl (Fin.then ?_))
            obtain ⟨v71, h72, h69⟩ := bnd h69
            refine Tri.seqJ (v := v71) (fun (some_27 : List Int) => ⟨[(0, .b (.one (.sl 6 (l0.map eReport)))), (1, I now0), (5, .b (.one (.sl 1 (x_3.map eI)))), (11, I x_22), (12, .b (.row 104)), (107, I x_21), (108, I x_22), (112, I (l0.length : Int)), (113, I x_25)], [(104, .row 3 1 (some_27.map eI))]⟩) (fun z => z) ?_ ?_
            ·refine Tri.block (Tri.seq (Tri.regionL ?_))
             refine Oc om (Oc oa ?_)
             refine OpsL.nilS ⟨[(0, _), (1, _), (5, _), (11, _), (12, _), (13, I x_25), (107, _), (108, _), (112, _), (113, _)], [(104, _)]⟩ rfl (Tri.seq (Tri.regionL ?_))
             refine Oc om (Oc om ?_)
             obtain ⟨x_28, e73, h72⟩ := bnd h72
             refine Oc (op_shr3 e73 rfl rfl) (Oc (op_and_mask2 1 (by decide) (by decide) rfl rfl) (Oc (op_eql rfl rfl) ?_))
             refine OpsL.nilS ⟨[(0, _), (1, _), (5, _), (11, _), (12, _), (13, _), (107, _), (108, _), (112, _), (113, _), (120, B (decide ((x_28 % 2 ^ 1) = 1)))], [(104, _)]⟩ rfl (Tri.ite h72 rfl (fun _ h72 => ?_) (fun _ h72 => ?_))
             ·refine Tri.regionL (Oc om (Oc om (Oc (op_buildSlice (k := 105) (es := [x_25].map eI) tySl37 rfl rfl (uni_map fun _ => rfl) rfl (by decide) (by decide) rfl) ?_)))
              obtain ⟨x_29, e74, h72⟩ := bnd h72
              refine Oc (op_append_r tySl37 (app_b e74) (app_m e74) rfl rfl rfl rfl (app_map e74) rfl) (Oc oa ?_)
              refine OpsL.nil (Fin.block_normal ?_)
              exact Fin.join [0, 1, 5, 11, 12, 107, 108, 112, 113] [104] x_29 (Option.some.inj h72) rfl
             ·refine Tri.skip (Fin.block_normal ?_)
              exact Fin.join [0, 1, 5, 11, 12, 107, 108, 112, 113] [104] some_24 (Option.some.inj h72) rfl
            ·rintro some_27 hv
             subst v71
             refine Tri.regionL (Oc (op_add rfl rfl) (Oc om ?_))
             refine OpsL.nil ?_
             exact Fin.againJ [0, 1, 5, 11, 12, 107, 108, 112, 113] [104] (some_27, IntKind.i64.wrap (x_25 + 1)) (Option.some.inj h69) rfl
           ·refine Tri.exit (Fin.then_exit ?_)
            obtain rfl := hy70 _ (Option.some.inj h69).symm
            refine Fin.then_exit (Fin.block_exit ?_)
            exact Fin.join [0, 1, 5, 12, 107, 108] [104] some_24 rfl rfl
          ·rintro some_23 hv
           subst v66
           refine Tri.seq (Tri.regionL ?_)
           refine OpsL.persist 104 rfl (Oc om (Oc (op_len_e' und37 rfl (List.length_map _)) (Oc om (Oc (op_len_e' und37 rfl (List.length_map _)) (Oc (op_lss rfl rfl) ?_)))))
           refine OpsL.keepS ⟨[(0, .b (.one (.sl 6 (l0.map eReport)))), (1, I now0), (5, .b (.one (.sl 1 (x_3.map eI)))), (12, .b (.one (.sl 1 (some_23.map eI)))), (107, I x_21), (108, I x_22), (130, B (decide ((some_23.length : Int) < (x_3.length : Int))))], []⟩ rfl (Oc om (CgT (decide ((some_23.length : Int) < (x_3.length : Int))) [] (fun g75 => by exact trivial) (fun g75 => om) (CgT (decide ((some_23.length : Int) < (x_3.length : Int))) [] (fun g76 => by exact trivial) (fun g76 => om) ?_)))
           obtain ⟨x_30, e78, h65⟩ := bnd h65
           refine CgT (decide ((some_23.length : Int) < (x_3.length : Int))) [132, 133] (fun g77 => ⟨g77, g77, trivial⟩) (fun g77 => op_call0 (skewbackref39_Chosen_spec 0 (gc e78 g77)).persG goes20 rfl rfl) (CgT (decide ((some_23.length : Int) < (x_3.length : Int))) [] (fun g79 => trivial) (fun g79 => om) (OpsL.keepS ⟨[(0, _), (1, _), (5, _), (107, _), (108, _), (131, B (decide ((some_23.length : Int) < (x_3.length : Int)))), (134, .opt (decide ((some_23.length : Int) < (x_3.length : Int))) (.one (.sl 6 (x_30.map eReport)))), (135, .opt (decide ((some_23.length : Int) < (x_3.length : Int))) (.one (.i now0)))], []⟩ rfl ?_))
           obtain ⟨x_31, e81, h65⟩ := bnd h65
           refine CgT (decide ((some_23.length : Int) < (x_3.length : Int))) [134, 135] (fun g80 => ⟨g80, g80, trivial⟩) (fun g80 => op_call0 (sensor_Consistent_spec (gc e81 g80)) goes17 rfl rfl) (CgT (decide ((some_23.length : Int) < (x_3.length : Int))) [136] (fun g82 => ⟨g82, trivial⟩) (fun g82 => op_not rfl) (OpsL.consB h65 rfl (op_pick_and (fun e => e) rfl rfl rfl rfl) (fun x_32 h65 => ?_)))
           refine OpsL.nilS ⟨[(0, _), (1, _), (5, _), (107, _), (108, _), (138, B x_32)], []⟩ rfl (Tri.ite h65 rfl (fun _ h65 => ?_) (fun _ h65 => ?_))
           ·refine Tri.seq (Tri.regionL ?_)
            refine Oc oa (OpsL.nilS ⟨[(4, B false)], []⟩ rfl (Tri.ret (Fin.block_ret ?_)))
            obtain rfl := Option.some.inj h65
            refine Fin.then_ret ?_
            obtain rfl := hy63 _ (Option.some.inj h62).symm
            refine Fin.then_ret (Fin.block_ret (Fin.then_ret ?_))
            obtain rfl := Option.some.inj h
            refine Fin.keepS ⟨[(4, _)], []⟩ rfl (Fin.result' [.one (.bool false)] (.inl rfl) rfl (.cons (.tmp rfl) .nil) ⟨rfl, rfl⟩)
           ·refine Tri.skip (Fin.block_normal ?_)
            exact Fin.join [0, 1, 5, 107, 108] [] () (Option.some.inj h65) rfl
         ·rintro _ hv
          subst v64
          refine Tri.regionL (Oc (op_add rfl rfl) (Oc om ?_))
          refine OpsL.nil ?_
          exact Fin.againJ [0, 1, 5, 107, 108] [] (IntKind.i64.wrap (x_22 + 1)) (Option.some.inj h62) rfl
        ·refine Tri.exit (Fin.then_exit ?_)
         obtain rfl := hy63 _ (Option.some.inj h62).symm
         refine Fin.then_exit (Fin.block_exit ?_)
         exact Fin.join [] [] () rfl rfl
       ·rintro _ hv
        subst v58
        refine Tri.seq (Tri.regionL ?_)
        obtain ⟨x_33, e83, h⟩ := bnd h
        refine Oc (op_call0 (skewbacklaw39_sanity_spec e83) goes9 rfl rfl) (Oc oa ?_)
        refine OpsL.nilS ⟨[(4, B x_33)], []⟩ rfl (Tri.ret ?_)
        obtain rfl := Option.some.inj h
        refine Fin.keepS ⟨[(4, _)], []⟩ rfl (Fin.result' [.one (.bool x_33)] (.inl rfl) rfl (.cons (.tmp rfl) .nil) ⟨rfl, rfl⟩)
end Go.Proofs.Ytimhhebjefkjlaa

