/- printed walks -/
import Derived.Test.YtimhhebjefkjlaaW1
namespace Go.Proofs.Ytimhhebjefkjlaa
open Go.Sk Go
set_option maxHeartbeats 1000000
set_option maxRecDepth 4000
set_option linter.unusedSimpArgs false
set_option linter.unusedVariables false
def skewbacklaw39_sanity_S (F : Nat) : Option Bool :=
 (skewbacklaw39_is_S F 0 1 2 5).bind fun x_1 => (skewbacklaw39_is_S F 1 2 1 1).bind fun x_2 => (skewbacklaw39_is_S F 0 2 0 4).bind fun x_3 => (take? [x_1, x_2, x_3] 2).bind fun x_4 => Option.bind (sensor_Boxes_S F x_4 0) (un2 fun x_5 x_6 => Option.bind (sensor_Boxes_S F [x_1, x_2, x_3] 0) (un2 fun x_7 x_8 => Option.bind (sensor_Solution_S F [x_1, x_2, x_3] 0) (un2 fun x_9 x_10 => letN (((decide (x_6 ≠ 0)) || (decide (x_8 ≠ 0))) || (decide (x_10 ≠ 0))) fun x_11 => letN ((x_11 || (decide ((x_5.length : Int) ≠ 2))) || (decide ((x_7.length : Int) ≠ 2))) fun x_12 => if (x_12 || (decide ((x_9.length : Int) ≠ 2))) = true then (some false) else ((idx? x_5 0).bind fun x_13 => (skewbacklaw39_sanity_1_S F 2 5).bind fun x_14 => (gcall (decide (x_13 = x_14)) (idx? x_5 1)).bind fun x_15 => (gcall (decide (x_13 = x_14)) (skewbacklaw39_sanity_1_S F 3 6)).bind fun x_16 => (gcall ((decide (x_13 = x_14)) && (decide (x_15 = x_16))) (idx? x_7 0)).bind fun x_17 => (gcall ((decide (x_13 = x_14)) && (decide (x_15 = x_16))) (skewbacklaw39_sanity_1_S F 2 3)).bind fun x_18 => (gcall (((decide (x_13 = x_14)) && (decide (x_15 = x_16))) && (decide (x_17 = x_18))) (idx? x_7 1)).bind fun x_19 => (gcall (((decide (x_13 = x_14)) && (decide (x_15 = x_16))) && (decide (x_17 = x_18))) (skewbacklaw39_sanity_1_S F 3 4)).bind fun x_20 => (gcall ((((decide (x_13 = x_14)) && (decide (x_15 = x_16))) && (decide (x_17 = x_18))) && (decide (x_19 = x_20))) (idx? x_9 0)).bind fun x_21 => (gcall (((((decide (x_13 = x_14)) && (decide (x_15 = x_16))) && (decide (x_17 = x_18))) && (decide (x_19 = x_20))) && (decide (x_21 = (⟨2, 0, 0⟩ : A3)))) (idx? x_9 1)).bind fun x_22 => (take? [x_1, x_2, x_3] 3).bind fun x_23 => (skewbacklaw39_is_S F 0 2 5 9).bind fun x_24 => (app? x_23 [x_24]).bind fun x_25 => Option.bind (sensor_Contradiction_S F x_25 0) (un2 fun x_26 x_27 => (take? [x_1, x_2, x_3] 2).bind fun x_28 => (skewbacklaw39_is_S F 0 2 0 2).bind fun x_29 => (app? x_28 [x_29]).bind fun x_30 => Option.bind (sensor_Contradiction_S F x_30 0) (un2 fun x_31 x_32 => Option.bind (sensor_Contradiction_S F [x_1, x_2, x_3] 0) (un2 fun x_33 x_34 => (take? [x_1, x_2, x_3] 2).bind fun x_35 => (skewbacklaw39_is_S F 0 2 3 7).bind fun x_36 => Option.bind (sensor_Implied_S F x_35 0 x_36) (un2 fun x_37 x_38 => (take? [x_1, x_2, x_3] 2).bind fun x_39 => (skewbacklaw39_is_S F 0 2 4 6).bind fun x_40 => Option.bind (sensor_Implied_S F x_39 0 x_40) (un2 fun x_41 x_42 => (skewbacklaw39_ints_S F x_26 [2, 3]).bind fun x_43 => (gcall (x_43 && (decide (x_27 = 0))) (skewbacklaw39_ints_S F x_31 [0, 1, 2])).bind fun x_44 => letN (((x_43 && (decide (x_27 = 0))) && x_44) && (decide (x_32 = 0))) fun x_45 => letN ((x_45 && (decide ((x_33.length : Int) = 0))) && (decide (x_34 = (-1)))) fun x_46 => letN ((((((decide (x_13 = x_14)) && (decide (x_15 = x_16))) && (decide (x_17 = x_18))) && (decide (x_19 = x_20))) && (decide (x_21 = (⟨2, 0, 0⟩ : A3)))) && (decide (x_22 = (⟨3, 0, 0⟩ : A3)))) fun x_47 => letN (((((x_47 && x_46) && x_37) && (!x_41)) && (decide (x_38 = 0))) && (decide (x_42 = 0))) fun x_48 => (gcall x_48 (sensor_Consistent_S F [x_1, x_2, x_3] 0)).bind fun x_49 => (gcall (x_48 && x_49) (sensor_Fits_S F [x_1, x_2, x_3] 0 x_9)).bind fun x_50 => some ((x_48 && x_49) && x_50))))))))))
theorem skewbacklaw39_sanity_spec {F : Nat} {r : Bool} (h : skewbacklaw39_sanity_S F = some r) : Meets Try.prog [] 9 [] [] (Is [] (.b (.one (.bool r)))) := by
 unfold skewbacklaw39_sanity_S at h
 refine Meets.intro 200 Try.func9 Try.ntmps9 rfl (by simp) fun E => ?_
 show Tri _ E ⟨200, [], [], []⟩ _ ⟨[], []⟩ _
 refine Tri.seq (Tri.regionL ?_)
 refine Oc oa (OpsL.nilS ⟨[], []⟩ rfl (Tri.seq (Tri.regionL ?_)))
 obtain ⟨x_1, e1, h⟩ := bnd h
 refine Oc (op_call0 (skewbacklaw39_is_spec e1) goes31 rfl rfl) ?_
 obtain ⟨x_2, e2, h⟩ := bnd h
 refine Oc (op_call0 (skewbacklaw39_is_spec e2) goes31 rfl rfl) (OpsL.keepS ⟨[(21, .b (.agg (eReport x_1))), (22, .b (.agg (eReport x_2)))], []⟩ rfl ?_)
 obtain ⟨x_3, e3, h⟩ := bnd h
 refine Oc (op_call0 (skewbacklaw39_is_spec e3) goes31 rfl rfl) (Oc (op_buildSlice (k := 101) (es := [x_1, x_2, x_3].map eReport) tySl22 rfl rfl (uni_map fun _ => rfl) rfl (by decide) (by decide) rfl) (Oc oa ?_))
 refine OpsL.nilS ⟨[(1, .b (.row 101))], [(101, .row 24 6 ([x_1, x_2, x_3].map eReport))]⟩ rfl (Tri.seq (Tri.regionL ?_))
 refine Oc om (OpsL.persist 101 rfl ?_)
 obtain ⟨x_4, e4, h⟩ := bnd h
 refine Oc (op_slice_h2 tySl22 e4 rfl rfl) ?_
 obtain ⟨⟨x_5, x_6⟩, e5, h⟩ := bnd h
 refine Oc (op_call (sensor_Boxes_spec 102 e5) goes10 rfl trivial rfl rfl) (OpsL.keepS ⟨[(1, .b (.one (.sl 6 ([x_1, x_2, x_3].map eReport)))), (28, .tup [.row 102, .one (.i x_6)])], [(102, .row 36 12 (x_5.map eArr3Bound))]⟩ rfl (Oc om (Oc (op_extract rfl rfl) (Oc (op_extract rfl rfl) (Oc oa (Oc oa ?_))))))
 refine OpsL.nilS ⟨[(1, _), (2, .b (.row 102)), (3, I x_6)], [(102, _)]⟩ rfl (Tri.seq (Tri.regionL ?_))
 refine Oc om ?_
 obtain ⟨⟨x_7, x_8⟩, e6, h⟩ := bnd h
 refine Oc (op_call (sensor_Boxes_spec 103 e6) goes10 rfl trivial rfl rfl) (Oc om (Oc (op_extract rfl rfl) (Oc (op_extract rfl rfl) (Oc oa (Oc oa ?_)))))
 refine OpsL.nilS ⟨[(1, _), (2, _), (3, _), (4, .b (.row 103)), (5, I x_8)], [(102, _), (103, .row 36 12 (x_7.map eArr3Bound))]⟩ rfl (Tri.seq (Tri.regionL ?_))
 refine Oc om ?_
 obtain ⟨⟨x_9, x_10⟩, e7, h⟩ := bnd h
 refine Oc (op_call (sensor_Solution_spec 104 e7) goes24 rfl trivial rfl rfl) (Oc om (Oc (op_extract rfl rfl) (Oc (op_extract rfl rfl) (Oc oa (Oc oa ?_)))))
 refine OpsL.nilS ⟨[(1, _), (2, _), (3, _), (4, _), (5, _), (6, .b (.row 104)), (7, I x_10)], [(102, _), (103, _), (104, .row 52 3 (x_9.map (eA3 .i64)))]⟩ rfl (Tri.seq (Tri.seq (Tri.regionL ?_)))
 refine Oc om (Oc (op_neq rfl rfl) (Oc om ?_))
 refine CgF (!(decide (x_6 ≠ 0))) [] (fun g8 => trivial) (fun g8 => om) (CgF (!(decide (x_6 ≠ 0))) [44] (fun g9 => by exact ⟨g9, trivial⟩) (fun g9 => op_neq rfl rfl) (Oc (op_pick_or (fun e => by rw [e]; rfl) rfl rfl rfl rfl) (Oc om ?_)))
 refine OpsL.keepS ⟨[(1, _), (2, _), (4, _), (6, _), (7, _), (47, B ((decide (x_6 ≠ 0)) || (decide (x_8 ≠ 0))))], [(102, _), (103, _), (104, _)]⟩ rfl (CgF (!((decide (x_6 ≠ 0)) || (decide (x_8 ≠ 0)))) [] (fun g10 => trivial) (fun g10 => om) (CgF (!((decide (x_6 ≠ 0)) || (decide (x_8 ≠ 0)))) [48] (fun g11 => by exact ⟨g11, trivial⟩) (fun g11 => op_neq rfl rfl) (OpsL.consB h rfl (op_pick_or (fun e => by rw [e]; rfl) rfl rfl rfl rfl) (fun x_11 h => ?_))))
 refine Oc om (CgF (!x_11) [] (fun g12 => by exact trivial) (fun g12 => om) (CgF (!x_11) [52] (fun g13 => by exact ⟨g13, trivial⟩) (fun g13 => op_len_r' und27 rfl rfl (List.length_map _)) (CgF (!x_11) [53] (fun g14 => by exact ⟨g14, trivial⟩) (fun g14 => op_neq rfl rfl) (OpsL.keepS ⟨[(1, _), (2, _), (4, _), (6, _), (51, B x_11), (54, .opt (!x_11) (.one (.bool (decide ((x_5.length : Int) ≠ 2)))))], [(102, _), (103, _), (104, _)]⟩ rfl (Oc (op_pick_or (fun e => by rw [e]; rfl) rfl rfl rfl rfl) (Oc om ?_))))))
 refine CgF (!(x_11 || (decide ((x_5.length : Int) ≠ 2)))) [] (fun g15 => trivial) (fun g15 => om) (CgF (!(x_11 || (decide ((x_5.length : Int) ≠ 2)))) [57] (fun g16 => by exact ⟨g16, trivial⟩) (fun g16 => op_len_r' und27 rfl rfl (List.length_map _)) (CgF (!(x_11 || (decide ((x_5.length : Int) ≠ 2)))) [58] (fun g17 => by exact ⟨g17, trivial⟩) (fun g17 => op_neq rfl rfl) (OpsL.consB h rfl (op_pick_or (fun e => by rw [e]; rfl) rfl rfl rfl rfl) (fun x_12 h => ?_))))
 refine Oc om (OpsL.keepS ⟨[(1, _), (2, _), (4, _), (6, _), (61, B x_12)], [(102, _), (103, _), (104, _)]⟩ rfl (CgF (!x_12) [] (fun g18 => by exact trivial) (fun g18 => om) (CgF (!x_12) [62] (fun g19 => by exact ⟨g19, trivial⟩) (fun g19 => op_len_r' und50 rfl rfl (List.length_map _)) (CgF (!x_12) [63] (fun g20 => by exact ⟨g20, trivial⟩) (fun g20 => op_neq rfl rfl) (Oc (op_pick_or (fun e => by rw [e]; rfl) rfl rfl rfl rfl) ?_)))))
 refine OpsL.nilS ⟨[(1, _), (2, _), (4, _), (6, _), (65, B (x_12 || (decide ((x_9.length : Int) ≠ 2))))], [(102, _), (103, _), (104, _)]⟩ rfl (Tri.ite h rfl (fun _ h => ?_) (fun _ h => ?_))
 ·refine Tri.seq (Tri.regionL ?_)
  refine Oc oa (OpsL.nilS ⟨[(0, B false)], []⟩ rfl (Tri.ret (Fin.then_ret ?_)))
  obtain rfl := Option.some.inj h
  refine Fin.keepS ⟨[(0, _)], []⟩ rfl (Fin.result' [.one (.bool false)] (.inl rfl) rfl (.cons (.tmp rfl) .nil) ⟨rfl, rfl⟩)
 ·refine Tri.skip (Fin.keepS ⟨[(1, _), (2, _), (4, _), (6, _)], [(102, _), (103, _), (104, _)]⟩ rfl (Fin.then (Tri.seq (Tri.regionL ?_))))
  refine Oc oa (OpsL.nilS ⟨[(1, _), (2, _), (4, _), (6, _), (8, .b (.one (.raw (.func (.func 32) #[] #[]))))], [(102, _), (103, _), (104, _)]⟩ rfl (Tri.seq ?_))
  obtain ⟨x_13, e21, h⟩ := bnd h
  obtain ⟨x_14, e22, h⟩ := bnd h
  obtain ⟨x_15, e25, h⟩ := bnd h
  obtain ⟨x_16, e29, h⟩ := bnd h
  obtain ⟨x_17, e33, h⟩ := bnd h
  obtain ⟨x_18, e37, h⟩ := bnd h
  obtain ⟨x_19, e41, h⟩ := bnd h
  obtain ⟨x_20, e45, h⟩ := bnd h
  obtain ⟨x_21, e49, h⟩ := bnd h
  obtain ⟨x_22, e55, h⟩ := bnd h
  refine Tri.regionY mixed 45 [.b (.row 102), .b (.rptr 102 ((0 : Int).toNat * 12)), .b (.agg (eArr3Bound x_13)), .b (.one (.raw (.func (.func 32) #[] #[]))), .b (.agg (eArr3Bound x_14)), B (decide (x_13 = x_14)), B (decide (x_13 = x_14)), .opt (decide (x_13 = x_14)) (.row 102), .opt (decide (x_13 = x_14)) (.rptr 102 ((1 : Int).toNat * 12)), .opt (decide (x_13 = x_14)) (.agg (eArr3Bound x_15)), .opt (decide (x_13 = x_14)) (.one (.raw (.func (.func 32) #[] #[]))), .opt (decide (x_13 = x_14)) (.agg (eArr3Bound x_16)), .opt (decide (x_13 = x_14)) (.one (.bool (decide (x_15 = x_16)))), B ((decide (x_13 = x_14)) && (decide (x_15 = x_16))), B ((decide (x_13 = x_14)) && (decide (x_15 = x_16))), .opt ((decide (x_13 = x_14)) && (decide (x_15 = x_16))) (.row 103), .opt ((decide (x_13 = x_14)) && (decide (x_15 = x_16))) (.rptr 103 ((0 : Int).toNat * 12)), .opt ((decide (x_13 = x_14)) && (decide (x_15 = x_16))) (.agg (eArr3Bound x_17)), .opt ((decide (x_13 = x_14)) && (decide (x_15 = x_16))) (.one (.raw (.func (.func 32) #[] #[]))), .opt ((decide (x_13 = x_14)) && (decide (x_15 = x_16))) (.agg (eArr3Bound x_18)), .opt ((decide (x_13 = x_14)) && (decide (x_15 = x_16))) (.one (.bool (decide (x_17 = x_18)))), B (((decide (x_13 = x_14)) && (decide (x_15 = x_16))) && (decide (x_17 = x_18))), B (((decide (x_13 = x_14)) && (decide (x_15 = x_16))) && (decide (x_17 = x_18))), .opt (((decide (x_13 = x_14)) && (decide (x_15 = x_16))) && (decide (x_17 = x_18))) (.row 103), .opt (((decide (x_13 = x_14)) && (decide (x_15 = x_16))) && (decide (x_17 = x_18))) (.rptr 103 ((1 : Int).toNat * 12)), .opt (((decide (x_13 = x_14)) && (decide (x_15 = x_16))) && (decide (x_17 = x_18))) (.agg (eArr3Bound x_19)), .opt (((decide (x_13 = x_14)) && (decide (x_15 = x_16))) && (decide (x_17 = x_18))) (.one (.raw (.func (.func 32) #[] #[]))), .opt (((decide (x_13 = x_14)) && (decide (x_15 = x_16))) && (decide (x_17 = x_18))) (.agg (eArr3Bound x_20)), .opt (((decide (x_13 = x_14)) && (decide (x_15 = x_16))) && (decide (x_17 = x_18))) (.one (.bool (decide (x_19 = x_20)))), B ((((decide (x_13 = x_14)) && (decide (x_15 = x_16))) && (decide (x_17 = x_18))) && (decide (x_19 = x_20))), B ((((decide (x_13 = x_14)) && (decide (x_15 = x_16))) && (decide (x_17 = x_18))) && (decide (x_19 = x_20))), .opt ((((decide (x_13 = x_14)) && (decide (x_15 = x_16))) && (decide (x_17 = x_18))) && (decide (x_19 = x_20))) (.row 104), .opt ((((decide (x_13 = x_14)) && (decide (x_15 = x_16))) && (decide (x_17 = x_18))) && (decide (x_19 = x_20))) (.rptr 104 ((0 : Int).toNat * 3)), .opt ((((decide (x_13 = x_14)) && (decide (x_15 = x_16))) && (decide (x_17 = x_18))) && (decide (x_19 = x_20))) (.agg ((eA3 .i64) x_21)), .opt ((((decide (x_13 = x_14)) && (decide (x_15 = x_16))) && (decide (x_17 = x_18))) && (decide (x_19 = x_20))) (.agg [.i 2, .i 0, .i 0]), .opt ((((decide (x_13 = x_14)) && (decide (x_15 = x_16))) && (decide (x_17 = x_18))) && (decide (x_19 = x_20))) (.one (.bool (decide (x_21 = (⟨2, 0, 0⟩ : A3))))), B (((((decide (x_13 = x_14)) && (decide (x_15 = x_16))) && (decide (x_17 = x_18))) && (decide (x_19 = x_20))) && (decide (x_21 = (⟨2, 0, 0⟩ : A3)))), B (((((decide (x_13 = x_14)) && (decide (x_15 = x_16))) && (decide (x_17 = x_18))) && (decide (x_19 = x_20))) && (decide (x_21 = (⟨2, 0, 0⟩ : A3)))), .opt (((((decide (x_13 = x_14)) && (decide (x_15 = x_16))) && (decide (x_17 = x_18))) && (decide (x_19 = x_20))) && (decide (x_21 = (⟨2, 0, 0⟩ : A3)))) (.row 104), .opt (((((decide (x_13 = x_14)) && (decide (x_15 = x_16))) && (decide (x_17 = x_18))) && (decide (x_19 = x_20))) && (decide (x_21 = (⟨2, 0, 0⟩ : A3)))) (.rptr 104 ((1 : Int).toNat * 3)), .opt (((((decide (x_13 = x_14)) && (decide (x_15 = x_16))) && (decide (x_17 = x_18))) && (decide (x_19 = x_20))) && (decide (x_21 = (⟨2, 0, 0⟩ : A3)))) (.agg ((eA3 .i64) x_22)), .opt (((((decide (x_13 = x_14)) && (decide (x_15 = x_16))) && (decide (x_17 = x_18))) && (decide (x_19 = x_20))) && (decide (x_21 = (⟨2, 0, 0⟩ : A3)))) (.agg [.i 3, .i 0, .i 0]), .opt (((((decide (x_13 = x_14)) && (decide (x_15 = x_16))) && (decide (x_17 = x_18))) && (decide (x_19 = x_20))) && (decide (x_21 = (⟨2, 0, 0⟩ : A3)))) (.one (.bool (decide (x_22 = (⟨3, 0, 0⟩ : A3))))), B ((((((decide (x_13 = x_14)) && (decide (x_15 = x_16))) && (decide (x_17 = x_18))) && (decide (x_19 = x_20))) && (decide (x_21 = (⟨2, 0, 0⟩ : A3)))) && (decide (x_22 = (⟨3, 0, 0⟩ : A3)))), B ((((((decide (x_13 = x_14)) && (decide (x_15 = x_16))) && (decide (x_17 = x_18))) && (decide (x_19 = x_20))) && (decide (x_21 = (⟨2, 0, 0⟩ : A3)))) && (decide (x_22 = (⟨3, 0, 0⟩ : A3))))] [1, 6, 9] [104] (s' := ⟨[(1, _), (6, _), (9, B ((((((decide (x_13 = x_14)) && (decide (x_15 = x_16))) && (decide (x_17 = x_18))) && (decide (x_19 = x_20))) && (decide (x_21 = (⟨2, 0, 0⟩ : A3)))) && (decide (x_22 = (⟨3, 0, 0⟩ : A3)))))], [(104, _)]⟩) rfl ⟨fun _ => .p om, fun _ => .p (op_index_r tySl27 (ix_lo e21) (ix_lt' e21) rfl rfl rfl rfl), fun _ => .p (op_load_r (i := (0 : Int).toNat) (f := 0) tyAgg36 rfl rfl rfl (ix_map (e := eArr3Bound) e21) rfl rfl), fun _ => .p om, fun _ => .p (op_callv0 (skewbacklaw39_sanity_1_spec e22) goes32 rfl rfl rfl), fun _ => .p (op_eql_agg (eqAgg36 x_13 x_14) rfl rfl), fun _ => .p om, fun _ => by exact .guard (decide (x_13 = x_14)) 1 [] (.plain rfl) (eq_t _) rfl rfl (fun g23 => trivial) (fun g23 => om), fun _ => by exact .guard (decide (x_13 = x_14)) 2 [73] (.plain rfl) (eq_t _) rfl rfl (fun g24 => ⟨g24, trivial⟩) (fun g24 => op_index_r tySl27 (ix_lo (gc e25 g24)) (ix_lt' (gc e25 g24)) rfl rfl rfl rfl), fun _ => by exact .guard (decide (x_13 = x_14)) 2 [74] (.plain rfl) (eq_t _) rfl rfl (fun g26 => ⟨g26, trivial⟩) (fun g26 => op_load_r (i := (1 : Int).toNat) (f := 0) tyAgg36 rfl rfl rfl (ix_map (e := eArr3Bound) (gc e25 g26)) rfl rfl), fun _ => by exact .guard (decide (x_13 = x_14)) 1 [] (.plain rfl) (eq_t _) rfl rfl (fun g27 => trivial) (fun g27 => om), fun _ => by exact .guard (decide (x_13 = x_14)) 3 [76] (.plain rfl) (eq_t _) rfl rfl (fun g28 => ⟨g28, trivial⟩) (fun g28 => op_callv0 (skewbacklaw39_sanity_1_spec (gc e29 g28)) goes32 rfl rfl rfl), fun _ => by exact .guard (decide (x_13 = x_14)) 3 [75, 77] (.plain rfl) (eq_t _) rfl rfl (fun g30 => ⟨g30, g30, trivial⟩) (fun g30 => op_eql_agg (eqAgg36 x_15 x_16) rfl rfl), fun _ => .p (op_pick_and (fun e => e) rfl rfl rfl rfl), fun _ => .p om, fun _ => by exact .guard ((decide (x_13 = x_14)) && (decide (x_15 = x_16))) 1 [] (.plain rfl) (eq_t _) rfl rfl (fun g31 => trivial) (fun g31 => om), fun _ => by exact .guard ((decide (x_13 = x_14)) && (decide (x_15 = x_16))) 2 [81] (.plain rfl) (eq_t _) rfl rfl (fun g32 => ⟨g32, trivial⟩) (fun g32 => op_index_r tySl27 (ix_lo (gc e33 g32)) (ix_lt' (gc e33 g32)) rfl rfl rfl rfl), fun _ => by exact .guard ((decide (x_13 = x_14)) && (decide (x_15 = x_16))) 2 [82] (.plain rfl) (eq_t _) rfl rfl (fun g34 => ⟨g34, trivial⟩) (fun g34 => op_load_r (i := (0 : Int).toNat) (f := 0) tyAgg36 rfl rfl rfl (ix_map (e := eArr3Bound) (gc e33 g34)) rfl rfl), fun _ => by exact .guard ((decide (x_13 = x_14)) && (decide (x_15 = x_16))) 1 [] (.plain rfl) (eq_t _) rfl rfl (fun g35 => trivial) (fun g35 => om), fun _ => by exact .guard ((decide (x_13 = x_14)) && (decide (x_15 = x_16))) 3 [84] (.plain rfl) (eq_t _) rfl rfl (fun g36 => ⟨g36, trivial⟩) (fun g36 => op_callv0 (skewbacklaw39_sanity_1_spec (gc e37 g36)) goes32 rfl rfl rfl), fun _ => by exact .guard ((decide (x_13 = x_14)) && (decide (x_15 = x_16))) 3 [83, 85] (.plain rfl) (eq_t _) rfl rfl (fun g38 => ⟨g38, g38, trivial⟩) (fun g38 => op_eql_agg (eqAgg36 x_17 x_18) rfl rfl), fun _ => .p (op_pick_and (fun e => e) rfl rfl rfl rfl), fun _ => .p om, fun _ => by exact .guard (((decide (x_13 = x_14)) && (decide (x_15 = x_16))) && (decide (x_17 = x_18))) 1 [] (.plain rfl) (eq_t _) rfl rfl (fun g39 => trivial) (fun g39 => om), fun _ => by exact .guard (((decide (x_13 = x_14)) && (decide (x_15 = x_16))) && (decide (x_17 = x_18))) 2 [89] (.plain rfl) (eq_t _) rfl rfl (fun g40 => ⟨g40, trivial⟩) (fun g40 => op_index_r tySl27 (ix_lo (gc e41 g40)) (ix_lt' (gc e41 g40)) rfl rfl rfl rfl), fun _ => by exact .guard (((decide (x_13 = x_14)) && (decide (x_15 = x_16))) && (decide (x_17 = x_18))) 2 [90] (.plain rfl) (eq_t _) rfl rfl (fun g42 => ⟨g42, trivial⟩) (fun g42 => op_load_r (i := (1 : Int).toNat) (f := 0) tyAgg36 rfl rfl rfl (ix_map (e := eArr3Bound) (gc e41 g42)) rfl rfl), fun _ => by exact .guard (((decide (x_13 = x_14)) && (decide (x_15 = x_16))) && (decide (x_17 = x_18))) 1 [] (.plain rfl) (eq_t _) rfl rfl (fun g43 => trivial) (fun g43 => om), fun _ => by exact .guard (((decide (x_13 = x_14)) && (decide (x_15 = x_16))) && (decide (x_17 = x_18))) 3 [92] (.plain rfl) (eq_t _) rfl rfl (fun g44 => ⟨g44, trivial⟩) (fun g44 => op_callv0 (skewbacklaw39_sanity_1_spec (gc e45 g44)) goes32 rfl rfl rfl), fun _ => by exact .guard (((decide (x_13 = x_14)) && (decide (x_15 = x_16))) && (decide (x_17 = x_18))) 3 [91, 93] (.plain rfl) (eq_t _) rfl rfl (fun g46 => ⟨g46, g46, trivial⟩) (fun g46 => op_eql_agg (eqAgg36 x_19 x_20) rfl rfl), fun _ => .p (op_pick_and (fun e => e) rfl rfl rfl rfl), fun _ => .p om, fun _ => by exact .guard ((((decide (x_13 = x_14)) && (decide (x_15 = x_16))) && (decide (x_17 = x_18))) && (decide (x_19 = x_20))) 1 [] (.plain rfl) (eq_t _) rfl rfl (fun g47 => trivial) (fun g47 => om), fun _ => by exact .guard ((((decide (x_13 = x_14)) && (decide (x_15 = x_16))) && (decide (x_17 = x_18))) && (decide (x_19 = x_20))) 2 [97] (.plain rfl) (eq_t _) rfl rfl (fun g48 => ⟨g48, trivial⟩) (fun g48 => op_index_r tySl50 (ix_lo (gc e49 g48)) (ix_lt' (gc e49 g48)) rfl rfl rfl rfl), fun _ => by exact .guard ((((decide (x_13 = x_14)) && (decide (x_15 = x_16))) && (decide (x_17 = x_18))) && (decide (x_19 = x_20))) 2 [98] (.plain rfl) (eq_t _) rfl rfl (fun g50 => ⟨g50, trivial⟩) (fun g50 => op_load_r (i := (0 : Int).toNat) (f := 0) tyAgg52 rfl rfl rfl (ix_map (e := (eA3 .i64)) (gc e49 g50)) rfl rfl), fun _ => by exact .guard ((((decide (x_13 = x_14)) && (decide (x_15 = x_16))) && (decide (x_17 = x_18))) && (decide (x_19 = x_20))) 1 [] (.plain rfl) (eq_t _) rfl rfl (fun g51 => trivial) (fun g51 => op_buildA tyBuild52 rfl rfl), fun _ => by exact .guard ((((decide (x_13 = x_14)) && (decide (x_15 = x_16))) && (decide (x_17 = x_18))) && (decide (x_19 = x_20))) 3 [99, 100] (.plain rfl) (eq_t _) rfl rfl (fun g52 => ⟨g52, g52, trivial⟩) (fun g52 => op_eql_agg (eqAgg52 x_21 (⟨2, 0, 0⟩ : A3)) rfl rfl), fun _ => .p (op_pick_and (fun e => e) rfl rfl rfl rfl), fun _ => .p om, fun _ => by exact .guard (((((decide (x_13 = x_14)) && (decide (x_15 = x_16))) && (decide (x_17 = x_18))) && (decide (x_19 = x_20))) && (decide (x_21 = (⟨2, 0, 0⟩ : A3)))) 1 [] (.plain rfl) (eq_t _) rfl rfl (fun g53 => trivial) (fun g53 => om), fun _ => by exact .guard (((((decide (x_13 = x_14)) && (decide (x_15 = x_16))) && (decide (x_17 = x_18))) && (decide (x_19 = x_20))) && (decide (x_21 = (⟨2, 0, 0⟩ : A3)))) 2 [104] (.plain rfl) (eq_t _) rfl rfl (fun g54 => ⟨g54, trivial⟩) (fun g54 => op_index_r tySl50 (ix_lo (gc e55 g54)) (ix_lt' (gc e55 g54)) rfl rfl rfl rfl), fun _ => by exact .guard (((((decide (x_13 = x_14)) && (decide (x_15 = x_16))) && (decide (x_17 = x_18))) && (decide (x_19 = x_20))) && (decide (x_21 = (⟨2, 0, 0⟩ : A3)))) 2 [105] (.plain rfl) (eq_t _) rfl rfl (fun g56 => ⟨g56, trivial⟩) (fun g56 => op_load_r (i := (1 : Int).toNat) (f := 0) tyAgg52 rfl rfl rfl (ix_map (e := (eA3 .i64)) (gc e55 g56)) rfl rfl), fun _ => by exact .guard (((((decide (x_13 = x_14)) && (decide (x_15 = x_16))) && (decide (x_17 = x_18))) && (decide (x_19 = x_20))) && (decide (x_21 = (⟨2, 0, 0⟩ : A3)))) 1 [] (.plain rfl) (eq_t _) rfl rfl (fun g57 => trivial) (fun g57 => op_buildA tyBuild52 rfl rfl), fun _ => by exact .guard (((((decide (x_13 = x_14)) && (decide (x_15 = x_16))) && (decide (x_17 = x_18))) && (decide (x_19 = x_20))) && (decide (x_21 = (⟨2, 0, 0⟩ : A3)))) 3 [106, 107] (.plain rfl) (eq_t _) rfl rfl (fun g58 => ⟨g58, g58, trivial⟩) (fun g58 => op_eql_agg (eqAgg52 x_22 (⟨3, 0, 0⟩ : A3)) rfl rfl), fun _ => .p (op_pick_and (fun e => e) rfl rfl rfl rfl), fun _ => .p oa, trivial⟩ rfl rfl ?_
  refine Tri.seq (Tri.keepS ⟨[(1, _), (6, _), (9, _)], [(104, _)]⟩ rfl ?_)
  obtain ⟨x_23, e59, h⟩ := bnd h
  obtain ⟨x_24, e60, h⟩ := bnd h
  obtain ⟨x_25, e61, h⟩ := bnd h
  obtain ⟨⟨x_26, x_27⟩, e62, h⟩ := bnd h
  refine Tri.regionY mixed 11 [.b (.one (.sl 6 ([x_1, x_2, x_3].map eReport))), .b (.one (.slf 6 (x_23.map eReport))), .b (.agg (eReport x_24)), .b (.one (.sl 6 ([x_24].map eReport))), .b (.one (.sl 6 (x_25.map eReport))), .tup [.one (.sl 1 (x_26.map eI)), .one (.i x_27)], .tup [.one (.sl 1 (x_26.map eI)), .one (.i x_27)], .b (.one (.sl 1 (x_26.map eI))), I x_27, .b (.one (.sl 1 (x_26.map eI))), I x_27] [1, 6, 9, 10, 11] [104] (s' := ⟨[(1, _), (6, _), (9, _), (10, .b (.one (.sl 1 (x_26.map eI)))), (11, I x_27)], [(104, _)]⟩) rfl ⟨fun _ => .p om, fun _ => .p (op_slice_3 tySl22 e59 rfl rfl rfl), fun _ => .p (op_call0 (skewbacklaw39_is_spec e60) goes31 rfl rfl), fun _ => .p (op_buildSliceP (es := [x_24].map eReport) tySl22 rfl rfl (uni_map fun _ => rfl) rfl (by decide) (by decide)), fun _ => .p (op_append_fp tySl22 (app_b e61) (app_m e61) (Nat.le_of_ble_eq_true rfl) rfl rfl (app_map e61)), fun _ => .p (op_call0 (sensor_Contradiction_spec e62) goes12 rfl rfl), fun _ => .p om, fun _ => .p (op_extract rfl rfl), fun _ => .p (op_extract rfl rfl), fun _ => .p oa, fun _ => .p oa, trivial⟩ rfl rfl (Tri.seq (Tri.keepS ⟨[(1, _), (6, _), (9, _), (10, _), (11, _)], [(104, _)]⟩ rfl ?_))
  obtain ⟨x_28, e63, h⟩ := bnd h
  obtain ⟨x_29, e64, h⟩ := bnd h
  obtain ⟨x_30, e65, h⟩ := bnd h
  obtain ⟨⟨x_31, x_32⟩, e66, h⟩ := bnd h
  refine Tri.regionY mixed 11 [.b (.one (.sl 6 ([x_1, x_2, x_3].map eReport))), .b (.one (.slf 6 (x_28.map eReport))), .b (.agg (eReport x_29)), .b (.one (.sl 6 ([x_29].map eReport))), .b (.one (.sl 6 (x_30.map eReport))), .tup [.one (.sl 1 (x_31.map eI)), .one (.i x_32)], .tup [.one (.sl 1 (x_31.map eI)), .one (.i x_32)], .b (.one (.sl 1 (x_31.map eI))), I x_32, .b (.one (.sl 1 (x_31.map eI))), I x_32] [1, 6, 9, 10, 11, 12, 13] [104] (s' := ⟨[(1, _), (6, _), (9, _), (10, _), (11, _), (12, .b (.one (.sl 1 (x_31.map eI)))), (13, I x_32)], [(104, _)]⟩) rfl ⟨fun _ => .p om, fun _ => .p (op_slice_3 tySl22 e63 rfl rfl rfl), fun _ => .p (op_call0 (skewbacklaw39_is_spec e64) goes31 rfl rfl), fun _ => .p (op_buildSliceP (es := [x_29].map eReport) tySl22 rfl rfl (uni_map fun _ => rfl) rfl (by decide) (by decide)), fun _ => .p (op_append_fp tySl22 (app_b e65) (app_m e65) (Nat.le_of_ble_eq_true rfl) rfl rfl (app_map e65)), fun _ => .p (op_call0 (sensor_Contradiction_spec e66) goes12 rfl rfl), fun _ => .p om, fun _ => .p (op_extract rfl rfl), fun _ => .p (op_extract rfl rfl), fun _ => .p oa, fun _ => .p oa, trivial⟩ rfl rfl (Tri.seq (Tri.regionL ?_))
  refine Oc om ?_
  obtain ⟨⟨x_33, x_34⟩, e67, h⟩ := bnd h
  refine Oc (op_call0 (sensor_Contradiction_spec e67) goes12 rfl rfl) (Oc om (Oc (op_extract rfl rfl) (Oc (op_extract rfl rfl) (Oc oa (Oc oa ?_)))))
  refine OpsL.nilS ⟨[(1, _), (6, _), (9, _), (10, _), (11, _), (12, _), (13, _), (14, .b (.one (.sl 1 (x_33.map eI)))), (15, I x_34)], [(104, _)]⟩ rfl (Tri.seq ?_)
  obtain ⟨x_35, e68, h⟩ := bnd h
  obtain ⟨x_36, e69, h⟩ := bnd h
  obtain ⟨⟨x_37, x_38⟩, e70, h⟩ := bnd h
  refine Tri.regionY mixed 9 [.b (.one (.sl 6 ([x_1, x_2, x_3].map eReport))), .b (.one (.sl 6 (x_35.map eReport))), .b (.agg (eReport x_36)), .tup [.one (.bool x_37), .one (.i x_38)], .tup [.one (.bool x_37), .one (.i x_38)], B x_37, I x_38, B x_37, I x_38] [1, 6, 9, 10, 11, 12, 13, 14, 15, 16, 17] [104] (s' := ⟨[(1, _), (6, _), (9, _), (10, _), (11, _), (12, _), (13, _), (14, _), (15, _), (16, B x_37), (17, I x_38)], [(104, _)]⟩) rfl ⟨fun _ => .p om, fun _ => .p (op_slice_h2 tySl22 e68 rfl rfl), fun _ => .p (op_call0 (skewbacklaw39_is_spec e69) goes31 rfl rfl), fun _ => .p (op_call0 (sensor_Implied_spec e70) goes14 rfl rfl), fun _ => .p om, fun _ => .p (op_extract rfl rfl), fun _ => .p (op_extract rfl rfl), fun _ => .p oa, fun _ => .p oa, trivial⟩ rfl rfl (Tri.seq (Tri.keepS ⟨[(1, _), (6, _), (9, _), (10, _), (11, _), (12, _), (13, _), (14, _), (15, _), (16, _), (17, _)], [(104, _)]⟩ rfl ?_))
  obtain ⟨x_39, e71, h⟩ := bnd h
  obtain ⟨x_40, e72, h⟩ := bnd h
  obtain ⟨⟨x_41, x_42⟩, e73, h⟩ := bnd h
  refine Tri.regionY mixed 9 [.b (.one (.sl 6 ([x_1, x_2, x_3].map eReport))), .b (.one (.sl 6 (x_39.map eReport))), .b (.agg (eReport x_40)), .tup [.one (.bool x_41), .one (.i x_42)], .tup [.one (.bool x_41), .one (.i x_42)], B x_41, I x_42, B x_41, I x_42] [1, 6, 9, 10, 11, 12, 13, 14, 15, 16, 17, 18, 19] [104] (s' := ⟨[(1, _), (6, _), (9, _), (10, _), (11, _), (12, _), (13, _), (14, _), (15, _), (16, _), (17, _), (18, B x_41), (19, I x_42)], [(104, _)]⟩) rfl ⟨fun _ => .p om, fun _ => .p (op_slice_h2 tySl22 e71 rfl rfl), fun _ => .p (op_call0 (skewbacklaw39_is_spec e72) goes31 rfl rfl), fun _ => .p (op_call0 (sensor_Implied_spec e73) goes14 rfl rfl), fun _ => .p om, fun _ => .p (op_extract rfl rfl), fun _ => .p (op_extract rfl rfl), fun _ => .p oa, fun _ => .p oa, trivial⟩ rfl rfl (Tri.seq (Tri.regionL ?_))
  refine Oc om (Oc (op_buildSlice (k := 107) (es := [2, 3].map eI) tySl37 rfl rfl (uni_map fun _ => rfl) rfl (by decide) (by decide) rfl) ?_)
  obtain ⟨x_43, e74, h⟩ := bnd h
  refine Oc (op_callB (skewbacklaw39_ints_spec e74) goes16 rfl CP.flat_bool) (Oc om ?_)
  refine OpsL.keepS ⟨[(1, _), (6, _), (9, _), (11, _), (12, _), (13, _), (14, _), (15, _), (16, _), (17, _), (18, _), (19, _), (150, B x_43)], [(104, _)]⟩ rfl (CgT x_43 [] (fun g75 => trivial) (fun g75 => om) (CgT x_43 [151] (fun g76 => by exact ⟨g76, trivial⟩) (fun g76 => op_eql rfl rfl) (Oc (op_pick_and (fun e => e) rfl rfl rfl rfl) (Oc om ?_))))
  refine CgT (x_43 && (decide (x_27 = 0))) [] (fun g77 => trivial) (fun g77 => om) (CgT (x_43 && (decide (x_27 = 0))) [] (fun g78 => by exact trivial) (fun g78 => op_buildSliceP (es := [0, 1, 2].map eI) tySl37 rfl rfl (uni_map fun _ => rfl) rfl (by decide) (by decide)) (OpsL.keepS ⟨[(1, _), (6, _), (9, _), (13, _), (14, _), (15, _), (16, _), (17, _), (18, _), (19, _), (154, B (x_43 && (decide (x_27 = 0)))), (155, .opt (x_43 && (decide (x_27 = 0))) (.one (.sl 1 (x_31.map eI)))), (156, .opt (x_43 && (decide (x_27 = 0))) (.one (.sl 1 ([0, 1, 2].map eI))))], [(104, _)]⟩ rfl ?_))
  obtain ⟨x_44, e80, h⟩ := bnd h
  refine CgT (x_43 && (decide (x_27 = 0))) [155, 156] (fun g79 => ⟨g79, g79, trivial⟩) (fun g79 => op_call0 (skewbacklaw39_ints_spec (gc e80 g79)) goes16 rfl rfl) (Oc (op_pick_and (fun e => e) rfl rfl rfl rfl) (Oc om ?_))
  refine CgT ((x_43 && (decide (x_27 = 0))) && x_44) [] (fun g81 => trivial) (fun g81 => om) (CgT ((x_43 && (decide (x_27 = 0))) && x_44) [160] (fun g82 => by exact ⟨g82, trivial⟩) (fun g82 => op_eql rfl rfl) (OpsL.consB h rfl (op_pick_and (fun e => e) rfl rfl rfl rfl) (fun x_45 h => ?_)))
  refine Oc om (CgT x_45 [] (fun g83 => by exact trivial) (fun g83 => om) (OpsL.keepS ⟨[(1, _), (6, _), (9, _), (15, _), (16, _), (17, _), (18, _), (19, _), (163, B x_45), (164, .opt x_45 (.one (.sl 1 (x_33.map eI))))], [(104, _)]⟩ rfl (CgT x_45 [164] (fun g84 => by exact ⟨g84, trivial⟩) (fun g84 => op_len_e' und37 rfl (List.length_map _)) (CgT x_45 [165] (fun g85 => by exact ⟨g85, trivial⟩) (fun g85 => op_eql rfl rfl) (Oc (op_pick_and (fun e => e) rfl rfl rfl rfl) (Oc om ?_))))))
  refine CgT (x_45 && (decide ((x_33.length : Int) = 0))) [] (fun g86 => trivial) (fun g86 => om) (CgT (x_45 && (decide ((x_33.length : Int) = 0))) [169] (fun g87 => by exact ⟨g87, trivial⟩) (fun g87 => op_eql rfl rfl) (OpsL.consB h rfl (op_pick_and (fun e => e) rfl rfl rfl rfl) (fun x_46 h => ?_)))
  refine Oc oa (OpsL.nilS ⟨[(1, _), (6, _), (9, _), (16, _), (17, _), (18, _), (19, _), (20, B x_46)], [(104, _)]⟩ rfl (Tri.seq (Tri.regionL ?_)))
  refine OpsL.consB h rfl om (fun x_47 h => ?_)
  refine Oc om (CgT x_47 [] (fun g88 => by exact trivial) (fun g88 => om) (Oc (op_pick_and (fun e => e) rfl rfl rfl rfl) (Oc om ?_)))
  refine CgT (x_47 && x_46) [] (fun g89 => trivial) (fun g89 => om) (Oc (op_pick_and (fun e => e) rfl rfl rfl rfl) (OpsL.keepS ⟨[(1, _), (6, _), (17, _), (18, _), (19, _), (178, B ((x_47 && x_46) && x_37))], [(104, _)]⟩ rfl (Oc om (CgT ((x_47 && x_46) && x_37) [] (fun g90 => by exact trivial) (fun g90 => om) (CgT ((x_47 && x_46) && x_37) [180] (fun g91 => by exact ⟨g91, trivial⟩) (fun g91 => op_not rfl) ?_)))))
  refine Oc (op_pick_and (fun e => e) rfl rfl rfl rfl) (Oc om ?_)
  refine CgT (((x_47 && x_46) && x_37) && (!x_41)) [] (fun g92 => trivial) (fun g92 => om) (CgT (((x_47 && x_46) && x_37) && (!x_41)) [184] (fun g93 => by exact ⟨g93, trivial⟩) (fun g93 => op_eql rfl rfl) (Oc (op_pick_and (fun e => e) rfl rfl rfl rfl) (OpsL.keepS ⟨[(1, _), (6, _), (19, _), (186, B ((((x_47 && x_46) && x_37) && (!x_41)) && (decide (x_38 = 0))))], [(104, _)]⟩ rfl (Oc om (CgT ((((x_47 && x_46) && x_37) && (!x_41)) && (decide (x_38 = 0))) [] (fun g94 => by exact trivial) (fun g94 => om) ?_)))))
  refine CgT ((((x_47 && x_46) && x_37) && (!x_41)) && (decide (x_38 = 0))) [188] (fun g95 => ⟨g95, trivial⟩) (fun g95 => op_eql rfl rfl) (OpsL.consB h rfl (op_pick_and (fun e => e) rfl rfl rfl rfl) (fun x_48 h => ?_))
  refine Oc om (CgT x_48 [] (fun g96 => by exact trivial) (fun g96 => om) (OpsL.keepS ⟨[(1, _), (6, _), (191, B x_48), (192, .opt x_48 (.one (.sl 6 ([x_1, x_2, x_3].map eReport))))], [(104, _)]⟩ rfl ?_))
  obtain ⟨x_49, e98, h⟩ := bnd h
  refine CgT x_48 [192] (fun g97 => ⟨g97, trivial⟩) (fun g97 => op_call0 (sensor_Consistent_spec (gc e98 g97)) goes17 rfl rfl) (Oc (op_pick_and (fun e => e) rfl rfl rfl rfl) (Oc om ?_))
  refine CgT (x_48 && x_49) [] (fun g99 => trivial) (fun g99 => om) (CgT (x_48 && x_49) [] (fun g100 => by exact trivial) (fun g100 => om) ?_)
  obtain ⟨x_50, e102, h⟩ := bnd h
  refine CgT (x_48 && x_49) [196, 197] (fun g101 => ⟨g101, g101, trivial⟩) (fun g101 => op_callB (sensor_Fits_spec (gc e102 g101)) goes18 rfl CP.flat_bool) (Oc (op_pick_and (fun e => e) rfl rfl rfl rfl) (Oc oa ?_))
  refine OpsL.nilS ⟨[(0, B ((x_48 && x_49) && x_50))], []⟩ rfl (Tri.ret ?_)
  obtain rfl := Option.some.inj h
  refine Fin.keepS ⟨[(0, _)], []⟩ rfl (Fin.result' [.one (.bool ((x_48 && x_49) && x_50))] (.inl rfl) rfl (.cons (.tmp rfl) .nil) ⟨rfl, rfl⟩)
def skewbacklaw39_ends_S (F : Nat) (l0 : List Report) (now0 : Int) (thing0 : Int) (axis0 : Int) (x0 : Int) (by0 : Int) : Option Bool :=
 letN ((decide (549755813888 < x0)) || (decide (x0 < (-549755813888)))) fun x_1 => if x_1 = true then (some true) else ((take? l0 (l0.length : Int)).bind fun x_2 => (app? x_2 [(⟨0, thing0, axis0, x0, x0, 0⟩ : Report)]).bind fun x_3 => (take? l0 (l0.length : Int)).bind fun x_4 => letN (⟨0, thing0, axis0, IntKind.i64.wrap (x0 + by0), IntKind.i64.wrap (x0 + by0), 0⟩ : Report) fun x_5 => (app? x_4 [x_5]).bind fun x_6 => Option.bind (sensor_Solution_S F x_3 now0) (un2 fun x_7 x_8 => (gcall ((decide (x_8 = 0)) && (decide (thing0 ≤ (x_7.length : Int)))) (idx? x_7 (IntKind.i64.wrap (thing0 - 1)))).bind fun x_9 => (gcall ((decide (x_8 = 0)) && (decide (thing0 ≤ (x_7.length : Int)))) (idx? x_9.l axis0)).bind fun x_10 => letN (((decide (x_8 = 0)) && (decide (thing0 ≤ (x_7.length : Int)))) && (decide (x_10 = x0))) fun x_11 => (gcall x_11 (sensor_Fits_S F l0 now0 x_7)).bind fun x_12 => (gcall (x_11 && x_12) (sensor_Consistent_S F x_6 now0)).bind fun x_13 => some ((x_11 && x_12) && (!x_13))))
theorem skewbacklaw39_ends_spec {F : Nat} {l0 : List Report} {now0 : Int} {thing0 : Int} {axis0 : Int} {x0 : Int} {by0 : Int} {r : Bool} (h : skewbacklaw39_ends_S F l0 now0 thing0 axis0 x0 by0 = some r) : Meets Try.prog [] 19 [] [.one (.sl 6 (l0.map eReport)), .one (.i now0), .one (.i thing0), .one (.i axis0), .one (.i x0), .one (.i by0)] (Is [] (.b (.one (.bool r)))) := by
 unfold skewbacklaw39_ends_S at h
 refine Meets.intro 90 Try.func19 Try.ntmps19 rfl (by simp) fun E => ?_
 show Tri _ E ⟨90, [], [], []⟩ _ ⟨[(0, .b (.one (.sl 6 (l0.map eReport)))), (1, I now0), (2, I thing0), (3, I axis0), (4, I x0), (5, I by0)], []⟩ _
 refine Tri.seq (Tri.regionL ?_)
 refine Oc oa (OpsL.nilS ⟨[(0, .b (.one (.sl 6 (l0.map eReport)))), (1, I now0), (2, I thing0), (3, I axis0), (4, I x0), (5, I by0)], []⟩ rfl (Tri.seq (Tri.seq (Tri.regionL ?_))))
 refine Oc om (Oc (op_gtr rfl rfl) (Oc om ?_))
 refine CgF (!(decide (549755813888 < x0))) [] (fun g1 => trivial) (fun g1 => om) (CgF (!(decide (549755813888 < x0))) [20] (fun g2 => by exact ⟨g2, trivial⟩) (fun g2 => op_lss rfl rfl) (OpsL.consB h rfl (op_pick_or (fun e => by rw [e]; rfl) rfl rfl rfl rfl) (fun x_1 h => ?_)))
 refine OpsL.nilS ⟨[(0, _), (1, _), (2, _), (3, _), (4, _), (5, _), (22, B x_1)], []⟩ rfl (Tri.ite h rfl (fun _ h => ?_) (fun _ h => ?_))
 ·refine Tri.seq (Tri.regionL ?_)
  refine Oc oa (OpsL.nilS ⟨[(12, B true)], []⟩ rfl (Tri.ret (Fin.then_ret ?_)))
  obtain rfl := Option.some.inj h
  refine Fin.keepS ⟨[(12, _)], []⟩ rfl (Fin.result' [.one (.bool true)] (.inl rfl) rfl (.cons (.tmp rfl) .nil) ⟨rfl, rfl⟩)
 ·refine Tri.skip (Fin.keepS ⟨[(0, _), (1, _), (2, _), (3, _), (4, _), (5, _)], []⟩ rfl (Fin.then (Tri.seq (Tri.regionL ?_))))
  refine Oc om (Oc om (Oc (op_len_e' und22 rfl (List.length_map _)) (Oc om (Oc (op_len_e' und22 rfl (List.length_map _)) ?_))))
  refine OpsL.keepS ⟨[(0, _), (1, _), (2, _), (3, _), (4, _), (5, _), (23, .b (.one (.sl 6 (l0.map eReport)))), (25, I (l0.length : Int)), (27, I (l0.length : Int))], []⟩ rfl ?_
  obtain ⟨x_2, e3, h⟩ := bnd h
  refine Oc (op_slice_3 tySl22 e3 rfl rfl rfl) (Oc om (Oc om (Oc om (Oc om (Oc (op_build tyBuild24 rfl rfl) ?_)))))
  refine Oc (op_buildSlice (k := 101) (es := [(⟨0, thing0, axis0, x0, x0, 0⟩ : Report)].map eReport) tySl22 rfl rfl (uni_map fun _ => rfl) rfl (by decide) (by decide) rfl) ?_
  obtain ⟨x_3, e4, h⟩ := bnd h
  refine Oc (op_append_f (k := 102) tySl22 (app_b e4) (app_m e4) (Nat.le_of_ble_eq_true rfl) rfl rfl rfl (app_map e4) rfl) (Oc oa ?_)
  refine OpsL.nilS ⟨[(0, _), (1, _), (2, _), (3, _), (4, _), (5, _), (13, .b (.row 102))], [(102, .row 24 6 (x_3.map eReport))]⟩ rfl (Tri.seq (Tri.regionL ?_))
  refine Oc om (Oc om (Oc (op_len_e' und22 rfl (List.length_map _)) (Oc om (Oc (op_len_e' und22 rfl (List.length_map _)) ?_))))
  refine OpsL.keepS ⟨[(0, _), (1, _), (2, _), (3, _), (4, _), (5, _), (13, _), (36, .b (.one (.sl 6 (l0.map eReport)))), (38, I (l0.length : Int)), (40, I (l0.length : Int))], [(102, _)]⟩ rfl ?_
  obtain ⟨x_4, e5, h⟩ := bnd h
  refine Oc (op_slice_3 tySl22 e5 rfl rfl rfl) (Oc om (Oc om (Oc om (Oc om (Oc (op_add rfl rfl) ?_)))))
  refine Oc om (Oc om ?_)
  refine OpsL.keepS ⟨[(0, _), (1, _), (2, _), (3, _), (4, _), (13, _), (41, .b (.one (.slf 6 (x_4.map eReport)))), (42, I thing0), (43, I axis0), (46, I (IntKind.i64.wrap (x0 + by0))), (47, I x0), (48, I by0)], [(102, _)]⟩ rfl (Oc (op_add rfl rfl) (OpsL.consA eReport h rfl (op_build tyBuild24 rfl rfl) (fun x_5 h => ?_)))
  refine Oc (op_buildSlice (k := 103) (es := [x_5].map eReport) tySl22 rfl rfl (uni_map fun _ => rfl) rfl (by decide) (by decide) rfl) ?_
  obtain ⟨x_6, e6, h⟩ := bnd h
  refine Oc (op_append_f (k := 104) tySl22 (app_b e6) (app_m e6) (Nat.le_of_ble_eq_true rfl) rfl rfl rfl (app_map e6) rfl) (Oc oa ?_)
  refine OpsL.nilS ⟨[(0, _), (1, _), (2, _), (3, _), (4, _), (13, _), (14, .b (.row 104))], [(102, _), (104, .row 24 6 (x_6.map eReport))]⟩ rfl (Tri.seq (Tri.regionL ?_))
  refine Oc om (Oc om ?_)
  refine OpsL.persist 102 rfl ?_
  obtain ⟨⟨x_7, x_8⟩, e7, h⟩ := bnd h
  refine Oc (op_call (sensor_Solution_spec 105 e7) goes24 rfl trivial rfl rfl) (OpsL.keepS ⟨[(0, .b (.one (.sl 6 (l0.map eReport)))), (1, I now0), (2, I thing0), (3, I axis0), (4, I x0), (14, .b (.row 104)), (56, .tup [.row 105, .one (.i x_8)])], [(104, .row 24 6 (x_6.map eReport)), (105, .row 52 3 (x_7.map (eA3 .i64)))]⟩ rfl (Oc om (Oc (op_extract rfl rfl) (Oc (op_extract rfl rfl) (Oc oa (Oc oa ?_))))))
  refine OpsL.nilS ⟨[(0, _), (1, _), (2, _), (3, _), (4, _), (14, _), (15, .b (.row 105)), (16, I x_8)], [(104, _), (105, _)]⟩ rfl (Tri.seq (Tri.regionL ?_))
  refine Oc om (Oc (op_eql rfl rfl) (Oc om ?_))
  refine CgT (decide (x_8 = 0)) [] (fun g8 => trivial) (fun g8 => om) (CgT (decide (x_8 = 0)) [62] (fun g9 => by exact ⟨g9, trivial⟩) (fun g9 => op_len_r' und50 rfl rfl (List.length_map _)) (CgT (decide (x_8 = 0)) [] (fun g10 => by exact trivial) (fun g10 => om) (OpsL.keepS ⟨[(0, _), (1, _), (2, _), (3, _), (4, _), (14, _), (15, _), (61, B (decide (x_8 = 0))), (63, .opt (decide (x_8 = 0)) (.one (.i (x_7.length : Int)))), (64, .opt (decide (x_8 = 0)) (.one (.i thing0)))], [(104, _), (105, _)]⟩ rfl (CgT (decide (x_8 = 0)) [63, 64] (fun g11 => by exact ⟨g11, g11, trivial⟩) (fun g11 => op_geq rfl rfl) (Oc (op_pick_and (fun e => e) rfl rfl rfl rfl) (Oc om ?_))))))
  refine CgT ((decide (x_8 = 0)) && (decide (thing0 ≤ (x_7.length : Int)))) [] (fun g12 => trivial) (fun g12 => om) (CgT ((decide (x_8 = 0)) && (decide (thing0 ≤ (x_7.length : Int)))) [] (fun g13 => by exact trivial) (fun g13 => om) (CgT ((decide (x_8 = 0)) && (decide (thing0 ≤ (x_7.length : Int)))) [69] (fun g14 => by exact ⟨g14, trivial⟩) (fun g14 => op_sub rfl rfl) (CgT ((decide (x_8 = 0)) && (decide (thing0 ≤ (x_7.length : Int)))) [] (fun g15 => by exact trivial) (fun g15 => om) ?_)))
  obtain ⟨x_9, e17, h⟩ := bnd h
  refine CgT ((decide (x_8 = 0)) && (decide (thing0 ≤ (x_7.length : Int)))) [68, 70] (fun g16 => ⟨g16, g16, trivial⟩) (fun g16 => op_index_r tySl50 (ix_lo (gc e17 g16)) (ix_lt' (gc e17 g16)) rfl rfl rfl rfl) (OpsL.keepS ⟨[(0, _), (1, _), (4, _), (14, _), (15, _), (67, B ((decide (x_8 = 0)) && (decide (thing0 ≤ (x_7.length : Int))))), (71, .opt ((decide (x_8 = 0)) && (decide (thing0 ≤ (x_7.length : Int)))) (.one (.i axis0))), (72, .opt ((decide (x_8 = 0)) && (decide (thing0 ≤ (x_7.length : Int)))) (.rptr 105 ((IntKind.i64.wrap (thing0 - 1) : Int).toNat * 3)))], [(104, _), (105, _)]⟩ rfl ?_)
  obtain ⟨x_10, e19, h⟩ := bnd h
  refine CgT ((decide (x_8 = 0)) && (decide (thing0 ≤ (x_7.length : Int)))) [71, 72] (fun g18 => ⟨g18, g18, trivial⟩) (fun g18 => op_index_ra tyArr52 (ix_lo (gc e19 g18)) (ix_hi (gc e19 g18)) rfl rfl rfl) (CgT ((decide (x_8 = 0)) && (decide (thing0 ≤ (x_7.length : Int)))) [73] (fun g20 => ⟨g20, trivial⟩) (fun g20 => op_load_r1 (i := (IntKind.i64.wrap (thing0 - 1) : Int).toNat) (f := (axis0 : Int).toNat * 1) tyOne3 rfl rfl rfl (ix_map (e := (eA3 .i64)) (gc e17 g20)) (ix_cell (e := (fun z => [CP.int .i64 z])) (sz := 1) (f := 0) (fun _ => rfl) (gc e19 g20) (by decide) rfl)) (CgT ((decide (x_8 = 0)) && (decide (thing0 ≤ (x_7.length : Int)))) [] (fun g21 => trivial) (fun g21 => om) (CgT ((decide (x_8 = 0)) && (decide (thing0 ≤ (x_7.length : Int)))) [74, 75] (fun g22 => by exact ⟨g22, g22, trivial⟩) (fun g22 => op_eql rfl rfl) (OpsL.consB h rfl (op_pick_and (fun e => e) rfl rfl rfl rfl) (fun x_11 h => ?_)))))
  refine Oc om (CgT x_11 [] (fun g23 => by exact trivial) (fun g23 => om) (CgT x_11 [] (fun g24 => by exact trivial) (fun g24 => om) (OpsL.keepS ⟨[(1, _), (14, _), (15, _), (78, B x_11), (79, .opt x_11 (.one (.sl 6 (l0.map eReport)))), (80, .opt x_11 (.one (.i now0)))], [(104, _), (105, _)]⟩ rfl (CgT x_11 [] (fun g25 => by exact trivial) (fun g25 => om) ?_))))
  obtain ⟨x_12, e27, h⟩ := bnd h
  refine CgT x_11 [79, 80, 81] (fun g26 => ⟨g26, g26, g26, trivial⟩) (fun g26 => op_callB (sensor_Fits_spec (gc e27 g26)) goes18 rfl CP.flat_bool) (Oc (op_pick_and (fun e => e) rfl rfl rfl rfl) (Oc om ?_))
  refine CgT (x_11 && x_12) [] (fun g28 => trivial) (fun g28 => om) (CgT (x_11 && x_12) [] (fun g29 => by exact trivial) (fun g29 => om) (OpsL.keepS ⟨[(84, B (x_11 && x_12)), (85, .opt (x_11 && x_12) (.row 104)), (86, .opt (x_11 && x_12) (.one (.i now0)))], [(104, _)]⟩ rfl ?_))
  obtain ⟨x_13, e31, h⟩ := bnd h
  refine CgT (x_11 && x_12) [85, 86] (fun g30 => ⟨g30, g30, trivial⟩) (fun g30 => op_callB (sensor_Consistent_spec (gc e31 g30)) goes17 rfl CP.flat_bool) (CgT (x_11 && x_12) [87] (fun g32 => ⟨g32, trivial⟩) (fun g32 => op_not rfl) (Oc (op_pick_and (fun e => e) rfl rfl rfl rfl) (Oc oa ?_)))
  refine OpsL.nilS ⟨[(12, B ((x_11 && x_12) && (!x_13)))], []⟩ rfl (Tri.ret ?_)
  obtain rfl := Option.some.inj h
  refine Fin.keepS ⟨[(12, _)], []⟩ rfl (Fin.result' [.one (.bool ((x_11 && x_12) && (!x_13)))] (.inl rfl) rfl (.cons (.tmp rfl) .nil) ⟨rfl, rfl⟩)
def skewbacklaw39_SensorBoxesAreExact_S (F : Nat) (l0 : List Report) (now0 : Int) (at0 : List A3) (which0 : Int) : Option Bool :=
 (skewbackref39_Few_S F l0 30).bind fun x_1 => if ((!x_1) || (decide (9 < (at0.length : Int)))) = true then ((skewbacklaw39_sanity_S F).bind fun x_2 => some x_2) else (Option.bind (iter F (fun x_3 => if (decide (x_3 < (at0.length : Int))) = true then (Option.bind ((idx? at0 x_3).bind fun x_4 => Option.bind (iter F (fun x_5 => if (decide (x_5 < 3)) = true then ((idx? x_4.l x_5).bind fun x_6 => letN ((decide (35184372088832 < x_6)) || (decide (x_6 < (-35184372088832)))) fun x_7 => if x_7 = true then ((skewbacklaw39_sanity_S F).bind fun x_8 => some (.inr (.inr x_8))) else (some (.inl (IntKind.i64.wrap (x_5 + 1))))) else (some (.inr (.inl ())))) 0) (alt2 (fun _ => some (.inl ())) (fun y => some (.inr y)))) (alt2 (fun _ => some (.inl (IntKind.i64.wrap (x_3 + 1)))) (fun y => some (.inr (.inr y))))) else (some (.inr (.inl ())))) 0) (alt2 (fun _ => Option.bind (sensor_Boxes_S F l0 now0) (un2 fun x_9 x_10 => if (decide (x_10 ≠ 0)) = true then ((skewbacklaw39_sanity_S F).bind fun x_11 => (gcall (x_11 && (decide (x_10 = 200))) (sensor_Consistent_S F l0 now0)).bind fun x_12 => (gcall ((x_11 && (decide (x_10 = 200))) && (!x_12)) (sensor_Fits_S F l0 now0 at0)).bind fun x_13 => some (((x_11 && (decide (x_10 = 200))) && (!x_12)) && (!x_13))) else (Option.bind ((sensor_Fits_S F l0 now0 at0).bind fun x_14 => if x_14 = true then (iter F (fun x_15 => if (decide (x_15 < (x_9.length : Int))) = true then (Option.bind ((idx? x_9 x_15).bind fun x_16 => Option.bind (iter F (fun x_17 => if (decide (x_17 < 3)) = true then (Option.bind (Option.bind (if (decide (x_15 < (at0.length : Int))) = true then ((idx? at0 x_15).bind fun x_19 => (idx? x_19.l x_17).bind fun x_20 => some x_20) else (some 0)) (fun x_18 => (idx? x_16.l x_17).bind fun x_21 => (gcall x_21.Below (idx? x_16.l x_17)).bind fun x_22 => (gcall (!(x_21.Below && (decide (x_18 < x_22.Lo)))) (idx? x_16.l x_17)).bind fun x_23 => (gcall ((!(x_21.Below && (decide (x_18 < x_22.Lo)))) && x_23.Above) (idx? x_16.l x_17)).bind fun x_24 => letN ((x_21.Below && (decide (x_18 < x_22.Lo))) || (x_23.Above && (decide (x_24.Hi < x_18)))) fun x_25 => if x_25 = true then (some (.inr false)) else (some (.inl ())))) (alt2 (fun _ => some (.inl (IntKind.i64.wrap (x_17 + 1)))) (fun y => some (.inr (.inr y))))) else (some (.inr (.inl ())))) 0) (alt2 (fun _ => some (.inl ())) (fun y => some (.inr y)))) (alt2 (fun _ => some (.inl (IntKind.i64.wrap (x_15 + 1)))) (fun y => some (.inr (.inr y))))) else (some (.inr (.inl ())))) 0) else (some (.inl ()))) (alt2 (fun _ => if ((decide ((x_9.length : Int) = 0)) || (decide (now0 < 0))) = true then ((skewbacklaw39_sanity_S F).bind fun x_26 => some x_26) else ((rem? (IntKind.i64.wrap which0) (x_9.length : Int)).bind fun x_27 => (quo? .i64 (IntKind.i64.wrap which0) (x_9.length : Int)).bind fun x_28 => letN (IntKind.i64.wrap ((IntKind.i64.wrap (1 + x_27)) - 1)) fun x_29 => (idx? x_9 x_29).bind fun x_30 => (idx? x_30.l (Int.tmod x_28 3)).bind fun x_31 => (skewbacklaw39_sanity_S F).bind fun x_32 => (gcall (x_32 && !(!x_31.Above)) (skewbacklaw39_ends_S F l0 now0 (IntKind.i64.wrap (1 + x_27)) (Int.tmod x_28 3) x_31.Hi 1)).bind fun x_33 => (gcall ((x_32 && ((!x_31.Above) || x_33)) && !(!x_31.Below)) (skewbacklaw39_ends_S F l0 now0 (IntKind.i64.wrap (1 + x_27)) (Int.tmod x_28 3) x_31.Lo (-1))).bind fun x_34 => some ((x_32 && ((!x_31.Above) || x_33)) && ((!x_31.Below) || x_34)))) (fun y => some y))))) (fun y => some y)))
theorem skewbacklaw39_SensorBoxesAreExact_spec {F : Nat} {l0 : List Report} {now0 : Int} {at0 : List A3} {which0 : Int} {r : Bool} (h : skewbacklaw39_SensorBoxesAreExact_S F l0 now0 at0 which0 = some r) : Meets Try.prog [] 4 [] [.one (.sl 6 (l0.map eReport)), .one (.i now0), .one (.sl 3 (at0.map (eA3 .i64))), .one (.int .u8 which0)] (Is [] (.b (.one (.bool r)))) := by
 unfold skewbacklaw39_SensorBoxesAreExact_S at h
 refine Meets.intro 184 Try.func4 Try.ntmps4 rfl (by simp) fun E => ?_
 show Tri _ E ⟨184, [], [], []⟩ _ ⟨[(0, .b (.one (.sl 6 (l0.map eReport)))), (1, I now0), (2, .b (.one (.sl 3 (at0.map (eA3 .i64))))), (3, .b (.one (.int .u8 which0)))], []⟩ _
 refine Tri.seq (Tri.regionL ?_)
 refine Oc oa (OpsL.nilS ⟨[(0, .b (.one (.sl 6 (l0.map eReport)))), (1, I now0), (2, .b (.one (.sl 3 (at0.map (eA3 .i64))))), (3, .b (.one (.int .u8 which0)))], []⟩ rfl (Tri.seq (Tri.seq (Tri.regionL ?_))))
 refine Oc om ?_
 obtain ⟨x_1, e1, h⟩ := bnd h
 refine Oc (op_call0 (skewbackref39_Few_spec e1) goes8 rfl rfl) (Oc (op_not rfl) (Oc om ?_))
 refine CgF (!(!x_1)) [] (fun g2 => trivial) (fun g2 => om) (OpsL.keepS ⟨[(0, _), (1, _), (2, _), (3, _), (25, B (!x_1)), (26, .opt (!(!x_1)) (.one (.sl 3 (at0.map (eA3 .i64)))))], []⟩ rfl (CgF (!(!x_1)) [26] (fun g3 => by exact ⟨g3, trivial⟩) (fun g3 => op_len_e' und50 rfl (List.length_map _)) (CgF (!(!x_1)) [27] (fun g4 => by exact ⟨g4, trivial⟩) (fun g4 => op_gtr rfl rfl) (Oc (op_pick_or (fun e => by rw [e]; rfl) rfl rfl rfl rfl) (OpsL.nilS ⟨[(0, _), (1, _), (2, _), (3, _), (29, B ((!x_1) || (decide (9 < (at0.length : Int)))))], []⟩ rfl ?_)))))
 refine Tri.ite h rfl (fun _ h => ?_) (fun _ h => ?_)
 ·refine Tri.seq (Tri.regionL ?_)
  obtain ⟨x_2, e5, h⟩ := bnd h
  refine Oc (op_call0 (skewbacklaw39_sanity_spec e5) goes9 rfl rfl) (Oc oa ?_)
  refine OpsL.nilS ⟨[(8, B x_2)], []⟩ rfl (Tri.ret (Fin.then_ret ?_))
  obtain rfl := Option.some.inj h
  refine Fin.keepS ⟨[(8, _)], []⟩ rfl (Fin.result' [.one (.bool x_2)] (.inl rfl) rfl (.cons (.tmp rfl) .nil) ⟨rfl, rfl⟩)
 ·refine Tri.skip (Fin.keepS ⟨[(0, _), (1, _), (2, _), (3, _)], []⟩ rfl (Fin.then ?_))
  obtain ⟨v6, h7, h⟩ := bnd h
  refine Tri.seqJ (v := v6) (fun (_ : Unit) => ⟨[(0, .b (.one (.sl 6 (l0.map eReport)))), (1, I now0), (2, .b (.one (.sl 3 (at0.map (eA3 .i64))))), (3, .b (.one (.int .u8 which0)))], []⟩) (fun z => .inl z) ?_ ?_
  ·refine Tri.seq (Tri.regionL ?_)
   refine Oc om (Oc (op_len_e' und50 rfl (List.length_map _)) (Oc om ?_))
   refine OpsL.nilS ⟨[(0, _), (1, _), (2, _), (3, _), (31, .b (.one (.sl 3 (at0.map (eA3 .i64))))), (32, I (at0.length : Int)), (33, I 0)], []⟩ rfl (Tri.block (Tri.loopJ h7 (fun (x_3 : Int) => ⟨[(0, .b (.one (.sl 6 (l0.map eReport)))), (1, I now0), (2, .b (.one (.sl 3 (at0.map (eA3 .i64))))), (3, .b (.one (.int .u8 which0))), (31, .b (.one (.sl 3 (at0.map (eA3 .i64))))), (32, I (at0.length : Int)), (33, I x_3)], []⟩) [0, 1, 2, 3, 31, 32, 33] [] rfl ?_))
   rintro x_3 o8 h9 hy10
   refine Tri.seq (Tri.regionL ?_)
   refine Oc (op_lss rfl rfl) (OpsL.nilS ⟨[(0, _), (1, _), (2, _), (3, _), (31, _), (32, _), (33, _), (34, B (decide (x_3 < (at0.length : Int))))], []⟩ rfl (Tri.seq (Tri.ite h9 rfl (fun _ h9 => ?_) (fun _ h9 => ?_))))
   ·refine Tri.skip (Fin.keepS ⟨[(0, _), (1, _), (2, _), (3, _), (31, _), (32, _), (33, _)], []⟩ rfl (Fin.then ?_))
    obtain ⟨v11, h12, h9⟩ := bnd h9
    refine Tri.seqJ (v := v11) (fun (_ : Unit) => ⟨[(0, .b (.one (.sl 6 (l0.map eReport)))), (1, I now0), (2, .b (.one (.sl 3 (at0.map (eA3 .i64))))), (3, .b (.one (.int .u8 which0))), (31, .b (.one (.sl 3 (at0.map (eA3 .i64))))), (32, I (at0.length : Int)), (33, I x_3)], []⟩) (fun z => .inl z) ?_ ?_
    ·refine Tri.block (Tri.seq (Tri.regionL ?_))
     obtain ⟨x_4, e13, h12⟩ := bnd h12
     refine Oc (op_index_e tySl50 (ix_lo e13) (ix_map (e := (eA3 .i64)) e13) rfl rfl) (Oc (op_load_e tyAgg52 rfl rfl rfl) (Oc (op_alloc (k := 101) tyZero52 rfl) (Oc (op_store_p tyAgg52 rfl rfl rfl rfl (Nat.le_of_ble_eq_true rfl) rfl) ?_)))
     refine OpsL.nilS ⟨[(0, _), (1, _), (2, _), (3, _), (10, Pt 101 0), (31, _), (32, _), (33, _)], [(101, .box 52 ((eA3 .i64) x_4))]⟩ rfl (Tri.seq (Tri.regionL ?_))
     refine Oc (lp tyAgg52) (Oc om ?_)
     refine OpsL.nilS ⟨[(0, _), (1, _), (2, _), (3, _), (31, _), (32, _), (33, _), (37, .b (.agg ((eA3 .i64) x_4))), (38, I 0)], []⟩ rfl (Tri.block ?_)
     obtain ⟨v14, h15, h12⟩ := bnd h12
     refine Tri.loopJ h15 (fun (x_5 : Int) => ⟨[(0, .b (.one (.sl 6 (l0.map eReport)))), (1, I now0), (2, .b (.one (.sl 3 (at0.map (eA3 .i64))))), (3, .b (.one (.int .u8 which0))), (31, .b (.one (.sl 3 (at0.map (eA3 .i64))))), (32, I (at0.length : Int)), (33, I x_3), (37, .b (.agg ((eA3 .i64) x_4))), (38, I x_5)], []⟩) [0, 1, 2, 3, 31, 32, 33, 37, 38] [] rfl ?_
     rintro x_5 o16 h17 hy18
     refine Tri.seq (Tri.regionL ?_)
     refine Oc (op_lss rfl rfl) (OpsL.nilS ⟨[(0, _), (1, _), (2, _), (3, _), (31, _), (32, _), (33, _), (37, _), (38, _), (39, B (decide (x_5 < 3)))], []⟩ rfl (Tri.seq (Tri.ite h17 rfl (fun _ h17 => ?_) (fun _ h17 => ?_))))
     ·refine Tri.skip (Fin.keepS ⟨[(0, _), (1, _), (2, _), (3, _), (31, _), (32, _), (33, _), (37, _), (38, _)], []⟩ rfl (Fin.then (Tri.seq (Tri.block (Tri.seq (Tri.regionL ?_))))))
      obtain ⟨x_6, e19, h17⟩ := bnd h17
      refine Oc (op_index_a1 (m := 3) tyArr52 tyOne3 rfl rfl (ix_lo e19) (ix_hi e19) (ix_map (e := CP.int .i64) e19)) (Oc oa ?_)
      refine OpsL.nilS ⟨[(0, _), (1, _), (2, _), (3, _), (12, I x_6), (31, _), (32, _), (33, _), (37, _), (38, _)], []⟩ rfl (Tri.seq (Tri.regionL ?_))
      refine Oc om (Oc (op_gtr rfl rfl) (Oc om ?_))
      refine CgF (!(decide (35184372088832 < x_6))) [] (fun g20 => trivial) (fun g20 => om) (CgF (!(decide (35184372088832 < x_6))) [44] (fun g21 => by exact ⟨g21, trivial⟩) (fun g21 => op_lss rfl rfl) (OpsL.consB h17 rfl (op_pick_or (fun e => by rw [e]; rfl) rfl rfl rfl rfl) (fun x_7 h17 => ?_)))
      refine OpsL.nilS ⟨[(0, _), (1, _), (2, _), (3, _), (31, _), (32, _), (33, _), (37, _), (38, _), (46, B x_7)], []⟩ rfl (Tri.ite h17 rfl (fun _ h17 => ?_) (fun _ h17 => ?_))
      ·refine Tri.seq (Tri.regionL ?_)
       obtain ⟨x_8, e22, h17⟩ := bnd h17
       refine Oc (op_call0 (skewbacklaw39_sanity_spec e22) goes9 rfl rfl) (Oc oa ?_)
       refine OpsL.nilS ⟨[(8, B x_8)], []⟩ rfl (Tri.ret (Fin.block_ret (Fin.then_ret ?_)))
       obtain rfl := hy18 _ (Option.some.inj h17).symm
       refine Fin.then_ret (Fin.block_ret (Fin.block_ret ?_))
       obtain rfl := Option.some.inj h12
       refine Fin.then_ret ?_
       obtain rfl := hy10 _ (Option.some.inj h9).symm
       refine Fin.then_ret (Fin.block_ret (Fin.then_ret ?_))
       obtain rfl := Option.some.inj h
       refine Fin.keepS ⟨[(8, _)], []⟩ rfl (Fin.result' [.one (.bool x_8)] (.inl rfl) rfl (.cons (.tmp rfl) .nil) ⟨rfl, rfl⟩)
      ·refine Tri.skip (Fin.block_normal (Fin.keepS ⟨[(0, _), (1, _), (2, _), (3, _), (31, _), (32, _), (33, _), (37, _), (38, _)], []⟩ rfl (Fin.then (Tri.regionL ?_))))
       refine Oc (op_add rfl rfl) (Oc om ?_)
       refine OpsL.nil ?_
       exact Fin.againJ [0, 1, 2, 3, 31, 32, 33, 37, 38] [] (IntKind.i64.wrap (x_5 + 1)) (Option.some.inj h17) rfl
     ·refine Tri.exit (Fin.then_exit ?_)
      obtain rfl := hy18 _ (Option.some.inj h17).symm
      refine Fin.then_exit (Fin.block_exit (Fin.block_normal ?_))
      exact Fin.join [0, 1, 2, 3, 31, 32, 33] [] () (Option.some.inj h12) rfl
    ·rintro _ hv
     subst v11
     refine Tri.regionL (Oc (op_add rfl rfl) (Oc om ?_))
     refine OpsL.nil ?_
     exact Fin.againJ [0, 1, 2, 3, 31, 32, 33] [] (IntKind.i64.wrap (x_3 + 1)) (Option.some.inj h9) rfl
   ·refine Tri.exit (Fin.then_exit ?_)
    obtain rfl := hy10 _ (Option.some.inj h9).symm
    refine Fin.then_exit (Fin.block_exit ?_)
    exact Fin.join [0, 1, 2, 3] [] () rfl rfl
  ·rintro _ hv
   subst v6
   refine Tri.seq (Tri.regionL ?_)
   refine Oc om (Oc om ?_)
   obtain ⟨⟨x_9, x_10⟩, e23, h⟩ := bnd h
   refine Oc (op_call (sensor_Boxes_spec 102 e23) goes10 rfl trivial rfl rfl) (Oc om (Oc (op_extract rfl rfl) ?_))
   refine OpsL.keepS ⟨[(0, _), (1, _), (2, _), (3, _), (50, .tup [.row 102, .one (.i x_10)]), (54, .b (.row 102))], [(102, .row 36 12 (x_9.map eArr3Bound))]⟩ rfl (Oc (op_extract rfl rfl) (Oc oa (Oc oa ?_)))
   refine OpsL.nilS ⟨[(0, _), (1, _), (2, _), (3, _), (13, .b (.row 102)), (14, I x_10)], [(102, _)]⟩ rfl (Tri.seq (Tri.seq (Tri.regionL ?_)))
   refine Oc om (Oc (op_neq rfl rfl) ?_)
   refine OpsL.nilS ⟨[(0, _), (1, _), (2, _), (3, _), (13, _), (14, _), (57, B (decide (x_10 ≠ 0)))], [(102, _)]⟩ rfl (Tri.ite h rfl (fun _ h => ?_) (fun _ h => ?_))
   ·refine Tri.seq (Tri.regionL ?_)
    obtain ⟨x_11, e24, h⟩ := bnd h
    refine Oc (op_call0 (skewbacklaw39_sanity_spec e24) goes9 rfl rfl) (Oc om ?_)
    refine CgT x_11 [] (fun g25 => trivial) (fun g25 => om) (CgT x_11 [60] (fun g26 => by exact ⟨g26, trivial⟩) (fun g26 => op_eql rfl rfl) (Oc (op_pick_and (fun e => e) rfl rfl rfl rfl) (OpsL.keepS ⟨[(0, _), (1, _), (2, _), (62, B (x_11 && (decide (x_10 = 200))))], []⟩ rfl (Oc om (CgT (x_11 && (decide (x_10 = 200))) [] (fun g27 => by exact trivial) (fun g27 => om) ?_)))))
    refine CgT (x_11 && (decide (x_10 = 200))) [] (fun g28 => trivial) (fun g28 => om) ?_
    obtain ⟨x_12, e30, h⟩ := bnd h
    refine CgT (x_11 && (decide (x_10 = 200))) [64, 65] (fun g29 => ⟨g29, g29, trivial⟩) (fun g29 => op_call0 (sensor_Consistent_spec (gc e30 g29)) goes17 rfl rfl) (CgT (x_11 && (decide (x_10 = 200))) [66] (fun g31 => ⟨g31, trivial⟩) (fun g31 => op_not rfl) (Oc (op_pick_and (fun e => e) rfl rfl rfl rfl) (OpsL.keepS ⟨[(0, _), (1, _), (2, _), (68, B ((x_11 && (decide (x_10 = 200))) && (!x_12)))], []⟩ rfl (Oc om (CgT ((x_11 && (decide (x_10 = 200))) && (!x_12)) [] (fun g32 => by exact trivial) (fun g32 => om) ?_)))))
    refine CgT ((x_11 && (decide (x_10 = 200))) && (!x_12)) [] (fun g33 => trivial) (fun g33 => om) (CgT ((x_11 && (decide (x_10 = 200))) && (!x_12)) [] (fun g34 => by exact trivial) (fun g34 => om) ?_)
    obtain ⟨x_13, e36, h⟩ := bnd h
    refine CgT ((x_11 && (decide (x_10 = 200))) && (!x_12)) [70, 71, 72] (fun g35 => ⟨g35, g35, g35, trivial⟩) (fun g35 => op_call0 (sensor_Fits_spec (gc e36 g35)) goes18 rfl rfl) (CgT ((x_11 && (decide (x_10 = 200))) && (!x_12)) [73] (fun g37 => ⟨g37, trivial⟩) (fun g37 => op_not rfl) (Oc (op_pick_and (fun e => e) rfl rfl rfl rfl) (Oc oa ?_)))
    refine OpsL.nilS ⟨[(8, B (((x_11 && (decide (x_10 = 200))) && (!x_12)) && (!x_13)))], []⟩ rfl (Tri.ret (Fin.then_ret ?_))
    obtain rfl := Option.some.inj h
    refine Fin.keepS ⟨[(8, _)], []⟩ rfl (Fin.result' [.one (.bool (((x_11 && (decide (x_10 = 200))) && (!x_12)) && (!x_13)))] (.inl rfl) rfl (.cons (.tmp rfl) .nil) ⟨rfl, rfl⟩)
   ·refine Tri.skip (Fin.keepS ⟨[(0, _), (1, _), (2, _), (3, _), (13, _)], [(102, _)]⟩ rfl (Fin.then ?_))
    obtain ⟨v38, h39, h⟩ := bnd h
    refine Tri.seqJ (v := v38) (fun (_ : Unit) => ⟨[(0, .b (.one (.sl 6 (l0.map eReport)))), (1, I now0), (3, .b (.one (.int .u8 which0))), (13, .b (.row 102))], [(102, .row 36 12 (x_9.map eArr3Bound))]⟩) (fun z => .inl z) ?_ ?_
    ·refine Tri.seq (Tri.regionL ?_)
     refine Oc om (Oc om (Oc om ?_))
     obtain ⟨x_14, e40, h39⟩ := bnd h39
     refine Oc (op_call0 (sensor_Fits_spec e40) goes18 rfl rfl) (OpsL.nilS ⟨[(0, _), (1, _), (2, _), (3, _), (13, _), (79, B x_14)], [(102, _)]⟩ rfl (Tri.ite h39 rfl (fun _ h39 => ?_) (fun _ h39 => ?_)))
     ·refine Tri.seq (Tri.regionL ?_)
      refine Oc om (Oc (op_len_r' und27 rfl rfl (List.length_map _)) (Oc om ?_))
      refine OpsL.nilS ⟨[(0, _), (1, _), (2, _), (3, _), (13, _), (80, .b (.row 102)), (81, I (x_9.length : Int)), (82, I 0)], [(102, _)]⟩ rfl (Tri.block (Tri.loopJ h39 (fun (x_15 : Int) => ⟨[(0, .b (.one (.sl 6 (l0.map eReport)))), (1, I now0), (2, .b (.one (.sl 3 (at0.map (eA3 .i64))))), (3, .b (.one (.int .u8 which0))), (13, .b (.row 102)), (80, .b (.row 102)), (81, I (x_9.length : Int)), (82, I x_15)], [(102, .row 36 12 (x_9.map eArr3Bound))]⟩) [0, 1, 2, 3, 13, 80, 81, 82] [102] rfl ?_))
      rintro x_15 o41 h42 hy43
      refine Tri.seq (Tri.regionL ?_)
      refine Oc (op_lss rfl rfl) (OpsL.nilS ⟨[(0, _), (1, _), (2, _), (3, _), (13, _), (80, _), (81, _), (82, _), (83, B (decide (x_15 < (x_9.length : Int))))], [(102, _)]⟩ rfl (Tri.seq (Tri.ite h42 rfl (fun _ h42 => ?_) (fun _ h42 => ?_))))
      ·refine Tri.skip (Fin.keepS ⟨[(0, _), (1, _), (2, _), (3, _), (13, _), (80, _), (81, _), (82, _)], [(102, _)]⟩ rfl (Fin.then ?_))
       obtain ⟨v44, h45, h42⟩ := bnd h42
       refine Tri.seqJ (v := v44) (fun (_ : Unit) => ⟨[(0, .b (.one (.sl 6 (l0.map eReport)))), (1, I now0), (2, .b (.one (.sl 3 (at0.map (eA3 .i64))))), (3, .b (.one (.int .u8 which0))), (13, .b (.row 102)), (80, .b (.row 102)), (81, I (x_9.length : Int)), (82, I x_15)], [(102, .row 36 12 (x_9.map eArr3Bound))]⟩) (fun z => .inl z) ?_ ?_
       ·refine Tri.block (Tri.seq (Tri.regionL ?_))
        refine Oc om ?_
        obtain ⟨x_16, e46, h45⟩ := bnd h45
        refine Oc (op_index_r tySl27 (ix_lo e46) (ix_lt' e46) rfl rfl rfl rfl) (Oc (op_load_r (i := (x_15 : Int).toNat) (f := 0) tyAgg36 rfl rfl rfl (ix_map (e := eArr3Bound) e46) rfl rfl) (Oc (op_alloc (k := 103) tyZero36 rfl) (Oc oa (Oc (op_store_p tyAgg36 rfl rfl rfl rfl (Nat.le_of_ble_eq_true rfl) rfl) ?_))))
        refine OpsL.persistB 103 rfl (OpsL.nilS ⟨[(0, _), (1, _), (2, _), (3, _), (13, _), (15, I x_15), (16, .b (.eptr (eArr3Bound x_16))), (80, _), (81, _), (82, _)], [(102, _)]⟩ rfl (Tri.seq (Tri.regionL ?_)))
        refine Oc om (OpsL.nilS ⟨[(0, _), (1, _), (2, _), (3, _), (13, _), (15, _), (16, _), (80, _), (81, _), (82, _), (87, I 0)], [(102, _)]⟩ rfl (Tri.block ?_))
        obtain ⟨v47, h48, h45⟩ := bnd h45
        refine Tri.loopJ h48 (fun (x_17 : Int) => ⟨[(0, .b (.one (.sl 6 (l0.map eReport)))), (1, I now0), (2, .b (.one (.sl 3 (at0.map (eA3 .i64))))), (3, .b (.one (.int .u8 which0))), (13, .b (.row 102)), (15, I x_15), (16, .b (.eptr (eArr3Bound x_16))), (80, .b (.row 102)), (81, I (x_9.length : Int)), (82, I x_15), (87, I x_17)], [(102, .row 36 12 (x_9.map eArr3Bound))]⟩) [0, 1, 2, 3, 13, 15, 16, 80, 81, 82, 87] [102] rfl ?_
        rintro x_17 o49 h50 hy51
        refine Tri.seq (Tri.regionL ?_)
        refine Oc (op_lss rfl rfl) (OpsL.nilS ⟨[(0, _), (1, _), (2, _), (3, _), (13, _), (15, _), (16, _), (80, _), (81, _), (82, _), (87, _), (88, B (decide (x_17 < 3)))], [(102, _)]⟩ rfl (Tri.seq (Tri.ite h50 rfl (fun _ h50 => ?_) (fun _ h50 => ?_))))
        ·refine Tri.skip (Fin.keepS ⟨[(0, _), (1, _), (2, _), (3, _), (13, _), (15, _), (16, _), (80, _), (81, _), (82, _), (87, _)], [(102, _)]⟩ rfl (Fin.then ?_))
         obtain ⟨v52, h53, h50⟩ := bnd h50
         refine Tri.seqJ (v := v52) (fun (_ : Unit) => ⟨[(0, .b (.one (.sl 6 (l0.map eReport)))), (1, I now0), (2, .b (.one (.sl 3 (at0.map (eA3 .i64))))), (3, .b (.one (.int .u8 which0))), (13, .b (.row 102)), (15, I x_15), (16, .b (.eptr (eArr3Bound x_16))), (80, .b (.row 102)), (81, I (x_9.length : Int)), (82, I x_15), (87, I x_17)], [(102, .row 36 12 (x_9.map eArr3Bound))]⟩) (fun z => .inl z) ?_ ?_
         ·refine Tri.block (Tri.seq (Tri.regionL ?_))
          refine Oc om (Oc oa ?_)
          refine OpsL.nilS ⟨[(0, _), (1, _), (2, _), (3, _), (13, _), (15, _), (16, _), (17, I x_17), (80, _), (81, _), (82, _), (87, _)], [(102, _)]⟩ rfl (Tri.seq (Tri.regionL ?_))
          refine Oc oa (OpsL.nilS ⟨[(0, _), (1, _), (2, _), (3, _), (13, _), (15, _), (16, _), (17, _), (18, I 0), (80, _), (81, _), (82, _), (87, _)], [(102, _)]⟩ rfl ?_)
          obtain ⟨v54, h55, h53⟩ := bnd h53
          refine Tri.seqJ (v := v54) (fun (x_18 : Int) => ⟨[(0, .b (.one (.sl 6 (l0.map eReport)))), (1, I now0), (2, .b (.one (.sl 3 (at0.map (eA3 .i64))))), (3, .b (.one (.int .u8 which0))), (13, .b (.row 102)), (15, I x_15), (16, .b (.eptr (eArr3Bound x_16))), (17, I x_17), (18, I x_18), (80, .b (.row 102)), (81, I (x_9.length : Int)), (82, I x_15), (87, I x_17)], [(102, .row 36 12 (x_9.map eArr3Bound))]⟩) (fun z => z) ?_ ?_
          ·refine Tri.seq (Tri.regionL ?_)
           refine Oc om (Oc om (Oc (op_len_e' und50 rfl (List.length_map _)) (Oc (op_lss rfl rfl) ?_)))
           refine OpsL.nilS ⟨[(0, _), (1, _), (2, _), (3, _), (13, _), (15, _), (16, _), (17, _), (18, _), (80, _), (81, _), (82, _), (87, _), (93, B (decide (x_15 < (at0.length : Int))))], [(102, _)]⟩ rfl (Tri.ite h55 rfl (fun _ h55 => ?_) (fun _ h55 => ?_))
           ·refine Tri.regionL (Oc om (Oc om (Oc om ?_)))
            obtain ⟨x_19, e56, h55⟩ := bnd h55
            refine Oc (op_index_e tySl50 (ix_lo e56) (ix_map (e := (eA3 .i64)) e56) rfl rfl) ?_
            obtain ⟨x_20, e57, h55⟩ := bnd h55
            refine Oc (op_index_ea tyArr52 (ix_lo e57) (ix_hi e57) rfl rfl (ix_flat (e := (fun z => [CP.int .i64 z])) (sz := 1) (fun _ => rfl) e57)) (Oc (op_load_e1 tyOne3 rfl rfl) (Oc oa ?_))
            refine OpsL.nil ?_
            exact Fin.join [0, 1, 2, 3, 13, 15, 16, 17, 18, 80, 81, 82, 87] [102] x_20 (Option.some.inj h55) rfl
           ·refine Tri.skip ?_
            exact Fin.join [0, 1, 2, 3, 13, 15, 16, 17, 18, 80, 81, 82, 87] [102] 0 (Option.some.inj h55) rfl
          ·rintro x_18 hv
           subst v54
           refine Tri.seq (Tri.regionL ?_)
           refine Oc om ?_
           obtain ⟨x_21, e58, h53⟩ := bnd h53
           refine Oc (op_index_ea tyArr36 (ix_lo e58) (ix_hi e58) rfl rfl (ix_flat (e := eBound) (sz := 4) (fun _ => rfl) e58)) (Oc (op_field_e tyFld35_2 rfl rfl) (Oc (op_load_e1 tyOne4 rfl rfl) (Oc om ?_)))
           refine CgT x_21.Below [] (fun g59 => trivial) (fun g59 => om) (CgT x_21.Below [] (fun g60 => by exact trivial) (fun g60 => om) (OpsL.keepS ⟨[(0, _), (1, _), (2, _), (3, _), (13, _), (15, _), (16, _), (17, _), (18, _), (80, _), (81, _), (82, _), (87, _), (104, B x_21.Below), (105, .opt x_21.Below (.one (.i x_18))), (106, .opt x_21.Below (.one (.i x_17)))], [(102, _)]⟩ rfl ?_))
           obtain ⟨x_22, e62, h53⟩ := bnd h53
           refine CgT x_21.Below [106] (fun g61 => ⟨g61, trivial⟩) (fun g61 => op_index_ea tyArr36 (ix_lo (gc e62 g61)) (ix_hi (gc e62 g61)) rfl rfl (ix_flat (e := eBound) (sz := 4) (fun _ => rfl) (gc e62 g61))) (CgT x_21.Below [107] (fun g63 => ⟨g63, trivial⟩) (fun g63 => op_field_e tyFld35_0 rfl rfl) (CgT x_21.Below [108] (fun g64 => ⟨g64, trivial⟩) (fun g64 => op_load_e1 tyOne3 rfl rfl) (CgT x_21.Below [105, 109] (fun g65 => ⟨g65, g65, trivial⟩) (fun g65 => op_lss rfl rfl) (Oc (op_pick_and (fun e => e) rfl rfl rfl rfl) (Oc om ?_)))))
           refine CgF (!(x_21.Below && (decide (x_18 < x_22.Lo)))) [] (fun g66 => trivial) (fun g66 => om) ?_
           obtain ⟨x_23, e68, h53⟩ := bnd h53
           refine CgF (!(x_21.Below && (decide (x_18 < x_22.Lo)))) [113] (fun g67 => ⟨g67, trivial⟩) (fun g67 => op_index_ea tyArr36 (ix_lo (gc e68 g67)) (ix_hi (gc e68 g67)) rfl rfl (ix_flat (e := eBound) (sz := 4) (fun _ => rfl) (gc e68 g67))) (OpsL.keepS ⟨[(0, _), (1, _), (2, _), (3, _), (13, _), (15, _), (16, _), (17, _), (18, _), (80, _), (81, _), (82, _), (87, _), (112, B (x_21.Below && (decide (x_18 < x_22.Lo)))), (114, .opt (!(x_21.Below && (decide (x_18 < x_22.Lo)))) (.eptr (eBound x_23)))], [(102, _)]⟩ rfl (CgF (!(x_21.Below && (decide (x_18 < x_22.Lo)))) [114] (fun g69 => ⟨g69, trivial⟩) (fun g69 => op_field_e tyFld35_3 rfl rfl) (CgF (!(x_21.Below && (decide (x_18 < x_22.Lo)))) [115] (fun g70 => ⟨g70, trivial⟩) (fun g70 => op_load_e1 tyOne4 rfl rfl) (CgF (!(x_21.Below && (decide (x_18 < x_22.Lo)))) [116] (fun g71 => ⟨g71, trivial⟩) (fun g71 => om) (OpsL.consG ((!(x_21.Below && (decide (x_18 < x_22.Lo)))) && x_23.Above) 99 [] (.under rfl) (and_t _ _) rfl rfl (fun g72 => by exact trivial) (fun g72 => om) ?_)))))
           refine OpsL.consG ((!(x_21.Below && (decide (x_18 < x_22.Lo)))) && x_23.Above) 99 [] (.under rfl) (and_t _ _) rfl rfl (fun g73 => trivial) (fun g73 => om) ?_
           obtain ⟨x_24, e75, h53⟩ := bnd h53
           refine OpsL.consG ((!(x_21.Below && (decide (x_18 < x_22.Lo)))) && x_23.Above) 99 [119] (.under rfl) (and_t _ _) rfl rfl (fun g74 => ⟨g74, trivial⟩) (fun g74 => op_index_ea tyArr36 (ix_lo (gc e75 g74)) (ix_hi (gc e75 g74)) rfl rfl (ix_flat (e := eBound) (sz := 4) (fun _ => rfl) (gc e75 g74))) (OpsL.consG ((!(x_21.Below && (decide (x_18 < x_22.Lo)))) && x_23.Above) 99 [120] (.under rfl) (and_t _ _) rfl rfl (fun g76 => ⟨g76, trivial⟩) (fun g76 => op_field_e tyFld35_1 rfl rfl) (OpsL.consG ((!(x_21.Below && (decide (x_18 < x_22.Lo)))) && x_23.Above) 99 [121] (.under rfl) (and_t _ _) rfl rfl (fun g77 => ⟨g77, trivial⟩) (fun g77 => op_load_e1 tyOne3 rfl rfl) (OpsL.keepS ⟨[(0, _), (1, _), (2, _), (3, _), (13, _), (15, _), (16, _), (80, _), (81, _), (82, _), (87, _), (112, _), (117, .opt (!(x_21.Below && (decide (x_18 < x_22.Lo)))) (.one (.bool x_23.Above))), (118, .opt ((!(x_21.Below && (decide (x_18 < x_22.Lo)))) && x_23.Above) (.one (.i x_18))), (122, .opt ((!(x_21.Below && (decide (x_18 < x_22.Lo)))) && x_23.Above) (.one (.i x_24.Hi)))], [(102, _)]⟩ rfl (OpsL.consG ((!(x_21.Below && (decide (x_18 < x_22.Lo)))) && x_23.Above) 99 [118, 122] (.under rfl) (and_t _ _) rfl rfl (fun g78 => ⟨g78, g78, trivial⟩) (fun g78 => op_gtr rfl rfl) (CgF (!(x_21.Below && (decide (x_18 < x_22.Lo)))) [117] (fun g79 => ⟨g79, trivial⟩) (fun g79 => op_pick_and (fun e => by rw [g79, e]; rfl) rfl rfl rfl rfl) ?_)))))
           refine OpsL.consB h53 rfl (op_pick_or (fun e => by rw [e]; rfl) rfl rfl rfl rfl) (fun x_25 h53 => ?_)
           refine OpsL.nilS ⟨[(0, _), (1, _), (2, _), (3, _), (13, _), (15, _), (16, _), (80, _), (81, _), (82, _), (87, _), (125, B x_25)], [(102, _)]⟩ rfl (Tri.ite h53 rfl (fun _ h53 => ?_) (fun _ h53 => ?_))
           ·refine Tri.seq (Tri.regionL ?_)
            refine Oc oa (OpsL.nilS ⟨[(8, B false)], []⟩ rfl (Tri.ret (Fin.block_ret ?_)))
            obtain rfl := Option.some.inj h53
            refine Fin.then_ret ?_
            obtain rfl := hy51 _ (Option.some.inj h50).symm
            refine Fin.then_ret (Fin.block_ret (Fin.block_ret ?_))
            obtain rfl := Option.some.inj h45
            refine Fin.then_ret ?_
            obtain rfl := hy43 _ (Option.some.inj h42).symm
            refine Fin.then_ret (Fin.block_ret (Fin.then_ret ?_))
            obtain rfl := Option.some.inj h
            refine Fin.keepS ⟨[(8, _)], []⟩ rfl (Fin.result' [.one (.bool false)] (.inl rfl) rfl (.cons (.tmp rfl) .nil) ⟨rfl, rfl⟩)
           ·refine Tri.skip (Fin.block_normal ?_)
            exact Fin.join [0, 1, 2, 3, 13, 15, 16, 80, 81, 82, 87] [102] () (Option.some.inj h53) rfl
         ·rintro _ hv
          subst v52
          refine Tri.regionL (Oc (op_add rfl rfl) (Oc om ?_))
          refine OpsL.nil ?_
          exact Fin.againJ [0, 1, 2, 3, 13, 15, 16, 80, 81, 82, 87] [102] (IntKind.i64.wrap (x_17 + 1)) (Option.some.inj h50) rfl
        ·refine Tri.exit (Fin.then_exit ?_)
         obtain rfl := hy51 _ (Option.some.inj h50).symm
         refine Fin.then_exit (Fin.block_exit (Fin.block_normal ?_))
         exact Fin.join [0, 1, 2, 3, 13, 80, 81, 82] [102] () (Option.some.inj h45) rfl
       ·rintro _ hv
        subst v44
        refine Tri.regionL (Oc (op_add rfl rfl) (Oc om ?_))
        refine OpsL.nil ?_
        exact Fin.againJ [0, 1, 2, 3, 13, 80, 81, 82] [102] (IntKind.i64.wrap (x_15 + 1)) (Option.some.inj h42) rfl
      ·refine Tri.exit (Fin.then_exit ?_)
       obtain rfl := hy43 _ (Option.some.inj h42).symm
       refine Fin.then_exit (Fin.block_exit ?_)
       exact Fin.join [0, 1, 3, 13] [102] () rfl rfl
     ·refine Tri.skip ?_
      exact Fin.join [0, 1, 3, 13] [102] () (Option.some.inj h39) rfl
    ·rintro _ hv
     subst v38
     refine Tri.seq (Tri.seq (Tri.regionL ?_))
     refine Oc om (Oc (op_len_r' und27 rfl rfl (List.length_map _)) (Oc (op_eql rfl rfl) (Oc om ?_)))
     refine CgF (!(decide ((x_9.length : Int) = 0))) [] (fun g80 => trivial) (fun g80 => om) (CgF (!(decide ((x_9.length : Int) = 0))) [132] (fun g81 => by exact ⟨g81, trivial⟩) (fun g81 => op_lss rfl rfl) (Oc (op_pick_or (fun e => by rw [e]; rfl) rfl rfl rfl rfl) (OpsL.nilS ⟨[(0, _), (1, _), (3, _), (13, _), (134, B ((decide ((x_9.length : Int) = 0)) || (decide (now0 < 0))))], [(102, _)]⟩ rfl (Tri.ite h rfl (fun _ h => ?_) (fun _ h => ?_)))))
     ·refine Tri.seq (Tri.regionL ?_)
      obtain ⟨x_26, e82, h⟩ := bnd h
      refine Oc (op_call0 (skewbacklaw39_sanity_spec e82) goes9 rfl rfl) (Oc oa ?_)
      refine OpsL.nilS ⟨[(8, B x_26)], []⟩ rfl (Tri.ret (Fin.then_ret ?_))
      obtain rfl := Option.some.inj h
      refine Fin.keepS ⟨[(8, _)], []⟩ rfl (Fin.result' [.one (.bool x_26)] (.inl rfl) rfl (.cons (.tmp rfl) .nil) ⟨rfl, rfl⟩)
     ·refine Tri.skip (Fin.keepS ⟨[(0, _), (1, _), (3, _), (13, _)], [(102, _)]⟩ rfl (Fin.then (Tri.seq ?_)))
      refine Tri.keepS ⟨[(0, _), (1, _), (3, _), (13, _)], [(102, _)]⟩ rfl ?_
      obtain ⟨x_27, e83, h⟩ := bnd h
      obtain ⟨x_28, e84, h⟩ := bnd h
      refine Tri.regionY mixed 14 [.b (.one (.int .u8 which0)), I (IntKind.i64.wrap which0), .b (.row 102), I (x_9.length : Int), I x_27, I (IntKind.i64.wrap (1 + x_27)), .b (.one (.int .u8 which0)), I (IntKind.i64.wrap which0), .b (.row 102), I (x_9.length : Int), I x_28, I (Int.tmod x_28 3), I (IntKind.i64.wrap (1 + x_27)), I (Int.tmod x_28 3)] [0, 1, 13, 19, 20] [102] (s' := ⟨[(0, _), (1, _), (13, _), (19, I (IntKind.i64.wrap (1 + x_27))), (20, I (Int.tmod x_28 3))], [(102, _)]⟩) rfl ⟨fun _ => .p om, fun _ => .p (op_conv_wrap undi5 undi3 rfl), fun _ => .p om, fun _ => .p (op_len_r' und27 rfl rfl (List.length_map _)), fun _ => .p (op_rem2 e83 rfl rfl), fun _ => .p (op_add rfl rfl), fun _ => .p om, fun _ => .p (op_conv_wrap undi5 undi3 rfl), fun _ => .p om, fun _ => .p (op_len_r' und27 rfl rfl (List.length_map _)), fun _ => .p (op_quo2 e84 rfl rfl), fun _ => .p (op_rem (by decide) rfl rfl), fun _ => .p oa, fun _ => .p oa, trivial⟩ rfl rfl (Tri.seq (Tri.regionL ?_))
      refine Oc om (Oc om ?_)
      refine OpsL.consI .i64 h rfl (op_sub rfl rfl) (fun x_29 h => ?_)
      refine Oc om ?_
      obtain ⟨x_30, e85, h⟩ := bnd h
      refine Oc (op_index_r tySl27 (ix_lo e85) (ix_lt' e85) rfl rfl rfl rfl) ?_
      obtain ⟨x_31, e86, h⟩ := bnd h
      refine Oc (op_index_ra tyArr36 (ix_lo e86) (ix_hi e86) rfl rfl rfl) (Oc (op_load_r (i := (x_29 : Int).toNat) (f := (Int.tmod x_28 3 : Int).toNat * 4) tyAgg35 rfl rfl rfl (ix_map (e := eArr3Bound) e85) (ix_part (e := eBound) (sz := 4) (f := 0) (fun _ => rfl) e86 (by decide) rfl) rfl) (Oc (op_alloc (k := 104) tyZero35 rfl) (Oc (op_store_p tyAgg35 rfl rfl rfl rfl (Nat.le_of_ble_eq_true rfl) rfl) ?_)))
      refine OpsL.nilS ⟨[(0, _), (1, _), (19, _), (20, _), (21, Pt 104 0)], [(104, .box 35 (eBound x_31))]⟩ rfl (Tri.seq (Tri.regionL ?_))
      obtain ⟨x_32, e87, h⟩ := bnd h
      refine Oc (op_call0 (skewbacklaw39_sanity_spec e87) goes9 rfl rfl) (Oc om ?_)
      refine CgT x_32 [] (fun g88 => trivial) (fun g88 => op_field_p tyFld35_3 rfl rfl) (CgT x_32 [157] (fun g89 => ⟨g89, trivial⟩) (fun g89 => op_load_p1 tyOne4 rfl rfl rfl) (CgT x_32 [158] (fun g90 => ⟨g90, trivial⟩) (fun g90 => op_not rfl) (OpsL.keepS ⟨[(0, _), (1, _), (19, _), (20, _), (21, _), (156, B x_32), (159, .opt x_32 (.one (.bool (!x_31.Above))))], [(104, _)]⟩ rfl (CgT x_32 [159] (fun g91 => ⟨g91, trivial⟩) (fun g91 => om) (OpsL.consG (x_32 && !(!x_31.Above)) 99 [] (.under rfl) (and_f _ _) rfl rfl (fun g92 => by exact trivial) (fun g92 => om) ?_)))))
      refine OpsL.consG (x_32 && !(!x_31.Above)) 99 [] (.under rfl) (and_f _ _) rfl rfl (fun g93 => trivial) (fun g93 => om) (OpsL.consG (x_32 && !(!x_31.Above)) 99 [] (.under rfl) (and_f _ _) rfl rfl (fun g94 => trivial) (fun g94 => om) (OpsL.consG (x_32 && !(!x_31.Above)) 99 [] (.under rfl) (and_f _ _) rfl rfl (fun g95 => trivial) (fun g95 => om) (OpsL.consG (x_32 && !(!x_31.Above)) 99 [] (.under rfl) (and_f _ _) rfl rfl (fun g96 => trivial) (fun g96 => op_field_p tyFld35_1 rfl rfl) (OpsL.consG (x_32 && !(!x_31.Above)) 99 [165] (.under rfl) (and_f _ _) rfl rfl (fun g97 => ⟨g97, trivial⟩) (fun g97 => op_load_p1 tyOne3 rfl rfl rfl) (OpsL.keepS ⟨[(0, _), (1, _), (19, _), (20, _), (21, _), (156, _), (160, .opt x_32 (.one (.bool (!x_31.Above)))), (161, .opt (x_32 && !(!x_31.Above)) (.one (.sl 6 (l0.map eReport)))), (162, .opt (x_32 && !(!x_31.Above)) (.one (.i now0))), (163, .opt (x_32 && !(!x_31.Above)) (.one (.i (IntKind.i64.wrap (1 + x_27))))), (164, .opt (x_32 && !(!x_31.Above)) (.one (.i (Int.tmod x_28 3)))), (166, .opt (x_32 && !(!x_31.Above)) (.one (.i x_31.Hi)))], [(104, _)]⟩ rfl ?_)))))
      obtain ⟨x_33, e99, h⟩ := bnd h
      refine OpsL.consG (x_32 && !(!x_31.Above)) 99 [161, 162, 163, 164, 166] (.under rfl) (and_f _ _) rfl rfl (fun g98 => ⟨g98, g98, g98, g98, g98, trivial⟩) (fun g98 => op_call0 (skewbacklaw39_ends_spec (gc e99 g98)) goes19 rfl rfl) (CgT x_32 [160] (fun g100 => ⟨g100, trivial⟩) (fun g100 => op_pick_or (fun e => by rw [g100, e]; rfl) rfl rfl rfl rfl) (Oc (op_pick_and (fun e => e) rfl rfl rfl rfl) (Oc om ?_)))
      refine CgT (x_32 && ((!x_31.Above) || x_33)) [] (fun g101 => trivial) (fun g101 => op_field_p tyFld35_2 rfl rfl) (CgT (x_32 && ((!x_31.Above) || x_33)) [171] (fun g102 => ⟨g102, trivial⟩) (fun g102 => op_load_p1 tyOne4 rfl rfl rfl) (CgT (x_32 && ((!x_31.Above) || x_33)) [172] (fun g103 => ⟨g103, trivial⟩) (fun g103 => op_not rfl) (CgT (x_32 && ((!x_31.Above) || x_33)) [173] (fun g104 => ⟨g104, trivial⟩) (fun g104 => om) (OpsL.keepS ⟨[(0, _), (1, _), (19, _), (20, _), (21, _), (170, B (x_32 && ((!x_31.Above) || x_33))), (174, .opt (x_32 && ((!x_31.Above) || x_33)) (.one (.bool (!x_31.Below))))], [(104, _)]⟩ rfl (OpsL.consG ((x_32 && ((!x_31.Above) || x_33)) && !(!x_31.Below)) 99 [] (.under rfl) (and_f _ _) rfl rfl (fun g105 => by exact trivial) (fun g105 => om) ?_)))))
      refine OpsL.consG ((x_32 && ((!x_31.Above) || x_33)) && !(!x_31.Below)) 99 [] (.under rfl) (and_f _ _) rfl rfl (fun g106 => trivial) (fun g106 => om) (OpsL.consG ((x_32 && ((!x_31.Above) || x_33)) && !(!x_31.Below)) 99 [] (.under rfl) (and_f _ _) rfl rfl (fun g107 => trivial) (fun g107 => om) (OpsL.consG ((x_32 && ((!x_31.Above) || x_33)) && !(!x_31.Below)) 99 [] (.under rfl) (and_f _ _) rfl rfl (fun g108 => trivial) (fun g108 => om) (OpsL.consG ((x_32 && ((!x_31.Above) || x_33)) && !(!x_31.Below)) 99 [] (.under rfl) (and_f _ _) rfl rfl (fun g109 => trivial) (fun g109 => op_field_p tyFld35_0 rfl rfl) (OpsL.consG ((x_32 && ((!x_31.Above) || x_33)) && !(!x_31.Below)) 99 [179] (.under rfl) (and_f _ _) rfl rfl (fun g110 => ⟨g110, trivial⟩) (fun g110 => op_load_p1 tyOne3 rfl rfl rfl) (OpsL.keepS ⟨[(170, _), (174, _), (175, .opt ((x_32 && ((!x_31.Above) || x_33)) && !(!x_31.Below)) (.one (.sl 6 (l0.map eReport)))), (176, .opt ((x_32 && ((!x_31.Above) || x_33)) && !(!x_31.Below)) (.one (.i now0))), (177, .opt ((x_32 && ((!x_31.Above) || x_33)) && !(!x_31.Below)) (.one (.i (IntKind.i64.wrap (1 + x_27))))), (178, .opt ((x_32 && ((!x_31.Above) || x_33)) && !(!x_31.Below)) (.one (.i (Int.tmod x_28 3)))), (180, .opt ((x_32 && ((!x_31.Above) || x_33)) && !(!x_31.Below)) (.one (.i x_31.Lo)))], []⟩ rfl ?_)))))
      obtain ⟨x_34, e112, h⟩ := bnd h
      refine OpsL.consG ((x_32 && ((!x_31.Above) || x_33)) && !(!x_31.Below)) 99 [175, 176, 177, 178, 180] (.under rfl) (and_f _ _) rfl rfl (fun g111 => ⟨g111, g111, g111, g111, g111, trivial⟩) (fun g111 => op_call0 (skewbacklaw39_ends_spec (gc e112 g111)) goes19 rfl rfl) (CgT (x_32 && ((!x_31.Above) || x_33)) [174] (fun g113 => ⟨g113, trivial⟩) (fun g113 => op_pick_or (fun e => by rw [g113, e]; rfl) rfl rfl rfl rfl) (Oc (op_pick_and (fun e => e) rfl rfl rfl rfl) (Oc oa ?_)))
      refine OpsL.nilS ⟨[(8, B ((x_32 && ((!x_31.Above) || x_33)) && ((!x_31.Below) || x_34)))], []⟩ rfl (Tri.ret ?_)
      obtain rfl := Option.some.inj h
      refine Fin.keepS ⟨[(8, _)], []⟩ rfl (Fin.result' [.one (.bool ((x_32 && ((!x_31.Above) || x_33)) && ((!x_31.Below) || x_34)))] (.inl rfl) rfl (.cons (.tmp rfl) .nil) ⟨rfl, rfl⟩)
end Go.Proofs.Ytimhhebjefkjlaa

