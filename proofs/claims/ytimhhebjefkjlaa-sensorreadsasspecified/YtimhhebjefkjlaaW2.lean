/- printed walks -/
import Derived.Test.YtimhhebjefkjlaaW1
namespace Go.Proofs.Ytimhhebjefkjlaa
open Go.Sk Go
set_option maxHeartbeats 1000000
set_option maxRecDepth 4000
set_option linter.unusedSimpArgs false
set_option linter.unusedVariables false
def skewbacklaw39_sanity_S (F : Nat) : Option Bool :=
 (skewbacklaw39_is_S F 0 1 2 5).bind fun x_1 => (skewbacklaw39_is_S F 1 2 1 1).bind fun x_2 => (skewbacklaw39_is_S F 0 2 0 4).bind fun x_3 => (take? [x_1, x_2, x_3] 2).bind fun x_4 => Option.bind (sensor_Boxes_S F x_4 0) (un2 fun x_5 x_6 => Option.bind (sensor_Boxes_S F [x_1, x_2, x_3] 0) (un2 fun x_7 x_8 => Option.bind (sensor_Solution_S F [x_1, x_2, x_3] 0) (un2 fun x_9 x_10 => letN (((decide (x_6 ≠ 0)) || (decide (x_8 ≠ 0))) || (decide (x_10 ≠ 0))) fun x_11 => letN ((x_11 || (decide ((x_5.length : Int) ≠ 2))) || (decide ((x_7.length : Int) ≠ 2))) fun x_12 => if (x_12 || (decide ((x_9.length : Int) ≠ 2))) = true then (some false) else ((idx? x_5 0).bind fun x_13 => (skewbacklaw39_sanity_1_S F 2 5).bind fun x_14 => (gcall (decide (x_13 = x_14)) (idx? x_5 1)).bind fun x_15 => (gcall (decide (x_13 = x_14)) (skewbacklaw39_sanity_1_S F 3 6)).bind fun x_16 => (gcall ((decide (x_13 = x_14)) && (decide (x_15 = x_16))) (idx? x_7 0)).bind fun x_17 => (gcall ((decide (x_13 = x_14)) && (decide (x_15 = x_16))) (skewbacklaw39_sanity_1_S F 2 3)).bind fun x_18 => (gcall (((decide (x_13 = x_14)) && (decide (x_15 = x_16))) && (decide (x_17 = x_18))) (idx? x_7 1)).bind fun x_19 => (gcall (((decide (x_13 = x_14)) && (decide (x_15 = x_16))) && (decide (x_17 = x_18))) (skewbacklaw39_sanity_1_S F 3 4)).bind fun x_20 => (gcall ((((decide (x_13 = x_14)) && (decide (x_15 = x_16))) && (decide (x_17 = x_18))) && (decide (x_19 = x_20))) (idx? x_9 0)).bind fun x_21 => (gcall (((((decide (x_13 = x_14)) && (decide (x_15 = x_16))) && (decide (x_17 = x_18))) && (decide (x_19 = x_20))) && (decide (x_21 = (⟨2, 0, 0⟩ : A3)))) (idx? x_9 1)).bind fun x_22 => (take? [x_1, x_2, x_3] 3).bind fun x_23 => (skewbacklaw39_is_S F 0 2 5 9).bind fun x_24 => (app? x_23 [x_24]).bind fun x_25 => Option.bind (sensor_Contradiction_S F x_25 0) (un2 fun x_26 x_27 => (take? [x_1, x_2, x_3] 2).bind fun x_28 => (skewbacklaw39_is_S F 0 2 0 2).bind fun x_29 => (app? x_28 [x_29]).bind fun x_30 => Option.bind (sensor_Contradiction_S F x_30 0) (un2 fun x_31 x_32 => Option.bind (sensor_Contradiction_S F [x_1, x_2, x_3] 0) (un2 fun x_33 x_34 => (take? [x_1, x_2, x_3] 2).bind fun x_35 => (skewbacklaw39_is_S F 0 2 3 7).bind fun x_36 => Option.bind (sensor_Implied_S F x_35 0 x_36) (un2 fun x_37 x_38 => (take? [x_1, x_2, x_3] 2).bind fun x_39 => (skewbacklaw39_is_S F 0 2 4 6).bind fun x_40 => Option.bind (sensor_Implied_S F x_39 0 x_40) (un2 fun x_41 x_42 => (skewbacklaw39_ints_S F x_26 [2, 3]).bind fun x_43 => (gcall (x_43 && (decide (x_27 = 0))) (skewbacklaw39_ints_S F x_31 [0, 1, 2])).bind fun x_44 => letN (((x_43 && (decide (x_27 = 0))) && x_44) && (decide (x_32 = 0))) fun x_45 => letN ((x_45 && (decide ((x_33.length : Int) = 0))) && (decide (x_34 = (-1)))) fun x_46 => letN ((((((decide (x_13 = x_14)) && (decide (x_15 = x_16))) && (decide (x_17 = x_18))) && (decide (x_19 = x_20))) && (decide (x_21 = (⟨2, 0, 0⟩ : A3)))) && (decide (x_22 = (⟨3, 0, 0⟩ : A3)))) fun x_47 => letN (((((x_47 && x_46) && x_37) && (!x_41)) && (decide (x_38 = 0))) && (decide (x_42 = 0))) fun x_48 => (gcall x_48 (sensor_Consistent_S F [x_1, x_2, x_3] 0)).bind fun x_49 => (gcall (x_48 && x_49) (sensor_Fits_S F [x_1, x_2, x_3] 0 x_9)).bind fun x_50 => some ((x_48 && x_49) && x_50))))))))))
theorem skewbacklaw39_sanity_spec {F : Nat} {r : Bool} (h : skewbacklaw39_sanity_S F = some r) : Meets Try.prog [] 9 [] [] (Is [] (.b (.one (.bool r)))) := by
 unfold skewbacklaw39_sanity_S at h
 refine Meets.intro 200 Try.func9 Try.ntmps9 rfl (by simp) fun E => ?_
 show Tri _ E ⟨200, [], [], []⟩ _ ⟨[], []⟩ _
 refine Tri.seq (Tri.regionL ?_)
 refine Oc oa (OpsL.nilS ⟨[], []⟩ rfl (Tri.seq (Tri.regionL ?_)))
 obtain ⟨x_1, e1, h⟩ := bnd h
 refine Oc (op_call0 (skewbacklaw39_is_spec e1) goes31 rfl rfl) ?_
 obtain ⟨x_2, e2, h⟩ := bnd h
 refine Oc (op_call0 (skewbacklaw39_is_spec e2) goes31 rfl rfl) (OpsL.keepS ⟨[(21, .b (.agg (eReport x_1))), (22, .b (.agg (eReport x_2)))], []⟩ rfl ?_)
 obtain ⟨x_3, e3, h⟩ := bnd h
 refine Oc (op_call0 (skewbacklaw39_is_spec e3) goes31 rfl rfl) (Oc (op_buildSlice (k := 101) (es := [x_1, x_2, x_3].map eReport) tySl22 rfl rfl (uni_map fun _ => rfl) rfl (by decide) (by decide) rfl) (Oc oa ?_))
 refine OpsL.nilS ⟨[(1, .b (.row 101))], [(101, .row 24 6 ([x_1, x_2, x_3].map eReport))]⟩ rfl (Tri.seq (Tri.regionL ?_))
 refine Oc om (OpsL.persist 101 rfl ?_)
 obtain ⟨x_4, e4, h⟩ := bnd h
 refine Oc (op_slice_h2 tySl22 e4 rfl rfl) ?_
 obtain ⟨⟨x_5, x_6⟩, e5, h⟩ := bnd h
 refine Oc (op_call (sensor_Boxes_spec 102 e5) goes10 rfl trivial rfl rfl) (OpsL.keepS ⟨[(1, .b (.one (.sl 6 ([x_1, x_2, x_3].map eReport)))), (28, .tup [.row 102, .one (.i x_6)])], [(102, .row 36 12 (x_5.map eArr3Bound))]⟩ rfl (Oc om (Oc (op_extract rfl rfl) (Oc (op_extract rfl rfl) (Oc oa (Oc oa ?_))))))
 refine OpsL.nilS ⟨[(1, _), (2, .b (.row 102)), (3, I x_6)], [(102, _)]⟩ rfl (Tri.seq (Tri.regionL ?_))
 refine Oc om ?_
 obtain ⟨⟨x_7, x_8⟩, e6, h⟩ := bnd h
 refine Oc (op_call (sensor_Boxes_spec 103 e6) goes10 rfl trivial rfl rfl) (Oc om (Oc (op_extract rfl rfl) (Oc (op_extract rfl rfl) (Oc oa (Oc oa ?_)))))
 refine OpsL.nilS ⟨[(1, _), (2, _), (3, _), (4, .b (.row 103)), (5, I x_8)], [(102, _), (103, .row 36 12 (x_7.map eArr3Bound))]⟩ rfl (Tri.seq (Tri.regionL ?_))
 refine Oc om ?_
 obtain ⟨⟨x_9, x_10⟩, e7, h⟩ := bnd h
 refine Oc (op_call (sensor_Solution_spec 104 e7) goes24 rfl trivial rfl rfl) (Oc om (Oc (op_extract rfl rfl) (Oc (op_extract rfl rfl) (Oc oa (Oc oa ?_)))))
 refine OpsL.nilS ⟨[(1, _), (2, _), (3, _), (4, _), (5, _), (6, .b (.row 104)), (7, I x_10)], [(102, _), (103, _), (104, .row 52 3 (x_9.map (eA3 .i64)))]⟩ rfl (Tri.seq (Tri.seq (Tri.regionL ?_)))
 refine Oc om (Oc (op_neq rfl rfl) (Oc om ?_))
 refine CgF (!(decide (x_6 ≠ 0))) [] (fun g8 => trivial) (fun g8 => om) (CgF (!(decide (x_6 ≠ 0))) [44] (fun g9 => by exact ⟨g9, trivial⟩) (fun g9 => op_neq rfl rfl) (Oc (op_pick_or (fun e => by rw [e]; rfl) rfl rfl rfl rfl) (Oc om ?_)))
 refine OpsL.keepS ⟨[(1, _), (2, _), (4, _), (6, _), (7, _), (47, B ((decide (x_6 ≠ 0)) || (decide (x_8 ≠ 0))))], [(102, _), (103, _), (104, _)]⟩ rfl (CgF (!((decide (x_6 ≠ 0)) || (decide (x_8 ≠ 0)))) [] (fun g10 => trivial) (fun g10 => om) (CgF (!((decide (x_6 ≠ 0)) || (decide (x_8 ≠ 0)))) [48] (fun g11 => by exact ⟨g11, trivial⟩) (fun g11 => op_neq rfl rfl) (OpsL.consB h rfl (op_pick_or (fun e => by rw [e]; rfl) rfl rfl rfl rfl) (fun x_11 h => ?_))))
 refine Oc om (CgF (!x_11) [] (fun g12 => by exact trivial) (fun g12 => om) (CgF (!x_11) [52] (fun g13 => by exact ⟨g13, trivial⟩) (fun g13 => op_len_r' und27 rfl rfl (List.length_map _)) (CgF (!x_11) [53] (fun g14 => by exact ⟨g14, trivial⟩) (fun g14 => op_neq rfl rfl) (OpsL.keepS ⟨[(1, _), (2, _), (4, _), (6, _), (51, B x_11), (54, .opt (!x_11) (.one (.bool (decide ((x_5.length : Int) ≠ 2)))))], [(102, _), (103, _), (104, _)]⟩ rfl (Oc (op_pick_or (fun e => by rw [e]; rfl) rfl rfl rfl rfl) (Oc om ?_))))))
 refine CgF (!(x_11 || (decide ((x_5.length : Int) ≠ 2)))) [] (fun g15 => trivial) (fun g15 => om) (CgF (!(x_11 || (decide ((x_5.length : Int) ≠ 2)))) [57] (fun g16 => by exact ⟨g16, trivial⟩) (fun g16 => op_len_r' und27 rfl rfl (List.length_map _)) (CgF (!(x_11 || (decide ((x_5.length : Int) ≠ 2)))) [58] (fun g17 => by exact ⟨g17, trivial⟩) (fun g17 => op_neq rfl rfl) (OpsL.consB h rfl (op_pick_or (fun e => by rw [e]; rfl) rfl rfl rfl rfl) (fun x_12 h => ?_))))
 refine Oc om (OpsL.keepS ⟨[(1, _), (2, _), (4, _), (6, _), (61, B x_12)], [(102, _), (103, _), (104, _)]⟩ rfl (CgF (!x_12) [] (fun g18 => by exact trivial) (fun g18 => om) (CgF (!x_12) [62] (fun g19 => by exact ⟨g19, trivial⟩) (fun g19 => op_len_r' und50 rfl rfl (List.length_map _)) (CgF (!x_12) [63] (fun g20 => by exact ⟨g20, trivial⟩) (fun g20 => op_neq rfl rfl) (Oc (op_pick_or (fun e => by rw [e]; rfl) rfl rfl rfl rfl) ?_)))))
 refine OpsL.nilS ⟨[(1, _), (2, _), (4, _), (6, _), (65, B (x_12 || (decide ((x_9.length : Int) ≠ 2))))], [(102, _), (103, _), (104, _)]⟩ rfl (Tri.ite h rfl (fun _ h => ?_) (fun _ h => ?_))
 ·refine Tri.seq (Tri.regionL ?_)
  refine Oc oa (OpsL.nilS ⟨[(0, B false)], []⟩ rfl (Tri.ret (Fin.then_ret ?_)))
  obtain rfl := Option.some.inj h
  refine Fin.keepS ⟨[(0, _)], []⟩ rfl (Fin.result' [.one (.bool false)] (.inl rfl) rfl (.cons (.tmp rfl) .nil) ⟨rfl, rfl⟩)
 ·refine Tri.skip (Fin.keepS ⟨[(1, _), (2, _), (4, _), (6, _)], [(102, _), (103, _), (104, _)]⟩ rfl (Fin.then (Tri.seq (Tri.regionL ?_))))
  refine Oc oa (OpsL.nilS ⟨[(1, _), (2, _), (4, _), (6, _), (8, .b (.one (.raw (.func (.func 32) #[] #[]))))], [(102, _), (103, _), (104, _)]⟩ rfl (Tri.seq ?_))
  obtain ⟨x_13, e21, h⟩ := bnd h
  obtain ⟨x_14, e22, h⟩ := bnd h
  obtain ⟨x_15, e25, h⟩ := bnd h
  obtain ⟨x_16, e29, h⟩ := bnd h
  obtain ⟨x_17, e33, h⟩ := bnd h
  obtain ⟨x_18, e37, h⟩ := bnd h
  obtain ⟨x_19, e41, h⟩ := bnd h
  obtain ⟨x_20, e45, h⟩ := bnd h
  obtain ⟨x_21, e49, h⟩ := bnd h
  obtain ⟨x_22, e55, h⟩ := bnd h
  refine Tri.regionY mixed 45 [.b (.row 102), .b (.rptr 102 ((0 : Int).toNat * 12)), .b (.agg (eArr3Bound x_13)), .b (.one (.raw (.func (.func 32) #[] #[]))), .b (.agg (eArr3Bound x_14)), B (decide (x_13 = x_14)), B (decide (x_13 = x_14)), .opt (decide (x_13 = x_14)) (.row 102), .opt (decide (x_13 = x_14)) (.rptr 102 ((1 : Int).toNat * 12)), .opt (decide (x_13 = x_14)) (.agg (eArr3Bound x_15)), .opt (decide (x_13 = x_14)) (.one (.raw (.func (.func 32) #[] #[]))), .opt (decide (x_13 = x_14)) (.agg (eArr3Bound x_16)), .opt (decide (x_13 = x_14)) (.one (.bool (decide (x_15 = x_16)))), B ((decide (x_13 = x_14)) && (decide (x_15 = x_16))), B ((decide (x_13 = x_14)) && (decide (x_15 = x_16))), .opt ((decide (x_13 = x_14)) && (decide (x_15 = x_16))) (.row 103), .opt ((decide (x_13 = x_14)) && (decide (x_15 = x_16))) (.rptr 103 ((0 : Int).toNat * 12)), .opt ((decide (x_13 = x_14)) && (decide (x_15 = x_16))) (.agg (eArr3Bound x_17)), .opt ((decide (x_13 = x_14)) && (decide (x_15 = x_16))) (.one (.raw (.func (.func 32) #[] #[]))), .opt ((decide (x_13 = x_14)) && (decide (x_15 = x_16))) (.agg (eArr3Bound x_18)), .opt ((decide (x_13 = x_14)) && (decide (x_15 = x_16))) (.one (.bool (decide (x_17 = x_18)))), B (((decide (x_13 = x_14)) && (decide (x_15 = x_16))) && (decide (x_17 = x_18))), B (((decide (x_13 = x_14)) && (decide (x_15 = x_16))) && (decide (x_17 = x_18))), .opt (((decide (x_13 = x_14)) && (decide (x_15 = x_16))) && (decide (x_17 = x_18))) (.row 103), .opt (((decide (x_13 = x_14)) && (decide (x_15 = x_16))) && (decide (x_17 = x_18))) (.rptr 103 ((1 : Int).toNat * 12)), .opt (((decide (x_13 = x_14)) && (decide (x_15 = x_16))) && (decide (x_17 = x_18))) (.agg (eArr3Bound x_19)), .opt (((decide (x_13 = x_14)) && (decide (x_15 = x_16))) && (decide (x_17 = x_18))) (.one (.raw (.func (.func 32) #[] #[]))), .opt (((decide (x_13 = x_14)) && (decide (x_15 = x_16))) && (decide (x_17 = x_18))) (.agg (eArr3Bound x_20)), .opt (((decide (x_13 = x_14)) && (decide (x_15 = x_16))) && (decide (x_17 = x_18))) (.one (.bool (decide (x_19 = x_20)))), B ((((decide (x_13 = x_14)) && (decide (x_15 = x_16))) && (decide (x_17 = x_18))) && (decide (x_19 = x_20))), B ((((decide (x_13 = x_14)) && (decide (x_15 = x_16))) && (decide (x_17 = x_18))) && (decide (x_19 = x_20))), .opt ((((decide (x_13 = x_14)) && (decide (x_15 = x_16))) && (decide (x_17 = x_18))) && (decide (x_19 = x_20))) (.row 104), .opt ((((decide (x_13 = x_14)) && (decide (x_15 = x_16))) && (decide (x_17 = x_18))) && (decide (x_19 = x_20))) (.rptr 104 ((0 : Int).toNat * 3)), .opt ((((decide (x_13 = x_14)) && (decide (x_15 = x_16))) && (decide (x_17 = x_18))) && (decide (x_19 = x_20))) (.agg ((eA3 .i64) x_21)), .opt ((((decide (x_13 = x_14)) && (decide (x_15 = x_16))) && (decide (x_17 = x_18))) && (decide (x_19 = x_20))) (.agg [.i 2, .i 0, .i 0]), .opt ((((decide (x_13 = x_14)) && (decide (x_15 = x_16))) && (decide (x_17 = x_18))) && (decide (x_19 = x_20))) (.one (.bool (decide (x_21 = (⟨2, 0, 0⟩ : A3))))), B (((((decide (x_13 = x_14)) && (decide (x_15 = x_16))) && (decide (x_17 = x_18))) && (decide (x_19 = x_20))) && (decide (x_21 = (⟨2, 0, 0⟩ : A3)))), B (((((decide (x_13 = x_14)) && (decide (x_15 = x_16))) && (decide (x_17 = x_18))) && (decide (x_19 = x_20))) && (decide (x_21 = (⟨2, 0, 0⟩ : A3)))), .opt (((((decide (x_13 = x_14)) && (decide (x_15 = x_16))) && (decide (x_17 = x_18))) && (decide (x_19 = x_20))) && (decide (x_21 = (⟨2, 0, 0⟩ : A3)))) (.row 104), .opt (((((decide (x_13 = x_14)) && (decide (x_15 = x_16))) && (decide (x_17 = x_18))) && (decide (x_19 = x_20))) && (decide (x_21 = (⟨2, 0, 0⟩ : A3)))) (.rptr 104 ((1 : Int).toNat * 3)), .opt (((((decide (x_13 = x_14)) && (decide (x_15 = x_16))) && (decide (x_17 = x_18))) && (decide (x_19 = x_20))) && (decide (x_21 = (⟨2, 0, 0⟩ : A3)))) (.agg ((eA3 .i64) x_22)), .opt (((((decide (x_13 = x_14)) && (decide (x_15 = x_16))) && (decide (x_17 = x_18))) && (decide (x_19 = x_20))) && (decide (x_21 = (⟨2, 0, 0⟩ : A3)))) (.agg [.i 3, .i 0, .i 0]), .opt (((((decide (x_13 = x_14)) && (decide (x_15 = x_16))) && (decide (x_17 = x_18))) && (decide (x_19 = x_20))) && (decide (x_21 = (⟨2, 0, 0⟩ : A3)))) (.one (.bool (decide (x_22 = (⟨3, 0, 0⟩ : A3))))), B ((((((decide (x_13 = x_14)) && (decide (x_15 = x_16))) && (decide (x_17 = x_18))) && (decide (x_19 = x_20))) && (decide (x_21 = (⟨2, 0, 0⟩ : A3)))) && (decide (x_22 = (⟨3, 0, 0⟩ : A3)))), B ((((((decide (x_13 = x_14)) && (decide (x_15 = x_16))) && (decide (x_17 = x_18))) && (decide (x_19 = x_20))) && (decide (x_21 = (⟨2, 0, 0⟩ : A3)))) && (decide (x_22 = (⟨3, 0, 0⟩ : A3))))] [1, 6, 9] [104] (s' := ⟨[(1, _), (6, _), (9, B ((((((decide (x_13 = x_14)) && (decide (x_15 = x_16))) && (decide (x_17 = x_18))) && (decide (x_19 = x_20))) && (decide (x_21 = (⟨2, 0, 0⟩ : A3)))) && (decide (x_22 = (⟨3, 0, 0⟩ : A3)))))], [(104, _)]⟩) rfl ⟨fun _ => .p om, fun _ => .p (op_index_r tySl27 (ix_lo e21) (ix_lt' e21) rfl rfl rfl rfl), fun _ => .p (op_load_r (i := (0 : Int).toNat) (f := 0) tyAgg36 rfl rfl rfl (ix_map (e := eArr3Bound) e21) rfl rfl), fun _ => .p om, fun _ => .p (op_callv0 (skewbacklaw39_sanity_1_spec e22) goes32 rfl rfl rfl), fun _ => .p (op_eql_agg (eqAgg36 x_13 x_14) rfl rfl), fun _ => .p om, fun _ => by exact .guard (decide (x_13 = x_14)) 1 [] (.plain rfl) (eq_t _) rfl rfl (fun g23 => trivial) (fun g23 => om), fun _ => by exact .guard (decide (x_13 = x_14)) 2 [73] (.plain rfl) (eq_t _) rfl rfl (fun g24 => ⟨g24, trivial⟩) (fun g24 => op_index_r tySl27 (ix_lo (gc e25 g24)) (ix_lt' (gc e25 g24)) rfl rfl rfl rfl), fun _ => by exact .guard (decide (x_13 = x_14)) 2 [74] (.plain rfl) (eq_t _) rfl rfl (fun g26 => ⟨g26, trivial⟩) (fun g26 => op_load_r (i := (1 : Int).toNat) (f := 0) tyAgg36 rfl rfl rfl (ix_map (e := eArr3Bound) (gc e25 g26)) rfl rfl), fun _ => by exact .guard (decide (x_13 = x_14)) 1 [] (.plain rfl) (eq_t _) rfl rfl (fun g27 => trivial) (fun g27 => om), fun _ => by exact .guard (decide (x_13 = x_14)) 3 [76] (.plain rfl) (eq_t _) rfl rfl (fun g28 => ⟨g28, trivial⟩) (fun g28 => op_callv0 (skewbacklaw39_sanity_1_spec (gc e29 g28)) goes32 rfl rfl rfl), fun _ => by exact .guard (decide (x_13 = x_14)) 3 [75, 77] (.plain rfl) (eq_t _) rfl rfl (fun g30 => ⟨g30, g30, trivial⟩) (fun g30 => op_eql_agg (eqAgg36 x_15 x_16) rfl rfl), fun _ => .p (op_pick_and (fun e => e) rfl rfl rfl rfl), fun _ => .p om, fun _ => by exact .guard ((decide (x_13 = x_14)) && (decide (x_15 = x_16))) 1 [] (.plain rfl) (eq_t _) rfl rfl (fun g31 => trivial) (fun g31 => om), fun _ => by exact .guard ((decide (x_13 = x_14)) && (decide (x_15 = x_16))) 2 [81] (.plain rfl) (eq_t _) rfl rfl (fun g32 => ⟨g32, trivial⟩) (fun g32 => op_index_r tySl27 (ix_lo (gc e33 g32)) (ix_lt' (gc e33 g32)) rfl rfl rfl rfl), fun _ => by exact .guard ((decide (x_13 = x_14)) && (decide (x_15 = x_16))) 2 [82] (.plain rfl) (eq_t _) rfl rfl (fun g34 => ⟨g34, trivial⟩) (fun g34 => op_load_r (i := (0 : Int).toNat) (f := 0) tyAgg36 rfl rfl rfl (ix_map (e := eArr3Bound) (gc e33 g34)) rfl rfl), fun _ => by exact .guard ((decide (x_13 = x_14)) && (decide (x_15 = x_16))) 1 [] (.plain rfl) (eq_t _) rfl rfl (fun g35 => trivial) (fun g35 => om), fun _ => by exact .guard ((decide (x_13 = x_14)) && (decide (x_15 = x_16))) 3 [84] (.plain rfl) (eq_t _) rfl rfl (fun g36 => ⟨g36, trivial⟩) (fun g36 => op_callv0 (skewbacklaw39_sanity_1_spec (gc e37 g36)) goes32 rfl rfl rfl), fun _ => by exact .guard ((decide (x_13 = x_14)) && (decide (x_15 = x_16))) 3 [83, 85] (.plain rfl) (eq_t _) rfl rfl (fun g38 => ⟨g38, g38, trivial⟩) (fun g38 => op_eql_agg (eqAgg36 x_17 x_18) rfl rfl), fun _ => .p (op_pick_and (fun e => e) rfl rfl rfl rfl), fun _ => .p om, fun _ => by exact .guard (((decide (x_13 = x_14)) && (decide (x_15 = x_16))) && (decide (x_17 = x_18))) 1 [] (.plain rfl) (eq_t _) rfl rfl (fun g39 => trivial) (fun g39 => om), fun _ => by exact .guard (((decide (x_13 = x_14)) && (decide (x_15 = x_16))) && (decide (x_17 = x_18))) 2 [89] (.plain rfl) (eq_t _) rfl rfl (fun g40 => ⟨g40, trivial⟩) (fun g40 => op_index_r tySl27 (ix_lo (gc e41 g40)) (ix_lt' (gc e41 g40)) rfl rfl rfl rfl), fun _ => by exact .guard (((decide (x_13 = x_14)) && (decide (x_15 = x_16))) && (decide (x_17 = x_18))) 2 [90] (.plain rfl) (eq_t _) rfl rfl (fun g42 => ⟨g42, trivial⟩) (fun g42 => op_load_r (i := (1 : Int).toNat) (f := 0) tyAgg36 rfl rfl rfl (ix_map (e := eArr3Bound) (gc e41 g42)) rfl rfl), fun _ => by exact .guard (((decide (x_13 = x_14)) && (decide (x_15 = x_16))) && (decide (x_17 = x_18))) 1 [] (.plain rfl) (eq_t _) rfl rfl (fun g43 => trivial) (fun g43 => om), fun _ => by exact .guard (((decide (x_13 = x_14)) && (decide (x_15 = x_16))) && (decide (x_17 = x_18))) 3 [92] (.plain rfl) (eq_t _) rfl rfl (fun g44 => ⟨g44, trivial⟩) (fun g44 => op_callv0 (skewbacklaw39_sanity_1_spec (gc e45 g44)) goes32 rfl rfl rfl), fun _ => by exact .guard (((decide (x_13 = x_14)) && (decide (x_15 = x_16))) && (decide (x_17 = x_18))) 3 [91, 93] (.plain rfl) (eq_t _) rfl rfl (fun g46 => ⟨g46, g46, trivial⟩) (fun g46 => op_eql_agg (eqAgg36 x_19 x_20) rfl rfl), fun _ => .p (op_pick_and (fun e => e) rfl rfl rfl rfl), fun _ => .p om, fun _ => by exact .guard ((((decide (x_13 = x_14)) && (decide (x_15 = x_16))) && (decide (x_17 = x_18))) && (decide (x_19 = x_20))) 1 [] (.plain rfl) (eq_t _) rfl rfl (fun g47 => trivial) (fun g47 => om), fun _ => by exact .guard ((((decide (x_13 = x_14)) && (decide (x_15 = x_16))) && (decide (x_17 = x_18))) && (decide (x_19 = x_20))) 2 [97] (.plain rfl) (eq_t _) rfl rfl (fun g48 => ⟨g48, trivial⟩) (fun g48 => op_index_r tySl50 (ix_lo (gc e49 g48)) (ix_lt' (gc e49 g48)) rfl rfl rfl rfl), fun _ => by exact .guard ((((decide (x_13 = x_14)) && (decide (x_15 = x_16))) && (decide (x_17 = x_18))) && (decide (x_19 = x_20))) 2 [98] (.plain rfl) (eq_t _) rfl rfl (fun g50 => ⟨g50, trivial⟩) (fun g50 => op_load_r (i := (0 : Int).toNat) (f := 0) tyAgg52 rfl rfl rfl (ix_map (e := (eA3 .i64)) (gc e49 g50)) rfl rfl), fun _ => by exact .guard ((((decide (x_13 = x_14)) && (decide (x_15 = x_16))) && (decide (x_17 = x_18))) && (decide (x_19 = x_20))) 1 [] (.plain rfl) (eq_t _) rfl rfl (fun g51 => trivial) (fun g51 => op_buildA tyBuild52 rfl rfl), fun _ => by exact .guard ((((decide (x_13 = x_14)) && (decide (x_15 = x_16))) && (decide (x_17 = x_18))) && (decide (x_19 = x_20))) 3 [99, 100] (.plain rfl) (eq_t _) rfl rfl (fun g52 => ⟨g52, g52, trivial⟩) (fun g52 => op_eql_agg (eqAgg52 x_21 (⟨2, 0, 0⟩ : A3)) rfl rfl), fun _ => .p (op_pick_and (fun e => e) rfl rfl rfl rfl), fun _ => .p om, fun _ => by exact .guard (((((decide (x_13 = x_14)) && (decide (x_15 = x_16))) && (decide (x_17 = x_18))) && (decide (x_19 = x_20))) && (decide (x_21 = (⟨2, 0, 0⟩ : A3)))) 1 [] (.plain rfl) (eq_t _) rfl rfl (fun g53 => trivial) (fun g53 => om), fun _ => by exact .guard (((((decide (x_13 = x_14)) && (decide (x_15 = x_16))) && (decide (x_17 = x_18))) && (decide (x_19 = x_20))) && (decide (x_21 = (⟨2, 0, 0⟩ : A3)))) 2 [104] (.plain rfl) (eq_t _) rfl rfl (fun g54 => ⟨g54, trivial⟩) (fun g54 => op_index_r tySl50 (ix_lo (gc e55 g54)) (ix_lt' (gc e55 g54)) rfl rfl rfl rfl), fun _ => by exact .guard (((((decide (x_13 = x_14)) && (decide (x_15 = x_16))) && (decide (x_17 = x_18))) && (decide (x_19 = x_20))) && (decide (x_21 = (⟨2, 0, 0⟩ : A3)))) 2 [105] (.plain rfl) (eq_t _) rfl rfl (fun g56 => ⟨g56, trivial⟩) (fun g56 => op_load_r (i := (1 : Int).toNat) (f := 0) tyAgg52 rfl rfl rfl (ix_map (e := (eA3 .i64)) (gc e55 g56)) rfl rfl), fun _ => by exact .guard (((((decide (x_13 = x_14)) && (decide (x_15 = x_16))) && (decide (x_17 = x_18))) && (decide (x_19 = x_20))) && (decide (x_21 = (⟨2, 0, 0⟩ : A3)))) 1 [] (.plain rfl) (eq_t _) rfl rfl (fun g57 => trivial) (fun g57 => op_buildA tyBuild52 rfl rfl), fun _ => by exact .guard (((((decide (x_13 = x_14)) && (decide (x_15 = x_16))) && (decide (x_17 = x_18))) && (decide (x_19 = x_20))) && (decide (x_21 = (⟨2, 0, 0⟩ : A3)))) 3 [106, 107] (.plain rfl) (eq_t _) rfl rfl (fun g58 => ⟨g58, g58, trivial⟩) (fun g58 => op_eql_agg (eqAgg52 x_22 (⟨3, 0, 0⟩ : A3)) rfl rfl), fun _ => .p (op_pick_and (fun e => e) rfl rfl rfl rfl), fun _ => .p oa, trivial⟩ rfl rfl ?_
  refine Tri.seq (Tri.keepS ⟨[(1, _), (6, _), (9, _)], [(104, _)]⟩ rfl ?_)
  obtain ⟨x_23, e59, h⟩ := bnd h
  obtain ⟨x_24, e60, h⟩ := bnd h
  obtain ⟨x_25, e61, h⟩ := bnd h
  obtain ⟨⟨x_26, x_27⟩, e62, h⟩ := bnd h
  refine Tri.regionY mixed 11 [.b (.one (.sl 6 ([x_1, x_2, x_3].map eReport))), .b (.one (.slf 6 (x_23.map eReport))), .b (.agg (eReport x_24)), .b (.one (.sl 6 ([x_24].map eReport))), .b (.one (.sl 6 (x_25.map eReport))), .tup [.one (.sl 1 (x_26.map eI)), .one (.i x_27)], .tup [.one (.sl 1 (x_26.map eI)), .one (.i x_27)], .b (.one (.sl 1 (x_26.map eI))), I x_27, .b (.one (.sl 1 (x_26.map eI))), I x_27] [1, 6, 9, 10, 11] [104] (s' := ⟨[(1, _), (6, _), (9, _), (10, .b (.one (.sl 1 (x_26.map eI)))), (11, I x_27)], [(104, _)]⟩) rfl ⟨fun _ => .p om, fun _ => .p (op_slice_3 tySl22 e59 rfl rfl rfl), fun _ => .p (op_call0 (skewbacklaw39_is_spec e60) goes31 rfl rfl), fun _ => .p (op_buildSliceP (es := [x_24].map eReport) tySl22 rfl rfl (uni_map fun _ => rfl) rfl (by decide) (by decide)), fun _ => .p (op_append_fp tySl22 (app_b e61) (app_m e61) (Nat.le_of_ble_eq_true rfl) rfl rfl (app_map e61)), fun _ => .p (op_call0 (sensor_Contradiction_spec e62) goes12 rfl rfl), fun _ => .p om, fun _ => .p (op_extract rfl rfl), fun _ => .p (op_extract rfl rfl), fun _ => .p oa, fun _ => .p oa, trivial⟩ rfl rfl (Tri.seq (Tri.keepS ⟨[(1, _), (6, _), (9, _), (10, _), (11, _)], [(104, _)]⟩ rfl ?_))
  obtain ⟨x_28, e63, h⟩ := bnd h
  obtain ⟨x_29, e64, h⟩ := bnd h
  obtain ⟨x_30, e65, h⟩ := bnd h
  obtain ⟨⟨x_31, x_32⟩, e66, h⟩ := bnd h
  refine Tri.regionY mixed 11 [.b (.one (.sl 6 ([x_1, x_2, x_3].map eReport))), .b (.one (.slf 6 (x_28.map eReport))), .b (.agg (eReport x_29)), .b (.one (.sl 6 ([x_29].map eReport))), .b (.one (.sl 6 (x_30.map eReport))), .tup [.one (.sl 1 (x_31.map eI)), .one (.i x_32)], .tup [.one (.sl 1 (x_31.map eI)), .one (.i x_32)], .b (.one (.sl 1 (x_31.map eI))), I x_32, .b (.one (.sl 1 (x_31.map eI))), I x_32] [1, 6, 9, 10, 11, 12, 13] [104] (s' := ⟨[(1, _), (6, _), (9, _), (10, _), (11, _), (12, .b (.one (.sl 1 (x_31.map eI)))), (13, I x_32)], [(104, _)]⟩) rfl ⟨fun _ => .p om, fun _ => .p (op_slice_3 tySl22 e63 rfl rfl rfl), fun _ => .p (op_call0 (skewbacklaw39_is_spec e64) goes31 rfl rfl), fun _ => .p (op_buildSliceP (es := [x_29].map eReport) tySl22 rfl rfl (uni_map fun _ => rfl) rfl (by decide) (by decide)), fun _ => .p (op_append_fp tySl22 (app_b e65) (app_m e65) (Nat.le_of_ble_eq_true rfl) rfl rfl (app_map e65)), fun _ => .p (op_call0 (sensor_Contradiction_spec e66) goes12 rfl rfl), fun _ => .p om, fun _ => .p (op_extract rfl rfl), fun _ => .p (op_extract rfl rfl), fun _ => .p oa, fun _ => .p oa, trivial⟩ rfl rfl (Tri.seq (Tri.regionL ?_))
  refine Oc om ?_
  obtain ⟨⟨x_33, x_34⟩, e67, h⟩ := bnd h
  refine Oc (op_call0 (sensor_Contradiction_spec e67) goes12 rfl rfl) (Oc om (Oc (op_extract rfl rfl) (Oc (op_extract rfl rfl) (Oc oa (Oc oa ?_)))))
  refine OpsL.nilS ⟨[(1, _), (6, _), (9, _), (10, _), (11, _), (12, _), (13, _), (14, .b (.one (.sl 1 (x_33.map eI)))), (15, I x_34)], [(104, _)]⟩ rfl (Tri.seq ?_)
  obtain ⟨x_35, e68, h⟩ := bnd h
  obtain ⟨x_36, e69, h⟩ := bnd h
  obtain ⟨⟨x_37, x_38⟩, e70, h⟩ := bnd h
  refine Tri.regionY mixed 9 [.b (.one (.sl 6 ([x_1, x_2, x_3].map eReport))), .b (.one (.sl 6 (x_35.map eReport))), .b (.agg (eReport x_36)), .tup [.one (.bool x_37), .one (.i x_38)], .tup [.one (.bool x_37), .one (.i x_38)], B x_37, I x_38, B x_37, I x_38] [1, 6, 9, 10, 11, 12, 13, 14, 15, 16, 17] [104] (s' := ⟨[(1, _), (6, _), (9, _), (10, _), (11, _), (12, _), (13, _), (14, _), (15, _), (16, B x_37), (17, I x_38)], [(104, _)]⟩) rfl ⟨fun _ => .p om, fun _ => .p (op_slice_h2 tySl22 e68 rfl rfl), fun _ => .p (op_call0 (skewbacklaw39_is_spec e69) goes31 rfl rfl), fun _ => .p (op_call0 (sensor_Implied_spec e70) goes14 rfl rfl), fun _ => .p om, fun _ => .p (op_extract rfl rfl), fun _ => .p (op_extract rfl rfl), fun _ => .p oa, fun _ => .p oa, trivial⟩ rfl rfl (Tri.seq (Tri.keepS ⟨[(1, _), (6, _), (9, _), (10, _), (11, _), (12, _), (13, _), (14, _), (15, _), (16, _), (17, _)], [(104, _)]⟩ rfl ?_))
  obtain ⟨x_39, e71, h⟩ := bnd h
  obtain ⟨x_40, e72, h⟩ := bnd h
  obtain ⟨⟨x_41, x_42⟩, e73, h⟩ := bnd h
  refine Tri.regionY mixed 9 [.b (.one (.sl 6 ([x_1, x_2, x_3].map eReport))), .b (.one (.sl 6 (x_39.map eReport))), .b (.agg (eReport x_40)), .tup [.one (.bool x_41), .one (.i x_42)], .tup [.one (.bool x_41), .one (.i x_42)], B x_41, I x_42, B x_41, I x_42] [1, 6, 9, 10, 11, 12, 13, 14, 15, 16, 17, 18, 19] [104] (s' := ⟨[(1, _), (6, _), (9, _), (10, _), (11, _), (12, _), (13, _), (14, _), (15, _), (16, _), (17, _), (18, B x_41), (19, I x_42)], [(104, _)]⟩) rfl ⟨fun _ => .p om, fun _ => .p (op_slice_h2 tySl22 e71 rfl rfl), fun _ => .p (op_call0 (skewbacklaw39_is_spec e72) goes31 rfl rfl), fun _ => .p (op_call0 (sensor_Implied_spec e73) goes14 rfl rfl), fun _ => .p om, fun _ => .p (op_extract rfl rfl), fun _ => .p (op_extract rfl rfl), fun _ => .p oa, fun _ => .p oa, trivial⟩ rfl rfl (Tri.seq (Tri.regionL ?_))
  refine Oc om (Oc (op_buildSlice (k := 107) (es := [2, 3].map eI) tySl37 rfl rfl (uni_map fun _ => rfl) rfl (by decide) (by decide) rfl) ?_)
  obtain ⟨x_43, e74, h⟩ := bnd h
  refine Oc (op_callB (skewbacklaw39_ints_spec e74) goes16 rfl CP.flat_bool) (Oc om ?_)
  refine OpsL.keepS ⟨[(1, _), (6, _), (9, _), (11, _), (12, _), (13, _), (14, _), (15, _), (16, _), (17, _), (18, _), (19, _), (150, B x_43)], [(104, _)]⟩ rfl (CgT x_43 [] (fun g75 => trivial) (fun g75 => om) (CgT x_43 [151] (fun g76 => by exact ⟨g76, trivial⟩) (fun g76 => op_eql rfl rfl) (Oc (op_pick_and (fun e => e) rfl rfl rfl rfl) (Oc om ?_))))
  refine CgT (x_43 && (decide (x_27 = 0))) [] (fun g77 => trivial) (fun g77 => om) (CgT (x_43 && (decide (x_27 = 0))) [] (fun g78 => by exact trivial) (fun g78 => op_buildSliceP (es := [0, 1, 2].map eI) tySl37 rfl rfl (uni_map fun _ => rfl) rfl (by decide) (by decide)) (OpsL.keepS ⟨[(1, _), (6, _), (9, _), (13, _), (14, _), (15, _), (16, _), (17, _), (18, _), (19, _), (154, B (x_43 && (decide (x_27 = 0)))), (155, .opt (x_43 && (decide (x_27 = 0))) (.one (.sl 1 (x_31.map eI)))), (156, .opt (x_43 && (decide (x_27 = 0))) (.one (.sl 1 ([0, 1, 2].map eI))))], [(104, _)]⟩ rfl ?_))
  obtain ⟨x_44, e80, h⟩ := bnd h
  refine CgT (x_43 && (decide (x_27 = 0))) [155, 156] (fun g79 => ⟨g79, g79, trivial⟩) (fun g79 => op_call0 (skewbacklaw39_ints_spec (gc e80 g79)) goes16 rfl rfl) (Oc (op_pick_and (fun e => e) rfl rfl rfl rfl) (Oc om ?_))
  refine CgT ((x_43 && (decide (x_27 = 0))) && x_44) [] (fun g81 => trivial) (fun g81 => om) (CgT ((x_43 && (decide (x_27 = 0))) && x_44) [160] (fun g82 => by exact ⟨g82, trivial⟩) (fun g82 => op_eql rfl rfl) (OpsL.consB h rfl (op_pick_and (fun e => e) rfl rfl rfl rfl) (fun x_45 h => ?_)))
  refine Oc om (CgT x_45 [] (fun g83 => by exact trivial) (fun g83 => om) (OpsL.keepS ⟨[(1, _), (6, _), (9, _), (15, _), (16, _), (17, _), (18, _), (19, _), (163, B x_45), (164, .opt x_45 (.one (.sl 1 (x_33.map eI))))], [(104, _)]⟩ rfl (CgT x_45 [164] (fun g84 => by exact ⟨g84, trivial⟩) (fun g84 => op_len_e' und37 rfl (List.length_map _)) (CgT x_45 [165] (fun g85 => by exact ⟨g85, trivial⟩) (fun g85 => op_eql rfl rfl) (Oc (op_pick_and (fun e => e) rfl rfl rfl rfl) (Oc om ?_))))))
  refine CgT (x_45 && (decide ((x_33.length : Int) = 0))) [] (fun g86 => trivial) (fun g86 => om) (CgT (x_45 && (decide ((x_33.length : Int) = 0))) [169] (fun g87 => by exact ⟨g87, trivial⟩) (fun g87 => op_eql rfl rfl) (OpsL.consB h rfl (op_pick_and (fun e => e) rfl rfl rfl rfl) (fun x_46 h => ?_)))
  refine Oc oa (OpsL.nilS ⟨[(1, _), (6, _), (9, _), (16, _), (17, _), (18, _), (19, _), (20, B x_46)], [(104, _)]⟩ rfl (Tri.seq (Tri.regionL ?_)))
  refine OpsL.consB h rfl om (fun x_47 h => ?_)
  refine Oc om (CgT x_47 [] (fun g88 => by exact trivial) (fun g88 => om) (Oc (op_pick_and (fun e => e) rfl rfl rfl rfl) (Oc om ?_)))
  refine CgT (x_47 && x_46) [] (fun g89 => trivial) (fun g89 => om) (Oc (op_pick_and (fun e => e) rfl rfl rfl rfl) (OpsL.keepS ⟨[(1, _), (6, _), (17, _), (18, _), (19, _), (178, B ((x_47 && x_46) && x_37))], [(104, _)]⟩ rfl (Oc om (CgT ((x_47 && x_46) && x_37) [] (fun g90 => by exact trivial) (fun g90 => om) (CgT ((x_47 && x_46) && x_37) [180] (fun g91 => by exact ⟨g91, trivial⟩) (fun g91 => op_not rfl) ?_)))))
  refine Oc (op_pick_and (fun e => e) rfl rfl rfl rfl) (Oc om ?_)
  refine CgT (((x_47 && x_46) && x_37) && (!x_41)) [] (fun g92 => trivial) (fun g92 => om) (CgT (((x_47 && x_46) && x_37) && (!x_41)) [184] (fun g93 => by exact ⟨g93, trivial⟩) (fun g93 => op_eql rfl rfl) (Oc (op_pick_and (fun e => e) rfl rfl rfl rfl) (OpsL.keepS ⟨[(1, _), (6, _), (19, _), (186, B ((((x_47 && x_46) && x_37) && (!x_41)) && (decide (x_38 = 0))))], [(104, _)]⟩ rfl (Oc om (CgT ((((x_47 && x_46) && x_37) && (!x_41)) && (decide (x_38 = 0))) [] (fun g94 => by exact trivial) (fun g94 => om) ?_)))))
  refine CgT ((((x_47 && x_46) && x_37) && (!x_41)) && (decide (x_38 = 0))) [188] (fun g95 => ⟨g95, trivial⟩) (fun g95 => op_eql rfl rfl) (OpsL.consB h rfl (op_pick_and (fun e => e) rfl rfl rfl rfl) (fun x_48 h => ?_))
  refine Oc om (CgT x_48 [] (fun g96 => by exact trivial) (fun g96 => om) (OpsL.keepS ⟨[(1, _), (6, _), (191, B x_48), (192, .opt x_48 (.one (.sl 6 ([x_1, x_2, x_3].map eReport))))], [(104, _)]⟩ rfl ?_))
  obtain ⟨x_49, e98, h⟩ := bnd h
  refine CgT x_48 [192] (fun g97 => ⟨g97, trivial⟩) (fun g97 => op_call0 (sensor_Consistent_spec (gc e98 g97)) goes17 rfl rfl) (Oc (op_pick_and (fun e => e) rfl rfl rfl rfl) (Oc om ?_))
  refine CgT (x_48 && x_49) [] (fun g99 => trivial) (fun g99 => om) (CgT (x_48 && x_49) [] (fun g100 => by exact trivial) (fun g100 => om) ?_)
  obtain ⟨x_50, e102, h⟩ := bnd h
  refine CgT (x_48 && x_49) [196, 197] (fun g101 => ⟨g101, g101, trivial⟩) (fun g101 => op_callB (sensor_Fits_spec (gc e102 g101)) goes18 rfl CP.flat_bool) (Oc (op_pick_and (fun e => e) rfl rfl rfl rfl) (Oc oa ?_))
  refine OpsL.nilS ⟨[(0, B ((x_48 && x_49) && x_50))], []⟩ rfl (Tri.ret ?_)
  obtain rfl := Option.some.inj h
  refine Fin.keepS ⟨[(0, _)], []⟩ rfl (Fin.result' [.one (.bool ((x_48 && x_49) && x_50))] (.inl rfl) rfl (.cons (.tmp rfl) .nil) ⟨rfl, rfl⟩)
def skewbackref39_Edges_S (F : Nat) (l0 : List Report) (now0 : Int) (axis0 : Int) : Option (List REdge) :=
 Option.bind (iter F (un2 fun out_2 i_3 => if (decide (i_3 < (l0.length : Int))) = true then (Option.bind ((idx? l0 i_3).bind fun x_6 => (gcall (decide (x_6.Time ≤ now0)) (idx? l0 i_3)).bind fun x_7 => if ((decide (x_6.Time ≤ now0)) && (decide (x_7.Axis = axis0))) = true then ((idx? l0 i_3).bind fun x_8 => (idx? l0 i_3).bind fun x_9 => (idx? l0 i_3).bind fun x_10 => (idx? l0 i_3).bind fun x_11 => (idx? l0 i_3).bind fun x_12 => (idx? l0 i_3).bind fun x_13 => (app? out_2 [(⟨x_8.A, x_9.B, x_10.Hi, i_3⟩ : REdge), (⟨x_11.B, x_12.A, IntKind.i64.wrap (-x_13.Lo), i_3⟩ : REdge)]).bind fun x_14 => some x_14) else (some out_2)) (fun out_5 => some (.inl (out_5, IntKind.i64.wrap (i_3 + 1))))) else (some (.inr out_2))) ([], 0)) (fun out_1 => some out_1)
theorem skewbackref39_Edges_spec (kr0 : Nat) {F : Nat} {l0 : List Report} {now0 : Int} {axis0 : Int} {r : (List REdge)} (h : skewbackref39_Edges_S F l0 now0 axis0 = some r) : Meets Try.prog [] 37 [] [.one (.sl 6 (l0.map eReport)), .one (.i now0), .one (.i axis0)] (Is [(kr0, .row 103 4 (r.map eREdge))] (.b (.row kr0))) := by
 unfold skewbackref39_Edges_S at h
 refine Meets.intro 70 Try.func37 Try.ntmps37 rfl (by simp) fun E => ?_
 show Tri _ E ⟨70, [], [], []⟩ _ ⟨[(0, .b (.one (.sl 6 (l0.map eReport)))), (1, I now0), (2, I axis0)], []⟩ _
 refine Tri.seq (Tri.regionL ?_)
 refine Oc oa (OpsL.nilS ⟨[(0, .b (.one (.sl 6 (l0.map eReport)))), (1, I now0), (2, I axis0)], []⟩ rfl (Tri.seq (Tri.regionL ?_)))
 refine Oc oa (OpsL.nilS ⟨[(0, _), (1, _), (2, _), (7, .b (.one (.nil)))], []⟩ rfl ?_)
 obtain ⟨v1, h2, h⟩ := bnd h
 refine Tri.seqJ (v := v1) (fun (out_1 : List REdge) => ⟨[(7, .b (.row 102))], [(102, .row 103 4 (out_1.map eREdge))]⟩) (fun z => z) ?_ ?_
 ·refine Tri.seq (Tri.regionL ?_)
  refine Oc oa (OpsL.nilS ⟨[(0, _), (1, _), (2, _), (7, _), (8, I 0)], []⟩ rfl (Tri.block (Tri.nilrow 7 102 4 103 rfl (by decide) rfl (Tri.loopJ h2 (un2 fun (out_2 : List REdge) (i_3 : Int) => ⟨[(0, .b (.one (.sl 6 (l0.map eReport)))), (1, I now0), (2, I axis0), (7, .b (.row 102)), (8, I i_3)], [(102, .row 103 4 (out_2.map eREdge))]⟩) [0, 1, 2, 7, 8] [102] rfl ?_))))
  rintro ⟨out_2, i_3⟩ o3 h4 hy5
  refine Tri.seq (Tri.seq (Tri.regionL ?_))
  refine Oc om (Oc om (Oc (op_len_e' und22 rfl (List.length_map _)) (Oc (op_lss rfl rfl) ?_)))
  refine OpsL.nilS ⟨[(0, _), (1, _), (2, _), (7, _), (8, _), (12, B (decide (i_3 < (l0.length : Int))))], [(102, _)]⟩ rfl (Tri.ite h4 rfl (fun _ h4 => ?_) (fun _ h4 => ?_))
  ·refine Tri.skip (Fin.keepS ⟨[(0, _), (1, _), (2, _), (7, _), (8, _)], [(102, _)]⟩ rfl (Fin.then ?_))
   obtain ⟨v6, h7, h4⟩ := bnd h4
   refine Tri.seqJ (v := v6) (fun (out_5 : List REdge) => ⟨[(0, .b (.one (.sl 6 (l0.map eReport)))), (1, I now0), (2, I axis0), (7, .b (.row 102)), (8, I i_3)], [(102, .row 103 4 (out_5.map eREdge))]⟩) (fun z => z) ?_ ?_
   ·refine Tri.block (Tri.seq (Tri.regionL ?_))
    refine Oc om (Oc om ?_)
    obtain ⟨x_6, e8, h7⟩ := bnd h7
    refine Oc (op_index_e tySl22 (ix_lo e8) (ix_map (e := eReport) e8) rfl rfl) (Oc (op_field_e tyFld24_5 rfl rfl) (Oc (op_load_e1 tyOne3 rfl rfl) (Oc om (Oc (op_leq rfl rfl) ?_))))
    refine OpsL.keepS ⟨[(0, _), (1, _), (2, _), (7, _), (8, _), (21, B (decide (x_6.Time ≤ now0)))], [(102, _)]⟩ rfl (Oc om (CgT (decide (x_6.Time ≤ now0)) [] (fun g9 => by exact trivial) (fun g9 => om) (CgT (decide (x_6.Time ≤ now0)) [] (fun g10 => by exact trivial) (fun g10 => om) ?_)))
    obtain ⟨x_7, e12, h7⟩ := bnd h7
    refine CgT (decide (x_6.Time ≤ now0)) [23, 24] (fun g11 => ⟨g11, g11, trivial⟩) (fun g11 => op_index_e tySl22 (ix_lo (gc e12 g11)) (ix_map (e := eReport) (gc e12 g11)) rfl rfl) (CgT (decide (x_6.Time ≤ now0)) [25] (fun g13 => ⟨g13, trivial⟩) (fun g13 => op_field_e tyFld24_2 rfl rfl) (CgT (decide (x_6.Time ≤ now0)) [26] (fun g14 => ⟨g14, trivial⟩) (fun g14 => op_load_e1 tyOne3 rfl rfl) (CgT (decide (x_6.Time ≤ now0)) [] (fun g15 => trivial) (fun g15 => om) (CgT (decide (x_6.Time ≤ now0)) [27, 28] (fun g16 => by exact ⟨g16, g16, trivial⟩) (fun g16 => op_eql rfl rfl) (Oc (op_pick_and (fun e => e) rfl rfl rfl rfl) ?_)))))
    refine OpsL.nilS ⟨[(0, _), (1, _), (2, _), (7, _), (8, _), (30, B ((decide (x_6.Time ≤ now0)) && (decide (x_7.Axis = axis0))))], [(102, _)]⟩ rfl (Tri.ite h7 rfl (fun _ h7 => ?_) (fun _ h7 => ?_))
    ·refine Tri.keepS ⟨[(0, _), (1, _), (2, _), (7, _), (8, _)], [(102, _)]⟩ rfl ?_
     obtain ⟨x_8, e17, h7⟩ := bnd h7
     obtain ⟨x_9, e18, h7⟩ := bnd h7
     obtain ⟨x_10, e19, h7⟩ := bnd h7
     obtain ⟨x_11, e20, h7⟩ := bnd h7
     obtain ⟨x_12, e21, h7⟩ := bnd h7
     obtain ⟨x_13, e22, h7⟩ := bnd h7
     obtain ⟨x_14, e23, h7⟩ := bnd h7
     refine Tri.regionYF mixed 37 [.b (.row 102), .b (.one (.sl 6 (l0.map eReport))), I i_3, .b (.eptr (eReport x_8)), .b (.eptr (eReport x_8)), I x_8.A, .b (.one (.sl 6 (l0.map eReport))), I i_3, .b (.eptr (eReport x_9)), .b (.eptr [.i x_9.B, .i x_9.Axis, .i x_9.Lo, .i x_9.Hi, .i x_9.Time]), I x_9.B, .b (.one (.sl 6 (l0.map eReport))), I i_3, .b (.eptr (eReport x_10)), .b (.eptr [.i x_10.Hi, .i x_10.Time]), I x_10.Hi, I i_3, .b (.agg [.i x_8.A, .i x_9.B, .i x_10.Hi, .i i_3]), .b (.one (.sl 6 (l0.map eReport))), I i_3, .b (.eptr (eReport x_11)), .b (.eptr [.i x_11.B, .i x_11.Axis, .i x_11.Lo, .i x_11.Hi, .i x_11.Time]), I x_11.B, .b (.one (.sl 6 (l0.map eReport))), I i_3, .b (.eptr (eReport x_12)), .b (.eptr (eReport x_12)), I x_12.A, .b (.one (.sl 6 (l0.map eReport))), I i_3, .b (.eptr (eReport x_13)), .b (.eptr [.i x_13.Lo, .i x_13.Hi, .i x_13.Time]), I x_13.Lo, I (IntKind.i64.wrap (-x_13.Lo)), I i_3, .b (.agg [.i x_11.B, .i x_12.A, .i (IntKind.i64.wrap (-x_13.Lo)), .i i_3]), .b (.one (.sl 4 ([(⟨x_8.A, x_9.B, x_10.Hi, i_3⟩ : REdge), (⟨x_11.B, x_12.A, IntKind.i64.wrap (-x_13.Lo), i_3⟩ : REdge)].map eREdge)))] [0, 1, 2, 7, 8] [102] (s' := ⟨[(0, _), (1, _), (2, _), (7, _), (8, _)], [(102, .row 103 4 (x_14.map eREdge))]⟩) rfl ⟨fun _ => .p om, fun _ => .p om, fun _ => .p om, fun _ => .p (op_index_e tySl22 (ix_lo e17) (ix_map (e := eReport) e17) rfl rfl), fun _ => by exact .p (op_field_e tyFld24_0 rfl rfl), fun _ => .p (op_load_e1 tyOne3 rfl rfl), fun _ => .p om, fun _ => .p om, fun _ => .p (op_index_e tySl22 (ix_lo e18) (ix_map (e := eReport) e18) rfl rfl), fun _ => by exact .p (op_field_e tyFld24_1 rfl rfl), fun _ => .p (op_load_e1 tyOne3 rfl rfl), fun _ => .p om, fun _ => .p om, fun _ => .p (op_index_e tySl22 (ix_lo e19) (ix_map (e := eReport) e19) rfl rfl), fun _ => by exact .p (op_field_e tyFld24_4 rfl rfl), fun _ => .p (op_load_e1 tyOne3 rfl rfl), fun _ => .p om, fun _ => .p (op_build tyBuild103 rfl rfl), fun _ => .p om, fun _ => .p om, fun _ => .p (op_index_e tySl22 (ix_lo e20) (ix_map (e := eReport) e20) rfl rfl), fun _ => by exact .p (op_field_e tyFld24_1 rfl rfl), fun _ => .p (op_load_e1 tyOne3 rfl rfl), fun _ => .p om, fun _ => .p om, fun _ => .p (op_index_e tySl22 (ix_lo e21) (ix_map (e := eReport) e21) rfl rfl), fun _ => by exact .p (op_field_e tyFld24_0 rfl rfl), fun _ => .p (op_load_e1 tyOne3 rfl rfl), fun _ => .p om, fun _ => .p om, fun _ => .p (op_index_e tySl22 (ix_lo e22) (ix_map (e := eReport) e22) rfl rfl), fun _ => by exact .p (op_field_e tyFld24_3 rfl rfl), fun _ => .p (op_load_e1 tyOne3 rfl rfl), fun _ => .p (op_neg rfl), fun _ => .p om, fun _ => .p (op_build tyBuild103 rfl rfl), fun _ => .p (op_buildSliceP (es := [(⟨x_8.A, x_9.B, x_10.Hi, i_3⟩ : REdge), (⟨x_11.B, x_12.A, IntKind.i64.wrap (-x_13.Lo), i_3⟩ : REdge)].map eREdge) tySl76 rfl rfl (uni_map fun _ => rfl) rfl (by decide) (by decide)), trivial⟩ ⟨_, by exact .p (op_append tySl76 (app_b e23) (app_m e23) rfl rfl rfl (app_map e23) rfl), ⟨_, by exact .p oa, rfl⟩⟩ rfl ?_
     refine Fin.block_normal ?_
     exact Fin.join [0, 1, 2, 7, 8] [102] x_14 (Option.some.inj h7) rfl
    ·refine Tri.skip (Fin.block_normal ?_)
     exact Fin.join [0, 1, 2, 7, 8] [102] out_2 (Option.some.inj h7) rfl
   ·rintro out_5 hv
    subst v6
    refine Tri.regionL (Oc om (Oc (op_add rfl rfl) (Oc oa ?_)))
    refine OpsL.nil ?_
    exact Fin.againJ [0, 1, 2, 7, 8] [102] (out_5, IntKind.i64.wrap (i_3 + 1)) (Option.some.inj h4) rfl
  ·refine Tri.exit (Fin.then_exit ?_)
   obtain rfl := hy5 _ (Option.some.inj h4).symm
   refine Fin.then_exit (Fin.block_exit ?_)
   exact Fin.join [7] [102] out_2 rfl rfl
 ·rintro out_1 hv
  subst v1
  refine Tri.seq (Tri.regionL ?_)
  refine Oc om (Oc oa ?_)
  refine OpsL.nilS ⟨[(6, .b (.row 102))], [(102, _)]⟩ rfl (Tri.ret ?_)
  obtain rfl := Option.some.inj h
  refine Fin.keepS ⟨[(6, _)], [(102, _)]⟩ rfl (Fin.resultK 102 kr0 [.row 102] (.inl rfl) rfl (.cons (.tmp rfl) .nil) rfl rfl rfl rfl ⟨rfl, rfl⟩)
def skewbackref39_none_S (F : Nat) : Option Int :=
 some 1152921504606846976
theorem skewbackref39_none_spec {F : Nat} {r : Int} (h : skewbackref39_none_S F = some r) : Meets Try.prog [] 40 [] [] (Is [] (.b (.one (.i r)))) := by
 unfold skewbackref39_none_S at h
 refine Meets.intro 1 Try.func40 Try.ntmps40 rfl (by simp) fun E => ?_
 show Tri _ E ⟨1, [], [], []⟩ _ ⟨[], []⟩ _
 refine Tri.seq (Tri.regionL ?_)
 refine Oc oa (OpsL.nilS ⟨[], []⟩ rfl (Tri.seq (Tri.regionL ?_)))
 refine Oc oa (OpsL.nilS ⟨[(0, I 1152921504606846976)], []⟩ rfl (Tri.ret ?_))
 obtain rfl := Option.some.inj h
 refine Fin.keepS ⟨[(0, _)], []⟩ rfl (Fin.result' [.one (.i 1152921504606846976)] (.inl rfl) rfl (.cons (.tmp rfl) .nil) ⟨rfl, rfl⟩)
def skewbackref39_least_S (F : Nat) (n0 : Int) (l0 : List REdge) (start0 : Int) : Option ((List Int) × Bool) :=
 Option.bind (mk? (0 : Int) (IntKind.i64.wrap (n0 + 1)) (IntKind.i64.wrap (n0 + 1))) (fun x_1 => Option.bind (iter F (un2 fun d_3 k_4 => if (decide (k_4 ≤ n0)) = true then (Option.bind (if ((decide (0 ≤ start0)) && (decide (k_4 ≠ start0))) = true then ((skewbackref39_none_S F).bind fun x_7 => (idx? d_3 k_4).bind fun x_8 => some (d_3.set (k_4 : Int).toNat x_7)) else (some d_3)) (fun d_6 => some (.inl (d_6, IntKind.i64.wrap (k_4 + 1))))) else (some (.inr d_3))) (x_1, 0)) (fun d_2 => Option.bind (iter F (un2 fun d_10 round_11 => if (decide (round_11 ≤ (IntKind.i64.wrap (n0 + 1)))) = true then (Option.bind (Option.bind (iter F (un3 fun d_16 changed_17 i_18 => if (decide (i_18 < (l0.length : Int))) = true then (Option.bind ((idx? l0 i_18).bind fun x_23 => (idx? d_16 x_23.From).bind fun x_24 => (skewbackref39_none_S F).bind fun x_25 => (gcall (decide (x_24 < x_25)) (idx? l0 i_18)).bind fun x_26 => (gcall (decide (x_24 < x_25)) (idx? d_16 x_26.From)).bind fun x_27 => (gcall (decide (x_24 < x_25)) (idx? l0 i_18)).bind fun x_28 => (gcall (decide (x_24 < x_25)) (idx? l0 i_18)).bind fun x_29 => (gcall (decide (x_24 < x_25)) (idx? d_16 x_29.To)).bind fun x_30 => if ((decide (x_24 < x_25)) && (decide ((IntKind.i64.wrap (x_27 + x_28.Weight)) < x_30))) = true then ((idx? l0 i_18).bind fun x_31 => (idx? l0 i_18).bind fun x_32 => (idx? d_16 x_32.From).bind fun x_33 => (idx? l0 i_18).bind fun x_34 => (idx? d_16 x_31.To).bind fun x_35 => some (d_16.set (x_31.To : Int).toNat (IntKind.i64.wrap (x_33 + x_34.Weight)), true)) else (some (d_16, changed_17))) (un2 fun d_21 changed_22 => some (.inl (d_21, changed_22, IntKind.i64.wrap (i_18 + 1))))) else (some (.inr (d_16, changed_17)))) (d_10, false, 0)) (un2 fun d_14 changed_15 => if (!changed_15) = true then (some (.inr (d_14, true))) else (some (.inl d_14)))) (alt2 (fun d_13 => some (.inl (d_13, IntKind.i64.wrap (round_11 + 1)))) (fun y => some (.inr (.inr y))))) else (some (.inr (.inl d_10)))) (d_2, 0)) (alt2 (fun d_9 => some (d_9, false)) (fun y => some y))))
theorem skewbackref39_least_spec (kr0 : Nat) {F : Nat} {n0 : Int} {l0 : List REdge} {start0 : Int} {r : (List Int) × Bool} (h : skewbackref39_least_S F n0 l0 start0 = some r) : Meets Try.prog [] 38 [] [.one (.i n0), .one (.sl 4 (l0.map eREdge)), .one (.i start0)] (Is [(kr0, .row 3 1 (r.1.map eI))] (.tup [.row kr0, .one (.bool r.2)])) := by
 unfold skewbackref39_least_S at h
 refine Meets.intro 104 Try.func38 Try.ntmps38 rfl (by simp) fun E => ?_
 show Tri _ E ⟨104, [], [], []⟩ _ ⟨[(0, I n0), (1, .b (.one (.sl 4 (l0.map eREdge)))), (2, I start0)], []⟩ _
 refine Tri.seq (Tri.regionL ?_)
 refine Oc oa (Oc oa ?_)
 refine OpsL.nilS ⟨[(0, I n0), (1, .b (.one (.sl 4 (l0.map eREdge)))), (2, I start0)], []⟩ rfl (Tri.seq (Tri.regionL ?_))
 refine Oc om (Oc (op_add rfl rfl) ?_)
 obtain ⟨x_1, e1, h⟩ := bnd h
 refine Oc (op_makeSlice (k := 101) (enc := eI) tySl37 e1 (by decide) (.cons .refl .nil) rfl rfl rfl) (Oc oa ?_)
 refine OpsL.nilS ⟨[(0, _), (1, _), (2, _), (8, .b (.row 101))], [(101, .row 3 1 (x_1.map eI))]⟩ rfl ?_
 obtain ⟨v2, h3, h⟩ := bnd h
 refine Tri.seqJ (v := v2) (fun (d_2 : List Int) => ⟨[(0, I n0), (1, .b (.one (.sl 4 (l0.map eREdge)))), (8, .b (.row 101))], [(101, .row 3 1 (d_2.map eI))]⟩) (fun z => z) ?_ ?_
 ·refine Tri.seq (Tri.regionL ?_)
  refine Oc oa (OpsL.nilS ⟨[(0, _), (1, _), (2, _), (8, _), (9, I 0)], [(101, _)]⟩ rfl (Tri.block (Tri.loopJ h3 (un2 fun (d_3 : List Int) (k_4 : Int) => ⟨[(0, I n0), (1, .b (.one (.sl 4 (l0.map eREdge)))), (2, I start0), (8, .b (.row 101)), (9, I k_4)], [(101, .row 3 1 (d_3.map eI))]⟩) [0, 1, 2, 8, 9] [101] rfl ?_)))
  rintro ⟨d_3, k_4⟩ o4 h5 hy6
  refine Tri.seq (Tri.seq (Tri.regionL ?_))
  refine Oc om (Oc om (Oc (op_leq rfl rfl) ?_))
  refine OpsL.nilS ⟨[(0, _), (1, _), (2, _), (8, _), (9, _), (18, B (decide (k_4 ≤ n0)))], [(101, _)]⟩ rfl (Tri.ite h5 rfl (fun _ h5 => ?_) (fun _ h5 => ?_))
  ·refine Tri.skip (Fin.keepS ⟨[(0, _), (1, _), (2, _), (8, _), (9, _)], [(101, _)]⟩ rfl (Fin.then ?_))
   obtain ⟨v7, h8, h5⟩ := bnd h5
   refine Tri.seqJ (v := v7) (fun (d_6 : List Int) => ⟨[(0, I n0), (1, .b (.one (.sl 4 (l0.map eREdge)))), (2, I start0), (8, .b (.row 101)), (9, I k_4)], [(101, .row 3 1 (d_6.map eI))]⟩) (fun z => z) ?_ ?_
   ·refine Tri.block (Tri.seq (Tri.regionL ?_))
    refine Oc om (Oc (op_geq rfl rfl) (Oc om ?_))
    refine CgT (decide (0 ≤ start0)) [] (fun g9 => trivial) (fun g9 => om) (CgT (decide (0 ≤ start0)) [] (fun g10 => by exact trivial) (fun g10 => om) (CgT (decide (0 ≤ start0)) [24, 25] (fun g11 => by exact ⟨g11, g11, trivial⟩) (fun g11 => op_neq rfl rfl) (Oc (op_pick_and (fun e => e) rfl rfl rfl rfl) (OpsL.nilS ⟨[(0, _), (1, _), (2, _), (8, _), (9, _), (27, B ((decide (0 ≤ start0)) && (decide (k_4 ≠ start0))))], [(101, _)]⟩ rfl (Tri.ite h8 rfl (fun _ h8 => ?_) (fun _ h8 => ?_))))))
    ·refine Tri.regionL (Oc om (Oc om ?_))
     obtain ⟨x_7, e12, h8⟩ := bnd h8
     refine Oc (op_call0 (skewbackref39_none_spec e12) goes40 rfl rfl) ?_
     obtain ⟨x_8, e13, h8⟩ := bnd h8
     refine Oc (op_index_r tySl37 (ix_lo e13) (ix_lt' e13) rfl rfl rfl rfl) (Oc (op_store_r1 (i := (k_4 : Int).toNat) tyOne3 rfl rfl rfl rfl (ix_lt e13) (map_set _ _ _ _)) ?_)
     refine OpsL.nil (Fin.block_normal ?_)
     exact Fin.join [0, 1, 2, 8, 9] [101] (d_3.set (k_4 : Int).toNat x_7) (Option.some.inj h8) rfl
    ·refine Tri.skip (Fin.block_normal ?_)
     exact Fin.join [0, 1, 2, 8, 9] [101] d_3 (Option.some.inj h8) rfl
   ·rintro d_6 hv
    subst v7
    refine Tri.regionL (Oc om (Oc (op_add rfl rfl) (Oc oa ?_)))
    refine OpsL.nil ?_
    exact Fin.againJ [0, 1, 2, 8, 9] [101] (d_6, IntKind.i64.wrap (k_4 + 1)) (Option.some.inj h5) rfl
  ·refine Tri.exit (Fin.then_exit ?_)
   obtain rfl := hy6 _ (Option.some.inj h5).symm
   refine Fin.then_exit (Fin.block_exit ?_)
   exact Fin.join [0, 1, 8] [101] d_3 rfl rfl
 ·rintro d_2 hv
  subst v2
  obtain ⟨v14, h15, h⟩ := bnd h
  refine Tri.seqJ (v := v14) (fun (d_9 : List Int) => ⟨[(8, .b (.row 101))], [(101, .row 3 1 (d_9.map eI))]⟩) (fun z => .inl z) ?_ ?_
  ·refine Tri.seq (Tri.regionL ?_)
   refine Oc oa (OpsL.nilS ⟨[(0, _), (1, _), (8, _), (10, I 0)], [(101, _)]⟩ rfl (Tri.block (Tri.loopJ h15 (un2 fun (d_10 : List Int) (round_11 : Int) => ⟨[(0, I n0), (1, .b (.one (.sl 4 (l0.map eREdge)))), (8, .b (.row 101)), (10, I round_11)], [(101, .row 3 1 (d_10.map eI))]⟩) [0, 1, 8, 10] [101] rfl ?_)))
   rintro ⟨d_10, round_11⟩ o16 h17 hy18
   refine Tri.seq (Tri.seq (Tri.regionL ?_))
   refine Oc om (Oc om (Oc (op_add rfl rfl) (Oc (op_leq rfl rfl) ?_)))
   refine OpsL.nilS ⟨[(0, _), (1, _), (8, _), (10, _), (35, B (decide (round_11 ≤ (IntKind.i64.wrap (n0 + 1)))))], [(101, _)]⟩ rfl (Tri.ite h17 rfl (fun _ h17 => ?_) (fun _ h17 => ?_))
   ·refine Tri.skip (Fin.keepS ⟨[(0, _), (1, _), (8, _), (10, _)], [(101, _)]⟩ rfl (Fin.then ?_))
    obtain ⟨v19, h20, h17⟩ := bnd h17
    refine Tri.seqJ (v := v19) (fun (d_13 : List Int) => ⟨[(0, I n0), (1, .b (.one (.sl 4 (l0.map eREdge)))), (8, .b (.row 101)), (10, I round_11)], [(101, .row 3 1 (d_13.map eI))]⟩) (fun z => .inl z) ?_ ?_
    ·refine Tri.block (Tri.seq (Tri.regionL ?_))
     refine Oc oa (OpsL.nilS ⟨[(0, _), (1, _), (8, _), (10, _), (11, B false)], [(101, _)]⟩ rfl ?_)
     obtain ⟨v21, h22, h20⟩ := bnd h20
     refine Tri.seqJ (v := v21) (un2 fun (d_14 : List Int) (changed_15 : Bool) => ⟨[(0, I n0), (1, .b (.one (.sl 4 (l0.map eREdge)))), (8, .b (.row 101)), (10, I round_11), (11, B changed_15)], [(101, .row 3 1 (d_14.map eI))]⟩) (fun z => z) ?_ ?_
     ·refine Tri.seq (Tri.regionL ?_)
      refine Oc oa (OpsL.nilS ⟨[(0, _), (1, _), (8, _), (10, _), (11, _), (12, I 0)], [(101, _)]⟩ rfl (Tri.block (Tri.loopJ h22 (un3 fun (d_16 : List Int) (changed_17 : Bool) (i_18 : Int) => ⟨[(0, I n0), (1, .b (.one (.sl 4 (l0.map eREdge)))), (8, .b (.row 101)), (10, I round_11), (11, B changed_17), (12, I i_18)], [(101, .row 3 1 (d_16.map eI))]⟩) [0, 1, 8, 10, 11, 12] [101] rfl ?_)))
      rintro ⟨d_16, changed_17, i_18⟩ o23 h24 hy25
      refine Tri.seq (Tri.seq (Tri.regionL ?_))
      refine Oc om (Oc om (Oc (op_len_e' und76 rfl (List.length_map _)) (Oc (op_lss rfl rfl) ?_)))
      refine OpsL.nilS ⟨[(0, _), (1, _), (8, _), (10, _), (11, _), (12, _), (41, B (decide (i_18 < (l0.length : Int))))], [(101, _)]⟩ rfl (Tri.ite h24 rfl (fun _ h24 => ?_) (fun _ h24 => ?_))
      ·refine Tri.skip (Fin.keepS ⟨[(0, _), (1, _), (8, _), (10, _), (11, _), (12, _)], [(101, _)]⟩ rfl (Fin.then ?_))
       obtain ⟨v26, h27, h24⟩ := bnd h24
       refine Tri.seqJ (v := v26) (un2 fun (d_21 : List Int) (changed_22 : Bool) => ⟨[(0, I n0), (1, .b (.one (.sl 4 (l0.map eREdge)))), (8, .b (.row 101)), (10, I round_11), (11, B changed_22), (12, I i_18)], [(101, .row 3 1 (d_21.map eI))]⟩) (fun z => z) ?_ ?_
       ·refine Tri.block (Tri.seq ?_)
        refine Tri.keepS ⟨[(0, _), (1, _), (8, _), (10, _), (11, _), (12, _)], [(101, _)]⟩ rfl ?_
        obtain ⟨x_23, e28, h27⟩ := bnd h27
        obtain ⟨x_24, e29, h27⟩ := bnd h27
        obtain ⟨x_25, e30, h27⟩ := bnd h27
        obtain ⟨x_26, e35, h27⟩ := bnd h27
        obtain ⟨x_27, e39, h27⟩ := bnd h27
        obtain ⟨x_28, e44, h27⟩ := bnd h27
        obtain ⟨x_29, e52, h27⟩ := bnd h27
        obtain ⟨x_30, e56, h27⟩ := bnd h27
        refine Tri.regionY mixed 35 [.b (.row 101), .b (.one (.sl 4 (l0.map eREdge))), I i_18, .b (.eptr (eREdge x_23)), .b (.eptr (eREdge x_23)), I x_23.From, .b (.rptr 101 ((x_23.From : Int).toNat * 1)), I x_24, I x_25, B (decide (x_24 < x_25)), B (decide (x_24 < x_25)), .opt (decide (x_24 < x_25)) (.row 101), .opt (decide (x_24 < x_25)) (.one (.sl 4 (l0.map eREdge))), .opt (decide (x_24 < x_25)) (.one (.i i_18)), .opt (decide (x_24 < x_25)) (.eptr (eREdge x_26)), .opt (decide (x_24 < x_25)) (.eptr (eREdge x_26)), .opt (decide (x_24 < x_25)) (.one (.i x_26.From)), .opt (decide (x_24 < x_25)) (.rptr 101 ((x_26.From : Int).toNat * 1)), .opt (decide (x_24 < x_25)) (.one (.i x_27)), .opt (decide (x_24 < x_25)) (.one (.sl 4 (l0.map eREdge))), .opt (decide (x_24 < x_25)) (.one (.i i_18)), .opt (decide (x_24 < x_25)) (.eptr (eREdge x_28)), .opt (decide (x_24 < x_25)) (.eptr [.i x_28.Weight, .i x_28.Report]), .opt (decide (x_24 < x_25)) (.one (.i x_28.Weight)), .opt (decide (x_24 < x_25)) (.one (.i (IntKind.i64.wrap (x_27 + x_28.Weight)))), .opt (decide (x_24 < x_25)) (.row 101), .opt (decide (x_24 < x_25)) (.one (.sl 4 (l0.map eREdge))), .opt (decide (x_24 < x_25)) (.one (.i i_18)), .opt (decide (x_24 < x_25)) (.eptr (eREdge x_29)), .opt (decide (x_24 < x_25)) (.eptr [.i x_29.To, .i x_29.Weight, .i x_29.Report]), .opt (decide (x_24 < x_25)) (.one (.i x_29.To)), .opt (decide (x_24 < x_25)) (.rptr 101 ((x_29.To : Int).toNat * 1)), .opt (decide (x_24 < x_25)) (.one (.i x_30)), .opt (decide (x_24 < x_25)) (.one (.bool (decide ((IntKind.i64.wrap (x_27 + x_28.Weight)) < x_30)))), B ((decide (x_24 < x_25)) && (decide ((IntKind.i64.wrap (x_27 + x_28.Weight)) < x_30)))] [0, 1, 8, 10, 11, 12, 78] [101] (s' := ⟨[(0, _), (1, _), (8, _), (10, _), (11, _), (12, _), (78, B ((decide (x_24 < x_25)) && (decide ((IntKind.i64.wrap (x_27 + x_28.Weight)) < x_30))))], [(101, _)]⟩) rfl ⟨fun _ => .p om, fun _ => .p om, fun _ => .p om, fun _ => .p (op_index_e tySl76 (ix_lo e28) (ix_map (e := eREdge) e28) rfl rfl), fun _ => by exact .p (op_field_e tyFld103_0 rfl rfl), fun _ => .p (op_load_e1 tyOne3 rfl rfl), fun _ => .p (op_index_r tySl37 (ix_lo e29) (ix_lt' e29) rfl rfl rfl rfl), fun _ => .p (op_load_r1 (i := (x_23.From : Int).toNat) (f := 0) tyOne3 rfl rfl rfl (ix_map (e := eI) e29) rfl), fun _ => .p (op_call0 (skewbackref39_none_spec e30) goes40 rfl rfl), fun _ => .p (op_lss rfl rfl), fun _ => .p om, fun _ => by exact .guard (decide (x_24 < x_25)) 1 [] (.plain rfl) (eq_t _) rfl rfl (fun g31 => trivial) (fun g31 => om), fun _ => by exact .guard (decide (x_24 < x_25)) 1 [] (.plain rfl) (eq_t _) rfl rfl (fun g32 => trivial) (fun g32 => om), fun _ => by exact .guard (decide (x_24 < x_25)) 1 [] (.plain rfl) (eq_t _) rfl rfl (fun g33 => trivial) (fun g33 => om), fun _ => by exact .guard (decide (x_24 < x_25)) 3 [56, 57] (.plain rfl) (eq_t _) rfl rfl (fun g34 => ⟨g34, g34, trivial⟩) (fun g34 => op_index_e tySl76 (ix_lo (gc e35 g34)) (ix_map (e := eREdge) (gc e35 g34)) rfl rfl), fun _ => by exact .guard (decide (x_24 < x_25)) 2 [58] (.plain rfl) (eq_t _) rfl rfl (fun g36 => ⟨g36, trivial⟩) (fun g36 => op_field_e tyFld103_0 rfl rfl), fun _ => by exact .guard (decide (x_24 < x_25)) 2 [59] (.plain rfl) (eq_t _) rfl rfl (fun g37 => ⟨g37, trivial⟩) (fun g37 => op_load_e1 tyOne3 rfl rfl), fun _ => by exact .guard (decide (x_24 < x_25)) 3 [55, 60] (.plain rfl) (eq_t _) rfl rfl (fun g38 => ⟨g38, g38, trivial⟩) (fun g38 => op_index_r tySl37 (ix_lo (gc e39 g38)) (ix_lt' (gc e39 g38)) rfl rfl rfl rfl), fun _ => by exact .guard (decide (x_24 < x_25)) 2 [61] (.plain rfl) (eq_t _) rfl rfl (fun g40 => ⟨g40, trivial⟩) (fun g40 => op_load_r1 (i := (x_26.From : Int).toNat) (f := 0) tyOne3 rfl rfl rfl (ix_map (e := eI) (gc e39 g40)) rfl), fun _ => by exact .guard (decide (x_24 < x_25)) 1 [] (.plain rfl) (eq_t _) rfl rfl (fun g41 => trivial) (fun g41 => om), fun _ => by exact .guard (decide (x_24 < x_25)) 1 [] (.plain rfl) (eq_t _) rfl rfl (fun g42 => trivial) (fun g42 => om), fun _ => by exact .guard (decide (x_24 < x_25)) 3 [63, 64] (.plain rfl) (eq_t _) rfl rfl (fun g43 => ⟨g43, g43, trivial⟩) (fun g43 => op_index_e tySl76 (ix_lo (gc e44 g43)) (ix_map (e := eREdge) (gc e44 g43)) rfl rfl), fun _ => by exact .guard (decide (x_24 < x_25)) 2 [65] (.plain rfl) (eq_t _) rfl rfl (fun g45 => ⟨g45, trivial⟩) (fun g45 => op_field_e tyFld103_2 rfl rfl), fun _ => by exact .guard (decide (x_24 < x_25)) 2 [66] (.plain rfl) (eq_t _) rfl rfl (fun g46 => ⟨g46, trivial⟩) (fun g46 => op_load_e1 tyOne3 rfl rfl), fun _ => by exact .guard (decide (x_24 < x_25)) 3 [62, 67] (.plain rfl) (eq_t _) rfl rfl (fun g47 => ⟨g47, g47, trivial⟩) (fun g47 => op_add rfl rfl), fun _ => by exact .guard (decide (x_24 < x_25)) 1 [] (.plain rfl) (eq_t _) rfl rfl (fun g48 => trivial) (fun g48 => om), fun _ => by exact .guard (decide (x_24 < x_25)) 1 [] (.plain rfl) (eq_t _) rfl rfl (fun g49 => trivial) (fun g49 => om), fun _ => by exact .guard (decide (x_24 < x_25)) 1 [] (.plain rfl) (eq_t _) rfl rfl (fun g50 => trivial) (fun g50 => om), fun _ => by exact .guard (decide (x_24 < x_25)) 3 [70, 71] (.plain rfl) (eq_t _) rfl rfl (fun g51 => ⟨g51, g51, trivial⟩) (fun g51 => op_index_e tySl76 (ix_lo (gc e52 g51)) (ix_map (e := eREdge) (gc e52 g51)) rfl rfl), fun _ => by exact .guard (decide (x_24 < x_25)) 2 [72] (.plain rfl) (eq_t _) rfl rfl (fun g53 => ⟨g53, trivial⟩) (fun g53 => op_field_e tyFld103_1 rfl rfl), fun _ => by exact .guard (decide (x_24 < x_25)) 2 [73] (.plain rfl) (eq_t _) rfl rfl (fun g54 => ⟨g54, trivial⟩) (fun g54 => op_load_e1 tyOne3 rfl rfl), fun _ => by exact .guard (decide (x_24 < x_25)) 3 [69, 74] (.plain rfl) (eq_t _) rfl rfl (fun g55 => ⟨g55, g55, trivial⟩) (fun g55 => op_index_r tySl37 (ix_lo (gc e56 g55)) (ix_lt' (gc e56 g55)) rfl rfl rfl rfl), fun _ => by exact .guard (decide (x_24 < x_25)) 2 [75] (.plain rfl) (eq_t _) rfl rfl (fun g57 => ⟨g57, trivial⟩) (fun g57 => op_load_r1 (i := (x_29.To : Int).toNat) (f := 0) tyOne3 rfl rfl rfl (ix_map (e := eI) (gc e56 g57)) rfl), fun _ => by exact .guard (decide (x_24 < x_25)) 3 [68, 76] (.plain rfl) (eq_t _) rfl rfl (fun g58 => ⟨g58, g58, trivial⟩) (fun g58 => op_lss rfl rfl), fun _ => .p (op_pick_and (fun e => e) rfl rfl rfl rfl), trivial⟩ rfl rfl ?_
        refine Tri.ite h27 rfl (fun _ h27 => ?_) (fun _ h27 => ?_)
        ·refine Tri.seq (Tri.keepS ⟨[(0, _), (1, _), (8, _), (10, _), (12, _)], [(101, _)]⟩ rfl ?_)
         obtain ⟨x_31, e59, h27⟩ := bnd h27
         obtain ⟨x_32, e60, h27⟩ := bnd h27
         obtain ⟨x_33, e61, h27⟩ := bnd h27
         obtain ⟨x_34, e62, h27⟩ := bnd h27
         obtain ⟨x_35, e63, h27⟩ := bnd h27
         refine Tri.regionY mixed 21 [.b (.row 101), .b (.one (.sl 4 (l0.map eREdge))), I i_18, .b (.eptr (eREdge x_31)), .b (.eptr [.i x_31.To, .i x_31.Weight, .i x_31.Report]), I x_31.To, .b (.row 101), .b (.one (.sl 4 (l0.map eREdge))), I i_18, .b (.eptr (eREdge x_32)), .b (.eptr (eREdge x_32)), I x_32.From, .b (.rptr 101 ((x_32.From : Int).toNat * 1)), I x_33, .b (.one (.sl 4 (l0.map eREdge))), I i_18, .b (.eptr (eREdge x_34)), .b (.eptr [.i x_34.Weight, .i x_34.Report]), I x_34.Weight, I (IntKind.i64.wrap (x_33 + x_34.Weight)), .b (.rptr 101 ((x_31.To : Int).toNat * 1))] [0, 1, 8, 10, 12] [101] (s' := ⟨[(0, _), (1, _), (8, _), (10, _), (12, _)], [(101, .row 3 1 ((d_16.set (x_31.To : Int).toNat (IntKind.i64.wrap (x_33 + x_34.Weight))).map eI))]⟩) rfl ⟨fun _ => .p om, fun _ => .p om, fun _ => .p om, fun _ => .p (op_index_e tySl76 (ix_lo e59) (ix_map (e := eREdge) e59) rfl rfl), fun _ => by exact .p (op_field_e tyFld103_1 rfl rfl), fun _ => .p (op_load_e1 tyOne3 rfl rfl), fun _ => .p om, fun _ => .p om, fun _ => .p om, fun _ => .p (op_index_e tySl76 (ix_lo e60) (ix_map (e := eREdge) e60) rfl rfl), fun _ => by exact .p (op_field_e tyFld103_0 rfl rfl), fun _ => .p (op_load_e1 tyOne3 rfl rfl), fun _ => .p (op_index_r tySl37 (ix_lo e61) (ix_lt' e61) rfl rfl rfl rfl), fun _ => .p (op_load_r1 (i := (x_32.From : Int).toNat) (f := 0) tyOne3 rfl rfl rfl (ix_map (e := eI) e61) rfl), fun _ => .p om, fun _ => .p om, fun _ => .p (op_index_e tySl76 (ix_lo e62) (ix_map (e := eREdge) e62) rfl rfl), fun _ => by exact .p (op_field_e tyFld103_2 rfl rfl), fun _ => .p (op_load_e1 tyOne3 rfl rfl), fun _ => .p (op_add rfl rfl), fun _ => .p (op_index_r tySl37 (ix_lo e63) (ix_lt' e63) rfl rfl rfl rfl), trivial⟩ ⟨_, by exact .p (op_store_r1 (i := (x_31.To : Int).toNat) tyOne3 rfl rfl rfl rfl (ix_lt e63) (map_set _ _ _ _)), rfl⟩ rfl (Tri.regionL (Oc oa (OpsL.nil (Fin.block_normal ?_))))
         exact Fin.join [0, 1, 8, 10, 11, 12] [101] (d_16.set (x_31.To : Int).toNat (IntKind.i64.wrap (x_33 + x_34.Weight)), true) (Option.some.inj h27) rfl
        ·refine Tri.skip (Fin.block_normal ?_)
         exact Fin.join [0, 1, 8, 10, 11, 12] [101] (d_16, changed_17) (Option.some.inj h27) rfl
       ·rintro ⟨d_21, changed_22⟩ hv
        subst v26
        refine Tri.regionL (Oc om (Oc (op_add rfl rfl) (Oc oa ?_)))
        refine OpsL.nil ?_
        exact Fin.againJ [0, 1, 8, 10, 11, 12] [101] (d_21, changed_22, IntKind.i64.wrap (i_18 + 1)) (Option.some.inj h24) rfl
      ·refine Tri.exit (Fin.then_exit ?_)
       obtain rfl := hy25 _ (Option.some.inj h24).symm
       refine Fin.then_exit (Fin.block_exit ?_)
       exact Fin.join [0, 1, 8, 10, 11] [101] (d_16, changed_17) rfl rfl
     ·rintro ⟨d_14, changed_15⟩ hv
      subst v21
      refine Tri.seq (Tri.regionL ?_)
      refine Oc om (Oc (op_not rfl) ?_)
      refine OpsL.nilS ⟨[(0, _), (1, _), (8, _), (10, _), (101, B (!changed_15))], [(101, _)]⟩ rfl (Tri.ite h20 rfl (fun _ h20 => ?_) (fun _ h20 => ?_))
      ·refine Tri.seq (Tri.regionL ?_)
       refine Oc om (Oc oa (Oc oa ?_))
       refine OpsL.nilS ⟨[(6, .b (.row 101)), (7, B true)], [(101, _)]⟩ rfl (Tri.ret (Fin.block_ret ?_))
       obtain rfl := Option.some.inj h20
       refine Fin.then_ret ?_
       obtain rfl := hy18 _ (Option.some.inj h17).symm
       refine Fin.then_ret (Fin.block_ret (Fin.then_ret ?_))
       obtain rfl := Option.some.inj h
       refine Fin.keepS ⟨[(6, _), (7, _)], [(101, _)]⟩ rfl (Fin.resultK 101 kr0 [.row 101, .one (.bool true)] (.inl rfl) rfl (.cons (.tmp rfl) (.cons (.tmp rfl) .nil)) rfl rfl rfl rfl ⟨rfl, rfl⟩)
      ·refine Tri.skip (Fin.block_normal ?_)
       exact Fin.join [0, 1, 8, 10] [101] d_14 (Option.some.inj h20) rfl
    ·rintro d_13 hv
     subst v19
     refine Tri.regionL (Oc om (Oc (op_add rfl rfl) (Oc oa ?_)))
     refine OpsL.nil ?_
     exact Fin.againJ [0, 1, 8, 10] [101] (d_13, IntKind.i64.wrap (round_11 + 1)) (Option.some.inj h17) rfl
   ·refine Tri.exit (Fin.then_exit ?_)
    obtain rfl := hy18 _ (Option.some.inj h17).symm
    refine Fin.then_exit (Fin.block_exit ?_)
    exact Fin.join [8] [101] d_10 rfl rfl
  ·rintro d_9 hv
   subst v14
   refine Tri.seq (Tri.regionL ?_)
   refine Oc om (Oc oa (Oc oa ?_))
   refine OpsL.nilS ⟨[(6, .b (.row 101)), (7, B false)], [(101, _)]⟩ rfl (Tri.ret ?_)
   obtain rfl := Option.some.inj h
   refine Fin.keepS ⟨[(6, _), (7, _)], [(101, _)]⟩ rfl (Fin.resultK 101 kr0 [.row 101, .one (.bool false)] (.inl rfl) rfl (.cons (.tmp rfl) (.cons (.tmp rfl) .nil)) rfl rfl rfl rfl ⟨rfl, rfl⟩)
def skewbackref39_Consistent_S (F : Nat) (l0 : List Report) (now0 : Int) : Option Bool :=
 Option.bind (iter F (fun axis_1 => if (decide (axis_1 < 3)) = true then ((skewbackref39_Things_S F l0).bind fun x_2 => (skewbackref39_Edges_S F l0 now0 axis_1).bind fun x_3 => Option.bind (skewbackref39_least_S F x_2 x_3 (-1)) (un2 fun x_4 x_5 => if (!x_5) = true then (some (.inr (.inr false))) else (some (.inl (IntKind.i64.wrap (axis_1 + 1)))))) else (some (.inr (.inl ())))) 0) (alt2 (fun _ => some true) (fun y => some y))
theorem skewbackref39_Consistent_spec {F : Nat} {l0 : List Report} {now0 : Int} {r : Bool} (h : skewbackref39_Consistent_S F l0 now0 = some r) : Meets Try.prog [] 28 [] [.one (.sl 6 (l0.map eReport)), .one (.i now0)] (Is [] (.b (.one (.bool r)))) := by
 unfold skewbackref39_Consistent_S at h
 refine Meets.intro 24 Try.func28 Try.ntmps28 rfl (by simp) fun E => ?_
 show Tri _ E ⟨24, [], [], []⟩ _ ⟨[(0, .b (.one (.sl 6 (l0.map eReport)))), (1, I now0)], []⟩ _
 refine Tri.seq (Tri.regionL ?_)
 refine Oc oa (OpsL.nilS ⟨[(0, .b (.one (.sl 6 (l0.map eReport)))), (1, I now0)], []⟩ rfl ?_)
 obtain ⟨v1, h2, h⟩ := bnd h
 refine Tri.seqJ (v := v1) (fun (_ : Unit) => ⟨[], []⟩) (fun z => .inl z) ?_ ?_
 ·refine Tri.seq (Tri.regionL ?_)
  refine Oc oa (OpsL.nilS ⟨[(0, _), (1, _), (5, I 0)], []⟩ rfl (Tri.block (Tri.loopJ h2 (fun (axis_1 : Int) => ⟨[(0, .b (.one (.sl 6 (l0.map eReport)))), (1, I now0), (5, I axis_1)], []⟩) [0, 1, 5] [] rfl ?_)))
  rintro axis_1 o3 h4 hy5
  refine Tri.seq (Tri.seq (Tri.regionL ?_))
  refine Oc om (Oc (op_lss rfl rfl) ?_)
  refine OpsL.nilS ⟨[(0, _), (1, _), (5, _), (9, B (decide (axis_1 < 3)))], []⟩ rfl (Tri.ite h4 rfl (fun _ h4 => ?_) (fun _ h4 => ?_))
  ·refine Tri.skip (Fin.keepS ⟨[(0, _), (1, _), (5, _)], []⟩ rfl (Fin.then (Tri.seq (Tri.block (Tri.seq (Tri.regionL ?_))))))
   refine Oc om ?_
   obtain ⟨x_2, e6, h4⟩ := bnd h4
   refine Oc (op_call0 (skewbackref39_Things_spec e6) goes30 rfl rfl) (Oc om (Oc om (Oc om ?_)))
   refine OpsL.keepS ⟨[(0, _), (1, _), (5, _), (14, I x_2), (15, .b (.one (.sl 6 (l0.map eReport)))), (16, I now0), (17, I axis_1)], []⟩ rfl ?_
   obtain ⟨x_3, e7, h4⟩ := bnd h4
   refine Oc (op_call (skewbackref39_Edges_spec 101 e7) goes37 rfl trivial rfl rfl) (OpsL.persist 101 rfl ?_)
   obtain ⟨⟨x_4, x_5⟩, e8, h4⟩ := bnd h4
   refine Oc (op_call (skewbackref39_least_spec 102 e8) goes38 rfl trivial rfl rfl) (Oc om (Oc (op_extract rfl rfl) ?_))
   refine OpsL.keepS ⟨[(0, .b (.one (.sl 6 (l0.map eReport)))), (1, I now0), (5, I axis_1), (12, .tup [.row 102, .one (.bool x_5)]), (20, .b (.row 102))], [(102, .row 3 1 (x_4.map eI))]⟩ rfl (Oc (op_extract rfl rfl) (Oc oa (Oc oa ?_)))
   refine OpsL.nilS ⟨[(0, _), (1, _), (5, _), (7, B x_5)], []⟩ rfl (Tri.seq (Tri.regionL ?_))
   refine Oc om (Oc (op_not rfl) ?_)
   refine OpsL.nilS ⟨[(0, _), (1, _), (5, _), (23, B (!x_5))], []⟩ rfl (Tri.ite h4 rfl (fun _ h4 => ?_) (fun _ h4 => ?_))
   ·refine Tri.seq (Tri.regionL ?_)
    refine Oc oa (OpsL.nilS ⟨[(4, B false)], []⟩ rfl (Tri.ret (Fin.block_ret (Fin.then_ret ?_))))
    obtain rfl := hy5 _ (Option.some.inj h4).symm
    refine Fin.then_ret (Fin.block_ret (Fin.then_ret ?_))
    obtain rfl := Option.some.inj h
    refine Fin.keepS ⟨[(4, _)], []⟩ rfl (Fin.result' [.one (.bool false)] (.inl rfl) rfl (.cons (.tmp rfl) .nil) ⟨rfl, rfl⟩)
   ·refine Tri.skip (Fin.block_normal (Fin.keepS ⟨[(0, _), (1, _), (5, _)], []⟩ rfl (Fin.then (Tri.regionL ?_))))
    refine Oc om (Oc (op_add rfl rfl) (Oc oa ?_))
    refine OpsL.nil ?_
    exact Fin.againJ [0, 1, 5] [] (IntKind.i64.wrap (axis_1 + 1)) (Option.some.inj h4) rfl
  ·refine Tri.exit (Fin.then_exit ?_)
   obtain rfl := hy5 _ (Option.some.inj h4).symm
   refine Fin.then_exit (Fin.block_exit ?_)
   exact Fin.join [] [] () rfl rfl
 ·rintro _ hv
  subst v1
  refine Tri.seq (Tri.regionL ?_)
  refine Oc oa (OpsL.nilS ⟨[(4, B true)], []⟩ rfl (Tri.ret ?_))
  obtain rfl := Option.some.inj h
  refine Fin.keepS ⟨[(4, _)], []⟩ rfl (Fin.result' [.one (.bool true)] (.inl rfl) rfl (.cons (.tmp rfl) .nil) ⟨rfl, rfl⟩)
def slices_IndexFunc66_S (F : Nat) (s0 : List Report) (f0 : Nat) : Option Int :=
 Option.bind (iter F (fun x_1 => if (decide (x_1 < (s0.length : Int))) = true then ((idx? s0 x_1).bind fun x_2 => (reportFn_S F f0 x_2).bind fun x_3 => if x_3 = true then (some (.inr (.inr x_1))) else (some (.inl (IntKind.i64.wrap (x_1 + 1))))) else (some (.inr (.inl ())))) 0) (alt2 (fun _ => some (-1)) (fun y => some y))
theorem slices_IndexFunc66_spec {F : Nat} {s0 : List Report} {f0 : Nat} {r : Int} (h : slices_IndexFunc66_S F s0 f0 = some r) : Meets Try.prog [] 66 [] [.one (.sl 6 (s0.map eReport)), .one (.raw (.func (.func f0) #[] #[]))] (Is [] (.b (.one (.i r)))) := by
 unfold slices_IndexFunc66_S at h
 refine Meets.intro 19 Try.func66 Try.ntmps66 rfl (by simp) fun E => ?_
 show Tri _ E ⟨19, [], [], []⟩ _ ⟨[(0, .b (.one (.sl 6 (s0.map eReport)))), (1, .b (.one (.raw (.func (.func f0) #[] #[]))))], []⟩ _
 refine Tri.seq (Tri.regionL ?_)
 refine Oc oa (OpsL.nilS ⟨[(0, .b (.one (.sl 6 (s0.map eReport)))), (1, .b (.one (.raw (.func (.func f0) #[] #[]))))], []⟩ rfl ?_)
 obtain ⟨v1, h2, h⟩ := bnd h
 refine Tri.seqJ (v := v1) (fun (_ : Unit) => ⟨[], []⟩) (fun z => .inl z) ?_ ?_
 ·refine Tri.seq (Tri.regionL ?_)
  refine Oc om (Oc (op_len_e' und22 rfl (List.length_map _)) (Oc om ?_))
  refine OpsL.nilS ⟨[(0, _), (1, _), (7, I (s0.length : Int)), (8, I 0)], []⟩ rfl (Tri.block (Tri.loopJ h2 (fun (x_1 : Int) => ⟨[(0, .b (.one (.sl 6 (s0.map eReport)))), (1, .b (.one (.raw (.func (.func f0) #[] #[])))), (7, I (s0.length : Int)), (8, I x_1)], []⟩) [0, 1, 7, 8] [] rfl ?_))
  rintro x_1 o3 h4 hy5
  refine Tri.seq (Tri.regionL ?_)
  refine Oc (op_lss rfl rfl) (OpsL.nilS ⟨[(0, _), (1, _), (7, _), (8, _), (9, B (decide (x_1 < (s0.length : Int))))], []⟩ rfl (Tri.seq (Tri.ite h4 rfl (fun _ h4 => ?_) (fun _ h4 => ?_))))
  ·refine Tri.skip (Fin.keepS ⟨[(0, _), (1, _), (7, _), (8, _)], []⟩ rfl (Fin.then (Tri.seq (Tri.block (Tri.seq (Tri.regionL ?_))))))
   refine Oc om (Oc oa ?_)
   refine OpsL.nilS ⟨[(0, _), (1, _), (5, I x_1), (7, _), (8, _)], []⟩ rfl (Tri.seq (Tri.regionL ?_))
   refine Oc om (Oc om (Oc om ?_))
   obtain ⟨x_2, e6, h4⟩ := bnd h4
   refine Oc (op_index_e tySl22 (ix_lo e6) (ix_map (e := eReport) e6) rfl rfl) (Oc (op_load_e tyAgg24 rfl rfl rfl) ?_)
   obtain ⟨x_3, e7, h4⟩ := bnd h4
   refine Oc (op_callv0 (reportFn_spec e7) (reportFn_goes e7) rfl rfl rfl) (OpsL.nilS ⟨[(0, _), (1, _), (5, _), (7, _), (8, _), (16, B x_3)], []⟩ rfl (Tri.ite h4 rfl (fun _ h4 => ?_) (fun _ h4 => ?_)))
   ·refine Tri.seq (Tri.regionL ?_)
    refine Oc om (Oc oa ?_)
    refine OpsL.nilS ⟨[(4, I x_1)], []⟩ rfl (Tri.ret (Fin.block_ret (Fin.then_ret ?_)))
    obtain rfl := hy5 _ (Option.some.inj h4).symm
    refine Fin.then_ret (Fin.block_ret (Fin.then_ret ?_))
    obtain rfl := Option.some.inj h
    refine Fin.keepS ⟨[(4, _)], []⟩ rfl (Fin.result' [.one (.i x_1)] (.inl rfl) rfl (.cons (.tmp rfl) .nil) ⟨rfl, rfl⟩)
   ·refine Tri.skip (Fin.block_normal (Fin.keepS ⟨[(0, _), (1, _), (7, _), (8, _)], []⟩ rfl (Fin.then (Tri.regionL ?_))))
    refine Oc (op_add rfl rfl) (Oc om ?_)
    refine OpsL.nil ?_
    exact Fin.againJ [0, 1, 7, 8] [] (IntKind.i64.wrap (x_1 + 1)) (Option.some.inj h4) rfl
  ·refine Tri.exit (Fin.then_exit ?_)
   obtain rfl := hy5 _ (Option.some.inj h4).symm
   refine Fin.then_exit (Fin.block_exit ?_)
   exact Fin.join [] [] () rfl rfl
 ·rintro _ hv
  subst v1
  refine Tri.seq (Tri.regionL ?_)
  refine Oc oa (OpsL.nilS ⟨[(4, I (-1))], []⟩ rfl (Tri.ret ?_))
  obtain rfl := Option.some.inj h
  refine Fin.keepS ⟨[(4, _)], []⟩ rfl (Fin.result' [.one (.i (-1))] (.inl rfl) rfl (.cons (.tmp rfl) .nil) ⟨rfl, rfl⟩)
def slices_ContainsFunc_S (F : Nat) (s0 : List Report) (f0 : Nat) : Option Bool :=
 (slices_IndexFunc66_S F s0 f0).bind fun x_1 => some (decide (0 ≤ x_1))
theorem slices_ContainsFunc_spec {F : Nat} {s0 : List Report} {f0 : Nat} {r : Bool} (h : slices_ContainsFunc_S F s0 f0 = some r) : Meets Try.prog [] 51 [] [.one (.sl 6 (s0.map eReport)), .one (.raw (.func (.func f0) #[] #[]))] (Is [] (.b (.one (.bool r)))) := by
 unfold slices_ContainsFunc_S at h
 refine Meets.intro 9 Try.func51 Try.ntmps51 rfl (by simp) fun E => ?_
 show Tri _ E ⟨9, [], [], []⟩ _ ⟨[(0, .b (.one (.sl 6 (s0.map eReport)))), (1, .b (.one (.raw (.func (.func f0) #[] #[]))))], []⟩ _
 refine Tri.seq (Tri.regionL ?_)
 refine Oc oa (OpsL.nilS ⟨[(0, .b (.one (.sl 6 (s0.map eReport)))), (1, .b (.one (.raw (.func (.func f0) #[] #[]))))], []⟩ rfl (Tri.seq (Tri.regionL ?_)))
 refine Oc om (Oc om ?_)
 obtain ⟨x_1, e1, h⟩ := bnd h
 refine Oc (op_call0 (slices_IndexFunc66_spec e1) goes66 rfl rfl) (Oc (op_geq rfl rfl) (Oc oa ?_))
 refine OpsL.nilS ⟨[(4, B (decide (0 ≤ x_1)))], []⟩ rfl (Tri.ret ?_)
 obtain rfl := Option.some.inj h
 refine Fin.keepS ⟨[(4, _)], []⟩ rfl (Fin.result' [.one (.bool (decide (0 ≤ x_1)))] (.inl rfl) rfl (.cons (.tmp rfl) .nil) ⟨rfl, rfl⟩)
def sensor_Check_S (F : Nat) (l0 : List Report) : Option Int :=
 if (decide (200 < (l0.length : Int))) = true then (some 2) else ((slices_ContainsFunc_S F l0 52).bind fun x_1 => if x_1 = true then (some 1) else (some 0))
theorem sensor_Check_spec {F : Nat} {l0 : List Report} {r : Int} (h : sensor_Check_S F l0 = some r) : Meets Try.prog [] 22 [] [.one (.sl 6 (l0.map eReport))] (Is [] (.b (.one (.i r)))) := by
 unfold sensor_Check_S at h
 refine Meets.intro 10 Try.func22 Try.ntmps22 rfl (by simp) fun E => ?_
 show Tri _ E ⟨10, [], [], []⟩ _ ⟨[(0, .b (.one (.sl 6 (l0.map eReport))))], []⟩ _
 refine Tri.seq (Tri.regionL ?_)
 refine Oc oa (OpsL.nilS ⟨[(0, .b (.one (.sl 6 (l0.map eReport))))], []⟩ rfl (Tri.seq (Tri.block (Tri.seq (Tri.regionL ?_)))))
 refine Oc om (Oc (op_len_e' und22 rfl (List.length_map _)) (Oc (op_gtr rfl rfl) (Oc oa ?_)))
 refine OpsL.nilS ⟨[(0, _), (3, B (decide (200 < (l0.length : Int))))], []⟩ rfl (Tri.ite h rfl (fun _ h => ?_) (fun _ h => ?_))
 ·refine Tri.seq (Tri.regionL ?_)
  refine Oc oa (OpsL.nilS ⟨[(2, I 2)], []⟩ rfl (Tri.ret (Fin.block_ret (Fin.then_ret ?_))))
  obtain rfl := Option.some.inj h
  refine Fin.keepS ⟨[(2, _)], []⟩ rfl (Fin.result' [.one (.i 2)] (.inl rfl) rfl (.cons (.tmp rfl) .nil) ⟨rfl, rfl⟩)
 ·refine Tri.seq (Tri.regionL ?_)
  refine Oc om ?_
  obtain ⟨x_1, e1, h⟩ := bnd h
  refine Oc (op_call0 (slices_ContainsFunc_spec e1) goes51 rfl rfl) (Oc oa ?_)
  refine OpsL.nilS ⟨[(7, B x_1)], []⟩ rfl (Tri.ite h rfl (fun _ h => ?_) (fun _ h => ?_))
  ·refine Tri.seq (Tri.regionL ?_)
   refine Oc oa (OpsL.nilS ⟨[(2, I 1)], []⟩ rfl (Tri.ret (Fin.block_ret (Fin.then_ret ?_))))
   obtain rfl := Option.some.inj h
   refine Fin.keepS ⟨[(2, _)], []⟩ rfl (Fin.result' [.one (.i 1)] (.inl rfl) rfl (.cons (.tmp rfl) .nil) ⟨rfl, rfl⟩)
  ·refine Tri.skip (Fin.block_normal (Fin.keepS ⟨[], []⟩ rfl (Fin.then (Tri.seq (Tri.regionL ?_)))))
   refine Oc oa (OpsL.nilS ⟨[(2, I 0)], []⟩ rfl (Tri.ret ?_))
   obtain rfl := Option.some.inj h
   refine Fin.keepS ⟨[(2, _)], []⟩ rfl (Fin.result' [.one (.i 0)] (.inl rfl) rfl (.cons (.tmp rfl) .nil) ⟨rfl, rfl⟩)
def skewbackref39_Solution_S (F : Nat) (l0 : List Report) (now0 : Int) : Option Solved :=
 (skewbackref39_Things_S F l0).bind fun x_1 => Option.bind (mk? (A3.zero : A3) x_1 x_1) (fun x_2 => Option.bind (iter F (un2 fun out_4 axis_5 => if (decide (axis_5 < 3)) = true then (Option.bind ((skewbackref39_Edges_S F l0 now0 axis_5).bind fun x_8 => Option.bind (skewbackref39_least_S F x_1 x_8 (-1)) (un2 fun x_9 x_10 => if (!x_10) = true then (some (.inr (⟨[], 200⟩ : Solved))) else (Option.bind (iter F (un2 fun out_11 k_12 => if (decide (k_12 ≤ x_1)) = true then ((idx? x_9 k_12).bind fun x_14 => (idx? x_9 0).bind fun x_15 => (idx? out_11 (IntKind.i64.wrap (k_12 - 1))).bind fun x_16 => (idx? x_16.l axis_5).bind fun x_17 => some (.inl (out_11.set (IntKind.i64.wrap (k_12 - 1) : Int).toNat (x_16.set axis_5 (IntKind.i64.wrap (x_14 - x_15))), IntKind.i64.wrap (k_12 + 1)))) else (some (.inr out_11))) (out_4, 1)) (fun out_13 => some (.inl out_13))))) (alt2 (fun out_7 => some (.inl (out_7, IntKind.i64.wrap (axis_5 + 1)))) (fun y => some (.inr (.inr y))))) else (some (.inr (.inl out_4)))) (x_2, 0)) (alt2 (fun out_3 => some (⟨out_3, 0⟩ : Solved)) (fun y => some y)))
theorem skewbackref39_Solution_spec {F : Nat} {l0 : List Report} {now0 : Int} {r : Solved} (h : skewbackref39_Solution_S F l0 now0 = some r) : Meets Try.prog [] 25 [] [.one (.sl 6 (l0.map eReport)), .one (.i now0)] (Is [] (.b (.agg (eSolved r)))) := by
 unfold skewbackref39_Solution_S at h
 refine Meets.intro 52 Try.func25 Try.ntmps25 rfl (by simp) fun E => ?_
 show Tri _ E ⟨52, [], [], []⟩ _ ⟨[(0, .b (.one (.sl 6 (l0.map eReport)))), (1, I now0)], []⟩ _
 refine Tri.seq (Tri.regionL ?_)
 refine Oc (op_alloc (k := 101) tyZero62 rfl) (OpsL.nilS ⟨[(0, .b (.one (.sl 6 (l0.map eReport)))), (1, I now0), (4, Pt 101 0)], [(101, .box 62 [.nil, .i 0])]⟩ rfl (Tri.seq (Tri.regionL ?_)))
 refine Oc om ?_
 obtain ⟨x_1, e1, h⟩ := bnd h
 refine Oc (op_call0 (skewbackref39_Things_spec e1) goes30 rfl rfl) (Oc oa ?_)
 refine OpsL.nilS ⟨[(0, _), (1, _), (4, _), (5, I x_1)], [(101, _)]⟩ rfl (Tri.seq (Tri.regionL ?_))
 refine Oc om ?_
 obtain ⟨x_2, e2, h⟩ := bnd h
 refine Oc (op_makeSlice (k := 102) (enc := (eA3 .i64)) tySl50 e2 (by decide) (.cons .refl (.cons .refl (.cons .refl .nil))) rfl rfl rfl) (Oc oa ?_)
 refine OpsL.nilS ⟨[(0, _), (1, _), (4, _), (5, _), (6, .b (.row 102))], [(101, _), (102, .row 52 3 (x_2.map (eA3 .i64)))]⟩ rfl ?_
 obtain ⟨v3, h4, h⟩ := bnd h
 refine Tri.seqJ (v := v3) (fun (out_3 : List A3) => ⟨[(4, Pt 101 0), (6, .b (.row 102))], [(101, .box 62 [.nil, .i 0]), (102, .row 52 3 (out_3.map (eA3 .i64)))]⟩) (fun z => .inl z) ?_ ?_
 ·refine Tri.seq (Tri.regionL ?_)
  refine Oc oa (OpsL.nilS ⟨[(0, _), (1, _), (4, _), (5, _), (6, _), (7, I 0)], [(101, _), (102, _)]⟩ rfl (Tri.block (Tri.loopJ h4 (un2 fun (out_4 : List A3) (axis_5 : Int) => ⟨[(0, .b (.one (.sl 6 (l0.map eReport)))), (1, I now0), (4, Pt 101 0), (5, I x_1), (6, .b (.row 102)), (7, I axis_5)], [(101, .box 62 [.nil, .i 0]), (102, .row 52 3 (out_4.map (eA3 .i64)))]⟩) [0, 1, 4, 5, 6, 7] [101, 102] rfl ?_)))
  rintro ⟨out_4, axis_5⟩ o5 h6 hy7
  refine Tri.seq (Tri.seq (Tri.regionL ?_))
  refine Oc om (Oc (op_lss rfl rfl) ?_)
  refine OpsL.nilS ⟨[(0, _), (1, _), (4, _), (5, _), (6, _), (7, _), (16, B (decide (axis_5 < 3)))], [(101, _), (102, _)]⟩ rfl (Tri.ite h6 rfl (fun _ h6 => ?_) (fun _ h6 => ?_))
  ·refine Tri.skip (Fin.keepS ⟨[(0, _), (1, _), (4, _), (5, _), (6, _), (7, _)], [(101, _), (102, _)]⟩ rfl (Fin.then ?_))
   obtain ⟨v8, h9, h6⟩ := bnd h6
   refine Tri.seqJ (v := v8) (fun (out_7 : List A3) => ⟨[(0, .b (.one (.sl 6 (l0.map eReport)))), (1, I now0), (4, Pt 101 0), (5, I x_1), (6, .b (.row 102)), (7, I axis_5)], [(101, .box 62 [.nil, .i 0]), (102, .row 52 3 (out_7.map (eA3 .i64)))]⟩) (fun z => .inl z) ?_ ?_
   ·refine Tri.block (Tri.seq (Tri.regionL ?_))
    refine Oc om (Oc om (Oc om (Oc om ?_)))
    obtain ⟨x_8, e10, h9⟩ := bnd h9
    refine Oc (op_call (skewbackref39_Edges_spec 103 e10) goes37 rfl trivial rfl rfl) (OpsL.persist 103 rfl (OpsL.keepS ⟨[(0, .b (.one (.sl 6 (l0.map eReport)))), (1, I now0), (4, Pt 101 0), (5, I x_1), (6, .b (.row 102)), (7, I axis_5), (20, I x_1), (24, .b (.one (.sl 4 (x_8.map eREdge))))], [(101, .box 62 [.nil, .i 0]), (102, .row 52 3 (out_4.map (eA3 .i64)))]⟩ rfl ?_))
    obtain ⟨⟨x_9, x_10⟩, e11, h9⟩ := bnd h9
    refine Oc (op_call (skewbackref39_least_spec 104 e11) goes38 rfl trivial rfl rfl) (Oc om (Oc (op_extract rfl rfl) (Oc (op_extract rfl rfl) (Oc oa (Oc oa ?_)))))
    refine OpsL.nilS ⟨[(0, _), (1, _), (4, _), (5, _), (6, _), (7, _), (8, .b (.row 104)), (9, B x_10)], [(101, _), (102, _), (104, .row 3 1 (x_9.map eI))]⟩ rfl (Tri.seq (Tri.seq (Tri.regionL ?_)))
    refine Oc om (Oc (op_not rfl) ?_)
    refine OpsL.nilS ⟨[(0, _), (1, _), (4, _), (5, _), (6, _), (7, _), (8, _), (29, B (!x_10))], [(101, _), (102, _), (104, _)]⟩ rfl (Tri.ite h9 rfl (fun _ h9 => ?_) (fun _ h9 => ?_))
    ·refine Tri.seq (Tri.regionL ?_)
     refine Oc (op_build tyBuild62 rfl rfl) (Oc (op_store_p tyAgg62 rfl rfl rfl rfl (Nat.le_of_ble_eq_true rfl) rfl) ?_)
     refine OpsL.nilS ⟨[(4, _)], [(101, .box 62 [.nil, .i 200])]⟩ rfl (Tri.ret (Fin.then_ret (Fin.block_ret ?_)))
     obtain rfl := Option.some.inj h9
     refine Fin.then_ret ?_
     obtain rfl := hy7 _ (Option.some.inj h6).symm
     refine Fin.then_ret (Fin.block_ret (Fin.then_ret ?_))
     obtain rfl := Option.some.inj h
     refine Fin.keepS ⟨[(4, _)], [(101, _)]⟩ rfl (Fin.nilbox 101 0 3 rfl rfl (by decide) (Fin.result' [.agg [.sl 3 ([].map (eA3 .i64)), .i 200]] (.inl rfl) rfl (.cons (.agg tyAgg62 rfl rfl rfl rfl) .nil) ⟨rfl, rfl⟩))
    ·refine Tri.skip (Fin.keepS ⟨[(0, _), (1, _), (4, _), (5, _), (6, _), (7, _), (8, _)], [(101, _), (102, _), (104, _)]⟩ rfl (Fin.then (Tri.seq (Tri.regionL ?_))))
     refine Oc oa (OpsL.nilS ⟨[(0, _), (1, _), (4, _), (5, _), (6, _), (7, _), (8, _), (10, I 1)], [(101, _), (102, _), (104, _)]⟩ rfl (Tri.block ?_))
     obtain ⟨v12, h13, h9⟩ := bnd h9
     refine Tri.loopJ h13 (un2 fun (out_11 : List A3) (k_12 : Int) => ⟨[(0, .b (.one (.sl 6 (l0.map eReport)))), (1, I now0), (4, Pt 101 0), (5, I x_1), (6, .b (.row 102)), (7, I axis_5), (8, .b (.row 104)), (10, I k_12)], [(101, .box 62 [.nil, .i 0]), (102, .row 52 3 (out_11.map (eA3 .i64))), (104, .row 3 1 (x_9.map eI))]⟩) [0, 1, 4, 5, 6, 7, 8, 10] [101, 102, 104] rfl ?_
     rintro ⟨out_11, k_12⟩ o14 h15 hy16
     refine Tri.seq (Tri.seq (Tri.regionL ?_))
     refine Oc om (Oc om (Oc (op_leq rfl rfl) ?_))
     refine OpsL.nilS ⟨[(0, _), (1, _), (4, _), (5, _), (6, _), (7, _), (8, _), (10, _), (33, B (decide (k_12 ≤ x_1)))], [(101, _), (102, _), (104, _)]⟩ rfl (Tri.ite h15 rfl (fun _ h15 => ?_) (fun _ h15 => ?_))
     ·refine Tri.skip (Fin.keepS ⟨[(0, _), (1, _), (4, _), (5, _), (6, _), (7, _), (8, _), (10, _)], [(101, _), (102, _), (104, _)]⟩ rfl (Fin.then (Tri.seq (Tri.block ?_))))
      refine Tri.keepS ⟨[(0, _), (1, _), (4, _), (5, _), (6, _), (7, _), (8, _), (10, _)], [(101, _), (102, _), (104, _)]⟩ rfl ?_
      obtain ⟨x_14, e17, h15⟩ := bnd h15
      obtain ⟨x_15, e18, h15⟩ := bnd h15
      obtain ⟨x_16, e19, h15⟩ := bnd h15
      obtain ⟨x_17, e20, h15⟩ := bnd h15
      refine Tri.regionYF mixed 14 [.b (.row 102), I k_12, I (IntKind.i64.wrap (k_12 - 1)), I axis_5, .b (.row 104), I k_12, .b (.rptr 104 ((k_12 : Int).toNat * 1)), I x_14, .b (.row 104), .b (.rptr 104 ((0 : Int).toNat * 1)), I x_15, I (IntKind.i64.wrap (x_14 - x_15)), .b (.rptr 102 ((IntKind.i64.wrap (k_12 - 1) : Int).toNat * 3)), .b (.rptr 102 ((IntKind.i64.wrap (k_12 - 1) : Int).toNat * 3 + (axis_5 : Int).toNat * 1))] [0, 1, 4, 5, 6, 7, 8, 10] [101, 102, 104] (s' := ⟨[(0, _), (1, _), (4, _), (5, _), (6, _), (7, _), (8, _), (10, _)], [(101, _), (102, .row 52 3 ((out_11.set (IntKind.i64.wrap (k_12 - 1) : Int).toNat (x_16.set axis_5 (IntKind.i64.wrap (x_14 - x_15)))).map (eA3 .i64))), (104, _)]⟩) rfl ⟨fun _ => .p om, fun _ => .p om, fun _ => .p (op_sub rfl rfl), fun _ => .p om, fun _ => .p om, fun _ => .p om, fun _ => .p (op_index_r tySl37 (ix_lo e17) (ix_lt' e17) rfl rfl rfl rfl), fun _ => .p (op_load_r1 (i := (k_12 : Int).toNat) (f := 0) tyOne3 rfl rfl rfl (ix_map (e := eI) e17) rfl), fun _ => .p om, fun _ => .p (op_index_r tySl37 (ix_lo e18) (ix_lt' e18) rfl rfl rfl rfl), fun _ => .p (op_load_r1 (i := (0 : Int).toNat) (f := 0) tyOne3 rfl rfl rfl (ix_map (e := eI) e18) rfl), fun _ => .p (op_sub rfl rfl), fun _ => .p (op_index_r tySl50 (ix_lo e19) (ix_lt' e19) rfl rfl rfl rfl), fun _ => .p (op_index_ra tyArr52 (ix_lo e20) (ix_hi e20) rfl rfl rfl), trivial⟩ ⟨_, by exact .p (op_store_rf1 (i := (IntKind.i64.wrap (k_12 - 1) : Int).toNat) (f := (axis_5 : Int).toNat * 1) tyOne3 rfl rfl rfl rfl (ix_map (e := (eA3 .i64)) e19) (part_lt (m := 1) (f := 0) (sz := 1) (ix_lo e20) (ix_hi e20) (by decide) (Nat.le_of_ble_eq_true rfl)) (part_set (z' := x_16.set axis_5 (IntKind.i64.wrap (x_14 - x_15))) (arr_part (e := (fun z => [CP.int .i64 z])) (sz := 1) (f := 0) (A3.e_l .i64) (fun _ => rfl) e20 (Nat.le_of_ble_eq_true rfl) rfl (A3.set_l _ _ _)))), rfl⟩ rfl (Fin.block_normal (Fin.keepS ⟨[(0, _), (1, _), (4, _), (5, _), (6, _), (7, _), (8, _), (10, _)], [(101, _), (102, _), (104, _)]⟩ rfl (Fin.then (Tri.regionL ?_))))
      refine Oc om (Oc (op_add rfl rfl) (Oc oa ?_))
      refine OpsL.nil ?_
      exact Fin.againJ [0, 1, 4, 5, 6, 7, 8, 10] [101, 102, 104] (out_11.set (IntKind.i64.wrap (k_12 - 1) : Int).toNat (x_16.set axis_5 (IntKind.i64.wrap (x_14 - x_15))), IntKind.i64.wrap (k_12 + 1)) (Option.some.inj h15) rfl
     ·refine Tri.exit (Fin.then_exit ?_)
      obtain rfl := hy16 _ (Option.some.inj h15).symm
      refine Fin.then_exit (Fin.block_exit (Fin.block_normal ?_))
      exact Fin.join [0, 1, 4, 5, 6, 7] [101, 102] out_11 (Option.some.inj h9) rfl
   ·rintro out_7 hv
    subst v8
    refine Tri.regionL (Oc om (Oc (op_add rfl rfl) (Oc oa ?_)))
    refine OpsL.nil ?_
    exact Fin.againJ [0, 1, 4, 5, 6, 7] [101, 102] (out_7, IntKind.i64.wrap (axis_5 + 1)) (Option.some.inj h6) rfl
  ·refine Tri.exit (Fin.then_exit ?_)
   obtain rfl := hy7 _ (Option.some.inj h6).symm
   refine Fin.then_exit (Fin.block_exit ?_)
   exact Fin.join [4, 6] [101, 102] out_4 rfl rfl
 ·rintro out_3 hv
  subst v3
  refine Tri.seq (Tri.regionL ?_)
  refine Oc om (OpsL.persist 102 rfl (Oc (op_build tyBuild62 rfl rfl) (Oc (op_store_p tyAgg62 rfl rfl rfl rfl (Nat.le_of_ble_eq_true rfl) rfl) ?_)))
  refine OpsL.nilS ⟨[(4, Pt 101 0)], [(101, .box 62 [.sl 3 (out_3.map (eA3 .i64)), .i 0])]⟩ rfl (Tri.ret ?_)
  obtain rfl := Option.some.inj h
  refine Fin.keepS ⟨[(4, _)], [(101, _)]⟩ rfl (Fin.result' [.agg [.sl 3 (out_3.map (eA3 .i64)), .i 0]] (.inl rfl) rfl (.cons (.agg tyAgg62 rfl rfl rfl rfl) .nil) ⟨rfl, rfl⟩)
def sensor_Counting_S (F : Nat) (l0 : List Report) (now0 : Int) : Option (List Int) :=
 Option.bind (each (fun outf0_3 => un2 fun i_1 r_2 => (app? outf0_3 [i_1]).bind fun x_4 => some (.inl x_4)) (cnt l0 now0) []) (alt2 (fun outf0_3 => some outf0_3) (fun (_ : Unit) => none))
theorem sensor_Counting_spec {F : Nat} {l0 : List Report} {now0 : Int} {r : (List Int)} (h : sensor_Counting_S F l0 now0 = some r) : Meets Try.prog [] 26 [] [.one (.sl 6 (l0.map eReport)), .one (.i now0)] (Is [(51, .row 3 1 (r.map eI))] (.b (.row 51))) := by
 unfold sensor_Counting_S at h
 refine Meets.introM 17 Try.func26 Try.ntmps26 rfl (by simp) fun E => ?_
 show Tri _ E ⟨17, [], [], []⟩ _ ⟨[(0, .b (.one (.sl 6 (l0.map eReport)))), (1, I now0)], []⟩ _
 refine Tri.seq (Tri.regionL ?_)
 refine Oc oa (OpsL.nilS ⟨[(0, .b (.one (.sl 6 (l0.map eReport)))), (1, I now0)], []⟩ rfl (Tri.seq (Tri.regionL ?_)))
 refine Oc (op_alloc (k := 101) tyZero37 rfl) (OpsL.nilS ⟨[(0, _), (1, _), (5, Pt 101 0)], [(101, .box 37 [.nil])]⟩ rfl (Tri.seq (Tri.seq (Tri.regionL ?_))))
 refine Oc om (Oc om (Oc (op_call0 counting_spec goes41 rfl rfl) ?_))
 refine OpsL.nilS ⟨[(5, Pt 101 0), (9, .b (.one (.cloP 56 [CP.rp [.sl 6 (l0.map eReport)], CP.rp [.i now0]])))], [(101, .box 37 [.nil])]⟩ rfl (Tri.toX 101 rfl (Tri.nilrowX 101 0 103 1 3 rfl rfl (by decide) (by decide) rfl (Tri.keepS ⟨[(5, _), (9, _)], [(101, .xbox 37 [.row 103]), (103, .row 3 1 ([].map eI))]⟩ rfl (Tri.rangeB _ cArg _ _ (fun (outf0_3 : List Int) => [(101, .xbox 37 [.row 103]), (103, .row 3 1 (outf0_3.map eI))]) (fun (_ : Unit) => ([] : List (Nat × OC))) (fun (outf0_3 : List Int) => un2 fun i_1 r_2 => ⟨[(5, Pt 101 0), (6, I i_1)], [(101, .xbox 37 [.row 103]), (103, .row 3 1 (outf0_3.map eI))]⟩) h counting_iter goes56 rfl rfl rfl (fun _ => rfl) (fun _ => rfl) (fun _ => rfl) (fun _ _ => rfl) (fun _ _ => rfl) rfl (fun _ => rfl) ?_ ?_ ?_ ?_))))
 ·rintro E l outf0_3 ⟨i_1, r_2⟩ z _ h1
  refine TriR.keep [5, 9, 10, 11] [101, 103] (s' := ⟨[(5, Pt 101 0), (9, .b (.one (.cloP 56 [CP.rp [.sl 6 (l0.map eReport)], CP.rp [.i now0]]))), (10, I i_1), (11, .b (.agg (eReport r_2)))], [(101, .xbox 37 [.row 103]), (103, .row 3 1 (outf0_3.map eI))]⟩) rfl (TriR.regionL (.inr ⟨_, rfl⟩) (Oc oa (OpsL.nil ?_)))
  exact Fin.keepS ⟨[(5, _), (6, I i_1)], [(101, _), (103, _)]⟩ rfl (fun a w hr => hr)
 ·rintro E l outf0_3 ⟨i_1, r_2⟩ z _ h1
  refine TriR.block (TriR.regionL (.inr ⟨_, rfl⟩) (Oc (op_load_x1 tyOne37 rfl rfl rfl) (Oc om (Oc (op_buildSlice (k := 104) (es := [i_1].map eI) tySl37 rfl rfl (uni_map fun _ => rfl) rfl (by decide) (by decide) rfl) ?_))))
  refine OpsL.forget 101 0 rfl ?_
  obtain ⟨x_4, e2, h1⟩ := bnd h1
  refine Oc (op_append_r tySl37 (app_b e2) (app_m e2) rfl rfl rfl rfl (app_map e2) rfl) (Oc (op_store_x1 tyOne37 rfl rfl rfl rfl (Nat.le_of_ble_eq_true rfl) rfl) ?_)
  refine OpsL.nil (Fin.block_normal ?_)
  obtain rfl := Option.some.inj h1
  exact Fin.keepS ⟨[], [(101, .xbox 37 [.row 103]), (103, .row 3 1 (x_4.map eI))]⟩ rfl (fun a w hr => ⟨_, rfl, hr⟩)
 ·rintro E D outf0_3 h3
  refine Tri.seq (Tri.regionL ?_)
  refine Oc (op_load_x1 tyOne37 rfl rfl rfl) (Oc oa ?_)
  refine OpsL.nilS ⟨[(4, .b (.row 103))], [(103, .row 3 1 (outf0_3.map eI))]⟩ rfl (Tri.ret ?_)
  obtain rfl := Option.some.inj h3
  refine Fin.keepS ⟨[(4, .b (.row 103))], [(103, .row 3 1 (outf0_3.map eI))]⟩ rfl (Fin.rename 103 51 rfl (by decide) rfl (Fin.keepS ⟨[(4, .b (.row 51))], [(51, .row 3 1 (outf0_3.map eI))]⟩ rfl ?_))
  exact Fin.result [.row 51] (.inl rfl) rfl (.cons (.tmp rfl) .nil) ⟨rfl, rfl⟩
 ·rintro E D ⟨⟩ h3
  cases h3
def skewbackref39_Counting_S (F : Nat) (l0 : List Report) (now0 : Int) : Option (List Int) :=
 Option.bind (iter F (un2 fun out_2 i_3 => if (decide (i_3 < (l0.length : Int))) = true then (Option.bind ((idx? l0 i_3).bind fun x_6 => if (decide (x_6.Time ≤ now0)) = true then ((app? out_2 [i_3]).bind fun x_7 => some x_7) else (some out_2)) (fun out_5 => some (.inl (out_5, IntKind.i64.wrap (i_3 + 1))))) else (some (.inr out_2))) ([], 0)) (fun out_1 => some out_1)
theorem skewbackref39_Counting_spec (kr0 : Nat) {F : Nat} {l0 : List Report} {now0 : Int} {r : (List Int)} (h : skewbackref39_Counting_S F l0 now0 = some r) : Meets Try.prog [] 27 [] [.one (.sl 6 (l0.map eReport)), .one (.i now0)] (Is [(kr0, .row 3 1 (r.map eI))] (.b (.row kr0))) := by
 unfold skewbackref39_Counting_S at h
 refine Meets.intro 25 Try.func27 Try.ntmps27 rfl (by simp) fun E => ?_
 show Tri _ E ⟨25, [], [], []⟩ _ ⟨[(0, .b (.one (.sl 6 (l0.map eReport)))), (1, I now0)], []⟩ _
 refine Tri.seq (Tri.regionL ?_)
 refine Oc oa (OpsL.nilS ⟨[(0, .b (.one (.sl 6 (l0.map eReport)))), (1, I now0)], []⟩ rfl (Tri.seq (Tri.regionL ?_)))
 refine Oc oa (OpsL.nilS ⟨[(0, _), (1, _), (5, .b (.one (.nil)))], []⟩ rfl ?_)
 obtain ⟨v1, h2, h⟩ := bnd h
 refine Tri.seqJ (v := v1) (fun (out_1 : List Int) => ⟨[(5, .b (.row 102))], [(102, .row 3 1 (out_1.map eI))]⟩) (fun z => z) ?_ ?_
 ·refine Tri.seq (Tri.regionL ?_)
  refine Oc oa (OpsL.nilS ⟨[(0, _), (1, _), (5, _), (6, I 0)], []⟩ rfl (Tri.block (Tri.nilrow 5 102 1 3 rfl (by decide) rfl (Tri.loopJ h2 (un2 fun (out_2 : List Int) (i_3 : Int) => ⟨[(0, .b (.one (.sl 6 (l0.map eReport)))), (1, I now0), (5, .b (.row 102)), (6, I i_3)], [(102, .row 3 1 (out_2.map eI))]⟩) [0, 1, 5, 6] [102] rfl ?_))))
  rintro ⟨out_2, i_3⟩ o3 h4 hy5
  refine Tri.seq (Tri.seq (Tri.regionL ?_))
  refine Oc om (Oc om (Oc (op_len_e' und22 rfl (List.length_map _)) (Oc (op_lss rfl rfl) ?_)))
  refine OpsL.nilS ⟨[(0, _), (1, _), (5, _), (6, _), (10, B (decide (i_3 < (l0.length : Int))))], [(102, _)]⟩ rfl (Tri.ite h4 rfl (fun _ h4 => ?_) (fun _ h4 => ?_))
  ·refine Tri.skip (Fin.keepS ⟨[(0, _), (1, _), (5, _), (6, _)], [(102, _)]⟩ rfl (Fin.then ?_))
   obtain ⟨v6, h7, h4⟩ := bnd h4
   refine Tri.seqJ (v := v6) (fun (out_5 : List Int) => ⟨[(0, .b (.one (.sl 6 (l0.map eReport)))), (1, I now0), (5, .b (.row 102)), (6, I i_3)], [(102, .row 3 1 (out_5.map eI))]⟩) (fun z => z) ?_ ?_
   ·refine Tri.block (Tri.seq (Tri.regionL ?_))
    refine Oc om (Oc om ?_)
    obtain ⟨x_6, e8, h7⟩ := bnd h7
    refine Oc (op_index_e tySl22 (ix_lo e8) (ix_map (e := eReport) e8) rfl rfl) (Oc (op_field_e tyFld24_5 rfl rfl) (Oc (op_load_e1 tyOne3 rfl rfl) (Oc om (Oc (op_leq rfl rfl) ?_))))
    refine OpsL.nilS ⟨[(0, _), (1, _), (5, _), (6, _), (19, B (decide (x_6.Time ≤ now0)))], [(102, _)]⟩ rfl (Tri.ite h7 rfl (fun _ h7 => ?_) (fun _ h7 => ?_))
    ·refine Tri.regionL (Oc om (Oc om (Oc (op_buildSlice (k := 103) (es := [i_3].map eI) tySl37 rfl rfl (uni_map fun _ => rfl) rfl (by decide) (by decide) rfl) ?_)))
     obtain ⟨x_7, e9, h7⟩ := bnd h7
     refine Oc (op_append_r tySl37 (app_b e9) (app_m e9) rfl rfl rfl rfl (app_map e9) rfl) (Oc oa ?_)
     refine OpsL.nil (Fin.block_normal ?_)
     exact Fin.join [0, 1, 5, 6] [102] x_7 (Option.some.inj h7) rfl
    ·refine Tri.skip (Fin.block_normal ?_)
     exact Fin.join [0, 1, 5, 6] [102] out_2 (Option.some.inj h7) rfl
   ·rintro out_5 hv
    subst v6
    refine Tri.regionL (Oc om (Oc (op_add rfl rfl) (Oc oa ?_)))
    refine OpsL.nil ?_
    exact Fin.againJ [0, 1, 5, 6] [102] (out_5, IntKind.i64.wrap (i_3 + 1)) (Option.some.inj h4) rfl
  ·refine Tri.exit (Fin.then_exit ?_)
   obtain rfl := hy5 _ (Option.some.inj h4).symm
   refine Fin.then_exit (Fin.block_exit ?_)
   exact Fin.join [5] [102] out_2 rfl rfl
 ·rintro out_1 hv
  subst v1
  refine Tri.seq (Tri.regionL ?_)
  refine Oc om (Oc oa ?_)
  refine OpsL.nilS ⟨[(4, .b (.row 102))], [(102, _)]⟩ rfl (Tri.ret ?_)
  obtain rfl := Option.some.inj h
  refine Fin.keepS ⟨[(4, _)], [(102, _)]⟩ rfl (Fin.resultK 102 kr0 [.row 102] (.inl rfl) rfl (.cons (.tmp rfl) .nil) rfl rfl rfl rfl ⟨rfl, rfl⟩)
def skewbackref39_offset_S (F : Nat) (at0 : List A3) (thing0 : Int) (axis0 : Int) : Option Int :=
 letN ((decide (thing0 < 1)) || (decide ((at0.length : Int) < thing0))) fun x_1 => if x_1 = true then (some 0) else ((idx? at0 (IntKind.i64.wrap (thing0 - 1))).bind fun x_2 => (idx? x_2.l axis0).bind fun x_3 => some x_3)
theorem skewbackref39_offset_spec {F : Nat} {at0 : List A3} {thing0 : Int} {axis0 : Int} {r : Int} (h : skewbackref39_offset_S F at0 thing0 axis0 = some r) : Meets Try.prog [] 53 [] [.one (.sl 3 (at0.map (eA3 .i64))), .one (.i thing0), .one (.i axis0)] (Is [] (.b (.one (.i r)))) := by
 unfold skewbackref39_offset_S at h
 refine Meets.intro 22 Try.func53 Try.ntmps53 rfl (by simp) fun E => ?_
 show Tri _ E ⟨22, [], [], []⟩ _ ⟨[(0, .b (.one (.sl 3 (at0.map (eA3 .i64))))), (1, I thing0), (2, I axis0)], []⟩ _
 refine Tri.seq (Tri.regionL ?_)
 refine Oc oa (OpsL.nilS ⟨[(0, .b (.one (.sl 3 (at0.map (eA3 .i64))))), (1, I thing0), (2, I axis0)], []⟩ rfl (Tri.seq (Tri.seq (Tri.regionL ?_))))
 refine Oc om (Oc (op_lss rfl rfl) (Oc om ?_))
 refine CgF (!(decide (thing0 < 1))) [] (fun g1 => trivial) (fun g1 => om) (CgF (!(decide (thing0 < 1))) [] (fun g2 => by exact trivial) (fun g2 => om) (CgF (!(decide (thing0 < 1))) [11] (fun g3 => by exact ⟨g3, trivial⟩) (fun g3 => op_len_e' und50 rfl (List.length_map _)) (CgF (!(decide (thing0 < 1))) [10, 12] (fun g4 => by exact ⟨g4, g4, trivial⟩) (fun g4 => op_gtr rfl rfl) (OpsL.consB h rfl (op_pick_or (fun e => by rw [e]; rfl) rfl rfl rfl rfl) (fun x_1 h => ?_)))))
 refine OpsL.nilS ⟨[(0, _), (1, _), (2, _), (14, B x_1)], []⟩ rfl (Tri.ite h rfl (fun _ h => ?_) (fun _ h => ?_))
 ·refine Tri.seq (Tri.regionL ?_)
  refine Oc oa (OpsL.nilS ⟨[(6, I 0)], []⟩ rfl (Tri.ret (Fin.then_ret ?_)))
  obtain rfl := Option.some.inj h
  refine Fin.keepS ⟨[(6, _)], []⟩ rfl (Fin.result' [.one (.i 0)] (.inl rfl) rfl (.cons (.tmp rfl) .nil) ⟨rfl, rfl⟩)
 ·refine Tri.skip (Fin.keepS ⟨[(0, _), (1, _), (2, _)], []⟩ rfl (Fin.then (Tri.seq (Tri.regionL ?_))))
  refine Oc om (Oc om (Oc (op_sub rfl rfl) (Oc om ?_)))
  obtain ⟨x_2, e5, h⟩ := bnd h
  refine Oc (op_index_e tySl50 (ix_lo e5) (ix_map (e := (eA3 .i64)) e5) rfl rfl) ?_
  obtain ⟨x_3, e6, h⟩ := bnd h
  refine Oc (op_index_ea tyArr52 (ix_lo e6) (ix_hi e6) rfl rfl (ix_flat (e := (fun z => [CP.int .i64 z])) (sz := 1) (fun _ => rfl) e6)) (Oc (op_load_e1 tyOne3 rfl rfl) (Oc oa ?_))
  refine OpsL.nilS ⟨[(6, I x_3)], []⟩ rfl (Tri.ret ?_)
  obtain rfl := Option.some.inj h
  refine Fin.keepS ⟨[(6, _)], []⟩ rfl (Fin.result' [.one (.i x_3)] (.inl rfl) rfl (.cons (.tmp rfl) .nil) ⟨rfl, rfl⟩)
def skewbackref39_Fits_S (F : Nat) (l0 : List Report) (now0 : Int) (at0 : List A3) : Option Bool :=
 Option.bind (iter F (fun i_1 => if (decide (i_1 < (l0.length : Int))) = true then ((idx? l0 i_1).bind fun x_2 => (idx? l0 i_1).bind fun x_3 => (skewbackref39_offset_S F at0 x_2.B x_3.Axis).bind fun x_4 => (idx? l0 i_1).bind fun x_5 => (idx? l0 i_1).bind fun x_6 => (skewbackref39_offset_S F at0 x_5.A x_6.Axis).bind fun x_7 => (idx? l0 i_1).bind fun x_8 => (gcall (decide (x_8.Time ≤ now0)) (idx? l0 i_1)).bind fun x_9 => (gcall ((decide (x_8.Time ≤ now0)) && !(decide ((IntKind.i64.wrap (x_4 - x_7)) < x_9.Lo))) (idx? l0 i_1)).bind fun x_10 => letN ((decide (x_8.Time ≤ now0)) && ((decide ((IntKind.i64.wrap (x_4 - x_7)) < x_9.Lo)) || (decide (x_10.Hi < (IntKind.i64.wrap (x_4 - x_7)))))) fun x_11 => if x_11 = true then (some (.inr (.inr false))) else (some (.inl (IntKind.i64.wrap (i_1 + 1))))) else (some (.inr (.inl ())))) 0) (alt2 (fun _ => some true) (fun y => some y))
theorem skewbackref39_Fits_spec {F : Nat} {l0 : List Report} {now0 : Int} {at0 : List A3} {r : Bool} (h : skewbackref39_Fits_S F l0 now0 at0 = some r) : Meets Try.prog [] 29 [] [.one (.sl 6 (l0.map eReport)), .one (.i now0), .one (.sl 3 (at0.map (eA3 .i64)))] (Is [] (.b (.one (.bool r)))) := by
 unfold skewbackref39_Fits_S at h
 refine Meets.intro 65 Try.func29 Try.ntmps29 rfl (by simp) fun E => ?_
 show Tri _ E ⟨65, [], [], []⟩ _ ⟨[(0, .b (.one (.sl 6 (l0.map eReport)))), (1, I now0), (2, .b (.one (.sl 3 (at0.map (eA3 .i64)))))], []⟩ _
 refine Tri.seq (Tri.regionL ?_)
 refine Oc oa (OpsL.nilS ⟨[(0, .b (.one (.sl 6 (l0.map eReport)))), (1, I now0), (2, .b (.one (.sl 3 (at0.map (eA3 .i64)))))], []⟩ rfl ?_)
 obtain ⟨v1, h2, h⟩ := bnd h
 refine Tri.seqJ (v := v1) (fun (_ : Unit) => ⟨[], []⟩) (fun z => .inl z) ?_ ?_
 ·refine Tri.seq (Tri.regionL ?_)
  refine Oc oa (OpsL.nilS ⟨[(0, _), (1, _), (2, _), (7, I 0)], []⟩ rfl (Tri.block (Tri.loopJ h2 (fun (i_1 : Int) => ⟨[(0, .b (.one (.sl 6 (l0.map eReport)))), (1, I now0), (2, .b (.one (.sl 3 (at0.map (eA3 .i64))))), (7, I i_1)], []⟩) [0, 1, 2, 7] [] rfl ?_)))
  rintro i_1 o3 h4 hy5
  refine Tri.seq (Tri.seq (Tri.regionL ?_))
  refine Oc om (Oc om (Oc (op_len_e' und22 rfl (List.length_map _)) (Oc (op_lss rfl rfl) ?_)))
  refine OpsL.nilS ⟨[(0, _), (1, _), (2, _), (7, _), (12, B (decide (i_1 < (l0.length : Int))))], []⟩ rfl (Tri.ite h4 rfl (fun _ h4 => ?_) (fun _ h4 => ?_))
  ·refine Tri.skip (Fin.keepS ⟨[(0, _), (1, _), (2, _), (7, _)], []⟩ rfl (Fin.then (Tri.seq (Tri.block (Tri.seq ?_)))))
   refine Tri.keepS ⟨[(0, _), (1, _), (2, _), (7, _)], []⟩ rfl ?_
   obtain ⟨x_2, e6, h4⟩ := bnd h4
   obtain ⟨x_3, e7, h4⟩ := bnd h4
   obtain ⟨x_4, e8, h4⟩ := bnd h4
   obtain ⟨x_5, e9, h4⟩ := bnd h4
   obtain ⟨x_6, e10, h4⟩ := bnd h4
   obtain ⟨x_7, e11, h4⟩ := bnd h4
   refine Tri.regionY mixed 26 [.b (.one (.sl 3 (at0.map (eA3 .i64)))), .b (.one (.sl 6 (l0.map eReport))), I i_1, .b (.eptr (eReport x_2)), .b (.eptr [.i x_2.B, .i x_2.Axis, .i x_2.Lo, .i x_2.Hi, .i x_2.Time]), I x_2.B, .b (.one (.sl 6 (l0.map eReport))), I i_1, .b (.eptr (eReport x_3)), .b (.eptr [.i x_3.Axis, .i x_3.Lo, .i x_3.Hi, .i x_3.Time]), I x_3.Axis, I x_4, .b (.one (.sl 3 (at0.map (eA3 .i64)))), .b (.one (.sl 6 (l0.map eReport))), I i_1, .b (.eptr (eReport x_5)), .b (.eptr (eReport x_5)), I x_5.A, .b (.one (.sl 6 (l0.map eReport))), I i_1, .b (.eptr (eReport x_6)), .b (.eptr [.i x_6.Axis, .i x_6.Lo, .i x_6.Hi, .i x_6.Time]), I x_6.Axis, I x_7, I (IntKind.i64.wrap (x_4 - x_7)), I (IntKind.i64.wrap (x_4 - x_7))] [0, 1, 2, 7, 8] [] (s' := ⟨[(0, _), (1, _), (2, _), (7, _), (8, I (IntKind.i64.wrap (x_4 - x_7)))], []⟩) rfl ⟨fun _ => .p om, fun _ => .p om, fun _ => .p om, fun _ => .p (op_index_e tySl22 (ix_lo e6) (ix_map (e := eReport) e6) rfl rfl), fun _ => by exact .p (op_field_e tyFld24_1 rfl rfl), fun _ => .p (op_load_e1 tyOne3 rfl rfl), fun _ => .p om, fun _ => .p om, fun _ => .p (op_index_e tySl22 (ix_lo e7) (ix_map (e := eReport) e7) rfl rfl), fun _ => by exact .p (op_field_e tyFld24_2 rfl rfl), fun _ => .p (op_load_e1 tyOne3 rfl rfl), fun _ => .p (op_call0 (skewbackref39_offset_spec e8) goes53 rfl rfl), fun _ => .p om, fun _ => .p om, fun _ => .p om, fun _ => .p (op_index_e tySl22 (ix_lo e9) (ix_map (e := eReport) e9) rfl rfl), fun _ => by exact .p (op_field_e tyFld24_0 rfl rfl), fun _ => .p (op_load_e1 tyOne3 rfl rfl), fun _ => .p om, fun _ => .p om, fun _ => .p (op_index_e tySl22 (ix_lo e10) (ix_map (e := eReport) e10) rfl rfl), fun _ => by exact .p (op_field_e tyFld24_2 rfl rfl), fun _ => .p (op_load_e1 tyOne3 rfl rfl), fun _ => .p (op_call0 (skewbackref39_offset_spec e11) goes53 rfl rfl), fun _ => .p (op_sub rfl rfl), fun _ => .p oa, trivial⟩ rfl rfl (Tri.seq (Tri.regionL ?_))
   refine Oc om (Oc om ?_)
   obtain ⟨x_8, e12, h4⟩ := bnd h4
   refine Oc (op_index_e tySl22 (ix_lo e12) (ix_map (e := eReport) e12) rfl rfl) (Oc (op_field_e tyFld24_5 rfl rfl) (Oc (op_load_e1 tyOne3 rfl rfl) (Oc om (Oc (op_leq rfl rfl) ?_))))
   refine OpsL.keepS ⟨[(0, _), (1, _), (2, _), (7, _), (8, _), (46, B (decide (x_8.Time ≤ now0)))], []⟩ rfl (Oc om (CgT (decide (x_8.Time ≤ now0)) [] (fun g13 => by exact trivial) (fun g13 => om) (CgT (decide (x_8.Time ≤ now0)) [] (fun g14 => by exact trivial) (fun g14 => om) (CgT (decide (x_8.Time ≤ now0)) [] (fun g15 => by exact trivial) (fun g15 => om) ?_))))
   obtain ⟨x_9, e17, h4⟩ := bnd h4
   refine CgT (decide (x_8.Time ≤ now0)) [49, 50] (fun g16 => ⟨g16, g16, trivial⟩) (fun g16 => op_index_e tySl22 (ix_lo (gc e17 g16)) (ix_map (e := eReport) (gc e17 g16)) rfl rfl) (CgT (decide (x_8.Time ≤ now0)) [51] (fun g18 => ⟨g18, trivial⟩) (fun g18 => op_field_e tyFld24_3 rfl rfl) (CgT (decide (x_8.Time ≤ now0)) [52] (fun g19 => ⟨g19, trivial⟩) (fun g19 => op_load_e1 tyOne3 rfl rfl) (CgT (decide (x_8.Time ≤ now0)) [48, 53] (fun g20 => ⟨g20, g20, trivial⟩) (fun g20 => op_lss rfl rfl) (OpsL.keepS ⟨[(0, _), (1, _), (2, _), (7, _), (8, _), (47, B (decide (x_8.Time ≤ now0))), (54, .opt (decide (x_8.Time ≤ now0)) (.one (.bool (decide ((IntKind.i64.wrap (x_4 - x_7)) < x_9.Lo)))))], []⟩ rfl (CgT (decide (x_8.Time ≤ now0)) [54] (fun g21 => ⟨g21, trivial⟩) (fun g21 => om) ?_)))))
   refine OpsL.consG ((decide (x_8.Time ≤ now0)) && !(decide ((IntKind.i64.wrap (x_4 - x_7)) < x_9.Lo))) 99 [] (.under rfl) (and_f _ _) rfl rfl (fun g22 => trivial) (fun g22 => om) (OpsL.consG ((decide (x_8.Time ≤ now0)) && !(decide ((IntKind.i64.wrap (x_4 - x_7)) < x_9.Lo))) 99 [] (.under rfl) (and_f _ _) rfl rfl (fun g23 => trivial) (fun g23 => om) (OpsL.consG ((decide (x_8.Time ≤ now0)) && !(decide ((IntKind.i64.wrap (x_4 - x_7)) < x_9.Lo))) 99 [] (.under rfl) (and_f _ _) rfl rfl (fun g24 => trivial) (fun g24 => om) ?_))
   obtain ⟨x_10, e26, h4⟩ := bnd h4
   refine OpsL.consG ((decide (x_8.Time ≤ now0)) && !(decide ((IntKind.i64.wrap (x_4 - x_7)) < x_9.Lo))) 99 [57, 58] (.under rfl) (and_f _ _) rfl rfl (fun g25 => ⟨g25, g25, trivial⟩) (fun g25 => op_index_e tySl22 (ix_lo (gc e26 g25)) (ix_map (e := eReport) (gc e26 g25)) rfl rfl) (OpsL.consG ((decide (x_8.Time ≤ now0)) && !(decide ((IntKind.i64.wrap (x_4 - x_7)) < x_9.Lo))) 99 [59] (.under rfl) (and_f _ _) rfl rfl (fun g27 => ⟨g27, trivial⟩) (fun g27 => op_field_e tyFld24_4 rfl rfl) (OpsL.consG ((decide (x_8.Time ≤ now0)) && !(decide ((IntKind.i64.wrap (x_4 - x_7)) < x_9.Lo))) 99 [60] (.under rfl) (and_f _ _) rfl rfl (fun g28 => ⟨g28, trivial⟩) (fun g28 => op_load_e1 tyOne3 rfl rfl) (OpsL.consG ((decide (x_8.Time ≤ now0)) && !(decide ((IntKind.i64.wrap (x_4 - x_7)) < x_9.Lo))) 99 [56, 61] (.under rfl) (and_f _ _) rfl rfl (fun g29 => ⟨g29, g29, trivial⟩) (fun g29 => op_gtr rfl rfl) (CgT (decide (x_8.Time ≤ now0)) [55] (fun g30 => ⟨g30, trivial⟩) (fun g30 => op_pick_or (fun e => by rw [g30, e]; rfl) rfl rfl rfl rfl) (OpsL.consB h4 rfl (op_pick_and (fun e => e) rfl rfl rfl rfl) (fun x_11 h4 => ?_))))))
   refine OpsL.nilS ⟨[(0, _), (1, _), (2, _), (7, _), (64, B x_11)], []⟩ rfl (Tri.ite h4 rfl (fun _ h4 => ?_) (fun _ h4 => ?_))
   ·refine Tri.seq (Tri.regionL ?_)
    refine Oc oa (OpsL.nilS ⟨[(6, B false)], []⟩ rfl (Tri.ret (Fin.block_ret (Fin.then_ret ?_))))
    obtain rfl := hy5 _ (Option.some.inj h4).symm
    refine Fin.then_ret (Fin.block_ret (Fin.then_ret ?_))
    obtain rfl := Option.some.inj h
    refine Fin.keepS ⟨[(6, _)], []⟩ rfl (Fin.result' [.one (.bool false)] (.inl rfl) rfl (.cons (.tmp rfl) .nil) ⟨rfl, rfl⟩)
   ·refine Tri.skip (Fin.block_normal (Fin.keepS ⟨[(0, _), (1, _), (2, _), (7, _)], []⟩ rfl (Fin.then (Tri.regionL ?_))))
    refine Oc om (Oc (op_add rfl rfl) (Oc oa ?_))
    refine OpsL.nil ?_
    exact Fin.againJ [0, 1, 2, 7] [] (IntKind.i64.wrap (i_1 + 1)) (Option.some.inj h4) rfl
  ·refine Tri.exit (Fin.then_exit ?_)
   obtain rfl := hy5 _ (Option.some.inj h4).symm
   refine Fin.then_exit (Fin.block_exit ?_)
   exact Fin.join [] [] () rfl rfl
 ·rintro _ hv
  subst v1
  refine Tri.seq (Tri.regionL ?_)
  refine Oc oa (OpsL.nilS ⟨[(6, B true)], []⟩ rfl (Tri.ret ?_))
  obtain rfl := Option.some.inj h
  refine Fin.keepS ⟨[(6, _)], []⟩ rfl (Fin.result' [.one (.bool true)] (.inl rfl) rfl (.cons (.tmp rfl) .nil) ⟨rfl, rfl⟩)
def skewbacklaw39_SensorReadsAsSpecified_S (F : Nat) (l0 : List Report) (now0 : Int) (at0 : List A3) : Option Bool :=
 letN ((decide (210 < (l0.length : Int))) || (decide (20 < (at0.length : Int)))) fun x_1 => if x_1 = true then ((skewbacklaw39_sanity_S F).bind fun x_2 => some x_2) else ((sensor_Check_S F l0).bind fun x_3 => (skewbackref39_Check_S F l0).bind fun x_4 => if (decide (x_3 ≠ x_4)) = true then (some false) else ((skewbackref39_Few_S F l0 30).bind fun x_5 => if (!x_5) = true then ((skewbacklaw39_sanity_S F).bind fun x_6 => some x_6) else (Option.bind (sensor_Solution_S F l0 now0) (un2 fun x_7 x_8 => (skewbackref39_Solution_S F l0 now0).bind fun x_9 => letN ((decide (x_8 ≠ x_9.E)) || (decide ((x_7.length : Int) ≠ (x_9.L.length : Int)))) fun x_10 => (gcall (!x_10) (sensor_Counting_S F l0 now0)).bind fun x_11 => (gcall (!x_10) (skewbackref39_Counting_S F l0 now0)).bind fun x_12 => (gcall (!x_10) (skewbacklaw39_ints_S F x_11 x_12)).bind fun x_13 => (gcall (!(x_10 || (!x_13))) (sensor_Consistent_S F l0 now0)).bind fun x_14 => (gcall (!(x_10 || (!x_13))) (skewbackref39_Consistent_S F l0 now0)).bind fun x_15 => if ((x_10 || (!x_13)) || (x_14 != x_15)) = true then (some false) else (Option.bind (iter F (fun x_16 => if (decide (x_16 < (x_7.length : Int))) = true then ((idx? x_7 x_16).bind fun x_17 => (idx? x_9.L x_16).bind fun x_18 => if (decide (x_17 ≠ x_18)) = true then (some (.inr (.inr false))) else (some (.inl (IntKind.i64.wrap (x_16 + 1))))) else (some (.inr (.inl ())))) 0) (alt2 (fun _ => Option.bind (iter F (fun x_19 => if (decide (x_19 < (at0.length : Int))) = true then (Option.bind ((idx? at0 x_19).bind fun x_20 => Option.bind (iter F (fun x_21 => if (decide (x_21 < 3)) = true then ((idx? x_20.l x_21).bind fun x_22 => letN ((decide (1125899906842624 < x_22)) || (decide (x_22 < (-1125899906842624)))) fun x_23 => if x_23 = true then ((skewbacklaw39_sanity_S F).bind fun x_24 => some (.inr (.inr x_24))) else (some (.inl (IntKind.i64.wrap (x_21 + 1))))) else (some (.inr (.inl ())))) 0) (alt2 (fun _ => some (.inl ())) (fun y => some (.inr y)))) (alt2 (fun _ => some (.inl (IntKind.i64.wrap (x_19 + 1)))) (fun y => some (.inr (.inr y))))) else (some (.inr (.inl ())))) 0) (alt2 (fun _ => (skewbacklaw39_sanity_S F).bind fun x_25 => (gcall x_25 (sensor_Fits_S F l0 now0 at0)).bind fun x_26 => (gcall x_25 (skewbackref39_Fits_S F l0 now0 at0)).bind fun x_27 => some (x_25 && (x_26 == x_27))) (fun y => some y))) (fun y => some y)))))))
theorem skewbacklaw39_SensorReadsAsSpecified_spec {F : Nat} {l0 : List Report} {now0 : Int} {at0 : List A3} {r : Bool} (h : skewbacklaw39_SensorReadsAsSpecified_S F l0 now0 at0 = some r) : Meets Try.prog [] 7 [] [.one (.sl 6 (l0.map eReport)), .one (.i now0), .one (.sl 3 (at0.map (eA3 .i64)))] (Is [] (.b (.one (.bool r)))) := by
 unfold skewbacklaw39_SensorReadsAsSpecified_S at h
 refine Meets.intro 120 Try.func7 Try.ntmps7 rfl (by simp) fun E => ?_
 show Tri _ E ⟨120, [], [], []⟩ _ ⟨[(0, .b (.one (.sl 6 (l0.map eReport)))), (1, I now0), (2, .b (.one (.sl 3 (at0.map (eA3 .i64)))))], []⟩ _
 refine Tri.seq (Tri.regionL ?_)
 refine Oc oa (OpsL.nilS ⟨[(0, .b (.one (.sl 6 (l0.map eReport)))), (1, I now0), (2, .b (.one (.sl 3 (at0.map (eA3 .i64)))))], []⟩ rfl (Tri.seq (Tri.seq (Tri.regionL ?_))))
 refine Oc om (Oc (op_len_e' und22 rfl (List.length_map _)) (Oc (op_gtr rfl rfl) (Oc om ?_)))
 refine CgF (!(decide (210 < (l0.length : Int)))) [] (fun g1 => trivial) (fun g1 => om) (OpsL.keepS ⟨[(0, _), (1, _), (2, _), (18, B (decide (210 < (l0.length : Int)))), (19, .opt (!(decide (210 < (l0.length : Int)))) (.one (.sl 3 (at0.map (eA3 .i64)))))], []⟩ rfl (CgF (!(decide (210 < (l0.length : Int)))) [19] (fun g2 => by exact ⟨g2, trivial⟩) (fun g2 => op_len_e' und50 rfl (List.length_map _)) (CgF (!(decide (210 < (l0.length : Int)))) [20] (fun g3 => by exact ⟨g3, trivial⟩) (fun g3 => op_gtr rfl rfl) (OpsL.consB h rfl (op_pick_or (fun e => by rw [e]; rfl) rfl rfl rfl rfl) (fun x_1 h => ?_)))))
 refine OpsL.nilS ⟨[(0, _), (1, _), (2, _), (22, B x_1)], []⟩ rfl (Tri.ite h rfl (fun _ h => ?_) (fun _ h => ?_))
 ·refine Tri.seq (Tri.regionL ?_)
  obtain ⟨x_2, e4, h⟩ := bnd h
  refine Oc (op_call0 (skewbacklaw39_sanity_spec e4) goes9 rfl rfl) (Oc oa ?_)
  refine OpsL.nilS ⟨[(6, B x_2)], []⟩ rfl (Tri.ret (Fin.then_ret ?_))
  obtain rfl := Option.some.inj h
  refine Fin.keepS ⟨[(6, _)], []⟩ rfl (Fin.result' [.one (.bool x_2)] (.inl rfl) rfl (.cons (.tmp rfl) .nil) ⟨rfl, rfl⟩)
 ·refine Tri.skip (Fin.keepS ⟨[(0, _), (1, _), (2, _)], []⟩ rfl (Fin.then (Tri.seq (Tri.seq (Tri.regionL ?_)))))
  refine Oc om ?_
  obtain ⟨x_3, e5, h⟩ := bnd h
  refine Oc (op_call0 (sensor_Check_spec e5) goes22 rfl rfl) (Oc om ?_)
  obtain ⟨x_4, e6, h⟩ := bnd h
  refine Oc (op_call0 (skewbackref39_Check_spec e6) goes23 rfl rfl) (Oc (op_neq rfl rfl) ?_)
  refine OpsL.nilS ⟨[(0, _), (1, _), (2, _), (28, B (decide (x_3 ≠ x_4)))], []⟩ rfl (Tri.ite h rfl (fun _ h => ?_) (fun _ h => ?_))
  ·refine Tri.seq (Tri.regionL ?_)
   refine Oc oa (OpsL.nilS ⟨[(6, B false)], []⟩ rfl (Tri.ret (Fin.then_ret ?_)))
   obtain rfl := Option.some.inj h
   refine Fin.keepS ⟨[(6, _)], []⟩ rfl (Fin.result' [.one (.bool false)] (.inl rfl) rfl (.cons (.tmp rfl) .nil) ⟨rfl, rfl⟩)
  ·refine Tri.skip (Fin.keepS ⟨[(0, _), (1, _), (2, _)], []⟩ rfl (Fin.then (Tri.seq (Tri.seq (Tri.regionL ?_)))))
   refine Oc om ?_
   obtain ⟨x_5, e7, h⟩ := bnd h
   refine Oc (op_call0 (skewbackref39_Few_spec e7) goes8 rfl rfl) (Oc (op_not rfl) ?_)
   refine OpsL.nilS ⟨[(0, _), (1, _), (2, _), (31, B (!x_5))], []⟩ rfl (Tri.ite h rfl (fun _ h => ?_) (fun _ h => ?_))
   ·refine Tri.seq (Tri.regionL ?_)
    obtain ⟨x_6, e8, h⟩ := bnd h
    refine Oc (op_call0 (skewbacklaw39_sanity_spec e8) goes9 rfl rfl) (Oc oa ?_)
    refine OpsL.nilS ⟨[(6, B x_6)], []⟩ rfl (Tri.ret (Fin.then_ret ?_))
    obtain rfl := Option.some.inj h
    refine Fin.keepS ⟨[(6, _)], []⟩ rfl (Fin.result' [.one (.bool x_6)] (.inl rfl) rfl (.cons (.tmp rfl) .nil) ⟨rfl, rfl⟩)
   ·refine Tri.skip (Fin.keepS ⟨[(0, _), (1, _), (2, _)], []⟩ rfl (Fin.then (Tri.seq (Tri.regionL ?_))))
    refine Oc om (Oc om ?_)
    obtain ⟨⟨x_7, x_8⟩, e9, h⟩ := bnd h
    refine Oc (op_call (sensor_Solution_spec 101 e9) goes24 rfl trivial rfl rfl) (Oc om (Oc (op_extract rfl rfl) ?_))
    refine OpsL.keepS ⟨[(0, _), (1, _), (2, _), (33, .tup [.row 101, .one (.i x_8)]), (37, .b (.row 101))], [(101, .row 52 3 (x_7.map (eA3 .i64)))]⟩ rfl (Oc (op_extract rfl rfl) (Oc oa (Oc oa ?_)))
    refine OpsL.nilS ⟨[(0, _), (1, _), (2, _), (7, .b (.row 101)), (8, I x_8)], [(101, _)]⟩ rfl (Tri.seq (Tri.regionL ?_))
    refine Oc om (Oc om ?_)
    obtain ⟨x_9, e10, h⟩ := bnd h
    refine Oc (op_call0 (skewbackref39_Solution_spec e10) goes25 rfl rfl) (Oc (op_alloc (k := 102) tyZero62 rfl) (Oc (op_store_p tyAgg62 rfl rfl rfl rfl (Nat.le_of_ble_eq_true rfl) rfl) ?_))
    refine OpsL.nilS ⟨[(0, _), (1, _), (2, _), (7, _), (8, _), (9, Pt 102 0)], [(101, _), (102, .box 62 (eSolved x_9))]⟩ rfl (Tri.seq (Tri.seq (Tri.regionL ?_)))
    refine Oc om (Oc (op_field_p tyFld62_1 rfl rfl) (Oc (op_load_p1 tyOne28 rfl rfl rfl) (Oc (op_neq rfl rfl) (Oc om ?_))))
    refine CgF (!(decide (x_8 ≠ x_9.E))) [] (fun g11 => trivial) (fun g11 => om) (OpsL.keepS ⟨[(0, _), (1, _), (2, _), (7, _), (9, _), (46, B (decide (x_8 ≠ x_9.E))), (47, .opt (!(decide (x_8 ≠ x_9.E))) (.row 101))], [(101, _), (102, _)]⟩ rfl (CgF (!(decide (x_8 ≠ x_9.E))) [47] (fun g12 => by exact ⟨g12, trivial⟩) (fun g12 => op_len_r' und50 rfl rfl (List.length_map _)) (CgF (!(decide (x_8 ≠ x_9.E))) [] (fun g13 => by exact trivial) (fun g13 => op_field_p tyFld62_0 rfl rfl) (CgF (!(decide (x_8 ≠ x_9.E))) [49] (fun g14 => by exact ⟨g14, trivial⟩) (fun g14 => op_load_p1 tyOne50 rfl rfl rfl) (CgF (!(decide (x_8 ≠ x_9.E))) [50] (fun g15 => by exact ⟨g15, trivial⟩) (fun g15 => op_len_e' und50 rfl (List.length_map _)) ?_)))))
    refine CgF (!(decide (x_8 ≠ x_9.E))) [48, 51] (fun g16 => ⟨g16, g16, trivial⟩) (fun g16 => op_neq rfl rfl) (OpsL.consB h rfl (op_pick_or (fun e => by rw [e]; rfl) rfl rfl rfl rfl) (fun x_10 h => ?_))
    refine Oc om (OpsL.keepS ⟨[(0, _), (1, _), (2, _), (7, _), (9, _), (54, B x_10)], [(101, _), (102, _)]⟩ rfl (CgF (!x_10) [] (fun g17 => by exact trivial) (fun g17 => om) (CgF (!x_10) [] (fun g18 => by exact trivial) (fun g18 => om) ?_)))
    obtain ⟨x_11, e20, h⟩ := bnd h
    refine CgF (!x_10) [55, 56] (fun g19 => ⟨g19, g19, trivial⟩) (fun g19 => op_call0 (((sensor_Counting_spec (gc e20 g19)).sw 51 0).persG) goes26 rfl rfl) (CgF (!x_10) [] (fun g21 => trivial) (fun g21 => om) (CgF (!x_10) [] (fun g22 => by exact trivial) (fun g22 => om) (OpsL.keepS ⟨[(0, _), (1, _), (2, _), (7, _), (9, _), (54, _), (57, .opt (!x_10) (.one (.sl 1 (x_11.map eI)))), (58, .opt (!x_10) (.one (.sl 6 (l0.map eReport)))), (59, .opt (!x_10) (.one (.i now0)))], [(101, _), (102, _)]⟩ rfl ?_)))
    obtain ⟨x_12, e24, h⟩ := bnd h
    refine CgF (!x_10) [58, 59] (fun g23 => ⟨g23, g23, trivial⟩) (fun g23 => op_call0 (skewbackref39_Counting_spec 0 (gc e24 g23)).persG goes27 rfl rfl) ?_
    obtain ⟨x_13, e26, h⟩ := bnd h
    refine CgF (!x_10) [57, 60] (fun g25 => ⟨g25, g25, trivial⟩) (fun g25 => op_call0 (skewbacklaw39_ints_spec (gc e26 g25)) goes16 rfl rfl) (CgF (!x_10) [61] (fun g27 => ⟨g27, trivial⟩) (fun g27 => op_not rfl) (Oc (op_pick_or (fun e => by rw [e]; rfl) rfl rfl rfl rfl) (Oc om ?_)))
    refine CgF (!(x_10 || (!x_13))) [] (fun g28 => trivial) (fun g28 => om) (OpsL.keepS ⟨[(0, _), (1, _), (2, _), (7, _), (9, _), (64, B (x_10 || (!x_13))), (65, .opt (!(x_10 || (!x_13))) (.one (.sl 6 (l0.map eReport))))], [(101, _), (102, _)]⟩ rfl (CgF (!(x_10 || (!x_13))) [] (fun g29 => by exact trivial) (fun g29 => om) ?_))
    obtain ⟨x_14, e31, h⟩ := bnd h
    refine CgF (!(x_10 || (!x_13))) [65, 66] (fun g30 => ⟨g30, g30, trivial⟩) (fun g30 => op_call0 (sensor_Consistent_spec (gc e31 g30)) goes17 rfl rfl) (CgF (!(x_10 || (!x_13))) [] (fun g32 => trivial) (fun g32 => om) (CgF (!(x_10 || (!x_13))) [] (fun g33 => by exact trivial) (fun g33 => om) (OpsL.keepS ⟨[(0, _), (1, _), (2, _), (7, _), (9, _), (64, _), (67, .opt (!(x_10 || (!x_13))) (.one (.bool x_14))), (68, .opt (!(x_10 || (!x_13))) (.one (.sl 6 (l0.map eReport)))), (69, .opt (!(x_10 || (!x_13))) (.one (.i now0)))], [(101, _), (102, _)]⟩ rfl ?_)))
    obtain ⟨x_15, e35, h⟩ := bnd h
    refine CgF (!(x_10 || (!x_13))) [68, 69] (fun g34 => ⟨g34, g34, trivial⟩) (fun g34 => op_call0 (skewbackref39_Consistent_spec (gc e35 g34)) goes28 rfl rfl) (CgF (!(x_10 || (!x_13))) [67, 70] (fun g36 => ⟨g36, g36, trivial⟩) (fun g36 => op_neq_bool und4 rfl rfl) (Oc (op_pick_or (fun e => by rw [e]; rfl) rfl rfl rfl rfl) (OpsL.nilS ⟨[(0, _), (1, _), (2, _), (7, _), (9, _), (72, B ((x_10 || (!x_13)) || (x_14 != x_15)))], [(101, _), (102, _)]⟩ rfl (Tri.ite h rfl (fun _ h => ?_) (fun _ h => ?_)))))
    ·refine Tri.seq (Tri.regionL ?_)
     refine Oc oa (OpsL.nilS ⟨[(6, B false)], []⟩ rfl (Tri.ret (Fin.then_ret ?_)))
     obtain rfl := Option.some.inj h
     refine Fin.keepS ⟨[(6, _)], []⟩ rfl (Fin.result' [.one (.bool false)] (.inl rfl) rfl (.cons (.tmp rfl) .nil) ⟨rfl, rfl⟩)
    ·refine Tri.skip (Fin.keepS ⟨[(0, _), (1, _), (2, _), (7, _), (9, _)], [(101, _), (102, _)]⟩ rfl (Fin.then ?_))
     obtain ⟨v37, h38, h⟩ := bnd h
     refine Tri.seqJ (v := v37) (fun (_ : Unit) => ⟨[(0, .b (.one (.sl 6 (l0.map eReport)))), (1, I now0), (2, .b (.one (.sl 3 (at0.map (eA3 .i64)))))], []⟩) (fun z => .inl z) ?_ ?_
     ·refine Tri.seq (Tri.regionL ?_)
      refine Oc om (Oc (op_len_r' und50 rfl rfl (List.length_map _)) (Oc om ?_))
      refine OpsL.nilS ⟨[(0, _), (1, _), (2, _), (7, _), (9, _), (74, I (x_7.length : Int)), (75, I 0)], [(101, _), (102, _)]⟩ rfl (Tri.block (Tri.loopJ h38 (fun (x_16 : Int) => ⟨[(0, .b (.one (.sl 6 (l0.map eReport)))), (1, I now0), (2, .b (.one (.sl 3 (at0.map (eA3 .i64))))), (7, .b (.row 101)), (9, Pt 102 0), (74, I (x_7.length : Int)), (75, I x_16)], [(101, .row 52 3 (x_7.map (eA3 .i64))), (102, .box 62 (eSolved x_9))]⟩) [0, 1, 2, 7, 9, 74, 75] [101, 102] rfl ?_))
      rintro x_16 o39 h40 hy41
      refine Tri.seq (Tri.regionL ?_)
      refine Oc (op_lss rfl rfl) (OpsL.nilS ⟨[(0, _), (1, _), (2, _), (7, _), (9, _), (74, _), (75, _), (76, B (decide (x_16 < (x_7.length : Int))))], [(101, _), (102, _)]⟩ rfl (Tri.seq (Tri.ite h40 rfl (fun _ h40 => ?_) (fun _ h40 => ?_))))
      ·refine Tri.skip (Fin.keepS ⟨[(0, _), (1, _), (2, _), (7, _), (9, _), (74, _), (75, _)], [(101, _), (102, _)]⟩ rfl (Fin.then (Tri.seq (Tri.block (Tri.seq (Tri.regionL ?_))))))
       refine Oc om (Oc oa ?_)
       refine OpsL.nilS ⟨[(0, _), (1, _), (2, _), (7, _), (9, _), (10, I x_16), (74, _), (75, _)], [(101, _), (102, _)]⟩ rfl (Tri.seq ?_)
       obtain ⟨x_17, e42, h40⟩ := bnd h40
       obtain ⟨x_18, e43, h40⟩ := bnd h40
       refine Tri.regionY mixed 10 [.b (.row 101), I x_16, .b (.rptr 101 ((x_16 : Int).toNat * 3)), .b (.agg ((eA3 .i64) x_17)), Pt 102 0, .b (.one (.sl 3 (x_9.L.map (eA3 .i64)))), I x_16, .b (.eptr ((eA3 .i64) x_18)), .b (.agg ((eA3 .i64) x_18)), B (decide (x_17 ≠ x_18))] [0, 1, 2, 7, 9, 74, 75, 87] [101, 102] (s' := ⟨[(0, _), (1, _), (2, _), (7, _), (9, _), (74, _), (75, _), (87, B (decide (x_17 ≠ x_18)))], [(101, _), (102, _)]⟩) rfl ⟨fun _ => .p om, fun _ => .p om, fun _ => .p (op_index_r tySl50 (ix_lo e42) (ix_lt' e42) rfl rfl rfl rfl), fun _ => .p (op_load_r (i := (x_16 : Int).toNat) (f := 0) tyAgg52 rfl rfl rfl (ix_map (e := (eA3 .i64)) e42) rfl rfl), fun _ => .p (op_field_p tyFld62_0 rfl rfl), fun _ => .p (op_load_p1 tyOne50 rfl rfl rfl), fun _ => .p om, fun _ => .p (op_index_e tySl50 (ix_lo e43) (ix_map (e := (eA3 .i64)) e43) rfl rfl), fun _ => .p (op_load_e tyAgg52 rfl rfl rfl), fun _ => .p (op_neq_agg (eqAgg52 x_17 x_18) rfl rfl neg_dec), trivial⟩ rfl rfl (Tri.ite h40 rfl (fun _ h40 => ?_) (fun _ h40 => ?_))
       ·refine Tri.seq (Tri.regionL ?_)
        refine Oc oa (OpsL.nilS ⟨[(6, B false)], []⟩ rfl (Tri.ret (Fin.block_ret (Fin.then_ret ?_))))
        obtain rfl := hy41 _ (Option.some.inj h40).symm
        refine Fin.then_ret (Fin.block_ret (Fin.then_ret ?_))
        obtain rfl := Option.some.inj h
        refine Fin.keepS ⟨[(6, _)], []⟩ rfl (Fin.result' [.one (.bool false)] (.inl rfl) rfl (.cons (.tmp rfl) .nil) ⟨rfl, rfl⟩)
       ·refine Tri.skip (Fin.block_normal (Fin.keepS ⟨[(0, _), (1, _), (2, _), (7, _), (9, _), (74, _), (75, _)], [(101, _), (102, _)]⟩ rfl (Fin.then (Tri.regionL ?_))))
        refine Oc (op_add rfl rfl) (Oc om ?_)
        refine OpsL.nil ?_
        exact Fin.againJ [0, 1, 2, 7, 9, 74, 75] [101, 102] (IntKind.i64.wrap (x_16 + 1)) (Option.some.inj h40) rfl
      ·refine Tri.exit (Fin.then_exit ?_)
       obtain rfl := hy41 _ (Option.some.inj h40).symm
       refine Fin.then_exit (Fin.block_exit ?_)
       exact Fin.join [0, 1, 2] [] () rfl rfl
     ·rintro _ hv
      subst v37
      obtain ⟨v44, h45, h⟩ := bnd h
      refine Tri.seqJ (v := v44) (fun (_ : Unit) => ⟨[(0, .b (.one (.sl 6 (l0.map eReport)))), (1, I now0), (2, .b (.one (.sl 3 (at0.map (eA3 .i64)))))], []⟩) (fun z => .inl z) ?_ ?_
      ·refine Tri.seq (Tri.regionL ?_)
       refine Oc om (Oc (op_len_e' und50 rfl (List.length_map _)) (Oc om ?_))
       refine OpsL.nilS ⟨[(0, _), (1, _), (2, _), (89, .b (.one (.sl 3 (at0.map (eA3 .i64))))), (90, I (at0.length : Int)), (91, I 0)], []⟩ rfl (Tri.block (Tri.loopJ h45 (fun (x_19 : Int) => ⟨[(0, .b (.one (.sl 6 (l0.map eReport)))), (1, I now0), (2, .b (.one (.sl 3 (at0.map (eA3 .i64))))), (89, .b (.one (.sl 3 (at0.map (eA3 .i64))))), (90, I (at0.length : Int)), (91, I x_19)], []⟩) [0, 1, 2, 89, 90, 91] [] rfl ?_))
       rintro x_19 o46 h47 hy48
       refine Tri.seq (Tri.regionL ?_)
       refine Oc (op_lss rfl rfl) (OpsL.nilS ⟨[(0, _), (1, _), (2, _), (89, _), (90, _), (91, _), (92, B (decide (x_19 < (at0.length : Int))))], []⟩ rfl (Tri.seq (Tri.ite h47 rfl (fun _ h47 => ?_) (fun _ h47 => ?_))))
       ·refine Tri.skip (Fin.keepS ⟨[(0, _), (1, _), (2, _), (89, _), (90, _), (91, _)], []⟩ rfl (Fin.then ?_))
        obtain ⟨v49, h50, h47⟩ := bnd h47
        refine Tri.seqJ (v := v49) (fun (_ : Unit) => ⟨[(0, .b (.one (.sl 6 (l0.map eReport)))), (1, I now0), (2, .b (.one (.sl 3 (at0.map (eA3 .i64))))), (89, .b (.one (.sl 3 (at0.map (eA3 .i64))))), (90, I (at0.length : Int)), (91, I x_19)], []⟩) (fun z => .inl z) ?_ ?_
        ·refine Tri.block (Tri.seq (Tri.regionL ?_))
         obtain ⟨x_20, e51, h50⟩ := bnd h50
         refine Oc (op_index_e tySl50 (ix_lo e51) (ix_map (e := (eA3 .i64)) e51) rfl rfl) (Oc (op_load_e tyAgg52 rfl rfl rfl) (Oc (op_alloc (k := 105) tyZero52 rfl) (Oc (op_store_p tyAgg52 rfl rfl rfl rfl (Nat.le_of_ble_eq_true rfl) rfl) ?_)))
         refine OpsL.nilS ⟨[(0, _), (1, _), (2, _), (12, Pt 105 0), (89, _), (90, _), (91, _)], [(105, .box 52 ((eA3 .i64) x_20))]⟩ rfl (Tri.seq (Tri.regionL ?_))
         refine Oc (lp tyAgg52) (Oc om ?_)
         refine OpsL.nilS ⟨[(0, _), (1, _), (2, _), (89, _), (90, _), (91, _), (95, .b (.agg ((eA3 .i64) x_20))), (96, I 0)], []⟩ rfl (Tri.block ?_)
         obtain ⟨v52, h53, h50⟩ := bnd h50
         refine Tri.loopJ h53 (fun (x_21 : Int) => ⟨[(0, .b (.one (.sl 6 (l0.map eReport)))), (1, I now0), (2, .b (.one (.sl 3 (at0.map (eA3 .i64))))), (89, .b (.one (.sl 3 (at0.map (eA3 .i64))))), (90, I (at0.length : Int)), (91, I x_19), (95, .b (.agg ((eA3 .i64) x_20))), (96, I x_21)], []⟩) [0, 1, 2, 89, 90, 91, 95, 96] [] rfl ?_
         rintro x_21 o54 h55 hy56
         refine Tri.seq (Tri.regionL ?_)
         refine Oc (op_lss rfl rfl) (OpsL.nilS ⟨[(0, _), (1, _), (2, _), (89, _), (90, _), (91, _), (95, _), (96, _), (97, B (decide (x_21 < 3)))], []⟩ rfl (Tri.seq (Tri.ite h55 rfl (fun _ h55 => ?_) (fun _ h55 => ?_))))
         ·refine Tri.skip (Fin.keepS ⟨[(0, _), (1, _), (2, _), (89, _), (90, _), (91, _), (95, _), (96, _)], []⟩ rfl (Fin.then (Tri.seq (Tri.block (Tri.seq (Tri.regionL ?_))))))
          obtain ⟨x_22, e57, h55⟩ := bnd h55
          refine Oc (op_index_a1 (m := 3) tyArr52 tyOne3 rfl rfl (ix_lo e57) (ix_hi e57) (ix_map (e := CP.int .i64) e57)) (Oc oa ?_)
          refine OpsL.nilS ⟨[(0, _), (1, _), (2, _), (14, I x_22), (89, _), (90, _), (91, _), (95, _), (96, _)], []⟩ rfl (Tri.seq (Tri.regionL ?_))
          refine Oc om (Oc (op_gtr rfl rfl) (Oc om ?_))
          refine CgF (!(decide (1125899906842624 < x_22))) [] (fun g58 => trivial) (fun g58 => om) (CgF (!(decide (1125899906842624 < x_22))) [102] (fun g59 => by exact ⟨g59, trivial⟩) (fun g59 => op_lss rfl rfl) (OpsL.consB h55 rfl (op_pick_or (fun e => by rw [e]; rfl) rfl rfl rfl rfl) (fun x_23 h55 => ?_)))
          refine OpsL.nilS ⟨[(0, _), (1, _), (2, _), (89, _), (90, _), (91, _), (95, _), (96, _), (104, B x_23)], []⟩ rfl (Tri.ite h55 rfl (fun _ h55 => ?_) (fun _ h55 => ?_))
          ·refine Tri.seq (Tri.regionL ?_)
           obtain ⟨x_24, e60, h55⟩ := bnd h55
           refine Oc (op_call0 (skewbacklaw39_sanity_spec e60) goes9 rfl rfl) (Oc oa ?_)
           refine OpsL.nilS ⟨[(6, B x_24)], []⟩ rfl (Tri.ret (Fin.block_ret (Fin.then_ret ?_)))
           obtain rfl := hy56 _ (Option.some.inj h55).symm
           refine Fin.then_ret (Fin.block_ret (Fin.block_ret ?_))
           obtain rfl := Option.some.inj h50
           refine Fin.then_ret ?_
           obtain rfl := hy48 _ (Option.some.inj h47).symm
           refine Fin.then_ret (Fin.block_ret (Fin.then_ret ?_))
           obtain rfl := Option.some.inj h
           refine Fin.keepS ⟨[(6, _)], []⟩ rfl (Fin.result' [.one (.bool x_24)] (.inl rfl) rfl (.cons (.tmp rfl) .nil) ⟨rfl, rfl⟩)
          ·refine Tri.skip (Fin.block_normal (Fin.keepS ⟨[(0, _), (1, _), (2, _), (89, _), (90, _), (91, _), (95, _), (96, _)], []⟩ rfl (Fin.then (Tri.regionL ?_))))
           refine Oc (op_add rfl rfl) (Oc om ?_)
           refine OpsL.nil ?_
           exact Fin.againJ [0, 1, 2, 89, 90, 91, 95, 96] [] (IntKind.i64.wrap (x_21 + 1)) (Option.some.inj h55) rfl
         ·refine Tri.exit (Fin.then_exit ?_)
          obtain rfl := hy56 _ (Option.some.inj h55).symm
          refine Fin.then_exit (Fin.block_exit (Fin.block_normal ?_))
          exact Fin.join [0, 1, 2, 89, 90, 91] [] () (Option.some.inj h50) rfl
        ·rintro _ hv
         subst v49
         refine Tri.regionL (Oc (op_add rfl rfl) (Oc om ?_))
         refine OpsL.nil ?_
         exact Fin.againJ [0, 1, 2, 89, 90, 91] [] (IntKind.i64.wrap (x_19 + 1)) (Option.some.inj h47) rfl
       ·refine Tri.exit (Fin.then_exit ?_)
        obtain rfl := hy48 _ (Option.some.inj h47).symm
        refine Fin.then_exit (Fin.block_exit ?_)
        exact Fin.join [0, 1, 2] [] () rfl rfl
      ·rintro _ hv
       subst v44
       refine Tri.seq (Tri.regionL ?_)
       obtain ⟨x_25, e61, h⟩ := bnd h
       refine Oc (op_call0 (skewbacklaw39_sanity_spec e61) goes9 rfl rfl) (Oc om ?_)
       refine CgT x_25 [] (fun g62 => trivial) (fun g62 => om) (CgT x_25 [] (fun g63 => by exact trivial) (fun g63 => om) (CgT x_25 [] (fun g64 => by exact trivial) (fun g64 => om) (OpsL.keepS ⟨[(0, _), (1, _), (2, _), (109, B x_25), (110, .opt x_25 (.one (.sl 6 (l0.map eReport)))), (111, .opt x_25 (.one (.i now0))), (112, .opt x_25 (.one (.sl 3 (at0.map (eA3 .i64)))))], []⟩ rfl ?_)))
       obtain ⟨x_26, e66, h⟩ := bnd h
       refine CgT x_25 [110, 111, 112] (fun g65 => ⟨g65, g65, g65, trivial⟩) (fun g65 => op_call0 (sensor_Fits_spec (gc e66 g65)) goes18 rfl rfl) (CgT x_25 [] (fun g67 => trivial) (fun g67 => om) (CgT x_25 [] (fun g68 => by exact trivial) (fun g68 => om) (CgT x_25 [] (fun g69 => by exact trivial) (fun g69 => om) ?_)))
       obtain ⟨x_27, e71, h⟩ := bnd h
       refine CgT x_25 [114, 115, 116] (fun g70 => ⟨g70, g70, g70, trivial⟩) (fun g70 => op_call0 (skewbackref39_Fits_spec (gc e71 g70)) goes29 rfl rfl) (CgT x_25 [113, 117] (fun g72 => ⟨g72, g72, trivial⟩) (fun g72 => op_eql_bool und4 rfl rfl) (Oc (op_pick_and (fun e => e) rfl rfl rfl rfl) (Oc oa ?_)))
       refine OpsL.nilS ⟨[(6, B (x_25 && (x_26 == x_27)))], []⟩ rfl (Tri.ret ?_)
       obtain rfl := Option.some.inj h
       refine Fin.keepS ⟨[(6, _)], []⟩ rfl (Fin.result' [.one (.bool (x_25 && (x_26 == x_27)))] (.inl rfl) rfl (.cons (.tmp rfl) .nil) ⟨rfl, rfl⟩)
end Go.Proofs.Ytimhhebjefkjlaa

