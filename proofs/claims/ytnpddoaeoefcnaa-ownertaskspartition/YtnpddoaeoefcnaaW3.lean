/- printed walks -/
import Derived.Test.YtnpddoaeoefcnaaW2
namespace Go.Proofs.Ytnpddoaeoefcnaa
open Go.Sk Go
set_option maxHeartbeats 4000000
set_option maxRecDepth 4000
set_option linter.unusedSimpArgs false
set_option linter.unusedVariables false
def skewbacklaw44_OwnerTasksPartition_S (F : Nat) (home0 : List Int) (sets0 : List (List Int)) : Option Bool :=
 (gcall (!(decide (40 < (home0.length : Int)))) (skewbacklaw44_few_S F sets0)).bind fun x_1 => (gcall (!((decide (40 < (home0.length : Int))) || (!x_1))) (skewbackref44_Homely_S F home0 16)).bind fun x_2 => (gcall (!(((decide (40 < (home0.length : Int))) || (!x_1)) || (!x_2))) (skewbackref44_Proper_S F home0 sets0)).bind fun x_3 => letN ((((decide (40 < (home0.length : Int))) || (!x_1)) || (!x_2)) || (!x_3)) fun x_4 => if x_4 = true then ((skewbacklaw44_sanity_S F).bind fun x_5 => some x_5) else (Option.bind (owner_Tasks_S F home0 sets0) (un2 fun x_6 x_7 => if (decide (x_7 ≠ 0)) = true then (some false) else (Option.bind (mk? (0 : Int) (home0.length : Int) (home0.length : Int)) (fun x_8 => Option.bind (iter F (un2 fun where_10 i_11 => if (decide (i_11 < (x_6.length : Int))) = true then (Option.bind ((idx? x_6 i_11).bind fun x_14 => (idx? x_6 i_11).bind fun x_15 => (app? [x_14.Owner] x_15.Helpers).bind fun x_16 => Option.bind (iter F (fun k_17 => if (decide (k_17 < (x_16.length : Int))) = true then ((idx? x_16 k_17).bind fun x_18 => (idx? x_16 (IntKind.i64.wrap (k_17 - 1))).bind fun x_19 => if (decide (x_18 ≤ x_19)) = true then (some (.inr (.inr false))) else (some (.inl (IntKind.i64.wrap (k_17 + 1))))) else (some (.inr (.inl ())))) 1) (alt2 (fun _ => Option.bind (mk? (false : Bool) (x_16.length : Int) (x_16.length : Int)) (fun x_20 => Option.bind (iter F (un3 fun where_23 used_24 k_25 => (idx? x_6 i_11).bind fun x_28 => if (decide (k_25 < (x_28.Bodies.length : Int))) = true then (Option.bind ((idx? x_6 i_11).bind fun x_31 => (idx? x_31.Bodies k_25).bind fun x_32 => (idx? where_23 x_32).bind fun x_33 => (gcall (!(decide (x_33 ≠ 0))) (idx? home0 x_32)).bind fun x_34 => (gcall (!((decide (x_33 ≠ 0)) || (decide (x_34 < 0)))) (idx? home0 x_32)).bind fun x_35 => (gcall (!((decide (x_33 ≠ 0)) || (decide (x_34 < 0)))) (skewbackref35_Has_S F x_16 x_35)).bind fun x_36 => if (((decide (x_33 ≠ 0)) || (decide (x_34 < 0))) || (!x_36)) = true then (some (.inr false)) else ((idx? where_23 x_32).bind fun x_37 => Option.bind (iter F (un2 fun used_38 n_39 => if (decide (n_39 < (x_16.length : Int))) = true then ((idx? used_38 n_39).bind fun x_41 => (gcall (!x_41) (idx? x_16 n_39)).bind fun x_42 => (gcall (!x_41) (idx? home0 x_32)).bind fun x_43 => (idx? used_38 n_39).bind fun x_44 => some (.inl (used_38.set (n_39 : Int).toNat (x_41 || (decide (x_42 = x_43))), IntKind.i64.wrap (n_39 + 1)))) else (some (.inr used_38))) (used_24, 0)) (fun used_40 => some (.inl (where_23.set (x_32 : Int).toNat (IntKind.i64.wrap (i_11 + 1)), used_40))))) (alt2 (un2 fun where_29 used_30 => some (.inl (where_29, used_30, IntKind.i64.wrap (k_25 + 1)))) (fun y => some (.inr (.inr y))))) else (some (.inr (.inl (where_23, used_24))))) (where_10, x_20, 0)) (alt2 (un2 fun where_21 used_22 => Option.bind (iter F (fun n_45 => if (decide (n_45 < (used_22.length : Int))) = true then ((idx? used_22 n_45).bind fun x_46 => if (!x_46) = true then (some (.inr (.inr false))) else (some (.inl (IntKind.i64.wrap (n_45 + 1))))) else (some (.inr (.inl ())))) 0) (alt2 (fun _ => some (.inl where_21)) (fun y => some (.inr y)))) (fun y => some (.inr y))))) (fun y => some (.inr y)))) (alt2 (fun where_13 => some (.inl (where_13, IntKind.i64.wrap (i_11 + 1)))) (fun y => some (.inr (.inr y))))) else (some (.inr (.inl where_10)))) (x_8, 0)) (alt2 (fun where_9 => Option.bind (iter F (fun b_47 => if (decide (b_47 < (home0.length : Int))) = true then ((idx? home0 b_47).bind fun x_48 => (idx? where_9 b_47).bind fun x_49 => if ((decide (0 ≤ x_48)) != (decide (0 < x_49))) = true then (some (.inr (.inr false))) else (some (.inl (IntKind.i64.wrap (b_47 + 1))))) else (some (.inr (.inl ())))) 0) (alt2 (fun _ => Option.bind (iter F (fun i_50 => if (decide (i_50 < (sets0.length : Int))) = true then (Option.bind (Option.bind (iter F (fun k_51 => (idx? sets0 i_50).bind fun x_52 => if (decide (k_51 < (x_52.length : Int))) = true then ((idx? sets0 i_50).bind fun x_53 => (idx? x_53 k_51).bind fun x_54 => (idx? where_9 x_54).bind fun x_55 => (idx? sets0 i_50).bind fun x_56 => (idx? x_56 0).bind fun x_57 => (idx? where_9 x_57).bind fun x_58 => if (decide (x_55 ≠ x_58)) = true then (some (.inr (.inr false))) else (some (.inl (IntKind.i64.wrap (k_51 + 1))))) else (some (.inr (.inl ())))) 1) (alt2 (fun _ => some (.inl ())) (fun y => some (.inr y)))) (alt2 (fun _ => some (.inl (IntKind.i64.wrap (i_50 + 1)))) (fun y => some (.inr (.inr y))))) else (some (.inr (.inl ())))) 0) (alt2 (fun _ => (skewbacklaw44_sanity_S F).bind fun x_59 => some x_59) (fun y => some y))) (fun y => some y))) (fun y => some y))))))
theorem skewbacklaw44_OwnerTasksPartition_spec {F : Nat} {home0 : List Int} {sets0 : List (List Int)} {r : Bool} (h : skewbacklaw44_OwnerTasksPartition_S F home0 sets0 = some r) : Meets Try.prog [] 4 [] [.one (.sl 1 (home0.map eI)), .one (.sl 1 (sets0.map (eL 1 eI)))] (Is [] (.b (.one (.bool r)))) := by
 unfold skewbacklaw44_OwnerTasksPartition_S at h
 refine Meets.intro 219 Try.func4 Try.ntmps4 rfl (by simp) fun E => ?_
 show Tri _ E ⟨219, [], [], []⟩ _ ⟨[(0, .b (.one (.sl 1 (home0.map eI)))), (1, .b (.one (.sl 1 (sets0.map (eL 1 eI)))))], []⟩ _
 refine Tri.seq (Tri.regionL ?_)
 refine Oc oa (OpsL.nilS ⟨[(0, .b (.one (.sl 1 (home0.map eI)))), (1, .b (.one (.sl 1 (sets0.map (eL 1 eI)))))], []⟩ rfl (Tri.seq (Tri.seq (Tri.regionL ?_))))
 refine Oc om (Oc (op_len_e' und22 rfl (List.length_map _)) (Oc (op_gtr rfl rfl) (Oc om ?_)))
 refine CgF (!(decide (40 < (home0.length : Int)))) [] (fun g1 => trivial) (fun g1 => om) (OpsL.keepS ⟨[(0, _), (1, _), (22, B (decide (40 < (home0.length : Int)))), (23, .opt (!(decide (40 < (home0.length : Int)))) (.one (.sl 1 (sets0.map (eL 1 eI)))))], []⟩ rfl ?_)
 obtain ⟨x_1, e3, h⟩ := bnd h
 refine CgF (!(decide (40 < (home0.length : Int)))) [23] (fun g2 => ⟨g2, trivial⟩) (fun g2 => op_call0 (skewbacklaw44_few_spec (gc e3 g2)) goes9 rfl rfl) (CgF (!(decide (40 < (home0.length : Int)))) [24] (fun g4 => ⟨g4, trivial⟩) (fun g4 => op_not rfl) (Oc (op_pick_or (fun e => by first | (rw [e]; rfl) | (simp only at e; rw [e]; rfl)) rfl rfl rfl rfl) (Oc om ?_)))
 refine CgF (!((decide (40 < (home0.length : Int))) || (!x_1))) [] (fun g5 => trivial) (fun g5 => om) ?_
 obtain ⟨x_2, e7, h⟩ := bnd h
 refine CgF (!((decide (40 < (home0.length : Int))) || (!x_1))) [28] (fun g6 => ⟨g6, trivial⟩) (fun g6 => op_call0 (skewbackref44_Homely_spec (gc e7 g6)) goes24 rfl rfl) (OpsL.keepS ⟨[(0, _), (1, _), (27, B ((decide (40 < (home0.length : Int))) || (!x_1))), (29, .opt (!((decide (40 < (home0.length : Int))) || (!x_1))) (.one (.bool x_2)))], []⟩ rfl (CgF (!((decide (40 < (home0.length : Int))) || (!x_1))) [29] (fun g8 => ⟨g8, trivial⟩) (fun g8 => op_not rfl) (Oc (op_pick_or (fun e => by first | (rw [e]; rfl) | (simp only at e; rw [e]; rfl)) rfl rfl rfl rfl) (Oc om ?_))))
 refine CgF (!(((decide (40 < (home0.length : Int))) || (!x_1)) || (!x_2))) [] (fun g9 => trivial) (fun g9 => om) (CgF (!(((decide (40 < (home0.length : Int))) || (!x_1)) || (!x_2))) [] (fun g10 => by exact trivial) (fun g10 => om) ?_)
 obtain ⟨x_3, e12, h⟩ := bnd h
 refine CgF (!(((decide (40 < (home0.length : Int))) || (!x_1)) || (!x_2))) [33, 34] (fun g11 => ⟨g11, g11, trivial⟩) (fun g11 => op_call0 (skewbackref44_Proper_spec (gc e12 g11)) goes25 rfl rfl) (CgF (!(((decide (40 < (home0.length : Int))) || (!x_1)) || (!x_2))) [35] (fun g13 => ⟨g13, trivial⟩) (fun g13 => op_not rfl) (OpsL.consB h rfl (op_pick_or (fun e => by first | (rw [e]; rfl) | (simp only at e; rw [e]; rfl)) rfl rfl rfl rfl) (fun x_4 h => ?_)))
 refine OpsL.nilS ⟨[(0, _), (1, _), (37, B x_4)], []⟩ rfl (Tri.ite h rfl (fun _ h => ?_) (fun _ h => ?_))
 ·refine Tri.seq (Tri.regionL ?_)
  obtain ⟨x_5, e14, h⟩ := bnd h
  refine Oc (op_call0 (skewbacklaw44_sanity_spec e14) goes10 rfl rfl) (Oc oa ?_)
  refine OpsL.nilS ⟨[(4, B x_5)], []⟩ rfl (Tri.ret (Fin.then_ret ?_))
  obtain rfl := Option.some.inj h
  refine Fin.keepS ⟨[(4, _)], []⟩ rfl (Fin.result' [.one (.bool x_5)] (.inl rfl) rfl (.cons (.tmp rfl) .nil) ⟨rfl, rfl⟩)
 ·refine Tri.skip (Fin.keepS ⟨[(0, _), (1, _)], []⟩ rfl (Fin.then (Tri.seq (Tri.regionL ?_))))
  refine Oc om (Oc om ?_)
  obtain ⟨⟨x_6, x_7⟩, e15, h⟩ := bnd h
  refine Oc (op_call (owner_Tasks_spec 101 e15) goes26 rfl trivial rfl rfl) (Oc om (Oc (op_extract rfl rfl) ?_))
  refine OpsL.keepS ⟨[(0, _), (1, _), (39, .tup [.row 101, .one (.i x_7)]), (43, .b (.row 101))], [(101, .row 59 3 (x_6.map eTask))]⟩ rfl (Oc (op_extract rfl rfl) (Oc oa (Oc oa ?_)))
  refine OpsL.nilS ⟨[(0, _), (1, _), (5, .b (.row 101)), (6, I x_7)], [(101, _)]⟩ rfl (Tri.seq (Tri.seq (Tri.regionL ?_)))
  refine Oc om (Oc (op_neq rfl rfl) ?_)
  refine OpsL.nilS ⟨[(0, _), (1, _), (5, _), (46, B (decide (x_7 ≠ 0)))], [(101, _)]⟩ rfl (Tri.ite h rfl (fun _ h => ?_) (fun _ h => ?_))
  ·refine Tri.seq (Tri.regionL ?_)
   refine Oc oa (OpsL.nilS ⟨[(4, B false)], []⟩ rfl (Tri.ret (Fin.then_ret ?_)))
   obtain rfl := Option.some.inj h
   refine Fin.keepS ⟨[(4, _)], []⟩ rfl (Fin.result' [.one (.bool false)] (.inl rfl) rfl (.cons (.tmp rfl) .nil) ⟨rfl, rfl⟩)
  ·refine Tri.skip (Fin.keepS ⟨[(0, _), (1, _), (5, _)], [(101, _)]⟩ rfl (Fin.then (Tri.seq (Tri.regionL ?_))))
   refine Oc om (Oc (op_len_e' und22 rfl (List.length_map _)) ?_)
   obtain ⟨x_8, e16, h⟩ := bnd h
   refine Oc (op_makeSlice (k := 102) (enc := eI) tySl22 e16 (by decide) (.cons .refl .nil) rfl rfl rfl) (Oc oa ?_)
   refine OpsL.nilS ⟨[(0, _), (1, _), (5, _), (7, .b (.row 102))], [(101, _), (102, .row 3 1 (x_8.map eI))]⟩ rfl ?_
   obtain ⟨v17, h18, h⟩ := bnd h
   refine Tri.seqJ (v := v17) (fun (where_9 : List Int) => ⟨[(0, .b (.one (.sl 1 (home0.map eI)))), (1, .b (.one (.sl 1 (sets0.map (eL 1 eI))))), (7, .b (.row 102))], [(102, .row 3 1 (where_9.map eI))]⟩) (fun z => .inl z) ?_ ?_
   ·refine Tri.seq (Tri.regionL ?_)
    refine Oc oa (OpsL.nilS ⟨[(0, _), (1, _), (5, _), (7, _), (8, I 0)], [(101, _), (102, _)]⟩ rfl (Tri.block (Tri.loopJ h18 (un2 fun (where_10 : List Int) (i_11 : Int) => ⟨[(0, .b (.one (.sl 1 (home0.map eI)))), (1, .b (.one (.sl 1 (sets0.map (eL 1 eI))))), (5, .b (.row 101)), (7, .b (.row 102)), (8, I i_11)], [(101, .row 59 3 (x_6.map eTask)), (102, .row 3 1 (where_10.map eI))]⟩) [0, 1, 5, 7, 8] [101, 102] rfl ?_)))
    rintro ⟨where_10, i_11⟩ o19 h20 hy21
    refine Tri.seq (Tri.seq (Tri.regionL ?_))
    refine Oc om (Oc om (Oc (op_len_r' und29 rfl rfl (List.length_map _)) (Oc (op_lss rfl rfl) ?_)))
    refine OpsL.nilS ⟨[(0, _), (1, _), (5, _), (7, _), (8, _), (53, B (decide (i_11 < (x_6.length : Int))))], [(101, _), (102, _)]⟩ rfl (Tri.ite h20 rfl (fun _ h20 => ?_) (fun _ h20 => ?_))
    ·refine Tri.skip (Fin.keepS ⟨[(0, _), (1, _), (5, _), (7, _), (8, _)], [(101, _), (102, _)]⟩ rfl (Fin.then ?_))
     obtain ⟨v22, h23, h20⟩ := bnd h20
     refine Tri.seqJ (v := v22) (fun (where_13 : List Int) => ⟨[(0, .b (.one (.sl 1 (home0.map eI)))), (1, .b (.one (.sl 1 (sets0.map (eL 1 eI))))), (5, .b (.row 101)), (7, .b (.row 102)), (8, I i_11)], [(101, .row 59 3 (x_6.map eTask)), (102, .row 3 1 (where_13.map eI))]⟩) (fun z => .inl z) ?_ ?_
     ·refine Tri.block (Tri.seq ?_)
      refine Tri.keepS ⟨[(0, _), (1, _), (5, _), (7, _), (8, _)], [(101, _), (102, _)]⟩ rfl ?_
      obtain ⟨x_14, e24, h23⟩ := bnd h23
      obtain ⟨x_15, e25, h23⟩ := bnd h23
      obtain ⟨x_16, e26, h23⟩ := bnd h23
      refine Tri.regionW mixed [false, false, false, false, false, true, false, false, false, false, false, true, false] [.b (.row 101), I i_11, .b (.rptr 101 ((i_11 : Int).toNat * 3)), .b (.rptr 101 ((i_11 : Int).toNat * 3)), I x_14.Owner, .b (.row 103), .b (.row 101), I i_11, .b (.rptr 101 ((i_11 : Int).toNat * 3)), .b (.rptr 101 ((i_11 : Int).toNat * 3 + 2)), .b (.one (.sl 1 (x_15.Helpers.map eI))), .b (.row 104), .b (.row 104)] [⟨[false, false, false, false, false, false, false, false, false, false, false, false, false], [(0, .b (.one (.sl 1 (home0.map eI)))), (1, .b (.one (.sl 1 (sets0.map (eL 1 eI))))), (5, .b (.row 101)), (7, .b (.row 102)), (8, I i_11)], [(101, .row 59 3 (x_6.map eTask)), (102, .row 3 1 (where_10.map eI))], [true, true, true, true, true, true, true, true, true, true, true, true, true], [], [11, 12]⟩, ⟨[false, false, false, false, false, true, false, false, false, false, false, false, false], [(0, .b (.one (.sl 1 (home0.map eI)))), (1, .b (.one (.sl 1 (sets0.map (eL 1 eI))))), (5, .b (.row 101)), (7, .b (.row 102)), (8, I i_11)], [(101, .row 59 3 (x_6.map eTask)), (102, .row 3 1 (where_10.map eI)), (103, .row 3 1 ([x_14.Owner].map eI))], [true, true, true, true, true, true, true, true, true, true, true, true, true], [0, 1, 2, 3, 4, 5], [12]⟩, ⟨[false, false, false, false, false, true, false, false, false, false, false, true, false], [(0, .b (.one (.sl 1 (home0.map eI)))), (1, .b (.one (.sl 1 (sets0.map (eL 1 eI))))), (5, .b (.row 101)), (7, .b (.row 102)), (8, I i_11)], [(101, .row 59 3 (x_6.map eTask)), (102, .row 3 1 (where_10.map eI)), (104, .row 3 1 (x_16.map eI))], [true, true, true, true, true, true, true, true, true, true, true, true, true], [0, 1, 2, 3, 4, 5, 6, 7, 8, 9, 10, 11], []⟩] rfl (⟨by kernel_rfl, ⟨⟨.b (.row 101), fun _ => rfl, fun _ => .p (by exact op_move rfl)⟩, ⟨I i_11, fun _ => rfl, fun _ => .p (by exact op_move rfl)⟩, ⟨.b (.rptr 101 ((i_11 : Int).toNat * 3)), fun _ => rfl, fun _ => .p (by exact op_index_r tySl29 (ix_lo e24) (ix_lt' e24) rfl rfl rfl rfl)⟩, ⟨.b (.rptr 101 ((i_11 : Int).toNat * 3)), fun _ => rfl, fun _ => .p (by exact op_field_r tyFld59_0 rfl rfl)⟩, ⟨I x_14.Owner, fun _ => rfl, fun _ => .p (by exact op_load_r1 (i := (i_11 : Int).toNat) (f := 0) tyOne3 rfl rfl rfl (ix_map (e := eTask) e24) rfl)⟩, ⟨_, [103], .b (.row 103), rfl, fun _ => rfl, rfl, rfl, fun _ => .toO [101, 102, 103] (by exact .p (by exact op_buildSlice (k := 103) (es := [x_14.Owner].map eI) tySl22 rfl rfl (uni_map fun _ => rfl) rfl (by decide) (by decide) rfl)) (by exact rfl)⟩, ⟨.b (.row 101), fun _ => rfl, fun _ => .p (by exact op_move rfl)⟩, ⟨I i_11, fun _ => rfl, fun _ => .p (by exact op_move rfl)⟩, ⟨.b (.rptr 101 ((i_11 : Int).toNat * 3)), fun _ => rfl, fun _ => .p (by exact op_index_r tySl29 (ix_lo e25) (ix_lt' e25) rfl rfl rfl rfl)⟩, ⟨.b (.rptr 101 ((i_11 : Int).toNat * 3 + 2)), fun _ => rfl, fun _ => .p (by exact op_field_r tyFld59_2 rfl rfl)⟩, ⟨.b (.one (.sl 1 (x_15.Helpers.map eI))), fun _ => rfl, fun _ => .p (by exact op_load_r1 (i := (i_11 : Int).toNat) (f := 2) tyOne22 rfl rfl rfl (ix_map (e := eTask) e25) rfl)⟩, trivial, trivial, trivial⟩, ⟨by kernel_rfl, ⟨trivial, trivial, trivial, trivial, trivial, trivial, ⟨.b (.row 101), fun _ => rfl, fun _ => .p (by exact op_move rfl)⟩, ⟨I i_11, fun _ => rfl, fun _ => .p (by exact op_move rfl)⟩, ⟨.b (.rptr 101 ((i_11 : Int).toNat * 3)), fun _ => rfl, fun _ => .p (by exact op_index_r tySl29 (ix_lo e25) (ix_lt' e25) rfl rfl rfl rfl)⟩, ⟨.b (.rptr 101 ((i_11 : Int).toNat * 3 + 2)), fun _ => rfl, fun _ => .p (by exact op_field_r tyFld59_2 rfl rfl)⟩, ⟨.b (.one (.sl 1 (x_15.Helpers.map eI))), fun _ => rfl, fun _ => .p (by exact op_load_r1 (i := (i_11 : Int).toNat) (f := 2) tyOne22 rfl rfl rfl (ix_map (e := eTask) e25) rfl)⟩, ⟨_, [104], .b (.row 104), rfl, fun _ => rfl, rfl, rfl, fun _ => .toO [101, 102, 104] (by exact .p (by exact op_append_to (k2 := 104) tySl22 (app_b e26) (app_m e26) rfl rfl rfl (app_map e26) rfl rfl rfl rfl rfl)) (by exact rfl)⟩, trivial, trivial⟩, ⟨by kernel_rfl, ⟨trivial, trivial, trivial, trivial, trivial, trivial, trivial, trivial, trivial, trivial, trivial, trivial, ⟨.b (.row 104), fun _ => rfl, fun _ => .p (by exact op_assign rfl)⟩, trivial⟩, trivial⟩⟩⟩) rfl rfl rfl [0, 1, 5, 7, 8, 9] [101, 102, 104] (s' := ⟨[(0, _), (1, _), (5, _), (7, _), (8, _), (9, .b (.row 104))], [(101, _), (102, _), (104, .row 3 1 (x_16.map eI))]⟩) rfl ?_
      obtain ⟨v27, h28, h23⟩ := bnd h23
      refine Tri.seqJ (v := v27) (fun (_ : Unit) => ⟨[(0, .b (.one (.sl 1 (home0.map eI)))), (1, .b (.one (.sl 1 (sets0.map (eL 1 eI))))), (5, .b (.row 101)), (7, .b (.row 102)), (8, I i_11), (9, .b (.row 104))], [(101, .row 59 3 (x_6.map eTask)), (102, .row 3 1 (where_10.map eI)), (104, .row 3 1 (x_16.map eI))]⟩) (fun z => .inl z) ?_ ?_
      ·refine Tri.seq (Tri.regionL ?_)
       refine Oc oa (OpsL.nilS ⟨[(0, _), (1, _), (5, _), (7, _), (8, _), (9, _), (10, I 1)], [(101, _), (102, _), (104, _)]⟩ rfl (Tri.block (Tri.loopJ h28 (fun (k_17 : Int) => ⟨[(0, .b (.one (.sl 1 (home0.map eI)))), (1, .b (.one (.sl 1 (sets0.map (eL 1 eI))))), (5, .b (.row 101)), (7, .b (.row 102)), (8, I i_11), (9, .b (.row 104)), (10, I k_17)], [(101, .row 59 3 (x_6.map eTask)), (102, .row 3 1 (where_10.map eI)), (104, .row 3 1 (x_16.map eI))]⟩) [0, 1, 5, 7, 8, 9, 10] [101, 102, 104] rfl ?_)))
       rintro k_17 o29 h30 hy31
       refine Tri.seq (Tri.seq (Tri.regionL ?_))
       refine Oc om (Oc om (Oc (op_len_r' und22 rfl rfl (List.length_map _)) (Oc (op_lss rfl rfl) ?_)))
       refine OpsL.nilS ⟨[(0, _), (1, _), (5, _), (7, _), (8, _), (9, _), (10, _), (71, B (decide (k_17 < (x_16.length : Int))))], [(101, _), (102, _), (104, _)]⟩ rfl (Tri.ite h30 rfl (fun _ h30 => ?_) (fun _ h30 => ?_))
       ·refine Tri.skip (Fin.keepS ⟨[(0, _), (1, _), (5, _), (7, _), (8, _), (9, _), (10, _)], [(101, _), (102, _), (104, _)]⟩ rfl (Fin.then (Tri.seq (Tri.block (Tri.seq ?_)))))
        refine Tri.keepS ⟨[(0, _), (1, _), (5, _), (7, _), (8, _), (9, _), (10, _)], [(101, _), (102, _), (104, _)]⟩ rfl ?_
        obtain ⟨x_18, e32, h30⟩ := bnd h30
        obtain ⟨x_19, e33, h30⟩ := bnd h30
        refine Tri.regionY mixed 10 [.b (.row 104), I k_17, .b (.rptr 104 ((k_17 : Int).toNat * 1)), I x_18, .b (.row 104), I k_17, I (IntKind.i64.wrap (k_17 - 1)), .b (.rptr 104 ((IntKind.i64.wrap (k_17 - 1) : Int).toNat * 1)), I x_19, B (decide (x_18 ≤ x_19))] [0, 1, 5, 7, 8, 9, 10, 83] [101, 102, 104] (s' := ⟨[(0, _), (1, _), (5, _), (7, _), (8, _), (9, _), (10, _), (83, B (decide (x_18 ≤ x_19)))], [(101, _), (102, _), (104, _)]⟩) rfl ⟨fun _ => .p om, fun _ => .p om, fun _ => .p (op_index_r tySl22 (ix_lo e32) (ix_lt' e32) rfl rfl rfl rfl), fun _ => .p (op_load_r1 (i := (k_17 : Int).toNat) (f := 0) tyOne3 rfl rfl rfl (ix_map (e := eI) e32) rfl), fun _ => .p om, fun _ => .p om, fun _ => .p (op_sub rfl rfl), fun _ => .p (op_index_r tySl22 (ix_lo e33) (ix_lt' e33) rfl rfl rfl rfl), fun _ => .p (op_load_r1 (i := (IntKind.i64.wrap (k_17 - 1) : Int).toNat) (f := 0) tyOne3 rfl rfl rfl (ix_map (e := eI) e33) rfl), fun _ => .p (op_leq rfl rfl), trivial⟩ rfl rfl (Tri.ite h30 rfl (fun _ h30 => ?_) (fun _ h30 => ?_))
        ·refine Tri.seq (Tri.regionL ?_)
         refine Oc oa (OpsL.nilS ⟨[(4, B false)], []⟩ rfl (Tri.ret (Fin.block_ret (Fin.then_ret ?_))))
         obtain rfl := hy31 _ (Option.some.inj h30).symm
         refine Fin.then_ret (Fin.block_ret (Fin.then_ret (Fin.block_ret ?_)))
         obtain rfl := Option.some.inj h23
         refine Fin.then_ret ?_
         obtain rfl := hy21 _ (Option.some.inj h20).symm
         refine Fin.then_ret (Fin.block_ret (Fin.then_ret ?_))
         obtain rfl := Option.some.inj h
         refine Fin.keepS ⟨[(4, _)], []⟩ rfl (Fin.result' [.one (.bool false)] (.inl rfl) rfl (.cons (.tmp rfl) .nil) ⟨rfl, rfl⟩)
        ·refine Tri.skip (Fin.block_normal (Fin.keepS ⟨[(0, _), (1, _), (5, _), (7, _), (8, _), (9, _), (10, _)], [(101, _), (102, _), (104, _)]⟩ rfl (Fin.then (Tri.regionL ?_))))
         refine Oc om (Oc (op_add rfl rfl) (Oc oa ?_))
         refine OpsL.nil ?_
         exact Fin.againJ [0, 1, 5, 7, 8, 9, 10] [101, 102, 104] (IntKind.i64.wrap (k_17 + 1)) (Option.some.inj h30) rfl
       ·refine Tri.exit (Fin.then_exit ?_)
        obtain rfl := hy31 _ (Option.some.inj h30).symm
        refine Fin.then_exit (Fin.block_exit ?_)
        exact Fin.join [0, 1, 5, 7, 8, 9] [101, 102, 104] () rfl rfl
      ·rintro _ hv
       subst v27
       refine Tri.seq (Tri.regionL ?_)
       refine Oc om (Oc (op_len_r' und22 rfl rfl (List.length_map _)) ?_)
       obtain ⟨x_20, e34, h23⟩ := bnd h23
       refine Oc (op_makeSlice (k := 105) (enc := eB) tySl28 e34 (by decide) (.cons .refl .nil) rfl rfl rfl) (Oc oa ?_)
       refine OpsL.nilS ⟨[(0, _), (1, _), (5, _), (7, _), (8, _), (9, _), (11, .b (.row 105))], [(101, _), (102, _), (104, _), (105, .row 4 1 (x_20.map eB))]⟩ rfl ?_
       obtain ⟨v35, h36, h23⟩ := bnd h23
       refine Tri.seqJ (v := v35) (un2 fun (where_21 : List Int) (used_22 : List Bool) => ⟨[(0, .b (.one (.sl 1 (home0.map eI)))), (1, .b (.one (.sl 1 (sets0.map (eL 1 eI))))), (5, .b (.row 101)), (7, .b (.row 102)), (8, I i_11), (11, .b (.row 105))], [(101, .row 59 3 (x_6.map eTask)), (102, .row 3 1 (where_21.map eI)), (105, .row 4 1 (used_22.map eB))]⟩) (fun z => .inl z) ?_ ?_
       ·refine Tri.seq (Tri.regionL ?_)
        refine Oc oa (OpsL.nilS ⟨[(0, _), (1, _), (5, _), (7, _), (8, _), (9, _), (11, _), (12, I 0)], [(101, _), (102, _), (104, _), (105, _)]⟩ rfl (Tri.block (Tri.loopJ h36 (un3 fun (where_23 : List Int) (used_24 : List Bool) (k_25 : Int) => ⟨[(0, .b (.one (.sl 1 (home0.map eI)))), (1, .b (.one (.sl 1 (sets0.map (eL 1 eI))))), (5, .b (.row 101)), (7, .b (.row 102)), (8, I i_11), (9, .b (.row 104)), (11, .b (.row 105)), (12, I k_25)], [(101, .row 59 3 (x_6.map eTask)), (102, .row 3 1 (where_23.map eI)), (104, .row 3 1 (x_16.map eI)), (105, .row 4 1 (used_24.map eB))]⟩) [0, 1, 5, 7, 8, 9, 11, 12] [101, 102, 104, 105] rfl ?_)))
        rintro ⟨where_23, used_24, k_25⟩ o37 h38 hy39
        refine Tri.seq (Tri.seq (Tri.regionL ?_))
        refine Oc om (Oc om (Oc om ?_))
        obtain ⟨x_28, e40, h38⟩ := bnd h38
        refine Oc (op_index_r tySl29 (ix_lo e40) (ix_lt' e40) rfl rfl rfl rfl) (Oc (op_field_r tyFld59_1 rfl rfl) (Oc (op_load_r1 (i := (i_11 : Int).toNat) (f := 1) tyOne22 rfl rfl rfl (ix_map (e := eTask) e40) rfl) (Oc (op_len_e' und22 rfl (List.length_map _)) (Oc (op_lss rfl rfl) ?_))))
        refine OpsL.nilS ⟨[(0, _), (1, _), (5, _), (7, _), (8, _), (9, _), (11, _), (12, _), (94, B (decide (k_25 < (x_28.Bodies.length : Int))))], [(101, _), (102, _), (104, _), (105, _)]⟩ rfl (Tri.ite h38 rfl (fun _ h38 => ?_) (fun _ h38 => ?_))
        ·refine Tri.skip (Fin.keepS ⟨[(0, _), (1, _), (5, _), (7, _), (8, _), (9, _), (11, _), (12, _)], [(101, _), (102, _), (104, _), (105, _)]⟩ rfl (Fin.then ?_))
         obtain ⟨v41, h42, h38⟩ := bnd h38
         refine Tri.seqJ (v := v41) (un2 fun (where_29 : List Int) (used_30 : List Bool) => ⟨[(0, .b (.one (.sl 1 (home0.map eI)))), (1, .b (.one (.sl 1 (sets0.map (eL 1 eI))))), (5, .b (.row 101)), (7, .b (.row 102)), (8, I i_11), (9, .b (.row 104)), (11, .b (.row 105)), (12, I k_25)], [(101, .row 59 3 (x_6.map eTask)), (102, .row 3 1 (where_29.map eI)), (104, .row 3 1 (x_16.map eI)), (105, .row 4 1 (used_30.map eB))]⟩) (fun z => .inl z) ?_ ?_
         ·refine Tri.block (Tri.seq (Tri.regionL ?_))
          refine Oc om (Oc om ?_)
          obtain ⟨x_31, e43, h42⟩ := bnd h42
          refine Oc (op_index_r tySl29 (ix_lo e43) (ix_lt' e43) rfl rfl rfl rfl) (Oc (op_field_r tyFld59_1 rfl rfl) (Oc (op_load_r1 (i := (i_11 : Int).toNat) (f := 1) tyOne22 rfl rfl rfl (ix_map (e := eTask) e43) rfl) (Oc om ?_)))
          obtain ⟨x_32, e44, h42⟩ := bnd h42
          refine Oc (op_index_e tySl22 (ix_lo e44) (ix_map (e := eI) e44) rfl rfl) (Oc (op_load_e1 tyOne3 rfl rfl) (Oc oa ?_))
          refine OpsL.nilS ⟨[(0, _), (1, _), (5, _), (7, _), (8, _), (9, _), (11, _), (12, _), (13, I x_32)], [(101, _), (102, _), (104, _), (105, _)]⟩ rfl (Tri.seq (Tri.seq (Tri.regionL ?_)))
          refine Oc om (Oc om ?_)
          obtain ⟨x_33, e45, h42⟩ := bnd h42
          refine Oc (op_index_r tySl22 (ix_lo e45) (ix_lt' e45) rfl rfl rfl rfl) (Oc (op_load_r1 (i := (x_32 : Int).toNat) (f := 0) tyOne3 rfl rfl rfl (ix_map (e := eI) e45) rfl) (Oc (op_neq rfl rfl) (Oc om ?_)))
          refine CgF (!(decide (x_33 ≠ 0))) [] (fun g46 => trivial) (fun g46 => om) (OpsL.keepS ⟨[(0, _), (1, _), (5, _), (7, _), (8, _), (9, _), (11, _), (12, _), (13, _), (110, B (decide (x_33 ≠ 0))), (111, .opt (!(decide (x_33 ≠ 0))) (.one (.sl 1 (home0.map eI))))], [(101, _), (102, _), (104, _), (105, _)]⟩ rfl (CgF (!(decide (x_33 ≠ 0))) [] (fun g47 => by exact trivial) (fun g47 => om) ?_))
          obtain ⟨x_34, e49, h42⟩ := bnd h42
          refine CgF (!(decide (x_33 ≠ 0))) [111, 112] (fun g48 => ⟨g48, g48, trivial⟩) (fun g48 => op_index_e tySl22 (ix_lo (gc e49 g48)) (ix_map (e := eI) (gc e49 g48)) rfl rfl) (CgF (!(decide (x_33 ≠ 0))) [113] (fun g50 => ⟨g50, trivial⟩) (fun g50 => op_load_e1 tyOne3 rfl rfl) (CgF (!(decide (x_33 ≠ 0))) [114] (fun g51 => ⟨g51, trivial⟩) (fun g51 => op_lss rfl rfl) (Oc (op_pick_or (fun e => by first | (rw [e]; rfl) | (simp only at e; rw [e]; rfl)) rfl rfl rfl rfl) (Oc om ?_))))
          refine CgF (!((decide (x_33 ≠ 0)) || (decide (x_34 < 0)))) [] (fun g52 => trivial) (fun g52 => om) (CgF (!((decide (x_33 ≠ 0)) || (decide (x_34 < 0)))) [] (fun g53 => by exact trivial) (fun g53 => om) (OpsL.keepS ⟨[(0, _), (1, _), (5, _), (7, _), (8, _), (9, _), (11, _), (12, _), (13, _), (117, B ((decide (x_33 ≠ 0)) || (decide (x_34 < 0)))), (118, .opt (!((decide (x_33 ≠ 0)) || (decide (x_34 < 0)))) (.row 104)), (119, .opt (!((decide (x_33 ≠ 0)) || (decide (x_34 < 0)))) (.one (.sl 1 (home0.map eI))))], [(101, _), (102, _), (104, _), (105, _)]⟩ rfl (CgF (!((decide (x_33 ≠ 0)) || (decide (x_34 < 0)))) [] (fun g54 => by exact trivial) (fun g54 => om) ?_)))
          obtain ⟨x_35, e56, h42⟩ := bnd h42
          refine CgF (!((decide (x_33 ≠ 0)) || (decide (x_34 < 0)))) [119, 120] (fun g55 => ⟨g55, g55, trivial⟩) (fun g55 => op_index_e tySl22 (ix_lo (gc e56 g55)) (ix_map (e := eI) (gc e56 g55)) rfl rfl) (CgF (!((decide (x_33 ≠ 0)) || (decide (x_34 < 0)))) [121] (fun g57 => ⟨g57, trivial⟩) (fun g57 => op_load_e1 tyOne3 rfl rfl) ?_)
          obtain ⟨x_36, e59, h42⟩ := bnd h42
          refine CgF (!((decide (x_33 ≠ 0)) || (decide (x_34 < 0)))) [118, 122] (fun g58 => ⟨g58, g58, trivial⟩) (fun g58 => op_callB (skewbackref35_Has_spec (gc e59 g58)) goes27 rfl CP.flat_bool) (CgF (!((decide (x_33 ≠ 0)) || (decide (x_34 < 0)))) [123] (fun g60 => ⟨g60, trivial⟩) (fun g60 => op_not rfl) (Oc (op_pick_or (fun e => by first | (rw [e]; rfl) | (simp only at e; rw [e]; rfl)) rfl rfl rfl rfl) (OpsL.nilS ⟨[(0, _), (1, _), (5, _), (7, _), (8, _), (9, _), (11, _), (12, _), (13, _), (125, B (((decide (x_33 ≠ 0)) || (decide (x_34 < 0))) || (!x_36)))], [(101, _), (102, _), (104, _), (105, _)]⟩ rfl (Tri.ite h42 rfl (fun _ h42 => ?_) (fun _ h42 => ?_)))))
          ·refine Tri.seq (Tri.regionL ?_)
           refine Oc oa (OpsL.nilS ⟨[(4, B false)], []⟩ rfl (Tri.ret (Fin.then_ret (Fin.block_ret ?_))))
           obtain rfl := Option.some.inj h42
           refine Fin.then_ret ?_
           obtain rfl := hy39 _ (Option.some.inj h38).symm
           refine Fin.then_ret (Fin.block_ret (Fin.then_ret (Fin.block_ret ?_)))
           obtain rfl := Option.some.inj h23
           refine Fin.then_ret ?_
           obtain rfl := hy21 _ (Option.some.inj h20).symm
           refine Fin.then_ret (Fin.block_ret (Fin.then_ret ?_))
           obtain rfl := Option.some.inj h
           refine Fin.keepS ⟨[(4, _)], []⟩ rfl (Fin.result' [.one (.bool false)] (.inl rfl) rfl (.cons (.tmp rfl) .nil) ⟨rfl, rfl⟩)
          ·refine Tri.skip (Fin.keepS ⟨[(0, _), (1, _), (5, _), (7, _), (8, _), (9, _), (11, _), (12, _), (13, _)], [(101, _), (102, _), (104, _), (105, _)]⟩ rfl (Fin.then (Tri.seq (Tri.regionL ?_))))
           refine Oc om (Oc om (Oc om (Oc (op_add rfl rfl) ?_)))
           obtain ⟨x_37, e61, h42⟩ := bnd h42
           refine Oc (op_index_r tySl22 (ix_lo e61) (ix_lt' e61) rfl rfl rfl rfl) (Oc (op_store_r1 (i := (x_32 : Int).toNat) tyOne3 rfl rfl rfl rfl (ix_lt e61) (map_set _ _ _ _)) ?_)
           refine OpsL.nilS ⟨[(0, _), (1, _), (5, _), (7, _), (8, _), (9, _), (11, _), (12, _), (13, _)], [(101, _), (102, .row 3 1 ((where_23.set (x_32 : Int).toNat (IntKind.i64.wrap (i_11 + 1))).map eI)), (104, _), (105, _)]⟩ rfl (Tri.seq (Tri.regionL ?_))
           refine Oc oa (OpsL.nilS ⟨[(0, _), (1, _), (5, _), (7, _), (8, _), (9, _), (11, _), (12, _), (13, _), (14, I 0)], [(101, _), (102, _), (104, _), (105, _)]⟩ rfl (Tri.block ?_))
           obtain ⟨v62, h63, h42⟩ := bnd h42
           refine Tri.loopJ h63 (un2 fun (used_38 : List Bool) (n_39 : Int) => ⟨[(0, .b (.one (.sl 1 (home0.map eI)))), (1, .b (.one (.sl 1 (sets0.map (eL 1 eI))))), (5, .b (.row 101)), (7, .b (.row 102)), (8, I i_11), (9, .b (.row 104)), (11, .b (.row 105)), (12, I k_25), (13, I x_32), (14, I n_39)], [(101, .row 59 3 (x_6.map eTask)), (102, .row 3 1 ((where_23.set (x_32 : Int).toNat (IntKind.i64.wrap (i_11 + 1))).map eI)), (104, .row 3 1 (x_16.map eI)), (105, .row 4 1 (used_38.map eB))]⟩) [0, 1, 5, 7, 8, 9, 11, 12, 13, 14] [101, 102, 104, 105] rfl ?_
           rintro ⟨used_38, n_39⟩ o64 h65 hy66
           refine Tri.seq (Tri.seq (Tri.regionL ?_))
           refine Oc om (Oc om (Oc (op_len_r' und22 rfl rfl (List.length_map _)) (Oc (op_lss rfl rfl) ?_)))
           refine OpsL.nilS ⟨[(0, _), (1, _), (5, _), (7, _), (8, _), (9, _), (11, _), (12, _), (13, _), (14, _), (134, B (decide (n_39 < (x_16.length : Int))))], [(101, _), (102, _), (104, _), (105, _)]⟩ rfl (Tri.ite h65 rfl (fun _ h65 => ?_) (fun _ h65 => ?_))
           ·refine Tri.skip (Fin.keepS ⟨[(0, _), (1, _), (5, _), (7, _), (8, _), (9, _), (11, _), (12, _), (13, _), (14, _)], [(101, _), (102, _), (104, _), (105, _)]⟩ rfl (Fin.then (Tri.seq (Tri.block ?_))))
            refine Tri.keepS ⟨[(0, _), (1, _), (5, _), (7, _), (8, _), (9, _), (11, _), (12, _), (13, _), (14, _)], [(101, _), (102, _), (104, _), (105, _)]⟩ rfl ?_
            obtain ⟨x_41, e67, h65⟩ := bnd h65
            obtain ⟨x_42, e71, h65⟩ := bnd h65
            obtain ⟨x_43, e76, h65⟩ := bnd h65
            obtain ⟨x_44, e79, h65⟩ := bnd h65
            refine Tri.regionYF mixed 18 [.b (.row 105), I n_39, .b (.row 105), I n_39, .b (.rptr 105 ((n_39 : Int).toNat * 1)), B x_41, B x_41, .opt (!x_41) (.row 104), .opt (!x_41) (.one (.i n_39)), .opt (!x_41) (.rptr 104 ((n_39 : Int).toNat * 1)), .opt (!x_41) (.one (.i x_42)), .opt (!x_41) (.one (.sl 1 (home0.map eI))), .opt (!x_41) (.one (.i x_32)), .opt (!x_41) (.eptr [.i x_43]), .opt (!x_41) (.one (.i x_43)), .opt (!x_41) (.one (.bool (decide (x_42 = x_43)))), B (x_41 || (decide (x_42 = x_43))), .b (.rptr 105 ((n_39 : Int).toNat * 1))] [0, 1, 5, 7, 8, 9, 11, 12, 13, 14] [101, 102, 104, 105] (s' := ⟨[(0, _), (1, _), (5, _), (7, _), (8, _), (9, _), (11, _), (12, _), (13, _), (14, _)], [(101, _), (102, _), (104, _), (105, .row 4 1 ((used_38.set (n_39 : Int).toNat (x_41 || (decide (x_42 = x_43)))).map eB))]⟩) rfl ⟨fun _ => .p om, fun _ => .p om, fun _ => .p om, fun _ => .p om, fun _ => .p (op_index_r tySl28 (ix_lo e67) (ix_lt' e67) rfl rfl rfl rfl), fun _ => .p (op_load_r1 (i := (n_39 : Int).toNat) (f := 0) tyOne4 rfl rfl rfl (ix_map (e := eB) e67) rfl), fun _ => .p om, fun _ => by exact .guard (!x_41) 1 [] (.plain rfl) (eq_f _) rfl rfl (fun g68 => trivial) (fun g68 => om), fun _ => by exact .guard (!x_41) 1 [] (.plain rfl) (eq_f _) rfl rfl (fun g69 => trivial) (fun g69 => om), fun _ => by exact .guard (!x_41) 3 [144, 145] (.plain rfl) (eq_f _) rfl rfl (fun g70 => ⟨g70, g70, trivial⟩) (fun g70 => op_index_r tySl22 (ix_lo (gc e71 g70)) (ix_lt' (gc e71 g70)) rfl rfl rfl rfl), fun _ => by exact .guard (!x_41) 2 [146] (.plain rfl) (eq_f _) rfl rfl (fun g72 => ⟨g72, trivial⟩) (fun g72 => op_load_r1 (i := (n_39 : Int).toNat) (f := 0) tyOne3 rfl rfl rfl (ix_map (e := eI) (gc e71 g72)) rfl), fun _ => by exact .guard (!x_41) 1 [] (.plain rfl) (eq_f _) rfl rfl (fun g73 => trivial) (fun g73 => om), fun _ => by exact .guard (!x_41) 1 [] (.plain rfl) (eq_f _) rfl rfl (fun g74 => trivial) (fun g74 => om), fun _ => by exact .guard (!x_41) 3 [148, 149] (.plain rfl) (eq_f _) rfl rfl (fun g75 => ⟨g75, g75, trivial⟩) (fun g75 => op_index_e tySl22 (ix_lo (gc e76 g75)) (ix_map (e := eI) (gc e76 g75)) rfl rfl), fun _ => by exact .guard (!x_41) 2 [150] (.plain rfl) (eq_f _) rfl rfl (fun g77 => ⟨g77, trivial⟩) (fun g77 => op_load_e1 tyOne3 rfl rfl), fun _ => by exact .guard (!x_41) 3 [147, 151] (.plain rfl) (eq_f _) rfl rfl (fun g78 => ⟨g78, g78, trivial⟩) (fun g78 => op_eql rfl rfl), fun _ => .p (op_pick_or (fun e => by first | (rw [e]; rfl) | (simp only at e; rw [e]; rfl)) rfl rfl rfl rfl), fun _ => .p (op_index_r tySl28 (ix_lo e79) (ix_lt' e79) rfl rfl rfl rfl), trivial⟩ ⟨_, by exact .p (op_store_r1 (i := (n_39 : Int).toNat) tyOne4 rfl rfl rfl rfl (ix_lt e79) (map_set _ _ _ _)), rfl⟩ rfl ?_
            refine Fin.block_normal (Fin.keepS ⟨[(0, _), (1, _), (5, _), (7, _), (8, _), (9, _), (11, _), (12, _), (13, _), (14, _)], [(101, _), (102, _), (104, _), (105, _)]⟩ rfl (Fin.then (Tri.regionL ?_)))
            refine Oc om (Oc (op_add rfl rfl) (Oc oa ?_))
            refine OpsL.nil ?_
            exact Fin.againJ [0, 1, 5, 7, 8, 9, 11, 12, 13, 14] [101, 102, 104, 105] (used_38.set (n_39 : Int).toNat (x_41 || (decide (x_42 = x_43))), IntKind.i64.wrap (n_39 + 1)) (Option.some.inj h65) rfl
           ·refine Tri.exit (Fin.then_exit ?_)
            obtain rfl := hy66 _ (Option.some.inj h65).symm
            refine Fin.then_exit (Fin.block_exit (Fin.block_normal ?_))
            exact Fin.join [0, 1, 5, 7, 8, 9, 11, 12] [101, 102, 104, 105] (where_23.set (x_32 : Int).toNat (IntKind.i64.wrap (i_11 + 1)), used_38) (Option.some.inj h42) rfl
         ·rintro ⟨where_29, used_30⟩ hv
          subst v41
          refine Tri.regionL (Oc om (Oc (op_add rfl rfl) (Oc oa ?_)))
          refine OpsL.nil ?_
          exact Fin.againJ [0, 1, 5, 7, 8, 9, 11, 12] [101, 102, 104, 105] (where_29, used_30, IntKind.i64.wrap (k_25 + 1)) (Option.some.inj h38) rfl
        ·refine Tri.exit (Fin.then_exit ?_)
         obtain rfl := hy39 _ (Option.some.inj h38).symm
         refine Fin.then_exit (Fin.block_exit ?_)
         exact Fin.join [0, 1, 5, 7, 8, 11] [101, 102, 105] (where_23, used_24) rfl rfl
       ·rintro ⟨where_21, used_22⟩ hv
        subst v35
        refine Tri.seq (Tri.regionL ?_)
        refine Oc oa (OpsL.nilS ⟨[(0, _), (1, _), (5, _), (7, _), (8, _), (11, _), (15, I 0)], [(101, _), (102, _), (105, _)]⟩ rfl (Tri.block ?_))
        obtain ⟨v80, h81, h23⟩ := bnd h23
        refine Tri.loopJ h81 (fun (n_45 : Int) => ⟨[(0, .b (.one (.sl 1 (home0.map eI)))), (1, .b (.one (.sl 1 (sets0.map (eL 1 eI))))), (5, .b (.row 101)), (7, .b (.row 102)), (8, I i_11), (11, .b (.row 105)), (15, I n_45)], [(101, .row 59 3 (x_6.map eTask)), (102, .row 3 1 (where_21.map eI)), (105, .row 4 1 (used_22.map eB))]⟩) [0, 1, 5, 7, 8, 11, 15] [101, 102, 105] rfl ?_
        rintro n_45 o82 h83 hy84
        refine Tri.seq (Tri.seq (Tri.regionL ?_))
        refine Oc om (Oc om (Oc (op_len_r' und28 rfl rfl (List.length_map _)) (Oc (op_lss rfl rfl) ?_)))
        refine OpsL.nilS ⟨[(0, _), (1, _), (5, _), (7, _), (8, _), (11, _), (15, _), (158, B (decide (n_45 < (used_22.length : Int))))], [(101, _), (102, _), (105, _)]⟩ rfl (Tri.ite h83 rfl (fun _ h83 => ?_) (fun _ h83 => ?_))
        ·refine Tri.skip (Fin.keepS ⟨[(0, _), (1, _), (5, _), (7, _), (8, _), (11, _), (15, _)], [(101, _), (102, _), (105, _)]⟩ rfl (Fin.then (Tri.seq (Tri.block (Tri.seq (Tri.regionL ?_))))))
         refine Oc om (Oc om ?_)
         obtain ⟨x_46, e85, h83⟩ := bnd h83
         refine Oc (op_index_r tySl28 (ix_lo e85) (ix_lt' e85) rfl rfl rfl rfl) (Oc (op_load_r1 (i := (n_45 : Int).toNat) (f := 0) tyOne4 rfl rfl rfl (ix_map (e := eB) e85) rfl) (Oc (op_not rfl) ?_))
         refine OpsL.nilS ⟨[(0, _), (1, _), (5, _), (7, _), (8, _), (11, _), (15, _), (165, B (!x_46))], [(101, _), (102, _), (105, _)]⟩ rfl (Tri.ite h83 rfl (fun _ h83 => ?_) (fun _ h83 => ?_))
         ·refine Tri.seq (Tri.regionL ?_)
          refine Oc oa (OpsL.nilS ⟨[(4, B false)], []⟩ rfl (Tri.ret (Fin.block_ret (Fin.then_ret ?_))))
          obtain rfl := hy84 _ (Option.some.inj h83).symm
          refine Fin.then_ret (Fin.block_ret (Fin.block_ret ?_))
          obtain rfl := Option.some.inj h23
          refine Fin.then_ret ?_
          obtain rfl := hy21 _ (Option.some.inj h20).symm
          refine Fin.then_ret (Fin.block_ret (Fin.then_ret ?_))
          obtain rfl := Option.some.inj h
          refine Fin.keepS ⟨[(4, _)], []⟩ rfl (Fin.result' [.one (.bool false)] (.inl rfl) rfl (.cons (.tmp rfl) .nil) ⟨rfl, rfl⟩)
         ·refine Tri.skip (Fin.block_normal (Fin.keepS ⟨[(0, _), (1, _), (5, _), (7, _), (8, _), (11, _), (15, _)], [(101, _), (102, _), (105, _)]⟩ rfl (Fin.then (Tri.regionL ?_))))
          refine Oc om (Oc (op_add rfl rfl) (Oc oa ?_))
          refine OpsL.nil ?_
          exact Fin.againJ [0, 1, 5, 7, 8, 11, 15] [101, 102, 105] (IntKind.i64.wrap (n_45 + 1)) (Option.some.inj h83) rfl
        ·refine Tri.exit (Fin.then_exit ?_)
         obtain rfl := hy84 _ (Option.some.inj h83).symm
         refine Fin.then_exit (Fin.block_exit (Fin.block_normal ?_))
         exact Fin.join [0, 1, 5, 7, 8] [101, 102] where_21 (Option.some.inj h23) rfl
     ·rintro where_13 hv
      subst v22
      refine Tri.regionL (Oc om (Oc (op_add rfl rfl) (Oc oa ?_)))
      refine OpsL.nil ?_
      exact Fin.againJ [0, 1, 5, 7, 8] [101, 102] (where_13, IntKind.i64.wrap (i_11 + 1)) (Option.some.inj h20) rfl
    ·refine Tri.exit (Fin.then_exit ?_)
     obtain rfl := hy21 _ (Option.some.inj h20).symm
     refine Fin.then_exit (Fin.block_exit ?_)
     exact Fin.join [0, 1, 7] [102] where_10 rfl rfl
   ·rintro where_9 hv
    subst v17
    obtain ⟨v86, h87, h⟩ := bnd h
    refine Tri.seqJ (v := v86) (fun (_ : Unit) => ⟨[(1, .b (.one (.sl 1 (sets0.map (eL 1 eI))))), (7, .b (.row 102))], [(102, .row 3 1 (where_9.map eI))]⟩) (fun z => .inl z) ?_ ?_
    ·refine Tri.seq (Tri.regionL ?_)
     refine Oc oa (OpsL.nilS ⟨[(0, _), (1, _), (7, _), (16, I 0)], [(102, _)]⟩ rfl (Tri.block (Tri.loopJ h87 (fun (b_47 : Int) => ⟨[(0, .b (.one (.sl 1 (home0.map eI)))), (1, .b (.one (.sl 1 (sets0.map (eL 1 eI))))), (7, .b (.row 102)), (16, I b_47)], [(102, .row 3 1 (where_9.map eI))]⟩) [0, 1, 7, 16] [102] rfl ?_)))
     rintro b_47 o88 h89 hy90
     refine Tri.seq (Tri.seq (Tri.regionL ?_))
     refine Oc om (Oc om (Oc (op_len_e' und22 rfl (List.length_map _)) (Oc (op_lss rfl rfl) ?_)))
     refine OpsL.nilS ⟨[(0, _), (1, _), (7, _), (16, _), (169, B (decide (b_47 < (home0.length : Int))))], [(102, _)]⟩ rfl (Tri.ite h89 rfl (fun _ h89 => ?_) (fun _ h89 => ?_))
     ·refine Tri.skip (Fin.keepS ⟨[(0, _), (1, _), (7, _), (16, _)], [(102, _)]⟩ rfl (Fin.then (Tri.seq (Tri.block (Tri.seq ?_)))))
      refine Tri.keepS ⟨[(0, _), (1, _), (7, _), (16, _)], [(102, _)]⟩ rfl ?_
      obtain ⟨x_48, e91, h89⟩ := bnd h89
      obtain ⟨x_49, e92, h89⟩ := bnd h89
      refine Tri.regionY mixed 11 [.b (.one (.sl 1 (home0.map eI))), I b_47, .b (.eptr [.i x_48]), I x_48, B (decide (0 ≤ x_48)), .b (.row 102), I b_47, .b (.rptr 102 ((b_47 : Int).toNat * 1)), I x_49, B (decide (0 < x_49)), B ((decide (0 ≤ x_48)) != (decide (0 < x_49)))] [0, 1, 7, 16, 182] [102] (s' := ⟨[(0, _), (1, _), (7, _), (16, _), (182, B ((decide (0 ≤ x_48)) != (decide (0 < x_49))))], [(102, _)]⟩) rfl ⟨fun _ => .p om, fun _ => .p om, fun _ => .p (op_index_e tySl22 (ix_lo e91) (ix_map (e := eI) e91) rfl rfl), fun _ => .p (op_load_e1 tyOne3 rfl rfl), fun _ => .p (op_geq rfl rfl), fun _ => .p om, fun _ => .p om, fun _ => .p (op_index_r tySl22 (ix_lo e92) (ix_lt' e92) rfl rfl rfl rfl), fun _ => .p (op_load_r1 (i := (b_47 : Int).toNat) (f := 0) tyOne3 rfl rfl rfl (ix_map (e := eI) e92) rfl), fun _ => .p (op_gtr rfl rfl), fun _ => .p (op_neq_bool und4 rfl rfl), trivial⟩ rfl rfl (Tri.ite h89 rfl (fun _ h89 => ?_) (fun _ h89 => ?_))
      ·refine Tri.seq (Tri.regionL ?_)
       refine Oc oa (OpsL.nilS ⟨[(4, B false)], []⟩ rfl (Tri.ret (Fin.block_ret (Fin.then_ret ?_))))
       obtain rfl := hy90 _ (Option.some.inj h89).symm
       refine Fin.then_ret (Fin.block_ret (Fin.then_ret ?_))
       obtain rfl := Option.some.inj h
       refine Fin.keepS ⟨[(4, _)], []⟩ rfl (Fin.result' [.one (.bool false)] (.inl rfl) rfl (.cons (.tmp rfl) .nil) ⟨rfl, rfl⟩)
      ·refine Tri.skip (Fin.block_normal (Fin.keepS ⟨[(0, _), (1, _), (7, _), (16, _)], [(102, _)]⟩ rfl (Fin.then (Tri.regionL ?_))))
       refine Oc om (Oc (op_add rfl rfl) (Oc oa ?_))
       refine OpsL.nil ?_
       exact Fin.againJ [0, 1, 7, 16] [102] (IntKind.i64.wrap (b_47 + 1)) (Option.some.inj h89) rfl
     ·refine Tri.exit (Fin.then_exit ?_)
      obtain rfl := hy90 _ (Option.some.inj h89).symm
      refine Fin.then_exit (Fin.block_exit ?_)
      exact Fin.join [1, 7] [102] () rfl rfl
    ·rintro _ hv
     subst v86
     obtain ⟨v93, h94, h⟩ := bnd h
     refine Tri.seqJ (v := v93) (fun (_ : Unit) => ⟨[], []⟩) (fun z => .inl z) ?_ ?_
     ·refine Tri.seq (Tri.regionL ?_)
      refine Oc oa (OpsL.nilS ⟨[(1, _), (7, _), (17, I 0)], [(102, _)]⟩ rfl (Tri.block (Tri.loopJ h94 (fun (i_50 : Int) => ⟨[(1, .b (.one (.sl 1 (sets0.map (eL 1 eI))))), (7, .b (.row 102)), (17, I i_50)], [(102, .row 3 1 (where_9.map eI))]⟩) [1, 7, 17] [102] rfl ?_)))
      rintro i_50 o95 h96 hy97
      refine Tri.seq (Tri.seq (Tri.regionL ?_))
      refine Oc om (Oc om (Oc (op_len_e' und23 rfl (List.length_map _)) (Oc (op_lss rfl rfl) ?_)))
      refine OpsL.nilS ⟨[(1, _), (7, _), (17, _), (186, B (decide (i_50 < (sets0.length : Int))))], [(102, _)]⟩ rfl (Tri.ite h96 rfl (fun _ h96 => ?_) (fun _ h96 => ?_))
      ·refine Tri.skip (Fin.keepS ⟨[(1, _), (7, _), (17, _)], [(102, _)]⟩ rfl (Fin.then ?_))
       obtain ⟨v98, h99, h96⟩ := bnd h96
       refine Tri.seqJ (v := v98) (fun (_ : Unit) => ⟨[(1, .b (.one (.sl 1 (sets0.map (eL 1 eI))))), (7, .b (.row 102)), (17, I i_50)], [(102, .row 3 1 (where_9.map eI))]⟩) (fun z => .inl z) ?_ ?_
       ·refine Tri.block (Tri.seq (Tri.regionL ?_))
        refine Oc oa (OpsL.nilS ⟨[(1, _), (7, _), (17, _), (18, I 1)], [(102, _)]⟩ rfl (Tri.block ?_))
        obtain ⟨v100, h101, h99⟩ := bnd h99
        refine Tri.loopJ h101 (fun (k_51 : Int) => ⟨[(1, .b (.one (.sl 1 (sets0.map (eL 1 eI))))), (7, .b (.row 102)), (17, I i_50), (18, I k_51)], [(102, .row 3 1 (where_9.map eI))]⟩) [1, 7, 17, 18] [102] rfl ?_
        rintro k_51 o102 h103 hy104
        refine Tri.seq (Tri.seq (Tri.regionL ?_))
        refine Oc om (Oc om (Oc om ?_))
        obtain ⟨x_52, e105, h103⟩ := bnd h103
        refine Oc (op_index_e tySl23 (ix_lo e105) (ix_map (e := (eL 1 eI)) e105) rfl rfl) (Oc (op_load_e1 tyOne22 rfl rfl) (Oc (op_len_e' und22 rfl (List.length_map _)) (Oc (op_lss rfl rfl) ?_)))
        refine OpsL.nilS ⟨[(1, _), (7, _), (17, _), (18, _), (195, B (decide (k_51 < (x_52.length : Int))))], [(102, _)]⟩ rfl (Tri.ite h103 rfl (fun _ h103 => ?_) (fun _ h103 => ?_))
        ·refine Tri.skip (Fin.keepS ⟨[(1, _), (7, _), (17, _), (18, _)], [(102, _)]⟩ rfl (Fin.then (Tri.seq (Tri.block (Tri.seq ?_)))))
         refine Tri.keepS ⟨[(1, _), (7, _), (17, _), (18, _)], [(102, _)]⟩ rfl ?_
         obtain ⟨x_53, e106, h103⟩ := bnd h103
         obtain ⟨x_54, e107, h103⟩ := bnd h103
         obtain ⟨x_55, e108, h103⟩ := bnd h103
         obtain ⟨x_56, e109, h103⟩ := bnd h103
         obtain ⟨x_57, e110, h103⟩ := bnd h103
         obtain ⟨x_58, e111, h103⟩ := bnd h103
         refine Tri.regionY mixed 20 [.b (.row 102), .b (.one (.sl 1 (sets0.map (eL 1 eI)))), I i_50, .b (.eptr [.sl 1 (x_53.map eI)]), .b (.one (.sl 1 (x_53.map eI))), I k_51, .b (.eptr [.i x_54]), I x_54, .b (.rptr 102 ((x_54 : Int).toNat * 1)), I x_55, .b (.row 102), .b (.one (.sl 1 (sets0.map (eL 1 eI)))), I i_50, .b (.eptr [.sl 1 (x_56.map eI)]), .b (.one (.sl 1 (x_56.map eI))), .b (.eptr [.i x_57]), I x_57, .b (.rptr 102 ((x_57 : Int).toNat * 1)), I x_58, B (decide (x_55 ≠ x_58))] [1, 7, 17, 18, 217] [102] (s' := ⟨[(1, _), (7, _), (17, _), (18, _), (217, B (decide (x_55 ≠ x_58)))], [(102, _)]⟩) rfl ⟨fun _ => .p om, fun _ => .p om, fun _ => .p om, fun _ => .p (op_index_e tySl23 (ix_lo e106) (ix_map (e := (eL 1 eI)) e106) rfl rfl), fun _ => .p (op_load_e1 tyOne22 rfl rfl), fun _ => .p om, fun _ => .p (op_index_e tySl22 (ix_lo e107) (ix_map (e := eI) e107) rfl rfl), fun _ => .p (op_load_e1 tyOne3 rfl rfl), fun _ => .p (op_index_r tySl22 (ix_lo e108) (ix_lt' e108) rfl rfl rfl rfl), fun _ => .p (op_load_r1 (i := (x_54 : Int).toNat) (f := 0) tyOne3 rfl rfl rfl (ix_map (e := eI) e108) rfl), fun _ => .p om, fun _ => .p om, fun _ => .p om, fun _ => .p (op_index_e tySl23 (ix_lo e109) (ix_map (e := (eL 1 eI)) e109) rfl rfl), fun _ => .p (op_load_e1 tyOne22 rfl rfl), fun _ => .p (op_index_e tySl22 (ix_lo e110) (ix_map (e := eI) e110) rfl rfl), fun _ => .p (op_load_e1 tyOne3 rfl rfl), fun _ => .p (op_index_r tySl22 (ix_lo e111) (ix_lt' e111) rfl rfl rfl rfl), fun _ => .p (op_load_r1 (i := (x_57 : Int).toNat) (f := 0) tyOne3 rfl rfl rfl (ix_map (e := eI) e111) rfl), fun _ => .p (op_neq rfl rfl), trivial⟩ rfl rfl (Tri.ite h103 rfl (fun _ h103 => ?_) (fun _ h103 => ?_))
         ·refine Tri.seq (Tri.regionL ?_)
          refine Oc oa (OpsL.nilS ⟨[(4, B false)], []⟩ rfl (Tri.ret (Fin.block_ret (Fin.then_ret ?_))))
          obtain rfl := hy104 _ (Option.some.inj h103).symm
          refine Fin.then_ret (Fin.block_ret (Fin.block_ret ?_))
          obtain rfl := Option.some.inj h99
          refine Fin.then_ret ?_
          obtain rfl := hy97 _ (Option.some.inj h96).symm
          refine Fin.then_ret (Fin.block_ret (Fin.then_ret ?_))
          obtain rfl := Option.some.inj h
          refine Fin.keepS ⟨[(4, _)], []⟩ rfl (Fin.result' [.one (.bool false)] (.inl rfl) rfl (.cons (.tmp rfl) .nil) ⟨rfl, rfl⟩)
         ·refine Tri.skip (Fin.block_normal (Fin.keepS ⟨[(1, _), (7, _), (17, _), (18, _)], [(102, _)]⟩ rfl (Fin.then (Tri.regionL ?_))))
          refine Oc om (Oc (op_add rfl rfl) (Oc oa ?_))
          refine OpsL.nil ?_
          exact Fin.againJ [1, 7, 17, 18] [102] (IntKind.i64.wrap (k_51 + 1)) (Option.some.inj h103) rfl
        ·refine Tri.exit (Fin.then_exit ?_)
         obtain rfl := hy104 _ (Option.some.inj h103).symm
         refine Fin.then_exit (Fin.block_exit (Fin.block_normal ?_))
         exact Fin.join [1, 7, 17] [102] () (Option.some.inj h99) rfl
       ·rintro _ hv
        subst v98
        refine Tri.regionL (Oc om (Oc (op_add rfl rfl) (Oc oa ?_)))
        refine OpsL.nil ?_
        exact Fin.againJ [1, 7, 17] [102] (IntKind.i64.wrap (i_50 + 1)) (Option.some.inj h96) rfl
      ·refine Tri.exit (Fin.then_exit ?_)
       obtain rfl := hy97 _ (Option.some.inj h96).symm
       refine Fin.then_exit (Fin.block_exit ?_)
       exact Fin.join [] [] () rfl rfl
     ·rintro _ hv
      subst v93
      refine Tri.seq (Tri.regionL ?_)
      obtain ⟨x_59, e112, h⟩ := bnd h
      refine Oc (op_call0 (skewbacklaw44_sanity_spec e112) goes10 rfl rfl) (Oc oa ?_)
      refine OpsL.nilS ⟨[(4, B x_59)], []⟩ rfl (Tri.ret ?_)
      obtain rfl := Option.some.inj h
      refine Fin.keepS ⟨[(4, _)], []⟩ rfl (Fin.result' [.one (.bool x_59)] (.inl rfl) rfl (.cons (.tmp rfl) .nil) ⟨rfl, rfl⟩)
end Go.Proofs.Ytnpddoaeoefcnaa

