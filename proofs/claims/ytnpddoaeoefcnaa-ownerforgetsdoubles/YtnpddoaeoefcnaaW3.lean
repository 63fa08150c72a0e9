/- printed walks -/
import Derived.Test.YtnpddoaeoefcnaaW2
namespace Go.Proofs.Ytnpddoaeoefcnaa
open Go.Sk Go
set_option maxHeartbeats 4000000
set_option maxRecDepth 4000
set_option linter.unusedSimpArgs false
set_option linter.unusedVariables false
def skewbacklaw44_OwnerForgetsDoubles_S (F : Nat) (me0 : Int) (regions0 : Int) (home0 : List Int) (sets0 : List (List Int)) (states0 : List Str) (l0 : List Notice) (x0 : Notice) : Option Bool :=
 (gcall (!(decide (20 < (home0.length : Int)))) (skewbacklaw44_few_S F sets0)).bind fun x_1 => letN (((decide (20 < (home0.length : Int))) || (!x_1)) || (decide (22 < (states0.length : Int)))) fun x_2 => letN ((x_2 || (decide (10 < (l0.length : Int)))) || (decide (20 < (x0.Bodies.length : Int)))) fun x_3 => (gcall (!x_3) (skewbacklaw44_few_S F x0.Sets)).bind fun x_4 => if (x_3 || (!x_4)) = true then ((skewbacklaw44_sanity_S F).bind fun x_5 => some x_5) else (Option.bind (owner_Begin_S F me0 regions0 x0.Step home0 sets0 states0) (un3 fun x_6 x_7 x_8 => if (decide (x_8 ≠ 0)) = true then ((skewbacklaw44_sanity_S F).bind fun x_9 => some x_9) else (Option.bind (iter F (un2 fun r_11 i_12 => if (decide (i_12 < (l0.length : Int))) = true then ((idx? l0 i_12).bind fun x_14 => (gcall (!(decide (20 < (x_14.Bodies.length : Int)))) (idx? l0 i_12)).bind fun x_15 => (gcall (!(decide (20 < (x_14.Bodies.length : Int)))) (skewbacklaw44_few_S F x_15.Sets)).bind fun x_16 => if ((decide (20 < (x_14.Bodies.length : Int))) || (!x_16)) = true then ((skewbacklaw44_sanity_S F).bind fun x_17 => some (.inr (.inr x_17))) else ((idx? l0 i_12).bind fun x_18 => Option.bind (owner_Hear_S F r_11 x_18) (un2 fun x_19 x_20 => some (.inl (x_19, IntKind.i64.wrap (i_12 + 1)))))) else (some (.inr (.inl r_11)))) (x_6, 0)) (alt2 (fun r_10 => Option.bind (owner_Hear_S F r_10 x0) (un2 fun x_21 x_22 => Option.bind (owner_Hear_S F x_21 x0) (un2 fun x_23 x_24 => Option.bind (owner_Hear_S F r_10 x0) (un2 fun x_25 x_26 => (skewbacklaw44_sanity_S F).bind fun x_27 => (gcall x_27 (skewbackref44_SameRound_S F x_21 x_23)).bind fun x_28 => (gcall ((x_27 && x_28) && (decide ((x_24.length : Int) = 0))) (skewbackref44_SameRound_S F x_21 x_25)).bind fun x_29 => letN (((x_27 && x_28) && (decide ((x_24.length : Int) = 0))) && x_29) fun x_30 => some x_30)))) (fun y => some y)))))
theorem skewbacklaw44_OwnerForgetsDoubles_spec {F : Nat} {me0 : Int} {regions0 : Int} {home0 : List Int} {sets0 : List (List Int)} {states0 : List Str} {l0 : List Notice} {x0 : Notice} {r : Bool} (h : skewbacklaw44_OwnerForgetsDoubles_S F me0 regions0 home0 sets0 states0 l0 x0 = some r) : Meets Try.prog [] 6 [] [.one (.i me0), .one (.i regions0), .one (.sl 1 (home0.map eI)), .one (.sl 1 (sets0.map (eL 1 eI))), .one (.sl 1 (states0.map eS)), .one (.sl 7 (l0.map eNotice)), .agg (eNotice x0)] (Is [] (.b (.one (.bool r)))) := by
 unfold skewbacklaw44_OwnerForgetsDoubles_S at h
 refine Meets.intro 137 Try.func6 Try.ntmps6 rfl (by simp) fun E => ?_
 show Tri _ E ⟨137, [], [], []⟩ _ ⟨[(0, I me0), (1, I regions0), (2, .b (.one (.sl 1 (home0.map eI)))), (3, .b (.one (.sl 1 (sets0.map (eL 1 eI))))), (4, .b (.one (.sl 1 (states0.map eS)))), (5, .b (.one (.sl 7 (l0.map eNotice)))), (6, .b (.agg (eNotice x0)))], []⟩ _
 refine Tri.seq (Tri.regionL ?_)
 refine Oc (op_box (k := 101) rfl rfl) (Oc oa ?_)
 refine OpsL.nilS ⟨[(0, I me0), (1, I regions0), (2, .b (.one (.sl 1 (home0.map eI)))), (3, .b (.one (.sl 1 (sets0.map (eL 1 eI))))), (4, .b (.one (.sl 1 (states0.map eS)))), (5, .b (.one (.sl 7 (l0.map eNotice)))), (13, Pt 101 0)], [(101, .box 42 (eNotice x0))]⟩ rfl (Tri.seq (Tri.seq (Tri.regionL ?_)))
 refine Oc om (Oc (op_len_e' und22 rfl (List.length_map _)) (Oc (op_gtr rfl rfl) (Oc om ?_)))
 refine CgF (!(decide (20 < (home0.length : Int)))) [] (fun g1 => trivial) (fun g1 => om) (OpsL.keepS ⟨[(0, _), (1, _), (2, _), (3, _), (4, _), (5, _), (13, _), (28, B (decide (20 < (home0.length : Int)))), (29, .opt (!(decide (20 < (home0.length : Int)))) (.one (.sl 1 (sets0.map (eL 1 eI)))))], [(101, _)]⟩ rfl ?_)
 obtain ⟨x_1, e3, h⟩ := bnd h
 refine CgF (!(decide (20 < (home0.length : Int)))) [29] (fun g2 => ⟨g2, trivial⟩) (fun g2 => op_call0 (skewbacklaw44_few_spec (gc e3 g2)) goes9 rfl rfl) (CgF (!(decide (20 < (home0.length : Int)))) [30] (fun g4 => ⟨g4, trivial⟩) (fun g4 => op_not rfl) (Oc (op_pick_or (fun e => by first | (rw [e]; rfl) | (simp only at e; rw [e]; rfl)) rfl rfl rfl rfl) (Oc om ?_)))
 refine CgF (!((decide (20 < (home0.length : Int))) || (!x_1))) [] (fun g5 => trivial) (fun g5 => om) (CgF (!((decide (20 < (home0.length : Int))) || (!x_1))) [34] (fun g6 => by exact ⟨g6, trivial⟩) (fun g6 => op_len_e' und24 rfl (List.length_map _)) (CgF (!((decide (20 < (home0.length : Int))) || (!x_1))) [35] (fun g7 => by exact ⟨g7, trivial⟩) (fun g7 => op_gtr rfl rfl) (OpsL.keepS ⟨[(0, _), (1, _), (2, _), (3, _), (4, _), (5, _), (13, _), (33, B ((decide (20 < (home0.length : Int))) || (!x_1))), (36, .opt (!((decide (20 < (home0.length : Int))) || (!x_1))) (.one (.bool (decide (22 < (states0.length : Int))))))], [(101, _)]⟩ rfl (OpsL.consB h rfl (op_pick_or (fun e => by first | (rw [e]; rfl) | (simp only at e; rw [e]; rfl)) rfl rfl rfl rfl) (fun x_2 h => ?_)))))
 refine Oc om (CgF (!x_2) [] (fun g8 => by exact trivial) (fun g8 => om) (CgF (!x_2) [39] (fun g9 => by exact ⟨g9, trivial⟩) (fun g9 => op_len_e' und32 rfl (List.length_map _)) (CgF (!x_2) [40] (fun g10 => by exact ⟨g10, trivial⟩) (fun g10 => op_gtr rfl rfl) (Oc (op_pick_or (fun e => by first | (rw [e]; rfl) | (simp only at e; rw [e]; rfl)) rfl rfl rfl rfl) (Oc om ?_)))))
 refine OpsL.keepS ⟨[(0, _), (1, _), (2, _), (3, _), (4, _), (5, _), (13, _), (43, B (x_2 || (decide (10 < (l0.length : Int)))))], [(101, _)]⟩ rfl (CgF (!(x_2 || (decide (10 < (l0.length : Int))))) [] (fun g11 => trivial) (fun g11 => op_field_p tyFld42_5 rfl rfl) (CgF (!(x_2 || (decide (10 < (l0.length : Int))))) [44] (fun g12 => ⟨g12, trivial⟩) (fun g12 => op_load_p1 tyOne22 rfl rfl rfl) (CgF (!(x_2 || (decide (10 < (l0.length : Int))))) [45] (fun g13 => ⟨g13, trivial⟩) (fun g13 => op_len_e' und22 rfl (List.length_map _)) (CgF (!(x_2 || (decide (10 < (l0.length : Int))))) [46] (fun g14 => ⟨g14, trivial⟩) (fun g14 => op_gtr rfl rfl) (OpsL.consB h rfl (op_pick_or (fun e => by first | (rw [e]; rfl) | (simp only at e; rw [e]; rfl)) rfl rfl rfl rfl) (fun x_3 h => ?_))))))
 refine Oc om (CgF (!x_3) [] (fun g15 => by exact trivial) (fun g15 => op_field_p tyFld42_4 rfl rfl) (OpsL.keepS ⟨[(0, _), (1, _), (2, _), (3, _), (4, _), (5, _), (13, _), (49, B x_3), (50, .opt (!x_3) (.ptr 101 4))], [(101, _)]⟩ rfl (CgF (!x_3) [50] (fun g16 => by exact ⟨g16, trivial⟩) (fun g16 => op_load_p1 tyOne23 rfl rfl rfl) ?_)))
 obtain ⟨x_4, e18, h⟩ := bnd h
 refine CgF (!x_3) [51] (fun g17 => ⟨g17, trivial⟩) (fun g17 => op_call0 (skewbacklaw44_few_spec (gc e18 g17)) goes9 rfl rfl) (CgF (!x_3) [52] (fun g19 => ⟨g19, trivial⟩) (fun g19 => op_not rfl) (Oc (op_pick_or (fun e => by first | (rw [e]; rfl) | (simp only at e; rw [e]; rfl)) rfl rfl rfl rfl) (OpsL.nilS ⟨[(0, _), (1, _), (2, _), (3, _), (4, _), (5, _), (13, _), (54, B (x_3 || (!x_4)))], [(101, _)]⟩ rfl (Tri.ite h rfl (fun _ h => ?_) (fun _ h => ?_)))))
 ·refine Tri.seq (Tri.regionL ?_)
  obtain ⟨x_5, e20, h⟩ := bnd h
  refine Oc (op_call0 (skewbacklaw44_sanity_spec e20) goes10 rfl rfl) (Oc oa ?_)
  refine OpsL.nilS ⟨[(14, B x_5)], []⟩ rfl (Tri.ret (Fin.then_ret ?_))
  obtain rfl := Option.some.inj h
  refine Fin.keepS ⟨[(14, _)], []⟩ rfl (Fin.result' [.one (.bool x_5)] (.inl rfl) rfl (.cons (.tmp rfl) .nil) ⟨rfl, rfl⟩)
 ·refine Tri.skip (Fin.keepS ⟨[(0, _), (1, _), (2, _), (3, _), (4, _), (5, _), (13, _)], [(101, _)]⟩ rfl (Fin.then (Tri.seq (Tri.regionL ?_))))
  refine Oc om (Oc om (Oc (op_field_p tyFld42_1 rfl rfl) (Oc (op_load_p1 tyOne3 rfl rfl rfl) (Oc om (Oc om ?_)))))
  refine Oc om (OpsL.keepS ⟨[(5, _), (13, _), (57, I me0), (58, I regions0), (60, I x0.Step), (61, .b (.one (.sl 1 (home0.map eI)))), (62, .b (.one (.sl 1 (sets0.map (eL 1 eI))))), (63, .b (.one (.sl 1 (states0.map eS))))], [(101, _)]⟩ rfl ?_)
  obtain ⟨⟨x_6, x_7, x_8⟩, e21, h⟩ := bnd h
  refine Oc (op_call (owner_Begin_spec 102 e21) goes11 rfl trivial rfl rfl) (Oc om (Oc (op_extract rfl rfl) (Oc (op_extract rfl rfl) (Oc (op_extract rfl rfl) (Oc (op_alloc (k := 103) tyZero31 rfl) ?_)))))
  refine OpsL.keepS ⟨[(5, _), (13, _), (15, Pt 103 0), (65, .b (.agg (eRound x_6))), (66, .b (.row 102)), (67, I x_8)], [(101, _), (102, .row 42 7 (x_7.map eNotice)), (103, .box 31 [.i 0, .i 0, .i 0, .nil, .nil, .nil, .nil, .nil, .nil, .nil])]⟩ rfl (Oc (op_store_p tyAgg31 rfl rfl rfl rfl (Nat.le_of_ble_eq_true rfl) rfl) (Oc oa (Oc oa ?_)))
  refine OpsL.nilS ⟨[(5, _), (13, _), (15, _), (17, I x_8)], [(101, _), (103, .box 31 (eRound x_6))]⟩ rfl (Tri.seq (Tri.seq (Tri.regionL ?_)))
  refine Oc om (Oc (op_neq rfl rfl) ?_)
  refine OpsL.nilS ⟨[(5, _), (13, _), (15, _), (69, B (decide (x_8 ≠ 0)))], [(101, _), (103, _)]⟩ rfl (Tri.ite h rfl (fun _ h => ?_) (fun _ h => ?_))
  ·refine Tri.seq (Tri.regionL ?_)
   obtain ⟨x_9, e22, h⟩ := bnd h
   refine Oc (op_call0 (skewbacklaw44_sanity_spec e22) goes10 rfl rfl) (Oc oa ?_)
   refine OpsL.nilS ⟨[(14, B x_9)], []⟩ rfl (Tri.ret (Fin.then_ret ?_))
   obtain rfl := Option.some.inj h
   refine Fin.keepS ⟨[(14, _)], []⟩ rfl (Fin.result' [.one (.bool x_9)] (.inl rfl) rfl (.cons (.tmp rfl) .nil) ⟨rfl, rfl⟩)
  ·refine Tri.skip (Fin.keepS ⟨[(5, _), (13, _), (15, _)], [(101, _), (103, _)]⟩ rfl (Fin.then ?_))
   obtain ⟨v23, h24, h⟩ := bnd h
   refine Tri.seqJ (v := v23) (fun (r_10 : Round) => ⟨[(13, Pt 101 0), (15, Pt 103 0)], [(101, .box 42 (eNotice x0)), (103, .box 31 (eRound r_10))]⟩) (fun z => .inl z) ?_ ?_
   ·refine Tri.seq (Tri.regionL ?_)
    refine Oc oa (OpsL.nilS ⟨[(5, _), (13, _), (15, _), (18, I 0)], [(101, _), (103, _)]⟩ rfl (Tri.block (Tri.loopJ h24 (un2 fun (r_11 : Round) (i_12 : Int) => ⟨[(5, .b (.one (.sl 7 (l0.map eNotice)))), (13, Pt 101 0), (15, Pt 103 0), (18, I i_12)], [(101, .box 42 (eNotice x0)), (103, .box 31 (eRound r_11))]⟩) [5, 13, 15, 18] [101, 103] rfl ?_)))
    rintro ⟨r_11, i_12⟩ o25 h26 hy27
    refine Tri.seq (Tri.seq (Tri.regionL ?_))
    refine Oc om (Oc om (Oc (op_len_e' und32 rfl (List.length_map _)) (Oc (op_lss rfl rfl) ?_)))
    refine OpsL.nilS ⟨[(5, _), (13, _), (15, _), (18, _), (74, B (decide (i_12 < (l0.length : Int))))], [(101, _), (103, _)]⟩ rfl (Tri.ite h26 rfl (fun _ h26 => ?_) (fun _ h26 => ?_))
    ·refine Tri.skip (Fin.keepS ⟨[(5, _), (13, _), (15, _), (18, _)], [(101, _), (103, _)]⟩ rfl (Fin.then (Tri.seq (Tri.block (Tri.seq (Tri.seq (Tri.regionL ?_)))))))
     refine Oc om (Oc om ?_)
     obtain ⟨x_14, e28, h26⟩ := bnd h26
     refine Oc (op_index_e tySl32 (ix_lo e28) (ix_map (e := eNotice) e28) rfl rfl) (Oc (op_field_e tyFld42_5 rfl rfl) (Oc (op_load_e1 tyOne22 rfl rfl) (Oc (op_len_e' und22 rfl (List.length_map _)) ?_)))
     refine OpsL.keepS ⟨[(5, _), (13, _), (15, _), (18, _), (82, I (x_14.Bodies.length : Int))], [(101, _), (103, _)]⟩ rfl (Oc (op_gtr rfl rfl) (Oc om ?_))
     refine CgF (!(decide (20 < (x_14.Bodies.length : Int)))) [] (fun g29 => trivial) (fun g29 => om) (CgF (!(decide (20 < (x_14.Bodies.length : Int)))) [] (fun g30 => by exact trivial) (fun g30 => om) ?_)
     obtain ⟨x_15, e32, h26⟩ := bnd h26
     refine CgF (!(decide (20 < (x_14.Bodies.length : Int)))) [85, 86] (fun g31 => ⟨g31, g31, trivial⟩) (fun g31 => op_index_e tySl32 (ix_lo (gc e32 g31)) (ix_map (e := eNotice) (gc e32 g31)) rfl rfl) (CgF (!(decide (20 < (x_14.Bodies.length : Int)))) [87] (fun g33 => ⟨g33, trivial⟩) (fun g33 => op_field_e tyFld42_4 rfl rfl) (CgF (!(decide (20 < (x_14.Bodies.length : Int)))) [88] (fun g34 => ⟨g34, trivial⟩) (fun g34 => op_load_e1 tyOne23 rfl rfl) (OpsL.keepS ⟨[(5, _), (13, _), (15, _), (18, _), (84, B (decide (20 < (x_14.Bodies.length : Int)))), (89, .opt (!(decide (20 < (x_14.Bodies.length : Int)))) (.one (.sl 1 (x_15.Sets.map (eL 1 eI)))))], [(101, _), (103, _)]⟩ rfl ?_)))
     obtain ⟨x_16, e36, h26⟩ := bnd h26
     refine CgF (!(decide (20 < (x_14.Bodies.length : Int)))) [89] (fun g35 => ⟨g35, trivial⟩) (fun g35 => op_call0 (skewbacklaw44_few_spec (gc e36 g35)) goes9 rfl rfl) (CgF (!(decide (20 < (x_14.Bodies.length : Int)))) [90] (fun g37 => ⟨g37, trivial⟩) (fun g37 => op_not rfl) (Oc (op_pick_or (fun e => by first | (rw [e]; rfl) | (simp only at e; rw [e]; rfl)) rfl rfl rfl rfl) (OpsL.nilS ⟨[(5, _), (13, _), (15, _), (18, _), (92, B ((decide (20 < (x_14.Bodies.length : Int))) || (!x_16)))], [(101, _), (103, _)]⟩ rfl (Tri.ite h26 rfl (fun _ h26 => ?_) (fun _ h26 => ?_)))))
     ·refine Tri.seq (Tri.regionL ?_)
      obtain ⟨x_17, e38, h26⟩ := bnd h26
      refine Oc (op_call0 (skewbacklaw44_sanity_spec e38) goes10 rfl rfl) (Oc oa ?_)
      refine OpsL.nilS ⟨[(14, B x_17)], []⟩ rfl (Tri.ret (Fin.then_ret (Fin.block_ret (Fin.then_ret ?_))))
      obtain rfl := hy27 _ (Option.some.inj h26).symm
      refine Fin.then_ret (Fin.block_ret (Fin.then_ret ?_))
      obtain rfl := Option.some.inj h
      refine Fin.keepS ⟨[(14, _)], []⟩ rfl (Fin.result' [.one (.bool x_17)] (.inl rfl) rfl (.cons (.tmp rfl) .nil) ⟨rfl, rfl⟩)
     ·refine Tri.skip (Fin.keepS ⟨[(5, _), (13, _), (15, _), (18, _)], [(101, _), (103, _)]⟩ rfl (Fin.then ?_))
      obtain ⟨x_18, e39, h26⟩ := bnd h26
      obtain ⟨⟨x_19, x_20⟩, e40, h26⟩ := bnd h26
      refine Tri.regionWF mixed [false, false, false, false, false, false, false, false, false, true] [.b (.agg (eRound r_11)), .b (.one (.sl 7 (l0.map eNotice))), I i_12, .b (.eptr (eNotice x_18)), .b (.agg (eNotice x_18)), .tup [.agg (eRound x_19), .one (.sl 7 (x_20.map eNotice))], .tup [.agg (eRound x_19), .one (.sl 7 (x_20.map eNotice))], .b (.agg (eRound x_19)), .b (.one (.sl 7 (x_20.map eNotice))), B true] [⟨[false, false, false, false, false, false, false, false, false, false], [(5, .b (.one (.sl 7 (l0.map eNotice)))), (13, Pt 101 0), (15, Pt 103 0), (18, I i_12)], [(101, .box 42 (eNotice x0)), (103, .box 31 (eRound r_11))], [true, true, true, true, true, true, true, true, true, true], [], []⟩, ⟨[false, false, false, false, false, false, false, false, false, true], [(5, .b (.one (.sl 7 (l0.map eNotice)))), (13, Pt 101 0), (15, Pt 103 0), (18, I i_12)], [(101, .box 42 (eNotice x0)), (103, .box 31 (eRound x_19))], [true, true, true, true, true, true, true, true, true, true], [0, 1, 2, 3, 4, 5, 6, 7, 9], []⟩] rfl (⟨by kernel_rfl, ⟨⟨.b (.agg (eRound r_11)), fun _ => rfl, fun _ => .p (by exact op_load_p tyAgg31 rfl rfl rfl rfl)⟩, ⟨.b (.one (.sl 7 (l0.map eNotice))), fun _ => rfl, fun _ => .p (by exact op_move rfl)⟩, ⟨I i_12, fun _ => rfl, fun _ => .p (by exact op_move rfl)⟩, ⟨.b (.eptr (eNotice x_18)), fun _ => rfl, fun _ => .p (by exact op_index_e tySl32 (ix_lo e39) (ix_map (e := eNotice) e39) rfl rfl)⟩, ⟨.b (.agg (eNotice x_18)), fun _ => rfl, fun _ => .p (by exact op_load_e tyAgg42 rfl rfl rfl)⟩, ⟨.tup [.agg (eRound x_19), .one (.sl 7 (x_20.map eNotice))], fun _ => rfl, fun _ => .p (by exact op_call0 (owner_Hear_spec 0 e40).persG goes17 rfl rfl)⟩, ⟨.tup [.agg (eRound x_19), .one (.sl 7 (x_20.map eNotice))], fun _ => rfl, fun _ => .p (by exact op_move rfl)⟩, ⟨.b (.agg (eRound x_19)), fun _ => rfl, fun _ => .p (by exact op_extract rfl rfl)⟩, ⟨.b (.one (.sl 7 (x_20.map eNotice))), fun _ => rfl, fun _ => .p (by exact op_extract rfl rfl)⟩, ⟨_, [], .b (.one .any), rfl, (fun e => by simp at e), rfl, rfl, fun _ => .toO [101, 103] (by exact .p (by exact op_store_p tyAgg31 rfl rfl rfl rfl (Nat.le_of_ble_eq_true rfl) rfl)) (by exact rfl)⟩, trivial⟩, ⟨by kernel_rfl, ⟨trivial, trivial, trivial, trivial, trivial, trivial, trivial, trivial, ⟨.b (.one (.sl 7 (x_20.map eNotice))), fun _ => rfl, fun _ => .p (by exact op_extract rfl rfl)⟩, trivial, trivial⟩, trivial⟩⟩) rfl rfl rfl [5, 13, 15, 18] [101, 103] (s' := ⟨[(5, _), (13, _), (15, _), (18, _)], [(101, _), (103, .box 31 (eRound x_19))]⟩) rfl (Fin.block_normal (Fin.keepS ⟨[(5, _), (13, _), (15, _), (18, _)], [(101, _), (103, _)]⟩ rfl (Fin.then (Tri.regionL ?_))))
      refine Oc om (Oc (op_add rfl rfl) (Oc oa ?_))
      refine OpsL.nil ?_
      exact Fin.againJ [5, 13, 15, 18] [101, 103] (x_19, IntKind.i64.wrap (i_12 + 1)) (Option.some.inj h26) rfl
    ·refine Tri.exit (Fin.then_exit ?_)
     obtain rfl := hy27 _ (Option.some.inj h26).symm
     refine Fin.then_exit (Fin.block_exit ?_)
     exact Fin.join [13, 15] [101, 103] r_11 rfl rfl
   ·rintro r_10 hv
    subst v23
    refine Tri.seq (Tri.regionL ?_)
    refine Oc (lp tyAgg31) (Oc (lp tyAgg42) ?_)
    obtain ⟨⟨x_21, x_22⟩, e41, h⟩ := bnd h
    refine Oc (op_call (owner_Hear_spec 105 e41) goes17 rfl trivial rfl rfl) (Oc om (Oc (op_extract rfl rfl) ?_))
    refine OpsL.keepS ⟨[(13, _), (15, _), (103, .tup [.agg (eRound x_21), .row 105]), (107, .b (.agg (eRound x_21)))], [(101, _), (103, _), (105, .row 42 7 (x_22.map eNotice))]⟩ rfl (Oc (op_extract rfl rfl) (Oc (op_alloc (k := 106) tyZero31 rfl) (Oc (op_store_p tyAgg31 rfl rfl rfl rfl (Nat.le_of_ble_eq_true rfl) rfl) (Oc oa ?_))))
    refine OpsL.nilS ⟨[(13, _), (15, _), (19, Pt 106 0)], [(101, _), (103, _), (106, .box 31 (eRound x_21))]⟩ rfl (Tri.seq (Tri.regionL ?_))
    refine Oc (lp tyAgg31) (Oc (lp tyAgg42) ?_)
    obtain ⟨⟨x_23, x_24⟩, e42, h⟩ := bnd h
    refine Oc (op_call (owner_Hear_spec 107 e42) goes17 rfl trivial rfl rfl) (Oc om (Oc (op_extract rfl rfl) ?_))
    refine OpsL.keepS ⟨[(13, _), (15, _), (19, _), (109, .tup [.agg (eRound x_23), .row 107]), (113, .b (.agg (eRound x_23)))], [(101, _), (103, _), (106, _), (107, .row 42 7 (x_24.map eNotice))]⟩ rfl (Oc (op_extract rfl rfl) (Oc (op_alloc (k := 108) tyZero31 rfl) (Oc (op_store_p tyAgg31 rfl rfl rfl rfl (Nat.le_of_ble_eq_true rfl) rfl) (Oc oa ?_))))
    refine OpsL.nilS ⟨[(13, _), (15, _), (19, _), (21, Pt 108 0), (22, .b (.row 107))], [(101, _), (103, _), (106, _), (107, _), (108, .box 31 (eRound x_23))]⟩ rfl (Tri.seq (Tri.regionL ?_))
    refine Oc (lp tyAgg31) (Oc (lp tyAgg42) ?_)
    obtain ⟨⟨x_25, x_26⟩, e43, h⟩ := bnd h
    refine Oc (op_call (owner_Hear_spec 109 e43) goes17 rfl trivial rfl rfl) (Oc om (Oc (op_extract rfl rfl) ?_))
    refine OpsL.keepS ⟨[(19, _), (21, _), (22, _), (115, .tup [.agg (eRound x_25), .row 109]), (119, .b (.agg (eRound x_25)))], [(106, _), (107, _), (108, _), (109, .row 42 7 (x_26.map eNotice))]⟩ rfl (Oc (op_extract rfl rfl) (Oc (op_alloc (k := 110) tyZero31 rfl) (Oc (op_store_p tyAgg31 rfl rfl rfl rfl (Nat.le_of_ble_eq_true rfl) rfl) (Oc oa ?_))))
    refine OpsL.nilS ⟨[(19, _), (21, _), (22, _), (23, Pt 110 0)], [(106, _), (107, _), (108, _), (110, .box 31 (eRound x_25))]⟩ rfl (Tri.seq (Tri.regionL ?_))
    obtain ⟨x_27, e44, h⟩ := bnd h
    refine Oc (op_call0 (skewbacklaw44_sanity_spec e44) goes10 rfl rfl) (Oc om ?_)
    refine CgT x_27 [] (fun g45 => trivial) (fun g45 => lp tyAgg31) (CgT x_27 [] (fun g46 => by exact trivial) (fun g46 => lp tyAgg31) (OpsL.keepS ⟨[(19, _), (22, _), (23, _), (122, B x_27), (123, .opt x_27 (.agg (eRound x_21))), (124, .opt x_27 (.agg (eRound x_23)))], [(106, _), (107, _), (110, _)]⟩ rfl ?_))
    obtain ⟨x_28, e48, h⟩ := bnd h
    refine CgT x_27 [123, 124] (fun g47 => ⟨g47, g47, trivial⟩) (fun g47 => op_call0 (skewbackref44_SameRound_spec (gc e48 g47)) goes13 rfl rfl) (Oc (op_pick_and (fun e => e) rfl rfl rfl rfl) (Oc om ?_))
    refine CgT (x_27 && x_28) [] (fun g49 => trivial) (fun g49 => om) (CgT (x_27 && x_28) [128] (fun g50 => by exact ⟨g50, trivial⟩) (fun g50 => op_len_r' und32 rfl rfl (List.length_map _)) (CgT (x_27 && x_28) [129] (fun g51 => by exact ⟨g51, trivial⟩) (fun g51 => op_eql rfl rfl) (Oc (op_pick_and (fun e => e) rfl rfl rfl rfl) (OpsL.keepS ⟨[(19, _), (23, _), (131, B ((x_27 && x_28) && (decide ((x_24.length : Int) = 0))))], [(106, _), (110, _)]⟩ rfl (Oc om ?_)))))
    refine CgT ((x_27 && x_28) && (decide ((x_24.length : Int) = 0))) [] (fun g52 => trivial) (fun g52 => lp tyAgg31) (CgT ((x_27 && x_28) && (decide ((x_24.length : Int) = 0))) [] (fun g53 => by exact trivial) (fun g53 => lp tyAgg31) ?_)
    obtain ⟨x_29, e55, h⟩ := bnd h
    refine CgT ((x_27 && x_28) && (decide ((x_24.length : Int) = 0))) [133, 134] (fun g54 => ⟨g54, g54, trivial⟩) (fun g54 => op_call0 (skewbackref44_SameRound_spec (gc e55 g54)) goes13 rfl rfl) (OpsL.consB h rfl (op_pick_and (fun e => e) rfl rfl rfl rfl) (fun x_30 h => ?_))
    refine Oc oa (OpsL.nilS ⟨[(14, B x_30)], []⟩ rfl (Tri.ret ?_))
    obtain rfl := Option.some.inj h
    refine Fin.keepS ⟨[(14, _)], []⟩ rfl (Fin.result' [.one (.bool x_30)] (.inl rfl) rfl (.cons (.tmp rfl) .nil) ⟨rfl, rfl⟩)
end Go.Proofs.Ytnpddoaeoefcnaa

