/- printed walks -/
import Derived.Test.YtdjnlmmhbeeihaaGreatDoorW2
namespace Go.Proofs.YtdjnlmmhbeeihaaGreatDoor
open Go.Sk
set_option maxHeartbeats 1000000
set_option maxRecDepth 4000
set_option linter.unusedSimpArgs false
set_option linter.unusedVariables false
variable {mx : Int}
def r3_Quo_S (F : Nat) (a0 : Big) (b0 : Big) : Option Big :=
 Option.bind (r3_word_S F a0) (un2 fun x_1 x_2 => Option.bind (r3_word_S F b0) (un2 fun x_3 x_4 => if ((x_2 && x_4) && (decide (x_3 ≠ 0))) = true then ((r3_floor_S F x_1 x_3).bind fun x_5 => (r3_Of_S F x_5).bind fun x_6 => some x_6) else ((r3_Good_S F a0).bind fun x_7 => (gcall (!(!x_7)) (r3_Good_S F b0)).bind fun x_8 => (gcall (!((!x_7) || (!x_8))) (r3_digits_S F b0)).bind fun x_9 => if (((!x_7) || (!x_8)) || (decide ((x_9.length : Int) = 0))) = true then ((r3_Bad_S F).bind fun x_10 => some x_10) else ((r3_digits_S F a0).bind fun x_11 => (r3_digits_S F b0).bind fun x_12 => Option.bind (r3_divide_S F x_11 x_12) (un2 fun x_13 x_14 => Option.bind (if ((a0.Neg != b0.Neg) && (decide (0 < (x_14.length : Int)))) = true then ((r3_plus_S F x_13 [1]).bind fun x_16 => some x_16) else (some x_13)) (fun q_15 => (r3_number_S F (a0.Neg != b0.Neg) q_15).bind fun x_17 => some x_17))))))
theorem r3_Quo_spec {F : Nat} {a0 : Big} {b0 : Big} {r : Big} (h : r3_Quo_S F a0 b0 = some r) : Meets Tryz.prog (tabs mx) 89 [] [.agg (eBig a0), .agg (eBig b0)] (Is [] (.b (.agg (eBig r)))) := by
 unfold r3_Quo_S at h
 refine Meets.intro 76 Tryz.func89 Tryz.ntmps89 rfl (by simp) fun E => ?_
 show Tri _ E ⟨76, [], []⟩ _ ⟨[(0, .b (.agg (eBig a0))), (1, .b (.agg (eBig b0)))], []⟩ _
 refine Tri.seq (Tri.regionL ?_)
 refine Oc (op_box (k := 101) rfl rfl) (Oc (op_box (k := 102) rfl rfl) (Oc (op_alloc (k := 103) tyZero25 rfl) ?_))
 refine OpsL.nilS ⟨[(2, Pt 101 0), (3, Pt 102 0), (4, Pt 103 0)], [(101, .box 25 (eBig a0)), (102, .box 25 (eBig b0)), (103, .box 25 zBig)]⟩ rfl (Tri.seq (Tri.regionL ?_))
 refine Oc (lp tyAgg25) ?_
 obtain ⟨⟨x_1, x_2⟩, e1, h⟩ := bnd h
 refine Oc (op_call0 (r3_word_spec e1) goes81 rfl rfl) (Oc om (Oc (op_extract rfl rfl) (Oc (op_extract rfl rfl) (Oc oa (Oc oa ?_)))))
 refine OpsL.nilS ⟨[(2, Pt 101 0), (3, Pt 102 0), (4, Pt 103 0), (5, I x_1), (6, B x_2)], [(101, .box 25 (eBig a0)), (102, .box 25 (eBig b0)), (103, .box 25 zBig)]⟩ rfl (Tri.seq (Tri.regionL ?_))
 refine Oc (lp tyAgg25) ?_
 obtain ⟨⟨x_3, x_4⟩, e2, h⟩ := bnd h
 refine Oc (op_call0 (r3_word_spec e2) goes81 rfl rfl) (Oc om (Oc (op_extract rfl rfl) (Oc (op_extract rfl rfl) (Oc oa (Oc oa ?_)))))
 refine OpsL.nilS ⟨[(2, Pt 101 0), (3, Pt 102 0), (4, Pt 103 0), (5, I x_1), (6, B x_2), (7, I x_3), (8, B x_4)], [(101, .box 25 (eBig a0)), (102, .box 25 (eBig b0)), (103, .box 25 zBig)]⟩ rfl (Tri.seq (Tri.seq (Tri.regionL ?_)))
 refine Oc om (Oc om ?_)
 refine CgT x_2 [] (fun g3 => trivial) (fun g3 => om) (Oc (op_pick_and (fun e => e) rfl rfl rfl rfl) (Oc om ?_))
 refine CgT (x_2 && x_4) [] (fun g4 => trivial) (fun g4 => om) (CgT (x_2 && x_4) [26] (fun g5 => by exact ⟨g5, trivial⟩) (fun g5 => op_neq rfl rfl) (Oc (op_pick_and (fun e => e) rfl rfl rfl rfl) (OpsL.nilS ⟨[(2, Pt 101 0), (3, Pt 102 0), (4, Pt 103 0), (5, I x_1), (7, I x_3), (28, B ((x_2 && x_4) && (decide (x_3 ≠ 0))))], [(101, .box 25 (eBig a0)), (102, .box 25 (eBig b0)), (103, .box 25 zBig)]⟩ rfl (Tri.ite h rfl (fun _ h => ?_) (fun _ h => ?_)))))
 ·refine Tri.seq (Tri.regionL ?_)
  refine Oc om (Oc om ?_)
  obtain ⟨x_5, e6, h⟩ := bnd h
  refine Oc (op_call0 (r3_floor_spec e6) goes122 rfl rfl) ?_
  obtain ⟨x_6, e7, h⟩ := bnd h
  refine Oc (op_call0 (r3_Of_spec e7) goes12 rfl rfl) (Oc (op_store_p tyAgg25 rfl rfl rfl rfl (Nat.le_of_ble_eq_true rfl) rfl) ?_)
  refine OpsL.nilS ⟨[(4, Pt 103 0)], [(103, .box 25 (eBig x_6))]⟩ rfl (Tri.ret (Fin.then_ret ?_))
  obtain rfl := Option.some.inj h
  refine Fin.keepS ⟨[(4, Pt 103 0)], [(103, .box 25 (eBig x_6))]⟩ rfl (Fin.result' [.agg (eBig x_6)] (.inl rfl) rfl (.cons (.agg tyAgg25 rfl rfl rfl rfl) .nil) ⟨rfl, rfl⟩)
 ·refine Tri.skip (Fin.keepS ⟨[(2, Pt 101 0), (3, Pt 102 0), (4, Pt 103 0)], [(101, .box 25 (eBig a0)), (102, .box 25 (eBig b0)), (103, .box 25 zBig)]⟩ rfl (Fin.then (Tri.seq (Tri.seq (Tri.regionL ?_)))))
  refine Oc (lp tyAgg25) ?_
  obtain ⟨x_7, e8, h⟩ := bnd h
  refine Oc (op_call0 (r3_Good_spec e8) goes15 rfl rfl) (Oc (op_not rfl) (Oc om ?_))
  refine CgF (!(!x_7)) [] (fun g9 => trivial) (fun g9 => lp tyAgg25) (OpsL.keepS ⟨[(2, Pt 101 0), (3, Pt 102 0), (4, Pt 103 0), (36, B (!x_7)), (37, .opt (!(!x_7)) (.agg (eBig b0)))], [(101, .box 25 (eBig a0)), (102, .box 25 (eBig b0)), (103, .box 25 zBig)]⟩ rfl ?_)
  obtain ⟨x_8, e11, h⟩ := bnd h
  refine CgF (!(!x_7)) [37] (fun g10 => ⟨g10, trivial⟩) (fun g10 => op_call0 (r3_Good_spec (gc e11 g10)) goes15 rfl rfl) (CgF (!(!x_7)) [38] (fun g12 => ⟨g12, trivial⟩) (fun g12 => op_not rfl) (Oc (op_pick_or (fun e => by rw [e]; rfl) rfl rfl rfl rfl) (Oc om ?_)))
  refine CgF (!((!x_7) || (!x_8))) [] (fun g13 => trivial) (fun g13 => lp tyAgg25) ?_
  obtain ⟨x_9, e15, h⟩ := bnd h
  refine CgF (!((!x_7) || (!x_8))) [42] (fun g14 => ⟨g14, trivial⟩) (fun g14 => op_call0 (r3_digits_spec (gc e15 g14)) goes85 rfl rfl) (OpsL.keepS ⟨[(2, Pt 101 0), (3, Pt 102 0), (4, Pt 103 0), (41, B ((!x_7) || (!x_8))), (43, .opt (!((!x_7) || (!x_8))) (.one (.sl 1 (x_9.map eI))))], [(101, .box 25 (eBig a0)), (102, .box 25 (eBig b0)), (103, .box 25 zBig)]⟩ rfl (CgF (!((!x_7) || (!x_8))) [43] (fun g16 => ⟨g16, trivial⟩) (fun g16 => op_len_e' und70 rfl (List.length_map _)) (CgF (!((!x_7) || (!x_8))) [44] (fun g17 => ⟨g17, trivial⟩) (fun g17 => op_eql rfl rfl) (Oc (op_pick_or (fun e => by rw [e]; rfl) rfl rfl rfl rfl) (OpsL.nilS ⟨[(2, Pt 101 0), (3, Pt 102 0), (4, Pt 103 0), (46, B (((!x_7) || (!x_8)) || (decide ((x_9.length : Int) = 0))))], [(101, .box 25 (eBig a0)), (102, .box 25 (eBig b0)), (103, .box 25 zBig)]⟩ rfl ?_)))))
  refine Tri.ite h rfl (fun _ h => ?_) (fun _ h => ?_)
  ·refine Tri.seq (Tri.regionL ?_)
   obtain ⟨x_10, e18, h⟩ := bnd h
   refine Oc (op_call0 (r3_Bad_spec e18) goes83 rfl rfl) (Oc (op_store_p tyAgg25 rfl rfl rfl rfl (Nat.le_of_ble_eq_true rfl) rfl) ?_)
   refine OpsL.nilS ⟨[(4, Pt 103 0)], [(103, .box 25 (eBig x_10))]⟩ rfl (Tri.ret (Fin.then_ret ?_))
   obtain rfl := Option.some.inj h
   refine Fin.keepS ⟨[(4, Pt 103 0)], [(103, .box 25 (eBig x_10))]⟩ rfl (Fin.result' [.agg (eBig x_10)] (.inl rfl) rfl (.cons (.agg tyAgg25 rfl rfl rfl rfl) .nil) ⟨rfl, rfl⟩)
  ·refine Tri.skip (Fin.keepS ⟨[(2, Pt 101 0), (3, Pt 102 0), (4, Pt 103 0)], [(101, .box 25 (eBig a0)), (102, .box 25 (eBig b0)), (103, .box 25 zBig)]⟩ rfl (Fin.then (Tri.seq ?_)))
   refine Tri.keepS ⟨[(2, Pt 101 0), (3, Pt 102 0), (4, Pt 103 0)], [(101, .box 25 (eBig a0)), (102, .box 25 (eBig b0)), (103, .box 25 zBig)]⟩ rfl ?_
   obtain ⟨x_11, e19, h⟩ := bnd h
   obtain ⟨x_12, e20, h⟩ := bnd h
   obtain ⟨⟨x_13, x_14⟩, e21, h⟩ := bnd h
   refine Tri.regionY mixed 10 [.b (.agg (eBig a0)), .b (.one (.sl 1 (x_11.map eI))), .b (.agg (eBig b0)), .b (.one (.sl 1 (x_12.map eI))), .tup [.one (.sl 1 (x_13.map eI)), .one (.sl 1 (x_14.map eI))], .tup [.one (.sl 1 (x_13.map eI)), .one (.sl 1 (x_14.map eI))], .b (.one (.sl 1 (x_13.map eI))), .b (.one (.sl 1 (x_14.map eI))), .b (.one (.sl 1 (x_13.map eI))), .b (.one (.sl 1 (x_14.map eI)))] [2, 3, 4, 9, 10] [101, 102, 103] (s' := ⟨[(2, Pt 101 0), (3, Pt 102 0), (4, Pt 103 0), (9, .b (.one (.sl 1 (x_13.map eI)))), (10, .b (.one (.sl 1 (x_14.map eI))))], [(101, .box 25 (eBig a0)), (102, .box 25 (eBig b0)), (103, .box 25 zBig)]⟩) rfl ⟨fun _ => .p (lp tyAgg25), fun _ => .p (op_call0 (r3_digits_spec e19) goes85 rfl rfl), fun _ => .p (lp tyAgg25), fun _ => .p (op_call0 (r3_digits_spec e20) goes85 rfl rfl), fun _ => .p (op_call0 (r3_divide_spec e21) goes121 rfl rfl), fun _ => .p om, fun _ => .p (op_extract rfl rfl), fun _ => .p (op_extract rfl rfl), fun _ => .p oa, fun _ => .p oa, trivial⟩ rfl rfl ?_
   obtain ⟨v22, h23, h⟩ := bnd h
   refine Tri.seqJ (v := v22) (fun (q_15 : List Int) => ⟨[(2, Pt 101 0), (3, Pt 102 0), (4, Pt 103 0), (9, .b (.one (.sl 1 (q_15.map eI))))], [(101, .box 25 (eBig a0)), (102, .box 25 (eBig b0)), (103, .box 25 zBig)]⟩) (fun z => z) ?_ ?_
   ·refine Tri.seq (Tri.regionL ?_)
    refine Oc (op_field_p tyFld25_1 rfl rfl) (Oc (op_load_p1 tyOne4 rfl rfl rfl) (Oc (op_field_p tyFld25_1 rfl rfl) (Oc (op_load_p1 tyOne4 rfl rfl rfl) (Oc (op_neq_bool und4 rfl rfl) (Oc om ?_)))))
    refine CgT (a0.Neg != b0.Neg) [] (fun g24 => trivial) (fun g24 => om) (OpsL.keepS ⟨[(2, Pt 101 0), (3, Pt 102 0), (4, Pt 103 0), (9, .b (.one (.sl 1 (x_13.map eI)))), (61, B (a0.Neg != b0.Neg)), (62, .opt (a0.Neg != b0.Neg) (.one (.sl 1 (x_14.map eI))))], [(101, .box 25 (eBig a0)), (102, .box 25 (eBig b0)), (103, .box 25 zBig)]⟩ rfl (CgT (a0.Neg != b0.Neg) [62] (fun g25 => by exact ⟨g25, trivial⟩) (fun g25 => op_len_e' und70 rfl (List.length_map _)) (CgT (a0.Neg != b0.Neg) [63] (fun g26 => by exact ⟨g26, trivial⟩) (fun g26 => op_gtr rfl rfl) (Oc (op_pick_and (fun e => e) rfl rfl rfl rfl) (OpsL.nilS ⟨[(2, Pt 101 0), (3, Pt 102 0), (4, Pt 103 0), (9, .b (.one (.sl 1 (x_13.map eI)))), (65, B ((a0.Neg != b0.Neg) && (decide (0 < (x_14.length : Int)))))], [(101, .box 25 (eBig a0)), (102, .box 25 (eBig b0)), (103, .box 25 zBig)]⟩ rfl ?_)))))
    refine Tri.ite h23 rfl (fun _ h23 => ?_) (fun _ h23 => ?_)
    ·refine Tri.regionL (Oc om (Oc (op_buildSlice (k := 104) (es := [1].map eI) tySl70 rfl rfl (uni_map fun _ => rfl) rfl (by decide) (by decide) rfl) ?_))
     refine OpsL.persist 104 rfl ?_
     obtain ⟨x_16, e27, h23⟩ := bnd h23
     refine Oc (op_call0 (r3_plus_spec e27) goes77 rfl rfl) (Oc oa ?_)
     refine OpsL.nil ?_
     exact Fin.join [2, 3, 4, 9] [101, 102, 103] x_16 (Option.some.inj h23) rfl
    ·refine Tri.skip ?_
     exact Fin.join [2, 3, 4, 9] [101, 102, 103] x_13 (Option.some.inj h23) rfl
   ·rintro q_15 hv
    subst v22
    refine Tri.seq (Tri.regionL ?_)
    refine Oc (op_field_p tyFld25_1 rfl rfl) (Oc (op_load_p1 tyOne4 rfl rfl rfl) (Oc (op_field_p tyFld25_1 rfl rfl) (Oc (op_load_p1 tyOne4 rfl rfl rfl) (Oc (op_neq_bool und4 rfl rfl) (Oc om ?_)))))
    obtain ⟨x_17, e28, h⟩ := bnd h
    refine Oc (op_call0 (r3_number_spec e28) goes76 rfl rfl) (Oc (op_store_p tyAgg25 rfl rfl rfl rfl (Nat.le_of_ble_eq_true rfl) rfl) ?_)
    refine OpsL.nilS ⟨[(4, Pt 103 0)], [(103, .box 25 (eBig x_17))]⟩ rfl (Tri.ret ?_)
    obtain rfl := Option.some.inj h
    refine Fin.keepS ⟨[(4, Pt 103 0)], [(103, .box 25 (eBig x_17))]⟩ rfl (Fin.result' [.agg (eBig x_17)] (.inl rfl) rfl (.cons (.agg tyAgg25 rfl rfl rfl rfl) .nil) ⟨rfl, rfl⟩)
def r3_Rem_S (F : Nat) (a0 : Big) (b0 : Big) : Option Big :=
 Option.bind (r3_word_S F a0) (un2 fun x_1 x_2 => Option.bind (r3_word_S F b0) (un2 fun x_3 x_4 => if ((x_2 && x_4) && (decide (x_3 ≠ 0))) = true then ((r3_floor_S F x_1 x_3).bind fun x_5 => letN (IntKind.i64.wrap (x_1 - (IntKind.i64.wrap (x_3 * x_5)))) fun x_6 => (r3_Of_S F x_6).bind fun x_7 => some x_7) else ((r3_Good_S F a0).bind fun x_8 => (gcall (!(!x_8)) (r3_Good_S F b0)).bind fun x_9 => (gcall (!((!x_8) || (!x_9))) (r3_digits_S F b0)).bind fun x_10 => if (((!x_8) || (!x_9)) || (decide ((x_10.length : Int) = 0))) = true then ((r3_Bad_S F).bind fun x_11 => some x_11) else ((r3_digits_S F a0).bind fun x_12 => (r3_digits_S F b0).bind fun x_13 => Option.bind (r3_divide_S F x_12 x_13) (un2 fun x_14 x_15 => Option.bind (if ((a0.Neg != b0.Neg) && (decide (0 < (x_15.length : Int)))) = true then ((r3_digits_S F b0).bind fun x_17 => (r3_minus_S F x_17 x_15).bind fun x_18 => some x_18) else (some x_15)) (fun r_16 => (r3_number_S F b0.Neg r_16).bind fun x_19 => some x_19))))))
theorem r3_Rem_spec {F : Nat} {a0 : Big} {b0 : Big} {r : Big} (h : r3_Rem_S F a0 b0 = some r) : Meets Tryz.prog (tabs mx) 98 [] [.agg (eBig a0), .agg (eBig b0)] (Is [] (.b (.agg (eBig r)))) := by
 unfold r3_Rem_S at h
 refine Meets.intro 78 Tryz.func98 Tryz.ntmps98 rfl (by simp) fun E => ?_
 show Tri _ E ⟨78, [], []⟩ _ ⟨[(0, .b (.agg (eBig a0))), (1, .b (.agg (eBig b0)))], []⟩ _
 refine Tri.seq (Tri.regionL ?_)
 refine Oc (op_box (k := 101) rfl rfl) (Oc (op_box (k := 102) rfl rfl) (Oc (op_alloc (k := 103) tyZero25 rfl) ?_))
 refine OpsL.nilS ⟨[(2, Pt 101 0), (3, Pt 102 0), (4, Pt 103 0)], [(101, .box 25 (eBig a0)), (102, .box 25 (eBig b0)), (103, .box 25 zBig)]⟩ rfl (Tri.seq (Tri.regionL ?_))
 refine Oc (lp tyAgg25) ?_
 obtain ⟨⟨x_1, x_2⟩, e1, h⟩ := bnd h
 refine Oc (op_call0 (r3_word_spec e1) goes81 rfl rfl) (Oc om (Oc (op_extract rfl rfl) (Oc (op_extract rfl rfl) (Oc oa (Oc oa ?_)))))
 refine OpsL.nilS ⟨[(2, Pt 101 0), (3, Pt 102 0), (4, Pt 103 0), (5, I x_1), (6, B x_2)], [(101, .box 25 (eBig a0)), (102, .box 25 (eBig b0)), (103, .box 25 zBig)]⟩ rfl (Tri.seq (Tri.regionL ?_))
 refine Oc (lp tyAgg25) ?_
 obtain ⟨⟨x_3, x_4⟩, e2, h⟩ := bnd h
 refine Oc (op_call0 (r3_word_spec e2) goes81 rfl rfl) (Oc om (Oc (op_extract rfl rfl) (Oc (op_extract rfl rfl) (Oc oa (Oc oa ?_)))))
 refine OpsL.nilS ⟨[(2, Pt 101 0), (3, Pt 102 0), (4, Pt 103 0), (5, I x_1), (6, B x_2), (7, I x_3), (8, B x_4)], [(101, .box 25 (eBig a0)), (102, .box 25 (eBig b0)), (103, .box 25 zBig)]⟩ rfl (Tri.seq (Tri.seq (Tri.regionL ?_)))
 refine Oc om (Oc om ?_)
 refine CgT x_2 [] (fun g3 => trivial) (fun g3 => om) (Oc (op_pick_and (fun e => e) rfl rfl rfl rfl) (Oc om ?_))
 refine CgT (x_2 && x_4) [] (fun g4 => trivial) (fun g4 => om) (CgT (x_2 && x_4) [26] (fun g5 => by exact ⟨g5, trivial⟩) (fun g5 => op_neq rfl rfl) (Oc (op_pick_and (fun e => e) rfl rfl rfl rfl) (OpsL.nilS ⟨[(2, Pt 101 0), (3, Pt 102 0), (4, Pt 103 0), (5, I x_1), (7, I x_3), (28, B ((x_2 && x_4) && (decide (x_3 ≠ 0))))], [(101, .box 25 (eBig a0)), (102, .box 25 (eBig b0)), (103, .box 25 zBig)]⟩ rfl (Tri.ite h rfl (fun _ h => ?_) (fun _ h => ?_)))))
 ·refine Tri.seq (Tri.regionL ?_)
  refine Oc om (Oc om (Oc om (Oc om ?_)))
  obtain ⟨x_5, e6, h⟩ := bnd h
  refine Oc (op_call0 (r3_floor_spec e6) goes122 rfl rfl) (OpsL.keepS ⟨[(4, Pt 103 0), (29, I x_1), (30, I x_3), (33, I x_5)], [(103, .box 25 zBig)]⟩ rfl (Oc (op_mul rfl rfl) (OpsL.consI .i64 h rfl (op_sub rfl rfl) (fun x_6 h => ?_))))
  obtain ⟨x_7, e7, h⟩ := bnd h
  refine Oc (op_call0 (r3_Of_spec e7) goes12 rfl rfl) (Oc (op_store_p tyAgg25 rfl rfl rfl rfl (Nat.le_of_ble_eq_true rfl) rfl) ?_)
  refine OpsL.nilS ⟨[(4, Pt 103 0)], [(103, .box 25 (eBig x_7))]⟩ rfl (Tri.ret (Fin.then_ret ?_))
  obtain rfl := Option.some.inj h
  refine Fin.keepS ⟨[(4, Pt 103 0)], [(103, .box 25 (eBig x_7))]⟩ rfl (Fin.result' [.agg (eBig x_7)] (.inl rfl) rfl (.cons (.agg tyAgg25 rfl rfl rfl rfl) .nil) ⟨rfl, rfl⟩)
 ·refine Tri.skip (Fin.keepS ⟨[(2, Pt 101 0), (3, Pt 102 0), (4, Pt 103 0)], [(101, .box 25 (eBig a0)), (102, .box 25 (eBig b0)), (103, .box 25 zBig)]⟩ rfl (Fin.then (Tri.seq (Tri.seq (Tri.regionL ?_)))))
  refine Oc (lp tyAgg25) ?_
  obtain ⟨x_8, e8, h⟩ := bnd h
  refine Oc (op_call0 (r3_Good_spec e8) goes15 rfl rfl) (Oc (op_not rfl) (Oc om ?_))
  refine CgF (!(!x_8)) [] (fun g9 => trivial) (fun g9 => lp tyAgg25) (OpsL.keepS ⟨[(2, Pt 101 0), (3, Pt 102 0), (4, Pt 103 0), (40, B (!x_8)), (41, .opt (!(!x_8)) (.agg (eBig b0)))], [(101, .box 25 (eBig a0)), (102, .box 25 (eBig b0)), (103, .box 25 zBig)]⟩ rfl ?_)
  obtain ⟨x_9, e11, h⟩ := bnd h
  refine CgF (!(!x_8)) [41] (fun g10 => ⟨g10, trivial⟩) (fun g10 => op_call0 (r3_Good_spec (gc e11 g10)) goes15 rfl rfl) (CgF (!(!x_8)) [42] (fun g12 => ⟨g12, trivial⟩) (fun g12 => op_not rfl) (Oc (op_pick_or (fun e => by rw [e]; rfl) rfl rfl rfl rfl) (Oc om ?_)))
  refine CgF (!((!x_8) || (!x_9))) [] (fun g13 => trivial) (fun g13 => lp tyAgg25) ?_
  obtain ⟨x_10, e15, h⟩ := bnd h
  refine CgF (!((!x_8) || (!x_9))) [46] (fun g14 => ⟨g14, trivial⟩) (fun g14 => op_call0 (r3_digits_spec (gc e15 g14)) goes85 rfl rfl) (OpsL.keepS ⟨[(2, Pt 101 0), (3, Pt 102 0), (4, Pt 103 0), (45, B ((!x_8) || (!x_9))), (47, .opt (!((!x_8) || (!x_9))) (.one (.sl 1 (x_10.map eI))))], [(101, .box 25 (eBig a0)), (102, .box 25 (eBig b0)), (103, .box 25 zBig)]⟩ rfl (CgF (!((!x_8) || (!x_9))) [47] (fun g16 => ⟨g16, trivial⟩) (fun g16 => op_len_e' und70 rfl (List.length_map _)) (CgF (!((!x_8) || (!x_9))) [48] (fun g17 => ⟨g17, trivial⟩) (fun g17 => op_eql rfl rfl) (Oc (op_pick_or (fun e => by rw [e]; rfl) rfl rfl rfl rfl) (OpsL.nilS ⟨[(2, Pt 101 0), (3, Pt 102 0), (4, Pt 103 0), (50, B (((!x_8) || (!x_9)) || (decide ((x_10.length : Int) = 0))))], [(101, .box 25 (eBig a0)), (102, .box 25 (eBig b0)), (103, .box 25 zBig)]⟩ rfl ?_)))))
  refine Tri.ite h rfl (fun _ h => ?_) (fun _ h => ?_)
  ·refine Tri.seq (Tri.regionL ?_)
   obtain ⟨x_11, e18, h⟩ := bnd h
   refine Oc (op_call0 (r3_Bad_spec e18) goes83 rfl rfl) (Oc (op_store_p tyAgg25 rfl rfl rfl rfl (Nat.le_of_ble_eq_true rfl) rfl) ?_)
   refine OpsL.nilS ⟨[(4, Pt 103 0)], [(103, .box 25 (eBig x_11))]⟩ rfl (Tri.ret (Fin.then_ret ?_))
   obtain rfl := Option.some.inj h
   refine Fin.keepS ⟨[(4, Pt 103 0)], [(103, .box 25 (eBig x_11))]⟩ rfl (Fin.result' [.agg (eBig x_11)] (.inl rfl) rfl (.cons (.agg tyAgg25 rfl rfl rfl rfl) .nil) ⟨rfl, rfl⟩)
  ·refine Tri.skip (Fin.keepS ⟨[(2, Pt 101 0), (3, Pt 102 0), (4, Pt 103 0)], [(101, .box 25 (eBig a0)), (102, .box 25 (eBig b0)), (103, .box 25 zBig)]⟩ rfl (Fin.then (Tri.seq ?_)))
   refine Tri.keepS ⟨[(2, Pt 101 0), (3, Pt 102 0), (4, Pt 103 0)], [(101, .box 25 (eBig a0)), (102, .box 25 (eBig b0)), (103, .box 25 zBig)]⟩ rfl ?_
   obtain ⟨x_12, e19, h⟩ := bnd h
   obtain ⟨x_13, e20, h⟩ := bnd h
   obtain ⟨⟨x_14, x_15⟩, e21, h⟩ := bnd h
   refine Tri.regionY mixed 10 [.b (.agg (eBig a0)), .b (.one (.sl 1 (x_12.map eI))), .b (.agg (eBig b0)), .b (.one (.sl 1 (x_13.map eI))), .tup [.one (.sl 1 (x_14.map eI)), .one (.sl 1 (x_15.map eI))], .tup [.one (.sl 1 (x_14.map eI)), .one (.sl 1 (x_15.map eI))], .b (.one (.sl 1 (x_14.map eI))), .b (.one (.sl 1 (x_15.map eI))), .b (.one (.sl 1 (x_14.map eI))), .b (.one (.sl 1 (x_15.map eI)))] [2, 3, 4, 10] [101, 102, 103] (s' := ⟨[(2, Pt 101 0), (3, Pt 102 0), (4, Pt 103 0), (10, .b (.one (.sl 1 (x_15.map eI))))], [(101, .box 25 (eBig a0)), (102, .box 25 (eBig b0)), (103, .box 25 zBig)]⟩) rfl ⟨fun _ => .p (lp tyAgg25), fun _ => .p (op_call0 (r3_digits_spec e19) goes85 rfl rfl), fun _ => .p (lp tyAgg25), fun _ => .p (op_call0 (r3_digits_spec e20) goes85 rfl rfl), fun _ => .p (op_call0 (r3_divide_spec e21) goes121 rfl rfl), fun _ => .p om, fun _ => .p (op_extract rfl rfl), fun _ => .p (op_extract rfl rfl), fun _ => .p oa, fun _ => .p oa, trivial⟩ rfl rfl ?_
   obtain ⟨v22, h23, h⟩ := bnd h
   refine Tri.seqJ (v := v22) (fun (r_16 : List Int) => ⟨[(3, Pt 102 0), (4, Pt 103 0), (10, .b (.one (.sl 1 (r_16.map eI))))], [(102, .box 25 (eBig b0)), (103, .box 25 zBig)]⟩) (fun z => z) ?_ ?_
   ·refine Tri.seq (Tri.regionL ?_)
    refine Oc (op_field_p tyFld25_1 rfl rfl) (Oc (op_load_p1 tyOne4 rfl rfl rfl) (Oc (op_field_p tyFld25_1 rfl rfl) (Oc (op_load_p1 tyOne4 rfl rfl rfl) (Oc (op_neq_bool und4 rfl rfl) (Oc om ?_)))))
    refine CgT (a0.Neg != b0.Neg) [] (fun g24 => trivial) (fun g24 => om) (OpsL.keepS ⟨[(3, Pt 102 0), (4, Pt 103 0), (10, .b (.one (.sl 1 (x_15.map eI)))), (65, B (a0.Neg != b0.Neg)), (66, .opt (a0.Neg != b0.Neg) (.one (.sl 1 (x_15.map eI))))], [(102, .box 25 (eBig b0)), (103, .box 25 zBig)]⟩ rfl (CgT (a0.Neg != b0.Neg) [66] (fun g25 => by exact ⟨g25, trivial⟩) (fun g25 => op_len_e' und70 rfl (List.length_map _)) (CgT (a0.Neg != b0.Neg) [67] (fun g26 => by exact ⟨g26, trivial⟩) (fun g26 => op_gtr rfl rfl) (Oc (op_pick_and (fun e => e) rfl rfl rfl rfl) (OpsL.nilS ⟨[(3, Pt 102 0), (4, Pt 103 0), (10, .b (.one (.sl 1 (x_15.map eI)))), (69, B ((a0.Neg != b0.Neg) && (decide (0 < (x_15.length : Int)))))], [(102, .box 25 (eBig b0)), (103, .box 25 zBig)]⟩ rfl ?_)))))
    refine Tri.ite h23 rfl (fun _ h23 => ?_) (fun _ h23 => ?_)
    ·refine Tri.regionL (Oc (lp tyAgg25) ?_)
     obtain ⟨x_17, e27, h23⟩ := bnd h23
     refine Oc (op_call0 (r3_digits_spec e27) goes85 rfl rfl) (Oc om ?_)
     obtain ⟨x_18, e28, h23⟩ := bnd h23
     refine Oc (op_call0 (r3_minus_spec e28) goes130 rfl rfl) (Oc oa ?_)
     refine OpsL.nil ?_
     exact Fin.join [3, 4, 10] [102, 103] x_18 (Option.some.inj h23) rfl
    ·refine Tri.skip ?_
     exact Fin.join [3, 4, 10] [102, 103] x_15 (Option.some.inj h23) rfl
   ·rintro r_16 hv
    subst v22
    refine Tri.seq (Tri.regionL ?_)
    refine Oc (op_field_p tyFld25_1 rfl rfl) (Oc (op_load_p1 tyOne4 rfl rfl rfl) (Oc om ?_))
    obtain ⟨x_19, e29, h⟩ := bnd h
    refine Oc (op_call0 (r3_number_spec e29) goes76 rfl rfl) (Oc (op_store_p tyAgg25 rfl rfl rfl rfl (Nat.le_of_ble_eq_true rfl) rfl) ?_)
    refine OpsL.nilS ⟨[(4, Pt 103 0)], [(103, .box 25 (eBig x_19))]⟩ rfl (Tri.ret ?_)
    obtain rfl := Option.some.inj h
    refine Fin.keepS ⟨[(4, Pt 103 0)], [(103, .box 25 (eBig x_19))]⟩ rfl (Fin.result' [.agg (eBig x_19)] (.inl rfl) rfl (.cons (.agg tyAgg25 rfl rfl rfl rfl) .nil) ⟨rfl, rfl⟩)
def r4_Cmp_S (F : Nat) (x0 : Frc) (y0 : Frc) : Option Int :=
 (r4_Good_S F x0).bind fun x_1 => (r4_Good_S F y0).bind fun x_2 => if ((!x_1) || (!x_2)) = true then ((r4_kept_S F x0 x_1).bind fun x_3 => (r4_kept_S F y0 x_2).bind fun x_4 => (r3_Cmp_S F x_3 x_4).bind fun x_5 => some x_5) else (Option.bind (iter F (un3 fun sign_6 p_7 q_8 => (r3_Quo_S F p_7.a0 p_7.a1).bind fun x_9 => (r3_Quo_S F q_8.a0 q_8.a1).bind fun x_10 => (r3_Cmp_S F x_9 x_10).bind fun x_11 => if (decide (x_11 ≠ 0)) = true then (some (.inr (IntKind.i64.wrap (sign_6 * x_11)))) else ((r3_Rem_S F p_7.a0 p_7.a1).bind fun x_12 => (r3_Rem_S F q_8.a0 q_8.a1).bind fun x_13 => (r3_Sign_S F x_12).bind fun x_14 => (gcall (!(decide (x_14 = 0))) (r3_Sign_S F x_13)).bind fun x_15 => if ((decide (x_14 = 0)) || (decide (x_15 = 0))) = true then ((r3_Sign_S F x_12).bind fun x_16 => (r3_Sign_S F x_13).bind fun x_17 => some (.inr (IntKind.i64.wrap (sign_6 * (IntKind.i64.wrap (x_16 - x_17)))))) else (some (.inl (IntKind.i64.wrap (-sign_6), (⟨p_7.a1, x_12⟩ : Arr2Big), (⟨q_8.a1, x_13⟩ : Arr2Big)))))) (1, (⟨x0.N, x0.D⟩ : Arr2Big), (⟨y0.N, y0.D⟩ : Arr2Big))) (fun y => some y))
theorem r4_Cmp_spec {F : Nat} {x0 : Frc} {y0 : Frc} {r : Int} (h : r4_Cmp_S F x0 y0 = some r) : Meets Tryz.prog (tabs mx) 40 [] [.agg (eFrc x0), .agg (eFrc y0)] (Is [] (.b (.one (.i r)))) := by
 unfold r4_Cmp_S at h
 refine Meets.intro 95 Tryz.func40 Tryz.ntmps40 rfl (by simp) fun E => ?_
 show Tri _ E ⟨95, [], []⟩ _ ⟨[(0, .b (.agg (eFrc x0))), (1, .b (.agg (eFrc y0)))], []⟩ _
 refine Tri.seq (Tri.regionL ?_)
 refine Oc (op_box (k := 101) rfl rfl) (Oc (op_box (k := 102) rfl rfl) (Oc oa ?_))
 refine OpsL.nilS ⟨[(2, Pt 101 0), (3, Pt 102 0)], [(101, .box 27 (eFrc x0)), (102, .box 27 (eFrc y0))]⟩ rfl (Tri.seq (Tri.regionL ?_))
 refine Oc (lp tyAgg27) ?_
 obtain ⟨x_1, e1, h⟩ := bnd h
 refine Oc (op_call0 (r4_Good_spec e1) goes13 rfl rfl) (Oc oa ?_)
 refine OpsL.nilS ⟨[(2, Pt 101 0), (3, Pt 102 0), (5, B x_1)], [(101, .box 27 (eFrc x0)), (102, .box 27 (eFrc y0))]⟩ rfl (Tri.seq (Tri.regionL ?_))
 refine Oc (lp tyAgg27) ?_
 obtain ⟨x_2, e2, h⟩ := bnd h
 refine Oc (op_call0 (r4_Good_spec e2) goes13 rfl rfl) (Oc oa ?_)
 refine OpsL.nilS ⟨[(2, Pt 101 0), (3, Pt 102 0), (5, B x_1), (6, B x_2)], [(101, .box 27 (eFrc x0)), (102, .box 27 (eFrc y0))]⟩ rfl (Tri.seq (Tri.seq (Tri.regionL ?_)))
 refine Oc om (Oc (op_not rfl) (Oc om ?_))
 refine CgF (!(!x_1)) [] (fun g3 => trivial) (fun g3 => om) (CgF (!(!x_1)) [20] (fun g4 => by exact ⟨g4, trivial⟩) (fun g4 => op_not rfl) (Oc (op_pick_or (fun e => by rw [e]; rfl) rfl rfl rfl rfl) (OpsL.nilS ⟨[(2, Pt 101 0), (3, Pt 102 0), (5, B x_1), (6, B x_2), (22, B ((!x_1) || (!x_2)))], [(101, .box 27 (eFrc x0)), (102, .box 27 (eFrc y0))]⟩ rfl (Tri.ite h rfl (fun _ h => ?_) (fun _ h => ?_)))))
 ·refine Tri.seq (Tri.keepS ⟨[(2, Pt 101 0), (3, Pt 102 0), (5, B x_1), (6, B x_2)], [(101, .box 27 (eFrc x0)), (102, .box 27 (eFrc y0))]⟩ rfl ?_)
  obtain ⟨x_3, e5, h⟩ := bnd h
  obtain ⟨x_4, e6, h⟩ := bnd h
  obtain ⟨x_5, e7, h⟩ := bnd h
  refine Tri.regionY mixed 8 [.b (.agg (eFrc x0)), B x_1, .b (.agg (eBig x_3)), .b (.agg (eFrc y0)), B x_2, .b (.agg (eBig x_4)), I x_5, I x_5] [4] [] (s' := ⟨[(4, I x_5)], []⟩) rfl ⟨fun _ => .p (lp tyAgg27), fun _ => .p om, fun _ => .p (op_call0 (r4_kept_spec e5) goes101 rfl rfl), fun _ => .p (lp tyAgg27), fun _ => .p om, fun _ => .p (op_call0 (r4_kept_spec e6) goes101 rfl rfl), fun _ => .p (op_call0 (r3_Cmp_spec e7) goes99 rfl rfl), fun _ => .p oa, trivial⟩ rfl rfl (Tri.ret (Fin.then_ret ?_))
  obtain rfl := Option.some.inj h
  refine Fin.keepS ⟨[(4, I x_5)], []⟩ rfl (Fin.result' [.one (.i x_5)] (.inl rfl) rfl (.cons (.tmp rfl) .nil) ⟨rfl, rfl⟩)
 ·refine Tri.skip (Fin.keepS ⟨[(2, Pt 101 0), (3, Pt 102 0)], [(101, .box 27 (eFrc x0)), (102, .box 27 (eFrc y0))]⟩ rfl (Fin.then (Tri.seq (Tri.regionL ?_))))
  refine Oc oa (OpsL.nilS ⟨[(2, Pt 101 0), (3, Pt 102 0), (7, I 1)], [(101, .box 27 (eFrc x0)), (102, .box 27 (eFrc y0))]⟩ rfl (Tri.seq (Tri.regionL ?_)))
  refine Oc (op_field_p tyFld27_0 rfl rfl) (Oc (lp tyAgg25) (Oc (op_field_p tyFld27_1 rfl rfl) (Oc (lp tyAgg25) (Oc (op_buildA tyBuild77 rfl rfl) (Oc (op_alloc (k := 103) tyZero77 rfl) ?_)))))
  refine Oc (op_store_p tyAgg77 rfl rfl rfl rfl (Nat.le_of_ble_eq_true rfl) rfl) (OpsL.nilS ⟨[(3, Pt 102 0), (7, I 1), (8, Pt 103 0)], [(102, .box 27 (eFrc y0)), (103, .box 77 (eFrc x0))]⟩ rfl (Tri.seq (Tri.regionL ?_)))
  refine Oc (op_field_p tyFld27_0 rfl rfl) (Oc (lp tyAgg25) (Oc (op_field_p tyFld27_1 rfl rfl) (Oc (lp tyAgg25) (Oc (op_buildA tyBuild77 rfl rfl) (Oc (op_alloc (k := 104) tyZero77 rfl) ?_)))))
  refine Oc (op_store_p tyAgg77 rfl rfl rfl rfl (Nat.le_of_ble_eq_true rfl) rfl) (OpsL.nilS ⟨[(7, I 1), (8, Pt 103 0), (9, Pt 104 0)], [(103, .box 77 (eFrc x0)), (104, .box 77 (eFrc y0))]⟩ rfl (Tri.block ?_))
  obtain ⟨v8, h9, h⟩ := bnd h
  refine Tri.loopJ h9 (un3 fun (sign_6 : Int) (p_7 : Arr2Big) (q_8 : Arr2Big) => ⟨[(7, I sign_6), (8, Pt 103 0), (9, Pt 104 0)], [(103, .box 77 (eArr2Big p_7)), (104, .box 77 (eArr2Big q_8))]⟩) [7, 8, 9] [103, 104] rfl ?_
  rintro ⟨sign_6, p_7, q_8⟩ o10 h11 hy12
  refine Tri.block (Tri.seq (Tri.regionL ?_))
  refine Oc (op_index_p tyArr77 (by decide) (by decide) rfl rfl rfl) (Oc (lp tyAgg25) (Oc (op_index_p tyArr77 (by decide) (by decide) rfl rfl rfl) (Oc (lp tyAgg25) ?_)))
  obtain ⟨x_9, e13, h11⟩ := bnd h11
  refine Oc (op_call0 (r3_Quo_spec e13) goes89 rfl rfl) (Oc (op_alloc (k := 105) tyZero25 rfl) (Oc (op_store_p tyAgg25 rfl rfl rfl rfl (Nat.le_of_ble_eq_true rfl) rfl) ?_))
  refine OpsL.nilS ⟨[(7, I sign_6), (8, Pt 103 0), (9, Pt 104 0), (10, Pt 105 0)], [(103, .box 77 (eArr2Big p_7)), (104, .box 77 (eArr2Big q_8)), (105, .box 25 (eBig x_9))]⟩ rfl (Tri.seq (Tri.regionL ?_))
  refine Oc (op_index_p tyArr77 (by decide) (by decide) rfl rfl rfl) (Oc (lp tyAgg25) (Oc (op_index_p tyArr77 (by decide) (by decide) rfl rfl rfl) (Oc (lp tyAgg25) ?_)))
  obtain ⟨x_10, e14, h11⟩ := bnd h11
  refine Oc (op_call0 (r3_Quo_spec e14) goes89 rfl rfl) (Oc (op_alloc (k := 106) tyZero25 rfl) (Oc (op_store_p tyAgg25 rfl rfl rfl rfl (Nat.le_of_ble_eq_true rfl) rfl) ?_))
  refine OpsL.nilS ⟨[(7, I sign_6), (8, Pt 103 0), (9, Pt 104 0), (10, Pt 105 0), (11, Pt 106 0)], [(103, .box 77 (eArr2Big p_7)), (104, .box 77 (eArr2Big q_8)), (105, .box 25 (eBig x_9)), (106, .box 25 (eBig x_10))]⟩ rfl (Tri.seq (Tri.regionL ?_))
  refine Oc (lp tyAgg25) (Oc (lp tyAgg25) ?_)
  obtain ⟨x_11, e15, h11⟩ := bnd h11
  refine Oc (op_call0 (r3_Cmp_spec e15) goes99 rfl rfl) (Oc oa ?_)
  refine OpsL.nilS ⟨[(7, I sign_6), (8, Pt 103 0), (9, Pt 104 0), (12, I x_11)], [(103, .box 77 (eArr2Big p_7)), (104, .box 77 (eArr2Big q_8))]⟩ rfl (Tri.seq (Tri.seq (Tri.regionL ?_)))
  refine Oc om (Oc (op_neq rfl rfl) ?_)
  refine OpsL.nilS ⟨[(7, I sign_6), (8, Pt 103 0), (9, Pt 104 0), (12, I x_11), (54, B (decide (x_11 ≠ 0)))], [(103, .box 77 (eArr2Big p_7)), (104, .box 77 (eArr2Big q_8))]⟩ rfl (Tri.ite h11 rfl (fun _ h11 => ?_) (fun _ h11 => ?_))
  ·refine Tri.seq (Tri.regionL ?_)
   refine Oc om (Oc om (Oc (op_mul rfl rfl) (Oc oa ?_)))
   refine OpsL.nilS ⟨[(4, I (IntKind.i64.wrap (sign_6 * x_11)))], []⟩ rfl (Tri.ret (Fin.then_ret (Fin.block_ret ?_)))
   obtain rfl := hy12 _ (Option.some.inj h11).symm
   refine Fin.then_ret (Fin.block_ret ?_)
   obtain rfl := Option.some.inj h
   refine Fin.keepS ⟨[(4, I (IntKind.i64.wrap (sign_6 * x_11)))], []⟩ rfl (Fin.result' [.one (.i (IntKind.i64.wrap (sign_6 * x_11)))] (.inl rfl) rfl (.cons (.tmp rfl) .nil) ⟨rfl, rfl⟩)
  ·refine Tri.skip (Fin.keepS ⟨[(7, I sign_6), (8, Pt 103 0), (9, Pt 104 0)], [(103, .box 77 (eArr2Big p_7)), (104, .box 77 (eArr2Big q_8))]⟩ rfl (Fin.then (Tri.seq ?_)))
   refine Tri.keepS ⟨[(7, I sign_6), (8, Pt 103 0), (9, Pt 104 0)], [(103, .box 77 (eArr2Big p_7)), (104, .box 77 (eArr2Big q_8))]⟩ rfl ?_
   obtain ⟨x_12, e16, h11⟩ := bnd h11
   refine Tri.regionY mixed 8 [Pt 103 18, .b (.agg (eBig p_7.a1)), Pt 103 0, .b (.agg (eBig p_7.a0)), Pt 103 18, .b (.agg (eBig p_7.a1)), .b (.agg (eBig x_12)), .b (.agg (eBig p_7.a1 ++ (eBig x_12)))] [7, 8, 9] [103, 104] (s' := ⟨[(7, I sign_6), (8, Pt 103 0), (9, Pt 104 0)], [(103, .box 77 (eBig p_7.a1 ++ (eBig x_12))), (104, .box 77 (eArr2Big q_8))]⟩) rfl ⟨fun _ => .p (op_index_p tyArr77 (by decide) (by decide) rfl rfl rfl), fun _ => .p (lp tyAgg25), fun _ => .p (op_index_p tyArr77 (by decide) (by decide) rfl rfl rfl), fun _ => .p (lp tyAgg25), fun _ => .p (op_index_p tyArr77 (by decide) (by decide) rfl rfl rfl), fun _ => .p (lp tyAgg25), fun _ => .p (op_call0 (r3_Rem_spec e16) goes98 rfl rfl), fun _ => .p (op_buildA tyBuild77 rfl rfl), trivial⟩ ⟨_, by exact .p (op_store_p tyAgg77 rfl rfl rfl rfl (Nat.le_of_ble_eq_true rfl) rfl), rfl⟩ rfl (Tri.seq (Tri.keepS ⟨[(7, I sign_6), (8, Pt 103 0), (9, Pt 104 0)], [(103, .box 77 (eBig p_7.a1 ++ (eBig x_12))), (104, .box 77 (eArr2Big q_8))]⟩ rfl ?_))
   obtain ⟨x_13, e17, h11⟩ := bnd h11
   refine Tri.regionY mixed 8 [Pt 104 18, .b (.agg (eBig q_8.a1)), Pt 104 0, .b (.agg (eBig q_8.a0)), Pt 104 18, .b (.agg (eBig q_8.a1)), .b (.agg (eBig x_13)), .b (.agg (eBig q_8.a1 ++ (eBig x_13)))] [7, 8, 9] [103, 104] (s' := ⟨[(7, I sign_6), (8, Pt 103 0), (9, Pt 104 0)], [(103, .box 77 (eBig p_7.a1 ++ (eBig x_12))), (104, .box 77 (eBig q_8.a1 ++ (eBig x_13)))]⟩) rfl ⟨fun _ => .p (op_index_p tyArr77 (by decide) (by decide) rfl rfl rfl), fun _ => .p (lp tyAgg25), fun _ => .p (op_index_p tyArr77 (by decide) (by decide) rfl rfl rfl), fun _ => .p (lp tyAgg25), fun _ => .p (op_index_p tyArr77 (by decide) (by decide) rfl rfl rfl), fun _ => .p (lp tyAgg25), fun _ => .p (op_call0 (r3_Rem_spec e17) goes98 rfl rfl), fun _ => .p (op_buildA tyBuild77 rfl rfl), trivial⟩ ⟨_, by exact .p (op_store_p tyAgg77 rfl rfl rfl rfl (Nat.le_of_ble_eq_true rfl) rfl), rfl⟩ rfl (Tri.seq (Tri.seq (Tri.regionL ?_)))
   refine Oc (op_index_p tyArr77 (by decide) (by decide) rfl rfl rfl) (Oc (lp tyAgg25) ?_)
   obtain ⟨x_14, e18, h11⟩ := bnd h11
   refine Oc (op_call0 (r3_Sign_spec e18) goes78 rfl rfl) (Oc (op_eql rfl rfl) (Oc om ?_))
   refine OpsL.keepS ⟨[(7, I sign_6), (8, Pt 103 0), (9, Pt 104 0), (78, B (decide (x_14 = 0)))], [(103, .box 77 (eBig p_7.a1 ++ (eBig x_12))), (104, .box 77 (eBig q_8.a1 ++ (eBig x_13)))]⟩ rfl (CgF (!(decide (x_14 = 0))) [] (fun g19 => trivial) (fun g19 => op_index_p tyArr77 (by decide) (by decide) rfl rfl rfl) (CgF (!(decide (x_14 = 0))) [79] (fun g20 => ⟨g20, trivial⟩) (fun g20 => lp tyAgg25) ?_))
   obtain ⟨x_15, e22, h11⟩ := bnd h11
   refine CgF (!(decide (x_14 = 0))) [80] (fun g21 => ⟨g21, trivial⟩) (fun g21 => op_call0 (r3_Sign_spec (gc e22 g21)) goes78 rfl rfl) (CgF (!(decide (x_14 = 0))) [81] (fun g23 => ⟨g23, trivial⟩) (fun g23 => op_eql rfl rfl) (Oc (op_pick_or (fun e => by rw [e]; rfl) rfl rfl rfl rfl) (OpsL.nilS ⟨[(7, I sign_6), (8, Pt 103 0), (9, Pt 104 0), (83, B ((decide (x_14 = 0)) || (decide (x_15 = 0))))], [(103, .box 77 (eBig p_7.a1 ++ (eBig x_12))), (104, .box 77 (eBig q_8.a1 ++ (eBig x_13)))]⟩ rfl (Tri.ite h11 rfl (fun _ h11 => ?_) (fun _ h11 => ?_)))))
   ·refine Tri.seq (Tri.keepS ⟨[(7, I sign_6), (8, Pt 103 0), (9, Pt 104 0)], [(103, .box 77 (eBig p_7.a1 ++ (eBig x_12))), (104, .box 77 (eBig q_8.a1 ++ (eBig x_13)))]⟩ rfl ?_)
    obtain ⟨x_16, e24, h11⟩ := bnd h11
    obtain ⟨x_17, e25, h11⟩ := bnd h11
    refine Tri.regionY mixed 10 [I sign_6, Pt 103 18, .b (.agg (eBig x_12)), I x_16, Pt 104 18, .b (.agg (eBig x_13)), I x_17, I (IntKind.i64.wrap (x_16 - x_17)), I (IntKind.i64.wrap (sign_6 * (IntKind.i64.wrap (x_16 - x_17)))), I (IntKind.i64.wrap (sign_6 * (IntKind.i64.wrap (x_16 - x_17))))] [4] [] (s' := ⟨[(4, I (IntKind.i64.wrap (sign_6 * (IntKind.i64.wrap (x_16 - x_17)))))], []⟩) rfl ⟨fun _ => .p om, fun _ => .p (op_index_p tyArr77 (by decide) (by decide) rfl rfl rfl), fun _ => .p (lp tyAgg25), fun _ => .p (op_call0 (r3_Sign_spec e24) goes78 rfl rfl), fun _ => .p (op_index_p tyArr77 (by decide) (by decide) rfl rfl rfl), fun _ => .p (lp tyAgg25), fun _ => .p (op_call0 (r3_Sign_spec e25) goes78 rfl rfl), fun _ => .p (op_sub rfl rfl), fun _ => .p (op_mul rfl rfl), fun _ => .p oa, trivial⟩ rfl rfl (Tri.ret (Fin.then_ret (Fin.block_ret ?_)))
    obtain rfl := hy12 _ (Option.some.inj h11).symm
    refine Fin.then_ret (Fin.block_ret ?_)
    obtain rfl := Option.some.inj h
    refine Fin.keepS ⟨[(4, I (IntKind.i64.wrap (sign_6 * (IntKind.i64.wrap (x_16 - x_17)))))], []⟩ rfl (Fin.result' [.one (.i (IntKind.i64.wrap (sign_6 * (IntKind.i64.wrap (x_16 - x_17)))))] (.inl rfl) rfl (.cons (.tmp rfl) .nil) ⟨rfl, rfl⟩)
   ·refine Tri.skip (Fin.keepS ⟨[(7, I sign_6), (8, Pt 103 0), (9, Pt 104 0)], [(103, .box 77 (eBig p_7.a1 ++ (eBig x_12))), (104, .box 77 (eBig q_8.a1 ++ (eBig x_13)))]⟩ rfl (Fin.then (Tri.regionL ?_)))
    refine Oc om (Oc (op_neg rfl) (Oc oa ?_))
    refine OpsL.nil (Fin.block_normal ?_)
    exact Fin.againJ [7, 8, 9] [103, 104] (IntKind.i64.wrap (-sign_6), (⟨p_7.a1, x_12⟩ : Arr2Big), (⟨q_8.a1, x_13⟩ : Arr2Big)) (Option.some.inj h11) rfl
def r4_Bad_S (F : Nat) : Option Frc :=
 (r3_Bad_S F).bind fun x_1 => (r4_one_S F).bind fun x_2 => some (⟨x_1, x_2⟩ : Frc)
theorem r4_Bad_spec {F : Nat} {r : Frc} (h : r4_Bad_S F = some r) : Meets Tryz.prog (tabs mx) 28 [] [] (Is [] (.b (.agg (eFrc r)))) := by
 unfold r4_Bad_S at h
 refine Meets.intro 4 Tryz.func28 Tryz.ntmps28 rfl (by simp) fun E => ?_
 show Tri _ E ⟨4, [], []⟩ _ ⟨[], []⟩ _
 refine Tri.seq (Tri.regionL ?_)
 refine Oc (op_alloc (k := 101) tyZero27 rfl) (OpsL.nilS ⟨[(0, Pt 101 0)], [(101, .box 27 zFrc)]⟩ rfl (Tri.seq (Tri.regionL ?_)))
 obtain ⟨x_1, e1, h⟩ := bnd h
 refine Oc (op_call0 (r3_Bad_spec e1) goes83 rfl rfl) ?_
 obtain ⟨x_2, e2, h⟩ := bnd h
 refine Oc (op_call0 (r4_one_spec e2) goes80 rfl rfl) (Oc (op_build tyBuild27 rfl rfl) (Oc (op_store_p tyAgg27 rfl rfl rfl rfl (Nat.le_of_ble_eq_true rfl) rfl) ?_))
 refine OpsL.nilS ⟨[(0, Pt 101 0)], [(101, .box 27 (eBig x_1 ++ (eBig x_2)))]⟩ rfl (Tri.ret ?_)
 obtain rfl := Option.some.inj h
 refine Fin.keepS ⟨[(0, Pt 101 0)], [(101, .box 27 (eBig x_1 ++ (eBig x_2)))]⟩ rfl (Fin.result' [.agg (eBig x_1 ++ (eBig x_2))] (.inl rfl) rfl (.cons (.agg tyAgg27 rfl rfl rfl rfl) .nil) ⟨rfl, rfl⟩)
def r4_Sign_S (F : Nat) (x0 : Frc) : Option Int :=
 (r4_Good_S F x0).bind fun x_1 => if (!x_1) = true then (some 0) else ((r3_Sign_S F x0.N).bind fun x_2 => some x_2)
theorem r4_Sign_spec {F : Nat} {x0 : Frc} {r : Int} (h : r4_Sign_S F x0 = some r) : Meets Tryz.prog (tabs mx) 38 [] [.agg (eFrc x0)] (Is [] (.b (.one (.i r)))) := by
 unfold r4_Sign_S at h
 refine Meets.intro 9 Tryz.func38 Tryz.ntmps38 rfl (by simp) fun E => ?_
 show Tri _ E ⟨9, [], []⟩ _ ⟨[(0, .b (.agg (eFrc x0)))], []⟩ _
 refine Tri.seq (Tri.regionL ?_)
 refine Oc (op_box (k := 101) rfl rfl) (Oc oa ?_)
 refine OpsL.nilS ⟨[(1, Pt 101 0)], [(101, .box 27 (eFrc x0))]⟩ rfl (Tri.seq (Tri.seq (Tri.regionL ?_)))
 refine Oc (lp tyAgg27) ?_
 obtain ⟨x_1, e1, h⟩ := bnd h
 refine Oc (op_call0 (r4_Good_spec e1) goes13 rfl rfl) (Oc (op_not rfl) ?_)
 refine OpsL.nilS ⟨[(1, Pt 101 0), (5, B (!x_1))], [(101, .box 27 (eFrc x0))]⟩ rfl (Tri.ite h rfl (fun _ h => ?_) (fun _ h => ?_))
 ·refine Tri.seq (Tri.regionL ?_)
  refine Oc oa (OpsL.nilS ⟨[(2, I 0)], []⟩ rfl (Tri.ret (Fin.then_ret ?_)))
  obtain rfl := Option.some.inj h
  refine Fin.keepS ⟨[(2, I 0)], []⟩ rfl (Fin.result' [.one (.i 0)] (.inl rfl) rfl (.cons (.tmp rfl) .nil) ⟨rfl, rfl⟩)
 ·refine Tri.skip (Fin.keepS ⟨[(1, Pt 101 0)], [(101, .box 27 (eFrc x0))]⟩ rfl (Fin.then (Tri.seq (Tri.regionL ?_))))
  refine Oc (op_field_p tyFld27_0 rfl rfl) (Oc (lp tyAgg25) ?_)
  obtain ⟨x_2, e2, h⟩ := bnd h
  refine Oc (op_call0 (r3_Sign_spec e2) goes78 rfl rfl) (Oc oa ?_)
  refine OpsL.nilS ⟨[(2, I x_2)], []⟩ rfl (Tri.ret ?_)
  obtain rfl := Option.some.inj h
  refine Fin.keepS ⟨[(2, I x_2)], []⟩ rfl (Fin.result' [.one (.i x_2)] (.inl rfl) rfl (.cons (.tmp rfl) .nil) ⟨rfl, rfl⟩)
def r3_Neg_S (F : Nat) (x0 : Big) : Option Big :=
 (r3_Good_S F x0).bind fun x_1 => if (!x_1) = true then ((r3_Bad_S F).bind fun x_2 => some x_2) else ((r3_digits_S F x0).bind fun x_3 => (r3_number_S F (!x0.Neg) x_3).bind fun x_4 => some x_4)
theorem r3_Neg_spec {F : Nat} {x0 : Big} {r : Big} (h : r3_Neg_S F x0 = some r) : Meets Tryz.prog (tabs mx) 88 [] [.agg (eBig x0)] (Is [] (.b (.agg (eBig r)))) := by
 unfold r3_Neg_S at h
 refine Meets.intro 13 Tryz.func88 Tryz.ntmps88 rfl (by simp) fun E => ?_
 show Tri _ E ⟨13, [], []⟩ _ ⟨[(0, .b (.agg (eBig x0)))], []⟩ _
 refine Tri.seq (Tri.regionL ?_)
 refine Oc (op_box (k := 101) rfl rfl) (Oc (op_alloc (k := 102) tyZero25 rfl) ?_)
 refine OpsL.nilS ⟨[(1, Pt 101 0), (2, Pt 102 0)], [(101, .box 25 (eBig x0)), (102, .box 25 zBig)]⟩ rfl (Tri.seq (Tri.seq (Tri.regionL ?_)))
 refine Oc (lp tyAgg25) ?_
 obtain ⟨x_1, e1, h⟩ := bnd h
 refine Oc (op_call0 (r3_Good_spec e1) goes15 rfl rfl) (Oc (op_not rfl) ?_)
 refine OpsL.nilS ⟨[(1, Pt 101 0), (2, Pt 102 0), (5, B (!x_1))], [(101, .box 25 (eBig x0)), (102, .box 25 zBig)]⟩ rfl (Tri.ite h rfl (fun _ h => ?_) (fun _ h => ?_))
 ·refine Tri.seq (Tri.regionL ?_)
  obtain ⟨x_2, e2, h⟩ := bnd h
  refine Oc (op_call0 (r3_Bad_spec e2) goes83 rfl rfl) (Oc (op_store_p tyAgg25 rfl rfl rfl rfl (Nat.le_of_ble_eq_true rfl) rfl) ?_)
  refine OpsL.nilS ⟨[(2, Pt 102 0)], [(102, .box 25 (eBig x_2))]⟩ rfl (Tri.ret (Fin.then_ret ?_))
  obtain rfl := Option.some.inj h
  refine Fin.keepS ⟨[(2, Pt 102 0)], [(102, .box 25 (eBig x_2))]⟩ rfl (Fin.result' [.agg (eBig x_2)] (.inl rfl) rfl (.cons (.agg tyAgg25 rfl rfl rfl rfl) .nil) ⟨rfl, rfl⟩)
 ·refine Tri.skip (Fin.keepS ⟨[(1, Pt 101 0), (2, Pt 102 0)], [(101, .box 25 (eBig x0)), (102, .box 25 zBig)]⟩ rfl (Fin.then (Tri.seq ?_)))
  refine Tri.keepS ⟨[(1, Pt 101 0), (2, Pt 102 0)], [(101, .box 25 (eBig x0)), (102, .box 25 zBig)]⟩ rfl ?_
  obtain ⟨x_3, e3, h⟩ := bnd h
  obtain ⟨x_4, e4, h⟩ := bnd h
  refine Tri.regionY mixed 6 [Pt 101 1, B x0.Neg, B (!x0.Neg), .b (.agg (eBig x0)), .b (.one (.sl 1 (x_3.map eI))), .b (.agg (eBig x_4))] [2] [102] (s' := ⟨[(2, Pt 102 0)], [(102, .box 25 (eBig x_4))]⟩) rfl ⟨fun _ => .p (op_field_p tyFld25_1 rfl rfl), fun _ => .p (op_load_p1 tyOne4 rfl rfl rfl), fun _ => .p (op_not rfl), fun _ => .p (lp tyAgg25), fun _ => .p (op_call0 (r3_digits_spec e3) goes85 rfl rfl), fun _ => .p (op_call0 (r3_number_spec e4) goes76 rfl rfl), trivial⟩ ⟨_, by exact .p (op_store_p tyAgg25 rfl rfl rfl rfl (Nat.le_of_ble_eq_true rfl) rfl), rfl⟩ rfl (Tri.ret ?_)
  obtain rfl := Option.some.inj h
  refine Fin.keepS ⟨[(2, Pt 102 0)], [(102, .box 25 (eBig x_4))]⟩ rfl (Fin.result' [.agg (eBig x_4)] (.inl rfl) rfl (.cons (.agg tyAgg25 rfl rfl rfl rfl) .nil) ⟨rfl, rfl⟩)
def r4_Make_S (F : Nat) (n0 : Big) (d0 : Big) : Option Frc :=
 (r3_Good_S F n0).bind fun x_1 => (gcall (!(!x_1)) (r3_Good_S F d0)).bind fun x_2 => (gcall (!((!x_1) || (!x_2))) (r3_Sign_S F d0)).bind fun x_3 => if (((!x_1) || (!x_2)) || (decide (x_3 = 0))) = true then ((r4_Bad_S F).bind fun x_4 => some x_4) else ((r3_Gcd_S F n0 d0).bind fun x_5 => Option.bind ((r3_Sign_S F d0).bind fun x_7 => if (decide (x_7 < 0)) = true then ((r3_Neg_S F x_5).bind fun x_8 => some x_8) else (some x_5)) (fun g_6 => (r3_Quo_S F n0 g_6).bind fun x_9 => (r3_Quo_S F d0 g_6).bind fun x_10 => some (⟨x_9, x_10⟩ : Frc)))
theorem r4_Make_spec {F : Nat} {n0 : Big} {d0 : Big} {r : Frc} (h : r4_Make_S F n0 d0 = some r) : Meets Tryz.prog (tabs mx) 17 [] [.agg (eBig n0), .agg (eBig d0)] (Is [] (.b (.agg (eFrc r)))) := by
 unfold r4_Make_S at h
 refine Meets.intro 35 Tryz.func17 Tryz.ntmps17 rfl (by simp) fun E => ?_
 show Tri _ E ⟨35, [], []⟩ _ ⟨[(0, .b (.agg (eBig n0))), (1, .b (.agg (eBig d0)))], []⟩ _
 refine Tri.seq (Tri.regionL ?_)
 refine Oc (op_box (k := 101) rfl rfl) (Oc (op_box (k := 102) rfl rfl) (Oc (op_alloc (k := 103) tyZero27 rfl) ?_))
 refine OpsL.nilS ⟨[(2, Pt 101 0), (3, Pt 102 0), (4, Pt 103 0)], [(101, .box 25 (eBig n0)), (102, .box 25 (eBig d0)), (103, .box 27 zFrc)]⟩ rfl (Tri.seq (Tri.seq (Tri.regionL ?_)))
 refine Oc (lp tyAgg25) ?_
 obtain ⟨x_1, e1, h⟩ := bnd h
 refine Oc (op_call0 (r3_Good_spec e1) goes15 rfl rfl) (Oc (op_not rfl) (Oc om ?_))
 refine CgF (!(!x_1)) [] (fun g2 => trivial) (fun g2 => lp tyAgg25) (OpsL.keepS ⟨[(2, Pt 101 0), (3, Pt 102 0), (4, Pt 103 0), (9, B (!x_1)), (10, .opt (!(!x_1)) (.agg (eBig d0)))], [(101, .box 25 (eBig n0)), (102, .box 25 (eBig d0)), (103, .box 27 zFrc)]⟩ rfl ?_)
 obtain ⟨x_2, e4, h⟩ := bnd h
 refine CgF (!(!x_1)) [10] (fun g3 => ⟨g3, trivial⟩) (fun g3 => op_call0 (r3_Good_spec (gc e4 g3)) goes15 rfl rfl) (CgF (!(!x_1)) [11] (fun g5 => ⟨g5, trivial⟩) (fun g5 => op_not rfl) (Oc (op_pick_or (fun e => by rw [e]; rfl) rfl rfl rfl rfl) (Oc om ?_)))
 refine CgF (!((!x_1) || (!x_2))) [] (fun g6 => trivial) (fun g6 => lp tyAgg25) ?_
 obtain ⟨x_3, e8, h⟩ := bnd h
 refine CgF (!((!x_1) || (!x_2))) [15] (fun g7 => ⟨g7, trivial⟩) (fun g7 => op_call0 (r3_Sign_spec (gc e8 g7)) goes78 rfl rfl) (CgF (!((!x_1) || (!x_2))) [16] (fun g9 => ⟨g9, trivial⟩) (fun g9 => op_eql rfl rfl) (Oc (op_pick_or (fun e => by rw [e]; rfl) rfl rfl rfl rfl) (OpsL.nilS ⟨[(2, Pt 101 0), (3, Pt 102 0), (4, Pt 103 0), (18, B (((!x_1) || (!x_2)) || (decide (x_3 = 0))))], [(101, .box 25 (eBig n0)), (102, .box 25 (eBig d0)), (103, .box 27 zFrc)]⟩ rfl (Tri.ite h rfl (fun _ h => ?_) (fun _ h => ?_)))))
 ·refine Tri.seq (Tri.regionL ?_)
  obtain ⟨x_4, e10, h⟩ := bnd h
  refine Oc (op_call0 (r4_Bad_spec e10) goes28 rfl rfl) (Oc (op_store_p tyAgg27 rfl rfl rfl rfl (Nat.le_of_ble_eq_true rfl) rfl) ?_)
  refine OpsL.nilS ⟨[(4, Pt 103 0)], [(103, .box 27 (eFrc x_4))]⟩ rfl (Tri.ret (Fin.then_ret ?_))
  obtain rfl := Option.some.inj h
  refine Fin.keepS ⟨[(4, Pt 103 0)], [(103, .box 27 (eFrc x_4))]⟩ rfl (Fin.result' [.agg (eFrc x_4)] (.inl rfl) rfl (.cons (.agg tyAgg27 rfl rfl rfl rfl) .nil) ⟨rfl, rfl⟩)
 ·refine Tri.skip (Fin.keepS ⟨[(2, Pt 101 0), (3, Pt 102 0), (4, Pt 103 0)], [(101, .box 25 (eBig n0)), (102, .box 25 (eBig d0)), (103, .box 27 zFrc)]⟩ rfl (Fin.then (Tri.seq (Tri.regionL ?_))))
  refine Oc (lp tyAgg25) (Oc (lp tyAgg25) ?_)
  obtain ⟨x_5, e11, h⟩ := bnd h
  refine Oc (op_call0 (r3_Gcd_spec e11) goes79 rfl rfl) (Oc (op_alloc (k := 104) tyZero25 rfl) (Oc (op_store_p tyAgg25 rfl rfl rfl rfl (Nat.le_of_ble_eq_true rfl) rfl) ?_))
  refine OpsL.nilS ⟨[(2, Pt 101 0), (3, Pt 102 0), (4, Pt 103 0), (5, Pt 104 0)], [(101, .box 25 (eBig n0)), (102, .box 25 (eBig d0)), (103, .box 27 zFrc), (104, .box 25 (eBig x_5))]⟩ rfl ?_
  obtain ⟨v12, h13, h⟩ := bnd h
  refine Tri.seqJ (v := v12) (fun (g_6 : Big) => ⟨[(2, Pt 101 0), (3, Pt 102 0), (4, Pt 103 0), (5, Pt 104 0)], [(101, .box 25 (eBig n0)), (102, .box 25 (eBig d0)), (103, .box 27 zFrc), (104, .box 25 (eBig g_6))]⟩) (fun z => z) ?_ ?_
  ·refine Tri.seq (Tri.regionL ?_)
   refine Oc (lp tyAgg25) ?_
   obtain ⟨x_7, e14, h13⟩ := bnd h13
   refine Oc (op_call0 (r3_Sign_spec e14) goes78 rfl rfl) (Oc (op_lss rfl rfl) ?_)
   refine OpsL.nilS ⟨[(2, Pt 101 0), (3, Pt 102 0), (4, Pt 103 0), (5, Pt 104 0), (25, B (decide (x_7 < 0)))], [(101, .box 25 (eBig n0)), (102, .box 25 (eBig d0)), (103, .box 27 zFrc), (104, .box 25 (eBig x_5))]⟩ rfl (Tri.ite h13 rfl (fun _ h13 => ?_) (fun _ h13 => ?_))
   ·refine Tri.regionL (Oc (lp tyAgg25) ?_)
    obtain ⟨x_8, e15, h13⟩ := bnd h13
    refine Oc (op_call0 (r3_Neg_spec e15) goes88 rfl rfl) (Oc (op_store_p tyAgg25 rfl rfl rfl rfl (Nat.le_of_ble_eq_true rfl) rfl) ?_)
    refine OpsL.nil ?_
    exact Fin.join [2, 3, 4, 5] [101, 102, 103, 104] x_8 (Option.some.inj h13) rfl
   ·refine Tri.skip ?_
    exact Fin.join [2, 3, 4, 5] [101, 102, 103, 104] x_5 (Option.some.inj h13) rfl
  ·rintro g_6 hv
   subst v12
   refine Tri.seq (Tri.keepS ⟨[(2, Pt 101 0), (3, Pt 102 0), (4, Pt 103 0), (5, Pt 104 0)], [(101, .box 25 (eBig n0)), (102, .box 25 (eBig d0)), (103, .box 27 zFrc), (104, .box 25 (eBig g_6))]⟩ rfl ?_)
   obtain ⟨x_9, e16, h⟩ := bnd h
   obtain ⟨x_10, e17, h⟩ := bnd h
   refine Tri.regionY mixed 7 [.b (.agg (eBig n0)), .b (.agg (eBig g_6)), .b (.agg (eBig x_9)), .b (.agg (eBig d0)), .b (.agg (eBig g_6)), .b (.agg (eBig x_10)), .b (.agg (eBig x_9 ++ (eBig x_10)))] [4] [103] (s' := ⟨[(4, Pt 103 0)], [(103, .box 27 (eBig x_9 ++ (eBig x_10)))]⟩) rfl ⟨fun _ => .p (lp tyAgg25), fun _ => .p (lp tyAgg25), fun _ => .p (op_call0 (r3_Quo_spec e16) goes89 rfl rfl), fun _ => .p (lp tyAgg25), fun _ => .p (lp tyAgg25), fun _ => .p (op_call0 (r3_Quo_spec e17) goes89 rfl rfl), fun _ => .p (op_build tyBuild27 rfl rfl), trivial⟩ ⟨_, by exact .p (op_store_p tyAgg27 rfl rfl rfl rfl (Nat.le_of_ble_eq_true rfl) rfl), rfl⟩ rfl (Tri.ret ?_)
   obtain rfl := Option.some.inj h
   refine Fin.keepS ⟨[(4, Pt 103 0)], [(103, .box 27 (eBig x_9 ++ (eBig x_10)))]⟩ rfl (Fin.result' [.agg (eBig x_9 ++ (eBig x_10))] (.inl rfl) rfl (.cons (.agg tyAgg27 rfl rfl rfl rfl) .nil) ⟨rfl, rfl⟩)
def r4_Of_S (F : Nat) (n0 : Int) : Option Frc :=
 (r3_Of_S F n0).bind fun x_1 => (r4_one_S F).bind fun x_2 => (r4_Make_S F x_1 x_2).bind fun x_3 => some x_3
theorem r4_Of_spec {F : Nat} {n0 : Int} {r : Frc} (h : r4_Of_S F n0 = some r) : Meets Tryz.prog (tabs mx) 21 [] [.one (.i n0)] (Is [] (.b (.agg (eFrc r)))) := by
 unfold r4_Of_S at h
 refine Meets.intro 7 Tryz.func21 Tryz.ntmps21 rfl (by simp) fun E => ?_
 show Tri _ E ⟨7, [], []⟩ _ ⟨[(0, I n0)], []⟩ _
 refine Tri.seq (Tri.regionL ?_)
 refine Oc (op_alloc (k := 101) tyZero27 rfl) (OpsL.nilS ⟨[(0, I n0), (2, Pt 101 0)], [(101, .box 27 zFrc)]⟩ rfl (Tri.seq (Tri.regionL ?_)))
 refine Oc om ?_
 obtain ⟨x_1, e1, h⟩ := bnd h
 refine Oc (op_call0 (r3_Of_spec e1) goes12 rfl rfl) ?_
 obtain ⟨x_2, e2, h⟩ := bnd h
 refine Oc (op_call0 (r4_one_spec e2) goes80 rfl rfl) ?_
 obtain ⟨x_3, e3, h⟩ := bnd h
 refine Oc (op_call0 (r4_Make_spec e3) goes17 rfl rfl) (Oc (op_store_p tyAgg27 rfl rfl rfl rfl (Nat.le_of_ble_eq_true rfl) rfl) ?_)
 refine OpsL.nilS ⟨[(2, Pt 101 0)], [(101, .box 27 (eFrc x_3))]⟩ rfl (Tri.ret ?_)
 obtain rfl := Option.some.inj h
 refine Fin.keepS ⟨[(2, Pt 101 0)], [(101, .box 27 (eFrc x_3))]⟩ rfl (Fin.result' [.agg (eFrc x_3)] (.inl rfl) rfl (.cons (.agg tyAgg27 rfl rfl rfl rfl) .nil) ⟨rfl, rfl⟩)
def r4_Neg_S (F : Nat) (x0 : Frc) : Option Frc :=
 (r4_Good_S F x0).bind fun x_1 => if (!x_1) = true then ((r4_Bad_S F).bind fun x_2 => some x_2) else ((r3_Neg_S F x0.N).bind fun x_3 => some (⟨x_3, x0.D⟩ : Frc))
theorem r4_Neg_spec {F : Nat} {x0 : Frc} {r : Frc} (h : r4_Neg_S F x0 = some r) : Meets Tryz.prog (tabs mx) 60 [] [.agg (eFrc x0)] (Is [] (.b (.agg (eFrc r)))) := by
 unfold r4_Neg_S at h
 refine Meets.intro 13 Tryz.func60 Tryz.ntmps60 rfl (by simp) fun E => ?_
 show Tri _ E ⟨13, [], []⟩ _ ⟨[(0, .b (.agg (eFrc x0)))], []⟩ _
 refine Tri.seq (Tri.regionL ?_)
 refine Oc (op_box (k := 101) rfl rfl) (Oc (op_alloc (k := 102) tyZero27 rfl) ?_)
 refine OpsL.nilS ⟨[(1, Pt 101 0), (2, Pt 102 0)], [(101, .box 27 (eFrc x0)), (102, .box 27 zFrc)]⟩ rfl (Tri.seq (Tri.seq (Tri.regionL ?_)))
 refine Oc (lp tyAgg27) ?_
 obtain ⟨x_1, e1, h⟩ := bnd h
 refine Oc (op_call0 (r4_Good_spec e1) goes13 rfl rfl) (Oc (op_not rfl) ?_)
 refine OpsL.nilS ⟨[(1, Pt 101 0), (2, Pt 102 0), (5, B (!x_1))], [(101, .box 27 (eFrc x0)), (102, .box 27 zFrc)]⟩ rfl (Tri.ite h rfl (fun _ h => ?_) (fun _ h => ?_))
 ·refine Tri.seq (Tri.regionL ?_)
  obtain ⟨x_2, e2, h⟩ := bnd h
  refine Oc (op_call0 (r4_Bad_spec e2) goes28 rfl rfl) (Oc (op_store_p tyAgg27 rfl rfl rfl rfl (Nat.le_of_ble_eq_true rfl) rfl) ?_)
  refine OpsL.nilS ⟨[(2, Pt 102 0)], [(102, .box 27 (eFrc x_2))]⟩ rfl (Tri.ret (Fin.then_ret ?_))
  obtain rfl := Option.some.inj h
  refine Fin.keepS ⟨[(2, Pt 102 0)], [(102, .box 27 (eFrc x_2))]⟩ rfl (Fin.result' [.agg (eFrc x_2)] (.inl rfl) rfl (.cons (.agg tyAgg27 rfl rfl rfl rfl) .nil) ⟨rfl, rfl⟩)
 ·refine Tri.skip (Fin.keepS ⟨[(1, Pt 101 0), (2, Pt 102 0)], [(101, .box 27 (eFrc x0)), (102, .box 27 zFrc)]⟩ rfl (Fin.then (Tri.seq ?_)))
  refine Tri.keepS ⟨[(1, Pt 101 0), (2, Pt 102 0)], [(101, .box 27 (eFrc x0)), (102, .box 27 zFrc)]⟩ rfl ?_
  obtain ⟨x_3, e3, h⟩ := bnd h
  refine Tri.regionY mixed 6 [Pt 101 0, .b (.agg (eBig x0.N)), .b (.agg (eBig x_3)), Pt 101 18, .b (.agg (eBig x0.D)), .b (.agg (eBig x_3 ++ (eBig x0.D)))] [2] [102] (s' := ⟨[(2, Pt 102 0)], [(102, .box 27 (eBig x_3 ++ (eBig x0.D)))]⟩) rfl ⟨fun _ => .p (op_field_p tyFld27_0 rfl rfl), fun _ => .p (lp tyAgg25), fun _ => .p (op_call0 (r3_Neg_spec e3) goes88 rfl rfl), fun _ => .p (op_field_p tyFld27_1 rfl rfl), fun _ => .p (lp tyAgg25), fun _ => .p (op_build tyBuild27 rfl rfl), trivial⟩ ⟨_, by exact .p (op_store_p tyAgg27 rfl rfl rfl rfl (Nat.le_of_ble_eq_true rfl) rfl), rfl⟩ rfl (Tri.ret ?_)
  obtain rfl := Option.some.inj h
  refine Fin.keepS ⟨[(2, Pt 102 0)], [(102, .box 27 (eBig x_3 ++ (eBig x0.D)))]⟩ rfl (Fin.result' [.agg (eBig x_3 ++ (eBig x0.D))] (.inl rfl) rfl (.cons (.agg tyAgg27 rfl rfl rfl rfl) .nil) ⟨rfl, rfl⟩)
def r4_Floor_S (F : Nat) (x0 : Frc) : Option Big :=
 (r4_Good_S F x0).bind fun x_1 => if (!x_1) = true then ((r3_Bad_S F).bind fun x_2 => some x_2) else ((r3_Quo_S F x0.N x0.D).bind fun x_3 => some x_3)
theorem r4_Floor_spec {F : Nat} {x0 : Frc} {r : Big} (h : r4_Floor_S F x0 = some r) : Meets Tryz.prog (tabs mx) 32 [] [.agg (eFrc x0)] (Is [] (.b (.agg (eBig r)))) := by
 unfold r4_Floor_S at h
 refine Meets.intro 12 Tryz.func32 Tryz.ntmps32 rfl (by simp) fun E => ?_
 show Tri _ E ⟨12, [], []⟩ _ ⟨[(0, .b (.agg (eFrc x0)))], []⟩ _
 refine Tri.seq (Tri.regionL ?_)
 refine Oc (op_box (k := 101) rfl rfl) (Oc (op_alloc (k := 102) tyZero25 rfl) ?_)
 refine OpsL.nilS ⟨[(1, Pt 101 0), (2, Pt 102 0)], [(101, .box 27 (eFrc x0)), (102, .box 25 zBig)]⟩ rfl (Tri.seq (Tri.seq (Tri.regionL ?_)))
 refine Oc (lp tyAgg27) ?_
 obtain ⟨x_1, e1, h⟩ := bnd h
 refine Oc (op_call0 (r4_Good_spec e1) goes13 rfl rfl) (Oc (op_not rfl) ?_)
 refine OpsL.nilS ⟨[(1, Pt 101 0), (2, Pt 102 0), (5, B (!x_1))], [(101, .box 27 (eFrc x0)), (102, .box 25 zBig)]⟩ rfl (Tri.ite h rfl (fun _ h => ?_) (fun _ h => ?_))
 ·refine Tri.seq (Tri.regionL ?_)
  obtain ⟨x_2, e2, h⟩ := bnd h
  refine Oc (op_call0 (r3_Bad_spec e2) goes83 rfl rfl) (Oc (op_store_p tyAgg25 rfl rfl rfl rfl (Nat.le_of_ble_eq_true rfl) rfl) ?_)
  refine OpsL.nilS ⟨[(2, Pt 102 0)], [(102, .box 25 (eBig x_2))]⟩ rfl (Tri.ret (Fin.then_ret ?_))
  obtain rfl := Option.some.inj h
  refine Fin.keepS ⟨[(2, Pt 102 0)], [(102, .box 25 (eBig x_2))]⟩ rfl (Fin.result' [.agg (eBig x_2)] (.inl rfl) rfl (.cons (.agg tyAgg25 rfl rfl rfl rfl) .nil) ⟨rfl, rfl⟩)
 ·refine Tri.skip (Fin.keepS ⟨[(1, Pt 101 0), (2, Pt 102 0)], [(101, .box 27 (eFrc x0)), (102, .box 25 zBig)]⟩ rfl (Fin.then (Tri.seq (Tri.regionL ?_))))
  refine Oc (op_field_p tyFld27_0 rfl rfl) (Oc (lp tyAgg25) (Oc (op_field_p tyFld27_1 rfl rfl) (Oc (lp tyAgg25) ?_)))
  obtain ⟨x_3, e3, h⟩ := bnd h
  refine Oc (op_call0 (r3_Quo_spec e3) goes89 rfl rfl) (Oc (op_store_p tyAgg25 rfl rfl rfl rfl (Nat.le_of_ble_eq_true rfl) rfl) ?_)
  refine OpsL.nilS ⟨[(2, Pt 102 0)], [(102, .box 25 (eBig x_3))]⟩ rfl (Tri.ret ?_)
  obtain rfl := Option.some.inj h
  refine Fin.keepS ⟨[(2, Pt 102 0)], [(102, .box 25 (eBig x_3))]⟩ rfl (Fin.result' [.agg (eBig x_3)] (.inl rfl) rfl (.cons (.agg tyAgg25 rfl rfl rfl rfl) .nil) ⟨rfl, rfl⟩)
def r4_Ceil_S (F : Nat) (x0 : Frc) : Option Big :=
 (r4_Neg_S F x0).bind fun x_1 => (r4_Floor_S F x_1).bind fun x_2 => (r3_Neg_S F x_2).bind fun x_3 => some x_3
theorem r4_Ceil_spec {F : Nat} {x0 : Frc} {r : Big} (h : r4_Ceil_S F x0 = some r) : Meets Tryz.prog (tabs mx) 34 [] [.agg (eFrc x0)] (Is [] (.b (.agg (eBig r)))) := by
 unfold r4_Ceil_S at h
 refine Meets.intro 7 Tryz.func34 Tryz.ntmps34 rfl (by simp) fun E => ?_
 show Tri _ E ⟨7, [], []⟩ _ ⟨[(0, .b (.agg (eFrc x0)))], []⟩ _
 refine Tri.seq (Tri.regionL ?_)
 refine Oc (op_box (k := 101) rfl rfl) (Oc (op_alloc (k := 102) tyZero25 rfl) ?_)
 refine OpsL.nilS ⟨[(1, Pt 101 0), (2, Pt 102 0)], [(101, .box 27 (eFrc x0)), (102, .box 25 zBig)]⟩ rfl (Tri.seq (Tri.regionL ?_))
 refine Oc (lp tyAgg27) ?_
 obtain ⟨x_1, e1, h⟩ := bnd h
 refine Oc (op_call0 (r4_Neg_spec e1) goes60 rfl rfl) ?_
 obtain ⟨x_2, e2, h⟩ := bnd h
 refine Oc (op_call0 (r4_Floor_spec e2) goes32 rfl rfl) ?_
 obtain ⟨x_3, e3, h⟩ := bnd h
 refine Oc (op_call0 (r3_Neg_spec e3) goes88 rfl rfl) (Oc (op_store_p tyAgg25 rfl rfl rfl rfl (Nat.le_of_ble_eq_true rfl) rfl) ?_)
 refine OpsL.nilS ⟨[(2, Pt 102 0)], [(102, .box 25 (eBig x_3))]⟩ rfl (Tri.ret ?_)
 obtain rfl := Option.some.inj h
 refine Fin.keepS ⟨[(2, Pt 102 0)], [(102, .box 25 (eBig x_3))]⟩ rfl (Fin.result' [.agg (eBig x_3)] (.inl rfl) rfl (.cons (.agg tyAgg25 rfl rfl rfl rfl) .nil) ⟨rfl, rfl⟩)
def r4_Whole_S (F : Nat) (n0 : Big) : Option Frc :=
 (r4_one_S F).bind fun x_1 => (r4_Make_S F n0 x_1).bind fun x_2 => some x_2
theorem r4_Whole_spec {F : Nat} {n0 : Big} {r : Frc} (h : r4_Whole_S F n0 = some r) : Meets Tryz.prog (tabs mx) 19 [] [.agg (eBig n0)] (Is [] (.b (.agg (eFrc r)))) := by
 unfold r4_Whole_S at h
 refine Meets.intro 6 Tryz.func19 Tryz.ntmps19 rfl (by simp) fun E => ?_
 show Tri _ E ⟨6, [], []⟩ _ ⟨[(0, .b (.agg (eBig n0)))], []⟩ _
 refine Tri.seq (Tri.regionL ?_)
 refine Oc (op_box (k := 101) rfl rfl) (Oc (op_alloc (k := 102) tyZero27 rfl) ?_)
 refine OpsL.nilS ⟨[(1, Pt 101 0), (2, Pt 102 0)], [(101, .box 25 (eBig n0)), (102, .box 27 zFrc)]⟩ rfl (Tri.seq ?_)
 obtain ⟨x_1, e1, h⟩ := bnd h
 obtain ⟨x_2, e2, h⟩ := bnd h
 refine Tri.regionY mixed 3 [.b (.agg (eBig n0)), .b (.agg (eBig x_1)), .b (.agg (eFrc x_2))] [2] [102] (s' := ⟨[(2, Pt 102 0)], [(102, .box 27 (eFrc x_2))]⟩) rfl ⟨fun _ => .p (lp tyAgg25), fun _ => .p (op_call0 (r4_one_spec e1) goes80 rfl rfl), fun _ => .p (op_call0 (r4_Make_spec e2) goes17 rfl rfl), trivial⟩ ⟨_, by exact .p (op_store_p tyAgg27 rfl rfl rfl rfl (Nat.le_of_ble_eq_true rfl) rfl), rfl⟩ rfl (Tri.ret ?_)
 obtain rfl := Option.some.inj h
 refine Fin.keepS ⟨[(2, Pt 102 0)], [(102, .box 27 (eFrc x_2))]⟩ rfl (Fin.result' [.agg (eFrc x_2)] (.inl rfl) rfl (.cons (.agg tyAgg27 rfl rfl rfl rfl) .nil) ⟨rfl, rfl⟩)
def r3_half_S (F : Nat) (n0 : Int) : Option Bool :=
 some ((decide (n0 < 2147483648)) && (decide ((-2147483648) < n0)))
theorem r3_half_spec {F : Nat} {n0 : Int} {r : Bool} (h : r3_half_S F n0 = some r) : Meets Tryz.prog (tabs mx) 82 [] [.one (.i n0)] (Is [] (.b (.one (.bool r)))) := by
 unfold r3_half_S at h
 refine Meets.intro 9 Tryz.func82 Tryz.ntmps82 rfl (by simp) fun E => ?_
 show Tri _ E ⟨9, [], []⟩ _ ⟨[(0, I n0)], []⟩ _
 refine Tri.seq (Tri.regionL ?_)
 refine Oc oa (OpsL.nilS ⟨[(0, I n0)], []⟩ rfl (Tri.seq (Tri.regionL ?_)))
 refine Oc om (Oc (op_lss rfl rfl) (Oc om ?_))
 refine CgT (decide (n0 < 2147483648)) [] (fun g1 => trivial) (fun g1 => om) (CgT (decide (n0 < 2147483648)) [6] (fun g2 => by exact ⟨g2, trivial⟩) (fun g2 => op_gtr rfl rfl) (Oc (op_pick_and (fun e => e) rfl rfl rfl rfl) (Oc oa ?_)))
 refine OpsL.nilS ⟨[(2, B ((decide (n0 < 2147483648)) && (decide ((-2147483648) < n0))))], []⟩ rfl (Tri.ret ?_)
 obtain rfl := Option.some.inj h
 refine Fin.keepS ⟨[(2, B ((decide (n0 < 2147483648)) && (decide ((-2147483648) < n0))))], []⟩ rfl (Fin.result' [.one (.bool ((decide (n0 < 2147483648)) && (decide ((-2147483648) < n0))))] (.inl rfl) rfl (.cons (.tmp rfl) .nil) ⟨rfl, rfl⟩)
def r3_Mul_S (F : Nat) (a0 : Big) (b0 : Big) : Option Big :=
 Option.bind (r3_word_S F a0) (un2 fun x_1 x_2 => Option.bind (r3_word_S F b0) (un2 fun x_3 x_4 => (gcall (x_2 && x_4) (r3_half_S F x_1)).bind fun x_5 => (gcall ((x_2 && x_4) && x_5) (r3_half_S F x_3)).bind fun x_6 => if (((x_2 && x_4) && x_5) && x_6) = true then ((r3_Of_S F (IntKind.i64.wrap (x_1 * x_3))).bind fun x_7 => some x_7) else ((r3_Good_S F a0).bind fun x_8 => (gcall (!(!x_8)) (r3_Good_S F b0)).bind fun x_9 => if ((!x_8) || (!x_9)) = true then ((r3_Bad_S F).bind fun x_10 => some x_10) else ((r3_digits_S F a0).bind fun x_11 => (r3_digits_S F b0).bind fun x_12 => (r3_times_S F x_11 x_12).bind fun x_13 => (r3_number_S F (a0.Neg != b0.Neg) x_13).bind fun x_14 => some x_14))))
theorem r3_Mul_spec {F : Nat} {a0 : Big} {b0 : Big} {r : Big} (h : r3_Mul_S F a0 b0 = some r) : Meets Tryz.prog (tabs mx) 14 [] [.agg (eBig a0), .agg (eBig b0)] (Is [] (.b (.agg (eBig r)))) := by
 unfold r3_Mul_S at h
 refine Meets.intro 55 Tryz.func14 Tryz.ntmps14 rfl (by simp) fun E => ?_
 show Tri _ E ⟨55, [], []⟩ _ ⟨[(0, .b (.agg (eBig a0))), (1, .b (.agg (eBig b0)))], []⟩ _
 refine Tri.seq (Tri.regionL ?_)
 refine Oc (op_box (k := 101) rfl rfl) (Oc (op_box (k := 102) rfl rfl) (Oc (op_alloc (k := 103) tyZero25 rfl) ?_))
 refine OpsL.nilS ⟨[(2, Pt 101 0), (3, Pt 102 0), (4, Pt 103 0)], [(101, .box 25 (eBig a0)), (102, .box 25 (eBig b0)), (103, .box 25 zBig)]⟩ rfl (Tri.seq (Tri.regionL ?_))
 refine Oc (lp tyAgg25) ?_
 obtain ⟨⟨x_1, x_2⟩, e1, h⟩ := bnd h
 refine Oc (op_call0 (r3_word_spec e1) goes81 rfl rfl) (Oc om (Oc (op_extract rfl rfl) (Oc (op_extract rfl rfl) (Oc oa (Oc oa ?_)))))
 refine OpsL.nilS ⟨[(2, Pt 101 0), (3, Pt 102 0), (4, Pt 103 0), (5, I x_1), (6, B x_2)], [(101, .box 25 (eBig a0)), (102, .box 25 (eBig b0)), (103, .box 25 zBig)]⟩ rfl (Tri.seq (Tri.regionL ?_))
 refine Oc (lp tyAgg25) ?_
 obtain ⟨⟨x_3, x_4⟩, e2, h⟩ := bnd h
 refine Oc (op_call0 (r3_word_spec e2) goes81 rfl rfl) (Oc om (Oc (op_extract rfl rfl) (Oc (op_extract rfl rfl) (Oc oa (Oc oa ?_)))))
 refine OpsL.nilS ⟨[(2, Pt 101 0), (3, Pt 102 0), (4, Pt 103 0), (5, I x_1), (6, B x_2), (7, I x_3), (8, B x_4)], [(101, .box 25 (eBig a0)), (102, .box 25 (eBig b0)), (103, .box 25 zBig)]⟩ rfl (Tri.seq (Tri.seq (Tri.regionL ?_)))
 refine Oc om (Oc om ?_)
 refine CgT x_2 [] (fun g3 => trivial) (fun g3 => om) (Oc (op_pick_and (fun e => e) rfl rfl rfl rfl) (Oc om ?_))
 refine CgT (x_2 && x_4) [] (fun g4 => trivial) (fun g4 => om) (OpsL.keepS ⟨[(2, Pt 101 0), (3, Pt 102 0), (4, Pt 103 0), (5, I x_1), (7, I x_3), (23, B (x_2 && x_4)), (24, .opt (x_2 && x_4) (.one (.i x_1)))], [(101, .box 25 (eBig a0)), (102, .box 25 (eBig b0)), (103, .box 25 zBig)]⟩ rfl ?_)
 obtain ⟨x_5, e6, h⟩ := bnd h
 refine CgT (x_2 && x_4) [24] (fun g5 => ⟨g5, trivial⟩) (fun g5 => op_call0 (r3_half_spec (gc e6 g5)) goes82 rfl rfl) (Oc (op_pick_and (fun e => e) rfl rfl rfl rfl) (Oc om ?_))
 refine CgT ((x_2 && x_4) && x_5) [] (fun g7 => trivial) (fun g7 => om) ?_
 obtain ⟨x_6, e9, h⟩ := bnd h
 refine CgT ((x_2 && x_4) && x_5) [28] (fun g8 => ⟨g8, trivial⟩) (fun g8 => op_call0 (r3_half_spec (gc e9 g8)) goes82 rfl rfl) (Oc (op_pick_and (fun e => e) rfl rfl rfl rfl) (OpsL.nilS ⟨[(2, Pt 101 0), (3, Pt 102 0), (4, Pt 103 0), (5, I x_1), (7, I x_3), (30, B (((x_2 && x_4) && x_5) && x_6))], [(101, .box 25 (eBig a0)), (102, .box 25 (eBig b0)), (103, .box 25 zBig)]⟩ rfl (Tri.ite h rfl (fun _ h => ?_) (fun _ h => ?_))))
 ·refine Tri.seq (Tri.regionL ?_)
  refine Oc om (Oc om (Oc (op_mul rfl rfl) ?_))
  obtain ⟨x_7, e10, h⟩ := bnd h
  refine Oc (op_call0 (r3_Of_spec e10) goes12 rfl rfl) (Oc (op_store_p tyAgg25 rfl rfl rfl rfl (Nat.le_of_ble_eq_true rfl) rfl) ?_)
  refine OpsL.nilS ⟨[(4, Pt 103 0)], [(103, .box 25 (eBig x_7))]⟩ rfl (Tri.ret (Fin.then_ret ?_))
  obtain rfl := Option.some.inj h
  refine Fin.keepS ⟨[(4, Pt 103 0)], [(103, .box 25 (eBig x_7))]⟩ rfl (Fin.result' [.agg (eBig x_7)] (.inl rfl) rfl (.cons (.agg tyAgg25 rfl rfl rfl rfl) .nil) ⟨rfl, rfl⟩)
 ·refine Tri.skip (Fin.keepS ⟨[(2, Pt 101 0), (3, Pt 102 0), (4, Pt 103 0)], [(101, .box 25 (eBig a0)), (102, .box 25 (eBig b0)), (103, .box 25 zBig)]⟩ rfl (Fin.then (Tri.seq (Tri.seq (Tri.regionL ?_)))))
  refine Oc (lp tyAgg25) ?_
  obtain ⟨x_8, e11, h⟩ := bnd h
  refine Oc (op_call0 (r3_Good_spec e11) goes15 rfl rfl) (Oc (op_not rfl) (Oc om ?_))
  refine CgF (!(!x_8)) [] (fun g12 => trivial) (fun g12 => lp tyAgg25) (OpsL.keepS ⟨[(2, Pt 101 0), (3, Pt 102 0), (4, Pt 103 0), (38, B (!x_8)), (39, .opt (!(!x_8)) (.agg (eBig b0)))], [(101, .box 25 (eBig a0)), (102, .box 25 (eBig b0)), (103, .box 25 zBig)]⟩ rfl ?_)
  obtain ⟨x_9, e14, h⟩ := bnd h
  refine CgF (!(!x_8)) [39] (fun g13 => ⟨g13, trivial⟩) (fun g13 => op_call0 (r3_Good_spec (gc e14 g13)) goes15 rfl rfl) (CgF (!(!x_8)) [40] (fun g15 => ⟨g15, trivial⟩) (fun g15 => op_not rfl) (Oc (op_pick_or (fun e => by rw [e]; rfl) rfl rfl rfl rfl) (OpsL.nilS ⟨[(2, Pt 101 0), (3, Pt 102 0), (4, Pt 103 0), (42, B ((!x_8) || (!x_9)))], [(101, .box 25 (eBig a0)), (102, .box 25 (eBig b0)), (103, .box 25 zBig)]⟩ rfl (Tri.ite h rfl (fun _ h => ?_) (fun _ h => ?_)))))
  ·refine Tri.seq (Tri.regionL ?_)
   obtain ⟨x_10, e16, h⟩ := bnd h
   refine Oc (op_call0 (r3_Bad_spec e16) goes83 rfl rfl) (Oc (op_store_p tyAgg25 rfl rfl rfl rfl (Nat.le_of_ble_eq_true rfl) rfl) ?_)
   refine OpsL.nilS ⟨[(4, Pt 103 0)], [(103, .box 25 (eBig x_10))]⟩ rfl (Tri.ret (Fin.then_ret ?_))
   obtain rfl := Option.some.inj h
   refine Fin.keepS ⟨[(4, Pt 103 0)], [(103, .box 25 (eBig x_10))]⟩ rfl (Fin.result' [.agg (eBig x_10)] (.inl rfl) rfl (.cons (.agg tyAgg25 rfl rfl rfl rfl) .nil) ⟨rfl, rfl⟩)
  ·refine Tri.skip (Fin.keepS ⟨[(2, Pt 101 0), (3, Pt 102 0), (4, Pt 103 0)], [(101, .box 25 (eBig a0)), (102, .box 25 (eBig b0)), (103, .box 25 zBig)]⟩ rfl (Fin.then (Tri.seq ?_)))
   refine Tri.keepS ⟨[(2, Pt 101 0), (3, Pt 102 0), (4, Pt 103 0)], [(101, .box 25 (eBig a0)), (102, .box 25 (eBig b0)), (103, .box 25 zBig)]⟩ rfl ?_
   obtain ⟨x_11, e17, h⟩ := bnd h
   obtain ⟨x_12, e18, h⟩ := bnd h
   obtain ⟨x_13, e19, h⟩ := bnd h
   obtain ⟨x_14, e20, h⟩ := bnd h
   refine Tri.regionY mixed 11 [Pt 101 1, B a0.Neg, Pt 102 1, B b0.Neg, B (a0.Neg != b0.Neg), .b (.agg (eBig a0)), .b (.one (.sl 1 (x_11.map eI))), .b (.agg (eBig b0)), .b (.one (.sl 1 (x_12.map eI))), .b (.one (.sl 1 (x_13.map eI))), .b (.agg (eBig x_14))] [4] [103] (s' := ⟨[(4, Pt 103 0)], [(103, .box 25 (eBig x_14))]⟩) rfl ⟨fun _ => .p (op_field_p tyFld25_1 rfl rfl), fun _ => .p (op_load_p1 tyOne4 rfl rfl rfl), fun _ => .p (op_field_p tyFld25_1 rfl rfl), fun _ => .p (op_load_p1 tyOne4 rfl rfl rfl), fun _ => .p (op_neq_bool und4 rfl rfl), fun _ => .p (lp tyAgg25), fun _ => .p (op_call0 (r3_digits_spec e17) goes85 rfl rfl), fun _ => .p (lp tyAgg25), fun _ => .p (op_call0 (r3_digits_spec e18) goes85 rfl rfl), fun _ => .p (op_call0 (r3_times_spec e19) goes84 rfl rfl), fun _ => .p (op_call0 (r3_number_spec e20) goes76 rfl rfl), trivial⟩ ⟨_, by exact .p (op_store_p tyAgg25 rfl rfl rfl rfl (Nat.le_of_ble_eq_true rfl) rfl), rfl⟩ rfl (Tri.ret ?_)
   obtain rfl := Option.some.inj h
   refine Fin.keepS ⟨[(4, Pt 103 0)], [(103, .box 25 (eBig x_14))]⟩ rfl (Fin.result' [.agg (eBig x_14)] (.inl rfl) rfl (.cons (.agg tyAgg25 rfl rfl rfl rfl) .nil) ⟨rfl, rfl⟩)
def r3_Add_S (F : Nat) (a0 : Big) (b0 : Big) : Option Big :=
 Option.bind (r3_word_S F a0) (un2 fun x_1 x_2 => Option.bind (r3_word_S F b0) (un2 fun x_3 x_4 => if (x_2 && x_4) = true then ((r3_Of_S F (IntKind.i64.wrap (x_1 + x_3))).bind fun x_5 => some x_5) else ((r3_Good_S F a0).bind fun x_6 => (gcall (!(!x_6)) (r3_Good_S F b0)).bind fun x_7 => if ((!x_6) || (!x_7)) = true then ((r3_Bad_S F).bind fun x_8 => some x_8) else ((r3_digits_S F a0).bind fun x_9 => (r3_digits_S F b0).bind fun x_10 => if (a0.Neg == b0.Neg) = true then ((r3_plus_S F x_9 x_10).bind fun x_11 => (r3_number_S F a0.Neg x_11).bind fun x_12 => some x_12) else ((r3_less_S F x_9 x_10).bind fun x_13 => if x_13 = true then ((r3_minus_S F x_10 x_9).bind fun x_14 => (r3_number_S F b0.Neg x_14).bind fun x_15 => some x_15) else ((r3_minus_S F x_9 x_10).bind fun x_16 => (r3_number_S F a0.Neg x_16).bind fun x_17 => some x_17))))))
theorem r3_Add_spec {F : Nat} {a0 : Big} {b0 : Big} {r : Big} (h : r3_Add_S F a0 b0 = some r) : Meets Tryz.prog (tabs mx) 100 [] [.agg (eBig a0), .agg (eBig b0)] (Is [] (.b (.agg (eBig r)))) := by
 unfold r3_Add_S at h
 refine Meets.intro 70 Tryz.func100 Tryz.ntmps100 rfl (by simp) fun E => ?_
 show Tri _ E ⟨70, [], []⟩ _ ⟨[(0, .b (.agg (eBig a0))), (1, .b (.agg (eBig b0)))], []⟩ _
 refine Tri.seq (Tri.regionL ?_)
 refine Oc (op_box (k := 101) rfl rfl) (Oc (op_box (k := 102) rfl rfl) (Oc (op_alloc (k := 103) tyZero25 rfl) ?_))
 refine OpsL.nilS ⟨[(2, Pt 101 0), (3, Pt 102 0), (4, Pt 103 0)], [(101, .box 25 (eBig a0)), (102, .box 25 (eBig b0)), (103, .box 25 zBig)]⟩ rfl (Tri.seq (Tri.regionL ?_))
 refine Oc (lp tyAgg25) ?_
 obtain ⟨⟨x_1, x_2⟩, e1, h⟩ := bnd h
 refine Oc (op_call0 (r3_word_spec e1) goes81 rfl rfl) (Oc om (Oc (op_extract rfl rfl) (Oc (op_extract rfl rfl) (Oc oa (Oc oa ?_)))))
 refine OpsL.nilS ⟨[(2, Pt 101 0), (3, Pt 102 0), (4, Pt 103 0), (5, I x_1), (6, B x_2)], [(101, .box 25 (eBig a0)), (102, .box 25 (eBig b0)), (103, .box 25 zBig)]⟩ rfl (Tri.seq (Tri.regionL ?_))
 refine Oc (lp tyAgg25) ?_
 obtain ⟨⟨x_3, x_4⟩, e2, h⟩ := bnd h
 refine Oc (op_call0 (r3_word_spec e2) goes81 rfl rfl) (Oc om (Oc (op_extract rfl rfl) (Oc (op_extract rfl rfl) (Oc oa (Oc oa ?_)))))
 refine OpsL.nilS ⟨[(2, Pt 101 0), (3, Pt 102 0), (4, Pt 103 0), (5, I x_1), (6, B x_2), (7, I x_3), (8, B x_4)], [(101, .box 25 (eBig a0)), (102, .box 25 (eBig b0)), (103, .box 25 zBig)]⟩ rfl (Tri.seq (Tri.seq (Tri.regionL ?_)))
 refine Oc om (Oc om ?_)
 refine CgT x_2 [] (fun g3 => trivial) (fun g3 => om) (Oc (op_pick_and (fun e => e) rfl rfl rfl rfl) (OpsL.nilS ⟨[(2, Pt 101 0), (3, Pt 102 0), (4, Pt 103 0), (5, I x_1), (7, I x_3), (25, B (x_2 && x_4))], [(101, .box 25 (eBig a0)), (102, .box 25 (eBig b0)), (103, .box 25 zBig)]⟩ rfl (Tri.ite h rfl (fun _ h => ?_) (fun _ h => ?_))))
 ·refine Tri.seq (Tri.regionL ?_)
  refine Oc om (Oc om (Oc (op_add rfl rfl) ?_))
  obtain ⟨x_5, e4, h⟩ := bnd h
  refine Oc (op_call0 (r3_Of_spec e4) goes12 rfl rfl) (Oc (op_store_p tyAgg25 rfl rfl rfl rfl (Nat.le_of_ble_eq_true rfl) rfl) ?_)
  refine OpsL.nilS ⟨[(4, Pt 103 0)], [(103, .box 25 (eBig x_5))]⟩ rfl (Tri.ret (Fin.then_ret ?_))
  obtain rfl := Option.some.inj h
  refine Fin.keepS ⟨[(4, Pt 103 0)], [(103, .box 25 (eBig x_5))]⟩ rfl (Fin.result' [.agg (eBig x_5)] (.inl rfl) rfl (.cons (.agg tyAgg25 rfl rfl rfl rfl) .nil) ⟨rfl, rfl⟩)
 ·refine Tri.skip (Fin.keepS ⟨[(2, Pt 101 0), (3, Pt 102 0), (4, Pt 103 0)], [(101, .box 25 (eBig a0)), (102, .box 25 (eBig b0)), (103, .box 25 zBig)]⟩ rfl (Fin.then (Tri.seq (Tri.seq (Tri.regionL ?_)))))
  refine Oc (lp tyAgg25) ?_
  obtain ⟨x_6, e5, h⟩ := bnd h
  refine Oc (op_call0 (r3_Good_spec e5) goes15 rfl rfl) (Oc (op_not rfl) (Oc om ?_))
  refine CgF (!(!x_6)) [] (fun g6 => trivial) (fun g6 => lp tyAgg25) (OpsL.keepS ⟨[(2, Pt 101 0), (3, Pt 102 0), (4, Pt 103 0), (33, B (!x_6)), (34, .opt (!(!x_6)) (.agg (eBig b0)))], [(101, .box 25 (eBig a0)), (102, .box 25 (eBig b0)), (103, .box 25 zBig)]⟩ rfl ?_)
  obtain ⟨x_7, e8, h⟩ := bnd h
  refine CgF (!(!x_6)) [34] (fun g7 => ⟨g7, trivial⟩) (fun g7 => op_call0 (r3_Good_spec (gc e8 g7)) goes15 rfl rfl) (CgF (!(!x_6)) [35] (fun g9 => ⟨g9, trivial⟩) (fun g9 => op_not rfl) (Oc (op_pick_or (fun e => by rw [e]; rfl) rfl rfl rfl rfl) (OpsL.nilS ⟨[(2, Pt 101 0), (3, Pt 102 0), (4, Pt 103 0), (37, B ((!x_6) || (!x_7)))], [(101, .box 25 (eBig a0)), (102, .box 25 (eBig b0)), (103, .box 25 zBig)]⟩ rfl (Tri.ite h rfl (fun _ h => ?_) (fun _ h => ?_)))))
  ·refine Tri.seq (Tri.regionL ?_)
   obtain ⟨x_8, e10, h⟩ := bnd h
   refine Oc (op_call0 (r3_Bad_spec e10) goes83 rfl rfl) (Oc (op_store_p tyAgg25 rfl rfl rfl rfl (Nat.le_of_ble_eq_true rfl) rfl) ?_)
   refine OpsL.nilS ⟨[(4, Pt 103 0)], [(103, .box 25 (eBig x_8))]⟩ rfl (Tri.ret (Fin.then_ret ?_))
   obtain rfl := Option.some.inj h
   refine Fin.keepS ⟨[(4, Pt 103 0)], [(103, .box 25 (eBig x_8))]⟩ rfl (Fin.result' [.agg (eBig x_8)] (.inl rfl) rfl (.cons (.agg tyAgg25 rfl rfl rfl rfl) .nil) ⟨rfl, rfl⟩)
  ·refine Tri.skip (Fin.keepS ⟨[(2, Pt 101 0), (3, Pt 102 0), (4, Pt 103 0)], [(101, .box 25 (eBig a0)), (102, .box 25 (eBig b0)), (103, .box 25 zBig)]⟩ rfl (Fin.then (Tri.seq (Tri.regionL ?_))))
   refine Oc (lp tyAgg25) ?_
   obtain ⟨x_9, e11, h⟩ := bnd h
   refine Oc (op_call0 (r3_digits_spec e11) goes85 rfl rfl) (Oc oa ?_)
   refine OpsL.nilS ⟨[(2, Pt 101 0), (3, Pt 102 0), (4, Pt 103 0), (9, .b (.one (.sl 1 (x_9.map eI))))], [(101, .box 25 (eBig a0)), (102, .box 25 (eBig b0)), (103, .box 25 zBig)]⟩ rfl (Tri.seq (Tri.regionL ?_))
   refine Oc (lp tyAgg25) ?_
   obtain ⟨x_10, e12, h⟩ := bnd h
   refine Oc (op_call0 (r3_digits_spec e12) goes85 rfl rfl) (Oc oa ?_)
   refine OpsL.nilS ⟨[(2, Pt 101 0), (3, Pt 102 0), (4, Pt 103 0), (9, .b (.one (.sl 1 (x_9.map eI)))), (10, .b (.one (.sl 1 (x_10.map eI))))], [(101, .box 25 (eBig a0)), (102, .box 25 (eBig b0)), (103, .box 25 zBig)]⟩ rfl (Tri.seq (Tri.seq (Tri.regionL ?_)))
   refine Oc (op_field_p tyFld25_1 rfl rfl) (Oc (op_load_p1 tyOne4 rfl rfl rfl) (Oc (op_field_p tyFld25_1 rfl rfl) (Oc (op_load_p1 tyOne4 rfl rfl rfl) (Oc (op_eql_bool und4 rfl rfl) ?_))))
   refine OpsL.nilS ⟨[(2, Pt 101 0), (3, Pt 102 0), (4, Pt 103 0), (9, .b (.one (.sl 1 (x_9.map eI)))), (10, .b (.one (.sl 1 (x_10.map eI)))), (47, B (a0.Neg == b0.Neg))], [(101, .box 25 (eBig a0)), (102, .box 25 (eBig b0)), (103, .box 25 zBig)]⟩ rfl (Tri.ite h rfl (fun _ h => ?_) (fun _ h => ?_))
   ·refine Tri.seq (Tri.keepS ⟨[(2, Pt 101 0), (4, Pt 103 0), (9, .b (.one (.sl 1 (x_9.map eI)))), (10, .b (.one (.sl 1 (x_10.map eI))))], [(101, .box 25 (eBig a0)), (103, .box 25 zBig)]⟩ rfl ?_)
    obtain ⟨x_11, e13, h⟩ := bnd h
    obtain ⟨x_12, e14, h⟩ := bnd h
    refine Tri.regionY mixed 6 [Pt 101 1, B a0.Neg, .b (.one (.sl 1 (x_9.map eI))), .b (.one (.sl 1 (x_10.map eI))), .b (.one (.sl 1 (x_11.map eI))), .b (.agg (eBig x_12))] [4] [103] (s' := ⟨[(4, Pt 103 0)], [(103, .box 25 (eBig x_12))]⟩) rfl ⟨fun _ => .p (op_field_p tyFld25_1 rfl rfl), fun _ => .p (op_load_p1 tyOne4 rfl rfl rfl), fun _ => .p om, fun _ => .p om, fun _ => .p (op_call0 (r3_plus_spec e13) goes77 rfl rfl), fun _ => .p (op_call0 (r3_number_spec e14) goes76 rfl rfl), trivial⟩ ⟨_, by exact .p (op_store_p tyAgg25 rfl rfl rfl rfl (Nat.le_of_ble_eq_true rfl) rfl), rfl⟩ rfl (Tri.ret (Fin.then_ret ?_))
    obtain rfl := Option.some.inj h
    refine Fin.keepS ⟨[(4, Pt 103 0)], [(103, .box 25 (eBig x_12))]⟩ rfl (Fin.result' [.agg (eBig x_12)] (.inl rfl) rfl (.cons (.agg tyAgg25 rfl rfl rfl rfl) .nil) ⟨rfl, rfl⟩)
   ·refine Tri.skip (Fin.keepS ⟨[(2, Pt 101 0), (3, Pt 102 0), (4, Pt 103 0), (9, .b (.one (.sl 1 (x_9.map eI)))), (10, .b (.one (.sl 1 (x_10.map eI))))], [(101, .box 25 (eBig a0)), (102, .box 25 (eBig b0)), (103, .box 25 zBig)]⟩ rfl (Fin.then (Tri.seq (Tri.regionL ?_))))
    refine Oc om (Oc om ?_)
    obtain ⟨x_13, e15, h⟩ := bnd h
    refine Oc (op_call0 (r3_less_spec e15) goes131 rfl rfl) (Oc oa ?_)
    refine OpsL.nilS ⟨[(2, Pt 101 0), (3, Pt 102 0), (4, Pt 103 0), (9, .b (.one (.sl 1 (x_9.map eI)))), (10, .b (.one (.sl 1 (x_10.map eI)))), (11, B x_13)], [(101, .box 25 (eBig a0)), (102, .box 25 (eBig b0)), (103, .box 25 zBig)]⟩ rfl (Tri.seq (Tri.seq (Tri.regionL ?_)))
    refine Oc om (OpsL.nilS ⟨[(2, Pt 101 0), (3, Pt 102 0), (4, Pt 103 0), (9, .b (.one (.sl 1 (x_9.map eI)))), (10, .b (.one (.sl 1 (x_10.map eI)))), (57, B x_13)], [(101, .box 25 (eBig a0)), (102, .box 25 (eBig b0)), (103, .box 25 zBig)]⟩ rfl (Tri.ite h rfl (fun _ h => ?_) (fun _ h => ?_)))
    ·refine Tri.seq (Tri.keepS ⟨[(3, Pt 102 0), (4, Pt 103 0), (9, .b (.one (.sl 1 (x_9.map eI)))), (10, .b (.one (.sl 1 (x_10.map eI))))], [(102, .box 25 (eBig b0)), (103, .box 25 zBig)]⟩ rfl ?_)
     obtain ⟨x_14, e16, h⟩ := bnd h
     obtain ⟨x_15, e17, h⟩ := bnd h
     refine Tri.regionY mixed 6 [Pt 102 1, B b0.Neg, .b (.one (.sl 1 (x_10.map eI))), .b (.one (.sl 1 (x_9.map eI))), .b (.one (.sl 1 (x_14.map eI))), .b (.agg (eBig x_15))] [4] [103] (s' := ⟨[(4, Pt 103 0)], [(103, .box 25 (eBig x_15))]⟩) rfl ⟨fun _ => .p (op_field_p tyFld25_1 rfl rfl), fun _ => .p (op_load_p1 tyOne4 rfl rfl rfl), fun _ => .p om, fun _ => .p om, fun _ => .p (op_call0 (r3_minus_spec e16) goes130 rfl rfl), fun _ => .p (op_call0 (r3_number_spec e17) goes76 rfl rfl), trivial⟩ ⟨_, by exact .p (op_store_p tyAgg25 rfl rfl rfl rfl (Nat.le_of_ble_eq_true rfl) rfl), rfl⟩ rfl (Tri.ret (Fin.then_ret ?_))
     obtain rfl := Option.some.inj h
     refine Fin.keepS ⟨[(4, Pt 103 0)], [(103, .box 25 (eBig x_15))]⟩ rfl (Fin.result' [.agg (eBig x_15)] (.inl rfl) rfl (.cons (.agg tyAgg25 rfl rfl rfl rfl) .nil) ⟨rfl, rfl⟩)
    ·refine Tri.skip (Fin.keepS ⟨[(2, Pt 101 0), (4, Pt 103 0), (9, .b (.one (.sl 1 (x_9.map eI)))), (10, .b (.one (.sl 1 (x_10.map eI))))], [(101, .box 25 (eBig a0)), (103, .box 25 zBig)]⟩ rfl (Fin.then (Tri.seq ?_)))
     refine Tri.keepS ⟨[(2, Pt 101 0), (4, Pt 103 0), (9, .b (.one (.sl 1 (x_9.map eI)))), (10, .b (.one (.sl 1 (x_10.map eI))))], [(101, .box 25 (eBig a0)), (103, .box 25 zBig)]⟩ rfl ?_
     obtain ⟨x_16, e18, h⟩ := bnd h
     obtain ⟨x_17, e19, h⟩ := bnd h
     refine Tri.regionY mixed 6 [Pt 101 1, B a0.Neg, .b (.one (.sl 1 (x_9.map eI))), .b (.one (.sl 1 (x_10.map eI))), .b (.one (.sl 1 (x_16.map eI))), .b (.agg (eBig x_17))] [4] [103] (s' := ⟨[(4, Pt 103 0)], [(103, .box 25 (eBig x_17))]⟩) rfl ⟨fun _ => .p (op_field_p tyFld25_1 rfl rfl), fun _ => .p (op_load_p1 tyOne4 rfl rfl rfl), fun _ => .p om, fun _ => .p om, fun _ => .p (op_call0 (r3_minus_spec e18) goes130 rfl rfl), fun _ => .p (op_call0 (r3_number_spec e19) goes76 rfl rfl), trivial⟩ ⟨_, by exact .p (op_store_p tyAgg25 rfl rfl rfl rfl (Nat.le_of_ble_eq_true rfl) rfl), rfl⟩ rfl (Tri.ret ?_)
     obtain rfl := Option.some.inj h
     refine Fin.keepS ⟨[(4, Pt 103 0)], [(103, .box 25 (eBig x_17))]⟩ rfl (Fin.result' [.agg (eBig x_17)] (.inl rfl) rfl (.cons (.agg tyAgg25 rfl rfl rfl rfl) .nil) ⟨rfl, rfl⟩)
def r4_Add_S (F : Nat) (x0 : Frc) (y0 : Frc) : Option Frc :=
 (r4_Good_S F x0).bind fun x_1 => (gcall (!(!x_1)) (r4_Good_S F y0)).bind fun x_2 => if ((!x_1) || (!x_2)) = true then ((r4_Bad_S F).bind fun x_3 => some x_3) else ((r3_Gcd_S F x0.D y0.D).bind fun x_4 => (r3_Quo_S F x0.D x_4).bind fun x_5 => (r3_Quo_S F y0.D x_4).bind fun x_6 => (r3_Mul_S F x0.N x_6).bind fun x_7 => (r3_Mul_S F y0.N x_5).bind fun x_8 => (r3_Add_S F x_7 x_8).bind fun x_9 => (r3_Mul_S F x_5 y0.D).bind fun x_10 => (r4_Make_S F x_9 x_10).bind fun x_11 => some x_11)
theorem r4_Add_spec {F : Nat} {x0 : Frc} {y0 : Frc} {r : Frc} (h : r4_Add_S F x0 y0 = some r) : Meets Tryz.prog (tabs mx) 56 [] [.agg (eFrc x0), .agg (eFrc y0)] (Is [] (.b (.agg (eFrc r)))) := by
 unfold r4_Add_S at h
 refine Meets.intro 44 Tryz.func56 Tryz.ntmps56 rfl (by simp) fun E => ?_
 show Tri _ E ⟨44, [], []⟩ _ ⟨[(0, .b (.agg (eFrc x0))), (1, .b (.agg (eFrc y0)))], []⟩ _
 refine Tri.seq (Tri.regionL ?_)
 refine Oc (op_box (k := 101) rfl rfl) (Oc (op_box (k := 102) rfl rfl) (Oc (op_alloc (k := 103) tyZero27 rfl) ?_))
 refine OpsL.nilS ⟨[(2, Pt 101 0), (3, Pt 102 0), (4, Pt 103 0)], [(101, .box 27 (eFrc x0)), (102, .box 27 (eFrc y0)), (103, .box 27 zFrc)]⟩ rfl (Tri.seq (Tri.seq (Tri.regionL ?_)))
 refine Oc (lp tyAgg27) ?_
 obtain ⟨x_1, e1, h⟩ := bnd h
 refine Oc (op_call0 (r4_Good_spec e1) goes13 rfl rfl) (Oc (op_not rfl) (Oc om ?_))
 refine CgF (!(!x_1)) [] (fun g2 => trivial) (fun g2 => lp tyAgg27) (OpsL.keepS ⟨[(2, Pt 101 0), (3, Pt 102 0), (4, Pt 103 0), (11, B (!x_1)), (12, .opt (!(!x_1)) (.agg (eFrc y0)))], [(101, .box 27 (eFrc x0)), (102, .box 27 (eFrc y0)), (103, .box 27 zFrc)]⟩ rfl ?_)
 obtain ⟨x_2, e4, h⟩ := bnd h
 refine CgF (!(!x_1)) [12] (fun g3 => ⟨g3, trivial⟩) (fun g3 => op_call0 (r4_Good_spec (gc e4 g3)) goes13 rfl rfl) (CgF (!(!x_1)) [13] (fun g5 => ⟨g5, trivial⟩) (fun g5 => op_not rfl) (Oc (op_pick_or (fun e => by rw [e]; rfl) rfl rfl rfl rfl) (OpsL.nilS ⟨[(2, Pt 101 0), (3, Pt 102 0), (4, Pt 103 0), (15, B ((!x_1) || (!x_2)))], [(101, .box 27 (eFrc x0)), (102, .box 27 (eFrc y0)), (103, .box 27 zFrc)]⟩ rfl (Tri.ite h rfl (fun _ h => ?_) (fun _ h => ?_)))))
 ·refine Tri.seq (Tri.regionL ?_)
  obtain ⟨x_3, e6, h⟩ := bnd h
  refine Oc (op_call0 (r4_Bad_spec e6) goes28 rfl rfl) (Oc (op_store_p tyAgg27 rfl rfl rfl rfl (Nat.le_of_ble_eq_true rfl) rfl) ?_)
  refine OpsL.nilS ⟨[(4, Pt 103 0)], [(103, .box 27 (eFrc x_3))]⟩ rfl (Tri.ret (Fin.then_ret ?_))
  obtain rfl := Option.some.inj h
  refine Fin.keepS ⟨[(4, Pt 103 0)], [(103, .box 27 (eFrc x_3))]⟩ rfl (Fin.result' [.agg (eFrc x_3)] (.inl rfl) rfl (.cons (.agg tyAgg27 rfl rfl rfl rfl) .nil) ⟨rfl, rfl⟩)
 ·refine Tri.skip (Fin.keepS ⟨[(2, Pt 101 0), (3, Pt 102 0), (4, Pt 103 0)], [(101, .box 27 (eFrc x0)), (102, .box 27 (eFrc y0)), (103, .box 27 zFrc)]⟩ rfl (Fin.then (Tri.seq (Tri.regionL ?_))))
  refine Oc (op_field_p tyFld27_1 rfl rfl) (Oc (lp tyAgg25) (Oc (op_field_p tyFld27_1 rfl rfl) (Oc (lp tyAgg25) ?_)))
  obtain ⟨x_4, e7, h⟩ := bnd h
  refine Oc (op_call0 (r3_Gcd_spec e7) goes79 rfl rfl) (Oc (op_alloc (k := 104) tyZero25 rfl) (Oc (op_store_p tyAgg25 rfl rfl rfl rfl (Nat.le_of_ble_eq_true rfl) rfl) ?_))
  refine OpsL.nilS ⟨[(2, Pt 101 0), (3, Pt 102 0), (4, Pt 103 0), (5, Pt 104 0)], [(101, .box 27 (eFrc x0)), (102, .box 27 (eFrc y0)), (103, .box 27 zFrc), (104, .box 25 (eBig x_4))]⟩ rfl (Tri.seq (Tri.regionL ?_))
  refine Oc (op_field_p tyFld27_1 rfl rfl) (Oc (lp tyAgg25) (Oc (lp tyAgg25) ?_))
  obtain ⟨x_5, e8, h⟩ := bnd h
  refine Oc (op_call0 (r3_Quo_spec e8) goes89 rfl rfl) (Oc (op_alloc (k := 105) tyZero25 rfl) (Oc (op_store_p tyAgg25 rfl rfl rfl rfl (Nat.le_of_ble_eq_true rfl) rfl) ?_))
  refine OpsL.nilS ⟨[(2, Pt 101 0), (3, Pt 102 0), (4, Pt 103 0), (5, Pt 104 0), (6, Pt 105 0)], [(101, .box 27 (eFrc x0)), (102, .box 27 (eFrc y0)), (103, .box 27 zFrc), (104, .box 25 (eBig x_4)), (105, .box 25 (eBig x_5))]⟩ rfl (Tri.seq (Tri.regionL ?_))
  refine Oc (op_field_p tyFld27_1 rfl rfl) (Oc (lp tyAgg25) (Oc (lp tyAgg25) ?_))
  obtain ⟨x_6, e9, h⟩ := bnd h
  refine Oc (op_call0 (r3_Quo_spec e9) goes89 rfl rfl) (Oc (op_alloc (k := 106) tyZero25 rfl) (Oc (op_store_p tyAgg25 rfl rfl rfl rfl (Nat.le_of_ble_eq_true rfl) rfl) ?_))
  refine OpsL.nilS ⟨[(2, Pt 101 0), (3, Pt 102 0), (4, Pt 103 0), (6, Pt 105 0), (7, Pt 106 0)], [(101, .box 27 (eFrc x0)), (102, .box 27 (eFrc y0)), (103, .box 27 zFrc), (105, .box 25 (eBig x_5)), (106, .box 25 (eBig x_6))]⟩ rfl (Tri.seq ?_)
  obtain ⟨x_7, e10, h⟩ := bnd h
  obtain ⟨x_8, e11, h⟩ := bnd h
  obtain ⟨x_9, e12, h⟩ := bnd h
  obtain ⟨x_10, e13, h⟩ := bnd h
  obtain ⟨x_11, e14, h⟩ := bnd h
  refine Tri.regionY mixed 14 [Pt 101 0, .b (.agg (eBig x0.N)), .b (.agg (eBig x_6)), .b (.agg (eBig x_7)), Pt 102 0, .b (.agg (eBig y0.N)), .b (.agg (eBig x_5)), .b (.agg (eBig x_8)), .b (.agg (eBig x_9)), .b (.agg (eBig x_5)), Pt 102 18, .b (.agg (eBig y0.D)), .b (.agg (eBig x_10)), .b (.agg (eFrc x_11))] [4] [103] (s' := ⟨[(4, Pt 103 0)], [(103, .box 27 (eFrc x_11))]⟩) rfl ⟨fun _ => .p (op_field_p tyFld27_0 rfl rfl), fun _ => .p (lp tyAgg25), fun _ => .p (lp tyAgg25), fun _ => .p (op_call0 (r3_Mul_spec e10) goes14 rfl rfl), fun _ => .p (op_field_p tyFld27_0 rfl rfl), fun _ => .p (lp tyAgg25), fun _ => .p (lp tyAgg25), fun _ => .p (op_call0 (r3_Mul_spec e11) goes14 rfl rfl), fun _ => .p (op_call0 (r3_Add_spec e12) goes100 rfl rfl), fun _ => .p (lp tyAgg25), fun _ => .p (op_field_p tyFld27_1 rfl rfl), fun _ => .p (lp tyAgg25), fun _ => .p (op_call0 (r3_Mul_spec e13) goes14 rfl rfl), fun _ => .p (op_call0 (r4_Make_spec e14) goes17 rfl rfl), trivial⟩ ⟨_, by exact .p (op_store_p tyAgg27 rfl rfl rfl rfl (Nat.le_of_ble_eq_true rfl) rfl), rfl⟩ rfl (Tri.ret ?_)
  obtain rfl := Option.some.inj h
  refine Fin.keepS ⟨[(4, Pt 103 0)], [(103, .box 27 (eFrc x_11))]⟩ rfl (Fin.result' [.agg (eFrc x_11)] (.inl rfl) rfl (.cons (.agg tyAgg27 rfl rfl rfl rfl) .nil) ⟨rfl, rfl⟩)
def r4_Sub_S (F : Nat) (x0 : Frc) (y0 : Frc) : Option Frc :=
 (r4_Neg_S F y0).bind fun x_1 => (r4_Add_S F x0 x_1).bind fun x_2 => some x_2
theorem r4_Sub_spec {F : Nat} {x0 : Frc} {y0 : Frc} {r : Frc} (h : r4_Sub_S F x0 y0 = some r) : Meets Tryz.prog (tabs mx) 57 [] [.agg (eFrc x0), .agg (eFrc y0)] (Is [] (.b (.agg (eFrc r)))) := by
 unfold r4_Sub_S at h
 refine Meets.intro 9 Tryz.func57 Tryz.ntmps57 rfl (by simp) fun E => ?_
 show Tri _ E ⟨9, [], []⟩ _ ⟨[(0, .b (.agg (eFrc x0))), (1, .b (.agg (eFrc y0)))], []⟩ _
 refine Tri.seq (Tri.regionL ?_)
 refine Oc (op_box (k := 101) rfl rfl) (Oc (op_box (k := 102) rfl rfl) (Oc (op_alloc (k := 103) tyZero27 rfl) ?_))
 refine OpsL.nilS ⟨[(2, Pt 101 0), (3, Pt 102 0), (4, Pt 103 0)], [(101, .box 27 (eFrc x0)), (102, .box 27 (eFrc y0)), (103, .box 27 zFrc)]⟩ rfl (Tri.seq ?_)
 obtain ⟨x_1, e1, h⟩ := bnd h
 obtain ⟨x_2, e2, h⟩ := bnd h
 refine Tri.regionY mixed 4 [.b (.agg (eFrc x0)), .b (.agg (eFrc y0)), .b (.agg (eFrc x_1)), .b (.agg (eFrc x_2))] [4] [103] (s' := ⟨[(4, Pt 103 0)], [(103, .box 27 (eFrc x_2))]⟩) rfl ⟨fun _ => .p (lp tyAgg27), fun _ => .p (lp tyAgg27), fun _ => .p (op_call0 (r4_Neg_spec e1) goes60 rfl rfl), fun _ => .p (op_call0 (r4_Add_spec e2) goes56 rfl rfl), trivial⟩ ⟨_, by exact .p (op_store_p tyAgg27 rfl rfl rfl rfl (Nat.le_of_ble_eq_true rfl) rfl), rfl⟩ rfl (Tri.ret ?_)
 obtain rfl := Option.some.inj h
 refine Fin.keepS ⟨[(4, Pt 103 0)], [(103, .box 27 (eFrc x_2))]⟩ rfl (Fin.result' [.agg (eFrc x_2)] (.inl rfl) rfl (.cons (.agg tyAgg27 rfl rfl rfl rfl) .nil) ⟨rfl, rfl⟩)
def r4_Mul_S (F : Nat) (x0 : Frc) (y0 : Frc) : Option Frc :=
 (r4_Good_S F x0).bind fun x_1 => (gcall (!(!x_1)) (r4_Good_S F y0)).bind fun x_2 => if ((!x_1) || (!x_2)) = true then ((r4_Bad_S F).bind fun x_3 => some x_3) else ((r4_Make_S F x0.N y0.D).bind fun x_4 => (r4_Make_S F y0.N x0.D).bind fun x_5 => (r3_Mul_S F x_4.N x_5.N).bind fun x_6 => (r3_Mul_S F x_4.D x_5.D).bind fun x_7 => (r4_Make_S F x_6 x_7).bind fun x_8 => some x_8)
theorem r4_Mul_spec {F : Nat} {x0 : Frc} {y0 : Frc} {r : Frc} (h : r4_Mul_S F x0 y0 = some r) : Meets Tryz.prog (tabs mx) 58 [] [.agg (eFrc x0), .agg (eFrc y0)] (Is [] (.b (.agg (eFrc r)))) := by
 unfold r4_Mul_S at h
 refine Meets.intro 41 Tryz.func58 Tryz.ntmps58 rfl (by simp) fun E => ?_
 show Tri _ E ⟨41, [], []⟩ _ ⟨[(0, .b (.agg (eFrc x0))), (1, .b (.agg (eFrc y0)))], []⟩ _
 refine Tri.seq (Tri.regionL ?_)
 refine Oc (op_box (k := 101) rfl rfl) (Oc (op_box (k := 102) rfl rfl) (Oc (op_alloc (k := 103) tyZero27 rfl) ?_))
 refine OpsL.nilS ⟨[(2, Pt 101 0), (3, Pt 102 0), (4, Pt 103 0)], [(101, .box 27 (eFrc x0)), (102, .box 27 (eFrc y0)), (103, .box 27 zFrc)]⟩ rfl (Tri.seq (Tri.seq (Tri.regionL ?_)))
 refine Oc (lp tyAgg27) ?_
 obtain ⟨x_1, e1, h⟩ := bnd h
 refine Oc (op_call0 (r4_Good_spec e1) goes13 rfl rfl) (Oc (op_not rfl) (Oc om ?_))
 refine CgF (!(!x_1)) [] (fun g2 => trivial) (fun g2 => lp tyAgg27) (OpsL.keepS ⟨[(2, Pt 101 0), (3, Pt 102 0), (4, Pt 103 0), (12, B (!x_1)), (13, .opt (!(!x_1)) (.agg (eFrc y0)))], [(101, .box 27 (eFrc x0)), (102, .box 27 (eFrc y0)), (103, .box 27 zFrc)]⟩ rfl ?_)
 obtain ⟨x_2, e4, h⟩ := bnd h
 refine CgF (!(!x_1)) [13] (fun g3 => ⟨g3, trivial⟩) (fun g3 => op_call0 (r4_Good_spec (gc e4 g3)) goes13 rfl rfl) (CgF (!(!x_1)) [14] (fun g5 => ⟨g5, trivial⟩) (fun g5 => op_not rfl) (Oc (op_pick_or (fun e => by rw [e]; rfl) rfl rfl rfl rfl) (OpsL.nilS ⟨[(2, Pt 101 0), (3, Pt 102 0), (4, Pt 103 0), (16, B ((!x_1) || (!x_2)))], [(101, .box 27 (eFrc x0)), (102, .box 27 (eFrc y0)), (103, .box 27 zFrc)]⟩ rfl (Tri.ite h rfl (fun _ h => ?_) (fun _ h => ?_)))))
 ·refine Tri.seq (Tri.regionL ?_)
  obtain ⟨x_3, e6, h⟩ := bnd h
  refine Oc (op_call0 (r4_Bad_spec e6) goes28 rfl rfl) (Oc (op_store_p tyAgg27 rfl rfl rfl rfl (Nat.le_of_ble_eq_true rfl) rfl) ?_)
  refine OpsL.nilS ⟨[(4, Pt 103 0)], [(103, .box 27 (eFrc x_3))]⟩ rfl (Tri.ret (Fin.then_ret ?_))
  obtain rfl := Option.some.inj h
  refine Fin.keepS ⟨[(4, Pt 103 0)], [(103, .box 27 (eFrc x_3))]⟩ rfl (Fin.result' [.agg (eFrc x_3)] (.inl rfl) rfl (.cons (.agg tyAgg27 rfl rfl rfl rfl) .nil) ⟨rfl, rfl⟩)
 ·refine Tri.skip (Fin.keepS ⟨[(2, Pt 101 0), (3, Pt 102 0), (4, Pt 103 0)], [(101, .box 27 (eFrc x0)), (102, .box 27 (eFrc y0)), (103, .box 27 zFrc)]⟩ rfl (Fin.then (Tri.seq (Tri.regionL ?_))))
  refine Oc (op_field_p tyFld27_0 rfl rfl) (Oc (lp tyAgg25) (Oc (op_field_p tyFld27_1 rfl rfl) (Oc (lp tyAgg25) ?_)))
  obtain ⟨x_4, e7, h⟩ := bnd h
  refine Oc (op_call0 (r4_Make_spec e7) goes17 rfl rfl) (Oc (op_alloc (k := 104) tyZero27 rfl) (Oc (op_store_p tyAgg27 rfl rfl rfl rfl (Nat.le_of_ble_eq_true rfl) rfl) ?_))
  refine OpsL.nilS ⟨[(2, Pt 101 0), (3, Pt 102 0), (4, Pt 103 0), (5, Pt 104 0)], [(101, .box 27 (eFrc x0)), (102, .box 27 (eFrc y0)), (103, .box 27 zFrc), (104, .box 27 (eFrc x_4))]⟩ rfl (Tri.seq (Tri.regionL ?_))
  refine Oc (op_field_p tyFld27_0 rfl rfl) (Oc (lp tyAgg25) (Oc (op_field_p tyFld27_1 rfl rfl) (Oc (lp tyAgg25) ?_)))
  obtain ⟨x_5, e8, h⟩ := bnd h
  refine Oc (op_call0 (r4_Make_spec e8) goes17 rfl rfl) (Oc (op_alloc (k := 105) tyZero27 rfl) (Oc (op_store_p tyAgg27 rfl rfl rfl rfl (Nat.le_of_ble_eq_true rfl) rfl) ?_))
  refine OpsL.nilS ⟨[(4, Pt 103 0), (5, Pt 104 0), (6, Pt 105 0)], [(103, .box 27 zFrc), (104, .box 27 (eFrc x_4)), (105, .box 27 (eFrc x_5))]⟩ rfl (Tri.seq (Tri.regionL ?_))
  refine Oc (op_field_p tyFld27_0 rfl rfl) (Oc (lp tyAgg25) (Oc (op_field_p tyFld27_0 rfl rfl) (Oc (lp tyAgg25) ?_)))
  obtain ⟨x_6, e9, h⟩ := bnd h
  refine Oc (op_call0 (r3_Mul_spec e9) goes14 rfl rfl) (Oc (op_alloc (k := 106) tyZero25 rfl) (Oc (op_store_p tyAgg25 rfl rfl rfl rfl (Nat.le_of_ble_eq_true rfl) rfl) ?_))
  refine OpsL.nilS ⟨[(4, Pt 103 0), (5, Pt 104 0), (6, Pt 105 0), (7, Pt 106 0)], [(103, .box 27 zFrc), (104, .box 27 (eFrc x_4)), (105, .box 27 (eFrc x_5)), (106, .box 25 (eBig x_6))]⟩ rfl (Tri.seq (Tri.regionL ?_))
  refine Oc (op_field_p tyFld27_1 rfl rfl) (Oc (lp tyAgg25) (Oc (op_field_p tyFld27_1 rfl rfl) (Oc (lp tyAgg25) ?_)))
  obtain ⟨x_7, e10, h⟩ := bnd h
  refine Oc (op_call0 (r3_Mul_spec e10) goes14 rfl rfl) (Oc (op_alloc (k := 107) tyZero25 rfl) (Oc (op_store_p tyAgg25 rfl rfl rfl rfl (Nat.le_of_ble_eq_true rfl) rfl) ?_))
  refine OpsL.nilS ⟨[(4, Pt 103 0), (7, Pt 106 0), (8, Pt 107 0)], [(103, .box 27 zFrc), (106, .box 25 (eBig x_6)), (107, .box 25 (eBig x_7))]⟩ rfl (Tri.seq (Tri.regionL ?_))
  refine Oc (lp tyAgg25) (Oc (lp tyAgg25) ?_)
  obtain ⟨x_8, e11, h⟩ := bnd h
  refine Oc (op_call0 (r4_Make_spec e11) goes17 rfl rfl) (Oc (op_store_p tyAgg27 rfl rfl rfl rfl (Nat.le_of_ble_eq_true rfl) rfl) ?_)
  refine OpsL.nilS ⟨[(4, Pt 103 0)], [(103, .box 27 (eFrc x_8))]⟩ rfl (Tri.ret ?_)
  obtain rfl := Option.some.inj h
  refine Fin.keepS ⟨[(4, Pt 103 0)], [(103, .box 27 (eFrc x_8))]⟩ rfl (Fin.result' [.agg (eFrc x_8)] (.inl rfl) rfl (.cons (.agg tyAgg27 rfl rfl rfl rfl) .nil) ⟨rfl, rfl⟩)
def r4_Div_S (F : Nat) (x0 : Frc) (y0 : Frc) : Option Frc :=
 (r4_Good_S F y0).bind fun x_1 => if (!x_1) = true then ((r4_Bad_S F).bind fun x_2 => some x_2) else ((r4_Make_S F y0.D y0.N).bind fun x_3 => (r4_Mul_S F x0 x_3).bind fun x_4 => some x_4)
theorem r4_Div_spec {F : Nat} {x0 : Frc} {y0 : Frc} {r : Frc} (h : r4_Div_S F x0 y0 = some r) : Meets Tryz.prog (tabs mx) 59 [] [.agg (eFrc x0), .agg (eFrc y0)] (Is [] (.b (.agg (eFrc r)))) := by
 unfold r4_Div_S at h
 refine Meets.intro 16 Tryz.func59 Tryz.ntmps59 rfl (by simp) fun E => ?_
 show Tri _ E ⟨16, [], []⟩ _ ⟨[(0, .b (.agg (eFrc x0))), (1, .b (.agg (eFrc y0)))], []⟩ _
 refine Tri.seq (Tri.regionL ?_)
 refine Oc (op_box (k := 101) rfl rfl) (Oc (op_box (k := 102) rfl rfl) (Oc (op_alloc (k := 103) tyZero27 rfl) ?_))
 refine OpsL.nilS ⟨[(2, Pt 101 0), (3, Pt 102 0), (4, Pt 103 0)], [(101, .box 27 (eFrc x0)), (102, .box 27 (eFrc y0)), (103, .box 27 zFrc)]⟩ rfl (Tri.seq (Tri.seq (Tri.regionL ?_)))
 refine Oc (lp tyAgg27) ?_
 obtain ⟨x_1, e1, h⟩ := bnd h
 refine Oc (op_call0 (r4_Good_spec e1) goes13 rfl rfl) (Oc (op_not rfl) ?_)
 refine OpsL.nilS ⟨[(2, Pt 101 0), (3, Pt 102 0), (4, Pt 103 0), (7, B (!x_1))], [(101, .box 27 (eFrc x0)), (102, .box 27 (eFrc y0)), (103, .box 27 zFrc)]⟩ rfl (Tri.ite h rfl (fun _ h => ?_) (fun _ h => ?_))
 ·refine Tri.seq (Tri.regionL ?_)
  obtain ⟨x_2, e2, h⟩ := bnd h
  refine Oc (op_call0 (r4_Bad_spec e2) goes28 rfl rfl) (Oc (op_store_p tyAgg27 rfl rfl rfl rfl (Nat.le_of_ble_eq_true rfl) rfl) ?_)
  refine OpsL.nilS ⟨[(4, Pt 103 0)], [(103, .box 27 (eFrc x_2))]⟩ rfl (Tri.ret (Fin.then_ret ?_))
  obtain rfl := Option.some.inj h
  refine Fin.keepS ⟨[(4, Pt 103 0)], [(103, .box 27 (eFrc x_2))]⟩ rfl (Fin.result' [.agg (eFrc x_2)] (.inl rfl) rfl (.cons (.agg tyAgg27 rfl rfl rfl rfl) .nil) ⟨rfl, rfl⟩)
 ·refine Tri.skip (Fin.keepS ⟨[(2, Pt 101 0), (3, Pt 102 0), (4, Pt 103 0)], [(101, .box 27 (eFrc x0)), (102, .box 27 (eFrc y0)), (103, .box 27 zFrc)]⟩ rfl (Fin.then (Tri.seq ?_)))
  refine Tri.keepS ⟨[(2, Pt 101 0), (3, Pt 102 0), (4, Pt 103 0)], [(101, .box 27 (eFrc x0)), (102, .box 27 (eFrc y0)), (103, .box 27 zFrc)]⟩ rfl ?_
  obtain ⟨x_3, e3, h⟩ := bnd h
  obtain ⟨x_4, e4, h⟩ := bnd h
  refine Tri.regionY mixed 7 [.b (.agg (eFrc x0)), Pt 102 18, .b (.agg (eBig y0.D)), Pt 102 0, .b (.agg (eBig y0.N)), .b (.agg (eFrc x_3)), .b (.agg (eFrc x_4))] [4] [103] (s' := ⟨[(4, Pt 103 0)], [(103, .box 27 (eFrc x_4))]⟩) rfl ⟨fun _ => .p (lp tyAgg27), fun _ => .p (op_field_p tyFld27_1 rfl rfl), fun _ => .p (lp tyAgg25), fun _ => .p (op_field_p tyFld27_0 rfl rfl), fun _ => .p (lp tyAgg25), fun _ => .p (op_call0 (r4_Make_spec e3) goes17 rfl rfl), fun _ => .p (op_call0 (r4_Mul_spec e4) goes58 rfl rfl), trivial⟩ ⟨_, by exact .p (op_store_p tyAgg27 rfl rfl rfl rfl (Nat.le_of_ble_eq_true rfl) rfl), rfl⟩ rfl (Tri.ret ?_)
  obtain rfl := Option.some.inj h
  refine Fin.keepS ⟨[(4, Pt 103 0)], [(103, .box 27 (eFrc x_4))]⟩ rfl (Fin.result' [.agg (eFrc x_4)] (.inl rfl) rfl (.cons (.agg tyAgg27 rfl rfl rfl rfl) .nil) ⟨rfl, rfl⟩)
def r4_simple_R (F : Nat) : Nat → Frc → Frc → Option Frc
 | 0, _, _ => none
 | n + 1, lo0, hi0 => (r4_Ceil_S F lo0).bind fun x_1 => (r4_Whole_S F x_1).bind fun x_2 => (r4_Cmp_S F x_2 hi0).bind fun x_3 => if (decide (x_3 ≤ 0)) = true then ((r4_Whole_S F x_1).bind fun x_4 => some x_4) else ((r4_Floor_S F lo0).bind fun x_5 => (r4_Whole_S F x_5).bind fun x_6 => (r4_Of_S F 1).bind fun x_7 => (r4_Sub_S F hi0 x_6).bind fun x_8 => (r4_Div_S F x_7 x_8).bind fun x_9 => (r4_Of_S F 1).bind fun x_10 => (r4_Sub_S F lo0 x_6).bind fun x_11 => (r4_Div_S F x_10 x_11).bind fun x_12 => (r4_simple_R F n x_9 x_12).bind fun x_13 => (r4_Of_S F 1).bind fun x_14 => (r4_Div_S F x_14 x_13).bind fun x_15 => (r4_Add_S F x_6 x_15).bind fun x_16 => some x_16)
def r4_simple_S (F : Nat) (lo0 : Frc) (hi0 : Frc) : Option Frc := r4_simple_R F F lo0 hi0
theorem r4_simple_specR {F : Nat} : ∀ (n : Nat) {lo0 : Frc} {hi0 : Frc} {r : Frc} (h : r4_simple_R F n lo0 hi0 = some r), Meets Tryz.prog (tabs mx) 104 [] [.agg (eFrc lo0), .agg (eFrc hi0)] (Is [] (.b (.agg (eFrc r)))) := by
 intro n
 induction n with
 | zero => intro lo0 hi0 r h; simp [r4_simple_R] at h
 | succ n ih =>
 intro lo0 hi0 r h
 unfold r4_simple_R at h
 refine Meets.intro 36 Tryz.func104 Tryz.ntmps104 rfl (by simp) fun E => ?_
 show Tri _ E ⟨36, [], []⟩ _ ⟨[(0, .b (.agg (eFrc lo0))), (1, .b (.agg (eFrc hi0)))], []⟩ _
 refine Tri.seq (Tri.regionL ?_)
 refine Oc (op_box (k := 101) rfl rfl) (Oc (op_box (k := 102) rfl rfl) (Oc (op_alloc (k := 103) tyZero27 rfl) ?_))
 refine OpsL.nilS ⟨[(2, Pt 101 0), (3, Pt 102 0), (4, Pt 103 0)], [(101, .box 27 (eFrc lo0)), (102, .box 27 (eFrc hi0)), (103, .box 27 zFrc)]⟩ rfl (Tri.seq (Tri.regionL ?_))
 refine Oc (lp tyAgg27) ?_
 obtain ⟨x_1, e1, h⟩ := bnd h
 refine Oc (op_call0 (r4_Ceil_spec e1) goes34 rfl rfl) (Oc (op_alloc (k := 104) tyZero25 rfl) (Oc (op_store_p tyAgg25 rfl rfl rfl rfl (Nat.le_of_ble_eq_true rfl) rfl) ?_))
 refine OpsL.nilS ⟨[(2, Pt 101 0), (3, Pt 102 0), (4, Pt 103 0), (5, Pt 104 0)], [(101, .box 27 (eFrc lo0)), (102, .box 27 (eFrc hi0)), (103, .box 27 zFrc), (104, .box 25 (eBig x_1))]⟩ rfl (Tri.seq (Tri.seq ?_))
 refine Tri.keepS ⟨[(2, Pt 101 0), (3, Pt 102 0), (4, Pt 103 0), (5, Pt 104 0)], [(101, .box 27 (eFrc lo0)), (102, .box 27 (eFrc hi0)), (103, .box 27 zFrc), (104, .box 25 (eBig x_1))]⟩ rfl ?_
 obtain ⟨x_2, e2, h⟩ := bnd h
 obtain ⟨x_3, e3, h⟩ := bnd h
 refine Tri.regionY mixed 5 [.b (.agg (eBig x_1)), .b (.agg (eFrc x_2)), .b (.agg (eFrc hi0)), I x_3, B (decide (x_3 ≤ 0))] [2, 3, 4, 5, 14] [101, 102, 103, 104] (s' := ⟨[(2, Pt 101 0), (3, Pt 102 0), (4, Pt 103 0), (5, Pt 104 0), (14, B (decide (x_3 ≤ 0)))], [(101, .box 27 (eFrc lo0)), (102, .box 27 (eFrc hi0)), (103, .box 27 zFrc), (104, .box 25 (eBig x_1))]⟩) rfl ⟨fun _ => .p (lp tyAgg25), fun _ => .p (op_call0 (r4_Whole_spec e2) goes19 rfl rfl), fun _ => .p (lp tyAgg27), fun _ => .p (op_call0 (r4_Cmp_spec e3) goes40 rfl rfl), fun _ => .p (op_leq rfl rfl), trivial⟩ rfl rfl (Tri.ite h rfl (fun _ h => ?_) (fun _ h => ?_))
 ·refine Tri.seq (Tri.regionL ?_)
  refine Oc (lp tyAgg25) ?_
  obtain ⟨x_4, e4, h⟩ := bnd h
  refine Oc (op_call0 (r4_Whole_spec e4) goes19 rfl rfl) (Oc (op_store_p tyAgg27 rfl rfl rfl rfl (Nat.le_of_ble_eq_true rfl) rfl) ?_)
  refine OpsL.nilS ⟨[(4, Pt 103 0)], [(103, .box 27 (eFrc x_4))]⟩ rfl (Tri.ret (Fin.then_ret ?_))
  obtain rfl := Option.some.inj h
  refine Fin.keepS ⟨[(4, Pt 103 0)], [(103, .box 27 (eFrc x_4))]⟩ rfl (Fin.result' [.agg (eFrc x_4)] (.inl rfl) rfl (.cons (.agg tyAgg27 rfl rfl rfl rfl) .nil) ⟨rfl, rfl⟩)
 ·refine Tri.skip (Fin.keepS ⟨[(2, Pt 101 0), (3, Pt 102 0), (4, Pt 103 0)], [(101, .box 27 (eFrc lo0)), (102, .box 27 (eFrc hi0)), (103, .box 27 zFrc)]⟩ rfl (Fin.then (Tri.seq (Tri.regionL ?_))))
  refine Oc (lp tyAgg27) ?_
  obtain ⟨x_5, e5, h⟩ := bnd h
  refine Oc (op_call0 (r4_Floor_spec e5) goes32 rfl rfl) ?_
  obtain ⟨x_6, e6, h⟩ := bnd h
  refine Oc (op_call0 (r4_Whole_spec e6) goes19 rfl rfl) (Oc (op_alloc (k := 105) tyZero27 rfl) (Oc (op_store_p tyAgg27 rfl rfl rfl rfl (Nat.le_of_ble_eq_true rfl) rfl) ?_))
  refine OpsL.nilS ⟨[(2, Pt 101 0), (3, Pt 102 0), (4, Pt 103 0), (6, Pt 105 0)], [(101, .box 27 (eFrc lo0)), (102, .box 27 (eFrc hi0)), (103, .box 27 zFrc), (105, .box 27 (eFrc x_6))]⟩ rfl (Tri.seq ?_)
  obtain ⟨x_7, e7, h⟩ := bnd h
  obtain ⟨x_8, e8, h⟩ := bnd h
  obtain ⟨x_9, e9, h⟩ := bnd h
  obtain ⟨x_10, e10, h⟩ := bnd h
  obtain ⟨x_11, e11, h⟩ := bnd h
  obtain ⟨x_12, e12, h⟩ := bnd h
  obtain ⟨x_13, e13, h⟩ := bnd h
  refine Tri.regionW mixed [false, false, false, false, false, false, false, false, false, false, false, true, true] [.b (.agg (eFrc x_7)), .b (.agg (eFrc hi0)), .b (.agg (eFrc x_6)), .b (.agg (eFrc x_8)), .b (.agg (eFrc x_9)), .b (.agg (eFrc x_10)), .b (.agg (eFrc lo0)), .b (.agg (eFrc x_6)), .b (.agg (eFrc x_11)), .b (.agg (eFrc x_12)), .b (.agg (eFrc x_13)), Pt 106 0, B true] [⟨[false, false, false, false, false, false, false, false, false, false, false, false, false], [(2, Pt 101 0), (3, Pt 102 0), (4, Pt 103 0), (6, Pt 105 0)], [(101, .box 27 (eFrc lo0)), (102, .box 27 (eFrc hi0)), (103, .box 27 zFrc), (105, .box 27 (eFrc x_6))], [true, true, true, true, true, true, true, true, true, true, true, true, true], []⟩, ⟨[false, false, false, false, false, false, false, false, false, false, false, true, false], [(2, Pt 101 0), (3, Pt 102 0), (4, Pt 103 0), (6, Pt 105 0)], [(101, .box 27 (eFrc lo0)), (102, .box 27 (eFrc hi0)), (103, .box 27 zFrc), (105, .box 27 (eFrc x_6)), (106, .box 27 zFrc)], [true, true, true, true, true, true, true, true, true, true, true, true, true], [11]⟩, ⟨[false, false, false, false, false, false, false, false, false, false, false, true, true], [(2, Pt 101 0), (3, Pt 102 0), (4, Pt 103 0), (6, Pt 105 0)], [(101, .box 27 (eFrc lo0)), (102, .box 27 (eFrc hi0)), (103, .box 27 zFrc), (105, .box 27 (eFrc x_6)), (106, .box 27 (eFrc x_13))], [true, true, true, true, true, true, true, true, true, true, true, true, true], [0, 1, 2, 3, 4, 5, 6, 7, 8, 9, 10, 11, 12]⟩] rfl (⟨by kernel_rfl, ⟨⟨.b (.agg (eFrc x_7)), fun _ => rfl, fun _ => .p (by exact op_call0 (r4_Of_spec e7) goes21 rfl rfl)⟩, ⟨.b (.agg (eFrc hi0)), fun _ => rfl, fun _ => .p (by exact op_load_p tyAgg27 rfl rfl rfl rfl)⟩, ⟨.b (.agg (eFrc x_6)), fun _ => rfl, fun _ => .p (by exact op_load_p tyAgg27 rfl rfl rfl rfl)⟩, ⟨.b (.agg (eFrc x_8)), fun _ => rfl, fun _ => .p (by exact op_call0 (r4_Sub_spec e8) goes57 rfl rfl)⟩, ⟨.b (.agg (eFrc x_9)), fun _ => rfl, fun _ => .p (by exact op_call0 (r4_Div_spec e9) goes59 rfl rfl)⟩, ⟨.b (.agg (eFrc x_10)), fun _ => rfl, fun _ => .p (by exact op_call0 (r4_Of_spec e10) goes21 rfl rfl)⟩, ⟨.b (.agg (eFrc lo0)), fun _ => rfl, fun _ => .p (by exact op_load_p tyAgg27 rfl rfl rfl rfl)⟩, ⟨.b (.agg (eFrc x_6)), fun _ => rfl, fun _ => .p (by exact op_load_p tyAgg27 rfl rfl rfl rfl)⟩, ⟨.b (.agg (eFrc x_11)), fun _ => rfl, fun _ => .p (by exact op_call0 (r4_Sub_spec e11) goes57 rfl rfl)⟩, ⟨.b (.agg (eFrc x_12)), fun _ => rfl, fun _ => .p (by exact op_call0 (r4_Div_spec e12) goes59 rfl rfl)⟩, ⟨.b (.agg (eFrc x_13)), fun _ => rfl, fun _ => .p (by exact op_call0 (ih e13) goes104 rfl rfl)⟩, ⟨_, some 106, Pt 106 0, rfl, fun _ => rfl, rfl, rfl, fun _ => .toO [101, 102, 103, 105, 106] (by exact .p (by exact op_alloc (k := 106) tyZero27 rfl)) (by exact rfl)⟩, trivial, trivial⟩, ⟨by kernel_rfl, ⟨⟨.b (.agg (eFrc x_7)), fun _ => rfl, fun _ => .p (by exact op_call0 (r4_Of_spec e7) goes21 rfl rfl)⟩, ⟨.b (.agg (eFrc hi0)), fun _ => rfl, fun _ => .p (by exact op_load_p tyAgg27 rfl rfl rfl rfl)⟩, ⟨.b (.agg (eFrc x_6)), fun _ => rfl, fun _ => .p (by exact op_load_p tyAgg27 rfl rfl rfl rfl)⟩, ⟨.b (.agg (eFrc x_8)), fun _ => rfl, fun _ => .p (by exact op_call0 (r4_Sub_spec e8) goes57 rfl rfl)⟩, ⟨.b (.agg (eFrc x_9)), fun _ => rfl, fun _ => .p (by exact op_call0 (r4_Div_spec e9) goes59 rfl rfl)⟩, ⟨.b (.agg (eFrc x_10)), fun _ => rfl, fun _ => .p (by exact op_call0 (r4_Of_spec e10) goes21 rfl rfl)⟩, ⟨.b (.agg (eFrc lo0)), fun _ => rfl, fun _ => .p (by exact op_load_p tyAgg27 rfl rfl rfl rfl)⟩, ⟨.b (.agg (eFrc x_6)), fun _ => rfl, fun _ => .p (by exact op_load_p tyAgg27 rfl rfl rfl rfl)⟩, ⟨.b (.agg (eFrc x_11)), fun _ => rfl, fun _ => .p (by exact op_call0 (r4_Sub_spec e11) goes57 rfl rfl)⟩, ⟨.b (.agg (eFrc x_12)), fun _ => rfl, fun _ => .p (by exact op_call0 (r4_Div_spec e12) goes59 rfl rfl)⟩, ⟨.b (.agg (eFrc x_13)), fun _ => rfl, fun _ => .p (by exact op_call0 (ih e13) goes104 rfl rfl)⟩, trivial, ⟨_, none, .b (.one .any), rfl, (fun e => by simp at e), rfl, rfl, fun _ => .toO [101, 102, 103, 105, 106] (by exact .p (by exact op_store_p tyAgg27 rfl rfl rfl rfl (Nat.le_of_ble_eq_true rfl) rfl)) (by exact rfl)⟩, trivial⟩, ⟨by kernel_rfl, ⟨trivial, trivial, trivial, trivial, trivial, trivial, trivial, trivial, trivial, trivial, trivial, trivial, trivial, trivial⟩, trivial⟩⟩⟩) rfl rfl rfl [4, 6, 7] [103, 105, 106] (s' := ⟨[(4, Pt 103 0), (6, Pt 105 0), (7, Pt 106 0)], [(103, .box 27 zFrc), (105, .box 27 (eFrc x_6)), (106, .box 27 (eFrc x_13))]⟩) rfl ?_
  refine Tri.seq (Tri.keepS ⟨[(4, Pt 103 0), (6, Pt 105 0), (7, Pt 106 0)], [(103, .box 27 zFrc), (105, .box 27 (eFrc x_6)), (106, .box 27 (eFrc x_13))]⟩ rfl ?_)
  obtain ⟨x_14, e14, h⟩ := bnd h
  obtain ⟨x_15, e15, h⟩ := bnd h
  obtain ⟨x_16, e16, h⟩ := bnd h
  refine Tri.regionY mixed 5 [.b (.agg (eFrc x_6)), .b (.agg (eFrc x_14)), .b (.agg (eFrc x_13)), .b (.agg (eFrc x_15)), .b (.agg (eFrc x_16))] [4] [103] (s' := ⟨[(4, Pt 103 0)], [(103, .box 27 (eFrc x_16))]⟩) rfl ⟨fun _ => .p (lp tyAgg27), fun _ => .p (op_call0 (r4_Of_spec e14) goes21 rfl rfl), fun _ => .p (lp tyAgg27), fun _ => .p (op_call0 (r4_Div_spec e15) goes59 rfl rfl), fun _ => .p (op_call0 (r4_Add_spec e16) goes56 rfl rfl), trivial⟩ ⟨_, by exact .p (op_store_p tyAgg27 rfl rfl rfl rfl (Nat.le_of_ble_eq_true rfl) rfl), rfl⟩ rfl (Tri.ret ?_)
  obtain rfl := Option.some.inj h
  refine Fin.keepS ⟨[(4, Pt 103 0)], [(103, .box 27 (eFrc x_16))]⟩ rfl (Fin.result' [.agg (eFrc x_16)] (.inl rfl) rfl (.cons (.agg tyAgg27 rfl rfl rfl rfl) .nil) ⟨rfl, rfl⟩)
theorem r4_simple_spec {F : Nat} {lo0 : Frc} {hi0 : Frc} {r : Frc} (h : r4_simple_S F lo0 hi0 = some r) : Meets Tryz.prog (tabs mx) 104 [] [.agg (eFrc lo0), .agg (eFrc hi0)] (Is [] (.b (.agg (eFrc r)))) := r4_simple_specR F h
def r4_Simplest_S (F : Nat) (lo0 : Frc) (hi0 : Frc) : Option Frc :=
 (r4_Good_S F lo0).bind fun x_1 => (gcall (!(!x_1)) (r4_Good_S F hi0)).bind fun x_2 => (gcall (!((!x_1) || (!x_2))) (r4_Cmp_S F lo0 hi0)).bind fun x_3 => if (((!x_1) || (!x_2)) || (decide (0 < x_3))) = true then ((r4_Bad_S F).bind fun x_4 => some x_4) else ((r4_Sign_S F lo0).bind fun x_5 => (gcall (decide (x_5 ≤ 0)) (r4_Sign_S F hi0)).bind fun x_6 => if ((decide (x_5 ≤ 0)) && (decide (0 ≤ x_6))) = true then ((r4_Of_S F 0).bind fun x_7 => some x_7) else ((r4_Sign_S F hi0).bind fun x_8 => if (decide (x_8 < 0)) = true then ((r4_Neg_S F hi0).bind fun x_9 => (r4_Neg_S F lo0).bind fun x_10 => (r4_simple_S F x_9 x_10).bind fun x_11 => (r4_Neg_S F x_11).bind fun x_12 => some x_12) else ((r4_simple_S F lo0 hi0).bind fun x_13 => some x_13)))
theorem r4_Simplest_spec {F : Nat} {lo0 : Frc} {hi0 : Frc} {r : Frc} (h : r4_Simplest_S F lo0 hi0 = some r) : Meets Tryz.prog (tabs mx) 49 [] [.agg (eFrc lo0), .agg (eFrc hi0)] (Is [] (.b (.agg (eFrc r)))) := by
 unfold r4_Simplest_S at h
 refine Meets.intro 41 Tryz.func49 Tryz.ntmps49 rfl (by simp) fun E => ?_
 show Tri _ E ⟨41, [], []⟩ _ ⟨[(0, .b (.agg (eFrc lo0))), (1, .b (.agg (eFrc hi0)))], []⟩ _
 refine Tri.seq (Tri.regionL ?_)
 refine Oc (op_box (k := 101) rfl rfl) (Oc (op_box (k := 102) rfl rfl) (Oc (op_alloc (k := 103) tyZero27 rfl) ?_))
 refine OpsL.nilS ⟨[(2, Pt 101 0), (3, Pt 102 0), (4, Pt 103 0)], [(101, .box 27 (eFrc lo0)), (102, .box 27 (eFrc hi0)), (103, .box 27 zFrc)]⟩ rfl (Tri.seq (Tri.seq (Tri.regionL ?_)))
 refine Oc (lp tyAgg27) ?_
 obtain ⟨x_1, e1, h⟩ := bnd h
 refine Oc (op_call0 (r4_Good_spec e1) goes13 rfl rfl) (Oc (op_not rfl) (Oc om ?_))
 refine CgF (!(!x_1)) [] (fun g2 => trivial) (fun g2 => lp tyAgg27) (OpsL.keepS ⟨[(2, Pt 101 0), (3, Pt 102 0), (4, Pt 103 0), (8, B (!x_1)), (9, .opt (!(!x_1)) (.agg (eFrc hi0)))], [(101, .box 27 (eFrc lo0)), (102, .box 27 (eFrc hi0)), (103, .box 27 zFrc)]⟩ rfl ?_)
 obtain ⟨x_2, e4, h⟩ := bnd h
 refine CgF (!(!x_1)) [9] (fun g3 => ⟨g3, trivial⟩) (fun g3 => op_call0 (r4_Good_spec (gc e4 g3)) goes13 rfl rfl) (CgF (!(!x_1)) [10] (fun g5 => ⟨g5, trivial⟩) (fun g5 => op_not rfl) (Oc (op_pick_or (fun e => by rw [e]; rfl) rfl rfl rfl rfl) (Oc om ?_)))
 refine CgF (!((!x_1) || (!x_2))) [] (fun g6 => trivial) (fun g6 => lp tyAgg27) (CgF (!((!x_1) || (!x_2))) [] (fun g7 => by exact trivial) (fun g7 => lp tyAgg27) (OpsL.keepS ⟨[(2, Pt 101 0), (3, Pt 102 0), (4, Pt 103 0), (13, B ((!x_1) || (!x_2))), (14, .opt (!((!x_1) || (!x_2))) (.agg (eFrc lo0))), (15, .opt (!((!x_1) || (!x_2))) (.agg (eFrc hi0)))], [(101, .box 27 (eFrc lo0)), (102, .box 27 (eFrc hi0)), (103, .box 27 zFrc)]⟩ rfl ?_))
 obtain ⟨x_3, e9, h⟩ := bnd h
 refine CgF (!((!x_1) || (!x_2))) [14, 15] (fun g8 => ⟨g8, g8, trivial⟩) (fun g8 => op_call0 (r4_Cmp_spec (gc e9 g8)) goes40 rfl rfl) (CgF (!((!x_1) || (!x_2))) [16] (fun g10 => ⟨g10, trivial⟩) (fun g10 => op_gtr rfl rfl) (Oc (op_pick_or (fun e => by rw [e]; rfl) rfl rfl rfl rfl) (OpsL.nilS ⟨[(2, Pt 101 0), (3, Pt 102 0), (4, Pt 103 0), (18, B (((!x_1) || (!x_2)) || (decide (0 < x_3))))], [(101, .box 27 (eFrc lo0)), (102, .box 27 (eFrc hi0)), (103, .box 27 zFrc)]⟩ rfl (Tri.ite h rfl (fun _ h => ?_) (fun _ h => ?_)))))
 ·refine Tri.seq (Tri.regionL ?_)
  obtain ⟨x_4, e11, h⟩ := bnd h
  refine Oc (op_call0 (r4_Bad_spec e11) goes28 rfl rfl) (Oc (op_store_p tyAgg27 rfl rfl rfl rfl (Nat.le_of_ble_eq_true rfl) rfl) ?_)
  refine OpsL.nilS ⟨[(4, Pt 103 0)], [(103, .box 27 (eFrc x_4))]⟩ rfl (Tri.ret (Fin.then_ret ?_))
  obtain rfl := Option.some.inj h
  refine Fin.keepS ⟨[(4, Pt 103 0)], [(103, .box 27 (eFrc x_4))]⟩ rfl (Fin.result' [.agg (eFrc x_4)] (.inl rfl) rfl (.cons (.agg tyAgg27 rfl rfl rfl rfl) .nil) ⟨rfl, rfl⟩)
 ·refine Tri.skip (Fin.keepS ⟨[(2, Pt 101 0), (3, Pt 102 0), (4, Pt 103 0)], [(101, .box 27 (eFrc lo0)), (102, .box 27 (eFrc hi0)), (103, .box 27 zFrc)]⟩ rfl (Fin.then (Tri.seq (Tri.seq (Tri.regionL ?_)))))
  refine Oc (lp tyAgg27) ?_
  obtain ⟨x_5, e12, h⟩ := bnd h
  refine Oc (op_call0 (r4_Sign_spec e12) goes38 rfl rfl) (Oc (op_leq rfl rfl) (Oc om ?_))
  refine CgT (decide (x_5 ≤ 0)) [] (fun g13 => trivial) (fun g13 => lp tyAgg27) (OpsL.keepS ⟨[(2, Pt 101 0), (3, Pt 102 0), (4, Pt 103 0), (23, B (decide (x_5 ≤ 0))), (24, .opt (decide (x_5 ≤ 0)) (.agg (eFrc hi0)))], [(101, .box 27 (eFrc lo0)), (102, .box 27 (eFrc hi0)), (103, .box 27 zFrc)]⟩ rfl ?_)
  obtain ⟨x_6, e15, h⟩ := bnd h
  refine CgT (decide (x_5 ≤ 0)) [24] (fun g14 => ⟨g14, trivial⟩) (fun g14 => op_call0 (r4_Sign_spec (gc e15 g14)) goes38 rfl rfl) (CgT (decide (x_5 ≤ 0)) [25] (fun g16 => ⟨g16, trivial⟩) (fun g16 => op_geq rfl rfl) (Oc (op_pick_and (fun e => e) rfl rfl rfl rfl) (OpsL.nilS ⟨[(2, Pt 101 0), (3, Pt 102 0), (4, Pt 103 0), (27, B ((decide (x_5 ≤ 0)) && (decide (0 ≤ x_6))))], [(101, .box 27 (eFrc lo0)), (102, .box 27 (eFrc hi0)), (103, .box 27 zFrc)]⟩ rfl (Tri.ite h rfl (fun _ h => ?_) (fun _ h => ?_)))))
  ·refine Tri.seq (Tri.regionL ?_)
   obtain ⟨x_7, e17, h⟩ := bnd h
   refine Oc (op_call0 (r4_Of_spec e17) goes21 rfl rfl) (Oc (op_store_p tyAgg27 rfl rfl rfl rfl (Nat.le_of_ble_eq_true rfl) rfl) ?_)
   refine OpsL.nilS ⟨[(4, Pt 103 0)], [(103, .box 27 (eFrc x_7))]⟩ rfl (Tri.ret (Fin.then_ret ?_))
   obtain rfl := Option.some.inj h
   refine Fin.keepS ⟨[(4, Pt 103 0)], [(103, .box 27 (eFrc x_7))]⟩ rfl (Fin.result' [.agg (eFrc x_7)] (.inl rfl) rfl (.cons (.agg tyAgg27 rfl rfl rfl rfl) .nil) ⟨rfl, rfl⟩)
  ·refine Tri.skip (Fin.keepS ⟨[(2, Pt 101 0), (3, Pt 102 0), (4, Pt 103 0)], [(101, .box 27 (eFrc lo0)), (102, .box 27 (eFrc hi0)), (103, .box 27 zFrc)]⟩ rfl (Fin.then (Tri.seq (Tri.seq (Tri.regionL ?_)))))
   refine Oc (lp tyAgg27) ?_
   obtain ⟨x_8, e18, h⟩ := bnd h
   refine Oc (op_call0 (r4_Sign_spec e18) goes38 rfl rfl) (Oc (op_lss rfl rfl) ?_)
   refine OpsL.nilS ⟨[(2, Pt 101 0), (3, Pt 102 0), (4, Pt 103 0), (31, B (decide (x_8 < 0)))], [(101, .box 27 (eFrc lo0)), (102, .box 27 (eFrc hi0)), (103, .box 27 zFrc)]⟩ rfl (Tri.ite h rfl (fun _ h => ?_) (fun _ h => ?_))
   ·refine Tri.seq (Tri.keepS ⟨[(2, Pt 101 0), (3, Pt 102 0), (4, Pt 103 0)], [(101, .box 27 (eFrc lo0)), (102, .box 27 (eFrc hi0)), (103, .box 27 zFrc)]⟩ rfl ?_)
    obtain ⟨x_9, e19, h⟩ := bnd h
    obtain ⟨x_10, e20, h⟩ := bnd h
    obtain ⟨x_11, e21, h⟩ := bnd h
    obtain ⟨x_12, e22, h⟩ := bnd h
    refine Tri.regionY mixed 6 [.b (.agg (eFrc hi0)), .b (.agg (eFrc x_9)), .b (.agg (eFrc lo0)), .b (.agg (eFrc x_10)), .b (.agg (eFrc x_11)), .b (.agg (eFrc x_12))] [4] [103] (s' := ⟨[(4, Pt 103 0)], [(103, .box 27 (eFrc x_12))]⟩) rfl ⟨fun _ => .p (lp tyAgg27), fun _ => .p (op_call0 (r4_Neg_spec e19) goes60 rfl rfl), fun _ => .p (lp tyAgg27), fun _ => .p (op_call0 (r4_Neg_spec e20) goes60 rfl rfl), fun _ => .p (op_call0 (r4_simple_spec e21) goes104 rfl rfl), fun _ => .p (op_call0 (r4_Neg_spec e22) goes60 rfl rfl), trivial⟩ ⟨_, by exact .p (op_store_p tyAgg27 rfl rfl rfl rfl (Nat.le_of_ble_eq_true rfl) rfl), rfl⟩ rfl (Tri.ret (Fin.then_ret ?_))
    obtain rfl := Option.some.inj h
    refine Fin.keepS ⟨[(4, Pt 103 0)], [(103, .box 27 (eFrc x_12))]⟩ rfl (Fin.result' [.agg (eFrc x_12)] (.inl rfl) rfl (.cons (.agg tyAgg27 rfl rfl rfl rfl) .nil) ⟨rfl, rfl⟩)
   ·refine Tri.skip (Fin.keepS ⟨[(2, Pt 101 0), (3, Pt 102 0), (4, Pt 103 0)], [(101, .box 27 (eFrc lo0)), (102, .box 27 (eFrc hi0)), (103, .box 27 zFrc)]⟩ rfl (Fin.then (Tri.seq (Tri.regionL ?_))))
    refine Oc (lp tyAgg27) (Oc (lp tyAgg27) ?_)
    obtain ⟨x_13, e23, h⟩ := bnd h
    refine Oc (op_call0 (r4_simple_spec e23) goes104 rfl rfl) (Oc (op_store_p tyAgg27 rfl rfl rfl rfl (Nat.le_of_ble_eq_true rfl) rfl) ?_)
    refine OpsL.nilS ⟨[(4, Pt 103 0)], [(103, .box 27 (eFrc x_13))]⟩ rfl (Tri.ret ?_)
    obtain rfl := Option.some.inj h
    refine Fin.keepS ⟨[(4, Pt 103 0)], [(103, .box 27 (eFrc x_13))]⟩ rfl (Fin.result' [.agg (eFrc x_13)] (.inl rfl) rfl (.cons (.agg tyAgg27 rfl rfl rfl rfl) .nil) ⟨rfl, rfl⟩)
def q_Frac_S (F : Nat) (a0 : Int) (b0 : Int) : Option Frc :=
 (w_Of_S F a0).bind fun x_1 => (w_Of_S F b0).bind fun x_2 => (q_Make_S F x_1 x_2).bind fun x_3 => some x_3
theorem q_Frac_spec {F : Nat} {a0 : Int} {b0 : Int} {r : Frc} (h : q_Frac_S F a0 b0 = some r) : Meets Tryz.prog (tabs mx) 22 [] [.one (.i a0), .one (.i b0)] (Is [] (.b (.agg (eFrc r)))) := by
 unfold q_Frac_S at h
 refine Meets.intro 10 Tryz.func22 Tryz.ntmps22 rfl (by simp) fun E => ?_
 show Tri _ E ⟨10, [], []⟩ _ ⟨[(0, I a0), (1, I b0)], []⟩ _
 refine Tri.seq (Tri.regionL ?_)
 refine Oc (op_alloc (k := 101) tyZero27 rfl) (OpsL.nilS ⟨[(0, I a0), (1, I b0), (4, Pt 101 0)], [(101, .box 27 zFrc)]⟩ rfl (Tri.seq (Tri.regionL ?_)))
 refine Oc om ?_
 obtain ⟨x_1, e1, h⟩ := bnd h
 refine Oc (op_call0 (w_Of_spec e1) goes91 rfl rfl) (Oc om ?_)
 refine OpsL.keepS ⟨[(4, Pt 101 0), (6, .b (.agg (eBig x_1))), (7, I b0)], [(101, .box 27 zFrc)]⟩ rfl ?_
 obtain ⟨x_2, e2, h⟩ := bnd h
 refine Oc (op_call0 (w_Of_spec e2) goes91 rfl rfl) ?_
 obtain ⟨x_3, e3, h⟩ := bnd h
 refine Oc (op_call0 (q_Make_spec e3) goes11 rfl rfl) (Oc (op_store_p tyAgg27 rfl rfl rfl rfl (Nat.le_of_ble_eq_true rfl) rfl) ?_)
 refine OpsL.nilS ⟨[(4, Pt 101 0)], [(101, .box 27 (eFrc x_3))]⟩ rfl (Tri.ret ?_)
 obtain rfl := Option.some.inj h
 refine Fin.keepS ⟨[(4, Pt 101 0)], [(101, .box 27 (eFrc x_3))]⟩ rfl (Fin.result' [.agg (eFrc x_3)] (.inl rfl) rfl (.cons (.agg tyAgg27 rfl rfl rfl rfl) .nil) ⟨rfl, rfl⟩)
def slices_Reverse_S (F : Nat) (s0 : List Str) : Option (List Str) :=
 letN (IntKind.i64.wrap ((s0.length : Int) - 1)) fun x_1 => Option.bind (iter F (un3 fun s_2 i_3 j_4 => if (decide (i_3 < j_4)) = true then ((idx? s_2 j_4).bind fun x_6 => (idx? s_2 i_3).bind fun x_7 => (idx? s_2 i_3).bind fun x_8 => (idx? (s_2.set (i_3 : Int).toNat x_6) j_4).bind fun x_9 => some (.inl ((s_2.set (i_3 : Int).toNat x_6).set (j_4 : Int).toNat x_7, IntKind.i64.wrap (i_3 + 1), IntKind.i64.wrap (j_4 - 1)))) else (some (.inr s_2))) (s0, 0, x_1)) (fun y_5 => some y_5)
theorem slices_Reverse_spec {F : Nat} {s0 : List Str} {r : (List Str)} (h : slices_Reverse_S F s0 = some r) : Meets Tryz.prog (tabs mx) 137 [(1, .frow 9 1 (s0.map eS))] [.row 1] (Is [(1, .frow 9 1 (r.map eS))] (.tup [])) := by
 unfold slices_Reverse_S at h
 refine Meets.intro 28 Tryz.func137 Tryz.ntmps137 rfl (by simp) fun E => ?_
 show Tri _ E ⟨28, [1], [1]⟩ _ ⟨[(0, .b (.row 1))], [(1, .frow 9 1 (s0.map eS))]⟩ _
 refine Tri.unF 1 rfl (Tri.seq (Tri.regionL ?_))
 refine Oc om (Oc (op_len_r' und111 rfl rfl (List.length_map _)) ?_)
 refine OpsL.consI .i64 h rfl (op_sub rfl rfl) (fun x_1 h => ?_)
 refine Oc oa (Oc oa ?_)
 refine OpsL.nilS ⟨[(0, .b (.row 1)), (2, I 0), (3, I x_1)], [(1, .row 9 1 (s0.map eS))]⟩ rfl (Tri.block ?_)
 obtain ⟨v1, h2, h⟩ := bnd h
 refine Tri.loopJ h2 (un3 fun (s_2 : List Str) (i_3 : Int) (j_4 : Int) => ⟨[(0, .b (.row 1)), (2, I i_3), (3, I j_4)], [(1, .row 9 1 (s_2.map eS))]⟩) [0, 2, 3] [1] rfl ?_
 rintro ⟨s_2, i_3, j_4⟩ o3 h4 hy5
 refine Tri.seq (Tri.seq (Tri.regionL ?_))
 refine Oc om (Oc om (Oc (op_lss rfl rfl) ?_))
 refine OpsL.nilS ⟨[(0, .b (.row 1)), (2, I i_3), (3, I j_4), (9, B (decide (i_3 < j_4)))], [(1, .row 9 1 (s_2.map eS))]⟩ rfl (Tri.ite h4 rfl (fun _ h4 => ?_) (fun _ h4 => ?_))
 ·refine Tri.skip (Fin.keepS ⟨[(0, .b (.row 1)), (2, I i_3), (3, I j_4)], [(1, .row 9 1 (s_2.map eS))]⟩ rfl (Fin.then (Tri.seq (Tri.block ?_))))
  refine Tri.keepS ⟨[(0, .b (.row 1)), (2, I i_3), (3, I j_4)], [(1, .row 9 1 (s_2.map eS))]⟩ rfl ?_
  obtain ⟨x_6, e6, h4⟩ := bnd h4
  obtain ⟨x_7, e7, h4⟩ := bnd h4
  obtain ⟨x_8, e8, h4⟩ := bnd h4
  obtain ⟨x_9, e9, h4⟩ := bnd h4
  refine Tri.regionWF mixed [false, false, false, false, false, false, false, false, false, false, false, false, false, true, false, true] [.b (.row 1), I i_3, .b (.row 1), I j_4, .b (.row 1), I j_4, .b (.rptr 1 ((j_4 : Int).toNat * 1)), .b (.one (.str x_6)), .b (.row 1), I i_3, .b (.rptr 1 ((i_3 : Int).toNat * 1)), .b (.one (.str x_7)), .b (.rptr 1 ((i_3 : Int).toNat * 1)), B true, .b (.rptr 1 ((j_4 : Int).toNat * 1)), B true] [⟨[false, false, false, false, false, false, false, false, false, false, false, false, false, false, false, false], [(0, .b (.row 1)), (2, I i_3), (3, I j_4)], [(1, .row 9 1 (s_2.map eS))], [true, true, true, true, true, true, true, true, true, true, true, true, true, true, true, true], []⟩, ⟨[false, false, false, false, false, false, false, false, false, false, false, false, false, true, false, false], [(0, .b (.row 1)), (2, I i_3), (3, I j_4)], [(1, .row 9 1 ((s_2.set (i_3 : Int).toNat x_6).map eS))], [true, true, true, true, true, true, true, true, true, true, true, true, true, true, true, true], [0, 1, 4, 5, 6, 7, 8, 9, 10, 11, 12, 13]⟩, ⟨[false, false, false, false, false, false, false, false, false, false, false, false, false, true, false, true], [(0, .b (.row 1)), (2, I i_3), (3, I j_4)], [(1, .row 9 1 (((s_2.set (i_3 : Int).toNat x_6).set (j_4 : Int).toNat x_7).map eS))], [true, true, true, true, true, true, true, true, true, true, true, true, true, true, true, true], [0, 1, 2, 3, 4, 5, 6, 7, 8, 9, 10, 11, 12, 13, 14, 15]⟩] rfl (⟨by kernel_rfl, ⟨⟨.b (.row 1), fun _ => rfl, fun _ => .p (by exact op_move rfl)⟩, ⟨I i_3, fun _ => rfl, fun _ => .p (by exact op_move rfl)⟩, ⟨.b (.row 1), fun _ => rfl, fun _ => .p (by exact op_move rfl)⟩, ⟨I j_4, fun _ => rfl, fun _ => .p (by exact op_move rfl)⟩, ⟨.b (.row 1), fun _ => rfl, fun _ => .p (by exact op_move rfl)⟩, ⟨I j_4, fun _ => rfl, fun _ => .p (by exact op_move rfl)⟩, ⟨.b (.rptr 1 ((j_4 : Int).toNat * 1)), fun _ => rfl, fun _ => .p (by exact op_index_r tySl111 (ix_lo e6) (ix_lt' e6) rfl rfl rfl rfl)⟩, ⟨.b (.one (.str x_6)), fun _ => rfl, fun _ => .p (by exact op_load_r1 (i := (j_4 : Int).toNat) (f := 0) tyOne9 rfl rfl rfl (ix_map (e := eS) e6) rfl)⟩, ⟨.b (.row 1), fun _ => rfl, fun _ => .p (by exact op_move rfl)⟩, ⟨I i_3, fun _ => rfl, fun _ => .p (by exact op_move rfl)⟩, ⟨.b (.rptr 1 ((i_3 : Int).toNat * 1)), fun _ => rfl, fun _ => .p (by exact op_index_r tySl111 (ix_lo e7) (ix_lt' e7) rfl rfl rfl rfl)⟩, ⟨.b (.one (.str x_7)), fun _ => rfl, fun _ => .p (by exact op_load_r1 (i := (i_3 : Int).toNat) (f := 0) tyOne9 rfl rfl rfl (ix_map (e := eS) e7) rfl)⟩, ⟨.b (.rptr 1 ((i_3 : Int).toNat * 1)), fun _ => rfl, fun _ => .p (by exact op_index_r tySl111 (ix_lo e8) (ix_lt' e8) rfl rfl rfl rfl)⟩, ⟨_, none, .b (.one .any), rfl, (fun e => by simp at e), rfl, rfl, fun _ => .toO [1] (by exact .p (by exact op_store_r1 (i := (i_3 : Int).toNat) tyOne9 rfl rfl rfl rfl (ix_lt e8) (map_set _ _ _ _))) (by exact rfl)⟩, trivial, trivial, trivial⟩, ⟨by kernel_rfl, ⟨trivial, trivial, ⟨.b (.row 1), fun _ => rfl, fun _ => .p (by exact op_move rfl)⟩, ⟨I j_4, fun _ => rfl, fun _ => .p (by exact op_move rfl)⟩, trivial, trivial, trivial, trivial, trivial, trivial, trivial, trivial, trivial, trivial, ⟨.b (.rptr 1 ((j_4 : Int).toNat * 1)), fun _ => rfl, fun _ => .p (by exact op_index_r tySl111 (ix_lo e9) (ix_lt' e9) rfl rfl rfl rfl)⟩, ⟨_, none, .b (.one .any), rfl, (fun e => by simp at e), rfl, rfl, fun _ => .toO [1] (by exact .p (by exact op_store_r1 (i := (j_4 : Int).toNat) tyOne9 rfl rfl rfl rfl (ix_lt e9) (map_set _ _ _ _))) (by exact rfl)⟩, trivial⟩, ⟨by kernel_rfl, ⟨trivial, trivial, trivial, trivial, trivial, trivial, trivial, trivial, trivial, trivial, trivial, trivial, trivial, trivial, trivial, trivial, trivial⟩, trivial⟩⟩⟩) rfl rfl rfl [0, 2, 3] [1] (s' := ⟨[(0, .b (.row 1)), (2, I i_3), (3, I j_4)], [(1, .row 9 1 (((s_2.set (i_3 : Int).toNat x_6).set (j_4 : Int).toNat x_7).map eS))]⟩) rfl ?_
  refine Fin.block_normal (Fin.keepS ⟨[(0, .b (.row 1)), (2, I i_3), (3, I j_4)], [(1, .row 9 1 (((s_2.set (i_3 : Int).toNat x_6).set (j_4 : Int).toNat x_7).map eS))]⟩ rfl (Fin.then (Tri.regionL ?_)))
  refine Oc om (Oc (op_add rfl rfl) (Oc om (Oc (op_sub rfl rfl) (Oc oa (Oc oa ?_)))))
  refine OpsL.nil ?_
  exact Fin.againJ [0, 2, 3] [1] ((s_2.set (i_3 : Int).toNat x_6).set (j_4 : Int).toNat x_7, IntKind.i64.wrap (i_3 + 1), IntKind.i64.wrap (j_4 - 1)) (Option.some.inj h4) rfl
 ·refine Tri.exit (Fin.then_exit ?_)
  obtain rfl := hy5 _ (Option.some.inj h4).symm
  refine Fin.then_exit (Fin.block_exit ?_)
  obtain rfl := Option.some.inj h
  refine Fin.keepS ⟨[], [(1, .row 9 1 (s_2.map eS))]⟩ rfl (Fin.toF 1 rfl (Fin.keepS ⟨[], [(1, .frow 9 1 (s_2.map eS))]⟩ rfl ?_))
  exact Fin.result [] (.inr rfl) rfl (.nil) ⟨rfl, rfl⟩
def w_Text_S (F : Nat) (x0 : Big) : Option Str :=
 (w_good_S F [x0]).bind fun x_1 => if (!x_1) = true then (some []) else (Option.bind (iter F (un2 fun parts_3 w_4 => Option.bind (w_short_S F w_4 1000000000) (un2 fun x_6 x_7 => (strconv_Itoa_S F (IntKind.i64.wrap x_7)).bind fun x_8 => if (decide (x_6 = A16.zero)) = true then ((app? parts_3 [x_8]).bind fun x_9 => some (.inr x_9)) else (letN (IntKind.i64.wrap (9 - (x_8.length : Int))) fun x_10 => (strings_Repeat_S F [48] x_10).bind fun x_11 => (app? x_11 x_8).bind fun x_12 => (app? parts_3 [x_12]).bind fun x_13 => some (.inl (x_13, x_6))))) ([], x0.W)) (fun parts_2 => Option.bind (if x0.Neg = true then ((app? parts_2 [[45]]).bind fun x_15 => some x_15) else (some parts_2)) (fun parts_14 => (slices_Reverse_S F parts_14).bind fun x_16 => (strings_Join_S F x_16 []).bind fun x_17 => some x_17)))
theorem w_Text_spec {F : Nat} {x0 : Big} {r : Str} (h : w_Text_S F x0 = some r) : Meets Tryz.prog (tabs mx) 109 [] [.agg (eBig x0)] (Is [] (.b (.one (.str r)))) := by
 unfold w_Text_S at h
 refine Meets.intro 49 Tryz.func109 Tryz.ntmps109 rfl (by simp) fun E => ?_
 show Tri _ E ⟨49, [], []⟩ _ ⟨[(0, .b (.agg (eBig x0)))], []⟩ _
 refine Tri.seq (Tri.regionL ?_)
 refine Oc (op_box (k := 101) rfl rfl) (Oc oa ?_)
 refine OpsL.nilS ⟨[(1, Pt 101 0)], [(101, .box 25 (eBig x0))]⟩ rfl (Tri.seq (Tri.seq (Tri.regionL ?_)))
 refine Oc (lp tyAgg25) (Oc (op_buildSlice (k := 102) (es := [x0].map eBig) tySl117 rfl rfl (uni_map fun _ => rfl) rfl (by decide) (by decide) rfl) ?_)
 obtain ⟨x_1, e1, h⟩ := bnd h
 refine Oc (op_callB (w_good_spec e1) goes113 rfl CP.flat_bool) (Oc (op_not rfl) ?_)
 refine OpsL.nilS ⟨[(1, Pt 101 0), (11, B (!x_1))], [(101, .box 25 (eBig x0))]⟩ rfl (Tri.ite h rfl (fun _ h => ?_) (fun _ h => ?_))
 ·refine Tri.seq (Tri.regionL ?_)
  refine Oc oa (OpsL.nilS ⟨[(2, .b (.one (.str [])))], []⟩ rfl (Tri.ret (Fin.then_ret ?_)))
  obtain rfl := Option.some.inj h
  refine Fin.keepS ⟨[(2, .b (.one (.str [])))], []⟩ rfl (Fin.result' [.one (.str [])] (.inl rfl) rfl (.cons (.tmp rfl) .nil) ⟨rfl, rfl⟩)
 ·refine Tri.skip (Fin.keepS ⟨[(1, Pt 101 0)], [(101, .box 25 (eBig x0))]⟩ rfl (Fin.then (Tri.seq (Tri.regionL ?_))))
  refine Oc oa (OpsL.nilS ⟨[(1, Pt 101 0), (3, .b (.one (.nil)))], [(101, .box 25 (eBig x0))]⟩ rfl ?_)
  obtain ⟨v2, h3, h⟩ := bnd h
  refine Tri.seqJ (v := v2) (fun (parts_2 : List Str) => ⟨[(1, Pt 101 0), (3, .b (.row 108))], [(101, .box 25 (eBig x0)), (108, .row 9 1 (parts_2.map eS))]⟩) (fun z => z) ?_ ?_
  ·refine Tri.seq (Tri.regionL ?_)
   refine Oc (op_field_p tyFld25_2 rfl rfl) (Oc (lp tyAgg23) (Oc (op_alloc (k := 103) tyZero23 rfl) (Oc (op_store_p tyAgg23 rfl rfl rfl rfl (Nat.le_of_ble_eq_true rfl) rfl) ?_)))
   refine OpsL.nilS ⟨[(1, Pt 101 0), (3, .b (.one (.nil))), (4, Pt 103 0)], [(101, .box 25 (eBig x0)), (103, .box 23 (eW x0.W))]⟩ rfl (Tri.block (Tri.nilrow 3 108 1 9 rfl (by decide) rfl (Tri.loopJ h3 (un2 fun (parts_3 : List Str) (w_4 : A16) => ⟨[(1, Pt 101 0), (3, .b (.row 108)), (4, Pt 103 0)], [(101, .box 25 (eBig x0)), (103, .box 23 (eW w_4)), (108, .row 9 1 (parts_3.map eS))]⟩) [1, 3, 4] [101, 103, 108] rfl ?_)))
   rintro ⟨parts_3, w_4⟩ o4 h5 hy6
   refine Tri.seq (Tri.block (Tri.seq (Tri.regionL ?_)))
   refine Oc (lp tyAgg23) ?_
   obtain ⟨⟨x_6, x_7⟩, e7, h5⟩ := bnd h5
   refine Oc (op_call0 (w_short_spec e7) goes134 rfl rfl) (Oc om (Oc (op_extract rfl rfl) (Oc (op_extract rfl rfl) ?_)))
   refine OpsL.keepS ⟨[(1, Pt 101 0), (3, .b (.row 108)), (4, Pt 103 0), (17, .b (.agg (eW x_6))), (18, .b (.one (.int .u32 x_7)))], [(101, .box 25 (eBig x0)), (103, .box 23 (eW w_4)), (108, .row 9 1 (parts_3.map eS))]⟩ rfl (Oc (op_alloc (k := 109) tyZero23 rfl) (Oc (op_store_p tyAgg23 rfl rfl rfl rfl (Nat.le_of_ble_eq_true rfl) rfl) (Oc oa ?_)))
   refine OpsL.nilS ⟨[(1, Pt 101 0), (3, .b (.row 108)), (4, Pt 103 0), (5, Pt 109 0), (6, .b (.one (.int .u32 x_7)))], [(101, .box 25 (eBig x0)), (103, .box 23 (eW w_4)), (108, .row 9 1 (parts_3.map eS)), (109, .box 23 (eW x_6))]⟩ rfl (Tri.seq (Tri.regionL ?_))
   refine Oc om (Oc (op_conv_wrap undi22 undi3 rfl) ?_)
   obtain ⟨x_8, e8, h5⟩ := bnd h5
   refine Oc (op_call0 (strconv_Itoa_spec e8) goes135 rfl rfl) (Oc oa ?_)
   refine OpsL.nilS ⟨[(1, Pt 101 0), (3, .b (.row 108)), (4, Pt 103 0), (5, Pt 109 0), (7, .b (.one (.str x_8)))], [(101, .box 25 (eBig x0)), (103, .box 23 (eW w_4)), (108, .row 9 1 (parts_3.map eS)), (109, .box 23 (eW x_6))]⟩ rfl (Tri.seq (Tri.seq (Tri.regionL ?_)))
   refine Oc (lp tyAgg23) (Oc (op_buildA tyBuild23 rfl rfl) (Oc (op_eql_agg (eqAgg23 x_6 A16.zero) rfl rfl) ?_))
   refine OpsL.nilS ⟨[(1, Pt 101 0), (3, .b (.row 108)), (4, Pt 103 0), (5, Pt 109 0), (7, .b (.one (.str x_8))), (24, B (decide (x_6 = A16.zero)))], [(101, .box 25 (eBig x0)), (103, .box 23 (eW w_4)), (108, .row 9 1 (parts_3.map eS)), (109, .box 23 (eW x_6))]⟩ rfl (Tri.ite h5 rfl (fun _ h5 => ?_) (fun _ h5 => ?_))
   ·refine Tri.seq (Tri.regionL ?_)
    refine Oc om (Oc om (Oc (op_buildSlice (k := 110) (es := [x_8].map eS) tySl111 rfl rfl (uni_map fun _ => rfl) rfl (by decide) (by decide) rfl) ?_))
    obtain ⟨x_9, e9, h5⟩ := bnd h5
    refine Oc (op_append_r tySl111 (app_b e9) (app_m e9) rfl rfl rfl rfl (app_map e9) rfl) (Oc oa ?_)
    refine OpsL.nilS ⟨[(1, Pt 101 0), (3, .b (.row 108))], [(101, .box 25 (eBig x0)), (108, .row 9 1 (x_9.map eS))]⟩ rfl (Tri.exit (Fin.then_exit (Fin.block_exit_other (by decide) (Fin.then_exit ?_))))
    obtain rfl := hy6 _ (Option.some.inj h5).symm
    refine Fin.then_exit (Fin.block_exit ?_)
    exact Fin.join [1, 3] [101, 108] x_9 rfl rfl
   ·refine Tri.skip (Fin.keepS ⟨[(1, Pt 101 0), (3, .b (.row 108)), (4, Pt 103 0), (5, Pt 109 0), (7, .b (.one (.str x_8)))], [(101, .box 25 (eBig x0)), (103, .box 23 (eW w_4)), (108, .row 9 1 (parts_3.map eS)), (109, .box 23 (eW x_6))]⟩ rfl (Fin.then (Tri.seq (Tri.regionL ?_))))
    refine Oc om (Oc om (Oc (op_len_str und9 rfl) ?_))
    refine OpsL.consI .i64 h5 rfl (op_sub rfl rfl) (fun x_10 h5 => ?_)
    refine OpsL.keepS ⟨[(1, Pt 101 0), (3, .b (.row 108)), (4, Pt 103 0), (5, Pt 109 0), (7, .b (.one (.str x_8))), (29, .b (.row 108)), (32, I x_10)], [(101, .box 25 (eBig x0)), (103, .box 23 (eW w_4)), (108, .row 9 1 (parts_3.map eS)), (109, .box 23 (eW x_6))]⟩ rfl ?_
    obtain ⟨x_11, e10, h5⟩ := bnd h5
    refine Oc (op_call0 (strings_Repeat_spec e10) goes136 rfl rfl) (Oc om ?_)
    obtain ⟨x_12, e11, h5⟩ := bnd h5
    refine Oc (op_add_str2 e11 rfl rfl) (Oc (op_buildSlice (k := 111) (es := [x_12].map eS) tySl111 rfl rfl (uni_map fun _ => rfl) rfl (by decide) (by decide) rfl) ?_)
    obtain ⟨x_13, e12, h5⟩ := bnd h5
    refine Oc (op_append_r tySl111 (app_b e12) (app_m e12) rfl rfl rfl rfl (app_map e12) rfl) (Oc oa ?_)
    refine OpsL.nilS ⟨[(1, Pt 101 0), (3, .b (.row 108)), (4, Pt 103 0), (5, Pt 109 0)], [(101, .box 25 (eBig x0)), (103, .box 23 (eW w_4)), (108, .row 9 1 (x_13.map eS)), (109, .box 23 (eW x_6))]⟩ rfl (Tri.regionL (Oc (lp tyAgg23) (Oc (op_store_p tyAgg23 rfl rfl rfl rfl (Nat.le_of_ble_eq_true rfl) rfl) ?_)))
    refine OpsL.nil (Fin.block_normal (Fin.keepS ⟨[(1, Pt 101 0), (3, .b (.row 108)), (4, Pt 103 0)], [(101, .box 25 (eBig x0)), (103, .box 23 (eW x_6)), (108, .row 9 1 (x_13.map eS))]⟩ rfl (Fin.then (Tri.seq (Tri.regionL ?_)))))
    refine Oc (lp tyAgg23) (OpsL.nilS ⟨[(1, Pt 101 0), (3, .b (.row 108)), (39, .b (.agg (eW x_6)))], [(101, .box 25 (eBig x0)), (108, .row 9 1 (x_13.map eS))]⟩ rfl (Tri.regionL (Oc (op_alloc (k := 112) tyZero23 rfl) (Oc (op_store_p tyAgg23 rfl rfl rfl rfl (Nat.le_of_ble_eq_true rfl) rfl) ?_))))
    refine OpsL.nil (Fin.keepS ⟨[(1, Pt 101 0), (3, .b (.row 108)), (4, Pt 112 0)], [(101, .box 25 (eBig x0)), (108, .row 9 1 (x_13.map eS)), (112, .box 23 (eW x_6))]⟩ rfl (Fin.rename 112 103 rfl (by decide) rfl ?_))
    exact Fin.againJ [1, 3, 4] [101, 103, 108] (x_13, x_6) (Option.some.inj h5) rfl
  ·rintro parts_2 hv
   subst v2
   obtain ⟨v13, h14, h⟩ := bnd h
   refine Tri.seqJ (v := v13) (fun (parts_14 : List Str) => ⟨[(3, .b (.row 108))], [(108, .row 9 1 (parts_14.map eS))]⟩) (fun z => z) ?_ ?_
   ·refine Tri.seq (Tri.regionL ?_)
    refine Oc (op_field_p tyFld25_1 rfl rfl) (Oc (op_load_p1 tyOne4 rfl rfl rfl) ?_)
    refine OpsL.nilS ⟨[(3, .b (.row 108)), (41, B x0.Neg)], [(108, .row 9 1 (parts_2.map eS))]⟩ rfl (Tri.ite h14 rfl (fun _ h14 => ?_) (fun _ h14 => ?_))
    ·refine Tri.regionL (Oc om (Oc (op_buildSlice (k := 113) (es := [[45]].map eS) tySl111 rfl rfl (uni_map fun _ => rfl) rfl (by decide) (by decide) rfl) ?_))
     obtain ⟨x_15, e15, h14⟩ := bnd h14
     refine Oc (op_append_r tySl111 (app_b e15) (app_m e15) rfl rfl rfl rfl (app_map e15) rfl) (Oc oa ?_)
     refine OpsL.nil ?_
     exact Fin.join [3] [108] x_15 (Option.some.inj h14) rfl
    ·refine Tri.skip ?_
     exact Fin.join [3] [108] parts_2 (Option.some.inj h14) rfl
   ·rintro parts_14 hv
    subst v13
    refine Tri.seq (Tri.regionL ?_)
    refine Oc om (OpsL.toF 108 rfl ?_)
    obtain ⟨x_16, e16, h⟩ := bnd h
    refine Oc (op_call (own_a := [(108, _)]) ((slices_Reverse_spec e16).sw 1 108) goes137 rfl ⟨rfl, trivial⟩ rfl rfl) (OpsL.unF 108 rfl (OpsL.nilS ⟨[(3, .b (.row 108))], [(108, .row 9 1 (x_16.map eS))]⟩ rfl (Tri.seq (Tri.regionL ?_))))
    refine Oc om ?_
    obtain ⟨x_17, e17, h⟩ := bnd h
    refine Oc (op_callB (strings_Join_spec e17) goes138 rfl CP.flat_str) (Oc oa ?_)
    refine OpsL.nilS ⟨[(2, .b (.one (.str x_17)))], []⟩ rfl (Tri.ret ?_)
    obtain rfl := Option.some.inj h
    refine Fin.keepS ⟨[(2, .b (.one (.str x_17)))], []⟩ rfl (Fin.result' [.one (.str x_17)] (.inl rfl) rfl (.cons (.tmp rfl) .nil) ⟨rfl, rfl⟩)
def q_Text_S (F : Nat) (x0 : Frc) : Option Str :=
 (q_Good_S F x0).bind fun x_1 => if (!x_1) = true then (some []) else ((q_one_S F).bind fun x_2 => if (decide (x0.D = x_2)) = true then ((w_Text_S F x0.N).bind fun x_3 => some x_3) else ((w_Text_S F x0.N).bind fun x_4 => (app? x_4 [47]).bind fun x_5 => (w_Text_S F x0.D).bind fun x_6 => (app? x_5 x_6).bind fun x_7 => some x_7))
theorem q_Text_spec {F : Nat} {x0 : Frc} {r : Str} (h : q_Text_S F x0 = some r) : Meets Tryz.prog (tabs mx) 54 [] [.agg (eFrc x0)] (Is [] (.b (.one (.str r)))) := by
 unfold q_Text_S at h
 refine Meets.intro 23 Tryz.func54 Tryz.ntmps54 rfl (by simp) fun E => ?_
 show Tri _ E ⟨23, [], []⟩ _ ⟨[(0, .b (.agg (eFrc x0)))], []⟩ _
 refine Tri.seq (Tri.regionL ?_)
 refine Oc (op_box (k := 101) rfl rfl) (Oc oa ?_)
 refine OpsL.nilS ⟨[(1, Pt 101 0)], [(101, .box 27 (eFrc x0))]⟩ rfl (Tri.seq (Tri.block (Tri.seq (Tri.regionL ?_))))
 refine Oc (lp tyAgg27) ?_
 obtain ⟨x_1, e1, h⟩ := bnd h
 refine Oc (op_call0 (q_Good_spec e1) goes26 rfl rfl) (Oc (op_not rfl) (Oc oa ?_))
 refine OpsL.nilS ⟨[(1, Pt 101 0), (3, B (!x_1))], [(101, .box 27 (eFrc x0))]⟩ rfl (Tri.ite h rfl (fun _ h => ?_) (fun _ h => ?_))
 ·refine Tri.seq (Tri.regionL ?_)
  refine Oc oa (OpsL.nilS ⟨[(2, .b (.one (.str [])))], []⟩ rfl (Tri.ret (Fin.block_ret (Fin.then_ret ?_))))
  obtain rfl := Option.some.inj h
  refine Fin.keepS ⟨[(2, .b (.one (.str [])))], []⟩ rfl (Fin.result' [.one (.str [])] (.inl rfl) rfl (.cons (.tmp rfl) .nil) ⟨rfl, rfl⟩)
 ·refine Tri.seq (Tri.keepS ⟨[(1, Pt 101 0)], [(101, .box 27 (eFrc x0))]⟩ rfl ?_)
  obtain ⟨x_2, e2, h⟩ := bnd h
  refine Tri.regionY mixed 5 [Pt 101 18, .b (.agg (eBig x0.D)), .b (.agg (eBig x_2)), B (decide (x0.D = x_2)), B (decide (x0.D = x_2))] [1, 7] [101] (s' := ⟨[(1, Pt 101 0), (7, B (decide (x0.D = x_2)))], [(101, .box 27 (eFrc x0))]⟩) rfl ⟨fun _ => .p (op_field_p tyFld27_1 rfl rfl), fun _ => .p (lp tyAgg25), fun _ => .p (op_call0 (q_one_spec e2) goes90 rfl rfl), fun _ => .p (op_eql_agg (eqAgg25 x0.D x_2) rfl rfl), fun _ => .p oa, trivial⟩ rfl rfl (Tri.ite h rfl (fun _ h => ?_) (fun _ h => ?_))
  ·refine Tri.seq (Tri.regionL ?_)
   refine Oc (op_field_p tyFld27_0 rfl rfl) (Oc (lp tyAgg25) ?_)
   obtain ⟨x_3, e3, h⟩ := bnd h
   refine Oc (op_call0 (w_Text_spec e3) goes109 rfl rfl) (Oc oa ?_)
   refine OpsL.nilS ⟨[(2, .b (.one (.str x_3)))], []⟩ rfl (Tri.ret (Fin.block_ret (Fin.then_ret ?_)))
   obtain rfl := Option.some.inj h
   refine Fin.keepS ⟨[(2, .b (.one (.str x_3)))], []⟩ rfl (Fin.result' [.one (.str x_3)] (.inl rfl) rfl (.cons (.tmp rfl) .nil) ⟨rfl, rfl⟩)
  ·refine Tri.skip (Fin.block_normal (Fin.keepS ⟨[(1, Pt 101 0)], [(101, .box 27 (eFrc x0))]⟩ rfl (Fin.then (Tri.seq ?_))))
   refine Tri.keepS ⟨[(1, Pt 101 0)], [(101, .box 27 (eFrc x0))]⟩ rfl ?_
   obtain ⟨x_4, e4, h⟩ := bnd h
   obtain ⟨x_5, e5, h⟩ := bnd h
   obtain ⟨x_6, e6, h⟩ := bnd h
   obtain ⟨x_7, e7, h⟩ := bnd h
   refine Tri.regionY mixed 9 [Pt 101 0, .b (.agg (eBig x0.N)), .b (.one (.str x_4)), .b (.one (.str x_5)), Pt 101 18, .b (.agg (eBig x0.D)), .b (.one (.str x_6)), .b (.one (.str x_7)), .b (.one (.str x_7))] [2] [] (s' := ⟨[(2, .b (.one (.str x_7)))], []⟩) rfl ⟨fun _ => .p (op_field_p tyFld27_0 rfl rfl), fun _ => .p (lp tyAgg25), fun _ => .p (op_call0 (w_Text_spec e4) goes109 rfl rfl), fun _ => .p (op_add_str2 e5 rfl rfl), fun _ => .p (op_field_p tyFld27_1 rfl rfl), fun _ => .p (lp tyAgg25), fun _ => .p (op_call0 (w_Text_spec e6) goes109 rfl rfl), fun _ => .p (op_add_str2 e7 rfl rfl), fun _ => .p oa, trivial⟩ rfl rfl (Tri.ret ?_)
   obtain rfl := Option.some.inj h
   refine Fin.keepS ⟨[(2, .b (.one (.str x_7)))], []⟩ rfl (Fin.result' [.one (.str x_7)] (.inl rfl) rfl (.cons (.tmp rfl) .nil) ⟨rfl, rfl⟩)
def l4_text_S (F : Nat) (x0 : Frc) (s0 : Str) : Option Bool :=
 (q_Text_S F x0).bind fun x_1 => some (decide (x_1 = s0))
theorem l4_text_spec {F : Nat} {x0 : Frc} {s0 : Str} {r : Bool} (h : l4_text_S F x0 s0 = some r) : Meets Tryz.prog (tabs mx) 87 [] [.agg (eFrc x0), .one (.str s0)] (Is [] (.b (.one (.bool r)))) := by
 unfold l4_text_S at h
 refine Meets.intro 9 Tryz.func87 Tryz.ntmps87 rfl (by simp) fun E => ?_
 show Tri _ E ⟨9, [], []⟩ _ ⟨[(0, .b (.agg (eFrc x0))), (1, .b (.one (.str s0)))], []⟩ _
 refine Tri.seq (Tri.regionL ?_)
 refine Oc (op_box (k := 101) rfl rfl) (Oc oa ?_)
 refine OpsL.nilS ⟨[(1, .b (.one (.str s0))), (2, Pt 101 0)], [(101, .box 27 (eFrc x0))]⟩ rfl (Tri.seq (Tri.regionL ?_))
 refine Oc (lp tyAgg27) ?_
 obtain ⟨x_1, e1, h⟩ := bnd h
 refine Oc (op_call0 (q_Text_spec e1) goes54 rfl rfl) (Oc om (Oc (op_eql_str rfl rfl) (Oc oa ?_)))
 refine OpsL.nilS ⟨[(4, B (decide (x_1 = s0)))], []⟩ rfl (Tri.ret ?_)
 obtain rfl := Option.some.inj h
 refine Fin.keepS ⟨[(4, B (decide (x_1 = s0)))], []⟩ rfl (Fin.result' [.one (.bool (decide (x_1 = s0)))] (.inl rfl) rfl (.cons (.tmp rfl) .nil) ⟨rfl, rfl⟩)
def q_Near_S (F : Nat) (x0 : Frc) : Option Big :=
 (q_Floor_S F x0).bind fun x_1 => if x_1.Bad = true then (some x_1) else ((w_Rem_S F x0.N x0.D).bind fun x_2 => (w_Sub_S F x0.D x_2).bind fun x_3 => (w_Cmp_S F x_2 x_3).bind fun x_4 => if (decide (0 ≤ x_4)) = true then ((q_one_S F).bind fun x_5 => (w_Add_S F x_1 x_5).bind fun x_6 => some x_6) else (some x_1))
theorem q_Near_spec {F : Nat} {x0 : Frc} {r : Big} (h : q_Near_S F x0 = some r) : Meets Tryz.prog (tabs mx) 35 [] [.agg (eFrc x0)] (Is [] (.b (.agg (eBig r)))) := by
 unfold q_Near_S at h
 refine Meets.intro 26 Tryz.func35 Tryz.ntmps35 rfl (by simp) fun E => ?_
 show Tri _ E ⟨26, [], []⟩ _ ⟨[(0, .b (.agg (eFrc x0)))], []⟩ _
 refine Tri.seq (Tri.regionL ?_)
 refine Oc (op_box (k := 101) rfl rfl) (Oc (op_alloc (k := 102) tyZero25 rfl) ?_)
 refine OpsL.nilS ⟨[(1, Pt 101 0), (2, Pt 102 0)], [(101, .box 27 (eFrc x0)), (102, .box 25 zBig)]⟩ rfl (Tri.seq (Tri.regionL ?_))
 refine Oc (lp tyAgg27) ?_
 obtain ⟨x_1, e1, h⟩ := bnd h
 refine Oc (op_call0 (q_Floor_spec e1) goes31 rfl rfl) (Oc (op_alloc (k := 103) tyZero25 rfl) (Oc (op_store_p tyAgg25 rfl rfl rfl rfl (Nat.le_of_ble_eq_true rfl) rfl) ?_))
 refine OpsL.nilS ⟨[(1, Pt 101 0), (2, Pt 102 0), (3, Pt 103 0)], [(101, .box 27 (eFrc x0)), (102, .box 25 zBig), (103, .box 25 (eBig x_1))]⟩ rfl (Tri.seq (Tri.seq (Tri.regionL ?_)))
 refine Oc (op_field_p tyFld25_0 rfl rfl) (Oc (op_load_p1 tyOne4 rfl rfl rfl) ?_)
 refine OpsL.nilS ⟨[(1, Pt 101 0), (2, Pt 102 0), (3, Pt 103 0), (8, B x_1.Bad)], [(101, .box 27 (eFrc x0)), (102, .box 25 zBig), (103, .box 25 (eBig x_1))]⟩ rfl (Tri.ite h rfl (fun _ h => ?_) (fun _ h => ?_))
 ·refine Tri.seq (Tri.regionL ?_)
  refine Oc (lp tyAgg25) (Oc (op_store_p tyAgg25 rfl rfl rfl rfl (Nat.le_of_ble_eq_true rfl) rfl) ?_)
  refine OpsL.nilS ⟨[(2, Pt 102 0)], [(102, .box 25 (eBig x_1))]⟩ rfl (Tri.ret (Fin.then_ret ?_))
  obtain rfl := Option.some.inj h
  refine Fin.keepS ⟨[(2, Pt 102 0)], [(102, .box 25 (eBig x_1))]⟩ rfl (Fin.result' [.agg (eBig x_1)] (.inl rfl) rfl (.cons (.agg tyAgg25 rfl rfl rfl rfl) .nil) ⟨rfl, rfl⟩)
 ·refine Tri.skip (Fin.keepS ⟨[(1, Pt 101 0), (2, Pt 102 0), (3, Pt 103 0)], [(101, .box 27 (eFrc x0)), (102, .box 25 zBig), (103, .box 25 (eBig x_1))]⟩ rfl (Fin.then (Tri.seq (Tri.seq (Tri.regionL ?_)))))
  refine Oc (op_field_p tyFld27_0 rfl rfl) (Oc (lp tyAgg25) (Oc (op_field_p tyFld27_1 rfl rfl) (Oc (lp tyAgg25) ?_)))
  obtain ⟨x_2, e2, h⟩ := bnd h
  refine Oc (op_call0 (w_Rem_spec e2) goes94 rfl rfl) (Oc (op_alloc (k := 104) tyZero25 rfl) (Oc (op_store_p tyAgg25 rfl rfl rfl rfl (Nat.le_of_ble_eq_true rfl) rfl) ?_))
  refine OpsL.nilS ⟨[(1, Pt 101 0), (2, Pt 102 0), (3, Pt 103 0), (4, Pt 104 0)], [(101, .box 27 (eFrc x0)), (102, .box 25 zBig), (103, .box 25 (eBig x_1)), (104, .box 25 (eBig x_2))]⟩ rfl (Tri.seq ?_)
  obtain ⟨x_3, e3, h⟩ := bnd h
  obtain ⟨x_4, e4, h⟩ := bnd h
  refine Tri.regionY mixed 7 [.b (.agg (eBig x_2)), Pt 101 18, .b (.agg (eBig x0.D)), .b (.agg (eBig x_2)), .b (.agg (eBig x_3)), I x_4, B (decide (0 ≤ x_4))] [2, 3, 21] [102, 103] (s' := ⟨[(2, Pt 102 0), (3, Pt 103 0), (21, B (decide (0 ≤ x_4)))], [(102, .box 25 zBig), (103, .box 25 (eBig x_1))]⟩) rfl ⟨fun _ => .p (lp tyAgg25), fun _ => .p (op_field_p tyFld27_1 rfl rfl), fun _ => .p (lp tyAgg25), fun _ => .p (lp tyAgg25), fun _ => .p (op_call0 (w_Sub_spec e3) goes96 rfl rfl), fun _ => .p (op_call0 (w_Cmp_spec e4) goes95 rfl rfl), fun _ => .p (op_geq rfl rfl), trivial⟩ rfl rfl (Tri.ite h rfl (fun _ h => ?_) (fun _ h => ?_))
  ·refine Tri.seq (Tri.keepS ⟨[(2, Pt 102 0), (3, Pt 103 0)], [(102, .box 25 zBig), (103, .box 25 (eBig x_1))]⟩ rfl ?_)
   obtain ⟨x_5, e5, h⟩ := bnd h
   obtain ⟨x_6, e6, h⟩ := bnd h
   refine Tri.regionY mixed 3 [.b (.agg (eBig x_1)), .b (.agg (eBig x_5)), .b (.agg (eBig x_6))] [2] [102] (s' := ⟨[(2, Pt 102 0)], [(102, .box 25 (eBig x_6))]⟩) rfl ⟨fun _ => .p (lp tyAgg25), fun _ => .p (op_call0 (q_one_spec e5) goes90 rfl rfl), fun _ => .p (op_call0 (w_Add_spec e6) goes97 rfl rfl), trivial⟩ ⟨_, by exact .p (op_store_p tyAgg25 rfl rfl rfl rfl (Nat.le_of_ble_eq_true rfl) rfl), rfl⟩ rfl (Tri.ret (Fin.then_ret ?_))
   obtain rfl := Option.some.inj h
   refine Fin.keepS ⟨[(2, Pt 102 0)], [(102, .box 25 (eBig x_6))]⟩ rfl (Fin.result' [.agg (eBig x_6)] (.inl rfl) rfl (.cons (.agg tyAgg25 rfl rfl rfl rfl) .nil) ⟨rfl, rfl⟩)
  ·refine Tri.skip (Fin.keepS ⟨[(2, Pt 102 0), (3, Pt 103 0)], [(102, .box 25 zBig), (103, .box 25 (eBig x_1))]⟩ rfl (Fin.then (Tri.seq (Tri.regionL ?_))))
   refine Oc (lp tyAgg25) (Oc (op_store_p tyAgg25 rfl rfl rfl rfl (Nat.le_of_ble_eq_true rfl) rfl) ?_)
   refine OpsL.nilS ⟨[(2, Pt 102 0)], [(102, .box 25 (eBig x_1))]⟩ rfl (Tri.ret ?_)
   obtain rfl := Option.some.inj h
   refine Fin.keepS ⟨[(2, Pt 102 0)], [(102, .box 25 (eBig x_1))]⟩ rfl (Fin.result' [.agg (eBig x_1)] (.inl rfl) rfl (.cons (.agg tyAgg25 rfl rfl rfl rfl) .nil) ⟨rfl, rfl⟩)
def w_trailing_S (F : Nat) (w0 : A16) : Option Int :=
 Option.bind (iter F (fun k_2 => (idx? w0.l k_2).bind fun x_4 => if (decide (x_4 = 0)) = true then (some (.inl (IntKind.i64.wrap (k_2 + 1)))) else (some (.inr k_2))) 0) (fun k_1 => (idx? w0.l k_1).bind fun x_5 => (bits_TZ32_S F x_5).bind fun x_6 => letN (IntKind.i64.wrap ((IntKind.i64.wrap (32 * k_1)) + x_6)) fun x_7 => some x_7)
theorem w_trailing_spec {F : Nat} {w0 : A16} {r : Int} (h : w_trailing_S F w0 = some r) : Meets Tryz.prog (tabs mx) 146 [] [.agg (eW w0)] (Is [] (.b (.one (.i r)))) := by
 unfold w_trailing_S at h
 refine Meets.intro 17 Tryz.func146 Tryz.ntmps146 rfl (by simp) fun E => ?_
 show Tri _ E ⟨17, [], []⟩ _ ⟨[(0, .b (.agg (eW w0)))], []⟩ _
 refine Tri.seq (Tri.regionL ?_)
 refine Oc (op_box (k := 101) rfl rfl) (Oc oa ?_)
 refine OpsL.nilS ⟨[(1, Pt 101 0)], [(101, .box 23 (eW w0))]⟩ rfl (Tri.seq (Tri.regionL ?_))
 refine Oc oa (OpsL.nilS ⟨[(1, Pt 101 0), (3, I 0)], [(101, .box 23 (eW w0))]⟩ rfl ?_)
 obtain ⟨v1, h2, h⟩ := bnd h
 refine Tri.seqJ (v := v1) (fun (k_1 : Int) => ⟨[(1, Pt 101 0), (3, I k_1)], [(101, .box 23 (eW w0))]⟩) (fun z => z) ?_ ?_
 ·refine Tri.block (Tri.loopJ h2 (fun (k_2 : Int) => ⟨[(1, Pt 101 0), (3, I k_2)], [(101, .box 23 (eW w0))]⟩) [1, 3] [101] rfl ?_)
  rintro k_2 o3 h4 hy5
  refine Tri.seq (Tri.seq (Tri.regionL ?_))
  refine Oc om ?_
  obtain ⟨x_4, e6, h4⟩ := bnd h4
  refine Oc (op_index_p tyArr23 (ix_lo e6) (ix_hi e6) rfl rfl rfl) (Oc (op_load_p1 tyOne22 rfl rfl (arr_get (post := []) (k := .u32) [] e6 rfl rfl rfl)) (Oc (op_eql rfl rfl) ?_))
  refine OpsL.nilS ⟨[(1, Pt 101 0), (3, I k_2), (7, B (decide (x_4 = 0)))], [(101, .box 23 (eW w0))]⟩ rfl (Tri.ite h4 rfl (fun _ h4 => ?_) (fun _ h4 => ?_))
  ·refine Tri.skip (Fin.keepS ⟨[(1, Pt 101 0), (3, I k_2)], [(101, .box 23 (eW w0))]⟩ rfl (Fin.then (Tri.block (Tri.regionL ?_))))
   refine Oc om (Oc (op_add rfl rfl) (Oc oa ?_))
   refine OpsL.nil (Fin.block_normal ?_)
   exact Fin.againJ [1, 3] [101] (IntKind.i64.wrap (k_2 + 1)) (Option.some.inj h4) rfl
  ·refine Tri.exit (Fin.then_exit ?_)
   obtain rfl := hy5 _ (Option.some.inj h4).symm
   refine Fin.then_exit (Fin.block_exit ?_)
   exact Fin.join [1, 3] [101] k_2 rfl rfl
 ·rintro k_1 hv
  subst v1
  refine Tri.seq (Tri.regionL ?_)
  refine Oc om (Oc (op_mul rfl rfl) (Oc om ?_))
  obtain ⟨x_5, e7, h⟩ := bnd h
  refine Oc (op_index_p tyArr23 (ix_lo e7) (ix_hi e7) rfl rfl rfl) (Oc (op_load_p1 tyOne22 rfl rfl (arr_get (post := []) (k := .u32) [] e7 rfl rfl rfl)) ?_)
  refine OpsL.keepS ⟨[(11, I (IntKind.i64.wrap (32 * k_1))), (14, .b (.one (.int .u32 x_5)))], []⟩ rfl ?_
  obtain ⟨x_6, e8, h⟩ := bnd h
  refine Oc (op_call0 (bits_TZ32_spec e8) goes155 rfl rfl) (OpsL.consI .i64 h rfl (op_add rfl rfl) (fun x_7 h => ?_))
  refine Oc oa (OpsL.nilS ⟨[(2, I x_7)], []⟩ rfl (Tri.ret ?_))
  obtain rfl := Option.some.inj h
  refine Fin.keepS ⟨[(2, I x_7)], []⟩ rfl (Fin.result' [.one (.i x_7)] (.inl rfl) rfl (.cons (.tmp rfl) .nil) ⟨rfl, rfl⟩)
def w_lost_S (F : Nat) (x0 : Big) (w0 : A16) (n0 : List Int) : Option Big :=
 (w_signed_S F x0.Neg w0).bind fun x_1 => (gcall (x0.Neg && !(decide ((n0.length : Int) = 0))) (w_trailing_S F x0.W)).bind fun x_2 => (gcall (x0.Neg && !(decide ((n0.length : Int) = 0))) (idx? n0 0)).bind fun x_3 => if (x0.Neg && ((decide ((n0.length : Int) = 0)) || (decide (x_2 < x_3)))) = true then ((w_Of_S F 1).bind fun x_4 => (w_Sub_S F x_1 x_4).bind fun x_5 => some x_5) else (some x_1)
theorem w_lost_spec {F : Nat} {x0 : Big} {w0 : A16} {n0 : List Int} {r : Big} (h : w_lost_S F x0 w0 n0 = some r) : Meets Tryz.prog (tabs mx) 124 [] [.agg (eBig x0), .agg (eW w0), .one (.sl 1 (n0.map eI))] (Is [] (.b (.agg (eBig r)))) := by
 unfold w_lost_S at h
 refine Meets.intro 32 Tryz.func124 Tryz.ntmps124 rfl (by simp) fun E => ?_
 show Tri _ E ⟨32, [], []⟩ _ ⟨[(0, .b (.agg (eBig x0))), (1, .b (.agg (eW w0))), (2, .b (.one (.sl 1 (n0.map eI))))], []⟩ _
 refine Tri.seq (Tri.regionL ?_)
 refine Oc (op_box (k := 101) rfl rfl) (Oc (op_box (k := 102) rfl rfl) (Oc (op_alloc (k := 103) tyZero25 rfl) ?_))
 refine OpsL.nilS ⟨[(2, .b (.one (.sl 1 (n0.map eI)))), (3, Pt 101 0), (4, Pt 102 0), (6, Pt 103 0)], [(101, .box 25 (eBig x0)), (102, .box 23 (eW w0)), (103, .box 25 zBig)]⟩ rfl (Tri.seq (Tri.regionL ?_))
 refine Oc (op_field_p tyFld25_1 rfl rfl) (Oc (op_load_p1 tyOne4 rfl rfl rfl) (Oc (lp tyAgg23) ?_))
 obtain ⟨x_1, e1, h⟩ := bnd h
 refine Oc (op_call0 (w_signed_spec e1) goes115 rfl rfl) (Oc (op_alloc (k := 104) tyZero25 rfl) (Oc (op_store_p tyAgg25 rfl rfl rfl rfl (Nat.le_of_ble_eq_true rfl) rfl) ?_))
 refine OpsL.nilS ⟨[(2, .b (.one (.sl 1 (n0.map eI)))), (3, Pt 101 0), (6, Pt 103 0), (7, Pt 104 0)], [(101, .box 25 (eBig x0)), (103, .box 25 zBig), (104, .box 25 (eBig x_1))]⟩ rfl (Tri.seq (Tri.seq ?_))
 refine Tri.keepS ⟨[(2, .b (.one (.sl 1 (n0.map eI)))), (3, Pt 101 0), (6, Pt 103 0), (7, Pt 104 0)], [(101, .box 25 (eBig x0)), (103, .box 25 zBig), (104, .box 25 (eBig x_1))]⟩ rfl ?_
 obtain ⟨x_2, e9, h⟩ := bnd h
 obtain ⟨x_3, e12, h⟩ := bnd h
 refine Tri.regionY mixed 16 [Pt 101 1, B x0.Neg, B x0.Neg, .opt x0.Neg (.one (.sl 1 (n0.map eI))), .opt x0.Neg (.one (.i (n0.length : Int))), .opt x0.Neg (.one (.bool (decide ((n0.length : Int) = 0)))), .opt x0.Neg (.one (.bool (decide ((n0.length : Int) = 0)))), .opt (x0.Neg && !(decide ((n0.length : Int) = 0))) (.ptr 101 2), .opt (x0.Neg && !(decide ((n0.length : Int) = 0))) (.agg (eW x0.W)), .opt (x0.Neg && !(decide ((n0.length : Int) = 0))) (.one (.i x_2)), .opt (x0.Neg && !(decide ((n0.length : Int) = 0))) (.one (.sl 1 (n0.map eI))), .opt (x0.Neg && !(decide ((n0.length : Int) = 0))) (.eptr [.i x_3]), .opt (x0.Neg && !(decide ((n0.length : Int) = 0))) (.one (.i x_3)), .opt (x0.Neg && !(decide ((n0.length : Int) = 0))) (.one (.bool (decide (x_2 < x_3)))), .opt x0.Neg (.one (.bool ((decide ((n0.length : Int) = 0)) || (decide (x_2 < x_3))))), B (x0.Neg && ((decide ((n0.length : Int) = 0)) || (decide (x_2 < x_3))))] [6, 7, 27] [103, 104] (s' := ⟨[(6, Pt 103 0), (7, Pt 104 0), (27, B (x0.Neg && ((decide ((n0.length : Int) = 0)) || (decide (x_2 < x_3)))))], [(103, .box 25 zBig), (104, .box 25 (eBig x_1))]⟩) rfl ⟨fun _ => .p (op_field_p tyFld25_1 rfl rfl), fun _ => .p (op_load_p1 tyOne4 rfl rfl rfl), fun _ => .p om, fun _ => by exact .guard x0.Neg 1 [] (.plain rfl) (eq_t _) rfl rfl (fun g2 => trivial) (fun g2 => om), fun _ => by exact .guard x0.Neg 2 [15] (.plain rfl) (eq_t _) rfl rfl (fun g3 => ⟨g3, trivial⟩) (fun g3 => op_len_e' und70 rfl (List.length_map _)), fun _ => by exact .guard x0.Neg 2 [16] (.plain rfl) (eq_t _) rfl rfl (fun g4 => ⟨g4, trivial⟩) (fun g4 => op_eql rfl rfl), fun _ => by exact .guard x0.Neg 3 [17] (.plain rfl) (eq_t _) rfl rfl (fun g5 => ⟨g5, trivial⟩) (fun g5 => om), fun _ => by exact .guard (x0.Neg && !(decide ((n0.length : Int) = 0))) 1 [] (.under rfl) (and_f _ _) rfl rfl (fun g6 => trivial) (fun g6 => op_field_p tyFld25_2 rfl rfl), fun _ => by exact .guard (x0.Neg && !(decide ((n0.length : Int) = 0))) 2 [19] (.under rfl) (and_f _ _) rfl rfl (fun g7 => ⟨g7, trivial⟩) (fun g7 => lp tyAgg23), fun _ => by exact .guard (x0.Neg && !(decide ((n0.length : Int) = 0))) 3 [20] (.under rfl) (and_f _ _) rfl rfl (fun g8 => ⟨g8, trivial⟩) (fun g8 => op_call0 (w_trailing_spec (gc e9 g8)) goes146 rfl rfl), fun _ => by exact .guard (x0.Neg && !(decide ((n0.length : Int) = 0))) 1 [] (.under rfl) (and_f _ _) rfl rfl (fun g10 => trivial) (fun g10 => om), fun _ => by exact .guard (x0.Neg && !(decide ((n0.length : Int) = 0))) 2 [22] (.under rfl) (and_f _ _) rfl rfl (fun g11 => ⟨g11, trivial⟩) (fun g11 => op_index_e tySl70 (ix_lo (gc e12 g11)) (ix_map (e := eI) (gc e12 g11)) rfl rfl), fun _ => by exact .guard (x0.Neg && !(decide ((n0.length : Int) = 0))) 2 [23] (.under rfl) (and_f _ _) rfl rfl (fun g13 => ⟨g13, trivial⟩) (fun g13 => op_load_e1 tyOne3 rfl rfl), fun _ => by exact .guard (x0.Neg && !(decide ((n0.length : Int) = 0))) 3 [21, 24] (.under rfl) (and_f _ _) rfl rfl (fun g14 => ⟨g14, g14, trivial⟩) (fun g14 => op_lss rfl rfl), fun _ => by exact .guard x0.Neg 3 [18] (.plain rfl) (eq_t _) rfl rfl (fun g15 => ⟨g15, trivial⟩) (fun g15 => op_pick_or (fun e => by rw [g15, e]; rfl) rfl rfl rfl rfl), fun _ => .p (op_pick_and (fun e => e) rfl rfl rfl rfl), trivial⟩ rfl rfl ?_
 refine Tri.ite h rfl (fun _ h => ?_) (fun _ h => ?_)
 ·refine Tri.seq (Tri.keepS ⟨[(6, Pt 103 0), (7, Pt 104 0)], [(103, .box 25 zBig), (104, .box 25 (eBig x_1))]⟩ rfl ?_)
  obtain ⟨x_4, e16, h⟩ := bnd h
  obtain ⟨x_5, e17, h⟩ := bnd h
  refine Tri.regionY mixed 3 [.b (.agg (eBig x_1)), .b (.agg (eBig x_4)), .b (.agg (eBig x_5))] [6] [103] (s' := ⟨[(6, Pt 103 0)], [(103, .box 25 (eBig x_5))]⟩) rfl ⟨fun _ => .p (lp tyAgg25), fun _ => .p (op_call0 (w_Of_spec e16) goes91 rfl rfl), fun _ => .p (op_call0 (w_Sub_spec e17) goes96 rfl rfl), trivial⟩ ⟨_, by exact .p (op_store_p tyAgg25 rfl rfl rfl rfl (Nat.le_of_ble_eq_true rfl) rfl), rfl⟩ rfl (Tri.ret (Fin.then_ret ?_))
  obtain rfl := Option.some.inj h
  refine Fin.keepS ⟨[(6, Pt 103 0)], [(103, .box 25 (eBig x_5))]⟩ rfl (Fin.result' [.agg (eBig x_5)] (.inl rfl) rfl (.cons (.agg tyAgg25 rfl rfl rfl rfl) .nil) ⟨rfl, rfl⟩)
 ·refine Tri.skip (Fin.keepS ⟨[(6, Pt 103 0), (7, Pt 104 0)], [(103, .box 25 zBig), (104, .box 25 (eBig x_1))]⟩ rfl (Fin.then (Tri.seq (Tri.regionL ?_))))
  refine Oc (lp tyAgg25) (Oc (op_store_p tyAgg25 rfl rfl rfl rfl (Nat.le_of_ble_eq_true rfl) rfl) ?_)
  refine OpsL.nilS ⟨[(6, Pt 103 0)], [(103, .box 25 (eBig x_1))]⟩ rfl (Tri.ret ?_)
  obtain rfl := Option.some.inj h
  refine Fin.keepS ⟨[(6, Pt 103 0)], [(103, .box 25 (eBig x_1))]⟩ rfl (Fin.result' [.agg (eBig x_1)] (.inl rfl) rfl (.cons (.agg tyAgg25 rfl rfl rfl rfl) .nil) ⟨rfl, rfl⟩)
def w_Shift_S (F : Nat) (x0 : Big) (n0 : Int) : Option Big :=
 (w_good_S F [x0]).bind fun x_1 => if (!x_1) = true then ((w_Bad_S F).bind fun x_2 => some x_2) else ((w_Sign_S F x0).bind fun x_3 => if (decide (x_3 = 0)) = true then (some x0) else ((gcall ((!(decide (512 ≤ n0))) && (decide (0 < n0))) (w_Bits_S F x0)).bind fun x_4 => letN ((decide (512 ≤ n0)) || ((decide (0 < n0)) && (decide (512 < (IntKind.i64.wrap (x_4 + n0)))))) fun x_5 => if x_5 = true then ((w_Bad_S F).bind fun x_6 => some x_6) else (if (decide (n0 ≤ (-512))) = true then ((w_lost_S F x0 A16.zero []).bind fun x_7 => some x_7) else ((quo? .i64 n0 32).bind fun x_8 => if (decide (0 ≤ n0)) = true then (Option.bind (slo? 16 x_8) (fun x_9 => letN (A16.of (spliceE A16.zero.l ((x_8 : Int).toNat) ((x0.W.l.drop 0).take (min 16 (16 - (x_8 : Int).toNat))))) fun x_10 => Option.bind (w_up_S F x_10 (Int.tmod n0 32)) (un2 fun x_11 x_12 => (w_signed_S F x0.Neg x_11).bind fun x_13 => some x_13))) else (Option.bind (slo? 16 (IntKind.i64.wrap (-x_8))) (fun x_14 => (w_down_S F (A16.of (spliceE A16.zero.l 0 ((x0.W.l.drop ((IntKind.i64.wrap (-x_8) : Int).toNat)).take (min (16 - (IntKind.i64.wrap (-x_8) : Int).toNat) 16)))) (Int.tmod (IntKind.i64.wrap (-n0)) 32)).bind fun x_15 => (w_lost_S F x0 x_15 [IntKind.i64.wrap (-n0)]).bind fun x_16 => some x_16))))))
theorem w_Shift_spec {F : Nat} {x0 : Big} {n0 : Int} {r : Big} (h : w_Shift_S F x0 n0 = some r) : Meets Tryz.prog (tabs mx) 93 [] [.agg (eBig x0), .one (.i n0)] (Is [] (.b (.agg (eBig r)))) := by
 unfold w_Shift_S at h
 refine Meets.intro 75 Tryz.func93 Tryz.ntmps93 rfl (by simp) fun E => ?_
 show Tri _ E ⟨75, [], []⟩ _ ⟨[(0, .b (.agg (eBig x0))), (1, I n0)], []⟩ _
 refine Tri.seq (Tri.regionL ?_)
 refine Oc (op_box (k := 101) rfl rfl) (Oc (op_alloc (k := 102) tyZero25 rfl) ?_)
 refine OpsL.nilS ⟨[(1, I n0), (2, Pt 101 0), (4, Pt 102 0)], [(101, .box 25 (eBig x0)), (102, .box 25 zBig)]⟩ rfl (Tri.seq (Tri.block (Tri.seq (Tri.regionL ?_))))
 refine Oc (lp tyAgg25) (Oc (op_buildSlice (k := 103) (es := [x0].map eBig) tySl117 rfl rfl (uni_map fun _ => rfl) rfl (by decide) (by decide) rfl) ?_)
 obtain ⟨x_1, e1, h⟩ := bnd h
 refine Oc (op_callB (w_good_spec e1) goes113 rfl CP.flat_bool) (Oc (op_not rfl) (Oc oa ?_))
 refine OpsL.nilS ⟨[(1, I n0), (2, Pt 101 0), (4, Pt 102 0), (7, B (!x_1))], [(101, .box 25 (eBig x0)), (102, .box 25 zBig)]⟩ rfl (Tri.ite h rfl (fun _ h => ?_) (fun _ h => ?_))
 ·refine Tri.seq (Tri.regionL ?_)
  obtain ⟨x_2, e2, h⟩ := bnd h
  refine Oc (op_call0 (w_Bad_spec e2) goes92 rfl rfl) (Oc (op_store_p tyAgg25 rfl rfl rfl rfl (Nat.le_of_ble_eq_true rfl) rfl) ?_)
  refine OpsL.nilS ⟨[(4, Pt 102 0)], [(102, .box 25 (eBig x_2))]⟩ rfl (Tri.ret (Fin.block_ret (Fin.then_ret ?_)))
  obtain rfl := Option.some.inj h
  refine Fin.keepS ⟨[(4, Pt 102 0)], [(102, .box 25 (eBig x_2))]⟩ rfl (Fin.result' [.agg (eBig x_2)] (.inl rfl) rfl (.cons (.agg tyAgg25 rfl rfl rfl rfl) .nil) ⟨rfl, rfl⟩)
 ·refine Tri.seq (Tri.regionL ?_)
  refine Oc (lp tyAgg25) ?_
  obtain ⟨x_3, e3, h⟩ := bnd h
  refine Oc (op_call0 (w_Sign_spec e3) goes72 rfl rfl) (Oc (op_eql rfl rfl) (Oc oa ?_))
  refine OpsL.nilS ⟨[(1, I n0), (2, Pt 101 0), (4, Pt 102 0), (13, B (decide (x_3 = 0)))], [(101, .box 25 (eBig x0)), (102, .box 25 zBig)]⟩ rfl (Tri.ite h rfl (fun _ h => ?_) (fun _ h => ?_))
  ·refine Tri.seq (Tri.regionL ?_)
   refine Oc (lp tyAgg25) (Oc (op_store_p tyAgg25 rfl rfl rfl rfl (Nat.le_of_ble_eq_true rfl) rfl) ?_)
   refine OpsL.nilS ⟨[(4, Pt 102 0)], [(102, .box 25 (eBig x0))]⟩ rfl (Tri.ret (Fin.block_ret (Fin.then_ret ?_)))
   obtain rfl := Option.some.inj h
   refine Fin.keepS ⟨[(4, Pt 102 0)], [(102, .box 25 (eBig x0))]⟩ rfl (Fin.result' [.agg (eBig x0)] (.inl rfl) rfl (.cons (.agg tyAgg25 rfl rfl rfl rfl) .nil) ⟨rfl, rfl⟩)
  ·refine Tri.seq (Tri.regionL ?_)
   refine Oc om (Oc (op_geq rfl rfl) (Oc om ?_))
   refine CgF (!(decide (512 ≤ n0))) [] (fun g4 => trivial) (fun g4 => om) (CgF (!(decide (512 ≤ n0))) [22] (fun g5 => by exact ⟨g5, trivial⟩) (fun g5 => op_gtr rfl rfl) (CgF (!(decide (512 ≤ n0))) [23] (fun g6 => by exact ⟨g6, trivial⟩) (fun g6 => om) (OpsL.consG ((!(decide (512 ≤ n0))) && (decide (0 < n0))) 99 [] (.under rfl) (and_t _ _) rfl rfl (fun g7 => by exact trivial) (fun g7 => lp tyAgg25) (OpsL.keepS ⟨[(1, I n0), (2, Pt 101 0), (4, Pt 102 0), (21, B (decide (512 ≤ n0))), (24, .opt (!(decide (512 ≤ n0))) (.one (.bool (decide (0 < n0))))), (25, .opt ((!(decide (512 ≤ n0))) && (decide (0 < n0))) (.agg (eBig x0)))], [(101, .box 25 (eBig x0)), (102, .box 25 zBig)]⟩ rfl ?_))))
   obtain ⟨x_4, e9, h⟩ := bnd h
   refine OpsL.consG ((!(decide (512 ≤ n0))) && (decide (0 < n0))) 99 [25] (.under rfl) (and_t _ _) rfl rfl (fun g8 => ⟨g8, trivial⟩) (fun g8 => op_call0 (w_Bits_spec (gc e9 g8)) goes123 rfl rfl) (OpsL.consG ((!(decide (512 ≤ n0))) && (decide (0 < n0))) 99 [] (.under rfl) (and_t _ _) rfl rfl (fun g10 => trivial) (fun g10 => om) (OpsL.consG ((!(decide (512 ≤ n0))) && (decide (0 < n0))) 99 [26, 27] (.under rfl) (and_t _ _) rfl rfl (fun g11 => by exact ⟨g11, g11, trivial⟩) (fun g11 => op_add rfl rfl) (OpsL.consG ((!(decide (512 ≤ n0))) && (decide (0 < n0))) 99 [28] (.under rfl) (and_t _ _) rfl rfl (fun g12 => by exact ⟨g12, trivial⟩) (fun g12 => op_gtr rfl rfl) (CgF (!(decide (512 ≤ n0))) [24] (fun g13 => by exact ⟨g13, trivial⟩) (fun g13 => op_pick_and (fun e => by rw [g13, e]; rfl) rfl rfl rfl rfl) (OpsL.consB h rfl (op_pick_or (fun e => by rw [e]; rfl) rfl rfl rfl rfl) (fun x_5 h => ?_))))))
   refine Oc oa (OpsL.nilS ⟨[(1, I n0), (2, Pt 101 0), (4, Pt 102 0), (18, B x_5)], [(101, .box 25 (eBig x0)), (102, .box 25 zBig)]⟩ rfl (Tri.ite h rfl (fun _ h => ?_) (fun _ h => ?_)))
   ·refine Tri.seq (Tri.regionL ?_)
    obtain ⟨x_6, e14, h⟩ := bnd h
    refine Oc (op_call0 (w_Bad_spec e14) goes92 rfl rfl) (Oc (op_store_p tyAgg25 rfl rfl rfl rfl (Nat.le_of_ble_eq_true rfl) rfl) ?_)
    refine OpsL.nilS ⟨[(4, Pt 102 0)], [(102, .box 25 (eBig x_6))]⟩ rfl (Tri.ret (Fin.block_ret (Fin.then_ret ?_)))
    obtain rfl := Option.some.inj h
    refine Fin.keepS ⟨[(4, Pt 102 0)], [(102, .box 25 (eBig x_6))]⟩ rfl (Fin.result' [.agg (eBig x_6)] (.inl rfl) rfl (.cons (.agg tyAgg25 rfl rfl rfl rfl) .nil) ⟨rfl, rfl⟩)
   ·refine Tri.seq (Tri.regionL ?_)
    refine Oc om (Oc (op_leq rfl rfl) (Oc oa ?_))
    refine OpsL.nilS ⟨[(1, I n0), (2, Pt 101 0), (4, Pt 102 0), (33, B (decide (n0 ≤ (-512))))], [(101, .box 25 (eBig x0)), (102, .box 25 zBig)]⟩ rfl (Tri.ite h rfl (fun _ h => ?_) (fun _ h => ?_))
    ·refine Tri.seq (Tri.regionL ?_)
     refine Oc (lp tyAgg25) (Oc (op_buildA tyBuild23 rfl rfl) ?_)
     obtain ⟨x_7, e15, h⟩ := bnd h
     refine Oc (op_call0 (Meets.nilA 2 (by decide) (w_lost_spec e15) rfl) goes124 rfl rfl) (Oc (op_store_p tyAgg25 rfl rfl rfl rfl (Nat.le_of_ble_eq_true rfl) rfl) ?_)
     refine OpsL.nilS ⟨[(4, Pt 102 0)], [(102, .box 25 (eBig x_7))]⟩ rfl (Tri.ret (Fin.block_ret (Fin.then_ret ?_)))
     obtain rfl := Option.some.inj h
     refine Fin.keepS ⟨[(4, Pt 102 0)], [(102, .box 25 (eBig x_7))]⟩ rfl (Fin.result' [.agg (eBig x_7)] (.inl rfl) rfl (.cons (.agg tyAgg25 rfl rfl rfl rfl) .nil) ⟨rfl, rfl⟩)
    ·refine Tri.skip (Fin.block_normal (Fin.keepS ⟨[(1, I n0), (2, Pt 101 0), (4, Pt 102 0)], [(101, .box 25 (eBig x0)), (102, .box 25 zBig)]⟩ rfl (Fin.then (Tri.seq (Tri.regionL ?_)))))
     refine Oc (op_alloc (k := 104) tyZero23 rfl) (OpsL.nilS ⟨[(1, I n0), (2, Pt 101 0), (4, Pt 102 0), (5, Pt 104 0)], [(101, .box 25 (eBig x0)), (102, .box 25 zBig), (104, .box 23 (eW A16.zero))]⟩ rfl (Tri.seq (Tri.regionL ?_)))
     refine Oc om ?_
     obtain ⟨x_8, e16, h⟩ := bnd h
     refine Oc (op_quo2 e16 rfl rfl) (Oc oa ?_)
     refine OpsL.nilS ⟨[(1, I n0), (2, Pt 101 0), (4, Pt 102 0), (5, Pt 104 0), (6, I x_8)], [(101, .box 25 (eBig x0)), (102, .box 25 zBig), (104, .box 23 (eW A16.zero))]⟩ rfl (Tri.seq (Tri.seq (Tri.regionL ?_)))
     refine Oc om (Oc (op_geq rfl rfl) ?_)
     refine OpsL.nilS ⟨[(1, I n0), (2, Pt 101 0), (4, Pt 102 0), (5, Pt 104 0), (6, I x_8), (42, B (decide (0 ≤ n0)))], [(101, .box 25 (eBig x0)), (102, .box 25 zBig), (104, .box 23 (eW A16.zero))]⟩ rfl (Tri.ite h rfl (fun _ h => ?_) (fun _ h => ?_))
     ·refine Tri.seq (Tri.keepS ⟨[(1, I n0), (2, Pt 101 0), (4, Pt 102 0), (5, Pt 104 0), (6, I x_8)], [(101, .box 25 (eBig x0)), (102, .box 25 zBig), (104, .box 23 (eW A16.zero))]⟩ rfl ?_)
      obtain ⟨x_9, e17, h⟩ := bnd h
      refine Tri.regionY mixed 4 [I x_8, .b (.psl 104 (0 + (x_8 : Int).toNat) (16 - (x_8 : Int).toNat) (16 - (x_8 : Int).toNat)), Pt 101 2, .b (.psl 101 2 16 16)] [1, 2, 4, 5] [101, 102, 104] (s' := ⟨[(1, I n0), (2, Pt 101 0), (4, Pt 102 0), (5, Pt 104 0)], [(101, .box 25 (eBig x0)), (102, .box 25 zBig), (104, .box 23 (eW (A16.of (spliceE A16.zero.l ((x_8 : Int).toNat) ((x0.W.l.drop 0).take (min 16 (16 - (x_8 : Int).toNat)))))))]⟩) rfl ⟨fun _ => .p om, fun _ => .p (op_slice_al tyArr23 (slo_lo e17) (slo_hi e17) rfl rfl), fun _ => .p (op_field_p tyFld25_2 rfl rfl), fun _ => .p (op_slice_a tyArr23 (by decide) rfl), trivial⟩ ⟨_, by exact .p (op_copy_psl (m := min 16 (16 - (x_8 : Int).toNat)) tySl100 (by rfl) (by have q0_ := slo_lo e17; have p0_ := slo_hi e17; first | decide | (show (min 16 (16 - (x_8 : Int).toNat)) ≤ 9223372036854775807; omega)) rfl rfl rfl rfl (by have q0_ := slo_lo e17; have p0_ := slo_hi e17; first | decide | (show (0 + (x_8 : Int).toNat) + (min 16 (16 - (x_8 : Int).toNat)) ≤ 16; omega)) (by have q0_ := slo_lo e17; have p0_ := slo_hi e17; first | decide | (show 2 + (min 16 (16 - (x_8 : Int).toNat)) ≤ 18; omega)) (splice_arr (a := 0) (a2 := 2) (off := 0 + (x_8 : Int).toNat) (off2 := 2) (post := []) (post2 := []) (l := A16.zero.l) (l2 := x0.W.l) (kd := .u32) (lo := (x_8 : Int).toNat) (lo2 := 0) [] [.bool x0.Bad, .bool x0.Neg] rfl rfl rfl rfl (by omega) (by omega) (by have q0_ := slo_lo e17; have p0_ := slo_hi e17; first | decide | (show ((x_8 : Int).toNat) + (min 16 (16 - (x_8 : Int).toNat)) ≤ 16; omega)) (by have q0_ := slo_lo e17; have p0_ := slo_hi e17; first | decide | (show 0 + (min 16 (16 - (x_8 : Int).toNat)) ≤ 16; omega)) (A16.l_of (spliceE_lenA rfl (by have q0_ := slo_lo e17; have p0_ := slo_hi e17; first | decide | (show ((x_8 : Int).toNat) + (min 16 (16 - (x_8 : Int).toNat)) ≤ 16; omega)) (by have q0_ := slo_lo e17; have p0_ := slo_hi e17; first | decide | (show 0 + (min 16 (16 - (x_8 : Int).toNat)) ≤ 16; omega)))) rfl)), rfl⟩ rfl (Tri.seq (Tri.regionL ?_))
      refine OpsL.consA eW h rfl (lp tyAgg23) (fun x_10 h => ?_)
      refine Oc om (Oc (op_rem (by decide) rfl rfl) ?_)
      obtain ⟨⟨x_11, x_12⟩, e18, h⟩ := bnd h
      refine Oc (op_call0 (w_up_spec e18) goes125 rfl rfl) (Oc om ?_)
      refine OpsL.keepS ⟨[(2, Pt 101 0), (4, Pt 102 0), (5, Pt 104 0), (48, .tup [.agg (eW x_11), .one (.int .u32 x_12)])], [(101, .box 25 (eBig x0)), (102, .box 25 zBig), (104, .box 23 (eW (A16.of (spliceE A16.zero.l ((x_8 : Int).toNat) ((x0.W.l.drop 0).take (min 16 (16 - (x_8 : Int).toNat)))))))]⟩ rfl (Oc (op_extract rfl rfl) (Oc (op_extract rfl rfl) (Oc (op_store_p tyAgg23 rfl rfl rfl rfl (Nat.le_of_ble_eq_true rfl) rfl) ?_)))
      refine OpsL.nilS ⟨[(2, Pt 101 0), (4, Pt 102 0), (5, Pt 104 0)], [(101, .box 25 (eBig x0)), (102, .box 25 zBig), (104, .box 23 (eW x_11))]⟩ rfl (Tri.seq (Tri.regionL ?_))
      refine Oc (op_field_p tyFld25_1 rfl rfl) (Oc (op_load_p1 tyOne4 rfl rfl rfl) (Oc (lp tyAgg23) ?_))
      obtain ⟨x_13, e19, h⟩ := bnd h
      refine Oc (op_call0 (w_signed_spec e19) goes115 rfl rfl) (Oc (op_store_p tyAgg25 rfl rfl rfl rfl (Nat.le_of_ble_eq_true rfl) rfl) ?_)
      refine OpsL.nilS ⟨[(4, Pt 102 0)], [(102, .box 25 (eBig x_13))]⟩ rfl (Tri.ret (Fin.then_ret ?_))
      obtain rfl := Option.some.inj h
      refine Fin.keepS ⟨[(4, Pt 102 0)], [(102, .box 25 (eBig x_13))]⟩ rfl (Fin.result' [.agg (eBig x_13)] (.inl rfl) rfl (.cons (.agg tyAgg25 rfl rfl rfl rfl) .nil) ⟨rfl, rfl⟩)
     ·refine Tri.skip (Fin.keepS ⟨[(1, I n0), (2, Pt 101 0), (4, Pt 102 0), (5, Pt 104 0), (6, I x_8)], [(101, .box 25 (eBig x0)), (102, .box 25 zBig), (104, .box 23 (eW A16.zero))]⟩ rfl (Fin.then (Tri.seq ?_)))
      refine Tri.keepS ⟨[(1, I n0), (2, Pt 101 0), (4, Pt 102 0), (5, Pt 104 0), (6, I x_8)], [(101, .box 25 (eBig x0)), (102, .box 25 zBig), (104, .box 23 (eW A16.zero))]⟩ rfl ?_
      obtain ⟨x_14, e20, h⟩ := bnd h
      refine Tri.regionY mixed 5 [.b (.psl 104 0 16 16), Pt 101 2, I x_8, I (IntKind.i64.wrap (-x_8)), .b (.psl 101 (2 + (IntKind.i64.wrap (-x_8) : Int).toNat) (16 - (IntKind.i64.wrap (-x_8) : Int).toNat) (16 - (IntKind.i64.wrap (-x_8) : Int).toNat))] [1, 2, 4, 5] [101, 102, 104] (s' := ⟨[(1, I n0), (2, Pt 101 0), (4, Pt 102 0), (5, Pt 104 0)], [(101, .box 25 (eBig x0)), (102, .box 25 zBig), (104, .box 23 (eW (A16.of (spliceE A16.zero.l 0 ((x0.W.l.drop ((IntKind.i64.wrap (-x_8) : Int).toNat)).take (min (16 - (IntKind.i64.wrap (-x_8) : Int).toNat) 16))))))]⟩) rfl ⟨fun _ => .p (op_slice_a tyArr23 (by decide) rfl), fun _ => .p (op_field_p tyFld25_2 rfl rfl), fun _ => .p om, fun _ => .p (op_neg rfl), fun _ => .p (op_slice_al tyArr23 (slo_lo e20) (slo_hi e20) rfl rfl), trivial⟩ ⟨_, by exact .p (op_copy_psl (m := min (16 - (IntKind.i64.wrap (-x_8) : Int).toNat) 16) tySl100 (by rfl) (by have q1_ := slo_lo e20; have p1_ := slo_hi e20; first | decide | (show (min (16 - (IntKind.i64.wrap (-x_8) : Int).toNat) 16) ≤ 9223372036854775807; omega)) rfl rfl rfl rfl (by have q1_ := slo_lo e20; have p1_ := slo_hi e20; first | decide | (show 0 + (min (16 - (IntKind.i64.wrap (-x_8) : Int).toNat) 16) ≤ 16; omega)) (by have q1_ := slo_lo e20; have p1_ := slo_hi e20; first | decide | (show (2 + (IntKind.i64.wrap (-x_8) : Int).toNat) + (min (16 - (IntKind.i64.wrap (-x_8) : Int).toNat) 16) ≤ 18; omega)) (splice_arr (a := 0) (a2 := 2) (off := 0) (off2 := 2 + (IntKind.i64.wrap (-x_8) : Int).toNat) (post := []) (post2 := []) (l := A16.zero.l) (l2 := x0.W.l) (kd := .u32) (lo := 0) (lo2 := (IntKind.i64.wrap (-x_8) : Int).toNat) [] [.bool x0.Bad, .bool x0.Neg] rfl rfl rfl rfl (by omega) (by omega) (by have q1_ := slo_lo e20; have p1_ := slo_hi e20; first | decide | (show 0 + (min (16 - (IntKind.i64.wrap (-x_8) : Int).toNat) 16) ≤ 16; omega)) (by have q1_ := slo_lo e20; have p1_ := slo_hi e20; first | decide | (show ((IntKind.i64.wrap (-x_8) : Int).toNat) + (min (16 - (IntKind.i64.wrap (-x_8) : Int).toNat) 16) ≤ 16; omega)) (A16.l_of (spliceE_lenA rfl (by have q1_ := slo_lo e20; have p1_ := slo_hi e20; first | decide | (show 0 + (min (16 - (IntKind.i64.wrap (-x_8) : Int).toNat) 16) ≤ 16; omega)) (by have q1_ := slo_lo e20; have p1_ := slo_hi e20; first | decide | (show ((IntKind.i64.wrap (-x_8) : Int).toNat) + (min (16 - (IntKind.i64.wrap (-x_8) : Int).toNat) 16) ≤ 16; omega)))) rfl)), rfl⟩ rfl (Tri.seq (Tri.keepS ⟨[(1, I n0), (2, Pt 101 0), (4, Pt 102 0), (5, Pt 104 0)], [(101, .box 25 (eBig x0)), (102, .box 25 zBig), (104, .box 23 (eW (A16.of (spliceE A16.zero.l 0 ((x0.W.l.drop ((IntKind.i64.wrap (-x_8) : Int).toNat)).take (min (16 - (IntKind.i64.wrap (-x_8) : Int).toNat) 16))))))]⟩ rfl ?_))
      obtain ⟨x_15, e21, h⟩ := bnd h
      obtain ⟨x_16, e22, h⟩ := bnd h
      refine Tri.regionY mixed 10 [.b (.agg (eBig x0)), .b (.agg (eW (A16.of (spliceE A16.zero.l 0 ((x0.W.l.drop ((IntKind.i64.wrap (-x_8) : Int).toNat)).take (min (16 - (IntKind.i64.wrap (-x_8) : Int).toNat) 16)))))), I n0, I (IntKind.i64.wrap (-n0)), I (Int.tmod (IntKind.i64.wrap (-n0)) 32), .b (.agg (eW x_15)), I n0, I (IntKind.i64.wrap (-n0)), .b (.one (.sl 1 ([IntKind.i64.wrap (-n0)].map eI))), .b (.agg (eBig x_16))] [4] [102] (s' := ⟨[(4, Pt 102 0)], [(102, .box 25 (eBig x_16))]⟩) rfl ⟨fun _ => .p (lp tyAgg25), fun _ => .p (lp tyAgg23), fun _ => .p om, fun _ => .p (op_neg rfl), fun _ => .p (op_rem (by decide) rfl rfl), fun _ => .p (op_call0 (w_down_spec e21) goes126 rfl rfl), fun _ => .p om, fun _ => .p (op_neg rfl), fun _ => .p (op_buildSliceP (es := [IntKind.i64.wrap (-n0)].map eI) tySl70 rfl rfl (uni_map fun _ => rfl) rfl (by decide) (by decide)), fun _ => .p (op_call0 (w_lost_spec e22) goes124 rfl rfl), trivial⟩ ⟨_, by exact .p (op_store_p tyAgg25 rfl rfl rfl rfl (Nat.le_of_ble_eq_true rfl) rfl), rfl⟩ rfl (Tri.ret ?_)
      obtain rfl := Option.some.inj h
      refine Fin.keepS ⟨[(4, Pt 102 0)], [(102, .box 25 (eBig x_16))]⟩ rfl (Fin.result' [.agg (eBig x_16)] (.inl rfl) rfl (.cons (.agg tyAgg25 rfl rfl rfl rfl) .nil) ⟨rfl, rfl⟩)
def q_Dyadic_S (F : Nat) (x0 : Frc) (k0 : Int) : Option (Frc × Frc) :=
 (q_Good_S F x0).bind fun x_1 => if (((!x_1) || (decide (k0 < 0))) || (decide (256 < k0))) = true then ((q_Bad_S F).bind fun x_2 => (q_Bad_S F).bind fun x_3 => some (x_2, x_3)) else ((w_Shift_S F x0.N k0).bind fun x_4 => (q_one_S F).bind fun x_5 => (w_Shift_S F x_5 k0).bind fun x_6 => (w_Quo_S F x_4 x0.D).bind fun x_7 => (q_Make_S F x_7 x_6).bind fun x_8 => (w_Neg_S F x_4).bind fun x_9 => (w_Quo_S F x_9 x0.D).bind fun x_10 => (w_Neg_S F x_10).bind fun x_11 => (q_Make_S F x_11 x_6).bind fun x_12 => (q_Good_S F x_8).bind fun x_13 => (gcall (!(!x_13)) (q_Good_S F x_12)).bind fun x_14 => if ((!x_13) || (!x_14)) = true then ((q_Bad_S F).bind fun x_15 => (q_Bad_S F).bind fun x_16 => some (x_15, x_16)) else (some (x_8, x_12)))
theorem q_Dyadic_spec {F : Nat} {x0 : Frc} {k0 : Int} {r : Frc × Frc} (h : q_Dyadic_S F x0 k0 = some r) : Meets Tryz.prog (tabs mx) 29 [] [.agg (eFrc x0), .one (.i k0)] (Is [] (.tup [.agg (eFrc r.1), .agg (eFrc r.2)])) := by
 unfold q_Dyadic_S at h
 refine Meets.intro 54 Tryz.func29 Tryz.ntmps29 rfl (by simp) fun E => ?_
 show Tri _ E ⟨54, [], []⟩ _ ⟨[(0, .b (.agg (eFrc x0))), (1, I k0)], []⟩ _
 refine Tri.seq (Tri.regionL ?_)
 refine Oc (op_box (k := 101) rfl rfl) (Oc (op_alloc (k := 102) tyZero27 rfl) (Oc (op_alloc (k := 103) tyZero27 rfl) ?_))
 refine OpsL.nilS ⟨[(1, I k0), (2, Pt 101 0), (4, Pt 102 0), (5, Pt 103 0)], [(101, .box 27 (eFrc x0)), (102, .box 27 zFrc), (103, .box 27 zFrc)]⟩ rfl (Tri.seq (Tri.seq (Tri.regionL ?_)))
 refine Oc (lp tyAgg27) ?_
 obtain ⟨x_1, e1, h⟩ := bnd h
 refine Oc (op_call0 (q_Good_spec e1) goes26 rfl rfl) (Oc (op_not rfl) (Oc om ?_))
 refine CgF (!(!x_1)) [] (fun g2 => trivial) (fun g2 => om) (OpsL.keepS ⟨[(1, I k0), (2, Pt 101 0), (4, Pt 102 0), (5, Pt 103 0), (11, B (!x_1)), (12, .opt (!(!x_1)) (.one (.i k0)))], [(101, .box 27 (eFrc x0)), (102, .box 27 zFrc), (103, .box 27 zFrc)]⟩ rfl (CgF (!(!x_1)) [12] (fun g3 => by exact ⟨g3, trivial⟩) (fun g3 => op_lss rfl rfl) (Oc (op_pick_or (fun e => by rw [e]; rfl) rfl rfl rfl rfl) (Oc om ?_))))
 refine CgF (!((!x_1) || (decide (k0 < 0)))) [] (fun g4 => trivial) (fun g4 => om) (CgF (!((!x_1) || (decide (k0 < 0)))) [16] (fun g5 => by exact ⟨g5, trivial⟩) (fun g5 => op_gtr rfl rfl) (Oc (op_pick_or (fun e => by rw [e]; rfl) rfl rfl rfl rfl) (OpsL.nilS ⟨[(1, I k0), (2, Pt 101 0), (4, Pt 102 0), (5, Pt 103 0), (18, B (((!x_1) || (decide (k0 < 0))) || (decide (256 < k0))))], [(101, .box 27 (eFrc x0)), (102, .box 27 zFrc), (103, .box 27 zFrc)]⟩ rfl (Tri.ite h rfl (fun _ h => ?_) (fun _ h => ?_)))))
 ·refine Tri.seq (Tri.regionL ?_)
  obtain ⟨x_2, e6, h⟩ := bnd h
  refine Oc (op_call0 (q_Bad_spec e6) goes27 rfl rfl) ?_
  obtain ⟨x_3, e7, h⟩ := bnd h
  refine Oc (op_call0 (q_Bad_spec e7) goes27 rfl rfl) (Oc (op_store_p tyAgg27 rfl rfl rfl rfl (Nat.le_of_ble_eq_true rfl) rfl) (Oc (op_store_p tyAgg27 rfl rfl rfl rfl (Nat.le_of_ble_eq_true rfl) rfl) ?_))
  refine OpsL.nilS ⟨[(4, Pt 102 0), (5, Pt 103 0)], [(102, .box 27 (eFrc x_2)), (103, .box 27 (eFrc x_3))]⟩ rfl (Tri.ret (Fin.then_ret ?_))
  obtain rfl := Option.some.inj h
  refine Fin.keepS ⟨[(4, Pt 102 0), (5, Pt 103 0)], [(102, .box 27 (eFrc x_2)), (103, .box 27 (eFrc x_3))]⟩ rfl (Fin.result' [.agg (eFrc x_2), .agg (eFrc x_3)] (.inl rfl) rfl (.cons (.agg tyAgg27 rfl rfl rfl rfl) (.cons (.agg tyAgg27 rfl rfl rfl rfl) .nil)) ⟨rfl, rfl⟩)
 ·refine Tri.skip (Fin.keepS ⟨[(1, I k0), (2, Pt 101 0), (4, Pt 102 0), (5, Pt 103 0)], [(101, .box 27 (eFrc x0)), (102, .box 27 zFrc), (103, .box 27 zFrc)]⟩ rfl (Fin.then (Tri.seq (Tri.regionL ?_))))
  refine Oc (op_field_p tyFld27_0 rfl rfl) (Oc (lp tyAgg25) (Oc om ?_))
  obtain ⟨x_4, e8, h⟩ := bnd h
  refine Oc (op_call0 (w_Shift_spec e8) goes93 rfl rfl) (OpsL.keepS ⟨[(1, I k0), (2, Pt 101 0), (4, Pt 102 0), (5, Pt 103 0), (24, .b (.agg (eBig x_4)))], [(101, .box 27 (eFrc x0)), (102, .box 27 zFrc), (103, .box 27 zFrc)]⟩ rfl ?_)
  obtain ⟨x_5, e9, h⟩ := bnd h
  refine Oc (op_call0 (q_one_spec e9) goes90 rfl rfl) (Oc om ?_)
  obtain ⟨x_6, e10, h⟩ := bnd h
  refine Oc (op_call0 (w_Shift_spec e10) goes93 rfl rfl) (Oc (op_alloc (k := 104) tyZero25 rfl) ?_)
  refine OpsL.keepS ⟨[(2, Pt 101 0), (4, Pt 102 0), (5, Pt 103 0), (6, Pt 104 0), (24, .b (.agg (eBig x_4))), (27, .b (.agg (eBig x_6)))], [(101, .box 27 (eFrc x0)), (102, .box 27 zFrc), (103, .box 27 zFrc), (104, .box 25 zBig)]⟩ rfl (Oc (op_alloc (k := 105) tyZero25 rfl) (Oc (op_store_p tyAgg25 rfl rfl rfl rfl (Nat.le_of_ble_eq_true rfl) rfl) (Oc (op_store_p tyAgg25 rfl rfl rfl rfl (Nat.le_of_ble_eq_true rfl) rfl) ?_)))
  refine OpsL.nilS ⟨[(2, Pt 101 0), (4, Pt 102 0), (5, Pt 103 0), (6, Pt 104 0), (7, Pt 105 0)], [(101, .box 27 (eFrc x0)), (102, .box 27 zFrc), (103, .box 27 zFrc), (104, .box 25 (eBig x_4)), (105, .box 25 (eBig x_6))]⟩ rfl (Tri.seq ?_)
  obtain ⟨x_7, e11, h⟩ := bnd h
  obtain ⟨x_8, e12, h⟩ := bnd h
  refine Tri.regionY mixed 6 [.b (.agg (eBig x_4)), Pt 101 18, .b (.agg (eBig x0.D)), .b (.agg (eBig x_7)), .b (.agg (eBig x_6)), .b (.agg (eFrc x_8))] [2, 4, 5, 6, 7] [101, 102, 103, 104, 105] (s' := ⟨[(2, Pt 101 0), (4, Pt 102 0), (5, Pt 103 0), (6, Pt 104 0), (7, Pt 105 0)], [(101, .box 27 (eFrc x0)), (102, .box 27 (eFrc x_8)), (103, .box 27 zFrc), (104, .box 25 (eBig x_4)), (105, .box 25 (eBig x_6))]⟩) rfl ⟨fun _ => .p (lp tyAgg25), fun _ => .p (op_field_p tyFld27_1 rfl rfl), fun _ => .p (lp tyAgg25), fun _ => .p (op_call0 (w_Quo_spec e11) goes75 rfl rfl), fun _ => .p (lp tyAgg25), fun _ => .p (op_call0 (q_Make_spec e12) goes11 rfl rfl), trivial⟩ ⟨_, by exact .p (op_store_p tyAgg27 rfl rfl rfl rfl (Nat.le_of_ble_eq_true rfl) rfl), rfl⟩ rfl (Tri.seq (Tri.keepS ⟨[(2, Pt 101 0), (4, Pt 102 0), (5, Pt 103 0), (6, Pt 104 0), (7, Pt 105 0)], [(101, .box 27 (eFrc x0)), (102, .box 27 (eFrc x_8)), (103, .box 27 zFrc), (104, .box 25 (eBig x_4)), (105, .box 25 (eBig x_6))]⟩ rfl ?_))
  obtain ⟨x_9, e13, h⟩ := bnd h
  obtain ⟨x_10, e14, h⟩ := bnd h
  obtain ⟨x_11, e15, h⟩ := bnd h
  obtain ⟨x_12, e16, h⟩ := bnd h
  refine Tri.regionY mixed 8 [.b (.agg (eBig x_4)), .b (.agg (eBig x_9)), Pt 101 18, .b (.agg (eBig x0.D)), .b (.agg (eBig x_10)), .b (.agg (eBig x_11)), .b (.agg (eBig x_6)), .b (.agg (eFrc x_12))] [4, 5] [102, 103] (s' := ⟨[(4, Pt 102 0), (5, Pt 103 0)], [(102, .box 27 (eFrc x_8)), (103, .box 27 (eFrc x_12))]⟩) rfl ⟨fun _ => .p (lp tyAgg25), fun _ => .p (op_call0 (w_Neg_spec e13) goes74 rfl rfl), fun _ => .p (op_field_p tyFld27_1 rfl rfl), fun _ => .p (lp tyAgg25), fun _ => .p (op_call0 (w_Quo_spec e14) goes75 rfl rfl), fun _ => .p (op_call0 (w_Neg_spec e15) goes74 rfl rfl), fun _ => .p (lp tyAgg25), fun _ => .p (op_call0 (q_Make_spec e16) goes11 rfl rfl), trivial⟩ ⟨_, by exact .p (op_store_p tyAgg27 rfl rfl rfl rfl (Nat.le_of_ble_eq_true rfl) rfl), rfl⟩ rfl (Tri.seq (Tri.seq (Tri.regionL ?_)))
  refine Oc (lp tyAgg27) ?_
  obtain ⟨x_13, e17, h⟩ := bnd h
  refine Oc (op_call0 (q_Good_spec e17) goes26 rfl rfl) (Oc (op_not rfl) (Oc om ?_))
  refine CgF (!(!x_13)) [] (fun g18 => trivial) (fun g18 => lp tyAgg27) (OpsL.keepS ⟨[(4, Pt 102 0), (5, Pt 103 0), (45, B (!x_13)), (46, .opt (!(!x_13)) (.agg (eFrc x_12)))], [(102, .box 27 (eFrc x_8)), (103, .box 27 (eFrc x_12))]⟩ rfl ?_)
  obtain ⟨x_14, e20, h⟩ := bnd h
  refine CgF (!(!x_13)) [46] (fun g19 => ⟨g19, trivial⟩) (fun g19 => op_call0 (q_Good_spec (gc e20 g19)) goes26 rfl rfl) (CgF (!(!x_13)) [47] (fun g21 => ⟨g21, trivial⟩) (fun g21 => op_not rfl) (Oc (op_pick_or (fun e => by rw [e]; rfl) rfl rfl rfl rfl) (OpsL.nilS ⟨[(4, Pt 102 0), (5, Pt 103 0), (49, B ((!x_13) || (!x_14)))], [(102, .box 27 (eFrc x_8)), (103, .box 27 (eFrc x_12))]⟩ rfl (Tri.ite h rfl (fun _ h => ?_) (fun _ h => ?_)))))
  ·refine Tri.seq (Tri.regionL ?_)
   obtain ⟨x_15, e22, h⟩ := bnd h
   refine Oc (op_call0 (q_Bad_spec e22) goes27 rfl rfl) ?_
   obtain ⟨x_16, e23, h⟩ := bnd h
   refine Oc (op_call0 (q_Bad_spec e23) goes27 rfl rfl) (Oc (op_store_p tyAgg27 rfl rfl rfl rfl (Nat.le_of_ble_eq_true rfl) rfl) (Oc (op_store_p tyAgg27 rfl rfl rfl rfl (Nat.le_of_ble_eq_true rfl) rfl) ?_))
   refine OpsL.nilS ⟨[(4, Pt 102 0), (5, Pt 103 0)], [(102, .box 27 (eFrc x_15)), (103, .box 27 (eFrc x_16))]⟩ rfl (Tri.ret (Fin.then_ret ?_))
   obtain rfl := Option.some.inj h
   refine Fin.keepS ⟨[(4, Pt 102 0), (5, Pt 103 0)], [(102, .box 27 (eFrc x_15)), (103, .box 27 (eFrc x_16))]⟩ rfl (Fin.result' [.agg (eFrc x_15), .agg (eFrc x_16)] (.inl rfl) rfl (.cons (.agg tyAgg27 rfl rfl rfl rfl) (.cons (.agg tyAgg27 rfl rfl rfl rfl) .nil)) ⟨rfl, rfl⟩)
  ·refine Tri.skip (Fin.keepS ⟨[(4, Pt 102 0), (5, Pt 103 0)], [(102, .box 27 (eFrc x_8)), (103, .box 27 (eFrc x_12))]⟩ rfl (Fin.then (Tri.seq ?_)))
   refine Tri.keepS ⟨[(4, Pt 102 0), (5, Pt 103 0)], [(102, .box 27 (eFrc x_8)), (103, .box 27 (eFrc x_12))]⟩ rfl (Tri.regionW mixed [false, false, true, true] [.b (.agg (eFrc x_8)), .b (.agg (eFrc x_12)), B true, B true] [⟨[false, false, false, false], [(4, Pt 102 0), (5, Pt 103 0)], [(102, .box 27 (eFrc x_8)), (103, .box 27 (eFrc x_12))], [true, true, true, true], []⟩, ⟨[false, false, true, false], [(4, Pt 102 0), (5, Pt 103 0)], [(102, .box 27 (eFrc x_8)), (103, .box 27 (eFrc x_12))], [true, true, true, true], [0, 2]⟩, ⟨[false, false, true, true], [(4, Pt 102 0), (5, Pt 103 0)], [(102, .box 27 (eFrc x_8)), (103, .box 27 (eFrc x_12))], [true, true, true, true], [0, 1, 2, 3]⟩] rfl (⟨by kernel_rfl, ⟨⟨.b (.agg (eFrc x_8)), fun _ => rfl, fun _ => .p (by exact op_load_p tyAgg27 rfl rfl rfl rfl)⟩, ⟨.b (.agg (eFrc x_12)), fun _ => rfl, fun _ => .p (by exact op_load_p tyAgg27 rfl rfl rfl rfl)⟩, ⟨_, none, .b (.one .any), rfl, (fun e => by simp at e), rfl, rfl, fun _ => .toO [102, 103] (by exact .p (by exact op_store_p tyAgg27 rfl rfl rfl rfl (Nat.le_of_ble_eq_true rfl) rfl)) (by exact rfl)⟩, trivial, trivial⟩, ⟨by kernel_rfl, ⟨trivial, ⟨.b (.agg (eFrc x_12)), fun _ => rfl, fun _ => .p (by exact op_load_p tyAgg27 rfl rfl rfl rfl)⟩, trivial, ⟨_, none, .b (.one .any), rfl, (fun e => by simp at e), rfl, rfl, fun _ => .toO [102, 103] (by exact .p (by exact op_store_p tyAgg27 rfl rfl rfl rfl (Nat.le_of_ble_eq_true rfl) rfl)) (by exact rfl)⟩, trivial⟩, ⟨by kernel_rfl, ⟨trivial, trivial, trivial, trivial, trivial⟩, trivial⟩⟩⟩) rfl rfl rfl [4, 5] [102, 103] (s' := ⟨[(4, Pt 102 0), (5, Pt 103 0)], [(102, .box 27 (eFrc x_8)), (103, .box 27 (eFrc x_12))]⟩) rfl (Tri.ret ?_))
   obtain rfl := Option.some.inj h
   refine Fin.keepS ⟨[(4, Pt 102 0), (5, Pt 103 0)], [(102, .box 27 (eFrc x_8)), (103, .box 27 (eFrc x_12))]⟩ rfl (Fin.result' [.agg (eFrc x_8), .agg (eFrc x_12)] (.inl rfl) rfl (.cons (.agg tyAgg27 rfl rfl rfl rfl) (.cons (.agg tyAgg27 rfl rfl rfl rfl) .nil)) ⟨rfl, rfl⟩)
def w_Parse_S (F : Nat) (s0 : Str) : Option (Big × Int) :=
 Option.bind ((gcall (decide (0 < (s0.length : Int))) (idx? s0 0)).bind fun x_2 => letN ((decide (0 < (s0.length : Int))) && (decide ((x_2.toNat : Int) = 45))) fun x_3 => if x_3 = true then ((drop? s0 1).bind fun x_4 => some x_4) else (some s0)) (fun digits_1 => (gcall (!(decide (digits_1 = []))) (idx? digits_1 0)).bind fun x_5 => letN ((decide (digits_1 = [])) || ((decide ((x_5.toNat : Int) = 48)) && (decide (s0 ≠ [48])))) fun x_6 => if x_6 = true then ((w_Bad_S F).bind fun x_7 => some (x_7, 281)) else (Option.bind (iter F (fun x_8 => if (decide (x_8 < ((ofStr digits_1).length : Int))) = true then ((idx? (ofStr digits_1) x_8).bind fun x_9 => if ((decide (x_9 < 48)) || (decide (57 < x_9))) = true then ((w_Bad_S F).bind fun x_10 => some (.inr (.inr (x_10, 281)))) else (some (.inl (IntKind.i64.wrap (x_8 + 1))))) else (some (.inr (.inl ())))) 0) (alt2 (fun _ => if (decide (512 < (digits_1.length : Int))) = true then ((w_Bad_S F).bind fun x_11 => some (x_11, 30)) else ((w_Of_S F 0).bind fun x_12 => (w_Of_S F 10).bind fun x_13 => Option.bind (iter F (un2 fun x_15 x_16 => if (decide (x_16 < ((ofStr digits_1).length : Int))) = true then ((idx? (ofStr digits_1) x_16).bind fun x_18 => (w_Mul_S F x_15 x_13).bind fun x_19 => letN (IntKind.i64.wrap (IntKind.u8.wrap (x_18 - 48))) fun x_20 => (w_Of_S F x_20).bind fun x_21 => (w_Add_S F x_19 x_21).bind fun x_22 => some (.inl (x_22, IntKind.i64.wrap (x_16 + 1)))) else (some (.inr x_15))) (x_12, 0)) (fun x_14 => if x_14.Bad = true then (some (x_14, 30)) else ((w_signed_S F (decide (digits_1 ≠ s0)) x_14.W).bind fun x_23 => some (x_23, 0))))) (fun y => some y))))
theorem w_Parse_spec {F : Nat} {s0 : Str} {r : Big × Int} (h : w_Parse_S F s0 = some r) : Meets Tryz.prog (tabs mx) 106 [] [.one (.str s0)] (Is [] (.tup [.agg (eBig r.1), .one (.i r.2)])) := by
 unfold w_Parse_S at h
 refine Meets.intro 80 Tryz.func106 Tryz.ntmps106 rfl (by simp) fun E => ?_
 show Tri _ E ⟨80, [], []⟩ _ ⟨[(0, .b (.one (.str s0)))], []⟩ _
 refine Tri.seq (Tri.regionL ?_)
 refine Oc (op_alloc (k := 101) tyZero25 rfl) (Oc oa ?_)
 refine OpsL.nilS ⟨[(0, .b (.one (.str s0))), (2, Pt 101 0)], [(101, .box 25 zBig)]⟩ rfl (Tri.seq (Tri.regionL ?_))
 refine Oc om (Oc oa ?_)
 refine OpsL.nilS ⟨[(0, .b (.one (.str s0))), (2, Pt 101 0), (4, .b (.one (.str s0)))], [(101, .box 25 zBig)]⟩ rfl ?_
 obtain ⟨v1, h2, h⟩ := bnd h
 refine Tri.seqJ (v := v1) (fun (digits_1 : Str) => ⟨[(0, .b (.one (.str s0))), (2, Pt 101 0), (4, .b (.one (.str digits_1)))], [(101, .box 25 zBig)]⟩) (fun z => z) ?_ ?_
 ·refine Tri.seq (Tri.regionL ?_)
  refine Oc om (Oc (op_len_str und9 rfl) (Oc (op_gtr rfl rfl) (Oc om ?_)))
  refine CgT (decide (0 < (s0.length : Int))) [] (fun g3 => trivial) (fun g3 => om) ?_
  obtain ⟨x_2, e5, h2⟩ := bnd h2
  refine CgT (decide (0 < (s0.length : Int))) [16] (fun g4 => ⟨g4, trivial⟩) (fun g4 => op_index_str und9 rfl rfl (ix_lo (gc e5 g4)) (ix_get (gc e5 g4))) (CgT (decide (0 < (s0.length : Int))) [17] (fun g6 => ⟨g6, trivial⟩) (fun g6 => op_eql rfl rfl) (OpsL.consB h2 rfl (op_pick_and (fun e => e) rfl rfl rfl rfl) (fun x_3 h2 => ?_)))
  refine OpsL.nilS ⟨[(0, .b (.one (.str s0))), (2, Pt 101 0), (4, .b (.one (.str s0))), (19, B x_3)], [(101, .box 25 zBig)]⟩ rfl (Tri.ite h2 rfl (fun _ h2 => ?_) (fun _ h2 => ?_))
  ·refine Tri.regionL (Oc om ?_)
   obtain ⟨x_4, e7, h2⟩ := bnd h2
   refine Oc (op_slice_str_l und9 e7 rfl rfl) (Oc oa ?_)
   refine OpsL.nil ?_
   exact Fin.join [0, 2, 4] [101] x_4 (Option.some.inj h2) rfl
  ·refine Tri.skip ?_
   exact Fin.join [0, 2, 4] [101] s0 (Option.some.inj h2) rfl
 ·rintro digits_1 hv
  subst v1
  refine Tri.seq (Tri.seq (Tri.regionL ?_))
  refine Oc om (Oc (op_eql_str rfl rfl) (Oc om ?_))
  refine CgF (!(decide (digits_1 = []))) [] (fun g8 => trivial) (fun g8 => om) ?_
  obtain ⟨x_5, e10, h⟩ := bnd h
  refine CgF (!(decide (digits_1 = []))) [25] (fun g9 => ⟨g9, trivial⟩) (fun g9 => op_index_str und9 rfl rfl (ix_lo (gc e10 g9)) (ix_get (gc e10 g9))) (CgF (!(decide (digits_1 = []))) [26] (fun g11 => ⟨g11, trivial⟩) (fun g11 => op_eql rfl rfl) (CgF (!(decide (digits_1 = []))) [27] (fun g12 => ⟨g12, trivial⟩) (fun g12 => om) (OpsL.keepS ⟨[(0, .b (.one (.str s0))), (2, Pt 101 0), (4, .b (.one (.str digits_1))), (24, B (decide (digits_1 = []))), (28, .opt (!(decide (digits_1 = []))) (.one (.bool (decide ((x_5.toNat : Int) = 48)))))], [(101, .box 25 zBig)]⟩ rfl (OpsL.consG ((!(decide (digits_1 = []))) && (decide ((x_5.toNat : Int) = 48))) 99 [] (.under rfl) (and_t _ _) rfl rfl (fun g13 => by exact trivial) (fun g13 => om) (OpsL.consG ((!(decide (digits_1 = []))) && (decide ((x_5.toNat : Int) = 48))) 99 [29] (.under rfl) (and_t _ _) rfl rfl (fun g14 => by exact ⟨g14, trivial⟩) (fun g14 => op_neq_str rfl rfl) ?_)))))
  refine CgF (!(decide (digits_1 = []))) [28] (fun g15 => ⟨g15, trivial⟩) (fun g15 => op_pick_and (fun e => by rw [g15, e]; rfl) rfl rfl rfl rfl) (OpsL.consB h rfl (op_pick_or (fun e => by rw [e]; rfl) rfl rfl rfl rfl) (fun x_6 h => ?_))
  refine OpsL.nilS ⟨[(0, .b (.one (.str s0))), (2, Pt 101 0), (4, .b (.one (.str digits_1))), (32, B x_6)], [(101, .box 25 zBig)]⟩ rfl (Tri.ite h rfl (fun _ h => ?_) (fun _ h => ?_))
  ·refine Tri.seq (Tri.regionL ?_)
   obtain ⟨x_7, e16, h⟩ := bnd h
   refine Oc (op_call0 (w_Bad_spec e16) goes92 rfl rfl) (Oc (op_store_p tyAgg25 rfl rfl rfl rfl (Nat.le_of_ble_eq_true rfl) rfl) (Oc oa ?_))
   refine OpsL.nilS ⟨[(2, Pt 101 0), (3, I 281)], [(101, .box 25 (eBig x_7))]⟩ rfl (Tri.ret (Fin.then_ret ?_))
   obtain rfl := Option.some.inj h
   refine Fin.keepS ⟨[(2, Pt 101 0), (3, I 281)], [(101, .box 25 (eBig x_7))]⟩ rfl (Fin.result' [.agg (eBig x_7), .one (.i 281)] (.inl rfl) rfl (.cons (.agg tyAgg25 rfl rfl rfl rfl) (.cons (.tmp rfl) .nil)) ⟨rfl, rfl⟩)
  ·refine Tri.skip (Fin.keepS ⟨[(0, .b (.one (.str s0))), (2, Pt 101 0), (4, .b (.one (.str digits_1)))], [(101, .box 25 zBig)]⟩ rfl (Fin.then ?_))
   obtain ⟨v17, h18, h⟩ := bnd h
   refine Tri.seqJ (v := v17) (fun (_ : Unit) => ⟨[(0, .b (.one (.str s0))), (2, Pt 101 0), (4, .b (.one (.str digits_1)))], [(101, .box 25 zBig)]⟩) (fun z => .inl z) ?_ ?_
   ·refine Tri.seq (Tri.regionL ?_)
    refine Oc om (Oc (op_conv_str und9 und110 undi5 rfl) (Oc (op_len_e' und110 rfl (List.length_map _)) (Oc om ?_)))
    refine OpsL.nilS ⟨[(0, .b (.one (.str s0))), (2, Pt 101 0), (4, .b (.one (.str digits_1))), (35, .b (.one (.sl 1 ((ofStr digits_1).map (eK .u8))))), (36, I ((ofStr digits_1).length : Int)), (37, I 0)], [(101, .box 25 zBig)]⟩ rfl (Tri.block (Tri.loopJ h18 (fun (x_8 : Int) => ⟨[(0, .b (.one (.str s0))), (2, Pt 101 0), (4, .b (.one (.str digits_1))), (35, .b (.one (.sl 1 ((ofStr digits_1).map (eK .u8))))), (36, I ((ofStr digits_1).length : Int)), (37, I x_8)], [(101, .box 25 zBig)]⟩) [0, 2, 4, 35, 36, 37] [101] rfl ?_))
    rintro x_8 o19 h20 hy21
    refine Tri.seq (Tri.regionL ?_)
    refine Oc (op_lss rfl rfl) (OpsL.nilS ⟨[(0, .b (.one (.str s0))), (2, Pt 101 0), (4, .b (.one (.str digits_1))), (35, .b (.one (.sl 1 ((ofStr digits_1).map (eK .u8))))), (36, I ((ofStr digits_1).length : Int)), (37, I x_8), (38, B (decide (x_8 < ((ofStr digits_1).length : Int))))], [(101, .box 25 zBig)]⟩ rfl (Tri.seq (Tri.ite h20 rfl (fun _ h20 => ?_) (fun _ h20 => ?_))))
    ·refine Tri.skip (Fin.keepS ⟨[(0, .b (.one (.str s0))), (2, Pt 101 0), (4, .b (.one (.str digits_1))), (35, .b (.one (.sl 1 ((ofStr digits_1).map (eK .u8))))), (36, I ((ofStr digits_1).length : Int)), (37, I x_8)], [(101, .box 25 zBig)]⟩ rfl (Fin.then (Tri.seq (Tri.block (Tri.seq (Tri.regionL ?_))))))
     obtain ⟨x_9, e22, h20⟩ := bnd h20
     refine Oc (op_index_e tySl110 (ix_lo e22) (ix_map (e := (eK .u8)) e22) rfl rfl) (Oc (op_load_e1 tyOne5 rfl rfl) (Oc oa ?_))
     refine OpsL.nilS ⟨[(0, .b (.one (.str s0))), (2, Pt 101 0), (4, .b (.one (.str digits_1))), (6, .b (.one (.int .u8 x_9))), (35, .b (.one (.sl 1 ((ofStr digits_1).map (eK .u8))))), (36, I ((ofStr digits_1).length : Int)), (37, I x_8)], [(101, .box 25 zBig)]⟩ rfl (Tri.seq (Tri.regionL ?_))
     refine Oc om (Oc (op_lss rfl rfl) (Oc om ?_))
     refine CgF (!(decide (x_9 < 48))) [] (fun g23 => trivial) (fun g23 => om) (CgF (!(decide (x_9 < 48))) [44] (fun g24 => by exact ⟨g24, trivial⟩) (fun g24 => op_gtr rfl rfl) (Oc (op_pick_or (fun e => by rw [e]; rfl) rfl rfl rfl rfl) (OpsL.nilS ⟨[(0, .b (.one (.str s0))), (2, Pt 101 0), (4, .b (.one (.str digits_1))), (35, .b (.one (.sl 1 ((ofStr digits_1).map (eK .u8))))), (36, I ((ofStr digits_1).length : Int)), (37, I x_8), (46, B ((decide (x_9 < 48)) || (decide (57 < x_9))))], [(101, .box 25 zBig)]⟩ rfl (Tri.ite h20 rfl (fun _ h20 => ?_) (fun _ h20 => ?_)))))
     ·refine Tri.seq (Tri.regionL ?_)
      obtain ⟨x_10, e25, h20⟩ := bnd h20
      refine Oc (op_call0 (w_Bad_spec e25) goes92 rfl rfl) (Oc (op_store_p tyAgg25 rfl rfl rfl rfl (Nat.le_of_ble_eq_true rfl) rfl) (Oc oa ?_))
      refine OpsL.nilS ⟨[(2, Pt 101 0), (3, I 281)], [(101, .box 25 (eBig x_10))]⟩ rfl (Tri.ret (Fin.block_ret (Fin.then_ret ?_)))
      obtain rfl := hy21 _ (Option.some.inj h20).symm
      refine Fin.then_ret (Fin.block_ret (Fin.then_ret ?_))
      obtain rfl := Option.some.inj h
      refine Fin.keepS ⟨[(2, Pt 101 0), (3, I 281)], [(101, .box 25 (eBig x_10))]⟩ rfl (Fin.result' [.agg (eBig x_10), .one (.i 281)] (.inl rfl) rfl (.cons (.agg tyAgg25 rfl rfl rfl rfl) (.cons (.tmp rfl) .nil)) ⟨rfl, rfl⟩)
     ·refine Tri.skip (Fin.block_normal (Fin.keepS ⟨[(0, .b (.one (.str s0))), (2, Pt 101 0), (4, .b (.one (.str digits_1))), (35, .b (.one (.sl 1 ((ofStr digits_1).map (eK .u8))))), (36, I ((ofStr digits_1).length : Int)), (37, I x_8)], [(101, .box 25 zBig)]⟩ rfl (Fin.then (Tri.regionL ?_))))
      refine Oc (op_add rfl rfl) (Oc om ?_)
      refine OpsL.nil ?_
      exact Fin.againJ [0, 2, 4, 35, 36, 37] [101] (IntKind.i64.wrap (x_8 + 1)) (Option.some.inj h20) rfl
    ·refine Tri.exit (Fin.then_exit ?_)
     obtain rfl := hy21 _ (Option.some.inj h20).symm
     refine Fin.then_exit (Fin.block_exit ?_)
     exact Fin.join [0, 2, 4] [101] () rfl rfl
   ·rintro _ hv
    subst v17
    refine Tri.seq (Tri.seq (Tri.regionL ?_))
    refine Oc om (Oc (op_len_str und9 rfl) (Oc (op_gtr rfl rfl) ?_))
    refine OpsL.nilS ⟨[(0, .b (.one (.str s0))), (2, Pt 101 0), (4, .b (.one (.str digits_1))), (51, B (decide (512 < (digits_1.length : Int))))], [(101, .box 25 zBig)]⟩ rfl (Tri.ite h rfl (fun _ h => ?_) (fun _ h => ?_))
    ·refine Tri.seq (Tri.regionL ?_)
     obtain ⟨x_11, e26, h⟩ := bnd h
     refine Oc (op_call0 (w_Bad_spec e26) goes92 rfl rfl) (Oc (op_store_p tyAgg25 rfl rfl rfl rfl (Nat.le_of_ble_eq_true rfl) rfl) (Oc oa ?_))
     refine OpsL.nilS ⟨[(2, Pt 101 0), (3, I 30)], [(101, .box 25 (eBig x_11))]⟩ rfl (Tri.ret (Fin.then_ret ?_))
     obtain rfl := Option.some.inj h
     refine Fin.keepS ⟨[(2, Pt 101 0), (3, I 30)], [(101, .box 25 (eBig x_11))]⟩ rfl (Fin.result' [.agg (eBig x_11), .one (.i 30)] (.inl rfl) rfl (.cons (.agg tyAgg25 rfl rfl rfl rfl) (.cons (.tmp rfl) .nil)) ⟨rfl, rfl⟩)
    ·refine Tri.skip (Fin.keepS ⟨[(0, .b (.one (.str s0))), (2, Pt 101 0), (4, .b (.one (.str digits_1)))], [(101, .box 25 zBig)]⟩ rfl (Fin.then (Tri.seq (Tri.regionL ?_))))
     obtain ⟨x_12, e27, h⟩ := bnd h
     refine Oc (op_call0 (w_Of_spec e27) goes91 rfl rfl) ?_
     obtain ⟨x_13, e28, h⟩ := bnd h
     refine Oc (op_call0 (w_Of_spec e28) goes91 rfl rfl) (OpsL.keepS ⟨[(0, .b (.one (.str s0))), (2, Pt 101 0), (4, .b (.one (.str digits_1))), (53, .b (.agg (eBig x_12))), (54, .b (.agg (eBig x_13)))], [(101, .box 25 zBig)]⟩ rfl (Oc (op_alloc (k := 102) tyZero25 rfl) (Oc (op_alloc (k := 103) tyZero25 rfl) (Oc (op_store_p tyAgg25 rfl rfl rfl rfl (Nat.le_of_ble_eq_true rfl) rfl) (Oc (op_store_p tyAgg25 rfl rfl rfl rfl (Nat.le_of_ble_eq_true rfl) rfl) ?_)))))
     refine OpsL.nilS ⟨[(0, .b (.one (.str s0))), (2, Pt 101 0), (4, .b (.one (.str digits_1))), (7, Pt 102 0), (8, Pt 103 0)], [(101, .box 25 zBig), (102, .box 25 (eBig x_12)), (103, .box 25 (eBig x_13))]⟩ rfl ?_
     obtain ⟨v29, h30, h⟩ := bnd h
     refine Tri.seqJ (v := v29) (fun (x_14 : Big) => ⟨[(0, .b (.one (.str s0))), (2, Pt 101 0), (4, .b (.one (.str digits_1))), (7, Pt 102 0)], [(101, .box 25 zBig), (102, .box 25 (eBig x_14))]⟩) (fun z => z) ?_ ?_
     ·refine Tri.seq (Tri.regionL ?_)
      refine Oc om (Oc (op_conv_str und9 und110 undi5 rfl) (Oc (op_len_e' und110 rfl (List.length_map _)) (Oc om ?_)))
      refine OpsL.nilS ⟨[(0, .b (.one (.str s0))), (2, Pt 101 0), (4, .b (.one (.str digits_1))), (7, Pt 102 0), (8, Pt 103 0), (56, .b (.one (.sl 1 ((ofStr digits_1).map (eK .u8))))), (57, I ((ofStr digits_1).length : Int)), (58, I 0)], [(101, .box 25 zBig), (102, .box 25 (eBig x_12)), (103, .box 25 (eBig x_13))]⟩ rfl (Tri.block (Tri.loopJ h30 (un2 fun (x_15 : Big) (x_16 : Int) => ⟨[(0, .b (.one (.str s0))), (2, Pt 101 0), (4, .b (.one (.str digits_1))), (7, Pt 102 0), (8, Pt 103 0), (56, .b (.one (.sl 1 ((ofStr digits_1).map (eK .u8))))), (57, I ((ofStr digits_1).length : Int)), (58, I x_16)], [(101, .box 25 zBig), (102, .box 25 (eBig x_15)), (103, .box 25 (eBig x_13))]⟩) [0, 2, 4, 7, 8, 56, 57, 58] [101, 102, 103] rfl ?_))
      rintro ⟨x_15, x_16⟩ o31 h32 hy33
      refine Tri.seq (Tri.regionL ?_)
      refine Oc (op_lss rfl rfl) (OpsL.nilS ⟨[(0, .b (.one (.str s0))), (2, Pt 101 0), (4, .b (.one (.str digits_1))), (7, Pt 102 0), (8, Pt 103 0), (56, .b (.one (.sl 1 ((ofStr digits_1).map (eK .u8))))), (57, I ((ofStr digits_1).length : Int)), (58, I x_16), (59, B (decide (x_16 < ((ofStr digits_1).length : Int))))], [(101, .box 25 zBig), (102, .box 25 (eBig x_15)), (103, .box 25 (eBig x_13))]⟩ rfl (Tri.seq (Tri.ite h32 rfl (fun _ h32 => ?_) (fun _ h32 => ?_))))
      ·refine Tri.skip (Fin.keepS ⟨[(0, .b (.one (.str s0))), (2, Pt 101 0), (4, .b (.one (.str digits_1))), (7, Pt 102 0), (8, Pt 103 0), (56, .b (.one (.sl 1 ((ofStr digits_1).map (eK .u8))))), (57, I ((ofStr digits_1).length : Int)), (58, I x_16)], [(101, .box 25 zBig), (102, .box 25 (eBig x_15)), (103, .box 25 (eBig x_13))]⟩ rfl (Fin.then (Tri.seq (Tri.block (Tri.seq (Tri.regionL ?_))))))
       obtain ⟨x_18, e34, h32⟩ := bnd h32
       refine Oc (op_index_e tySl110 (ix_lo e34) (ix_map (e := (eK .u8)) e34) rfl rfl) (Oc (op_load_e1 tyOne5 rfl rfl) (Oc oa ?_))
       refine OpsL.nilS ⟨[(0, .b (.one (.str s0))), (2, Pt 101 0), (4, .b (.one (.str digits_1))), (7, Pt 102 0), (8, Pt 103 0), (10, .b (.one (.int .u8 x_18))), (56, .b (.one (.sl 1 ((ofStr digits_1).map (eK .u8))))), (57, I ((ofStr digits_1).length : Int)), (58, I x_16)], [(101, .box 25 zBig), (102, .box 25 (eBig x_15)), (103, .box 25 (eBig x_13))]⟩ rfl (Tri.regionL (Oc (lp tyAgg25) (Oc (lp tyAgg25) ?_)))
       obtain ⟨x_19, e35, h32⟩ := bnd h32
       refine Oc (op_call0 (w_Mul_spec e35) goes102 rfl rfl) (Oc om (Oc (op_sub rfl rfl) ?_))
       refine OpsL.keepS ⟨[(0, .b (.one (.str s0))), (2, Pt 101 0), (4, .b (.one (.str digits_1))), (7, Pt 102 0), (8, Pt 103 0), (56, .b (.one (.sl 1 ((ofStr digits_1).map (eK .u8))))), (57, I ((ofStr digits_1).length : Int)), (58, I x_16), (64, .b (.agg (eBig x_19))), (66, .b (.one (.int .u8 (IntKind.u8.wrap (x_18 - 48)))))], [(101, .box 25 zBig), (102, .box 25 (eBig x_15)), (103, .box 25 (eBig x_13))]⟩ rfl (OpsL.consI .i64 h32 rfl (op_conv_wrap undi5 undi3 rfl) (fun x_20 h32 => ?_))
       obtain ⟨x_21, e36, h32⟩ := bnd h32
       refine Oc (op_call0 (w_Of_spec e36) goes91 rfl rfl) ?_
       obtain ⟨x_22, e37, h32⟩ := bnd h32
       refine Oc (op_call0 (w_Add_spec e37) goes97 rfl rfl) (Oc (op_store_p tyAgg25 rfl rfl rfl rfl (Nat.le_of_ble_eq_true rfl) rfl) ?_)
       refine OpsL.nil (Fin.block_normal (Fin.keepS ⟨[(0, .b (.one (.str s0))), (2, Pt 101 0), (4, .b (.one (.str digits_1))), (7, Pt 102 0), (8, Pt 103 0), (56, .b (.one (.sl 1 ((ofStr digits_1).map (eK .u8))))), (57, I ((ofStr digits_1).length : Int)), (58, I x_16)], [(101, .box 25 zBig), (102, .box 25 (eBig x_22)), (103, .box 25 (eBig x_13))]⟩ rfl (Fin.then (Tri.regionL ?_))))
       refine Oc (op_add rfl rfl) (Oc om ?_)
       refine OpsL.nil ?_
       exact Fin.againJ [0, 2, 4, 7, 8, 56, 57, 58] [101, 102, 103] (x_22, IntKind.i64.wrap (x_16 + 1)) (Option.some.inj h32) rfl
      ·refine Tri.exit (Fin.then_exit ?_)
       obtain rfl := hy33 _ (Option.some.inj h32).symm
       refine Fin.then_exit (Fin.block_exit ?_)
       exact Fin.join [0, 2, 4, 7] [101, 102] x_15 rfl rfl
     ·rintro x_14 hv
      subst v29
      refine Tri.seq (Tri.seq (Tri.regionL ?_))
      refine Oc (op_field_p tyFld25_0 rfl rfl) (Oc (op_load_p1 tyOne4 rfl rfl rfl) ?_)
      refine OpsL.nilS ⟨[(0, .b (.one (.str s0))), (2, Pt 101 0), (4, .b (.one (.str digits_1))), (7, Pt 102 0), (72, B x_14.Bad)], [(101, .box 25 zBig), (102, .box 25 (eBig x_14))]⟩ rfl (Tri.ite h rfl (fun _ h => ?_) (fun _ h => ?_))
      ·refine Tri.seq (Tri.regionL ?_)
       refine Oc (lp tyAgg25) (Oc (op_store_p tyAgg25 rfl rfl rfl rfl (Nat.le_of_ble_eq_true rfl) rfl) (Oc oa ?_))
       refine OpsL.nilS ⟨[(2, Pt 101 0), (3, I 30)], [(101, .box 25 (eBig x_14))]⟩ rfl (Tri.ret (Fin.then_ret ?_))
       obtain rfl := Option.some.inj h
       refine Fin.keepS ⟨[(2, Pt 101 0), (3, I 30)], [(101, .box 25 (eBig x_14))]⟩ rfl (Fin.result' [.agg (eBig x_14), .one (.i 30)] (.inl rfl) rfl (.cons (.agg tyAgg25 rfl rfl rfl rfl) (.cons (.tmp rfl) .nil)) ⟨rfl, rfl⟩)
      ·refine Tri.skip (Fin.keepS ⟨[(0, .b (.one (.str s0))), (2, Pt 101 0), (4, .b (.one (.str digits_1))), (7, Pt 102 0)], [(101, .box 25 zBig), (102, .box 25 (eBig x_14))]⟩ rfl (Fin.then (Tri.seq (Tri.regionL ?_))))
       refine Oc om (Oc om (Oc (op_neq_str rfl rfl) (Oc (op_field_p tyFld25_2 rfl rfl) (Oc (lp tyAgg23) ?_))))
       refine OpsL.keepS ⟨[(2, Pt 101 0), (76, B (decide (digits_1 ≠ s0))), (78, .b (.agg (eW x_14.W)))], [(101, .box 25 zBig)]⟩ rfl ?_
       obtain ⟨x_23, e38, h⟩ := bnd h
       refine Oc (op_call0 (w_signed_spec e38) goes115 rfl rfl) (Oc (op_store_p tyAgg25 rfl rfl rfl rfl (Nat.le_of_ble_eq_true rfl) rfl) (Oc oa ?_))
       refine OpsL.nilS ⟨[(2, Pt 101 0), (3, I 0)], [(101, .box 25 (eBig x_23))]⟩ rfl (Tri.ret ?_)
       obtain rfl := Option.some.inj h
       refine Fin.keepS ⟨[(2, Pt 101 0), (3, I 0)], [(101, .box 25 (eBig x_23))]⟩ rfl (Fin.result' [.agg (eBig x_23), .one (.i 0)] (.inl rfl) rfl (.cons (.agg tyAgg25 rfl rfl rfl rfl) (.cons (.tmp rfl) .nil)) ⟨rfl, rfl⟩)
def q_Parse_S (F : Nat) (s0 : Str) : Option (Frc × Int) :=
 Option.bind (strings_Cut_S F s0 [47]) (un3 fun x_1 x_2 x_3 => (q_one_S F).bind fun x_4 => letN (⟨(⟨false, false, A16.zero⟩ : Big), x_4⟩ : Frc) fun x_5 => Option.bind (w_Parse_S F x_1) (un2 fun x_6 x_7 => Option.bind (if x_3 = true then (Option.bind (w_Parse_S F x_2) (un2 fun x_10 x_11 => some ((⟨x_6, x_10⟩ : Frc), x_11))) else (some ((⟨x_6, x_5.D⟩ : Frc), 0))) (un2 fun x_8 f_9 => (gcall (((!((decide (x_7 = 281)) || (decide (f_9 = 281)))) && x_3) && !((decide (x_2 = [48])) || (decide (x_2 = [49])))) (strings_HasPrefix_S F x_2 [45])).bind fun x_12 => letN (((decide (x_7 = 281)) || (decide (f_9 = 281))) || (x_3 && (((decide (x_2 = [48])) || (decide (x_2 = [49]))) || x_12))) fun x_13 => if x_13 = true then ((q_Bad_S F).bind fun x_14 => some (x_14, 281)) else (if ((decide (x_7 ≠ 0)) || (decide (f_9 ≠ 0))) = true then ((q_Bad_S F).bind fun x_15 => some (x_15, 30)) else ((q_Good_S F x_8).bind fun x_16 => if (!x_16) = true then ((q_Bad_S F).bind fun x_17 => some (x_17, 281)) else (some (x_8, 0)))))))
theorem q_Parse_spec {F : Nat} {s0 : Str} {r : Frc × Int} (h : q_Parse_S F s0 = some r) : Meets Tryz.prog (tabs mx) 52 [] [.one (.str s0)] (Is [] (.tup [.agg (eFrc r.1), .one (.i r.2)])) := by
 unfold q_Parse_S at h
 refine Meets.intro 68 Tryz.func52 Tryz.ntmps52 rfl (by simp) fun E => ?_
 show Tri _ E ⟨68, [], []⟩ _ ⟨[(0, .b (.one (.str s0)))], []⟩ _
 refine Tri.seq (Tri.regionL ?_)
 refine Oc (op_alloc (k := 101) tyZero27 rfl) (Oc oa ?_)
 refine OpsL.nilS ⟨[(0, .b (.one (.str s0))), (2, Pt 101 0)], [(101, .box 27 zFrc)]⟩ rfl (Tri.seq (Tri.regionL ?_))
 refine Oc om ?_
 obtain ⟨⟨x_1, x_2, x_3⟩, e1, h⟩ := bnd h
 refine Oc (op_call0 (strings_Cut_spec e1) goes105 rfl rfl) (Oc om (Oc (op_extract rfl rfl) (Oc (op_extract rfl rfl) ?_)))
 refine OpsL.keepS ⟨[(2, Pt 101 0), (10, .tup [.one (.str x_1), .one (.str x_2), .one (.bool x_3)]), (13, .b (.one (.str x_1))), (14, .b (.one (.str x_2)))], [(101, .box 27 zFrc)]⟩ rfl (Oc (op_extract rfl rfl) (Oc oa (Oc oa (Oc oa ?_))))
 refine OpsL.nilS ⟨[(2, Pt 101 0), (4, .b (.one (.str x_1))), (5, .b (.one (.str x_2))), (6, B x_3)], [(101, .box 27 zFrc)]⟩ rfl (Tri.seq (Tri.regionL ?_))
 obtain ⟨x_4, e2, h⟩ := bnd h
 refine Oc (op_call0 (q_one_spec e2) goes90 rfl rfl) (OpsL.consA eFrc h rfl (op_build tyBuild27 rfl rfl) (fun x_5 h => ?_))
 refine Oc (op_alloc (k := 102) tyZero27 rfl) (Oc (op_store_p tyAgg27 rfl rfl rfl rfl (Nat.le_of_ble_eq_true rfl) rfl) ?_)
 refine OpsL.nilS ⟨[(2, Pt 101 0), (4, .b (.one (.str x_1))), (5, .b (.one (.str x_2))), (6, B x_3), (7, Pt 102 0)], [(101, .box 27 zFrc), (102, .box 27 (eFrc x_5))]⟩ rfl (Tri.seq (Tri.regionL ?_))
 refine Oc oa (Oc oa ?_)
 refine OpsL.nilS ⟨[(2, Pt 101 0), (4, .b (.one (.str x_1))), (5, .b (.one (.str x_2))), (6, B x_3), (7, Pt 102 0), (9, I 0)], [(101, .box 27 zFrc), (102, .box 27 (eFrc x_5))]⟩ rfl (Tri.seq (Tri.regionL ?_))
 refine Oc om ?_
 obtain ⟨⟨x_6, x_7⟩, e3, h⟩ := bnd h
 refine Oc (op_call0 (w_Parse_spec e3) goes106 rfl rfl) (Oc om (Oc (op_extract rfl rfl) (Oc (op_extract rfl rfl) ?_)))
 refine OpsL.keepS ⟨[(2, Pt 101 0), (5, .b (.one (.str x_2))), (6, B x_3), (7, Pt 102 0), (9, I 0), (21, .b (.agg (eBig x_6))), (22, I x_7)], [(101, .box 27 zFrc), (102, .box 27 (eFrc x_5))]⟩ rfl (Oc (op_field_p tyFld27_0 rfl rfl) (Oc (op_store_p tyAgg25 rfl rfl rfl rfl (Nat.le_of_ble_eq_true rfl) rfl) (Oc oa ?_)))
 refine OpsL.nilS ⟨[(2, Pt 101 0), (5, .b (.one (.str x_2))), (6, B x_3), (7, Pt 102 0), (8, I x_7), (9, I 0)], [(101, .box 27 zFrc), (102, .box 27 (eBig x_6 ++ (eBig x_5.D)))]⟩ rfl ?_
 obtain ⟨v4, h5, h⟩ := bnd h
 refine Tri.seqJ (v := v4) (un2 fun (x_8 : Frc) (f_9 : Int) => ⟨[(2, Pt 101 0), (5, .b (.one (.str x_2))), (6, B x_3), (7, Pt 102 0), (8, I x_7), (9, I f_9)], [(101, .box 27 zFrc), (102, .box 27 (eFrc x_8))]⟩) (fun z => z) ?_ ?_
 ·refine Tri.seq (Tri.regionL ?_)
  refine Oc om (OpsL.nilS ⟨[(2, Pt 101 0), (5, .b (.one (.str x_2))), (6, B x_3), (7, Pt 102 0), (8, I x_7), (9, I 0), (24, B x_3)], [(101, .box 27 zFrc), (102, .box 27 (eBig x_6 ++ (eBig x_5.D)))]⟩ rfl (Tri.ite h5 rfl (fun _ h5 => ?_) (fun _ h5 => ?_)))
  ·refine Tri.regionL (Oc om ?_)
   obtain ⟨⟨x_10, x_11⟩, e6, h5⟩ := bnd h5
   refine Oc (op_call0 (w_Parse_spec e6) goes106 rfl rfl) (Oc om (Oc (op_extract rfl rfl) (Oc (op_extract rfl rfl) ?_)))
   refine OpsL.keepS ⟨[(2, Pt 101 0), (5, .b (.one (.str x_2))), (6, B x_3), (7, Pt 102 0), (8, I x_7), (9, I 0), (28, .b (.agg (eBig x_10))), (29, I x_11)], [(101, .box 27 zFrc), (102, .box 27 (eBig x_6 ++ (eBig x_5.D)))]⟩ rfl (Oc (op_field_p tyFld27_1 rfl rfl) (Oc (op_store_p tyAgg25 rfl rfl rfl rfl (Nat.le_of_ble_eq_true rfl) rfl) (Oc oa ?_)))
   refine OpsL.nil ?_
   exact Fin.join [2, 5, 6, 7, 8, 9] [101, 102] ((⟨x_6, x_10⟩ : Frc), x_11) (Option.some.inj h5) rfl
  ·refine Tri.skip ?_
   exact Fin.join [2, 5, 6, 7, 8, 9] [101, 102] ((⟨x_6, x_5.D⟩ : Frc), 0) (Option.some.inj h5) rfl
 ·rintro ⟨x_8, f_9⟩ hv
  subst v4
  refine Tri.seq (Tri.block (Tri.seq (Tri.regionL ?_)))
  refine Oc om (Oc (op_eql rfl rfl) (Oc om ?_))
  refine CgF (!(decide (x_7 = 281))) [] (fun g7 => trivial) (fun g7 => om) (CgF (!(decide (x_7 = 281))) [35] (fun g8 => by exact ⟨g8, trivial⟩) (fun g8 => op_eql rfl rfl) (Oc (op_pick_or (fun e => by rw [e]; rfl) rfl rfl rfl rfl) (Oc om ?_)))
  refine OpsL.keepS ⟨[(2, Pt 101 0), (5, .b (.one (.str x_2))), (6, B x_3), (7, Pt 102 0), (8, I x_7), (9, I f_9), (38, B ((decide (x_7 = 281)) || (decide (f_9 = 281))))], [(101, .box 27 zFrc), (102, .box 27 (eFrc x_8))]⟩ rfl (CgF (!((decide (x_7 = 281)) || (decide (f_9 = 281)))) [] (fun g9 => trivial) (fun g9 => om) (CgF (!((decide (x_7 = 281)) || (decide (f_9 = 281)))) [39] (fun g10 => by exact ⟨g10, trivial⟩) (fun g10 => om) (OpsL.consG ((!((decide (x_7 = 281)) || (decide (f_9 = 281)))) && x_3) 99 [] (.under rfl) (and_t _ _) rfl rfl (fun g11 => by exact trivial) (fun g11 => om) (OpsL.consG ((!((decide (x_7 = 281)) || (decide (f_9 = 281)))) && x_3) 99 [41] (.under rfl) (and_t _ _) rfl rfl (fun g12 => by exact ⟨g12, trivial⟩) (fun g12 => op_eql_str rfl rfl) (OpsL.consG ((!((decide (x_7 = 281)) || (decide (f_9 = 281)))) && x_3) 99 [42] (.under rfl) (and_t _ _) rfl rfl (fun g13 => by exact ⟨g13, trivial⟩) (fun g13 => om) ?_)))))
  refine OpsL.consG (((!((decide (x_7 = 281)) || (decide (f_9 = 281)))) && x_3) && !(decide (x_2 = [48]))) 99 [] (.under rfl) (and_f _ _) rfl rfl (fun g14 => trivial) (fun g14 => om) (OpsL.consG (((!((decide (x_7 = 281)) || (decide (f_9 = 281)))) && x_3) && !(decide (x_2 = [48]))) 99 [44] (.under rfl) (and_f _ _) rfl rfl (fun g15 => ⟨g15, trivial⟩) (fun g15 => op_eql_str rfl rfl) (OpsL.consG ((!((decide (x_7 = 281)) || (decide (f_9 = 281)))) && x_3) 99 [43] (.under rfl) (and_t _ _) rfl rfl (fun g16 => ⟨g16, trivial⟩) (fun g16 => op_pick_or (fun e => by rw [g16, e]; rfl) rfl rfl rfl rfl) (OpsL.keepS ⟨[(2, Pt 101 0), (5, .b (.one (.str x_2))), (7, Pt 102 0), (8, I x_7), (9, I f_9), (38, B ((decide (x_7 = 281)) || (decide (f_9 = 281)))), (40, .opt (!((decide (x_7 = 281)) || (decide (f_9 = 281)))) (.one (.bool x_3))), (46, .opt ((!((decide (x_7 = 281)) || (decide (f_9 = 281)))) && x_3) (.one (.bool ((decide (x_2 = [48])) || (decide (x_2 = [49]))))))], [(101, .box 27 zFrc), (102, .box 27 (eFrc x_8))]⟩ rfl (OpsL.consG ((!((decide (x_7 = 281)) || (decide (f_9 = 281)))) && x_3) 99 [46] (.under rfl) (and_t _ _) rfl rfl (fun g17 => ⟨g17, trivial⟩) (fun g17 => om) (OpsL.consG (((!((decide (x_7 = 281)) || (decide (f_9 = 281)))) && x_3) && !((decide (x_2 = [48])) || (decide (x_2 = [49])))) 99 [] (.under rfl) (and_f _ _) rfl rfl (fun g18 => trivial) (fun g18 => om) ?_)))))
  obtain ⟨x_12, e20, h⟩ := bnd h
  refine OpsL.consG (((!((decide (x_7 = 281)) || (decide (f_9 = 281)))) && x_3) && !((decide (x_2 = [48])) || (decide (x_2 = [49])))) 99 [48] (.under rfl) (and_f _ _) rfl rfl (fun g19 => ⟨g19, trivial⟩) (fun g19 => op_call0 (strings_HasPrefix_spec (gc e20 g19)) goes107 rfl rfl) (OpsL.consG ((!((decide (x_7 = 281)) || (decide (f_9 = 281)))) && x_3) 99 [47] (.under rfl) (and_t _ _) rfl rfl (fun g21 => ⟨g21, trivial⟩) (fun g21 => op_pick_or (fun e => by rw [g21, e]; rfl) rfl rfl rfl rfl) (CgF (!((decide (x_7 = 281)) || (decide (f_9 = 281)))) [40] (fun g22 => ⟨g22, trivial⟩) (fun g22 => op_pick_and (fun e => by rw [g22, e]; rfl) rfl rfl rfl rfl) (OpsL.consB h rfl (op_pick_or (fun e => by rw [e]; rfl) rfl rfl rfl rfl) (fun x_13 h => ?_))))
  refine Oc oa (OpsL.nilS ⟨[(2, Pt 101 0), (7, Pt 102 0), (8, I x_7), (9, I f_9), (31, B x_13)], [(101, .box 27 zFrc), (102, .box 27 (eFrc x_8))]⟩ rfl (Tri.ite h rfl (fun _ h => ?_) (fun _ h => ?_)))
  ·refine Tri.seq (Tri.regionL ?_)
   obtain ⟨x_14, e23, h⟩ := bnd h
   refine Oc (op_call0 (q_Bad_spec e23) goes27 rfl rfl) (Oc (op_store_p tyAgg27 rfl rfl rfl rfl (Nat.le_of_ble_eq_true rfl) rfl) (Oc oa ?_))
   refine OpsL.nilS ⟨[(2, Pt 101 0), (3, I 281)], [(101, .box 27 (eFrc x_14))]⟩ rfl (Tri.ret (Fin.block_ret (Fin.then_ret ?_)))
   obtain rfl := Option.some.inj h
   refine Fin.keepS ⟨[(2, Pt 101 0), (3, I 281)], [(101, .box 27 (eFrc x_14))]⟩ rfl (Fin.result' [.agg (eFrc x_14), .one (.i 281)] (.inl rfl) rfl (.cons (.agg tyAgg27 rfl rfl rfl rfl) (.cons (.tmp rfl) .nil)) ⟨rfl, rfl⟩)
  ·refine Tri.seq (Tri.regionL ?_)
   refine Oc om (Oc (op_neq rfl rfl) (Oc om ?_))
   refine CgF (!(decide (x_7 ≠ 0))) [] (fun g24 => trivial) (fun g24 => om) (CgF (!(decide (x_7 ≠ 0))) [58] (fun g25 => by exact ⟨g25, trivial⟩) (fun g25 => op_neq rfl rfl) (Oc (op_pick_or (fun e => by rw [e]; rfl) rfl rfl rfl rfl) (Oc oa ?_)))
   refine OpsL.nilS ⟨[(2, Pt 101 0), (7, Pt 102 0), (54, B ((decide (x_7 ≠ 0)) || (decide (f_9 ≠ 0))))], [(101, .box 27 zFrc), (102, .box 27 (eFrc x_8))]⟩ rfl (Tri.ite h rfl (fun _ h => ?_) (fun _ h => ?_))
   ·refine Tri.seq (Tri.regionL ?_)
    obtain ⟨x_15, e26, h⟩ := bnd h
    refine Oc (op_call0 (q_Bad_spec e26) goes27 rfl rfl) (Oc (op_store_p tyAgg27 rfl rfl rfl rfl (Nat.le_of_ble_eq_true rfl) rfl) (Oc oa ?_))
    refine OpsL.nilS ⟨[(2, Pt 101 0), (3, I 30)], [(101, .box 27 (eFrc x_15))]⟩ rfl (Tri.ret (Fin.block_ret (Fin.then_ret ?_)))
    obtain rfl := Option.some.inj h
    refine Fin.keepS ⟨[(2, Pt 101 0), (3, I 30)], [(101, .box 27 (eFrc x_15))]⟩ rfl (Fin.result' [.agg (eFrc x_15), .one (.i 30)] (.inl rfl) rfl (.cons (.agg tyAgg27 rfl rfl rfl rfl) (.cons (.tmp rfl) .nil)) ⟨rfl, rfl⟩)
   ·refine Tri.seq (Tri.regionL ?_)
    refine Oc (lp tyAgg27) ?_
    obtain ⟨x_16, e27, h⟩ := bnd h
    refine Oc (op_call0 (q_Good_spec e27) goes26 rfl rfl) (Oc (op_not rfl) (Oc oa ?_))
    refine OpsL.nilS ⟨[(2, Pt 101 0), (7, Pt 102 0), (62, B (!x_16))], [(101, .box 27 zFrc), (102, .box 27 (eFrc x_8))]⟩ rfl (Tri.ite h rfl (fun _ h => ?_) (fun _ h => ?_))
    ·refine Tri.seq (Tri.regionL ?_)
     obtain ⟨x_17, e28, h⟩ := bnd h
     refine Oc (op_call0 (q_Bad_spec e28) goes27 rfl rfl) (Oc (op_store_p tyAgg27 rfl rfl rfl rfl (Nat.le_of_ble_eq_true rfl) rfl) (Oc oa ?_))
     refine OpsL.nilS ⟨[(2, Pt 101 0), (3, I 281)], [(101, .box 27 (eFrc x_17))]⟩ rfl (Tri.ret (Fin.block_ret (Fin.then_ret ?_)))
     obtain rfl := Option.some.inj h
     refine Fin.keepS ⟨[(2, Pt 101 0), (3, I 281)], [(101, .box 27 (eFrc x_17))]⟩ rfl (Fin.result' [.agg (eFrc x_17), .one (.i 281)] (.inl rfl) rfl (.cons (.agg tyAgg27 rfl rfl rfl rfl) (.cons (.tmp rfl) .nil)) ⟨rfl, rfl⟩)
    ·refine Tri.skip (Fin.block_normal (Fin.keepS ⟨[(2, Pt 101 0), (7, Pt 102 0)], [(101, .box 27 zFrc), (102, .box 27 (eFrc x_8))]⟩ rfl (Fin.then (Tri.seq (Tri.regionL ?_)))))
     refine Oc (lp tyAgg27) (Oc (op_store_p tyAgg27 rfl rfl rfl rfl (Nat.le_of_ble_eq_true rfl) rfl) (Oc oa ?_))
     refine OpsL.nilS ⟨[(2, Pt 101 0), (3, I 0)], [(101, .box 27 (eFrc x_8))]⟩ rfl (Tri.ret ?_)
     obtain rfl := Option.some.inj h
     refine Fin.keepS ⟨[(2, Pt 101 0), (3, I 0)], [(101, .box 27 (eFrc x_8))]⟩ rfl (Fin.result' [.agg (eFrc x_8), .one (.i 0)] (.inl rfl) rfl (.cons (.agg tyAgg27 rfl rfl rfl rfl) (.cons (.tmp rfl) .nil)) ⟨rfl, rfl⟩)
def q_Valid_S (F : Nat) (x0 : Frc) : Option Bool :=
 (q_Bad_S F).bind fun x_1 => (gcall (!(decide (x0 = x_1))) (q_Good_S F x0)).bind fun x_2 => some ((decide (x0 = x_1)) || x_2)
theorem q_Valid_spec {F : Nat} {x0 : Frc} {r : Bool} (h : q_Valid_S F x0 = some r) : Meets Tryz.prog (tabs mx) 24 [] [.agg (eFrc x0)] (Is [] (.b (.one (.bool r)))) := by
 unfold q_Valid_S at h
 refine Meets.intro 10 Tryz.func24 Tryz.ntmps24 rfl (by simp) fun E => ?_
 show Tri _ E ⟨10, [], []⟩ _ ⟨[(0, .b (.agg (eFrc x0)))], []⟩ _
 refine Tri.seq (Tri.regionL ?_)
 refine Oc (op_box (k := 101) rfl rfl) (Oc oa ?_)
 refine OpsL.nilS ⟨[(1, Pt 101 0)], [(101, .box 27 (eFrc x0))]⟩ rfl (Tri.seq ?_)
 obtain ⟨x_1, e1, h⟩ := bnd h
 obtain ⟨x_2, e4, h⟩ := bnd h
 refine Tri.regionY mixed 8 [.b (.agg (eFrc x0)), .b (.agg (eFrc x_1)), B (decide (x0 = x_1)), B (decide (x0 = x_1)), .opt (!(decide (x0 = x_1))) (.agg (eFrc x0)), .opt (!(decide (x0 = x_1))) (.one (.bool x_2)), B ((decide (x0 = x_1)) || x_2), B ((decide (x0 = x_1)) || x_2)] [2] [] (s' := ⟨[(2, B ((decide (x0 = x_1)) || x_2))], []⟩) rfl ⟨fun _ => .p (lp tyAgg27), fun _ => .p (op_call0 (q_Bad_spec e1) goes27 rfl rfl), fun _ => .p (op_eql_agg (eqAgg27 x0 x_1) rfl rfl), fun _ => .p om, fun _ => by exact .guard (!(decide (x0 = x_1))) 1 [] (.plain rfl) (eq_f _) rfl rfl (fun g2 => trivial) (fun g2 => lp tyAgg27), fun _ => by exact .guard (!(decide (x0 = x_1))) 3 [7] (.plain rfl) (eq_f _) rfl rfl (fun g3 => ⟨g3, trivial⟩) (fun g3 => op_call0 (q_Good_spec (gc e4 g3)) goes26 rfl rfl), fun _ => .p (op_pick_or (fun e => by rw [e]; rfl) rfl rfl rfl rfl), fun _ => .p oa, trivial⟩ rfl rfl (Tri.ret ?_)
 obtain rfl := Option.some.inj h
 refine Fin.keepS ⟨[(2, B ((decide (x0 = x_1)) || x_2))], []⟩ rfl (Fin.result' [.one (.bool ((decide (x0 = x_1)) || x_2))] (.inl rfl) rfl (.cons (.tmp rfl) .nil) ⟨rfl, rfl⟩)
end Go.Proofs.YtdjnlmmhbeeihaaGreatDoor

