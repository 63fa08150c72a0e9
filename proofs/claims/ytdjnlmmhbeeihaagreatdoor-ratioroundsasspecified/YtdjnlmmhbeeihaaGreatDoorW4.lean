/- printed walks -/
import Derived.Test.YtdjnlmmhbeeihaaGreatDoorW3
namespace Go.Proofs.YtdjnlmmhbeeihaaGreatDoor
open Go.Sk
set_option maxHeartbeats 1000000
set_option maxRecDepth 4000
set_option linter.unusedSimpArgs false
set_option linter.unusedVariables false
variable {mx : Int}
def r3_Rem_S (F : Nat) (a0 : Big) (b0 : Big) : Option Big :=
 Option.bind (r3_word_S F a0) (un2 fun x_1 x_2 => Option.bind (r3_word_S F b0) (un2 fun x_3 x_4 => if ((x_2 && x_4) && (decide (x_3 ≠ 0))) = true then ((r3_floor_S F x_1 x_3).bind fun x_5 => letN (IntKind.i64.wrap (x_1 - (IntKind.i64.wrap (x_3 * x_5)))) fun x_6 => (r3_Of_S F x_6).bind fun x_7 => some x_7) else ((r3_Good_S F a0).bind fun x_8 => (gcall (!(!x_8)) (r3_Good_S F b0)).bind fun x_9 => (gcall (!((!x_8) || (!x_9))) (r3_digits_S F b0)).bind fun x_10 => if (((!x_8) || (!x_9)) || (decide ((x_10.length : Int) = 0))) = true then ((r3_Bad_S F).bind fun x_11 => some x_11) else ((r3_digits_S F a0).bind fun x_12 => (r3_digits_S F b0).bind fun x_13 => Option.bind (r3_divide_S F x_12 x_13) (un2 fun x_14 x_15 => Option.bind (if ((a0.Neg != b0.Neg) && (decide (0 < (x_15.length : Int)))) = true then ((r3_digits_S F b0).bind fun x_17 => (r3_minus_S F x_17 x_15).bind fun x_18 => some x_18) else (some x_15)) (fun r_16 => (r3_number_S F b0.Neg r_16).bind fun x_19 => some x_19))))))
theorem r3_Rem_spec {F : Nat} {a0 : Big} {b0 : Big} {r : Big} (h : r3_Rem_S F a0 b0 = some r) : Meets Tryz.prog (tabs mx) 98 [] [.agg (eBig a0), .agg (eBig b0)] (Is [] (.b (.agg (eBig r)))) := by
 unfold r3_Rem_S at h
 refine Meets.intro 78 Tryz.func98 Tryz.ntmps98 rfl (by simp) fun E => ?_
 show Tri _ E ⟨78, [], []⟩ _ ⟨[(0, .b (.agg (eBig a0))), (1, .b (.agg (eBig b0)))], []⟩ _
 refine Tri.seq (Tri.regionL ?_)
 refine Oc rfl (op_box (k := 101) rfl rfl) (Oc rfl (op_box (k := 102) rfl rfl) (Oc rfl (op_alloc (k := 103) tyZero25 rfl) ?_))
 refine OpsL.nilS ⟨[(2, Pt 101 0), (3, Pt 102 0), (4, Pt 103 0)], [(101, .box 25 (eBig a0)), (102, .box 25 (eBig b0)), (103, .box 25 zBig)]⟩ rfl (Tri.seq (Tri.regionL ?_))
 refine Oc rfl (op_load_p tyAgg25 rfl rfl rfl rfl) ?_
 obtain ⟨⟨x_1, x_2⟩, e1, h⟩ := bnd h
 refine Oc rfl (op_call0 (r3_word_spec e1) goes81 rfl rfl) (Oc rfl (op_move rfl) (Oc rfl (op_extract rfl rfl) (Oc rfl (op_extract rfl rfl) (Oc rfl (op_assign rfl) (Oc rfl (op_assign rfl) ?_)))))
 refine OpsL.nilS ⟨[(2, Pt 101 0), (3, Pt 102 0), (4, Pt 103 0), (5, I x_1), (6, B x_2)], [(101, .box 25 (eBig a0)), (102, .box 25 (eBig b0)), (103, .box 25 zBig)]⟩ rfl (Tri.seq (Tri.regionL ?_))
 refine Oc rfl (op_load_p tyAgg25 rfl rfl rfl rfl) ?_
 obtain ⟨⟨x_3, x_4⟩, e2, h⟩ := bnd h
 refine Oc rfl (op_call0 (r3_word_spec e2) goes81 rfl rfl) (Oc rfl (op_move rfl) (Oc rfl (op_extract rfl rfl) (Oc rfl (op_extract rfl rfl) (Oc rfl (op_assign rfl) (Oc rfl (op_assign rfl) ?_)))))
 refine OpsL.nilS ⟨[(2, Pt 101 0), (3, Pt 102 0), (4, Pt 103 0), (5, I x_1), (6, B x_2), (7, I x_3), (8, B x_4)], [(101, .box 25 (eBig a0)), (102, .box 25 (eBig b0)), (103, .box 25 zBig)]⟩ rfl (Tri.seq (Tri.seq (Tri.regionL ?_)))
 refine Oc rfl (op_move rfl) (Oc rfl (op_move rfl) ?_)
 refine OpsL.consG x_2 99 [] (.plain rfl) (eq_t _) rfl rfl (fun g3 => trivial) (fun g3 => op_move rfl) (Oc rfl (op_pick_and (fun e => e) rfl rfl rfl rfl) (Oc rfl (op_move rfl) ?_))
 refine OpsL.consG (x_2 && x_4) 99 [] (.plain rfl) (eq_t _) rfl rfl (fun g4 => trivial) (fun g4 => op_move rfl) (OpsL.consG (x_2 && x_4) 99 [26] (.plain rfl) (eq_t _) rfl rfl (fun g5 => ⟨g5, trivial⟩) (fun g5 => op_neq rfl rfl) (Oc rfl (op_pick_and (fun e => e) rfl rfl rfl rfl) (OpsL.nilS ⟨[(2, Pt 101 0), (3, Pt 102 0), (4, Pt 103 0), (5, I x_1), (7, I x_3), (28, B ((x_2 && x_4) && (decide (x_3 ≠ 0))))], [(101, .box 25 (eBig a0)), (102, .box 25 (eBig b0)), (103, .box 25 zBig)]⟩ rfl (Tri.ite h rfl (fun _ h => ?_) (fun _ h => ?_)))))
 ·refine Tri.seq (Tri.regionL ?_)
  refine Oc rfl (op_move rfl) (Oc rfl (op_move rfl) (Oc rfl (op_move rfl) (Oc rfl (op_move rfl) ?_)))
  obtain ⟨x_5, e6, h⟩ := bnd h
  refine Oc rfl (op_call0 (r3_floor_spec e6) goes122 rfl rfl) (OpsL.keepS ⟨[(4, Pt 103 0), (29, I x_1), (30, I x_3), (33, I x_5)], [(103, .box 25 zBig)]⟩ rfl (Oc rfl (op_mul rfl rfl) (OpsL.consI .i64 h rfl (op_sub rfl rfl) (fun x_6 h => ?_))))
  obtain ⟨x_7, e7, h⟩ := bnd h
  refine Oc rfl (op_call0 (r3_Of_spec e7) goes12 rfl rfl) (Oc rfl (op_store_p tyAgg25 rfl rfl rfl rfl (Nat.le_of_ble_eq_true rfl) rfl) ?_)
  refine OpsL.nilS ⟨[(4, Pt 103 0)], [(103, .box 25 (eBig x_7))]⟩ rfl (Tri.ret (Fin.then_ret ?_))
  obtain rfl := Option.some.inj h
  refine Fin.keepS ⟨[(4, Pt 103 0)], [(103, .box 25 (eBig x_7))]⟩ rfl (Fin.result' [.agg (eBig x_7)] (.inl rfl) rfl (.cons (.agg tyAgg25 rfl rfl rfl rfl) .nil) ⟨rfl, rfl⟩)
 ·refine Tri.skip (Fin.keepS ⟨[(2, Pt 101 0), (3, Pt 102 0), (4, Pt 103 0)], [(101, .box 25 (eBig a0)), (102, .box 25 (eBig b0)), (103, .box 25 zBig)]⟩ rfl (Fin.then (Tri.seq (Tri.seq (Tri.regionL ?_)))))
  refine Oc rfl (op_load_p tyAgg25 rfl rfl rfl rfl) ?_
  obtain ⟨x_8, e8, h⟩ := bnd h
  refine Oc rfl (op_call0 (r3_Good_spec e8) goes15 rfl rfl) (Oc rfl (op_not rfl) (Oc rfl (op_move rfl) ?_))
  refine OpsL.consG (!(!x_8)) 99 [] (.plain rfl) (eq_f _) rfl rfl (fun g9 => trivial) (fun g9 => op_load_p tyAgg25 rfl rfl rfl rfl) (OpsL.keepS ⟨[(2, Pt 101 0), (3, Pt 102 0), (4, Pt 103 0), (40, B (!x_8)), (41, .opt (!(!x_8)) (.agg (eBig b0)))], [(101, .box 25 (eBig a0)), (102, .box 25 (eBig b0)), (103, .box 25 zBig)]⟩ rfl ?_)
  obtain ⟨x_9, e11, h⟩ := bnd h
  refine OpsL.consG (!(!x_8)) 99 [41] (.plain rfl) (eq_f _) rfl rfl (fun g10 => ⟨g10, trivial⟩) (fun g10 => op_call0 (r3_Good_spec (gc e11 g10)) goes15 rfl rfl) (OpsL.consG (!(!x_8)) 99 [42] (.plain rfl) (eq_f _) rfl rfl (fun g12 => ⟨g12, trivial⟩) (fun g12 => op_not rfl) (Oc rfl (op_pick_or (fun e => by rw [e]; rfl) rfl rfl rfl rfl) (Oc rfl (op_move rfl) ?_)))
  refine OpsL.consG (!((!x_8) || (!x_9))) 99 [] (.plain rfl) (eq_f _) rfl rfl (fun g13 => trivial) (fun g13 => op_load_p tyAgg25 rfl rfl rfl rfl) ?_
  obtain ⟨x_10, e15, h⟩ := bnd h
  refine OpsL.consG (!((!x_8) || (!x_9))) 99 [46] (.plain rfl) (eq_f _) rfl rfl (fun g14 => ⟨g14, trivial⟩) (fun g14 => op_call0 (r3_digits_spec (gc e15 g14)) goes85 rfl rfl) (OpsL.keepS ⟨[(2, Pt 101 0), (3, Pt 102 0), (4, Pt 103 0), (45, B ((!x_8) || (!x_9))), (47, .opt (!((!x_8) || (!x_9))) (.one (.sl 1 (x_10.map eI))))], [(101, .box 25 (eBig a0)), (102, .box 25 (eBig b0)), (103, .box 25 zBig)]⟩ rfl (OpsL.consG (!((!x_8) || (!x_9))) 99 [47] (.plain rfl) (eq_f _) rfl rfl (fun g16 => ⟨g16, trivial⟩) (fun g16 => op_len_e' und70 rfl (List.length_map _)) (OpsL.consG (!((!x_8) || (!x_9))) 99 [48] (.plain rfl) (eq_f _) rfl rfl (fun g17 => ⟨g17, trivial⟩) (fun g17 => op_eql rfl rfl) (Oc rfl (op_pick_or (fun e => by rw [e]; rfl) rfl rfl rfl rfl) (OpsL.nilS ⟨[(2, Pt 101 0), (3, Pt 102 0), (4, Pt 103 0), (50, B (((!x_8) || (!x_9)) || (decide ((x_10.length : Int) = 0))))], [(101, .box 25 (eBig a0)), (102, .box 25 (eBig b0)), (103, .box 25 zBig)]⟩ rfl ?_)))))
  refine Tri.ite h rfl (fun _ h => ?_) (fun _ h => ?_)
  ·refine Tri.seq (Tri.regionL ?_)
   obtain ⟨x_11, e18, h⟩ := bnd h
   refine Oc rfl (op_call0 (r3_Bad_spec e18) goes83 rfl rfl) (Oc rfl (op_store_p tyAgg25 rfl rfl rfl rfl (Nat.le_of_ble_eq_true rfl) rfl) ?_)
   refine OpsL.nilS ⟨[(4, Pt 103 0)], [(103, .box 25 (eBig x_11))]⟩ rfl (Tri.ret (Fin.then_ret ?_))
   obtain rfl := Option.some.inj h
   refine Fin.keepS ⟨[(4, Pt 103 0)], [(103, .box 25 (eBig x_11))]⟩ rfl (Fin.result' [.agg (eBig x_11)] (.inl rfl) rfl (.cons (.agg tyAgg25 rfl rfl rfl rfl) .nil) ⟨rfl, rfl⟩)
  ·refine Tri.skip (Fin.keepS ⟨[(2, Pt 101 0), (3, Pt 102 0), (4, Pt 103 0)], [(101, .box 25 (eBig a0)), (102, .box 25 (eBig b0)), (103, .box 25 zBig)]⟩ rfl (Fin.then (Tri.seq ?_)))
   refine Tri.keepS ⟨[(2, Pt 101 0), (3, Pt 102 0), (4, Pt 103 0)], [(101, .box 25 (eBig a0)), (102, .box 25 (eBig b0)), (103, .box 25 zBig)]⟩ rfl ?_
   obtain ⟨x_12, e19, h⟩ := bnd h
   obtain ⟨x_13, e20, h⟩ := bnd h
   obtain ⟨⟨x_14, x_15⟩, e21, h⟩ := bnd h
   refine Tri.regionY mixed 10 [.b (.agg (eBig a0)), .b (.one (.sl 1 (x_12.map eI))), .b (.agg (eBig b0)), .b (.one (.sl 1 (x_13.map eI))), .tup [.one (.sl 1 (x_14.map eI)), .one (.sl 1 (x_15.map eI))], .tup [.one (.sl 1 (x_14.map eI)), .one (.sl 1 (x_15.map eI))], .b (.one (.sl 1 (x_14.map eI))), .b (.one (.sl 1 (x_15.map eI))), .b (.one (.sl 1 (x_14.map eI))), .b (.one (.sl 1 (x_15.map eI)))] [2, 3, 4, 10] [101, 102, 103] (s' := ⟨[(2, Pt 101 0), (3, Pt 102 0), (4, Pt 103 0), (10, .b (.one (.sl 1 (x_15.map eI))))], [(101, .box 25 (eBig a0)), (102, .box 25 (eBig b0)), (103, .box 25 zBig)]⟩) rfl ⟨fun _ => .plain rfl (op_load_p tyAgg25 rfl rfl rfl rfl), fun _ => .plain rfl (op_call0 (r3_digits_spec e19) goes85 rfl rfl), fun _ => .plain rfl (op_load_p tyAgg25 rfl rfl rfl rfl), fun _ => .plain rfl (op_call0 (r3_digits_spec e20) goes85 rfl rfl), fun _ => .plain rfl (op_call0 (r3_divide_spec e21) goes121 rfl rfl), fun _ => .plain rfl (op_move rfl), fun _ => .plain rfl (op_extract rfl rfl), fun _ => .plain rfl (op_extract rfl rfl), fun _ => .plain rfl (op_assign rfl), fun _ => .plain rfl (op_assign rfl), trivial⟩ rfl rfl ?_
   obtain ⟨v22, h23, h⟩ := bnd h
   refine Tri.seqJ (v := v22) (fun (r_16 : List Int) => ⟨[(3, Pt 102 0), (4, Pt 103 0), (10, .b (.one (.sl 1 (r_16.map eI))))], [(102, .box 25 (eBig b0)), (103, .box 25 zBig)]⟩) (fun z => z) ?_ ?_
   ·refine Tri.seq (Tri.regionL ?_)
    refine Oc rfl (op_field_p tyFld25_1 rfl rfl) (Oc rfl (op_load_p1 tyOne4 rfl rfl rfl) (Oc rfl (op_field_p tyFld25_1 rfl rfl) (Oc rfl (op_load_p1 tyOne4 rfl rfl rfl) (Oc rfl (op_neq_bool und4 rfl rfl) (Oc rfl (op_move rfl) ?_)))))
    refine OpsL.consG (a0.Neg != b0.Neg) 99 [] (.plain rfl) (eq_t _) rfl rfl (fun g24 => trivial) (fun g24 => op_move rfl) (OpsL.keepS ⟨[(3, Pt 102 0), (4, Pt 103 0), (10, .b (.one (.sl 1 (x_15.map eI)))), (65, B (a0.Neg != b0.Neg)), (66, .opt (a0.Neg != b0.Neg) (.one (.sl 1 (x_15.map eI))))], [(102, .box 25 (eBig b0)), (103, .box 25 zBig)]⟩ rfl (OpsL.consG (a0.Neg != b0.Neg) 99 [66] (.plain rfl) (eq_t _) rfl rfl (fun g25 => ⟨g25, trivial⟩) (fun g25 => op_len_e' und70 rfl (List.length_map _)) (OpsL.consG (a0.Neg != b0.Neg) 99 [67] (.plain rfl) (eq_t _) rfl rfl (fun g26 => ⟨g26, trivial⟩) (fun g26 => op_gtr rfl rfl) (Oc rfl (op_pick_and (fun e => e) rfl rfl rfl rfl) (OpsL.nilS ⟨[(3, Pt 102 0), (4, Pt 103 0), (10, .b (.one (.sl 1 (x_15.map eI)))), (69, B ((a0.Neg != b0.Neg) && (decide (0 < (x_15.length : Int)))))], [(102, .box 25 (eBig b0)), (103, .box 25 zBig)]⟩ rfl ?_)))))
    refine Tri.ite h23 rfl (fun _ h23 => ?_) (fun _ h23 => ?_)
    ·refine Tri.regionL (Oc rfl (op_load_p tyAgg25 rfl rfl rfl rfl) ?_)
     obtain ⟨x_17, e27, h23⟩ := bnd h23
     refine Oc rfl (op_call0 (r3_digits_spec e27) goes85 rfl rfl) (Oc rfl (op_move rfl) ?_)
     obtain ⟨x_18, e28, h23⟩ := bnd h23
     refine Oc rfl (op_call0 (r3_minus_spec e28) goes130 rfl rfl) (Oc rfl (op_assign rfl) ?_)
     refine OpsL.nil ?_
     exact Fin.join [3, 4, 10] [102, 103] x_18 (Option.some.inj h23) rfl
    ·refine Tri.skip ?_
     exact Fin.join [3, 4, 10] [102, 103] x_15 (Option.some.inj h23) rfl
   ·rintro r_16 hv
    subst v22
    refine Tri.seq (Tri.regionL ?_)
    refine Oc rfl (op_field_p tyFld25_1 rfl rfl) (Oc rfl (op_load_p1 tyOne4 rfl rfl rfl) (Oc rfl (op_move rfl) ?_))
    obtain ⟨x_19, e29, h⟩ := bnd h
    refine Oc rfl (op_call0 (r3_number_spec e29) goes76 rfl rfl) (Oc rfl (op_store_p tyAgg25 rfl rfl rfl rfl (Nat.le_of_ble_eq_true rfl) rfl) ?_)
    refine OpsL.nilS ⟨[(4, Pt 103 0)], [(103, .box 25 (eBig x_19))]⟩ rfl (Tri.ret ?_)
    obtain rfl := Option.some.inj h
    refine Fin.keepS ⟨[(4, Pt 103 0)], [(103, .box 25 (eBig x_19))]⟩ rfl (Fin.result' [.agg (eBig x_19)] (.inl rfl) rfl (.cons (.agg tyAgg25 rfl rfl rfl rfl) .nil) ⟨rfl, rfl⟩)
def r3_Add_S (F : Nat) (a0 : Big) (b0 : Big) : Option Big :=
 Option.bind (r3_word_S F a0) (un2 fun x_1 x_2 => Option.bind (r3_word_S F b0) (un2 fun x_3 x_4 => if (x_2 && x_4) = true then ((r3_Of_S F (IntKind.i64.wrap (x_1 + x_3))).bind fun x_5 => some x_5) else ((r3_Good_S F a0).bind fun x_6 => (gcall (!(!x_6)) (r3_Good_S F b0)).bind fun x_7 => if ((!x_6) || (!x_7)) = true then ((r3_Bad_S F).bind fun x_8 => some x_8) else ((r3_digits_S F a0).bind fun x_9 => (r3_digits_S F b0).bind fun x_10 => if (a0.Neg == b0.Neg) = true then ((r3_plus_S F x_9 x_10).bind fun x_11 => (r3_number_S F a0.Neg x_11).bind fun x_12 => some x_12) else ((r3_less_S F x_9 x_10).bind fun x_13 => if x_13 = true then ((r3_minus_S F x_10 x_9).bind fun x_14 => (r3_number_S F b0.Neg x_14).bind fun x_15 => some x_15) else ((r3_minus_S F x_9 x_10).bind fun x_16 => (r3_number_S F a0.Neg x_16).bind fun x_17 => some x_17))))))
theorem r3_Add_spec {F : Nat} {a0 : Big} {b0 : Big} {r : Big} (h : r3_Add_S F a0 b0 = some r) : Meets Tryz.prog (tabs mx) 100 [] [.agg (eBig a0), .agg (eBig b0)] (Is [] (.b (.agg (eBig r)))) := by
 unfold r3_Add_S at h
 refine Meets.intro 70 Tryz.func100 Tryz.ntmps100 rfl (by simp) fun E => ?_
 show Tri _ E ⟨70, [], []⟩ _ ⟨[(0, .b (.agg (eBig a0))), (1, .b (.agg (eBig b0)))], []⟩ _
 refine Tri.seq (Tri.regionL ?_)
 refine Oc rfl (op_box (k := 101) rfl rfl) (Oc rfl (op_box (k := 102) rfl rfl) (Oc rfl (op_alloc (k := 103) tyZero25 rfl) ?_))
 refine OpsL.nilS ⟨[(2, Pt 101 0), (3, Pt 102 0), (4, Pt 103 0)], [(101, .box 25 (eBig a0)), (102, .box 25 (eBig b0)), (103, .box 25 zBig)]⟩ rfl (Tri.seq (Tri.regionL ?_))
 refine Oc rfl (op_load_p tyAgg25 rfl rfl rfl rfl) ?_
 obtain ⟨⟨x_1, x_2⟩, e1, h⟩ := bnd h
 refine Oc rfl (op_call0 (r3_word_spec e1) goes81 rfl rfl) (Oc rfl (op_move rfl) (Oc rfl (op_extract rfl rfl) (Oc rfl (op_extract rfl rfl) (Oc rfl (op_assign rfl) (Oc rfl (op_assign rfl) ?_)))))
 refine OpsL.nilS ⟨[(2, Pt 101 0), (3, Pt 102 0), (4, Pt 103 0), (5, I x_1), (6, B x_2)], [(101, .box 25 (eBig a0)), (102, .box 25 (eBig b0)), (103, .box 25 zBig)]⟩ rfl (Tri.seq (Tri.regionL ?_))
 refine Oc rfl (op_load_p tyAgg25 rfl rfl rfl rfl) ?_
 obtain ⟨⟨x_3, x_4⟩, e2, h⟩ := bnd h
 refine Oc rfl (op_call0 (r3_word_spec e2) goes81 rfl rfl) (Oc rfl (op_move rfl) (Oc rfl (op_extract rfl rfl) (Oc rfl (op_extract rfl rfl) (Oc rfl (op_assign rfl) (Oc rfl (op_assign rfl) ?_)))))
 refine OpsL.nilS ⟨[(2, Pt 101 0), (3, Pt 102 0), (4, Pt 103 0), (5, I x_1), (6, B x_2), (7, I x_3), (8, B x_4)], [(101, .box 25 (eBig a0)), (102, .box 25 (eBig b0)), (103, .box 25 zBig)]⟩ rfl (Tri.seq (Tri.seq (Tri.regionL ?_)))
 refine Oc rfl (op_move rfl) (Oc rfl (op_move rfl) ?_)
 refine OpsL.consG x_2 99 [] (.plain rfl) (eq_t _) rfl rfl (fun g3 => trivial) (fun g3 => op_move rfl) (Oc rfl (op_pick_and (fun e => e) rfl rfl rfl rfl) (OpsL.nilS ⟨[(2, Pt 101 0), (3, Pt 102 0), (4, Pt 103 0), (5, I x_1), (7, I x_3), (25, B (x_2 && x_4))], [(101, .box 25 (eBig a0)), (102, .box 25 (eBig b0)), (103, .box 25 zBig)]⟩ rfl (Tri.ite h rfl (fun _ h => ?_) (fun _ h => ?_))))
 ·refine Tri.seq (Tri.regionL ?_)
  refine Oc rfl (op_move rfl) (Oc rfl (op_move rfl) (Oc rfl (op_add rfl rfl) ?_))
  obtain ⟨x_5, e4, h⟩ := bnd h
  refine Oc rfl (op_call0 (r3_Of_spec e4) goes12 rfl rfl) (Oc rfl (op_store_p tyAgg25 rfl rfl rfl rfl (Nat.le_of_ble_eq_true rfl) rfl) ?_)
  refine OpsL.nilS ⟨[(4, Pt 103 0)], [(103, .box 25 (eBig x_5))]⟩ rfl (Tri.ret (Fin.then_ret ?_))
  obtain rfl := Option.some.inj h
  refine Fin.keepS ⟨[(4, Pt 103 0)], [(103, .box 25 (eBig x_5))]⟩ rfl (Fin.result' [.agg (eBig x_5)] (.inl rfl) rfl (.cons (.agg tyAgg25 rfl rfl rfl rfl) .nil) ⟨rfl, rfl⟩)
 ·refine Tri.skip (Fin.keepS ⟨[(2, Pt 101 0), (3, Pt 102 0), (4, Pt 103 0)], [(101, .box 25 (eBig a0)), (102, .box 25 (eBig b0)), (103, .box 25 zBig)]⟩ rfl (Fin.then (Tri.seq (Tri.seq (Tri.regionL ?_)))))
  refine Oc rfl (op_load_p tyAgg25 rfl rfl rfl rfl) ?_
  obtain ⟨x_6, e5, h⟩ := bnd h
  refine Oc rfl (op_call0 (r3_Good_spec e5) goes15 rfl rfl) (Oc rfl (op_not rfl) (Oc rfl (op_move rfl) ?_))
  refine OpsL.consG (!(!x_6)) 99 [] (.plain rfl) (eq_f _) rfl rfl (fun g6 => trivial) (fun g6 => op_load_p tyAgg25 rfl rfl rfl rfl) (OpsL.keepS ⟨[(2, Pt 101 0), (3, Pt 102 0), (4, Pt 103 0), (33, B (!x_6)), (34, .opt (!(!x_6)) (.agg (eBig b0)))], [(101, .box 25 (eBig a0)), (102, .box 25 (eBig b0)), (103, .box 25 zBig)]⟩ rfl ?_)
  obtain ⟨x_7, e8, h⟩ := bnd h
  refine OpsL.consG (!(!x_6)) 99 [34] (.plain rfl) (eq_f _) rfl rfl (fun g7 => ⟨g7, trivial⟩) (fun g7 => op_call0 (r3_Good_spec (gc e8 g7)) goes15 rfl rfl) (OpsL.consG (!(!x_6)) 99 [35] (.plain rfl) (eq_f _) rfl rfl (fun g9 => ⟨g9, trivial⟩) (fun g9 => op_not rfl) (Oc rfl (op_pick_or (fun e => by rw [e]; rfl) rfl rfl rfl rfl) (OpsL.nilS ⟨[(2, Pt 101 0), (3, Pt 102 0), (4, Pt 103 0), (37, B ((!x_6) || (!x_7)))], [(101, .box 25 (eBig a0)), (102, .box 25 (eBig b0)), (103, .box 25 zBig)]⟩ rfl (Tri.ite h rfl (fun _ h => ?_) (fun _ h => ?_)))))
  ·refine Tri.seq (Tri.regionL ?_)
   obtain ⟨x_8, e10, h⟩ := bnd h
   refine Oc rfl (op_call0 (r3_Bad_spec e10) goes83 rfl rfl) (Oc rfl (op_store_p tyAgg25 rfl rfl rfl rfl (Nat.le_of_ble_eq_true rfl) rfl) ?_)
   refine OpsL.nilS ⟨[(4, Pt 103 0)], [(103, .box 25 (eBig x_8))]⟩ rfl (Tri.ret (Fin.then_ret ?_))
   obtain rfl := Option.some.inj h
   refine Fin.keepS ⟨[(4, Pt 103 0)], [(103, .box 25 (eBig x_8))]⟩ rfl (Fin.result' [.agg (eBig x_8)] (.inl rfl) rfl (.cons (.agg tyAgg25 rfl rfl rfl rfl) .nil) ⟨rfl, rfl⟩)
  ·refine Tri.skip (Fin.keepS ⟨[(2, Pt 101 0), (3, Pt 102 0), (4, Pt 103 0)], [(101, .box 25 (eBig a0)), (102, .box 25 (eBig b0)), (103, .box 25 zBig)]⟩ rfl (Fin.then (Tri.seq (Tri.regionL ?_))))
   refine Oc rfl (op_load_p tyAgg25 rfl rfl rfl rfl) ?_
   obtain ⟨x_9, e11, h⟩ := bnd h
   refine Oc rfl (op_call0 (r3_digits_spec e11) goes85 rfl rfl) (Oc rfl (op_assign rfl) ?_)
   refine OpsL.nilS ⟨[(2, Pt 101 0), (3, Pt 102 0), (4, Pt 103 0), (9, .b (.one (.sl 1 (x_9.map eI))))], [(101, .box 25 (eBig a0)), (102, .box 25 (eBig b0)), (103, .box 25 zBig)]⟩ rfl (Tri.seq (Tri.regionL ?_))
   refine Oc rfl (op_load_p tyAgg25 rfl rfl rfl rfl) ?_
   obtain ⟨x_10, e12, h⟩ := bnd h
   refine Oc rfl (op_call0 (r3_digits_spec e12) goes85 rfl rfl) (Oc rfl (op_assign rfl) ?_)
   refine OpsL.nilS ⟨[(2, Pt 101 0), (3, Pt 102 0), (4, Pt 103 0), (9, .b (.one (.sl 1 (x_9.map eI)))), (10, .b (.one (.sl 1 (x_10.map eI))))], [(101, .box 25 (eBig a0)), (102, .box 25 (eBig b0)), (103, .box 25 zBig)]⟩ rfl (Tri.seq (Tri.seq (Tri.regionL ?_)))
   refine Oc rfl (op_field_p tyFld25_1 rfl rfl) (Oc rfl (op_load_p1 tyOne4 rfl rfl rfl) (Oc rfl (op_field_p tyFld25_1 rfl rfl) (Oc rfl (op_load_p1 tyOne4 rfl rfl rfl) (Oc rfl (op_eql_bool und4 rfl rfl) ?_))))
   refine OpsL.nilS ⟨[(2, Pt 101 0), (3, Pt 102 0), (4, Pt 103 0), (9, .b (.one (.sl 1 (x_9.map eI)))), (10, .b (.one (.sl 1 (x_10.map eI)))), (47, B (a0.Neg == b0.Neg))], [(101, .box 25 (eBig a0)), (102, .box 25 (eBig b0)), (103, .box 25 zBig)]⟩ rfl (Tri.ite h rfl (fun _ h => ?_) (fun _ h => ?_))
   ·refine Tri.seq (Tri.keepS ⟨[(2, Pt 101 0), (4, Pt 103 0), (9, .b (.one (.sl 1 (x_9.map eI)))), (10, .b (.one (.sl 1 (x_10.map eI))))], [(101, .box 25 (eBig a0)), (103, .box 25 zBig)]⟩ rfl ?_)
    obtain ⟨x_11, e13, h⟩ := bnd h
    obtain ⟨x_12, e14, h⟩ := bnd h
    refine Tri.regionY mixed 6 [Pt 101 1, B a0.Neg, .b (.one (.sl 1 (x_9.map eI))), .b (.one (.sl 1 (x_10.map eI))), .b (.one (.sl 1 (x_11.map eI))), .b (.agg (eBig x_12))] [4] [103] (s' := ⟨[(4, Pt 103 0)], [(103, .box 25 (eBig x_12))]⟩) rfl ⟨fun _ => .plain rfl (op_field_p tyFld25_1 rfl rfl), fun _ => .plain rfl (op_load_p1 tyOne4 rfl rfl rfl), fun _ => .plain rfl (op_move rfl), fun _ => .plain rfl (op_move rfl), fun _ => .plain rfl (op_call0 (r3_plus_spec e13) goes77 rfl rfl), fun _ => .plain rfl (op_call0 (r3_number_spec e14) goes76 rfl rfl), trivial⟩ ⟨_, by exact .plain rfl (op_store_p tyAgg25 rfl rfl rfl rfl (Nat.le_of_ble_eq_true rfl) rfl), rfl⟩ rfl (Tri.ret (Fin.then_ret ?_))
    obtain rfl := Option.some.inj h
    refine Fin.keepS ⟨[(4, Pt 103 0)], [(103, .box 25 (eBig x_12))]⟩ rfl (Fin.result' [.agg (eBig x_12)] (.inl rfl) rfl (.cons (.agg tyAgg25 rfl rfl rfl rfl) .nil) ⟨rfl, rfl⟩)
   ·refine Tri.skip (Fin.keepS ⟨[(2, Pt 101 0), (3, Pt 102 0), (4, Pt 103 0), (9, .b (.one (.sl 1 (x_9.map eI)))), (10, .b (.one (.sl 1 (x_10.map eI))))], [(101, .box 25 (eBig a0)), (102, .box 25 (eBig b0)), (103, .box 25 zBig)]⟩ rfl (Fin.then (Tri.seq (Tri.regionL ?_))))
    refine Oc rfl (op_move rfl) (Oc rfl (op_move rfl) ?_)
    obtain ⟨x_13, e15, h⟩ := bnd h
    refine Oc rfl (op_call0 (r3_less_spec e15) goes131 rfl rfl) (Oc rfl (op_assign rfl) ?_)
    refine OpsL.nilS ⟨[(2, Pt 101 0), (3, Pt 102 0), (4, Pt 103 0), (9, .b (.one (.sl 1 (x_9.map eI)))), (10, .b (.one (.sl 1 (x_10.map eI)))), (11, B x_13)], [(101, .box 25 (eBig a0)), (102, .box 25 (eBig b0)), (103, .box 25 zBig)]⟩ rfl (Tri.seq (Tri.seq (Tri.regionL ?_)))
    refine Oc rfl (op_move rfl) (OpsL.nilS ⟨[(2, Pt 101 0), (3, Pt 102 0), (4, Pt 103 0), (9, .b (.one (.sl 1 (x_9.map eI)))), (10, .b (.one (.sl 1 (x_10.map eI)))), (57, B x_13)], [(101, .box 25 (eBig a0)), (102, .box 25 (eBig b0)), (103, .box 25 zBig)]⟩ rfl (Tri.ite h rfl (fun _ h => ?_) (fun _ h => ?_)))
    ·refine Tri.seq (Tri.keepS ⟨[(3, Pt 102 0), (4, Pt 103 0), (9, .b (.one (.sl 1 (x_9.map eI)))), (10, .b (.one (.sl 1 (x_10.map eI))))], [(102, .box 25 (eBig b0)), (103, .box 25 zBig)]⟩ rfl ?_)
     obtain ⟨x_14, e16, h⟩ := bnd h
     obtain ⟨x_15, e17, h⟩ := bnd h
     refine Tri.regionY mixed 6 [Pt 102 1, B b0.Neg, .b (.one (.sl 1 (x_10.map eI))), .b (.one (.sl 1 (x_9.map eI))), .b (.one (.sl 1 (x_14.map eI))), .b (.agg (eBig x_15))] [4] [103] (s' := ⟨[(4, Pt 103 0)], [(103, .box 25 (eBig x_15))]⟩) rfl ⟨fun _ => .plain rfl (op_field_p tyFld25_1 rfl rfl), fun _ => .plain rfl (op_load_p1 tyOne4 rfl rfl rfl), fun _ => .plain rfl (op_move rfl), fun _ => .plain rfl (op_move rfl), fun _ => .plain rfl (op_call0 (r3_minus_spec e16) goes130 rfl rfl), fun _ => .plain rfl (op_call0 (r3_number_spec e17) goes76 rfl rfl), trivial⟩ ⟨_, by exact .plain rfl (op_store_p tyAgg25 rfl rfl rfl rfl (Nat.le_of_ble_eq_true rfl) rfl), rfl⟩ rfl (Tri.ret (Fin.then_ret ?_))
     obtain rfl := Option.some.inj h
     refine Fin.keepS ⟨[(4, Pt 103 0)], [(103, .box 25 (eBig x_15))]⟩ rfl (Fin.result' [.agg (eBig x_15)] (.inl rfl) rfl (.cons (.agg tyAgg25 rfl rfl rfl rfl) .nil) ⟨rfl, rfl⟩)
    ·refine Tri.skip (Fin.keepS ⟨[(2, Pt 101 0), (4, Pt 103 0), (9, .b (.one (.sl 1 (x_9.map eI)))), (10, .b (.one (.sl 1 (x_10.map eI))))], [(101, .box 25 (eBig a0)), (103, .box 25 zBig)]⟩ rfl (Fin.then (Tri.seq ?_)))
     refine Tri.keepS ⟨[(2, Pt 101 0), (4, Pt 103 0), (9, .b (.one (.sl 1 (x_9.map eI)))), (10, .b (.one (.sl 1 (x_10.map eI))))], [(101, .box 25 (eBig a0)), (103, .box 25 zBig)]⟩ rfl ?_
     obtain ⟨x_16, e18, h⟩ := bnd h
     obtain ⟨x_17, e19, h⟩ := bnd h
     refine Tri.regionY mixed 6 [Pt 101 1, B a0.Neg, .b (.one (.sl 1 (x_9.map eI))), .b (.one (.sl 1 (x_10.map eI))), .b (.one (.sl 1 (x_16.map eI))), .b (.agg (eBig x_17))] [4] [103] (s' := ⟨[(4, Pt 103 0)], [(103, .box 25 (eBig x_17))]⟩) rfl ⟨fun _ => .plain rfl (op_field_p tyFld25_1 rfl rfl), fun _ => .plain rfl (op_load_p1 tyOne4 rfl rfl rfl), fun _ => .plain rfl (op_move rfl), fun _ => .plain rfl (op_move rfl), fun _ => .plain rfl (op_call0 (r3_minus_spec e18) goes130 rfl rfl), fun _ => .plain rfl (op_call0 (r3_number_spec e19) goes76 rfl rfl), trivial⟩ ⟨_, by exact .plain rfl (op_store_p tyAgg25 rfl rfl rfl rfl (Nat.le_of_ble_eq_true rfl) rfl), rfl⟩ rfl (Tri.ret ?_)
     obtain rfl := Option.some.inj h
     refine Fin.keepS ⟨[(4, Pt 103 0)], [(103, .box 25 (eBig x_17))]⟩ rfl (Fin.result' [.agg (eBig x_17)] (.inl rfl) rfl (.cons (.agg tyAgg25 rfl rfl rfl rfl) .nil) ⟨rfl, rfl⟩)
def r3_Sub_S (F : Nat) (a0 : Big) (b0 : Big) : Option Big :=
 (r3_Neg_S F b0).bind fun x_1 => (r3_Add_S F a0 x_1).bind fun x_2 => some x_2
theorem r3_Sub_spec {F : Nat} {a0 : Big} {b0 : Big} {r : Big} (h : r3_Sub_S F a0 b0 = some r) : Meets Tryz.prog (tabs mx) 51 [] [.agg (eBig a0), .agg (eBig b0)] (Is [] (.b (.agg (eBig r)))) := by
 unfold r3_Sub_S at h
 refine Meets.intro 9 Tryz.func51 Tryz.ntmps51 rfl (by simp) fun E => ?_
 show Tri _ E ⟨9, [], []⟩ _ ⟨[(0, .b (.agg (eBig a0))), (1, .b (.agg (eBig b0)))], []⟩ _
 refine Tri.seq (Tri.regionL ?_)
 refine Oc rfl (op_box (k := 101) rfl rfl) (Oc rfl (op_box (k := 102) rfl rfl) (Oc rfl (op_alloc (k := 103) tyZero25 rfl) ?_))
 refine OpsL.nilS ⟨[(2, Pt 101 0), (3, Pt 102 0), (4, Pt 103 0)], [(101, .box 25 (eBig a0)), (102, .box 25 (eBig b0)), (103, .box 25 zBig)]⟩ rfl (Tri.seq ?_)
 obtain ⟨x_1, e1, h⟩ := bnd h
 obtain ⟨x_2, e2, h⟩ := bnd h
 refine Tri.regionY mixed 4 [.b (.agg (eBig a0)), .b (.agg (eBig b0)), .b (.agg (eBig x_1)), .b (.agg (eBig x_2))] [4] [103] (s' := ⟨[(4, Pt 103 0)], [(103, .box 25 (eBig x_2))]⟩) rfl ⟨fun _ => .plain rfl (op_load_p tyAgg25 rfl rfl rfl rfl), fun _ => .plain rfl (op_load_p tyAgg25 rfl rfl rfl rfl), fun _ => .plain rfl (op_call0 (r3_Neg_spec e1) goes88 rfl rfl), fun _ => .plain rfl (op_call0 (r3_Add_spec e2) goes100 rfl rfl), trivial⟩ ⟨_, by exact .plain rfl (op_store_p tyAgg25 rfl rfl rfl rfl (Nat.le_of_ble_eq_true rfl) rfl), rfl⟩ rfl (Tri.ret ?_)
 obtain rfl := Option.some.inj h
 refine Fin.keepS ⟨[(4, Pt 103 0)], [(103, .box 25 (eBig x_2))]⟩ rfl (Fin.result' [.agg (eBig x_2)] (.inl rfl) rfl (.cons (.agg tyAgg25 rfl rfl rfl rfl) .nil) ⟨rfl, rfl⟩)
def r3_Cmp_S (F : Nat) (a0 : Big) (b0 : Big) : Option Int :=
 (r3_Good_S F a0).bind fun x_1 => (gcall (!x_1) (r3_Good_S F b0)).bind fun x_2 => if ((!x_1) && (!x_2)) = true then (some 0) else ((r3_Good_S F a0).bind fun x_3 => if (!x_3) = true then (some (-1)) else ((r3_Good_S F b0).bind fun x_4 => if (!x_4) = true then (some 1) else (if (a0.Neg != b0.Neg) = true then (if a0.Neg = true then (some (-1)) else (some 1)) else ((r3_digits_S F a0).bind fun x_5 => (r3_digits_S F b0).bind fun x_6 => Option.bind (if a0.Neg = true then ((r3_digits_S F b0).bind fun x_9 => (r3_digits_S F a0).bind fun x_10 => some (x_9, x_10)) else (some (x_5, x_6))) (un2 fun x_7 y_8 => (r3_less_S F x_7 y_8).bind fun x_11 => (r3_less_S F y_8 x_7).bind fun x_12 => if x_11 = true then (some (-1)) else (if x_12 = true then (some 1) else (some 0)))))))
theorem r3_Cmp_spec {F : Nat} {a0 : Big} {b0 : Big} {r : Int} (h : r3_Cmp_S F a0 b0 = some r) : Meets Tryz.prog (tabs mx) 99 [] [.agg (eBig a0), .agg (eBig b0)] (Is [] (.b (.one (.i r)))) := by
 unfold r3_Cmp_S at h
 refine Meets.intro 48 Tryz.func99 Tryz.ntmps99 rfl (by simp) fun E => ?_
 show Tri _ E ⟨48, [], []⟩ _ ⟨[(0, .b (.agg (eBig a0))), (1, .b (.agg (eBig b0)))], []⟩ _
 refine Tri.seq (Tri.regionL ?_)
 refine Oc rfl (op_box (k := 101) rfl rfl) (Oc rfl (op_box (k := 102) rfl rfl) (Oc rfl (op_assign rfl) ?_))
 refine OpsL.nilS ⟨[(2, Pt 101 0), (3, Pt 102 0)], [(101, .box 25 (eBig a0)), (102, .box 25 (eBig b0))]⟩ rfl (Tri.seq (Tri.seq (Tri.regionL ?_)))
 refine Oc rfl (op_load_p tyAgg25 rfl rfl rfl rfl) ?_
 obtain ⟨x_1, e1, h⟩ := bnd h
 refine Oc rfl (op_call0 (r3_Good_spec e1) goes15 rfl rfl) (Oc rfl (op_not rfl) (Oc rfl (op_move rfl) ?_))
 refine OpsL.consG (!x_1) 99 [] (.plain rfl) (eq_t _) rfl rfl (fun g2 => trivial) (fun g2 => op_load_p tyAgg25 rfl rfl rfl rfl) (OpsL.keepS ⟨[(2, Pt 101 0), (3, Pt 102 0), (12, B (!x_1)), (13, .opt (!x_1) (.agg (eBig b0)))], [(101, .box 25 (eBig a0)), (102, .box 25 (eBig b0))]⟩ rfl ?_)
 obtain ⟨x_2, e4, h⟩ := bnd h
 refine OpsL.consG (!x_1) 99 [13] (.plain rfl) (eq_t _) rfl rfl (fun g3 => ⟨g3, trivial⟩) (fun g3 => op_call0 (r3_Good_spec (gc e4 g3)) goes15 rfl rfl) (OpsL.consG (!x_1) 99 [14] (.plain rfl) (eq_t _) rfl rfl (fun g5 => ⟨g5, trivial⟩) (fun g5 => op_not rfl) (Oc rfl (op_pick_and (fun e => e) rfl rfl rfl rfl) (OpsL.nilS ⟨[(2, Pt 101 0), (3, Pt 102 0), (16, B ((!x_1) && (!x_2)))], [(101, .box 25 (eBig a0)), (102, .box 25 (eBig b0))]⟩ rfl (Tri.ite h rfl (fun _ h => ?_) (fun _ h => ?_)))))
 ·refine Tri.seq (Tri.regionL ?_)
  refine Oc rfl (op_assign rfl) (OpsL.nilS ⟨[(4, I 0)], []⟩ rfl (Tri.ret (Fin.then_ret ?_)))
  obtain rfl := Option.some.inj h
  refine Fin.keepS ⟨[(4, I 0)], []⟩ rfl (Fin.result' [.one (.i 0)] (.inl rfl) rfl (.cons (.tmp rfl) .nil) ⟨rfl, rfl⟩)
 ·refine Tri.skip (Fin.keepS ⟨[(2, Pt 101 0), (3, Pt 102 0)], [(101, .box 25 (eBig a0)), (102, .box 25 (eBig b0))]⟩ rfl (Fin.then (Tri.seq (Tri.seq (Tri.regionL ?_)))))
  refine Oc rfl (op_load_p tyAgg25 rfl rfl rfl rfl) ?_
  obtain ⟨x_3, e6, h⟩ := bnd h
  refine Oc rfl (op_call0 (r3_Good_spec e6) goes15 rfl rfl) (Oc rfl (op_not rfl) ?_)
  refine OpsL.nilS ⟨[(2, Pt 101 0), (3, Pt 102 0), (19, B (!x_3))], [(101, .box 25 (eBig a0)), (102, .box 25 (eBig b0))]⟩ rfl (Tri.ite h rfl (fun _ h => ?_) (fun _ h => ?_))
  ·refine Tri.seq (Tri.regionL ?_)
   refine Oc rfl (op_assign rfl) (OpsL.nilS ⟨[(4, I (-1))], []⟩ rfl (Tri.ret (Fin.then_ret ?_)))
   obtain rfl := Option.some.inj h
   refine Fin.keepS ⟨[(4, I (-1))], []⟩ rfl (Fin.result' [.one (.i (-1))] (.inl rfl) rfl (.cons (.tmp rfl) .nil) ⟨rfl, rfl⟩)
  ·refine Tri.skip (Fin.keepS ⟨[(2, Pt 101 0), (3, Pt 102 0)], [(101, .box 25 (eBig a0)), (102, .box 25 (eBig b0))]⟩ rfl (Fin.then (Tri.seq (Tri.seq (Tri.regionL ?_)))))
   refine Oc rfl (op_load_p tyAgg25 rfl rfl rfl rfl) ?_
   obtain ⟨x_4, e7, h⟩ := bnd h
   refine Oc rfl (op_call0 (r3_Good_spec e7) goes15 rfl rfl) (Oc rfl (op_not rfl) ?_)
   refine OpsL.nilS ⟨[(2, Pt 101 0), (3, Pt 102 0), (22, B (!x_4))], [(101, .box 25 (eBig a0)), (102, .box 25 (eBig b0))]⟩ rfl (Tri.ite h rfl (fun _ h => ?_) (fun _ h => ?_))
   ·refine Tri.seq (Tri.regionL ?_)
    refine Oc rfl (op_assign rfl) (OpsL.nilS ⟨[(4, I 1)], []⟩ rfl (Tri.ret (Fin.then_ret ?_)))
    obtain rfl := Option.some.inj h
    refine Fin.keepS ⟨[(4, I 1)], []⟩ rfl (Fin.result' [.one (.i 1)] (.inl rfl) rfl (.cons (.tmp rfl) .nil) ⟨rfl, rfl⟩)
   ·refine Tri.skip (Fin.keepS ⟨[(2, Pt 101 0), (3, Pt 102 0)], [(101, .box 25 (eBig a0)), (102, .box 25 (eBig b0))]⟩ rfl (Fin.then (Tri.seq (Tri.seq (Tri.regionL ?_)))))
    refine Oc rfl (op_field_p tyFld25_1 rfl rfl) (Oc rfl (op_load_p1 tyOne4 rfl rfl rfl) (Oc rfl (op_field_p tyFld25_1 rfl rfl) (Oc rfl (op_load_p1 tyOne4 rfl rfl rfl) (Oc rfl (op_neq_bool und4 rfl rfl) ?_))))
    refine OpsL.nilS ⟨[(2, Pt 101 0), (3, Pt 102 0), (27, B (a0.Neg != b0.Neg))], [(101, .box 25 (eBig a0)), (102, .box 25 (eBig b0))]⟩ rfl (Tri.ite h rfl (fun _ h => ?_) (fun _ h => ?_))
    ·refine Tri.seq (Tri.seq (Tri.regionL ?_))
     refine Oc rfl (op_field_p tyFld25_1 rfl rfl) (Oc rfl (op_load_p1 tyOne4 rfl rfl rfl) ?_)
     refine OpsL.nilS ⟨[(29, B a0.Neg)], []⟩ rfl (Tri.ite h rfl (fun _ h => ?_) (fun _ h => ?_))
     ·refine Tri.seq (Tri.regionL ?_)
      refine Oc rfl (op_assign rfl) (OpsL.nilS ⟨[(4, I (-1))], []⟩ rfl (Tri.ret (Fin.then_ret (Fin.then_ret ?_))))
      obtain rfl := Option.some.inj h
      refine Fin.keepS ⟨[(4, I (-1))], []⟩ rfl (Fin.result' [.one (.i (-1))] (.inl rfl) rfl (.cons (.tmp rfl) .nil) ⟨rfl, rfl⟩)
     ·refine Tri.skip (Fin.keepS ⟨[], []⟩ rfl (Fin.then (Tri.seq (Tri.regionL ?_))))
      refine Oc rfl (op_assign rfl) (OpsL.nilS ⟨[(4, I 1)], []⟩ rfl (Tri.ret (Fin.then_ret ?_)))
      obtain rfl := Option.some.inj h
      refine Fin.keepS ⟨[(4, I 1)], []⟩ rfl (Fin.result' [.one (.i 1)] (.inl rfl) rfl (.cons (.tmp rfl) .nil) ⟨rfl, rfl⟩)
    ·refine Tri.skip (Fin.keepS ⟨[(2, Pt 101 0), (3, Pt 102 0)], [(101, .box 25 (eBig a0)), (102, .box 25 (eBig b0))]⟩ rfl (Fin.then (Tri.seq (Tri.regionL ?_))))
     refine Oc rfl (op_load_p tyAgg25 rfl rfl rfl rfl) ?_
     obtain ⟨x_5, e8, h⟩ := bnd h
     refine Oc rfl (op_call0 (r3_digits_spec e8) goes85 rfl rfl) (Oc rfl (op_assign rfl) ?_)
     refine OpsL.nilS ⟨[(2, Pt 101 0), (3, Pt 102 0), (5, .b (.one (.sl 1 (x_5.map eI))))], [(101, .box 25 (eBig a0)), (102, .box 25 (eBig b0))]⟩ rfl (Tri.seq (Tri.regionL ?_))
     refine Oc rfl (op_load_p tyAgg25 rfl rfl rfl rfl) ?_
     obtain ⟨x_6, e9, h⟩ := bnd h
     refine Oc rfl (op_call0 (r3_digits_spec e9) goes85 rfl rfl) (Oc rfl (op_assign rfl) ?_)
     refine OpsL.nilS ⟨[(2, Pt 101 0), (3, Pt 102 0), (5, .b (.one (.sl 1 (x_5.map eI)))), (6, .b (.one (.sl 1 (x_6.map eI))))], [(101, .box 25 (eBig a0)), (102, .box 25 (eBig b0))]⟩ rfl ?_
     obtain ⟨v10, h11, h⟩ := bnd h
     refine Tri.seqJ (v := v10) (un2 fun (x_7 : List Int) (y_8 : List Int) => ⟨[(5, .b (.one (.sl 1 (x_7.map eI)))), (6, .b (.one (.sl 1 (y_8.map eI))))], []⟩) (fun z => z) ?_ ?_
     ·refine Tri.seq (Tri.regionL ?_)
      refine Oc rfl (op_field_p tyFld25_1 rfl rfl) (Oc rfl (op_load_p1 tyOne4 rfl rfl rfl) ?_)
      refine OpsL.nilS ⟨[(2, Pt 101 0), (3, Pt 102 0), (5, .b (.one (.sl 1 (x_5.map eI)))), (6, .b (.one (.sl 1 (x_6.map eI)))), (35, B a0.Neg)], [(101, .box 25 (eBig a0)), (102, .box 25 (eBig b0))]⟩ rfl (Tri.ite h11 rfl (fun _ h11 => ?_) (fun _ h11 => ?_))
      ·refine Tri.seq (Tri.regionL ?_)
       refine Oc rfl (op_load_p tyAgg25 rfl rfl rfl rfl) ?_
       obtain ⟨x_9, e12, h11⟩ := bnd h11
       refine Oc rfl (op_call0 (r3_digits_spec e12) goes85 rfl rfl) (Oc rfl (op_assign rfl) ?_)
       refine OpsL.nilS ⟨[(2, Pt 101 0), (5, .b (.one (.sl 1 (x_9.map eI))))], [(101, .box 25 (eBig a0))]⟩ rfl (Tri.regionL (Oc rfl (op_load_p tyAgg25 rfl rfl rfl rfl) ?_))
       obtain ⟨x_10, e13, h11⟩ := bnd h11
       refine Oc rfl (op_call0 (r3_digits_spec e13) goes85 rfl rfl) (Oc rfl (op_assign rfl) ?_)
       refine OpsL.nil ?_
       exact Fin.join [5, 6] [] (x_9, x_10) (Option.some.inj h11) rfl
      ·refine Tri.skip ?_
       exact Fin.join [5, 6] [] (x_5, x_6) (Option.some.inj h11) rfl
     ·rintro ⟨x_7, y_8⟩ hv
      subst v10
      refine Tri.seq (Tri.regionL ?_)
      refine Oc rfl (op_move rfl) (Oc rfl (op_move rfl) ?_)
      obtain ⟨x_11, e14, h⟩ := bnd h
      refine Oc rfl (op_call0 (r3_less_spec e14) goes131 rfl rfl) (Oc rfl (op_assign rfl) ?_)
      refine OpsL.nilS ⟨[(5, .b (.one (.sl 1 (x_7.map eI)))), (6, .b (.one (.sl 1 (y_8.map eI)))), (7, B x_11)], []⟩ rfl (Tri.seq (Tri.regionL ?_))
      refine Oc rfl (op_move rfl) (Oc rfl (op_move rfl) ?_)
      obtain ⟨x_12, e15, h⟩ := bnd h
      refine Oc rfl (op_call0 (r3_less_spec e15) goes131 rfl rfl) (Oc rfl (op_assign rfl) ?_)
      refine OpsL.nilS ⟨[(7, B x_11), (8, B x_12)], []⟩ rfl (Tri.seq (Tri.seq (Tri.regionL ?_)))
      refine Oc rfl (op_move rfl) (OpsL.nilS ⟨[(8, B x_12), (46, B x_11)], []⟩ rfl (Tri.ite h rfl (fun _ h => ?_) (fun _ h => ?_)))
      ·refine Tri.seq (Tri.regionL ?_)
       refine Oc rfl (op_assign rfl) (OpsL.nilS ⟨[(4, I (-1))], []⟩ rfl (Tri.ret (Fin.then_ret ?_)))
       obtain rfl := Option.some.inj h
       refine Fin.keepS ⟨[(4, I (-1))], []⟩ rfl (Fin.result' [.one (.i (-1))] (.inl rfl) rfl (.cons (.tmp rfl) .nil) ⟨rfl, rfl⟩)
      ·refine Tri.skip (Fin.keepS ⟨[(8, B x_12)], []⟩ rfl (Fin.then (Tri.seq (Tri.seq (Tri.regionL ?_)))))
       refine Oc rfl (op_move rfl) (OpsL.nilS ⟨[(47, B x_12)], []⟩ rfl (Tri.ite h rfl (fun _ h => ?_) (fun _ h => ?_)))
       ·refine Tri.seq (Tri.regionL ?_)
        refine Oc rfl (op_assign rfl) (OpsL.nilS ⟨[(4, I 1)], []⟩ rfl (Tri.ret (Fin.then_ret ?_)))
        obtain rfl := Option.some.inj h
        refine Fin.keepS ⟨[(4, I 1)], []⟩ rfl (Fin.result' [.one (.i 1)] (.inl rfl) rfl (.cons (.tmp rfl) .nil) ⟨rfl, rfl⟩)
       ·refine Tri.skip (Fin.keepS ⟨[], []⟩ rfl (Fin.then (Tri.seq (Tri.regionL ?_))))
        refine Oc rfl (op_assign rfl) (OpsL.nilS ⟨[(4, I 0)], []⟩ rfl (Tri.ret ?_))
        obtain rfl := Option.some.inj h
        refine Fin.keepS ⟨[(4, I 0)], []⟩ rfl (Fin.result' [.one (.i 0)] (.inl rfl) rfl (.cons (.tmp rfl) .nil) ⟨rfl, rfl⟩)
def r4_Near_S (F : Nat) (x0 : Frc) : Option Big :=
 (r4_Good_S F x0).bind fun x_1 => if (!x_1) = true then ((r3_Bad_S F).bind fun x_2 => some x_2) else ((r3_Quo_S F x0.N x0.D).bind fun x_3 => (r3_Rem_S F x0.N x0.D).bind fun x_4 => (r3_Sub_S F x0.D x_4).bind fun x_5 => (r3_Cmp_S F x_4 x_5).bind fun x_6 => if (decide (0 ≤ x_6)) = true then ((r4_one_S F).bind fun x_7 => (r3_Add_S F x_3 x_7).bind fun x_8 => some x_8) else (some x_3))
theorem r4_Near_spec {F : Nat} {x0 : Frc} {r : Big} (h : r4_Near_S F x0 = some r) : Meets Tryz.prog (tabs mx) 36 [] [.agg (eFrc x0)] (Is [] (.b (.agg (eBig r)))) := by
 unfold r4_Near_S at h
 refine Meets.intro 30 Tryz.func36 Tryz.ntmps36 rfl (by simp) fun E => ?_
 show Tri _ E ⟨30, [], []⟩ _ ⟨[(0, .b (.agg (eFrc x0)))], []⟩ _
 refine Tri.seq (Tri.regionL ?_)
 refine Oc rfl (op_box (k := 101) rfl rfl) (Oc rfl (op_alloc (k := 102) tyZero25 rfl) ?_)
 refine OpsL.nilS ⟨[(1, Pt 101 0), (2, Pt 102 0)], [(101, .box 27 (eFrc x0)), (102, .box 25 zBig)]⟩ rfl (Tri.seq (Tri.seq (Tri.regionL ?_)))
 refine Oc rfl (op_load_p tyAgg27 rfl rfl rfl rfl) ?_
 obtain ⟨x_1, e1, h⟩ := bnd h
 refine Oc rfl (op_call0 (r4_Good_spec e1) goes13 rfl rfl) (Oc rfl (op_not rfl) ?_)
 refine OpsL.nilS ⟨[(1, Pt 101 0), (2, Pt 102 0), (7, B (!x_1))], [(101, .box 27 (eFrc x0)), (102, .box 25 zBig)]⟩ rfl (Tri.ite h rfl (fun _ h => ?_) (fun _ h => ?_))
 ·refine Tri.seq (Tri.regionL ?_)
  obtain ⟨x_2, e2, h⟩ := bnd h
  refine Oc rfl (op_call0 (r3_Bad_spec e2) goes83 rfl rfl) (Oc rfl (op_store_p tyAgg25 rfl rfl rfl rfl (Nat.le_of_ble_eq_true rfl) rfl) ?_)
  refine OpsL.nilS ⟨[(2, Pt 102 0)], [(102, .box 25 (eBig x_2))]⟩ rfl (Tri.ret (Fin.then_ret ?_))
  obtain rfl := Option.some.inj h
  refine Fin.keepS ⟨[(2, Pt 102 0)], [(102, .box 25 (eBig x_2))]⟩ rfl (Fin.result' [.agg (eBig x_2)] (.inl rfl) rfl (.cons (.agg tyAgg25 rfl rfl rfl rfl) .nil) ⟨rfl, rfl⟩)
 ·refine Tri.skip (Fin.keepS ⟨[(1, Pt 101 0), (2, Pt 102 0)], [(101, .box 27 (eFrc x0)), (102, .box 25 zBig)]⟩ rfl (Fin.then (Tri.seq (Tri.regionL ?_))))
  refine Oc rfl (op_field_p tyFld27_0 rfl rfl) (Oc rfl (op_load_p tyAgg25 rfl rfl rfl rfl) (Oc rfl (op_field_p tyFld27_1 rfl rfl) (Oc rfl (op_load_p tyAgg25 rfl rfl rfl rfl) ?_)))
  obtain ⟨x_3, e3, h⟩ := bnd h
  refine Oc rfl (op_call0 (r3_Quo_spec e3) goes89 rfl rfl) (Oc rfl (op_alloc (k := 103) tyZero25 rfl) (Oc rfl (op_store_p tyAgg25 rfl rfl rfl rfl (Nat.le_of_ble_eq_true rfl) rfl) ?_))
  refine OpsL.nilS ⟨[(1, Pt 101 0), (2, Pt 102 0), (3, Pt 103 0)], [(101, .box 27 (eFrc x0)), (102, .box 25 zBig), (103, .box 25 (eBig x_3))]⟩ rfl (Tri.seq (Tri.regionL ?_))
  refine Oc rfl (op_field_p tyFld27_0 rfl rfl) (Oc rfl (op_load_p tyAgg25 rfl rfl rfl rfl) (Oc rfl (op_field_p tyFld27_1 rfl rfl) (Oc rfl (op_load_p tyAgg25 rfl rfl rfl rfl) ?_)))
  obtain ⟨x_4, e4, h⟩ := bnd h
  refine Oc rfl (op_call0 (r3_Rem_spec e4) goes98 rfl rfl) (Oc rfl (op_alloc (k := 104) tyZero25 rfl) (Oc rfl (op_store_p tyAgg25 rfl rfl rfl rfl (Nat.le_of_ble_eq_true rfl) rfl) ?_))
  refine OpsL.nilS ⟨[(1, Pt 101 0), (2, Pt 102 0), (3, Pt 103 0), (4, Pt 104 0)], [(101, .box 27 (eFrc x0)), (102, .box 25 zBig), (103, .box 25 (eBig x_3)), (104, .box 25 (eBig x_4))]⟩ rfl (Tri.seq (Tri.seq ?_))
  refine Tri.keepS ⟨[(1, Pt 101 0), (2, Pt 102 0), (3, Pt 103 0), (4, Pt 104 0)], [(101, .box 27 (eFrc x0)), (102, .box 25 zBig), (103, .box 25 (eBig x_3)), (104, .box 25 (eBig x_4))]⟩ rfl ?_
  obtain ⟨x_5, e5, h⟩ := bnd h
  obtain ⟨x_6, e6, h⟩ := bnd h
  refine Tri.regionY mixed 7 [.b (.agg (eBig x_4)), Pt 101 18, .b (.agg (eBig x0.D)), .b (.agg (eBig x_4)), .b (.agg (eBig x_5)), I x_6, B (decide (0 ≤ x_6))] [2, 3, 25] [102, 103] (s' := ⟨[(2, Pt 102 0), (3, Pt 103 0), (25, B (decide (0 ≤ x_6)))], [(102, .box 25 zBig), (103, .box 25 (eBig x_3))]⟩) rfl ⟨fun _ => .plain rfl (op_load_p tyAgg25 rfl rfl rfl rfl), fun _ => .plain rfl (op_field_p tyFld27_1 rfl rfl), fun _ => .plain rfl (op_load_p tyAgg25 rfl rfl rfl rfl), fun _ => .plain rfl (op_load_p tyAgg25 rfl rfl rfl rfl), fun _ => .plain rfl (op_call0 (r3_Sub_spec e5) goes51 rfl rfl), fun _ => .plain rfl (op_call0 (r3_Cmp_spec e6) goes99 rfl rfl), fun _ => .plain rfl (op_geq rfl rfl), trivial⟩ rfl rfl (Tri.ite h rfl (fun _ h => ?_) (fun _ h => ?_))
  ·refine Tri.seq (Tri.keepS ⟨[(2, Pt 102 0), (3, Pt 103 0)], [(102, .box 25 zBig), (103, .box 25 (eBig x_3))]⟩ rfl ?_)
   obtain ⟨x_7, e7, h⟩ := bnd h
   obtain ⟨x_8, e8, h⟩ := bnd h
   refine Tri.regionY mixed 3 [.b (.agg (eBig x_3)), .b (.agg (eBig x_7)), .b (.agg (eBig x_8))] [2] [102] (s' := ⟨[(2, Pt 102 0)], [(102, .box 25 (eBig x_8))]⟩) rfl ⟨fun _ => .plain rfl (op_load_p tyAgg25 rfl rfl rfl rfl), fun _ => .plain rfl (op_call0 (r4_one_spec e7) goes80 rfl rfl), fun _ => .plain rfl (op_call0 (r3_Add_spec e8) goes100 rfl rfl), trivial⟩ ⟨_, by exact .plain rfl (op_store_p tyAgg25 rfl rfl rfl rfl (Nat.le_of_ble_eq_true rfl) rfl), rfl⟩ rfl (Tri.ret (Fin.then_ret ?_))
   obtain rfl := Option.some.inj h
   refine Fin.keepS ⟨[(2, Pt 102 0)], [(102, .box 25 (eBig x_8))]⟩ rfl (Fin.result' [.agg (eBig x_8)] (.inl rfl) rfl (.cons (.agg tyAgg25 rfl rfl rfl rfl) .nil) ⟨rfl, rfl⟩)
  ·refine Tri.skip (Fin.keepS ⟨[(2, Pt 102 0), (3, Pt 103 0)], [(102, .box 25 zBig), (103, .box 25 (eBig x_3))]⟩ rfl (Fin.then (Tri.seq (Tri.regionL ?_))))
   refine Oc rfl (op_load_p tyAgg25 rfl rfl rfl rfl) (Oc rfl (op_store_p tyAgg25 rfl rfl rfl rfl (Nat.le_of_ble_eq_true rfl) rfl) ?_)
   refine OpsL.nilS ⟨[(2, Pt 102 0)], [(102, .box 25 (eBig x_3))]⟩ rfl (Tri.ret ?_)
   obtain rfl := Option.some.inj h
   refine Fin.keepS ⟨[(2, Pt 102 0)], [(102, .box 25 (eBig x_3))]⟩ rfl (Fin.result' [.agg (eBig x_3)] (.inl rfl) rfl (.cons (.agg tyAgg25 rfl rfl rfl rfl) .nil) ⟨rfl, rfl⟩)
def r4_Sign_S (F : Nat) (x0 : Frc) : Option Int :=
 (r4_Good_S F x0).bind fun x_1 => if (!x_1) = true then (some 0) else ((r3_Sign_S F x0.N).bind fun x_2 => some x_2)
theorem r4_Sign_spec {F : Nat} {x0 : Frc} {r : Int} (h : r4_Sign_S F x0 = some r) : Meets Tryz.prog (tabs mx) 38 [] [.agg (eFrc x0)] (Is [] (.b (.one (.i r)))) := by
 unfold r4_Sign_S at h
 refine Meets.intro 9 Tryz.func38 Tryz.ntmps38 rfl (by simp) fun E => ?_
 show Tri _ E ⟨9, [], []⟩ _ ⟨[(0, .b (.agg (eFrc x0)))], []⟩ _
 refine Tri.seq (Tri.regionL ?_)
 refine Oc rfl (op_box (k := 101) rfl rfl) (Oc rfl (op_assign rfl) ?_)
 refine OpsL.nilS ⟨[(1, Pt 101 0)], [(101, .box 27 (eFrc x0))]⟩ rfl (Tri.seq (Tri.seq (Tri.regionL ?_)))
 refine Oc rfl (op_load_p tyAgg27 rfl rfl rfl rfl) ?_
 obtain ⟨x_1, e1, h⟩ := bnd h
 refine Oc rfl (op_call0 (r4_Good_spec e1) goes13 rfl rfl) (Oc rfl (op_not rfl) ?_)
 refine OpsL.nilS ⟨[(1, Pt 101 0), (5, B (!x_1))], [(101, .box 27 (eFrc x0))]⟩ rfl (Tri.ite h rfl (fun _ h => ?_) (fun _ h => ?_))
 ·refine Tri.seq (Tri.regionL ?_)
  refine Oc rfl (op_assign rfl) (OpsL.nilS ⟨[(2, I 0)], []⟩ rfl (Tri.ret (Fin.then_ret ?_)))
  obtain rfl := Option.some.inj h
  refine Fin.keepS ⟨[(2, I 0)], []⟩ rfl (Fin.result' [.one (.i 0)] (.inl rfl) rfl (.cons (.tmp rfl) .nil) ⟨rfl, rfl⟩)
 ·refine Tri.skip (Fin.keepS ⟨[(1, Pt 101 0)], [(101, .box 27 (eFrc x0))]⟩ rfl (Fin.then (Tri.seq (Tri.regionL ?_))))
  refine Oc rfl (op_field_p tyFld27_0 rfl rfl) (Oc rfl (op_load_p tyAgg25 rfl rfl rfl rfl) ?_)
  obtain ⟨x_2, e2, h⟩ := bnd h
  refine Oc rfl (op_call0 (r3_Sign_spec e2) goes78 rfl rfl) (Oc rfl (op_assign rfl) ?_)
  refine OpsL.nilS ⟨[(2, I x_2)], []⟩ rfl (Tri.ret ?_)
  obtain rfl := Option.some.inj h
  refine Fin.keepS ⟨[(2, I x_2)], []⟩ rfl (Fin.result' [.one (.i x_2)] (.inl rfl) rfl (.cons (.tmp rfl) .nil) ⟨rfl, rfl⟩)
def l4_RatioRoundsAsSpecified_S (F : Nat) (x0 : Frc) (k0 : Int) : Option Bool :=
 Option.bind (ratio_Dyadic_S F x0 k0) (un2 fun x_1 x_2 => (r4_Dyadic_S F x0 k0).bind fun x_3 => (l4_sanity_S F).bind fun x_4 => (gcall ((x_4 && (decide (x_1 = x_3.Lo))) && (decide (x_2 = x_3.Hi))) (ratio_Floor_S F x0)).bind fun x_5 => (gcall ((x_4 && (decide (x_1 = x_3.Lo))) && (decide (x_2 = x_3.Hi))) (r4_Floor_S F x0)).bind fun x_6 => (gcall (((x_4 && (decide (x_1 = x_3.Lo))) && (decide (x_2 = x_3.Hi))) && (decide (x_5 = x_6))) (ratio_Ceil_S F x0)).bind fun x_7 => (gcall (((x_4 && (decide (x_1 = x_3.Lo))) && (decide (x_2 = x_3.Hi))) && (decide (x_5 = x_6))) (r4_Ceil_S F x0)).bind fun x_8 => (gcall ((((x_4 && (decide (x_1 = x_3.Lo))) && (decide (x_2 = x_3.Hi))) && (decide (x_5 = x_6))) && (decide (x_7 = x_8))) (ratio_Near_S F x0)).bind fun x_9 => (gcall ((((x_4 && (decide (x_1 = x_3.Lo))) && (decide (x_2 = x_3.Hi))) && (decide (x_5 = x_6))) && (decide (x_7 = x_8))) (r4_Near_S F x0)).bind fun x_10 => (gcall (((((x_4 && (decide (x_1 = x_3.Lo))) && (decide (x_2 = x_3.Hi))) && (decide (x_5 = x_6))) && (decide (x_7 = x_8))) && (decide (x_9 = x_10))) (ratio_Sign_S F x0)).bind fun x_11 => (gcall (((((x_4 && (decide (x_1 = x_3.Lo))) && (decide (x_2 = x_3.Hi))) && (decide (x_5 = x_6))) && (decide (x_7 = x_8))) && (decide (x_9 = x_10))) (r4_Sign_S F x0)).bind fun x_12 => some ((((((x_4 && (decide (x_1 = x_3.Lo))) && (decide (x_2 = x_3.Hi))) && (decide (x_5 = x_6))) && (decide (x_7 = x_8))) && (decide (x_9 = x_10))) && (decide (x_11 = x_12))))
theorem l4_RatioRoundsAsSpecified_spec {F : Nat} {x0 : Frc} {k0 : Int} {r : Bool} (h : l4_RatioRoundsAsSpecified_S F x0 k0 = some r) : Meets Tryz.prog (tabs mx) 4 [] [.agg (eFrc x0), .one (.i k0)] (Is [] (.b (.one (.bool r)))) := by
 unfold l4_RatioRoundsAsSpecified_S at h
 refine Meets.intro 58 Tryz.func4 Tryz.ntmps4 rfl (by simp) fun E => ?_
 show Tri _ E ⟨58, [], []⟩ _ ⟨[(0, .b (.agg (eFrc x0))), (1, I k0)], []⟩ _
 refine Tri.seq (Tri.regionL ?_)
 refine Oc rfl (op_box (k := 101) rfl rfl) (Oc rfl (op_assign rfl) ?_)
 refine OpsL.nilS ⟨[(1, I k0), (2, Pt 101 0)], [(101, .box 27 (eFrc x0))]⟩ rfl (Tri.seq (Tri.regionL ?_))
 refine Oc rfl (op_load_p tyAgg27 rfl rfl rfl rfl) (Oc rfl (op_move rfl) ?_)
 obtain ⟨⟨x_1, x_2⟩, e1, h⟩ := bnd h
 refine Oc rfl (op_call0 (ratio_Dyadic_spec e1) goes29 rfl rfl) (Oc rfl (op_move rfl) (Oc rfl (op_extract rfl rfl) ?_))
 refine OpsL.keepS ⟨[(1, I k0), (2, Pt 101 0), (8, .tup [.agg (eFrc x_1), .agg (eFrc x_2)]), (12, .b (.agg (eFrc x_1)))], [(101, .box 27 (eFrc x0))]⟩ rfl (Oc rfl (op_extract rfl rfl) (Oc rfl (op_alloc (k := 102) tyZero27 rfl) (Oc rfl (op_alloc (k := 103) tyZero27 rfl) (Oc rfl (op_store_p tyAgg27 rfl rfl rfl rfl (Nat.le_of_ble_eq_true rfl) rfl) (Oc rfl (op_store_p tyAgg27 rfl rfl rfl rfl (Nat.le_of_ble_eq_true rfl) rfl) ?_)))))
 refine OpsL.nilS ⟨[(1, I k0), (2, Pt 101 0), (5, Pt 102 0), (6, Pt 103 0)], [(101, .box 27 (eFrc x0)), (102, .box 27 (eFrc x_1)), (103, .box 27 (eFrc x_2))]⟩ rfl (Tri.seq (Tri.regionL ?_))
 refine Oc rfl (op_load_p tyAgg27 rfl rfl rfl rfl) (Oc rfl (op_move rfl) ?_)
 obtain ⟨x_3, e2, h⟩ := bnd h
 refine Oc rfl (op_call0 (r4_Dyadic_spec e2) goes30 rfl rfl) (Oc rfl (op_alloc (k := 104) tyZero42 rfl) (Oc rfl (op_store_p tyAgg42 rfl rfl rfl rfl (Nat.le_of_ble_eq_true rfl) rfl) ?_))
 refine OpsL.nilS ⟨[(2, Pt 101 0), (5, Pt 102 0), (6, Pt 103 0), (7, Pt 104 0)], [(101, .box 27 (eFrc x0)), (102, .box 27 (eFrc x_1)), (103, .box 27 (eFrc x_2)), (104, .box 42 (eDPair x_3))]⟩ rfl (Tri.seq ?_)
 obtain ⟨x_4, e3, h⟩ := bnd h
 obtain ⟨x_5, e14, h⟩ := bnd h
 obtain ⟨x_6, e17, h⟩ := bnd h
 obtain ⟨x_7, e21, h⟩ := bnd h
 obtain ⟨x_8, e24, h⟩ := bnd h
 obtain ⟨x_9, e28, h⟩ := bnd h
 obtain ⟨x_10, e31, h⟩ := bnd h
 obtain ⟨x_11, e35, h⟩ := bnd h
 obtain ⟨x_12, e38, h⟩ := bnd h
 refine Tri.regionY mixed 42 [B x_4, B x_4, .opt x_4 (.agg (eFrc x_1)), .opt x_4 (.ptr 104 0), .opt x_4 (.agg (eFrc x_3.Lo)), .opt x_4 (.one (.bool (decide (x_1 = x_3.Lo)))), B (x_4 && (decide (x_1 = x_3.Lo))), B (x_4 && (decide (x_1 = x_3.Lo))), .opt (x_4 && (decide (x_1 = x_3.Lo))) (.agg (eFrc x_2)), .opt (x_4 && (decide (x_1 = x_3.Lo))) (.ptr 104 36), .opt (x_4 && (decide (x_1 = x_3.Lo))) (.agg (eFrc x_3.Hi)), .opt (x_4 && (decide (x_1 = x_3.Lo))) (.one (.bool (decide (x_2 = x_3.Hi)))), B ((x_4 && (decide (x_1 = x_3.Lo))) && (decide (x_2 = x_3.Hi))), B ((x_4 && (decide (x_1 = x_3.Lo))) && (decide (x_2 = x_3.Hi))), .opt ((x_4 && (decide (x_1 = x_3.Lo))) && (decide (x_2 = x_3.Hi))) (.agg (eFrc x0)), .opt ((x_4 && (decide (x_1 = x_3.Lo))) && (decide (x_2 = x_3.Hi))) (.agg (eBig x_5)), .opt ((x_4 && (decide (x_1 = x_3.Lo))) && (decide (x_2 = x_3.Hi))) (.agg (eFrc x0)), .opt ((x_4 && (decide (x_1 = x_3.Lo))) && (decide (x_2 = x_3.Hi))) (.agg (eBig x_6)), .opt ((x_4 && (decide (x_1 = x_3.Lo))) && (decide (x_2 = x_3.Hi))) (.one (.bool (decide (x_5 = x_6)))), B (((x_4 && (decide (x_1 = x_3.Lo))) && (decide (x_2 = x_3.Hi))) && (decide (x_5 = x_6))), B (((x_4 && (decide (x_1 = x_3.Lo))) && (decide (x_2 = x_3.Hi))) && (decide (x_5 = x_6))), .opt (((x_4 && (decide (x_1 = x_3.Lo))) && (decide (x_2 = x_3.Hi))) && (decide (x_5 = x_6))) (.agg (eFrc x0)), .opt (((x_4 && (decide (x_1 = x_3.Lo))) && (decide (x_2 = x_3.Hi))) && (decide (x_5 = x_6))) (.agg (eBig x_7)), .opt (((x_4 && (decide (x_1 = x_3.Lo))) && (decide (x_2 = x_3.Hi))) && (decide (x_5 = x_6))) (.agg (eFrc x0)), .opt (((x_4 && (decide (x_1 = x_3.Lo))) && (decide (x_2 = x_3.Hi))) && (decide (x_5 = x_6))) (.agg (eBig x_8)), .opt (((x_4 && (decide (x_1 = x_3.Lo))) && (decide (x_2 = x_3.Hi))) && (decide (x_5 = x_6))) (.one (.bool (decide (x_7 = x_8)))), B ((((x_4 && (decide (x_1 = x_3.Lo))) && (decide (x_2 = x_3.Hi))) && (decide (x_5 = x_6))) && (decide (x_7 = x_8))), B ((((x_4 && (decide (x_1 = x_3.Lo))) && (decide (x_2 = x_3.Hi))) && (decide (x_5 = x_6))) && (decide (x_7 = x_8))), .opt ((((x_4 && (decide (x_1 = x_3.Lo))) && (decide (x_2 = x_3.Hi))) && (decide (x_5 = x_6))) && (decide (x_7 = x_8))) (.agg (eFrc x0)), .opt ((((x_4 && (decide (x_1 = x_3.Lo))) && (decide (x_2 = x_3.Hi))) && (decide (x_5 = x_6))) && (decide (x_7 = x_8))) (.agg (eBig x_9)), .opt ((((x_4 && (decide (x_1 = x_3.Lo))) && (decide (x_2 = x_3.Hi))) && (decide (x_5 = x_6))) && (decide (x_7 = x_8))) (.agg (eFrc x0)), .opt ((((x_4 && (decide (x_1 = x_3.Lo))) && (decide (x_2 = x_3.Hi))) && (decide (x_5 = x_6))) && (decide (x_7 = x_8))) (.agg (eBig x_10)), .opt ((((x_4 && (decide (x_1 = x_3.Lo))) && (decide (x_2 = x_3.Hi))) && (decide (x_5 = x_6))) && (decide (x_7 = x_8))) (.one (.bool (decide (x_9 = x_10)))), B (((((x_4 && (decide (x_1 = x_3.Lo))) && (decide (x_2 = x_3.Hi))) && (decide (x_5 = x_6))) && (decide (x_7 = x_8))) && (decide (x_9 = x_10))), B (((((x_4 && (decide (x_1 = x_3.Lo))) && (decide (x_2 = x_3.Hi))) && (decide (x_5 = x_6))) && (decide (x_7 = x_8))) && (decide (x_9 = x_10))), .opt (((((x_4 && (decide (x_1 = x_3.Lo))) && (decide (x_2 = x_3.Hi))) && (decide (x_5 = x_6))) && (decide (x_7 = x_8))) && (decide (x_9 = x_10))) (.agg (eFrc x0)), .opt (((((x_4 && (decide (x_1 = x_3.Lo))) && (decide (x_2 = x_3.Hi))) && (decide (x_5 = x_6))) && (decide (x_7 = x_8))) && (decide (x_9 = x_10))) (.one (.i x_11)), .opt (((((x_4 && (decide (x_1 = x_3.Lo))) && (decide (x_2 = x_3.Hi))) && (decide (x_5 = x_6))) && (decide (x_7 = x_8))) && (decide (x_9 = x_10))) (.agg (eFrc x0)), .opt (((((x_4 && (decide (x_1 = x_3.Lo))) && (decide (x_2 = x_3.Hi))) && (decide (x_5 = x_6))) && (decide (x_7 = x_8))) && (decide (x_9 = x_10))) (.one (.i x_12)), .opt (((((x_4 && (decide (x_1 = x_3.Lo))) && (decide (x_2 = x_3.Hi))) && (decide (x_5 = x_6))) && (decide (x_7 = x_8))) && (decide (x_9 = x_10))) (.one (.bool (decide (x_11 = x_12)))), B ((((((x_4 && (decide (x_1 = x_3.Lo))) && (decide (x_2 = x_3.Hi))) && (decide (x_5 = x_6))) && (decide (x_7 = x_8))) && (decide (x_9 = x_10))) && (decide (x_11 = x_12))), B ((((((x_4 && (decide (x_1 = x_3.Lo))) && (decide (x_2 = x_3.Hi))) && (decide (x_5 = x_6))) && (decide (x_7 = x_8))) && (decide (x_9 = x_10))) && (decide (x_11 = x_12)))] [4] [] (s' := ⟨[(4, B ((((((x_4 && (decide (x_1 = x_3.Lo))) && (decide (x_2 = x_3.Hi))) && (decide (x_5 = x_6))) && (decide (x_7 = x_8))) && (decide (x_9 = x_10))) && (decide (x_11 = x_12))))], []⟩) rfl ⟨fun _ => .plain rfl (op_call0 (l4_sanity_spec e3) goes16 rfl rfl), fun _ => .plain rfl (op_move rfl), fun _ => by exact .guard x_4 1 [] (.plain rfl) (eq_t _) rfl rfl (fun g4 => trivial) (fun g4 => op_load_p tyAgg27 rfl rfl rfl rfl), fun _ => by exact .guard x_4 1 [] (.plain rfl) (eq_t _) rfl rfl (fun g5 => trivial) (fun g5 => op_field_p tyFld42_0 rfl rfl), fun _ => by exact .guard x_4 2 [20] (.plain rfl) (eq_t _) rfl rfl (fun g6 => ⟨g6, trivial⟩) (fun g6 => op_load_p tyAgg27 rfl rfl rfl rfl), fun _ => by exact .guard x_4 3 [19, 21] (.plain rfl) (eq_t _) rfl rfl (fun g7 => ⟨g7, g7, trivial⟩) (fun g7 => op_eql_agg (eqAgg27 x_1 x_3.Lo) rfl rfl), fun _ => .plain rfl (op_pick_and (fun e => e) rfl rfl rfl rfl), fun _ => .plain rfl (op_move rfl), fun _ => by exact .guard (x_4 && (decide (x_1 = x_3.Lo))) 1 [] (.plain rfl) (eq_t _) rfl rfl (fun g8 => trivial) (fun g8 => op_load_p tyAgg27 rfl rfl rfl rfl), fun _ => by exact .guard (x_4 && (decide (x_1 = x_3.Lo))) 1 [] (.plain rfl) (eq_t _) rfl rfl (fun g9 => trivial) (fun g9 => op_field_p tyFld42_1 rfl rfl), fun _ => by exact .guard (x_4 && (decide (x_1 = x_3.Lo))) 2 [26] (.plain rfl) (eq_t _) rfl rfl (fun g10 => ⟨g10, trivial⟩) (fun g10 => op_load_p tyAgg27 rfl rfl rfl rfl), fun _ => by exact .guard (x_4 && (decide (x_1 = x_3.Lo))) 3 [25, 27] (.plain rfl) (eq_t _) rfl rfl (fun g11 => ⟨g11, g11, trivial⟩) (fun g11 => op_eql_agg (eqAgg27 x_2 x_3.Hi) rfl rfl), fun _ => .plain rfl (op_pick_and (fun e => e) rfl rfl rfl rfl), fun _ => .plain rfl (op_move rfl), fun _ => by exact .guard ((x_4 && (decide (x_1 = x_3.Lo))) && (decide (x_2 = x_3.Hi))) 1 [] (.plain rfl) (eq_t _) rfl rfl (fun g12 => trivial) (fun g12 => op_load_p tyAgg27 rfl rfl rfl rfl), fun _ => by exact .guard ((x_4 && (decide (x_1 = x_3.Lo))) && (decide (x_2 = x_3.Hi))) 3 [31] (.plain rfl) (eq_t _) rfl rfl (fun g13 => ⟨g13, trivial⟩) (fun g13 => op_call0 (ratio_Floor_spec (gc e14 g13)) goes31 rfl rfl), fun _ => by exact .guard ((x_4 && (decide (x_1 = x_3.Lo))) && (decide (x_2 = x_3.Hi))) 1 [] (.plain rfl) (eq_t _) rfl rfl (fun g15 => trivial) (fun g15 => op_load_p tyAgg27 rfl rfl rfl rfl), fun _ => by exact .guard ((x_4 && (decide (x_1 = x_3.Lo))) && (decide (x_2 = x_3.Hi))) 3 [33] (.plain rfl) (eq_t _) rfl rfl (fun g16 => ⟨g16, trivial⟩) (fun g16 => op_call0 (r4_Floor_spec (gc e17 g16)) goes32 rfl rfl), fun _ => by exact .guard ((x_4 && (decide (x_1 = x_3.Lo))) && (decide (x_2 = x_3.Hi))) 3 [32, 34] (.plain rfl) (eq_t _) rfl rfl (fun g18 => ⟨g18, g18, trivial⟩) (fun g18 => op_eql_agg (eqAgg25 x_5 x_6) rfl rfl), fun _ => .plain rfl (op_pick_and (fun e => e) rfl rfl rfl rfl), fun _ => .plain rfl (op_move rfl), fun _ => by exact .guard (((x_4 && (decide (x_1 = x_3.Lo))) && (decide (x_2 = x_3.Hi))) && (decide (x_5 = x_6))) 1 [] (.plain rfl) (eq_t _) rfl rfl (fun g19 => trivial) (fun g19 => op_load_p tyAgg27 rfl rfl rfl rfl), fun _ => by exact .guard (((x_4 && (decide (x_1 = x_3.Lo))) && (decide (x_2 = x_3.Hi))) && (decide (x_5 = x_6))) 3 [38] (.plain rfl) (eq_t _) rfl rfl (fun g20 => ⟨g20, trivial⟩) (fun g20 => op_call0 (ratio_Ceil_spec (gc e21 g20)) goes33 rfl rfl), fun _ => by exact .guard (((x_4 && (decide (x_1 = x_3.Lo))) && (decide (x_2 = x_3.Hi))) && (decide (x_5 = x_6))) 1 [] (.plain rfl) (eq_t _) rfl rfl (fun g22 => trivial) (fun g22 => op_load_p tyAgg27 rfl rfl rfl rfl), fun _ => by exact .guard (((x_4 && (decide (x_1 = x_3.Lo))) && (decide (x_2 = x_3.Hi))) && (decide (x_5 = x_6))) 3 [40] (.plain rfl) (eq_t _) rfl rfl (fun g23 => ⟨g23, trivial⟩) (fun g23 => op_call0 (r4_Ceil_spec (gc e24 g23)) goes34 rfl rfl), fun _ => by exact .guard (((x_4 && (decide (x_1 = x_3.Lo))) && (decide (x_2 = x_3.Hi))) && (decide (x_5 = x_6))) 3 [39, 41] (.plain rfl) (eq_t _) rfl rfl (fun g25 => ⟨g25, g25, trivial⟩) (fun g25 => op_eql_agg (eqAgg25 x_7 x_8) rfl rfl), fun _ => .plain rfl (op_pick_and (fun e => e) rfl rfl rfl rfl), fun _ => .plain rfl (op_move rfl), fun _ => by exact .guard ((((x_4 && (decide (x_1 = x_3.Lo))) && (decide (x_2 = x_3.Hi))) && (decide (x_5 = x_6))) && (decide (x_7 = x_8))) 1 [] (.plain rfl) (eq_t _) rfl rfl (fun g26 => trivial) (fun g26 => op_load_p tyAgg27 rfl rfl rfl rfl), fun _ => by exact .guard ((((x_4 && (decide (x_1 = x_3.Lo))) && (decide (x_2 = x_3.Hi))) && (decide (x_5 = x_6))) && (decide (x_7 = x_8))) 3 [45] (.plain rfl) (eq_t _) rfl rfl (fun g27 => ⟨g27, trivial⟩) (fun g27 => op_call0 (ratio_Near_spec (gc e28 g27)) goes35 rfl rfl), fun _ => by exact .guard ((((x_4 && (decide (x_1 = x_3.Lo))) && (decide (x_2 = x_3.Hi))) && (decide (x_5 = x_6))) && (decide (x_7 = x_8))) 1 [] (.plain rfl) (eq_t _) rfl rfl (fun g29 => trivial) (fun g29 => op_load_p tyAgg27 rfl rfl rfl rfl), fun _ => by exact .guard ((((x_4 && (decide (x_1 = x_3.Lo))) && (decide (x_2 = x_3.Hi))) && (decide (x_5 = x_6))) && (decide (x_7 = x_8))) 3 [47] (.plain rfl) (eq_t _) rfl rfl (fun g30 => ⟨g30, trivial⟩) (fun g30 => op_call0 (r4_Near_spec (gc e31 g30)) goes36 rfl rfl), fun _ => by exact .guard ((((x_4 && (decide (x_1 = x_3.Lo))) && (decide (x_2 = x_3.Hi))) && (decide (x_5 = x_6))) && (decide (x_7 = x_8))) 3 [46, 48] (.plain rfl) (eq_t _) rfl rfl (fun g32 => ⟨g32, g32, trivial⟩) (fun g32 => op_eql_agg (eqAgg25 x_9 x_10) rfl rfl), fun _ => .plain rfl (op_pick_and (fun e => e) rfl rfl rfl rfl), fun _ => .plain rfl (op_move rfl), fun _ => by exact .guard (((((x_4 && (decide (x_1 = x_3.Lo))) && (decide (x_2 = x_3.Hi))) && (decide (x_5 = x_6))) && (decide (x_7 = x_8))) && (decide (x_9 = x_10))) 1 [] (.plain rfl) (eq_t _) rfl rfl (fun g33 => trivial) (fun g33 => op_load_p tyAgg27 rfl rfl rfl rfl), fun _ => by exact .guard (((((x_4 && (decide (x_1 = x_3.Lo))) && (decide (x_2 = x_3.Hi))) && (decide (x_5 = x_6))) && (decide (x_7 = x_8))) && (decide (x_9 = x_10))) 3 [52] (.plain rfl) (eq_t _) rfl rfl (fun g34 => ⟨g34, trivial⟩) (fun g34 => op_call0 (ratio_Sign_spec (gc e35 g34)) goes37 rfl rfl), fun _ => by exact .guard (((((x_4 && (decide (x_1 = x_3.Lo))) && (decide (x_2 = x_3.Hi))) && (decide (x_5 = x_6))) && (decide (x_7 = x_8))) && (decide (x_9 = x_10))) 1 [] (.plain rfl) (eq_t _) rfl rfl (fun g36 => trivial) (fun g36 => op_load_p tyAgg27 rfl rfl rfl rfl), fun _ => by exact .guard (((((x_4 && (decide (x_1 = x_3.Lo))) && (decide (x_2 = x_3.Hi))) && (decide (x_5 = x_6))) && (decide (x_7 = x_8))) && (decide (x_9 = x_10))) 3 [54] (.plain rfl) (eq_t _) rfl rfl (fun g37 => ⟨g37, trivial⟩) (fun g37 => op_call0 (r4_Sign_spec (gc e38 g37)) goes38 rfl rfl), fun _ => by exact .guard (((((x_4 && (decide (x_1 = x_3.Lo))) && (decide (x_2 = x_3.Hi))) && (decide (x_5 = x_6))) && (decide (x_7 = x_8))) && (decide (x_9 = x_10))) 3 [53, 55] (.plain rfl) (eq_t _) rfl rfl (fun g39 => ⟨g39, g39, trivial⟩) (fun g39 => op_eql rfl rfl), fun _ => .plain rfl (op_pick_and (fun e => e) rfl rfl rfl rfl), fun _ => .plain rfl (op_assign rfl), trivial⟩ rfl rfl ?_
 refine Tri.ret ?_
 obtain rfl := Option.some.inj h
 refine Fin.keepS ⟨[(4, B ((((((x_4 && (decide (x_1 = x_3.Lo))) && (decide (x_2 = x_3.Hi))) && (decide (x_5 = x_6))) && (decide (x_7 = x_8))) && (decide (x_9 = x_10))) && (decide (x_11 = x_12))))], []⟩ rfl (Fin.result' [.one (.bool ((((((x_4 && (decide (x_1 = x_3.Lo))) && (decide (x_2 = x_3.Hi))) && (decide (x_5 = x_6))) && (decide (x_7 = x_8))) && (decide (x_9 = x_10))) && (decide (x_11 = x_12))))] (.inl rfl) rfl (.cons (.tmp rfl) .nil) ⟨rfl, rfl⟩)
end Go.Proofs.YtdjnlmmhbeeihaaGreatDoor

