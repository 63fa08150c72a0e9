/- printed walks -/
import Derived.Test.YtaigaoifloldcaaDoorW2
namespace Go.Proofs.YtaigaoifloldcaaDoor
open Go.Sk
set_option maxHeartbeats 1000000
set_option maxRecDepth 4000
set_option linter.unusedSimpArgs false
set_option linter.unusedVariables false
def whole_Cmp_S (F : Nat) (a0 : Big) (b0 : Big) : Option Int :=
 Option.bind (whole_good_S F [a0]) (fun x_1 => Option.bind (whole_good_S F [b0]) (fun x_2 => if ((!x_1) && (!x_2)) = true then (some 0) else (if (!x_1) = true then (some (-1)) else (if (!x_2) = true then (some 1) else (if (a0.Neg != b0.Neg) = true then (if a0.Neg = true then (some (-1)) else (some 1)) else (if a0.Neg = true then (Option.bind (whole_order_S F b0.W a0.W) (fun x_3 => some x_3)) else (Option.bind (whole_order_S F a0.W b0.W) (fun x_4 => some x_4))))))))
theorem whole_Cmp_spec {F : Nat} {a0 : Big} {b0 : Big} {r : Int} (h : whole_Cmp_S F a0 b0 = some r) : Meets Tryd.prog tabs 25 [] [.agg (eBig a0), .agg (eBig b0)] (Is [] (.b (.one (.i r)))) := by
  unfold whole_Cmp_S at h
  refine Meets.intro 47 Tryd.func25 Tryd.ntmps25 rfl (by simp) fun E => ?_
  show Tri _ E ⟨47, [], []⟩ _ ⟨[(0, .b (.agg (eBig a0))), (1, .b (.agg (eBig b0)))], []⟩ _
  refine Tri.seq ?_
  refine Tri.regionL ?_
  refine OpsL.cons rfl (op_box (k := 101) rfl rfl) ?_
  refine OpsL.cons rfl (op_box (k := 102) rfl rfl) ?_
  refine OpsL.cons rfl (op_assign rfl) ?_
  refine OpsL.nilK [2, 3] [101, 102] (s' := ⟨[(2, .b (.ptr 101 0)), (3, .b (.ptr 102 0))], [(101, .box 25 (eBig a0)), (102, .box 25 (eBig b0))]⟩) rfl ?_
  refine Tri.seq ?_
  refine Tri.keep [2, 3] [101, 102] (s' := ⟨[(2, .b (.ptr 101 0)), (3, .b (.ptr 102 0))], [(101, .box 25 (eBig a0)), (102, .box 25 (eBig b0))]⟩) rfl ?_
  obtain ⟨x_1, e1, h⟩ := bnd h
  obtain ⟨x_2, e2, h⟩ := bnd h
  refine Tri.regionY mixed 8 [.b (.agg (eBig a0)), .b (.one (.sl 18 ([a0].map eBig))), B x_1, .b (.agg (eBig b0)), .b (.one (.sl 18 ([b0].map eBig))), B x_2, B x_1, B x_2] [2, 3, 5, 6] [101, 102] (s' := ⟨[(2, .b (.ptr 101 0)), (3, .b (.ptr 102 0)), (5, B x_1), (6, B x_2)], [(101, .box 25 (eBig a0)), (102, .box 25 (eBig b0))]⟩) rfl ⟨fun _ => .plain rfl (op_load_p tyAgg25 rfl rfl rfl rfl), fun _ => .plain rfl (op_buildSliceP (es := [a0].map eBig) tySl85 rfl rfl (uni_map fun _ => rfl) rfl (by decide) (by decide)), fun _ => .plain rfl (op_call0 (whole_good_spec e1) goes43 rfl rfl), fun _ => .plain rfl (op_load_p tyAgg25 rfl rfl rfl rfl), fun _ => .plain rfl (op_buildSliceP (es := [b0].map eBig) tySl85 rfl rfl (uni_map fun _ => rfl) rfl (by decide) (by decide)), fun _ => .plain rfl (op_call0 (whole_good_spec e2) goes43 rfl rfl), fun _ => .plain rfl (op_assign rfl), fun _ => .plain rfl (op_assign rfl), trivial⟩ rfl rfl ?_
  refine Tri.seq ?_
  refine Tri.block ?_
  refine Tri.seq ?_
  refine Tri.regionL ?_
  refine OpsL.cons rfl (op_move rfl) ?_
  refine OpsL.cons rfl (op_not rfl) ?_
  refine OpsL.cons rfl (op_move rfl) ?_
  refine OpsL.consG (!x_1) 99 [] (.plain rfl) (eq_t _) rfl rfl (fun g3 => trivial) (fun g3 => op_move rfl) ?_
  refine OpsL.consG (!x_1) 99 [17] (.plain rfl) (eq_t _) rfl rfl (fun g4 => ⟨g4, trivial⟩) (fun g4 => op_not rfl) ?_
  refine OpsL.cons rfl (op_pick_and (fun e => e) rfl rfl rfl rfl) ?_
  refine OpsL.cons rfl (op_assign rfl) ?_
  refine OpsL.nilK [2, 3, 5, 6, 13] [101, 102] (s' := ⟨[(2, .b (.ptr 101 0)), (3, .b (.ptr 102 0)), (5, B x_1), (6, B x_2), (13, B ((!x_1) && (!x_2)))], [(101, .box 25 (eBig a0)), (102, .box 25 (eBig b0))]⟩) rfl ?_
  refine Tri.ite h rfl (fun _ h => ?_) (fun _ h => ?_)
  · refine Tri.seq ?_
    refine Tri.regionL ?_
    refine OpsL.cons rfl (op_assign rfl) ?_
    refine OpsL.nilK [4] [] (s' := ⟨[(4, I 0)], []⟩) rfl ?_
    refine Tri.ret ?_
    refine Fin.block_ret ?_
    refine Fin.then_ret ?_
    obtain rfl := Option.some.inj h
    refine Fin.keep [4] [] (s' := ⟨[(4, I 0)], []⟩) rfl ?_
    refine Fin.result' [.one (.i 0)] (.inl rfl) rfl (.cons (.tmp rfl) .nil) ⟨rfl, rfl⟩
  · refine Tri.seq ?_
    refine Tri.regionL ?_
    refine OpsL.cons rfl (op_move rfl) ?_
    refine OpsL.cons rfl (op_not rfl) ?_
    refine OpsL.cons rfl (op_assign rfl) ?_
    refine OpsL.nilK [2, 3, 6, 20] [101, 102] (s' := ⟨[(2, .b (.ptr 101 0)), (3, .b (.ptr 102 0)), (6, B x_2), (20, B (!x_1))], [(101, .box 25 (eBig a0)), (102, .box 25 (eBig b0))]⟩) rfl ?_
    refine Tri.ite h rfl (fun _ h => ?_) (fun _ h => ?_)
    · refine Tri.seq ?_
      refine Tri.regionL ?_
      refine OpsL.cons rfl (op_assign rfl) ?_
      refine OpsL.nilK [4] [] (s' := ⟨[(4, I (-1))], []⟩) rfl ?_
      refine Tri.ret ?_
      refine Fin.block_ret ?_
      refine Fin.then_ret ?_
      obtain rfl := Option.some.inj h
      refine Fin.keep [4] [] (s' := ⟨[(4, I (-1))], []⟩) rfl ?_
      refine Fin.result' [.one (.i (-1))] (.inl rfl) rfl (.cons (.tmp rfl) .nil) ⟨rfl, rfl⟩
    · refine Tri.seq ?_
      refine Tri.regionL ?_
      refine OpsL.cons rfl (op_move rfl) ?_
      refine OpsL.cons rfl (op_not rfl) ?_
      refine OpsL.cons rfl (op_assign rfl) ?_
      refine OpsL.nilK [2, 3, 23] [101, 102] (s' := ⟨[(2, .b (.ptr 101 0)), (3, .b (.ptr 102 0)), (23, B (!x_2))], [(101, .box 25 (eBig a0)), (102, .box 25 (eBig b0))]⟩) rfl ?_
      refine Tri.ite h rfl (fun _ h => ?_) (fun _ h => ?_)
      · refine Tri.seq ?_
        refine Tri.regionL ?_
        refine OpsL.cons rfl (op_assign rfl) ?_
        refine OpsL.nilK [4] [] (s' := ⟨[(4, I 1)], []⟩) rfl ?_
        refine Tri.ret ?_
        refine Fin.block_ret ?_
        refine Fin.then_ret ?_
        obtain rfl := Option.some.inj h
        refine Fin.keep [4] [] (s' := ⟨[(4, I 1)], []⟩) rfl ?_
        refine Fin.result' [.one (.i 1)] (.inl rfl) rfl (.cons (.tmp rfl) .nil) ⟨rfl, rfl⟩
      · refine Tri.seq ?_
        refine Tri.regionL ?_
        refine OpsL.cons rfl (op_field_p tyFld25_1 rfl rfl) ?_
        refine OpsL.cons rfl (op_load_p1 tyOne4 rfl rfl rfl) ?_
        refine OpsL.cons rfl (op_field_p tyFld25_1 rfl rfl) ?_
        refine OpsL.cons rfl (op_load_p1 tyOne4 rfl rfl rfl) ?_
        refine OpsL.cons rfl (op_neq_bool und4 rfl rfl) ?_
        refine OpsL.cons rfl (op_assign rfl) ?_
        refine OpsL.nilK [2, 3, 26] [101, 102] (s' := ⟨[(2, .b (.ptr 101 0)), (3, .b (.ptr 102 0)), (26, B (a0.Neg != b0.Neg))], [(101, .box 25 (eBig a0)), (102, .box 25 (eBig b0))]⟩) rfl ?_
        refine Tri.ite h rfl (fun _ h => ?_) (fun _ h => ?_)
        · refine Tri.seq ?_
          refine Tri.seq ?_
          refine Tri.regionL ?_
          refine OpsL.cons rfl (op_field_p tyFld25_1 rfl rfl) ?_
          refine OpsL.cons rfl (op_load_p1 tyOne4 rfl rfl rfl) ?_
          refine OpsL.nilK [33] [] (s' := ⟨[(33, B a0.Neg)], []⟩) rfl ?_
          refine Tri.ite h rfl (fun _ h => ?_) (fun _ h => ?_)
          · refine Tri.seq ?_
            refine Tri.regionL ?_
            refine OpsL.cons rfl (op_assign rfl) ?_
            refine OpsL.nilK [4] [] (s' := ⟨[(4, I (-1))], []⟩) rfl ?_
            refine Tri.ret ?_
            refine Fin.then_ret ?_
            refine Fin.block_ret ?_
            refine Fin.then_ret ?_
            obtain rfl := Option.some.inj h
            refine Fin.keep [4] [] (s' := ⟨[(4, I (-1))], []⟩) rfl ?_
            refine Fin.result' [.one (.i (-1))] (.inl rfl) rfl (.cons (.tmp rfl) .nil) ⟨rfl, rfl⟩
          · refine Tri.skip ?_
            refine Fin.keep [] [] (s' := ⟨[], []⟩) rfl ?_
            refine Fin.then ?_
            refine Tri.seq ?_
            refine Tri.regionL ?_
            refine OpsL.cons rfl (op_assign rfl) ?_
            refine OpsL.nilK [4] [] (s' := ⟨[(4, I 1)], []⟩) rfl ?_
            refine Tri.ret ?_
            refine Fin.block_ret ?_
            refine Fin.then_ret ?_
            obtain rfl := Option.some.inj h
            refine Fin.keep [4] [] (s' := ⟨[(4, I 1)], []⟩) rfl ?_
            refine Fin.result' [.one (.i 1)] (.inl rfl) rfl (.cons (.tmp rfl) .nil) ⟨rfl, rfl⟩
        · refine Tri.seq ?_
          refine Tri.regionL ?_
          refine OpsL.cons rfl (op_field_p tyFld25_1 rfl rfl) ?_
          refine OpsL.cons rfl (op_load_p1 tyOne4 rfl rfl rfl) ?_
          refine OpsL.cons rfl (op_assign rfl) ?_
          refine OpsL.nilK [2, 3, 34] [101, 102] (s' := ⟨[(2, .b (.ptr 101 0)), (3, .b (.ptr 102 0)), (34, B a0.Neg)], [(101, .box 25 (eBig a0)), (102, .box 25 (eBig b0))]⟩) rfl ?_
          refine Tri.ite h rfl (fun _ h => ?_) (fun _ h => ?_)
          · refine Tri.seq ?_
            refine Tri.regionL ?_
            refine OpsL.cons rfl (op_field_p tyFld25_2 rfl rfl) ?_
            refine OpsL.cons rfl (op_load_p tyAgg23 rfl rfl rfl rfl) ?_
            refine OpsL.cons rfl (op_field_p tyFld25_2 rfl rfl) ?_
            refine OpsL.cons rfl (op_load_p tyAgg23 rfl rfl rfl rfl) ?_
            obtain ⟨x_3, e5, h⟩ := bnd h
            refine OpsL.cons rfl (op_call0 (whole_order_spec e5) goes47 rfl rfl) ?_
            refine OpsL.cons rfl (op_assign rfl) ?_
            refine OpsL.nilK [4] [] (s' := ⟨[(4, I x_3)], []⟩) rfl ?_
            refine Tri.ret ?_
            refine Fin.block_ret ?_
            refine Fin.then_ret ?_
            obtain rfl := Option.some.inj h
            refine Fin.keep [4] [] (s' := ⟨[(4, I x_3)], []⟩) rfl ?_
            refine Fin.result' [.one (.i x_3)] (.inl rfl) rfl (.cons (.tmp rfl) .nil) ⟨rfl, rfl⟩
          · refine Tri.skip ?_
            refine Fin.block_normal ?_
            refine Fin.keep [2, 3] [101, 102] (s' := ⟨[(2, .b (.ptr 101 0)), (3, .b (.ptr 102 0))], [(101, .box 25 (eBig a0)), (102, .box 25 (eBig b0))]⟩) rfl ?_
            refine Fin.then ?_
            refine Tri.seq ?_
            refine Tri.regionL ?_
            refine OpsL.cons rfl (op_field_p tyFld25_2 rfl rfl) ?_
            refine OpsL.cons rfl (op_load_p tyAgg23 rfl rfl rfl rfl) ?_
            refine OpsL.cons rfl (op_field_p tyFld25_2 rfl rfl) ?_
            refine OpsL.cons rfl (op_load_p tyAgg23 rfl rfl rfl rfl) ?_
            obtain ⟨x_4, e6, h⟩ := bnd h
            refine OpsL.cons rfl (op_call0 (whole_order_spec e6) goes47 rfl rfl) ?_
            refine OpsL.cons rfl (op_assign rfl) ?_
            refine OpsL.nilK [4] [] (s' := ⟨[(4, I x_4)], []⟩) rfl ?_
            refine Tri.ret ?_
            obtain rfl := Option.some.inj h
            refine Fin.keep [4] [] (s' := ⟨[(4, I x_4)], []⟩) rfl ?_
            refine Fin.result' [.one (.i x_4)] (.inl rfl) rfl (.cons (.tmp rfl) .nil) ⟨rfl, rfl⟩

def whole_Sqrt_S (F : Nat) (x0 : Big) : Option Big :=
 Option.bind (whole_good_S F [x0]) (fun x_1 => if ((!x_1) || x0.Neg) = true then (Option.bind (whole_Bad_S F) (fun x_2 => some x_2)) else (Option.bind (whole_Sign_S F x0) (fun x_3 => if (decide (x_3 = 0)) = true then (some x0) else (Option.bind (whole_Of_S F 1) (fun x_4 => Option.bind (whole_Bits_S F x0) (fun x_5 => Option.bind (quo? .i64 (IntKind.i64.wrap (x_5 + 1)) 2) (fun x_6 => Option.bind (whole_Shift_S F x_4 x_6) (fun x_7 => Option.bind (iter F (fun root_8 => Option.bind (whole_Quo_S F x0 root_8) (fun x_9 => Option.bind (whole_Add_S F root_8 x_9) (fun x_10 => Option.bind (whole_Shift_S F x_10 (-1)) (fun x_11 => Option.bind (whole_Cmp_S F x_11 root_8) (fun x_12 => if (decide (0 ≤ x_12)) = true then (some (.inr root_8)) else (some (.inl x_11))))))) x_7) (fun y => some y)))))))))
theorem whole_Sqrt_spec {F : Nat} {x0 : Big} {r : Big} (h : whole_Sqrt_S F x0 = some r) : Meets Tryd.prog tabs 41 [] [.agg (eBig x0)] (Is [] (.b (.agg (eBig r)))) := by
  unfold whole_Sqrt_S at h
  refine Meets.intro 36 Tryd.func41 Tryd.ntmps41 rfl (by simp) fun E => ?_
  show Tri _ E ⟨36, [], []⟩ _ ⟨[(0, .b (.agg (eBig x0)))], []⟩ _
  refine Tri.seq ?_
  refine Tri.regionL ?_
  refine OpsL.cons rfl (op_box (k := 101) rfl rfl) ?_
  refine OpsL.cons rfl (op_alloc (k := 102) tyZero25 rfl) ?_
  refine OpsL.nilK [1, 2] [101, 102] (s' := ⟨[(1, .b (.ptr 101 0)), (2, .b (.ptr 102 0))], [(101, .box 25 (eBig x0)), (102, .box 25 (.bool false :: .bool false :: ((eA16 .u32) A16.zero)))]⟩) rfl ?_
  refine Tri.seq ?_
  refine Tri.seq ?_
  refine Tri.regionL ?_
  refine OpsL.cons rfl (op_load_p tyAgg25 rfl rfl rfl rfl) ?_
  refine OpsL.cons rfl (op_buildSlice (k := 103) (es := [x0].map eBig) tySl85 rfl rfl (uni_map fun _ => rfl) rfl (by decide) (by decide) rfl) ?_
  obtain ⟨x_1, e1, h⟩ := bnd h
  refine OpsL.cons rfl (op_callB (whole_good_spec e1) goes43 rfl CP.flat_bool) ?_
  refine OpsL.cons rfl (op_not rfl) ?_
  refine OpsL.keep [1, 2, 8] [101, 102] (s' := ⟨[(1, .b (.ptr 101 0)), (2, .b (.ptr 102 0)), (8, B (!x_1))], [(101, .box 25 (eBig x0)), (102, .box 25 (.bool false :: .bool false :: ((eA16 .u32) A16.zero)))]⟩) rfl ?_
  refine OpsL.cons rfl (op_move rfl) ?_
  refine OpsL.consG (!(!x_1)) 99 [] (.plain rfl) (eq_f _) rfl rfl (fun g2 => trivial) (fun g2 => op_field_p tyFld25_1 rfl rfl) ?_
  refine OpsL.consG (!(!x_1)) 99 [10] (.plain rfl) (eq_f _) rfl rfl (fun g3 => ⟨g3, trivial⟩) (fun g3 => op_load_p1 tyOne4 rfl rfl rfl) ?_
  refine OpsL.cons rfl (op_pick_or (fun e => by rw [e]; rfl) rfl rfl rfl rfl) ?_
  refine OpsL.nilK [1, 2, 12] [101, 102] (s' := ⟨[(1, .b (.ptr 101 0)), (2, .b (.ptr 102 0)), (12, B ((!x_1) || x0.Neg))], [(101, .box 25 (eBig x0)), (102, .box 25 (.bool false :: .bool false :: ((eA16 .u32) A16.zero)))]⟩) rfl ?_
  refine Tri.ite h rfl (fun _ h => ?_) (fun _ h => ?_)
  · refine Tri.seq ?_
    refine Tri.regionL ?_
    obtain ⟨x_2, e4, h⟩ := bnd h
    refine OpsL.cons rfl (op_call0 (whole_Bad_spec e4) goes44 rfl rfl) ?_
    refine OpsL.cons rfl (op_store_p tyAgg25 rfl rfl rfl rfl (Nat.le_of_ble_eq_true rfl) rfl) ?_
    refine OpsL.nilK [2] [102] (s' := ⟨[(2, .b (.ptr 102 0))], [(102, .box 25 (eBig x_2))]⟩) rfl ?_
    refine Tri.ret ?_
    refine Fin.then_ret ?_
    obtain rfl := Option.some.inj h
    refine Fin.keep [2] [102] (s' := ⟨[(2, .b (.ptr 102 0))], [(102, .box 25 (eBig x_2))]⟩) rfl ?_
    refine Fin.result' [.agg (eBig x_2)] (.inl rfl) rfl (.cons (.agg tyAgg25 rfl rfl rfl rfl) .nil) ⟨rfl, rfl⟩
  · refine Tri.skip ?_
    refine Fin.keep [1, 2] [101, 102] (s' := ⟨[(1, .b (.ptr 101 0)), (2, .b (.ptr 102 0))], [(101, .box 25 (eBig x0)), (102, .box 25 (.bool false :: .bool false :: ((eA16 .u32) A16.zero)))]⟩) rfl ?_
    refine Fin.then ?_
    refine Tri.seq ?_
    refine Tri.seq ?_
    refine Tri.regionL ?_
    refine OpsL.cons rfl (op_load_p tyAgg25 rfl rfl rfl rfl) ?_
    obtain ⟨x_3, e5, h⟩ := bnd h
    refine OpsL.cons rfl (op_call0 (whole_Sign_spec e5) goes18 rfl rfl) ?_
    refine OpsL.cons rfl (op_eql rfl rfl) ?_
    refine OpsL.nilK [1, 2, 16] [101, 102] (s' := ⟨[(1, .b (.ptr 101 0)), (2, .b (.ptr 102 0)), (16, B (decide (x_3 = 0)))], [(101, .box 25 (eBig x0)), (102, .box 25 (.bool false :: .bool false :: ((eA16 .u32) A16.zero)))]⟩) rfl ?_
    refine Tri.ite h rfl (fun _ h => ?_) (fun _ h => ?_)
    · refine Tri.seq ?_
      refine Tri.regionL ?_
      refine OpsL.cons rfl (op_load_p tyAgg25 rfl rfl rfl rfl) ?_
      refine OpsL.cons rfl (op_store_p tyAgg25 rfl rfl rfl rfl (Nat.le_of_ble_eq_true rfl) rfl) ?_
      refine OpsL.nilK [2] [102] (s' := ⟨[(2, .b (.ptr 102 0))], [(102, .box 25 (eBig x0))]⟩) rfl ?_
      refine Tri.ret ?_
      refine Fin.then_ret ?_
      obtain rfl := Option.some.inj h
      refine Fin.keep [2] [102] (s' := ⟨[(2, .b (.ptr 102 0))], [(102, .box 25 (eBig x0))]⟩) rfl ?_
      refine Fin.result' [.agg (eBig x0)] (.inl rfl) rfl (.cons (.agg tyAgg25 rfl rfl rfl rfl) .nil) ⟨rfl, rfl⟩
    · refine Tri.skip ?_
      refine Fin.keep [1, 2] [101, 102] (s' := ⟨[(1, .b (.ptr 101 0)), (2, .b (.ptr 102 0))], [(101, .box 25 (eBig x0)), (102, .box 25 (.bool false :: .bool false :: ((eA16 .u32) A16.zero)))]⟩) rfl ?_
      refine Fin.then ?_
      refine Tri.seq ?_
      refine Tri.keep [1, 2] [101, 102] (s' := ⟨[(1, .b (.ptr 101 0)), (2, .b (.ptr 102 0))], [(101, .box 25 (eBig x0)), (102, .box 25 (.bool false :: .bool false :: ((eA16 .u32) A16.zero)))]⟩) rfl ?_
      obtain ⟨x_4, e6, h⟩ := bnd h
      obtain ⟨x_5, e7, h⟩ := bnd h
      obtain ⟨x_6, e8, h⟩ := bnd h
      obtain ⟨x_7, e9, h⟩ := bnd h
      refine Tri.regionW mixed [false, false, false, false, false, false, true, true] [.b (.agg (eBig x_4)), .b (.agg (eBig x0)), I x_5, I (IntKind.i64.wrap (x_5 + 1)), I x_6, .b (.agg (eBig x_7)), .b (.ptr 104 0), B true] [⟨[false, false, false, false, false, false, false, false], [(1, .b (.ptr 101 0)), (2, .b (.ptr 102 0))], [(101, .box 25 (eBig x0)), (102, .box 25 (.bool false :: .bool false :: ((eA16 .u32) A16.zero)))], [true, true, true, true, true, true, true, true], []⟩, ⟨[false, false, false, false, false, false, true, false], [(1, .b (.ptr 101 0)), (2, .b (.ptr 102 0))], [(101, .box 25 (eBig x0)), (102, .box 25 (.bool false :: .bool false :: ((eA16 .u32) A16.zero))), (104, .box 25 (.bool false :: .bool false :: ((eA16 .u32) A16.zero)))], [true, true, true, true, true, true, true, true], [6]⟩, ⟨[false, false, false, false, false, false, true, true], [(1, .b (.ptr 101 0)), (2, .b (.ptr 102 0))], [(101, .box 25 (eBig x0)), (102, .box 25 (.bool false :: .bool false :: ((eA16 .u32) A16.zero))), (104, .box 25 (eBig x_7))], [true, true, true, true, true, true, true, true], [0, 1, 2, 3, 4, 5, 6, 7]⟩] rfl (⟨by kernel_rfl, ⟨⟨.b (.agg (eBig x_4)), fun _ => rfl, fun _ => .plain rfl (by exact op_call0 (whole_Of_spec e6) goes38 rfl rfl)⟩, ⟨.b (.agg (eBig x0)), fun _ => rfl, fun _ => .plain rfl (by exact op_load_p tyAgg25 rfl rfl rfl rfl)⟩, ⟨I x_5, fun _ => rfl, fun _ => .plain rfl (by exact op_call0 (whole_Bits_spec e7) goes20 rfl rfl)⟩, ⟨I (IntKind.i64.wrap (x_5 + 1)), fun _ => rfl, fun _ => .plain rfl (by exact op_add rfl rfl)⟩, ⟨I x_6, fun _ => rfl, fun _ => .plain rfl (by exact op_quo2 e8 rfl rfl)⟩, ⟨.b (.agg (eBig x_7)), fun _ => rfl, fun _ => .plain rfl (by exact op_call0 (whole_Shift_spec e9) goes42 rfl rfl)⟩, ⟨_, some 104, .b (.ptr 104 0), rfl, fun _ => rfl, rfl, rfl, fun _ => .toO [101, 102, 104] (by exact .plain rfl (by exact op_alloc (k := 104) tyZero25 rfl)) (by exact rfl)⟩, trivial, trivial⟩, ⟨by kernel_rfl, ⟨⟨.b (.agg (eBig x_4)), fun _ => rfl, fun _ => .plain rfl (by exact op_call0 (whole_Of_spec e6) goes38 rfl rfl)⟩, ⟨.b (.agg (eBig x0)), fun _ => rfl, fun _ => .plain rfl (by exact op_load_p tyAgg25 rfl rfl rfl rfl)⟩, ⟨I x_5, fun _ => rfl, fun _ => .plain rfl (by exact op_call0 (whole_Bits_spec e7) goes20 rfl rfl)⟩, ⟨I (IntKind.i64.wrap (x_5 + 1)), fun _ => rfl, fun _ => .plain rfl (by exact op_add rfl rfl)⟩, ⟨I x_6, fun _ => rfl, fun _ => .plain rfl (by exact op_quo2 e8 rfl rfl)⟩, ⟨.b (.agg (eBig x_7)), fun _ => rfl, fun _ => .plain rfl (by exact op_call0 (whole_Shift_spec e9) goes42 rfl rfl)⟩, trivial, ⟨_, none, .b (.one .any), rfl, (fun e => by simp at e), rfl, rfl, fun _ => .toO [101, 102, 104] (by exact .plain rfl (by exact op_store_p tyAgg25 rfl rfl rfl rfl (Nat.le_of_ble_eq_true rfl) rfl)) (by exact rfl)⟩, trivial⟩, ⟨by kernel_rfl, ⟨trivial, trivial, trivial, trivial, trivial, trivial, trivial, trivial, trivial⟩, trivial⟩⟩⟩) rfl rfl rfl [1, 2, 3] [101, 102, 104] (s' := ⟨[(1, .b (.ptr 101 0)), (2, .b (.ptr 102 0)), (3, .b (.ptr 104 0))], [(101, .box 25 (eBig x0)), (102, .box 25 (.bool false :: .bool false :: ((eA16 .u32) A16.zero))), (104, .box 25 (eBig x_7))]⟩) rfl ?_
      refine Tri.block ?_
      obtain ⟨v10, h11, h⟩ := bnd h
      refine Tri.loopJ h11 (fun (root_8 : Big) => ⟨[(1, .b (.ptr 101 0)), (2, .b (.ptr 102 0)), (3, .b (.ptr 104 0))], [(101, .box 25 (eBig x0)), (102, .box 25 (.bool false :: .bool false :: ((eA16 .u32) A16.zero))), (104, .box 25 (eBig root_8))]⟩) [1, 2, 3] [101, 102, 104] rfl ?_
      rintro root_8 o12 h13 hy14
      refine Tri.block ?_
      refine Tri.seq ?_
      refine Tri.keep [1, 2, 3] [101, 102, 104] (s' := ⟨[(1, .b (.ptr 101 0)), (2, .b (.ptr 102 0)), (3, .b (.ptr 104 0))], [(101, .box 25 (eBig x0)), (102, .box 25 (.bool false :: .bool false :: ((eA16 .u32) A16.zero))), (104, .box 25 (eBig root_8))]⟩) rfl ?_
      obtain ⟨x_9, e15, h13⟩ := bnd h13
      obtain ⟨x_10, e16, h13⟩ := bnd h13
      obtain ⟨x_11, e17, h13⟩ := bnd h13
      refine Tri.regionW mixed [false, false, false, false, false, false, true, true] [.b (.agg (eBig root_8)), .b (.agg (eBig x0)), .b (.agg (eBig root_8)), .b (.agg (eBig x_9)), .b (.agg (eBig x_10)), .b (.agg (eBig x_11)), .b (.ptr 105 0), B true] [⟨[false, false, false, false, false, false, false, false], [(1, .b (.ptr 101 0)), (2, .b (.ptr 102 0)), (3, .b (.ptr 104 0))], [(101, .box 25 (eBig x0)), (102, .box 25 (.bool false :: .bool false :: ((eA16 .u32) A16.zero))), (104, .box 25 (eBig root_8))], [true, true, true, true, true, true, true, true], []⟩, ⟨[false, false, false, false, false, false, true, false], [(1, .b (.ptr 101 0)), (2, .b (.ptr 102 0)), (3, .b (.ptr 104 0))], [(101, .box 25 (eBig x0)), (102, .box 25 (.bool false :: .bool false :: ((eA16 .u32) A16.zero))), (104, .box 25 (eBig root_8)), (105, .box 25 (.bool false :: .bool false :: ((eA16 .u32) A16.zero)))], [true, true, true, true, true, true, true, true], [6]⟩, ⟨[false, false, false, false, false, false, true, true], [(1, .b (.ptr 101 0)), (2, .b (.ptr 102 0)), (3, .b (.ptr 104 0))], [(101, .box 25 (eBig x0)), (102, .box 25 (.bool false :: .bool false :: ((eA16 .u32) A16.zero))), (104, .box 25 (eBig root_8)), (105, .box 25 (eBig x_11))], [true, true, true, true, true, true, true, true], [0, 1, 2, 3, 4, 5, 6, 7]⟩] rfl (⟨by kernel_rfl, ⟨⟨.b (.agg (eBig root_8)), fun _ => rfl, fun _ => .plain rfl (by exact op_load_p tyAgg25 rfl rfl rfl rfl)⟩, ⟨.b (.agg (eBig x0)), fun _ => rfl, fun _ => .plain rfl (by exact op_load_p tyAgg25 rfl rfl rfl rfl)⟩, ⟨.b (.agg (eBig root_8)), fun _ => rfl, fun _ => .plain rfl (by exact op_load_p tyAgg25 rfl rfl rfl rfl)⟩, ⟨.b (.agg (eBig x_9)), fun _ => rfl, fun _ => .plain rfl (by exact op_call0 (whole_Quo_spec e15) goes29 rfl rfl)⟩, ⟨.b (.agg (eBig x_10)), fun _ => rfl, fun _ => .plain rfl (by exact op_call0 (whole_Add_spec e16) goes10 rfl rfl)⟩, ⟨.b (.agg (eBig x_11)), fun _ => rfl, fun _ => .plain rfl (by exact op_call0 (whole_Shift_spec e17) goes42 rfl rfl)⟩, ⟨_, some 105, .b (.ptr 105 0), rfl, fun _ => rfl, rfl, rfl, fun _ => .toO [101, 102, 104, 105] (by exact .plain rfl (by exact op_alloc (k := 105) tyZero25 rfl)) (by exact rfl)⟩, trivial, trivial⟩, ⟨by kernel_rfl, ⟨⟨.b (.agg (eBig root_8)), fun _ => rfl, fun _ => .plain rfl (by exact op_load_p tyAgg25 rfl rfl rfl rfl)⟩, ⟨.b (.agg (eBig x0)), fun _ => rfl, fun _ => .plain rfl (by exact op_load_p tyAgg25 rfl rfl rfl rfl)⟩, ⟨.b (.agg (eBig root_8)), fun _ => rfl, fun _ => .plain rfl (by exact op_load_p tyAgg25 rfl rfl rfl rfl)⟩, ⟨.b (.agg (eBig x_9)), fun _ => rfl, fun _ => .plain rfl (by exact op_call0 (whole_Quo_spec e15) goes29 rfl rfl)⟩, ⟨.b (.agg (eBig x_10)), fun _ => rfl, fun _ => .plain rfl (by exact op_call0 (whole_Add_spec e16) goes10 rfl rfl)⟩, ⟨.b (.agg (eBig x_11)), fun _ => rfl, fun _ => .plain rfl (by exact op_call0 (whole_Shift_spec e17) goes42 rfl rfl)⟩, trivial, ⟨_, none, .b (.one .any), rfl, (fun e => by simp at e), rfl, rfl, fun _ => .toO [101, 102, 104, 105] (by exact .plain rfl (by exact op_store_p tyAgg25 rfl rfl rfl rfl (Nat.le_of_ble_eq_true rfl) rfl)) (by exact rfl)⟩, trivial⟩, ⟨by kernel_rfl, ⟨trivial, trivial, trivial, trivial, trivial, trivial, trivial, trivial, trivial⟩, trivial⟩⟩⟩) rfl rfl rfl [1, 2, 3, 4] [101, 102, 104, 105] (s' := ⟨[(1, .b (.ptr 101 0)), (2, .b (.ptr 102 0)), (3, .b (.ptr 104 0)), (4, .b (.ptr 105 0))], [(101, .box 25 (eBig x0)), (102, .box 25 (.bool false :: .bool false :: ((eA16 .u32) A16.zero))), (104, .box 25 (eBig root_8)), (105, .box 25 (eBig x_11))]⟩) rfl ?_
      refine Tri.seq ?_
      refine Tri.seq ?_
      refine Tri.regionL ?_
      refine OpsL.cons rfl (op_load_p tyAgg25 rfl rfl rfl rfl) ?_
      refine OpsL.cons rfl (op_load_p tyAgg25 rfl rfl rfl rfl) ?_
      obtain ⟨x_12, e18, h13⟩ := bnd h13
      refine OpsL.cons rfl (op_call0 (whole_Cmp_spec e18) goes25 rfl rfl) ?_
      refine OpsL.cons rfl (op_geq rfl rfl) ?_
      refine OpsL.nilK [1, 2, 3, 4, 33] [101, 102, 104, 105] (s' := ⟨[(1, .b (.ptr 101 0)), (2, .b (.ptr 102 0)), (3, .b (.ptr 104 0)), (4, .b (.ptr 105 0)), (33, B (decide (0 ≤ x_12)))], [(101, .box 25 (eBig x0)), (102, .box 25 (.bool false :: .bool false :: ((eA16 .u32) A16.zero))), (104, .box 25 (eBig root_8)), (105, .box 25 (eBig x_11))]⟩) rfl ?_
      refine Tri.ite h13 rfl (fun _ h13 => ?_) (fun _ h13 => ?_)
      · refine Tri.seq ?_
        refine Tri.regionL ?_
        refine OpsL.cons rfl (op_load_p tyAgg25 rfl rfl rfl rfl) ?_
        refine OpsL.cons rfl (op_store_p tyAgg25 rfl rfl rfl rfl (Nat.le_of_ble_eq_true rfl) rfl) ?_
        refine OpsL.nilK [2] [102] (s' := ⟨[(2, .b (.ptr 102 0))], [(102, .box 25 (eBig root_8))]⟩) rfl ?_
        refine Tri.ret ?_
        refine Fin.then_ret ?_
        refine Fin.block_ret ?_
        obtain rfl := hy14 _ (Option.some.inj h13).symm
        refine Fin.then_ret ?_
        refine Fin.block_ret ?_
        obtain rfl := Option.some.inj h
        refine Fin.keep [2] [102] (s' := ⟨[(2, .b (.ptr 102 0))], [(102, .box 25 (eBig root_8))]⟩) rfl ?_
        refine Fin.result' [.agg (eBig root_8)] (.inl rfl) rfl (.cons (.agg tyAgg25 rfl rfl rfl rfl) .nil) ⟨rfl, rfl⟩
      · refine Tri.skip ?_
        refine Fin.keep [1, 2, 3, 4] [101, 102, 104, 105] (s' := ⟨[(1, .b (.ptr 101 0)), (2, .b (.ptr 102 0)), (3, .b (.ptr 104 0)), (4, .b (.ptr 105 0))], [(101, .box 25 (eBig x0)), (102, .box 25 (.bool false :: .bool false :: ((eA16 .u32) A16.zero))), (104, .box 25 (eBig root_8)), (105, .box 25 (eBig x_11))]⟩) rfl ?_
        refine Fin.then ?_
        refine Tri.regionL ?_
        refine OpsL.cons rfl (op_load_p tyAgg25 rfl rfl rfl rfl) ?_
        refine OpsL.cons rfl (op_store_p tyAgg25 rfl rfl rfl rfl (Nat.le_of_ble_eq_true rfl) rfl) ?_
        refine OpsL.nil ?_
        refine Fin.block_normal ?_
        exact Fin.againJ [1, 2, 3] [101, 102, 104] x_11 (Option.some.inj h13) rfl

def whole_Parse_S (F : Nat) (s0 : Str) : Option (Big × Int) :=
 Option.bind (Option.bind (gcall (decide (0 < (s0.length : Int))) (idx? s0 0)) (fun x_2 => letN ((decide (0 < (s0.length : Int))) && (decide ((x_2.toNat : Int) = 45))) fun x_3 => if x_3 = true then (Option.bind (drop? s0 1) (fun x_4 => some x_4)) else (some s0))) (fun digits_1 => Option.bind (gcall (!(decide (digits_1 = []))) (idx? digits_1 0)) (fun x_5 => letN ((decide (digits_1 = [])) || ((decide ((x_5.toNat : Int) = 48)) && (decide (s0 ≠ [48])))) fun x_6 => if x_6 = true then (Option.bind (whole_Bad_S F) (fun x_7 => some (x_7, 281))) else (Option.bind (iter F (fun x_8 => if (decide (x_8 < ((ofStr digits_1).length : Int))) = true then (Option.bind (idx? (ofStr digits_1) x_8) (fun x_9 => if ((decide (x_9 < 48)) || (decide (57 < x_9))) = true then (Option.bind (whole_Bad_S F) (fun x_10 => some (.inr (.inr (x_10, 281))))) else (some (.inl (IntKind.i64.wrap (x_8 + 1)))))) else (some (.inr (.inl ())))) 0) (alt2 (fun _ => if (decide (512 < (digits_1.length : Int))) = true then (Option.bind (whole_Bad_S F) (fun x_11 => some (x_11, 30))) else (Option.bind (whole_Of_S F 0) (fun x_12 => Option.bind (whole_Of_S F 10) (fun x_13 => Option.bind (iter F (un2 fun x_15 x_16 => if (decide (x_16 < ((ofStr digits_1).length : Int))) = true then (Option.bind (idx? (ofStr digits_1) x_16) (fun x_18 => Option.bind (whole_Mul_S F x_15 x_13) (fun x_19 => letN (IntKind.i64.wrap (IntKind.u8.wrap (x_18 - 48))) fun x_20 => Option.bind (whole_Of_S F x_20) (fun x_21 => Option.bind (whole_Add_S F x_19 x_21) (fun x_22 => some (.inl (x_22, IntKind.i64.wrap (x_16 + 1)))))))) else (some (.inr x_15))) (x_12, 0)) (fun x_14 => if x_14.Bad = true then (some (x_14, 30)) else (Option.bind (whole_signed_S F (decide (digits_1 ≠ s0)) x_14.W) (fun x_23 => some (x_23, 0)))))))) (fun y => some y)))))
theorem whole_Parse_spec {F : Nat} {s0 : Str} {r : Big × Int} (h : whole_Parse_S F s0 = some r) : Meets Tryd.prog tabs 36 [] [.one (.str s0)] (Is [] (.tup [.agg (eBig r.1), .one (.i r.2)])) := by
  unfold whole_Parse_S at h
  refine Meets.intro 80 Tryd.func36 Tryd.ntmps36 rfl (by simp) fun E => ?_
  show Tri _ E ⟨80, [], []⟩ _ ⟨[(0, .b (.one (.str s0)))], []⟩ _
  refine Tri.seq ?_
  refine Tri.regionL ?_
  refine OpsL.cons rfl (op_alloc (k := 101) tyZero25 rfl) ?_
  refine OpsL.cons rfl (op_assign rfl) ?_
  refine OpsL.nilK [0, 2] [101] (s' := ⟨[(0, .b (.one (.str s0))), (2, .b (.ptr 101 0))], [(101, .box 25 (.bool false :: .bool false :: ((eA16 .u32) A16.zero)))]⟩) rfl ?_
  refine Tri.seq ?_
  refine Tri.regionL ?_
  refine OpsL.cons rfl (op_move rfl) ?_
  refine OpsL.cons rfl (op_assign rfl) ?_
  refine OpsL.nilK [0, 2, 4] [101] (s' := ⟨[(0, .b (.one (.str s0))), (2, .b (.ptr 101 0)), (4, .b (.one (.str s0)))], [(101, .box 25 (.bool false :: .bool false :: ((eA16 .u32) A16.zero)))]⟩) rfl ?_
  obtain ⟨v1, h2, h⟩ := bnd h
  refine Tri.seqJ (v := v1) (fun (digits_1 : Str) => ⟨[(0, .b (.one (.str s0))), (2, .b (.ptr 101 0)), (4, .b (.one (.str digits_1)))], [(101, .box 25 (.bool false :: .bool false :: ((eA16 .u32) A16.zero)))]⟩) (fun z => z) ?_ ?_
  · refine Tri.seq ?_
    refine Tri.regionL ?_
    refine OpsL.cons rfl (op_move rfl) ?_
    refine OpsL.cons rfl (op_len_str und9 rfl) ?_
    refine OpsL.cons rfl (op_gtr rfl rfl) ?_
    refine OpsL.cons rfl (op_move rfl) ?_
    refine OpsL.consG (decide (0 < (s0.length : Int))) 99 [] (.plain rfl) (eq_t _) rfl rfl (fun g3 => trivial) (fun g3 => op_move rfl) ?_
    obtain ⟨x_2, e5, h2⟩ := bnd h2
    refine OpsL.consG (decide (0 < (s0.length : Int))) 99 [16] (.plain rfl) (eq_t _) rfl rfl (fun g4 => ⟨g4, trivial⟩) (fun g4 => op_index_str und9 rfl rfl (ix_lo (gc e5 g4)) (ix_get (gc e5 g4))) ?_
    refine OpsL.consG (decide (0 < (s0.length : Int))) 99 [17] (.plain rfl) (eq_t _) rfl rfl (fun g6 => ⟨g6, trivial⟩) (fun g6 => op_eql rfl rfl) ?_
    refine OpsL.consB h2 rfl (op_pick_and (fun e => e) rfl rfl rfl rfl) (fun x_3 h2 => ?_)
    refine OpsL.nilK [0, 2, 4, 19] [101] (s' := ⟨[(0, .b (.one (.str s0))), (2, .b (.ptr 101 0)), (4, .b (.one (.str s0))), (19, B x_3)], [(101, .box 25 (.bool false :: .bool false :: ((eA16 .u32) A16.zero)))]⟩) rfl ?_
    refine Tri.ite h2 rfl (fun _ h2 => ?_) (fun _ h2 => ?_)
    · refine Tri.regionL ?_
      refine OpsL.cons rfl (op_move rfl) ?_
      obtain ⟨x_4, e7, h2⟩ := bnd h2
      refine OpsL.cons rfl (op_slice_str_l und9 e7 rfl rfl) ?_
      refine OpsL.cons rfl (op_assign rfl) ?_
      refine OpsL.nil ?_
      exact Fin.join [0, 2, 4] [101] x_4 (Option.some.inj h2) rfl
    · refine Tri.skip ?_
      exact Fin.join [0, 2, 4] [101] s0 (Option.some.inj h2) rfl
  · rintro digits_1 hv
    subst v1
    refine Tri.seq ?_
    refine Tri.seq ?_
    refine Tri.regionL ?_
    refine OpsL.cons rfl (op_move rfl) ?_
    refine OpsL.cons rfl (op_eql_str rfl rfl) ?_
    refine OpsL.cons rfl (op_move rfl) ?_
    refine OpsL.consG (!(decide (digits_1 = []))) 99 [] (.plain rfl) (eq_f _) rfl rfl (fun g8 => trivial) (fun g8 => op_move rfl) ?_
    obtain ⟨x_5, e10, h⟩ := bnd h
    refine OpsL.consG (!(decide (digits_1 = []))) 99 [25] (.plain rfl) (eq_f _) rfl rfl (fun g9 => ⟨g9, trivial⟩) (fun g9 => op_index_str und9 rfl rfl (ix_lo (gc e10 g9)) (ix_get (gc e10 g9))) ?_
    refine OpsL.consG (!(decide (digits_1 = []))) 99 [26] (.plain rfl) (eq_f _) rfl rfl (fun g11 => ⟨g11, trivial⟩) (fun g11 => op_eql rfl rfl) ?_
    refine OpsL.consG (!(decide (digits_1 = []))) 99 [27] (.plain rfl) (eq_f _) rfl rfl (fun g12 => ⟨g12, trivial⟩) (fun g12 => op_move rfl) ?_
    refine OpsL.keep [0, 2, 4, 24, 28] [101] (s' := ⟨[(0, .b (.one (.str s0))), (2, .b (.ptr 101 0)), (4, .b (.one (.str digits_1))), (24, B (decide (digits_1 = []))), (28, .opt (!(decide (digits_1 = []))) (.one (.bool (decide ((x_5.toNat : Int) = 48)))))], [(101, .box 25 (.bool false :: .bool false :: ((eA16 .u32) A16.zero)))]⟩) rfl ?_
    refine OpsL.consG ((!(decide (digits_1 = []))) && (decide ((x_5.toNat : Int) = 48))) 99 [] (.under rfl) (and_t _ _) rfl rfl (fun g13 => trivial) (fun g13 => op_move rfl) ?_
    refine OpsL.consG ((!(decide (digits_1 = []))) && (decide ((x_5.toNat : Int) = 48))) 99 [29] (.under rfl) (and_t _ _) rfl rfl (fun g14 => ⟨g14, trivial⟩) (fun g14 => op_neq_str rfl rfl) ?_
    refine OpsL.consG (!(decide (digits_1 = []))) 99 [28] (.plain rfl) (eq_f _) rfl rfl (fun g15 => ⟨g15, trivial⟩) (fun g15 => op_pick_and (fun e => by rw [g15, e]; rfl) rfl rfl rfl rfl) ?_
    refine OpsL.consB h rfl (op_pick_or (fun e => by rw [e]; rfl) rfl rfl rfl rfl) (fun x_6 h => ?_)
    refine OpsL.nilK [0, 2, 4, 32] [101] (s' := ⟨[(0, .b (.one (.str s0))), (2, .b (.ptr 101 0)), (4, .b (.one (.str digits_1))), (32, B x_6)], [(101, .box 25 (.bool false :: .bool false :: ((eA16 .u32) A16.zero)))]⟩) rfl ?_
    refine Tri.ite h rfl (fun _ h => ?_) (fun _ h => ?_)
    · refine Tri.seq ?_
      refine Tri.regionL ?_
      obtain ⟨x_7, e16, h⟩ := bnd h
      refine OpsL.cons rfl (op_call0 (whole_Bad_spec e16) goes44 rfl rfl) ?_
      refine OpsL.cons rfl (op_store_p tyAgg25 rfl rfl rfl rfl (Nat.le_of_ble_eq_true rfl) rfl) ?_
      refine OpsL.cons rfl (op_assign rfl) ?_
      refine OpsL.nilK [2, 3] [101] (s' := ⟨[(2, .b (.ptr 101 0)), (3, I 281)], [(101, .box 25 (eBig x_7))]⟩) rfl ?_
      refine Tri.ret ?_
      refine Fin.then_ret ?_
      obtain rfl := Option.some.inj h
      refine Fin.keep [2, 3] [101] (s' := ⟨[(2, .b (.ptr 101 0)), (3, I 281)], [(101, .box 25 (eBig x_7))]⟩) rfl ?_
      refine Fin.result' [.agg (eBig x_7), .one (.i 281)] (.inl rfl) rfl (.cons (.agg tyAgg25 rfl rfl rfl rfl) (.cons (.tmp rfl) .nil)) ⟨rfl, rfl⟩
    · refine Tri.skip ?_
      refine Fin.keep [0, 2, 4] [101] (s' := ⟨[(0, .b (.one (.str s0))), (2, .b (.ptr 101 0)), (4, .b (.one (.str digits_1)))], [(101, .box 25 (.bool false :: .bool false :: ((eA16 .u32) A16.zero)))]⟩) rfl ?_
      refine Fin.then ?_
      obtain ⟨v17, h18, h⟩ := bnd h
      refine Tri.seqJ (v := v17) (fun (_ : Unit) => ⟨[(0, .b (.one (.str s0))), (2, .b (.ptr 101 0)), (4, .b (.one (.str digits_1)))], [(101, .box 25 (.bool false :: .bool false :: ((eA16 .u32) A16.zero)))]⟩) (fun z => .inl z) ?_ ?_
      · refine Tri.seq ?_
        refine Tri.regionL ?_
        refine OpsL.cons rfl (op_move rfl) ?_
        refine OpsL.cons rfl (op_conv_str und9 und79 undi5 rfl) ?_
        refine OpsL.cons rfl (op_len_e' und79 rfl (List.length_map _)) ?_
        refine OpsL.cons rfl (op_move rfl) ?_
        refine OpsL.nilK [0, 2, 4, 35, 36, 37] [101] (s' := ⟨[(0, .b (.one (.str s0))), (2, .b (.ptr 101 0)), (4, .b (.one (.str digits_1))), (35, .b (.one (.sl 1 ((ofStr digits_1).map (eK .u8))))), (36, I ((ofStr digits_1).length : Int)), (37, I 0)], [(101, .box 25 (.bool false :: .bool false :: ((eA16 .u32) A16.zero)))]⟩) rfl ?_
        refine Tri.block ?_
        refine Tri.loopJ h18 (fun (x_8 : Int) => ⟨[(0, .b (.one (.str s0))), (2, .b (.ptr 101 0)), (4, .b (.one (.str digits_1))), (35, .b (.one (.sl 1 ((ofStr digits_1).map (eK .u8))))), (36, I ((ofStr digits_1).length : Int)), (37, I x_8)], [(101, .box 25 (.bool false :: .bool false :: ((eA16 .u32) A16.zero)))]⟩) [0, 2, 4, 35, 36, 37] [101] rfl ?_
        rintro x_8 o19 h20 hy21
        refine Tri.seq ?_
        refine Tri.regionL ?_
        refine OpsL.cons rfl (op_lss rfl rfl) ?_
        refine OpsL.nilK [0, 2, 4, 35, 36, 37, 38] [101] (s' := ⟨[(0, .b (.one (.str s0))), (2, .b (.ptr 101 0)), (4, .b (.one (.str digits_1))), (35, .b (.one (.sl 1 ((ofStr digits_1).map (eK .u8))))), (36, I ((ofStr digits_1).length : Int)), (37, I x_8), (38, B (decide (x_8 < ((ofStr digits_1).length : Int))))], [(101, .box 25 (.bool false :: .bool false :: ((eA16 .u32) A16.zero)))]⟩) rfl ?_
        refine Tri.seq ?_
        refine Tri.ite h20 rfl (fun _ h20 => ?_) (fun _ h20 => ?_)
        · refine Tri.skip ?_
          refine Fin.keep [0, 2, 4, 35, 36, 37] [101] (s' := ⟨[(0, .b (.one (.str s0))), (2, .b (.ptr 101 0)), (4, .b (.one (.str digits_1))), (35, .b (.one (.sl 1 ((ofStr digits_1).map (eK .u8))))), (36, I ((ofStr digits_1).length : Int)), (37, I x_8)], [(101, .box 25 (.bool false :: .bool false :: ((eA16 .u32) A16.zero)))]⟩) rfl ?_
          refine Fin.then ?_
          refine Tri.seq ?_
          refine Tri.block ?_
          refine Tri.seq ?_
          refine Tri.regionL ?_
          obtain ⟨x_9, e22, h20⟩ := bnd h20
          refine OpsL.cons rfl (op_index_e tySl79 (ix_lo e22) (ix_map (e := (eK .u8)) e22) rfl rfl) ?_
          refine OpsL.cons rfl (op_load_e1 tyOne5 rfl rfl) ?_
          refine OpsL.cons rfl (op_assign rfl) ?_
          refine OpsL.nilK [0, 2, 4, 6, 35, 36, 37] [101] (s' := ⟨[(0, .b (.one (.str s0))), (2, .b (.ptr 101 0)), (4, .b (.one (.str digits_1))), (6, .b (.one (.int .u8 x_9))), (35, .b (.one (.sl 1 ((ofStr digits_1).map (eK .u8))))), (36, I ((ofStr digits_1).length : Int)), (37, I x_8)], [(101, .box 25 (.bool false :: .bool false :: ((eA16 .u32) A16.zero)))]⟩) rfl ?_
          refine Tri.seq ?_
          refine Tri.regionL ?_
          refine OpsL.cons rfl (op_move rfl) ?_
          refine OpsL.cons rfl (op_lss rfl rfl) ?_
          refine OpsL.cons rfl (op_move rfl) ?_
          refine OpsL.consG (!(decide (x_9 < 48))) 99 [] (.plain rfl) (eq_f _) rfl rfl (fun g23 => trivial) (fun g23 => op_move rfl) ?_
          refine OpsL.consG (!(decide (x_9 < 48))) 99 [44] (.plain rfl) (eq_f _) rfl rfl (fun g24 => ⟨g24, trivial⟩) (fun g24 => op_gtr rfl rfl) ?_
          refine OpsL.cons rfl (op_pick_or (fun e => by rw [e]; rfl) rfl rfl rfl rfl) ?_
          refine OpsL.nilK [0, 2, 4, 35, 36, 37, 46] [101] (s' := ⟨[(0, .b (.one (.str s0))), (2, .b (.ptr 101 0)), (4, .b (.one (.str digits_1))), (35, .b (.one (.sl 1 ((ofStr digits_1).map (eK .u8))))), (36, I ((ofStr digits_1).length : Int)), (37, I x_8), (46, B ((decide (x_9 < 48)) || (decide (57 < x_9))))], [(101, .box 25 (.bool false :: .bool false :: ((eA16 .u32) A16.zero)))]⟩) rfl ?_
          refine Tri.ite h20 rfl (fun _ h20 => ?_) (fun _ h20 => ?_)
          · refine Tri.seq ?_
            refine Tri.regionL ?_
            obtain ⟨x_10, e25, h20⟩ := bnd h20
            refine OpsL.cons rfl (op_call0 (whole_Bad_spec e25) goes44 rfl rfl) ?_
            refine OpsL.cons rfl (op_store_p tyAgg25 rfl rfl rfl rfl (Nat.le_of_ble_eq_true rfl) rfl) ?_
            refine OpsL.cons rfl (op_assign rfl) ?_
            refine OpsL.nilK [2, 3] [101] (s' := ⟨[(2, .b (.ptr 101 0)), (3, I 281)], [(101, .box 25 (eBig x_10))]⟩) rfl ?_
            refine Tri.ret ?_
            refine Fin.block_ret ?_
            refine Fin.then_ret ?_
            obtain rfl := hy21 _ (Option.some.inj h20).symm
            refine Fin.then_ret ?_
            refine Fin.block_ret ?_
            refine Fin.then_ret ?_
            obtain rfl := Option.some.inj h
            refine Fin.keep [2, 3] [101] (s' := ⟨[(2, .b (.ptr 101 0)), (3, I 281)], [(101, .box 25 (eBig x_10))]⟩) rfl ?_
            refine Fin.result' [.agg (eBig x_10), .one (.i 281)] (.inl rfl) rfl (.cons (.agg tyAgg25 rfl rfl rfl rfl) (.cons (.tmp rfl) .nil)) ⟨rfl, rfl⟩
          · refine Tri.skip ?_
            refine Fin.block_normal ?_
            refine Fin.keep [0, 2, 4, 35, 36, 37] [101] (s' := ⟨[(0, .b (.one (.str s0))), (2, .b (.ptr 101 0)), (4, .b (.one (.str digits_1))), (35, .b (.one (.sl 1 ((ofStr digits_1).map (eK .u8))))), (36, I ((ofStr digits_1).length : Int)), (37, I x_8)], [(101, .box 25 (.bool false :: .bool false :: ((eA16 .u32) A16.zero)))]⟩) rfl ?_
            refine Fin.then ?_
            refine Tri.regionL ?_
            refine OpsL.cons rfl (op_add rfl rfl) ?_
            refine OpsL.cons rfl (op_move rfl) ?_
            refine OpsL.nil ?_
            exact Fin.againJ [0, 2, 4, 35, 36, 37] [101] (IntKind.i64.wrap (x_8 + 1)) (Option.some.inj h20) rfl
        · refine Tri.exit ?_
          refine Fin.then_exit ?_
          obtain rfl := hy21 _ (Option.some.inj h20).symm
          refine Fin.then_exit ?_
          refine Fin.block_exit ?_
          exact Fin.join [0, 2, 4] [101] () rfl rfl
      · rintro _ hv
        subst v17
        refine Tri.seq ?_
        refine Tri.seq ?_
        refine Tri.regionL ?_
        refine OpsL.cons rfl (op_move rfl) ?_
        refine OpsL.cons rfl (op_len_str und9 rfl) ?_
        refine OpsL.cons rfl (op_gtr rfl rfl) ?_
        refine OpsL.nilK [0, 2, 4, 51] [101] (s' := ⟨[(0, .b (.one (.str s0))), (2, .b (.ptr 101 0)), (4, .b (.one (.str digits_1))), (51, B (decide (512 < (digits_1.length : Int))))], [(101, .box 25 (.bool false :: .bool false :: ((eA16 .u32) A16.zero)))]⟩) rfl ?_
        refine Tri.ite h rfl (fun _ h => ?_) (fun _ h => ?_)
        · refine Tri.seq ?_
          refine Tri.regionL ?_
          obtain ⟨x_11, e26, h⟩ := bnd h
          refine OpsL.cons rfl (op_call0 (whole_Bad_spec e26) goes44 rfl rfl) ?_
          refine OpsL.cons rfl (op_store_p tyAgg25 rfl rfl rfl rfl (Nat.le_of_ble_eq_true rfl) rfl) ?_
          refine OpsL.cons rfl (op_assign rfl) ?_
          refine OpsL.nilK [2, 3] [101] (s' := ⟨[(2, .b (.ptr 101 0)), (3, I 30)], [(101, .box 25 (eBig x_11))]⟩) rfl ?_
          refine Tri.ret ?_
          refine Fin.then_ret ?_
          obtain rfl := Option.some.inj h
          refine Fin.keep [2, 3] [101] (s' := ⟨[(2, .b (.ptr 101 0)), (3, I 30)], [(101, .box 25 (eBig x_11))]⟩) rfl ?_
          refine Fin.result' [.agg (eBig x_11), .one (.i 30)] (.inl rfl) rfl (.cons (.agg tyAgg25 rfl rfl rfl rfl) (.cons (.tmp rfl) .nil)) ⟨rfl, rfl⟩
        · refine Tri.skip ?_
          refine Fin.keep [0, 2, 4] [101] (s' := ⟨[(0, .b (.one (.str s0))), (2, .b (.ptr 101 0)), (4, .b (.one (.str digits_1)))], [(101, .box 25 (.bool false :: .bool false :: ((eA16 .u32) A16.zero)))]⟩) rfl ?_
          refine Fin.then ?_
          refine Tri.seq ?_
          refine Tri.regionL ?_
          obtain ⟨x_12, e27, h⟩ := bnd h
          refine OpsL.cons rfl (op_call0 (whole_Of_spec e27) goes38 rfl rfl) ?_
          obtain ⟨x_13, e28, h⟩ := bnd h
          refine OpsL.cons rfl (op_call0 (whole_Of_spec e28) goes38 rfl rfl) ?_
          refine OpsL.keep [0, 2, 4, 53, 54] [101] (s' := ⟨[(0, .b (.one (.str s0))), (2, .b (.ptr 101 0)), (4, .b (.one (.str digits_1))), (53, .b (.agg (eBig x_12))), (54, .b (.agg (eBig x_13)))], [(101, .box 25 (.bool false :: .bool false :: ((eA16 .u32) A16.zero)))]⟩) rfl ?_
          refine OpsL.cons rfl (op_alloc (k := 102) tyZero25 rfl) ?_
          refine OpsL.cons rfl (op_alloc (k := 103) tyZero25 rfl) ?_
          refine OpsL.cons rfl (op_store_p tyAgg25 rfl rfl rfl rfl (Nat.le_of_ble_eq_true rfl) rfl) ?_
          refine OpsL.cons rfl (op_store_p tyAgg25 rfl rfl rfl rfl (Nat.le_of_ble_eq_true rfl) rfl) ?_
          refine OpsL.nilK [0, 2, 4, 7, 8] [101, 102, 103] (s' := ⟨[(0, .b (.one (.str s0))), (2, .b (.ptr 101 0)), (4, .b (.one (.str digits_1))), (7, .b (.ptr 102 0)), (8, .b (.ptr 103 0))], [(101, .box 25 (.bool false :: .bool false :: ((eA16 .u32) A16.zero))), (102, .box 25 (eBig x_12)), (103, .box 25 (eBig x_13))]⟩) rfl ?_
          obtain ⟨v29, h30, h⟩ := bnd h
          refine Tri.seqJ (v := v29) (fun (x_14 : Big) => ⟨[(0, .b (.one (.str s0))), (2, .b (.ptr 101 0)), (4, .b (.one (.str digits_1))), (7, .b (.ptr 102 0))], [(101, .box 25 (.bool false :: .bool false :: ((eA16 .u32) A16.zero))), (102, .box 25 (eBig x_14))]⟩) (fun z => z) ?_ ?_
          · refine Tri.seq ?_
            refine Tri.regionL ?_
            refine OpsL.cons rfl (op_move rfl) ?_
            refine OpsL.cons rfl (op_conv_str und9 und79 undi5 rfl) ?_
            refine OpsL.cons rfl (op_len_e' und79 rfl (List.length_map _)) ?_
            refine OpsL.cons rfl (op_move rfl) ?_
            refine OpsL.nilK [0, 2, 4, 7, 8, 56, 57, 58] [101, 102, 103] (s' := ⟨[(0, .b (.one (.str s0))), (2, .b (.ptr 101 0)), (4, .b (.one (.str digits_1))), (7, .b (.ptr 102 0)), (8, .b (.ptr 103 0)), (56, .b (.one (.sl 1 ((ofStr digits_1).map (eK .u8))))), (57, I ((ofStr digits_1).length : Int)), (58, I 0)], [(101, .box 25 (.bool false :: .bool false :: ((eA16 .u32) A16.zero))), (102, .box 25 (eBig x_12)), (103, .box 25 (eBig x_13))]⟩) rfl ?_
            refine Tri.block ?_
            refine Tri.loopJ h30 (un2 fun (x_15 : Big) (x_16 : Int) => ⟨[(0, .b (.one (.str s0))), (2, .b (.ptr 101 0)), (4, .b (.one (.str digits_1))), (7, .b (.ptr 102 0)), (8, .b (.ptr 103 0)), (56, .b (.one (.sl 1 ((ofStr digits_1).map (eK .u8))))), (57, I ((ofStr digits_1).length : Int)), (58, I x_16)], [(101, .box 25 (.bool false :: .bool false :: ((eA16 .u32) A16.zero))), (102, .box 25 (eBig x_15)), (103, .box 25 (eBig x_13))]⟩) [0, 2, 4, 7, 8, 56, 57, 58] [101, 102, 103] rfl ?_
            rintro ⟨x_15, x_16⟩ o31 h32 hy33
            refine Tri.seq ?_
            refine Tri.regionL ?_
            refine OpsL.cons rfl (op_lss rfl rfl) ?_
            refine OpsL.nilK [0, 2, 4, 7, 8, 56, 57, 58, 59] [101, 102, 103] (s' := ⟨[(0, .b (.one (.str s0))), (2, .b (.ptr 101 0)), (4, .b (.one (.str digits_1))), (7, .b (.ptr 102 0)), (8, .b (.ptr 103 0)), (56, .b (.one (.sl 1 ((ofStr digits_1).map (eK .u8))))), (57, I ((ofStr digits_1).length : Int)), (58, I x_16), (59, B (decide (x_16 < ((ofStr digits_1).length : Int))))], [(101, .box 25 (.bool false :: .bool false :: ((eA16 .u32) A16.zero))), (102, .box 25 (eBig x_15)), (103, .box 25 (eBig x_13))]⟩) rfl ?_
            refine Tri.seq ?_
            refine Tri.ite h32 rfl (fun _ h32 => ?_) (fun _ h32 => ?_)
            · refine Tri.skip ?_
              refine Fin.keep [0, 2, 4, 7, 8, 56, 57, 58] [101, 102, 103] (s' := ⟨[(0, .b (.one (.str s0))), (2, .b (.ptr 101 0)), (4, .b (.one (.str digits_1))), (7, .b (.ptr 102 0)), (8, .b (.ptr 103 0)), (56, .b (.one (.sl 1 ((ofStr digits_1).map (eK .u8))))), (57, I ((ofStr digits_1).length : Int)), (58, I x_16)], [(101, .box 25 (.bool false :: .bool false :: ((eA16 .u32) A16.zero))), (102, .box 25 (eBig x_15)), (103, .box 25 (eBig x_13))]⟩) rfl ?_
              refine Fin.then ?_
              refine Tri.seq ?_
              refine Tri.block ?_
              refine Tri.seq ?_
              refine Tri.regionL ?_
              obtain ⟨x_18, e34, h32⟩ := bnd h32
              refine OpsL.cons rfl (op_index_e tySl79 (ix_lo e34) (ix_map (e := (eK .u8)) e34) rfl rfl) ?_
              refine OpsL.cons rfl (op_load_e1 tyOne5 rfl rfl) ?_
              refine OpsL.cons rfl (op_assign rfl) ?_
              refine OpsL.nilK [0, 2, 4, 7, 8, 10, 56, 57, 58] [101, 102, 103] (s' := ⟨[(0, .b (.one (.str s0))), (2, .b (.ptr 101 0)), (4, .b (.one (.str digits_1))), (7, .b (.ptr 102 0)), (8, .b (.ptr 103 0)), (10, .b (.one (.int .u8 x_18))), (56, .b (.one (.sl 1 ((ofStr digits_1).map (eK .u8))))), (57, I ((ofStr digits_1).length : Int)), (58, I x_16)], [(101, .box 25 (.bool false :: .bool false :: ((eA16 .u32) A16.zero))), (102, .box 25 (eBig x_15)), (103, .box 25 (eBig x_13))]⟩) rfl ?_
              refine Tri.regionL ?_
              refine OpsL.cons rfl (op_load_p tyAgg25 rfl rfl rfl rfl) ?_
              refine OpsL.cons rfl (op_load_p tyAgg25 rfl rfl rfl rfl) ?_
              obtain ⟨x_19, e35, h32⟩ := bnd h32
              refine OpsL.cons rfl (op_call0 (whole_Mul_spec e35) goes27 rfl rfl) ?_
              refine OpsL.cons rfl (op_move rfl) ?_
              refine OpsL.cons rfl (op_sub rfl rfl) ?_
              refine OpsL.keep [0, 2, 4, 7, 8, 56, 57, 58, 64, 66] [101, 102, 103] (s' := ⟨[(0, .b (.one (.str s0))), (2, .b (.ptr 101 0)), (4, .b (.one (.str digits_1))), (7, .b (.ptr 102 0)), (8, .b (.ptr 103 0)), (56, .b (.one (.sl 1 ((ofStr digits_1).map (eK .u8))))), (57, I ((ofStr digits_1).length : Int)), (58, I x_16), (64, .b (.agg (eBig x_19))), (66, .b (.one (.int .u8 (IntKind.u8.wrap (x_18 - 48)))))], [(101, .box 25 (.bool false :: .bool false :: ((eA16 .u32) A16.zero))), (102, .box 25 (eBig x_15)), (103, .box 25 (eBig x_13))]⟩) rfl ?_
              refine OpsL.consI .i64 h32 rfl (op_conv_wrap undi5 undi3 rfl) (fun x_20 h32 => ?_)
              obtain ⟨x_21, e36, h32⟩ := bnd h32
              refine OpsL.cons rfl (op_call0 (whole_Of_spec e36) goes38 rfl rfl) ?_
              obtain ⟨x_22, e37, h32⟩ := bnd h32
              refine OpsL.cons rfl (op_call0 (whole_Add_spec e37) goes10 rfl rfl) ?_
              refine OpsL.cons rfl (op_store_p tyAgg25 rfl rfl rfl rfl (Nat.le_of_ble_eq_true rfl) rfl) ?_
              refine OpsL.nil ?_
              refine Fin.block_normal ?_
              refine Fin.keep [0, 2, 4, 7, 8, 56, 57, 58] [101, 102, 103] (s' := ⟨[(0, .b (.one (.str s0))), (2, .b (.ptr 101 0)), (4, .b (.one (.str digits_1))), (7, .b (.ptr 102 0)), (8, .b (.ptr 103 0)), (56, .b (.one (.sl 1 ((ofStr digits_1).map (eK .u8))))), (57, I ((ofStr digits_1).length : Int)), (58, I x_16)], [(101, .box 25 (.bool false :: .bool false :: ((eA16 .u32) A16.zero))), (102, .box 25 (eBig x_22)), (103, .box 25 (eBig x_13))]⟩) rfl ?_
              refine Fin.then ?_
              refine Tri.regionL ?_
              refine OpsL.cons rfl (op_add rfl rfl) ?_
              refine OpsL.cons rfl (op_move rfl) ?_
              refine OpsL.nil ?_
              exact Fin.againJ [0, 2, 4, 7, 8, 56, 57, 58] [101, 102, 103] (x_22, IntKind.i64.wrap (x_16 + 1)) (Option.some.inj h32) rfl
            · refine Tri.exit ?_
              refine Fin.then_exit ?_
              obtain rfl := hy33 _ (Option.some.inj h32).symm
              refine Fin.then_exit ?_
              refine Fin.block_exit ?_
              exact Fin.join [0, 2, 4, 7] [101, 102] x_15 rfl rfl
          · rintro x_14 hv
            subst v29
            refine Tri.seq ?_
            refine Tri.seq ?_
            refine Tri.regionL ?_
            refine OpsL.cons rfl (op_field_p tyFld25_0 rfl rfl) ?_
            refine OpsL.cons rfl (op_load_p1 tyOne4 rfl rfl rfl) ?_
            refine OpsL.nilK [0, 2, 4, 7, 72] [101, 102] (s' := ⟨[(0, .b (.one (.str s0))), (2, .b (.ptr 101 0)), (4, .b (.one (.str digits_1))), (7, .b (.ptr 102 0)), (72, B x_14.Bad)], [(101, .box 25 (.bool false :: .bool false :: ((eA16 .u32) A16.zero))), (102, .box 25 (eBig x_14))]⟩) rfl ?_
            refine Tri.ite h rfl (fun _ h => ?_) (fun _ h => ?_)
            · refine Tri.seq ?_
              refine Tri.regionL ?_
              refine OpsL.cons rfl (op_load_p tyAgg25 rfl rfl rfl rfl) ?_
              refine OpsL.cons rfl (op_store_p tyAgg25 rfl rfl rfl rfl (Nat.le_of_ble_eq_true rfl) rfl) ?_
              refine OpsL.cons rfl (op_assign rfl) ?_
              refine OpsL.nilK [2, 3] [101] (s' := ⟨[(2, .b (.ptr 101 0)), (3, I 30)], [(101, .box 25 (eBig x_14))]⟩) rfl ?_
              refine Tri.ret ?_
              refine Fin.then_ret ?_
              obtain rfl := Option.some.inj h
              refine Fin.keep [2, 3] [101] (s' := ⟨[(2, .b (.ptr 101 0)), (3, I 30)], [(101, .box 25 (eBig x_14))]⟩) rfl ?_
              refine Fin.result' [.agg (eBig x_14), .one (.i 30)] (.inl rfl) rfl (.cons (.agg tyAgg25 rfl rfl rfl rfl) (.cons (.tmp rfl) .nil)) ⟨rfl, rfl⟩
            · refine Tri.skip ?_
              refine Fin.keep [0, 2, 4, 7] [101, 102] (s' := ⟨[(0, .b (.one (.str s0))), (2, .b (.ptr 101 0)), (4, .b (.one (.str digits_1))), (7, .b (.ptr 102 0))], [(101, .box 25 (.bool false :: .bool false :: ((eA16 .u32) A16.zero))), (102, .box 25 (eBig x_14))]⟩) rfl ?_
              refine Fin.then ?_
              refine Tri.seq ?_
              refine Tri.regionL ?_
              refine OpsL.cons rfl (op_move rfl) ?_
              refine OpsL.cons rfl (op_move rfl) ?_
              refine OpsL.cons rfl (op_neq_str rfl rfl) ?_
              refine OpsL.cons rfl (op_field_p tyFld25_2 rfl rfl) ?_
              refine OpsL.cons rfl (op_load_p tyAgg23 rfl rfl rfl rfl) ?_
              refine OpsL.keep [2, 76, 78] [101] (s' := ⟨[(2, .b (.ptr 101 0)), (76, B (decide (digits_1 ≠ s0))), (78, .b (.agg ((eA16 .u32) x_14.W)))], [(101, .box 25 (.bool false :: .bool false :: ((eA16 .u32) A16.zero)))]⟩) rfl ?_
              obtain ⟨x_23, e38, h⟩ := bnd h
              refine OpsL.cons rfl (op_call0 (whole_signed_spec e38) goes46 rfl rfl) ?_
              refine OpsL.cons rfl (op_store_p tyAgg25 rfl rfl rfl rfl (Nat.le_of_ble_eq_true rfl) rfl) ?_
              refine OpsL.cons rfl (op_assign rfl) ?_
              refine OpsL.nilK [2, 3] [101] (s' := ⟨[(2, .b (.ptr 101 0)), (3, I 0)], [(101, .box 25 (eBig x_23))]⟩) rfl ?_
              refine Tri.ret ?_
              obtain rfl := Option.some.inj h
              refine Fin.keep [2, 3] [101] (s' := ⟨[(2, .b (.ptr 101 0)), (3, I 0)], [(101, .box 25 (eBig x_23))]⟩) rfl ?_
              refine Fin.result' [.agg (eBig x_23), .one (.i 0)] (.inl rfl) rfl (.cons (.agg tyAgg25 rfl rfl rfl rfl) (.cons (.tmp rfl) .nil)) ⟨rfl, rfl⟩

def skewbacklaw03_sanity_S (F : Nat) : Option Bool :=
 Option.bind (whole_Of_S F 1099511627776) (fun x_1 => Option.bind (whole_Of_S F 7) (fun x_2 => Option.bind (whole_Of_S F 2) (fun x_3 => Option.bind (whole_Mul_S F x_1 x_1) (fun x_4 => Option.bind (whole_Text_S F x_4) (fun x_5 => letN (decide (x_5 = [49, 50, 48, 56, 57, 50, 53, 56, 49, 57, 54, 49, 52, 54, 50, 57, 49, 55, 52, 55, 48, 54, 49, 55, 54])) fun x_6 => Option.bind (whole_Neg_S F x_2) (fun x_7 => Option.bind (whole_Quo_S F x_7 x_3) (fun x_8 => Option.bind (whole_Of_S F (-4)) (fun x_9 => Option.bind (gcall (decide (x_8 = x_9)) (whole_Neg_S F x_2)) (fun x_10 => Option.bind (gcall (decide (x_8 = x_9)) (whole_Rem_S F x_10 x_3)) (fun x_11 => Option.bind (gcall (decide (x_8 = x_9)) (whole_Of_S F 1)) (fun x_12 => Option.bind (whole_Of_S F (-2)) (fun x_13 => Option.bind (whole_Quo_S F x_2 x_13) (fun x_14 => Option.bind (whole_Of_S F (-4)) (fun x_15 => Option.bind (gcall (decide (x_14 = x_15)) (whole_Of_S F (-2))) (fun x_16 => Option.bind (gcall (decide (x_14 = x_15)) (whole_Rem_S F x_2 x_16)) (fun x_17 => Option.bind (gcall (decide (x_14 = x_15)) (whole_Of_S F (-1))) (fun x_18 => Option.bind (whole_Of_S F 12) (fun x_19 => Option.bind (whole_Of_S F (-18)) (fun x_20 => Option.bind (whole_Gcd_S F x_19 x_20) (fun x_21 => Option.bind (whole_Of_S F 6) (fun x_22 => Option.bind (gcall (decide (x_21 = x_22)) (whole_Of_S F 99)) (fun x_23 => Option.bind (gcall (decide (x_21 = x_22)) (whole_Sqrt_S F x_23)) (fun x_24 => Option.bind (gcall (decide (x_21 = x_22)) (whole_Of_S F 9)) (fun x_25 => Option.bind (gcall ((decide (x_21 = x_22)) && (decide (x_24 = x_25))) (whole_Of_S F 255)) (fun x_26 => Option.bind (gcall ((decide (x_21 = x_22)) && (decide (x_24 = x_25))) (whole_Bits_S F x_26)) (fun x_27 => letN (((decide (x_21 = x_22)) && (decide (x_24 = x_25))) && (decide (x_27 = 8))) fun x_28 => Option.bind (gcall x_28 (whole_Of_S F 0)) (fun x_29 => Option.bind (gcall x_28 (whole_Bits_S F x_29)) (fun x_30 => Option.bind (whole_Of_S F 5) (fun x_31 => Option.bind (whole_Shift_S F x_31 3) (fun x_32 => Option.bind (whole_Of_S F 40) (fun x_33 => Option.bind (gcall (decide (x_32 = x_33)) (whole_Of_S F (-5))) (fun x_34 => Option.bind (gcall (decide (x_32 = x_33)) (whole_Shift_S F x_34 (-1))) (fun x_35 => Option.bind (gcall (decide (x_32 = x_33)) (whole_Of_S F (-3))) (fun x_36 => Option.bind (gcall ((decide (x_32 = x_33)) && (decide (x_35 = x_36))) (whole_Of_S F 1)) (fun x_37 => Option.bind (gcall ((decide (x_32 = x_33)) && (decide (x_35 = x_36))) (whole_Shift_S F x_37 511)) (fun x_38 => letN (((decide (x_32 = x_33)) && (decide (x_35 = x_36))) && (!x_38.Bad)) fun x_39 => Option.bind (gcall x_39 (whole_Of_S F 1)) (fun x_40 => Option.bind (gcall x_39 (whole_Shift_S F x_40 512)) (fun x_41 => Option.bind (whole_Of_S F 1) (fun x_42 => Option.bind (whole_Of_S F 0) (fun x_43 => Option.bind (whole_Quo_S F x_42 x_43) (fun x_44 => Option.bind (gcall x_44.Bad (whole_Of_S F (-1))) (fun x_45 => Option.bind (gcall x_44.Bad (whole_Sqrt_S F x_45)) (fun x_46 => Option.bind (gcall (x_44.Bad && x_46.Bad) (whole_Bad_S F)) (fun x_47 => Option.bind (gcall (x_44.Bad && x_46.Bad) (whole_Of_S F 1)) (fun x_48 => Option.bind (gcall (x_44.Bad && x_46.Bad) (whole_Add_S F x_47 x_48)) (fun x_49 => Option.bind (whole_Parse_S F [45, 48]) (un2 fun x_50 x_51 => Option.bind (whole_Parse_S F [48, 48, 55]) (un2 fun x_52 x_53 => Option.bind (whole_Parse_S F [45, 49, 50]) (un2 fun x_54 x_55 => Option.bind (gcall ((((((((x_6 && ((decide (x_8 = x_9)) && (decide (x_11 = x_12)))) && ((decide (x_14 = x_15)) && (decide (x_17 = x_18)))) && (x_28 && (decide (x_30 = 0)))) && (x_39 && x_41.Bad)) && ((x_44.Bad && x_46.Bad) && x_49.Bad)) && (decide (x_51 = 281))) && (decide (x_53 = 281))) && (decide (x_55 = 0))) (whole_Of_S F (-12))) (fun x_56 => Option.bind (gcall (((((((((x_6 && ((decide (x_8 = x_9)) && (decide (x_11 = x_12)))) && ((decide (x_14 = x_15)) && (decide (x_17 = x_18)))) && (x_28 && (decide (x_30 = 0)))) && (x_39 && x_41.Bad)) && ((x_44.Bad && x_46.Bad) && x_49.Bad)) && (decide (x_51 = 281))) && (decide (x_53 = 281))) && (decide (x_55 = 0))) && (decide (x_54 = x_56))) (whole_Cmp_S F x_2 x_3)) (fun x_57 => some ((((((((((x_6 && ((decide (x_8 = x_9)) && (decide (x_11 = x_12)))) && ((decide (x_14 = x_15)) && (decide (x_17 = x_18)))) && (x_28 && (decide (x_30 = 0)))) && (x_39 && x_41.Bad)) && ((x_44.Bad && x_46.Bad) && x_49.Bad)) && (decide (x_51 = 281))) && (decide (x_53 = 281))) && (decide (x_55 = 0))) && (decide (x_54 = x_56))) && (decide (x_57 = 1))))))))))))))))))))))))))))))))))))))))))))))))))))))
theorem skewbacklaw03_sanity_spec {F : Nat} {r : Bool} (h : skewbacklaw03_sanity_S F = some r) : Meets Tryd.prog tabs 22 [] [] (Is [] (.b (.one (.bool r)))) := by
  unfold skewbacklaw03_sanity_S at h
  refine Meets.intro 158 Tryd.func22 Tryd.ntmps22 rfl (by simp) fun E => ?_
  show Tri _ E ⟨158, [], []⟩ _ ⟨[], []⟩ _
  refine Tri.seq ?_
  refine Tri.regionL ?_
  refine OpsL.cons rfl (op_assign rfl) ?_
  refine OpsL.nilK [] [] (s' := ⟨[], []⟩) rfl ?_
  refine Tri.seq ?_
  refine Tri.regionL ?_
  obtain ⟨x_1, e1, h⟩ := bnd h
  refine OpsL.cons rfl (op_call0 (whole_Of_spec e1) goes38 rfl rfl) ?_
  refine OpsL.cons rfl (op_alloc (k := 101) tyZero25 rfl) ?_
  refine OpsL.cons rfl (op_store_p tyAgg25 rfl rfl rfl rfl (Nat.le_of_ble_eq_true rfl) rfl) ?_
  refine OpsL.nilK [1] [101] (s' := ⟨[(1, .b (.ptr 101 0))], [(101, .box 25 (eBig x_1))]⟩) rfl ?_
  refine Tri.seq ?_
  refine Tri.regionL ?_
  obtain ⟨x_2, e2, h⟩ := bnd h
  refine OpsL.cons rfl (op_call0 (whole_Of_spec e2) goes38 rfl rfl) ?_
  refine OpsL.cons rfl (op_alloc (k := 102) tyZero25 rfl) ?_
  refine OpsL.cons rfl (op_store_p tyAgg25 rfl rfl rfl rfl (Nat.le_of_ble_eq_true rfl) rfl) ?_
  refine OpsL.nilK [1, 2] [101, 102] (s' := ⟨[(1, .b (.ptr 101 0)), (2, .b (.ptr 102 0))], [(101, .box 25 (eBig x_1)), (102, .box 25 (eBig x_2))]⟩) rfl ?_
  refine Tri.seq ?_
  refine Tri.regionL ?_
  obtain ⟨x_3, e3, h⟩ := bnd h
  refine OpsL.cons rfl (op_call0 (whole_Of_spec e3) goes38 rfl rfl) ?_
  refine OpsL.cons rfl (op_alloc (k := 103) tyZero25 rfl) ?_
  refine OpsL.cons rfl (op_store_p tyAgg25 rfl rfl rfl rfl (Nat.le_of_ble_eq_true rfl) rfl) ?_
  refine OpsL.nilK [1, 2, 3] [101, 102, 103] (s' := ⟨[(1, .b (.ptr 101 0)), (2, .b (.ptr 102 0)), (3, .b (.ptr 103 0))], [(101, .box 25 (eBig x_1)), (102, .box 25 (eBig x_2)), (103, .box 25 (eBig x_3))]⟩) rfl ?_
  refine Tri.seq ?_
  refine Tri.regionL ?_
  refine OpsL.cons rfl (op_load_p tyAgg25 rfl rfl rfl rfl) ?_
  refine OpsL.cons rfl (op_load_p tyAgg25 rfl rfl rfl rfl) ?_
  obtain ⟨x_4, e4, h⟩ := bnd h
  refine OpsL.cons rfl (op_call0 (whole_Mul_spec e4) goes27 rfl rfl) ?_
  refine OpsL.keep [2, 3, 21] [102, 103] (s' := ⟨[(2, .b (.ptr 102 0)), (3, .b (.ptr 103 0)), (21, .b (.agg (eBig x_4)))], [(102, .box 25 (eBig x_2)), (103, .box 25 (eBig x_3))]⟩) rfl ?_
  obtain ⟨x_5, e5, h⟩ := bnd h
  refine OpsL.cons rfl (op_call0 (whole_Text_spec e5) goes33 rfl rfl) ?_
  refine OpsL.consB h rfl (op_eql_str rfl rfl) (fun x_6 h => ?_)
  refine OpsL.cons rfl (op_assign rfl) ?_
  refine OpsL.nilK [2, 3, 4] [102, 103] (s' := ⟨[(2, .b (.ptr 102 0)), (3, .b (.ptr 103 0)), (4, B x_6)], [(102, .box 25 (eBig x_2)), (103, .box 25 (eBig x_3))]⟩) rfl ?_
  refine Tri.seq ?_
  refine Tri.keep [2, 3, 4] [102, 103] (s' := ⟨[(2, .b (.ptr 102 0)), (3, .b (.ptr 103 0)), (4, B x_6)], [(102, .box 25 (eBig x_2)), (103, .box 25 (eBig x_3))]⟩) rfl ?_
  obtain ⟨x_7, e6, h⟩ := bnd h
  obtain ⟨x_8, e7, h⟩ := bnd h
  obtain ⟨x_9, e8, h⟩ := bnd h
  obtain ⟨x_10, e11, h⟩ := bnd h
  obtain ⟨x_11, e14, h⟩ := bnd h
  obtain ⟨x_12, e16, h⟩ := bnd h
  refine Tri.regionY mixed 15 [.b (.agg (eBig x_2)), .b (.agg (eBig x_7)), .b (.agg (eBig x_3)), .b (.agg (eBig x_8)), .b (.agg (eBig x_9)), B (decide (x_8 = x_9)), B (decide (x_8 = x_9)), .opt (decide (x_8 = x_9)) (.agg (eBig x_2)), .opt (decide (x_8 = x_9)) (.agg (eBig x_10)), .opt (decide (x_8 = x_9)) (.agg (eBig x_3)), .opt (decide (x_8 = x_9)) (.agg (eBig x_11)), .opt (decide (x_8 = x_9)) (.agg (eBig x_12)), .opt (decide (x_8 = x_9)) (.one (.bool (decide (x_11 = x_12)))), B ((decide (x_8 = x_9)) && (decide (x_11 = x_12))), B ((decide (x_8 = x_9)) && (decide (x_11 = x_12)))] [2, 3, 4, 5] [102, 103] (s' := ⟨[(2, .b (.ptr 102 0)), (3, .b (.ptr 103 0)), (4, B x_6), (5, B ((decide (x_8 = x_9)) && (decide (x_11 = x_12))))], [(102, .box 25 (eBig x_2)), (103, .box 25 (eBig x_3))]⟩) rfl ⟨fun _ => .plain rfl (op_load_p tyAgg25 rfl rfl rfl rfl), fun _ => .plain rfl (op_call0 (whole_Neg_spec e6) goes14 rfl rfl), fun _ => .plain rfl (op_load_p tyAgg25 rfl rfl rfl rfl), fun _ => .plain rfl (op_call0 (whole_Quo_spec e7) goes29 rfl rfl), fun _ => .plain rfl (op_call0 (whole_Of_spec e8) goes38 rfl rfl), fun _ => .plain rfl (op_eql_agg (eqAgg25 x_8 x_9) rfl rfl), fun _ => .plain rfl (op_move rfl), fun _ => by exact .guard (decide (x_8 = x_9)) 1 [] (.plain rfl) (eq_t _) rfl rfl (fun g9 => trivial) (fun g9 => op_load_p tyAgg25 rfl rfl rfl rfl), fun _ => by exact .guard (decide (x_8 = x_9)) 3 [31] (.plain rfl) (eq_t _) rfl rfl (fun g10 => ⟨g10, trivial⟩) (fun g10 => op_call0 (whole_Neg_spec (gc e11 g10)) goes14 rfl rfl), fun _ => by exact .guard (decide (x_8 = x_9)) 1 [] (.plain rfl) (eq_t _) rfl rfl (fun g12 => trivial) (fun g12 => op_load_p tyAgg25 rfl rfl rfl rfl), fun _ => by exact .guard (decide (x_8 = x_9)) 4 [32, 33] (.plain rfl) (eq_t _) rfl rfl (fun g13 => ⟨g13, g13, g13, trivial⟩) (fun g13 => op_call0 (whole_Rem_spec (gc e14 g13)) goes31 rfl rfl), fun _ => by exact .guard (decide (x_8 = x_9)) 2 [] (.plain rfl) (eq_t _) rfl rfl (fun g15 => trivial) (fun g15 => op_call0 (whole_Of_spec (gc e16 g15)) goes38 rfl rfl), fun _ => by exact .guard (decide (x_8 = x_9)) 3 [34, 35] (.plain rfl) (eq_t _) rfl rfl (fun g17 => ⟨g17, g17, trivial⟩) (fun g17 => op_eql_agg (eqAgg25 x_11 x_12) rfl rfl), fun _ => .plain rfl (op_pick_and (fun e => e) rfl rfl rfl rfl), fun _ => .plain rfl (op_assign rfl), trivial⟩ rfl rfl ?_
  refine Tri.seq ?_
  refine Tri.keep [2, 3, 4, 5] [102, 103] (s' := ⟨[(2, .b (.ptr 102 0)), (3, .b (.ptr 103 0)), (4, B x_6), (5, B ((decide (x_8 = x_9)) && (decide (x_11 = x_12))))], [(102, .box 25 (eBig x_2)), (103, .box 25 (eBig x_3))]⟩) rfl ?_
  obtain ⟨x_13, e18, h⟩ := bnd h
  obtain ⟨x_14, e19, h⟩ := bnd h
  obtain ⟨x_15, e20, h⟩ := bnd h
  obtain ⟨x_16, e23, h⟩ := bnd h
  obtain ⟨x_17, e25, h⟩ := bnd h
  obtain ⟨x_18, e27, h⟩ := bnd h
  refine Tri.regionY mixed 13 [.b (.agg (eBig x_2)), .b (.agg (eBig x_13)), .b (.agg (eBig x_14)), .b (.agg (eBig x_15)), B (decide (x_14 = x_15)), B (decide (x_14 = x_15)), .opt (decide (x_14 = x_15)) (.agg (eBig x_2)), .opt (decide (x_14 = x_15)) (.agg (eBig x_16)), .opt (decide (x_14 = x_15)) (.agg (eBig x_17)), .opt (decide (x_14 = x_15)) (.agg (eBig x_18)), .opt (decide (x_14 = x_15)) (.one (.bool (decide (x_17 = x_18)))), B ((decide (x_14 = x_15)) && (decide (x_17 = x_18))), B ((decide (x_14 = x_15)) && (decide (x_17 = x_18)))] [2, 3, 4, 5, 6] [102, 103] (s' := ⟨[(2, .b (.ptr 102 0)), (3, .b (.ptr 103 0)), (4, B x_6), (5, B ((decide (x_8 = x_9)) && (decide (x_11 = x_12)))), (6, B ((decide (x_14 = x_15)) && (decide (x_17 = x_18))))], [(102, .box 25 (eBig x_2)), (103, .box 25 (eBig x_3))]⟩) rfl ⟨fun _ => .plain rfl (op_load_p tyAgg25 rfl rfl rfl rfl), fun _ => .plain rfl (op_call0 (whole_Of_spec e18) goes38 rfl rfl), fun _ => .plain rfl (op_call0 (whole_Quo_spec e19) goes29 rfl rfl), fun _ => .plain rfl (op_call0 (whole_Of_spec e20) goes38 rfl rfl), fun _ => .plain rfl (op_eql_agg (eqAgg25 x_14 x_15) rfl rfl), fun _ => .plain rfl (op_move rfl), fun _ => by exact .guard (decide (x_14 = x_15)) 1 [] (.plain rfl) (eq_t _) rfl rfl (fun g21 => trivial) (fun g21 => op_load_p tyAgg25 rfl rfl rfl rfl), fun _ => by exact .guard (decide (x_14 = x_15)) 2 [] (.plain rfl) (eq_t _) rfl rfl (fun g22 => trivial) (fun g22 => op_call0 (whole_Of_spec (gc e23 g22)) goes38 rfl rfl), fun _ => by exact .guard (decide (x_14 = x_15)) 4 [44, 45] (.plain rfl) (eq_t _) rfl rfl (fun g24 => ⟨g24, g24, g24, trivial⟩) (fun g24 => op_call0 (whole_Rem_spec (gc e25 g24)) goes31 rfl rfl), fun _ => by exact .guard (decide (x_14 = x_15)) 2 [] (.plain rfl) (eq_t _) rfl rfl (fun g26 => trivial) (fun g26 => op_call0 (whole_Of_spec (gc e27 g26)) goes38 rfl rfl), fun _ => by exact .guard (decide (x_14 = x_15)) 3 [46, 47] (.plain rfl) (eq_t _) rfl rfl (fun g28 => ⟨g28, g28, trivial⟩) (fun g28 => op_eql_agg (eqAgg25 x_17 x_18) rfl rfl), fun _ => .plain rfl (op_pick_and (fun e => e) rfl rfl rfl rfl), fun _ => .plain rfl (op_assign rfl), trivial⟩ rfl rfl ?_
  refine Tri.seq ?_
  refine Tri.regionL ?_
  obtain ⟨x_19, e29, h⟩ := bnd h
  refine OpsL.cons rfl (op_call0 (whole_Of_spec e29) goes38 rfl rfl) ?_
  obtain ⟨x_20, e30, h⟩ := bnd h
  refine OpsL.cons rfl (op_call0 (whole_Of_spec e30) goes38 rfl rfl) ?_
  refine OpsL.keep [2, 3, 4, 5, 6, 50, 51] [102, 103] (s' := ⟨[(2, .b (.ptr 102 0)), (3, .b (.ptr 103 0)), (4, B x_6), (5, B ((decide (x_8 = x_9)) && (decide (x_11 = x_12)))), (6, B ((decide (x_14 = x_15)) && (decide (x_17 = x_18)))), (50, .b (.agg (eBig x_19))), (51, .b (.agg (eBig x_20)))], [(102, .box 25 (eBig x_2)), (103, .box 25 (eBig x_3))]⟩) rfl ?_
  obtain ⟨x_21, e31, h⟩ := bnd h
  refine OpsL.cons rfl (op_call0 (whole_Gcd_spec e31) goes40 rfl rfl) ?_
  obtain ⟨x_22, e32, h⟩ := bnd h
  refine OpsL.cons rfl (op_call0 (whole_Of_spec e32) goes38 rfl rfl) ?_
  refine OpsL.cons rfl (op_eql_agg (eqAgg25 x_21 x_22) rfl rfl) ?_
  refine OpsL.cons rfl (op_move rfl) ?_
  refine OpsL.keep [2, 3, 4, 5, 6, 55] [102, 103] (s' := ⟨[(2, .b (.ptr 102 0)), (3, .b (.ptr 103 0)), (4, B x_6), (5, B ((decide (x_8 = x_9)) && (decide (x_11 = x_12)))), (6, B ((decide (x_14 = x_15)) && (decide (x_17 = x_18)))), (55, B (decide (x_21 = x_22)))], [(102, .box 25 (eBig x_2)), (103, .box 25 (eBig x_3))]⟩) rfl ?_
  obtain ⟨x_23, e34, h⟩ := bnd h
  refine OpsL.consG (decide (x_21 = x_22)) 99 [] (.plain rfl) (eq_t _) rfl rfl (fun g33 => trivial) (fun g33 => op_call0 (whole_Of_spec (gc e34 g33)) goes38 rfl rfl) ?_
  obtain ⟨x_24, e36, h⟩ := bnd h
  refine OpsL.consG (decide (x_21 = x_22)) 99 [56] (.plain rfl) (eq_t _) rfl rfl (fun g35 => ⟨g35, trivial⟩) (fun g35 => op_call0 (whole_Sqrt_spec (gc e36 g35)) goes41 rfl rfl) ?_
  obtain ⟨x_25, e38, h⟩ := bnd h
  refine OpsL.consG (decide (x_21 = x_22)) 99 [] (.plain rfl) (eq_t _) rfl rfl (fun g37 => trivial) (fun g37 => op_call0 (whole_Of_spec (gc e38 g37)) goes38 rfl rfl) ?_
  refine OpsL.consG (decide (x_21 = x_22)) 99 [57, 58] (.plain rfl) (eq_t _) rfl rfl (fun g39 => ⟨g39, g39, trivial⟩) (fun g39 => op_eql_agg (eqAgg25 x_24 x_25) rfl rfl) ?_
  refine OpsL.keep [2, 3, 4, 5, 6, 55, 59] [102, 103] (s' := ⟨[(2, .b (.ptr 102 0)), (3, .b (.ptr 103 0)), (4, B x_6), (5, B ((decide (x_8 = x_9)) && (decide (x_11 = x_12)))), (6, B ((decide (x_14 = x_15)) && (decide (x_17 = x_18)))), (55, B (decide (x_21 = x_22))), (59, .opt (decide (x_21 = x_22)) (.one (.bool (decide (x_24 = x_25)))))], [(102, .box 25 (eBig x_2)), (103, .box 25 (eBig x_3))]⟩) rfl ?_
  refine OpsL.cons rfl (op_pick_and (fun e => e) rfl rfl rfl rfl) ?_
  refine OpsL.cons rfl (op_move rfl) ?_
  obtain ⟨x_26, e41, h⟩ := bnd h
  refine OpsL.consG ((decide (x_21 = x_22)) && (decide (x_24 = x_25))) 99 [] (.plain rfl) (eq_t _) rfl rfl (fun g40 => trivial) (fun g40 => op_call0 (whole_Of_spec (gc e41 g40)) goes38 rfl rfl) ?_
  obtain ⟨x_27, e43, h⟩ := bnd h
  refine OpsL.consG ((decide (x_21 = x_22)) && (decide (x_24 = x_25))) 99 [62] (.plain rfl) (eq_t _) rfl rfl (fun g42 => ⟨g42, trivial⟩) (fun g42 => op_call0 (whole_Bits_spec (gc e43 g42)) goes20 rfl rfl) ?_
  refine OpsL.keep [2, 3, 4, 5, 6, 61, 63] [102, 103] (s' := ⟨[(2, .b (.ptr 102 0)), (3, .b (.ptr 103 0)), (4, B x_6), (5, B ((decide (x_8 = x_9)) && (decide (x_11 = x_12)))), (6, B ((decide (x_14 = x_15)) && (decide (x_17 = x_18)))), (61, B ((decide (x_21 = x_22)) && (decide (x_24 = x_25)))), (63, .opt ((decide (x_21 = x_22)) && (decide (x_24 = x_25))) (.one (.i x_27)))], [(102, .box 25 (eBig x_2)), (103, .box 25 (eBig x_3))]⟩) rfl ?_
  refine OpsL.consG ((decide (x_21 = x_22)) && (decide (x_24 = x_25))) 99 [63] (.plain rfl) (eq_t _) rfl rfl (fun g44 => ⟨g44, trivial⟩) (fun g44 => op_eql rfl rfl) ?_
  refine OpsL.consB h rfl (op_pick_and (fun e => e) rfl rfl rfl rfl) (fun x_28 h => ?_)
  refine OpsL.cons rfl (op_move rfl) ?_
  obtain ⟨x_29, e46, h⟩ := bnd h
  refine OpsL.consG x_28 99 [] (.plain rfl) (eq_t _) rfl rfl (fun g45 => trivial) (fun g45 => op_call0 (whole_Of_spec (gc e46 g45)) goes38 rfl rfl) ?_
  refine OpsL.keep [2, 3, 4, 5, 6, 66, 67] [102, 103] (s' := ⟨[(2, .b (.ptr 102 0)), (3, .b (.ptr 103 0)), (4, B x_6), (5, B ((decide (x_8 = x_9)) && (decide (x_11 = x_12)))), (6, B ((decide (x_14 = x_15)) && (decide (x_17 = x_18)))), (66, B x_28), (67, .opt x_28 (.agg (eBig x_29)))], [(102, .box 25 (eBig x_2)), (103, .box 25 (eBig x_3))]⟩) rfl ?_
  obtain ⟨x_30, e48, h⟩ := bnd h
  refine OpsL.consG x_28 99 [67] (.plain rfl) (eq_t _) rfl rfl (fun g47 => ⟨g47, trivial⟩) (fun g47 => op_call0 (whole_Bits_spec (gc e48 g47)) goes20 rfl rfl) ?_
  refine OpsL.consG x_28 99 [68] (.plain rfl) (eq_t _) rfl rfl (fun g49 => ⟨g49, trivial⟩) (fun g49 => op_eql rfl rfl) ?_
  refine OpsL.cons rfl (op_pick_and (fun e => e) rfl rfl rfl rfl) ?_
  refine OpsL.cons rfl (op_assign rfl) ?_
  refine OpsL.nilK [2, 3, 4, 5, 6, 7] [102, 103] (s' := ⟨[(2, .b (.ptr 102 0)), (3, .b (.ptr 103 0)), (4, B x_6), (5, B ((decide (x_8 = x_9)) && (decide (x_11 = x_12)))), (6, B ((decide (x_14 = x_15)) && (decide (x_17 = x_18)))), (7, B (x_28 && (decide (x_30 = 0))))], [(102, .box 25 (eBig x_2)), (103, .box 25 (eBig x_3))]⟩) rfl ?_
  refine Tri.seq ?_
  refine Tri.regionL ?_
  obtain ⟨x_31, e50, h⟩ := bnd h
  refine OpsL.cons rfl (op_call0 (whole_Of_spec e50) goes38 rfl rfl) ?_
  obtain ⟨x_32, e51, h⟩ := bnd h
  refine OpsL.cons rfl (op_call0 (whole_Shift_spec e51) goes42 rfl rfl) ?_
  refine OpsL.keep [2, 3, 4, 5, 6, 7, 72] [102, 103] (s' := ⟨[(2, .b (.ptr 102 0)), (3, .b (.ptr 103 0)), (4, B x_6), (5, B ((decide (x_8 = x_9)) && (decide (x_11 = x_12)))), (6, B ((decide (x_14 = x_15)) && (decide (x_17 = x_18)))), (7, B (x_28 && (decide (x_30 = 0)))), (72, .b (.agg (eBig x_32)))], [(102, .box 25 (eBig x_2)), (103, .box 25 (eBig x_3))]⟩) rfl ?_
  obtain ⟨x_33, e52, h⟩ := bnd h
  refine OpsL.cons rfl (op_call0 (whole_Of_spec e52) goes38 rfl rfl) ?_
  refine OpsL.cons rfl (op_eql_agg (eqAgg25 x_32 x_33) rfl rfl) ?_
  refine OpsL.cons rfl (op_move rfl) ?_
  obtain ⟨x_34, e54, h⟩ := bnd h
  refine OpsL.consG (decide (x_32 = x_33)) 99 [] (.plain rfl) (eq_t _) rfl rfl (fun g53 => trivial) (fun g53 => op_call0 (whole_Of_spec (gc e54 g53)) goes38 rfl rfl) ?_
  refine OpsL.keep [2, 3, 4, 5, 6, 7, 75, 76] [102, 103] (s' := ⟨[(2, .b (.ptr 102 0)), (3, .b (.ptr 103 0)), (4, B x_6), (5, B ((decide (x_8 = x_9)) && (decide (x_11 = x_12)))), (6, B ((decide (x_14 = x_15)) && (decide (x_17 = x_18)))), (7, B (x_28 && (decide (x_30 = 0)))), (75, B (decide (x_32 = x_33))), (76, .opt (decide (x_32 = x_33)) (.agg (eBig x_34)))], [(102, .box 25 (eBig x_2)), (103, .box 25 (eBig x_3))]⟩) rfl ?_
  obtain ⟨x_35, e56, h⟩ := bnd h
  refine OpsL.consG (decide (x_32 = x_33)) 99 [76] (.plain rfl) (eq_t _) rfl rfl (fun g55 => ⟨g55, trivial⟩) (fun g55 => op_call0 (whole_Shift_spec (gc e56 g55)) goes42 rfl rfl) ?_
  obtain ⟨x_36, e58, h⟩ := bnd h
  refine OpsL.consG (decide (x_32 = x_33)) 99 [] (.plain rfl) (eq_t _) rfl rfl (fun g57 => trivial) (fun g57 => op_call0 (whole_Of_spec (gc e58 g57)) goes38 rfl rfl) ?_
  refine OpsL.consG (decide (x_32 = x_33)) 99 [77, 78] (.plain rfl) (eq_t _) rfl rfl (fun g59 => ⟨g59, g59, trivial⟩) (fun g59 => op_eql_agg (eqAgg25 x_35 x_36) rfl rfl) ?_
  refine OpsL.cons rfl (op_pick_and (fun e => e) rfl rfl rfl rfl) ?_
  refine OpsL.cons rfl (op_move rfl) ?_
  refine OpsL.keep [2, 3, 4, 5, 6, 7, 81] [102, 103] (s' := ⟨[(2, .b (.ptr 102 0)), (3, .b (.ptr 103 0)), (4, B x_6), (5, B ((decide (x_8 = x_9)) && (decide (x_11 = x_12)))), (6, B ((decide (x_14 = x_15)) && (decide (x_17 = x_18)))), (7, B (x_28 && (decide (x_30 = 0)))), (81, B ((decide (x_32 = x_33)) && (decide (x_35 = x_36))))], [(102, .box 25 (eBig x_2)), (103, .box 25 (eBig x_3))]⟩) rfl ?_
  obtain ⟨x_37, e61, h⟩ := bnd h
  refine OpsL.consG ((decide (x_32 = x_33)) && (decide (x_35 = x_36))) 99 [] (.plain rfl) (eq_t _) rfl rfl (fun g60 => trivial) (fun g60 => op_call0 (whole_Of_spec (gc e61 g60)) goes38 rfl rfl) ?_
  obtain ⟨x_38, e63, h⟩ := bnd h
  refine OpsL.consG ((decide (x_32 = x_33)) && (decide (x_35 = x_36))) 99 [82] (.plain rfl) (eq_t _) rfl rfl (fun g62 => ⟨g62, trivial⟩) (fun g62 => op_call0 (whole_Shift_spec (gc e63 g62)) goes42 rfl rfl) ?_
  refine OpsL.consG ((decide (x_32 = x_33)) && (decide (x_35 = x_36))) 99 [83] (.plain rfl) (eq_t _) rfl rfl (fun g64 => ⟨g64, trivial⟩) (fun g64 => op_fieldv1 tyFld25_0 tyOne4 rfl rfl) ?_
  refine OpsL.consG ((decide (x_32 = x_33)) && (decide (x_35 = x_36))) 99 [84] (.plain rfl) (eq_t _) rfl rfl (fun g65 => ⟨g65, trivial⟩) (fun g65 => op_not rfl) ?_
  refine OpsL.consB h rfl (op_pick_and (fun e => e) rfl rfl rfl rfl) (fun x_39 h => ?_)
  refine OpsL.cons rfl (op_move rfl) ?_
  refine OpsL.keep [2, 3, 4, 5, 6, 7, 87] [102, 103] (s' := ⟨[(2, .b (.ptr 102 0)), (3, .b (.ptr 103 0)), (4, B x_6), (5, B ((decide (x_8 = x_9)) && (decide (x_11 = x_12)))), (6, B ((decide (x_14 = x_15)) && (decide (x_17 = x_18)))), (7, B (x_28 && (decide (x_30 = 0)))), (87, B x_39)], [(102, .box 25 (eBig x_2)), (103, .box 25 (eBig x_3))]⟩) rfl ?_
  obtain ⟨x_40, e67, h⟩ := bnd h
  refine OpsL.consG x_39 99 [] (.plain rfl) (eq_t _) rfl rfl (fun g66 => trivial) (fun g66 => op_call0 (whole_Of_spec (gc e67 g66)) goes38 rfl rfl) ?_
  obtain ⟨x_41, e69, h⟩ := bnd h
  refine OpsL.consG x_39 99 [88] (.plain rfl) (eq_t _) rfl rfl (fun g68 => ⟨g68, trivial⟩) (fun g68 => op_call0 (whole_Shift_spec (gc e69 g68)) goes42 rfl rfl) ?_
  refine OpsL.consG x_39 99 [89] (.plain rfl) (eq_t _) rfl rfl (fun g70 => ⟨g70, trivial⟩) (fun g70 => op_fieldv1 tyFld25_0 tyOne4 rfl rfl) ?_
  refine OpsL.cons rfl (op_pick_and (fun e => e) rfl rfl rfl rfl) ?_
  refine OpsL.cons rfl (op_assign rfl) ?_
  refine OpsL.nilK [2, 3, 4, 5, 6, 7, 8] [102, 103] (s' := ⟨[(2, .b (.ptr 102 0)), (3, .b (.ptr 103 0)), (4, B x_6), (5, B ((decide (x_8 = x_9)) && (decide (x_11 = x_12)))), (6, B ((decide (x_14 = x_15)) && (decide (x_17 = x_18)))), (7, B (x_28 && (decide (x_30 = 0)))), (8, B (x_39 && x_41.Bad))], [(102, .box 25 (eBig x_2)), (103, .box 25 (eBig x_3))]⟩) rfl ?_
  refine Tri.seq ?_
  refine Tri.regionL ?_
  obtain ⟨x_42, e71, h⟩ := bnd h
  refine OpsL.cons rfl (op_call0 (whole_Of_spec e71) goes38 rfl rfl) ?_
  obtain ⟨x_43, e72, h⟩ := bnd h
  refine OpsL.cons rfl (op_call0 (whole_Of_spec e72) goes38 rfl rfl) ?_
  refine OpsL.keep [2, 3, 4, 5, 6, 7, 8, 92, 93] [102, 103] (s' := ⟨[(2, .b (.ptr 102 0)), (3, .b (.ptr 103 0)), (4, B x_6), (5, B ((decide (x_8 = x_9)) && (decide (x_11 = x_12)))), (6, B ((decide (x_14 = x_15)) && (decide (x_17 = x_18)))), (7, B (x_28 && (decide (x_30 = 0)))), (8, B (x_39 && x_41.Bad)), (92, .b (.agg (eBig x_42))), (93, .b (.agg (eBig x_43)))], [(102, .box 25 (eBig x_2)), (103, .box 25 (eBig x_3))]⟩) rfl ?_
  obtain ⟨x_44, e73, h⟩ := bnd h
  refine OpsL.cons rfl (op_call0 (whole_Quo_spec e73) goes29 rfl rfl) ?_
  refine OpsL.cons rfl (op_fieldv1 tyFld25_0 tyOne4 rfl rfl) ?_
  refine OpsL.cons rfl (op_move rfl) ?_
  obtain ⟨x_45, e75, h⟩ := bnd h
  refine OpsL.consG x_44.Bad 99 [] (.plain rfl) (eq_t _) rfl rfl (fun g74 => trivial) (fun g74 => op_call0 (whole_Of_spec (gc e75 g74)) goes38 rfl rfl) ?_
  refine OpsL.keep [2, 3, 4, 5, 6, 7, 8, 96, 97] [102, 103] (s' := ⟨[(2, .b (.ptr 102 0)), (3, .b (.ptr 103 0)), (4, B x_6), (5, B ((decide (x_8 = x_9)) && (decide (x_11 = x_12)))), (6, B ((decide (x_14 = x_15)) && (decide (x_17 = x_18)))), (7, B (x_28 && (decide (x_30 = 0)))), (8, B (x_39 && x_41.Bad)), (96, B x_44.Bad), (97, .opt x_44.Bad (.agg (eBig x_45)))], [(102, .box 25 (eBig x_2)), (103, .box 25 (eBig x_3))]⟩) rfl ?_
  obtain ⟨x_46, e77, h⟩ := bnd h
  refine OpsL.consG x_44.Bad 99 [97] (.plain rfl) (eq_t _) rfl rfl (fun g76 => ⟨g76, trivial⟩) (fun g76 => op_call0 (whole_Sqrt_spec (gc e77 g76)) goes41 rfl rfl) ?_
  refine OpsL.consG x_44.Bad 99 [98] (.plain rfl) (eq_t _) rfl rfl (fun g78 => ⟨g78, trivial⟩) (fun g78 => op_fieldv1 tyFld25_0 tyOne4 rfl rfl) ?_
  refine OpsL.cons rfl (op_pick_and (fun e => e) rfl rfl rfl rfl) ?_
  refine OpsL.cons rfl (op_move rfl) ?_
  obtain ⟨x_47, e80, h⟩ := bnd h
  refine OpsL.consG (x_44.Bad && x_46.Bad) 99 [] (.plain rfl) (eq_t _) rfl rfl (fun g79 => trivial) (fun g79 => op_call0 (whole_Bad_spec (gc e80 g79)) goes44 rfl rfl) ?_
  refine OpsL.keep [2, 3, 4, 5, 6, 7, 8, 101, 102] [102, 103] (s' := ⟨[(2, .b (.ptr 102 0)), (3, .b (.ptr 103 0)), (4, B x_6), (5, B ((decide (x_8 = x_9)) && (decide (x_11 = x_12)))), (6, B ((decide (x_14 = x_15)) && (decide (x_17 = x_18)))), (7, B (x_28 && (decide (x_30 = 0)))), (8, B (x_39 && x_41.Bad)), (101, B (x_44.Bad && x_46.Bad)), (102, .opt (x_44.Bad && x_46.Bad) (.agg (eBig x_47)))], [(102, .box 25 (eBig x_2)), (103, .box 25 (eBig x_3))]⟩) rfl ?_
  obtain ⟨x_48, e82, h⟩ := bnd h
  refine OpsL.consG (x_44.Bad && x_46.Bad) 99 [] (.plain rfl) (eq_t _) rfl rfl (fun g81 => trivial) (fun g81 => op_call0 (whole_Of_spec (gc e82 g81)) goes38 rfl rfl) ?_
  obtain ⟨x_49, e84, h⟩ := bnd h
  refine OpsL.consG (x_44.Bad && x_46.Bad) 99 [102, 103] (.plain rfl) (eq_t _) rfl rfl (fun g83 => ⟨g83, g83, trivial⟩) (fun g83 => op_call0 (whole_Add_spec (gc e84 g83)) goes10 rfl rfl) ?_
  refine OpsL.consG (x_44.Bad && x_46.Bad) 99 [104] (.plain rfl) (eq_t _) rfl rfl (fun g85 => ⟨g85, trivial⟩) (fun g85 => op_fieldv1 tyFld25_0 tyOne4 rfl rfl) ?_
  refine OpsL.cons rfl (op_pick_and (fun e => e) rfl rfl rfl rfl) ?_
  refine OpsL.cons rfl (op_assign rfl) ?_
  refine OpsL.nilK [2, 3, 4, 5, 6, 7, 8, 9] [102, 103] (s' := ⟨[(2, .b (.ptr 102 0)), (3, .b (.ptr 103 0)), (4, B x_6), (5, B ((decide (x_8 = x_9)) && (decide (x_11 = x_12)))), (6, B ((decide (x_14 = x_15)) && (decide (x_17 = x_18)))), (7, B (x_28 && (decide (x_30 = 0)))), (8, B (x_39 && x_41.Bad)), (9, B ((x_44.Bad && x_46.Bad) && x_49.Bad))], [(102, .box 25 (eBig x_2)), (103, .box 25 (eBig x_3))]⟩) rfl ?_
  refine Tri.seq ?_
  refine Tri.regionL ?_
  obtain ⟨⟨x_50, x_51⟩, e86, h⟩ := bnd h
  refine OpsL.cons rfl (op_call0 (whole_Parse_spec e86) goes36 rfl rfl) ?_
  refine OpsL.cons rfl (op_move rfl) ?_
  refine OpsL.cons rfl (op_extract rfl rfl) ?_
  refine OpsL.cons rfl (op_extract rfl rfl) ?_
  refine OpsL.keep [2, 3, 4, 5, 6, 7, 8, 9, 109, 110] [102, 103] (s' := ⟨[(2, .b (.ptr 102 0)), (3, .b (.ptr 103 0)), (4, B x_6), (5, B ((decide (x_8 = x_9)) && (decide (x_11 = x_12)))), (6, B ((decide (x_14 = x_15)) && (decide (x_17 = x_18)))), (7, B (x_28 && (decide (x_30 = 0)))), (8, B (x_39 && x_41.Bad)), (9, B ((x_44.Bad && x_46.Bad) && x_49.Bad)), (109, .b (.agg (eBig x_50))), (110, I x_51)], [(102, .box 25 (eBig x_2)), (103, .box 25 (eBig x_3))]⟩) rfl ?_
  refine OpsL.cons rfl (op_alloc (k := 104) tyZero25 rfl) ?_
  refine OpsL.cons rfl (op_store_p tyAgg25 rfl rfl rfl rfl (Nat.le_of_ble_eq_true rfl) rfl) ?_
  refine OpsL.cons rfl (op_assign rfl) ?_
  refine OpsL.nilK [2, 3, 4, 5, 6, 7, 8, 9, 11] [102, 103] (s' := ⟨[(2, .b (.ptr 102 0)), (3, .b (.ptr 103 0)), (4, B x_6), (5, B ((decide (x_8 = x_9)) && (decide (x_11 = x_12)))), (6, B ((decide (x_14 = x_15)) && (decide (x_17 = x_18)))), (7, B (x_28 && (decide (x_30 = 0)))), (8, B (x_39 && x_41.Bad)), (9, B ((x_44.Bad && x_46.Bad) && x_49.Bad)), (11, I x_51)], [(102, .box 25 (eBig x_2)), (103, .box 25 (eBig x_3))]⟩) rfl ?_
  refine Tri.seq ?_
  refine Tri.regionL ?_
  obtain ⟨⟨x_52, x_53⟩, e87, h⟩ := bnd h
  refine OpsL.cons rfl (op_call0 (whole_Parse_spec e87) goes36 rfl rfl) ?_
  refine OpsL.cons rfl (op_move rfl) ?_
  refine OpsL.cons rfl (op_extract rfl rfl) ?_
  refine OpsL.cons rfl (op_extract rfl rfl) ?_
  refine OpsL.keep [2, 3, 4, 5, 6, 7, 8, 9, 11, 113, 114] [102, 103] (s' := ⟨[(2, .b (.ptr 102 0)), (3, .b (.ptr 103 0)), (4, B x_6), (5, B ((decide (x_8 = x_9)) && (decide (x_11 = x_12)))), (6, B ((decide (x_14 = x_15)) && (decide (x_17 = x_18)))), (7, B (x_28 && (decide (x_30 = 0)))), (8, B (x_39 && x_41.Bad)), (9, B ((x_44.Bad && x_46.Bad) && x_49.Bad)), (11, I x_51), (113, .b (.agg (eBig x_52))), (114, I x_53)], [(102, .box 25 (eBig x_2)), (103, .box 25 (eBig x_3))]⟩) rfl ?_
  refine OpsL.cons rfl (op_alloc (k := 105) tyZero25 rfl) ?_
  refine OpsL.cons rfl (op_store_p tyAgg25 rfl rfl rfl rfl (Nat.le_of_ble_eq_true rfl) rfl) ?_
  refine OpsL.cons rfl (op_assign rfl) ?_
  refine OpsL.nilK [2, 3, 4, 5, 6, 7, 8, 9, 11, 13] [102, 103] (s' := ⟨[(2, .b (.ptr 102 0)), (3, .b (.ptr 103 0)), (4, B x_6), (5, B ((decide (x_8 = x_9)) && (decide (x_11 = x_12)))), (6, B ((decide (x_14 = x_15)) && (decide (x_17 = x_18)))), (7, B (x_28 && (decide (x_30 = 0)))), (8, B (x_39 && x_41.Bad)), (9, B ((x_44.Bad && x_46.Bad) && x_49.Bad)), (11, I x_51), (13, I x_53)], [(102, .box 25 (eBig x_2)), (103, .box 25 (eBig x_3))]⟩) rfl ?_
  refine Tri.seq ?_
  refine Tri.regionL ?_
  obtain ⟨⟨x_54, x_55⟩, e88, h⟩ := bnd h
  refine OpsL.cons rfl (op_call0 (whole_Parse_spec e88) goes36 rfl rfl) ?_
  refine OpsL.cons rfl (op_move rfl) ?_
  refine OpsL.cons rfl (op_extract rfl rfl) ?_
  refine OpsL.cons rfl (op_extract rfl rfl) ?_
  refine OpsL.keep [2, 3, 4, 5, 6, 7, 8, 9, 11, 13, 117, 118] [102, 103] (s' := ⟨[(2, .b (.ptr 102 0)), (3, .b (.ptr 103 0)), (4, B x_6), (5, B ((decide (x_8 = x_9)) && (decide (x_11 = x_12)))), (6, B ((decide (x_14 = x_15)) && (decide (x_17 = x_18)))), (7, B (x_28 && (decide (x_30 = 0)))), (8, B (x_39 && x_41.Bad)), (9, B ((x_44.Bad && x_46.Bad) && x_49.Bad)), (11, I x_51), (13, I x_53), (117, .b (.agg (eBig x_54))), (118, I x_55)], [(102, .box 25 (eBig x_2)), (103, .box 25 (eBig x_3))]⟩) rfl ?_
  refine OpsL.cons rfl (op_alloc (k := 106) tyZero25 rfl) ?_
  refine OpsL.cons rfl (op_store_p tyAgg25 rfl rfl rfl rfl (Nat.le_of_ble_eq_true rfl) rfl) ?_
  refine OpsL.cons rfl (op_assign rfl) ?_
  refine OpsL.nilK [2, 3, 4, 5, 6, 7, 8, 9, 11, 13, 14, 15] [102, 103, 106] (s' := ⟨[(2, .b (.ptr 102 0)), (3, .b (.ptr 103 0)), (4, B x_6), (5, B ((decide (x_8 = x_9)) && (decide (x_11 = x_12)))), (6, B ((decide (x_14 = x_15)) && (decide (x_17 = x_18)))), (7, B (x_28 && (decide (x_30 = 0)))), (8, B (x_39 && x_41.Bad)), (9, B ((x_44.Bad && x_46.Bad) && x_49.Bad)), (11, I x_51), (13, I x_53), (14, .b (.ptr 106 0)), (15, I x_55)], [(102, .box 25 (eBig x_2)), (103, .box 25 (eBig x_3)), (106, .box 25 (eBig x_54))]⟩) rfl ?_
  refine Tri.seq ?_
  refine Tri.keep [2, 3, 4, 5, 6, 7, 8, 9, 11, 13, 14, 15] [102, 103, 106] (s' := ⟨[(2, .b (.ptr 102 0)), (3, .b (.ptr 103 0)), (4, B x_6), (5, B ((decide (x_8 = x_9)) && (decide (x_11 = x_12)))), (6, B ((decide (x_14 = x_15)) && (decide (x_17 = x_18)))), (7, B (x_28 && (decide (x_30 = 0)))), (8, B (x_39 && x_41.Bad)), (9, B ((x_44.Bad && x_46.Bad) && x_49.Bad)), (11, I x_51), (13, I x_53), (14, .b (.ptr 106 0)), (15, I x_55)], [(102, .box 25 (eBig x_2)), (103, .box 25 (eBig x_3)), (106, .box 25 (eBig x_54))]⟩) rfl ?_
  obtain ⟨x_56, e102, h⟩ := bnd h
  obtain ⟨x_57, e107, h⟩ := bnd h
  refine Tri.regionY mixed 40 [B x_6, B x_6, .opt x_6 (.one (.bool ((decide (x_8 = x_9)) && (decide (x_11 = x_12))))), B (x_6 && ((decide (x_8 = x_9)) && (decide (x_11 = x_12)))), B (x_6 && ((decide (x_8 = x_9)) && (decide (x_11 = x_12)))), .opt (x_6 && ((decide (x_8 = x_9)) && (decide (x_11 = x_12)))) (.one (.bool ((decide (x_14 = x_15)) && (decide (x_17 = x_18))))), B ((x_6 && ((decide (x_8 = x_9)) && (decide (x_11 = x_12)))) && ((decide (x_14 = x_15)) && (decide (x_17 = x_18)))), B ((x_6 && ((decide (x_8 = x_9)) && (decide (x_11 = x_12)))) && ((decide (x_14 = x_15)) && (decide (x_17 = x_18)))), .opt ((x_6 && ((decide (x_8 = x_9)) && (decide (x_11 = x_12)))) && ((decide (x_14 = x_15)) && (decide (x_17 = x_18)))) (.one (.bool (x_28 && (decide (x_30 = 0))))), B (((x_6 && ((decide (x_8 = x_9)) && (decide (x_11 = x_12)))) && ((decide (x_14 = x_15)) && (decide (x_17 = x_18)))) && (x_28 && (decide (x_30 = 0)))), B (((x_6 && ((decide (x_8 = x_9)) && (decide (x_11 = x_12)))) && ((decide (x_14 = x_15)) && (decide (x_17 = x_18)))) && (x_28 && (decide (x_30 = 0)))), .opt (((x_6 && ((decide (x_8 = x_9)) && (decide (x_11 = x_12)))) && ((decide (x_14 = x_15)) && (decide (x_17 = x_18)))) && (x_28 && (decide (x_30 = 0)))) (.one (.bool (x_39 && x_41.Bad))), B ((((x_6 && ((decide (x_8 = x_9)) && (decide (x_11 = x_12)))) && ((decide (x_14 = x_15)) && (decide (x_17 = x_18)))) && (x_28 && (decide (x_30 = 0)))) && (x_39 && x_41.Bad)), B ((((x_6 && ((decide (x_8 = x_9)) && (decide (x_11 = x_12)))) && ((decide (x_14 = x_15)) && (decide (x_17 = x_18)))) && (x_28 && (decide (x_30 = 0)))) && (x_39 && x_41.Bad)), .opt ((((x_6 && ((decide (x_8 = x_9)) && (decide (x_11 = x_12)))) && ((decide (x_14 = x_15)) && (decide (x_17 = x_18)))) && (x_28 && (decide (x_30 = 0)))) && (x_39 && x_41.Bad)) (.one (.bool ((x_44.Bad && x_46.Bad) && x_49.Bad))), B (((((x_6 && ((decide (x_8 = x_9)) && (decide (x_11 = x_12)))) && ((decide (x_14 = x_15)) && (decide (x_17 = x_18)))) && (x_28 && (decide (x_30 = 0)))) && (x_39 && x_41.Bad)) && ((x_44.Bad && x_46.Bad) && x_49.Bad)), B (((((x_6 && ((decide (x_8 = x_9)) && (decide (x_11 = x_12)))) && ((decide (x_14 = x_15)) && (decide (x_17 = x_18)))) && (x_28 && (decide (x_30 = 0)))) && (x_39 && x_41.Bad)) && ((x_44.Bad && x_46.Bad) && x_49.Bad)), .opt (((((x_6 && ((decide (x_8 = x_9)) && (decide (x_11 = x_12)))) && ((decide (x_14 = x_15)) && (decide (x_17 = x_18)))) && (x_28 && (decide (x_30 = 0)))) && (x_39 && x_41.Bad)) && ((x_44.Bad && x_46.Bad) && x_49.Bad)) (.one (.i x_51)), .opt (((((x_6 && ((decide (x_8 = x_9)) && (decide (x_11 = x_12)))) && ((decide (x_14 = x_15)) && (decide (x_17 = x_18)))) && (x_28 && (decide (x_30 = 0)))) && (x_39 && x_41.Bad)) && ((x_44.Bad && x_46.Bad) && x_49.Bad)) (.one (.bool (decide (x_51 = 281)))), B ((((((x_6 && ((decide (x_8 = x_9)) && (decide (x_11 = x_12)))) && ((decide (x_14 = x_15)) && (decide (x_17 = x_18)))) && (x_28 && (decide (x_30 = 0)))) && (x_39 && x_41.Bad)) && ((x_44.Bad && x_46.Bad) && x_49.Bad)) && (decide (x_51 = 281))), B ((((((x_6 && ((decide (x_8 = x_9)) && (decide (x_11 = x_12)))) && ((decide (x_14 = x_15)) && (decide (x_17 = x_18)))) && (x_28 && (decide (x_30 = 0)))) && (x_39 && x_41.Bad)) && ((x_44.Bad && x_46.Bad) && x_49.Bad)) && (decide (x_51 = 281))), .opt ((((((x_6 && ((decide (x_8 = x_9)) && (decide (x_11 = x_12)))) && ((decide (x_14 = x_15)) && (decide (x_17 = x_18)))) && (x_28 && (decide (x_30 = 0)))) && (x_39 && x_41.Bad)) && ((x_44.Bad && x_46.Bad) && x_49.Bad)) && (decide (x_51 = 281))) (.one (.i x_53)), .opt ((((((x_6 && ((decide (x_8 = x_9)) && (decide (x_11 = x_12)))) && ((decide (x_14 = x_15)) && (decide (x_17 = x_18)))) && (x_28 && (decide (x_30 = 0)))) && (x_39 && x_41.Bad)) && ((x_44.Bad && x_46.Bad) && x_49.Bad)) && (decide (x_51 = 281))) (.one (.bool (decide (x_53 = 281)))), B (((((((x_6 && ((decide (x_8 = x_9)) && (decide (x_11 = x_12)))) && ((decide (x_14 = x_15)) && (decide (x_17 = x_18)))) && (x_28 && (decide (x_30 = 0)))) && (x_39 && x_41.Bad)) && ((x_44.Bad && x_46.Bad) && x_49.Bad)) && (decide (x_51 = 281))) && (decide (x_53 = 281))), B (((((((x_6 && ((decide (x_8 = x_9)) && (decide (x_11 = x_12)))) && ((decide (x_14 = x_15)) && (decide (x_17 = x_18)))) && (x_28 && (decide (x_30 = 0)))) && (x_39 && x_41.Bad)) && ((x_44.Bad && x_46.Bad) && x_49.Bad)) && (decide (x_51 = 281))) && (decide (x_53 = 281))), .opt (((((((x_6 && ((decide (x_8 = x_9)) && (decide (x_11 = x_12)))) && ((decide (x_14 = x_15)) && (decide (x_17 = x_18)))) && (x_28 && (decide (x_30 = 0)))) && (x_39 && x_41.Bad)) && ((x_44.Bad && x_46.Bad) && x_49.Bad)) && (decide (x_51 = 281))) && (decide (x_53 = 281))) (.one (.i x_55)), .opt (((((((x_6 && ((decide (x_8 = x_9)) && (decide (x_11 = x_12)))) && ((decide (x_14 = x_15)) && (decide (x_17 = x_18)))) && (x_28 && (decide (x_30 = 0)))) && (x_39 && x_41.Bad)) && ((x_44.Bad && x_46.Bad) && x_49.Bad)) && (decide (x_51 = 281))) && (decide (x_53 = 281))) (.one (.bool (decide (x_55 = 0)))), B ((((((((x_6 && ((decide (x_8 = x_9)) && (decide (x_11 = x_12)))) && ((decide (x_14 = x_15)) && (decide (x_17 = x_18)))) && (x_28 && (decide (x_30 = 0)))) && (x_39 && x_41.Bad)) && ((x_44.Bad && x_46.Bad) && x_49.Bad)) && (decide (x_51 = 281))) && (decide (x_53 = 281))) && (decide (x_55 = 0))), B ((((((((x_6 && ((decide (x_8 = x_9)) && (decide (x_11 = x_12)))) && ((decide (x_14 = x_15)) && (decide (x_17 = x_18)))) && (x_28 && (decide (x_30 = 0)))) && (x_39 && x_41.Bad)) && ((x_44.Bad && x_46.Bad) && x_49.Bad)) && (decide (x_51 = 281))) && (decide (x_53 = 281))) && (decide (x_55 = 0))), .opt ((((((((x_6 && ((decide (x_8 = x_9)) && (decide (x_11 = x_12)))) && ((decide (x_14 = x_15)) && (decide (x_17 = x_18)))) && (x_28 && (decide (x_30 = 0)))) && (x_39 && x_41.Bad)) && ((x_44.Bad && x_46.Bad) && x_49.Bad)) && (decide (x_51 = 281))) && (decide (x_53 = 281))) && (decide (x_55 = 0))) (.agg (eBig x_54)), .opt ((((((((x_6 && ((decide (x_8 = x_9)) && (decide (x_11 = x_12)))) && ((decide (x_14 = x_15)) && (decide (x_17 = x_18)))) && (x_28 && (decide (x_30 = 0)))) && (x_39 && x_41.Bad)) && ((x_44.Bad && x_46.Bad) && x_49.Bad)) && (decide (x_51 = 281))) && (decide (x_53 = 281))) && (decide (x_55 = 0))) (.agg (eBig x_56)), .opt ((((((((x_6 && ((decide (x_8 = x_9)) && (decide (x_11 = x_12)))) && ((decide (x_14 = x_15)) && (decide (x_17 = x_18)))) && (x_28 && (decide (x_30 = 0)))) && (x_39 && x_41.Bad)) && ((x_44.Bad && x_46.Bad) && x_49.Bad)) && (decide (x_51 = 281))) && (decide (x_53 = 281))) && (decide (x_55 = 0))) (.one (.bool (decide (x_54 = x_56)))), B (((((((((x_6 && ((decide (x_8 = x_9)) && (decide (x_11 = x_12)))) && ((decide (x_14 = x_15)) && (decide (x_17 = x_18)))) && (x_28 && (decide (x_30 = 0)))) && (x_39 && x_41.Bad)) && ((x_44.Bad && x_46.Bad) && x_49.Bad)) && (decide (x_51 = 281))) && (decide (x_53 = 281))) && (decide (x_55 = 0))) && (decide (x_54 = x_56))), B (((((((((x_6 && ((decide (x_8 = x_9)) && (decide (x_11 = x_12)))) && ((decide (x_14 = x_15)) && (decide (x_17 = x_18)))) && (x_28 && (decide (x_30 = 0)))) && (x_39 && x_41.Bad)) && ((x_44.Bad && x_46.Bad) && x_49.Bad)) && (decide (x_51 = 281))) && (decide (x_53 = 281))) && (decide (x_55 = 0))) && (decide (x_54 = x_56))), .opt (((((((((x_6 && ((decide (x_8 = x_9)) && (decide (x_11 = x_12)))) && ((decide (x_14 = x_15)) && (decide (x_17 = x_18)))) && (x_28 && (decide (x_30 = 0)))) && (x_39 && x_41.Bad)) && ((x_44.Bad && x_46.Bad) && x_49.Bad)) && (decide (x_51 = 281))) && (decide (x_53 = 281))) && (decide (x_55 = 0))) && (decide (x_54 = x_56))) (.agg (eBig x_2)), .opt (((((((((x_6 && ((decide (x_8 = x_9)) && (decide (x_11 = x_12)))) && ((decide (x_14 = x_15)) && (decide (x_17 = x_18)))) && (x_28 && (decide (x_30 = 0)))) && (x_39 && x_41.Bad)) && ((x_44.Bad && x_46.Bad) && x_49.Bad)) && (decide (x_51 = 281))) && (decide (x_53 = 281))) && (decide (x_55 = 0))) && (decide (x_54 = x_56))) (.agg (eBig x_3)), .opt (((((((((x_6 && ((decide (x_8 = x_9)) && (decide (x_11 = x_12)))) && ((decide (x_14 = x_15)) && (decide (x_17 = x_18)))) && (x_28 && (decide (x_30 = 0)))) && (x_39 && x_41.Bad)) && ((x_44.Bad && x_46.Bad) && x_49.Bad)) && (decide (x_51 = 281))) && (decide (x_53 = 281))) && (decide (x_55 = 0))) && (decide (x_54 = x_56))) (.one (.i x_57)), .opt (((((((((x_6 && ((decide (x_8 = x_9)) && (decide (x_11 = x_12)))) && ((decide (x_14 = x_15)) && (decide (x_17 = x_18)))) && (x_28 && (decide (x_30 = 0)))) && (x_39 && x_41.Bad)) && ((x_44.Bad && x_46.Bad) && x_49.Bad)) && (decide (x_51 = 281))) && (decide (x_53 = 281))) && (decide (x_55 = 0))) && (decide (x_54 = x_56))) (.one (.bool (decide (x_57 = 1)))), B ((((((((((x_6 && ((decide (x_8 = x_9)) && (decide (x_11 = x_12)))) && ((decide (x_14 = x_15)) && (decide (x_17 = x_18)))) && (x_28 && (decide (x_30 = 0)))) && (x_39 && x_41.Bad)) && ((x_44.Bad && x_46.Bad) && x_49.Bad)) && (decide (x_51 = 281))) && (decide (x_53 = 281))) && (decide (x_55 = 0))) && (decide (x_54 = x_56))) && (decide (x_57 = 1))), B ((((((((((x_6 && ((decide (x_8 = x_9)) && (decide (x_11 = x_12)))) && ((decide (x_14 = x_15)) && (decide (x_17 = x_18)))) && (x_28 && (decide (x_30 = 0)))) && (x_39 && x_41.Bad)) && ((x_44.Bad && x_46.Bad) && x_49.Bad)) && (decide (x_51 = 281))) && (decide (x_53 = 281))) && (decide (x_55 = 0))) && (decide (x_54 = x_56))) && (decide (x_57 = 1)))] [0] [] (s' := ⟨[(0, B ((((((((((x_6 && ((decide (x_8 = x_9)) && (decide (x_11 = x_12)))) && ((decide (x_14 = x_15)) && (decide (x_17 = x_18)))) && (x_28 && (decide (x_30 = 0)))) && (x_39 && x_41.Bad)) && ((x_44.Bad && x_46.Bad) && x_49.Bad)) && (decide (x_51 = 281))) && (decide (x_53 = 281))) && (decide (x_55 = 0))) && (decide (x_54 = x_56))) && (decide (x_57 = 1))))], []⟩) rfl ⟨fun _ => .plain rfl (op_move rfl), fun _ => .plain rfl (op_move rfl), fun _ => by exact .guard x_6 1 [] (.plain rfl) (eq_t _) rfl rfl (fun g89 => trivial) (fun g89 => op_move rfl), fun _ => .plain rfl (op_pick_and (fun e => e) rfl rfl rfl rfl), fun _ => .plain rfl (op_move rfl), fun _ => by exact .guard (x_6 && ((decide (x_8 = x_9)) && (decide (x_11 = x_12)))) 1 [] (.plain rfl) (eq_t _) rfl rfl (fun g90 => trivial) (fun g90 => op_move rfl), fun _ => .plain rfl (op_pick_and (fun e => e) rfl rfl rfl rfl), fun _ => .plain rfl (op_move rfl), fun _ => by exact .guard ((x_6 && ((decide (x_8 = x_9)) && (decide (x_11 = x_12)))) && ((decide (x_14 = x_15)) && (decide (x_17 = x_18)))) 1 [] (.plain rfl) (eq_t _) rfl rfl (fun g91 => trivial) (fun g91 => op_move rfl), fun _ => .plain rfl (op_pick_and (fun e => e) rfl rfl rfl rfl), fun _ => .plain rfl (op_move rfl), fun _ => by exact .guard (((x_6 && ((decide (x_8 = x_9)) && (decide (x_11 = x_12)))) && ((decide (x_14 = x_15)) && (decide (x_17 = x_18)))) && (x_28 && (decide (x_30 = 0)))) 1 [] (.plain rfl) (eq_t _) rfl rfl (fun g92 => trivial) (fun g92 => op_move rfl), fun _ => .plain rfl (op_pick_and (fun e => e) rfl rfl rfl rfl), fun _ => .plain rfl (op_move rfl), fun _ => by exact .guard ((((x_6 && ((decide (x_8 = x_9)) && (decide (x_11 = x_12)))) && ((decide (x_14 = x_15)) && (decide (x_17 = x_18)))) && (x_28 && (decide (x_30 = 0)))) && (x_39 && x_41.Bad)) 1 [] (.plain rfl) (eq_t _) rfl rfl (fun g93 => trivial) (fun g93 => op_move rfl), fun _ => .plain rfl (op_pick_and (fun e => e) rfl rfl rfl rfl), fun _ => .plain rfl (op_move rfl), fun _ => by exact .guard (((((x_6 && ((decide (x_8 = x_9)) && (decide (x_11 = x_12)))) && ((decide (x_14 = x_15)) && (decide (x_17 = x_18)))) && (x_28 && (decide (x_30 = 0)))) && (x_39 && x_41.Bad)) && ((x_44.Bad && x_46.Bad) && x_49.Bad)) 1 [] (.plain rfl) (eq_t _) rfl rfl (fun g94 => trivial) (fun g94 => op_move rfl), fun _ => by exact .guard (((((x_6 && ((decide (x_8 = x_9)) && (decide (x_11 = x_12)))) && ((decide (x_14 = x_15)) && (decide (x_17 = x_18)))) && (x_28 && (decide (x_30 = 0)))) && (x_39 && x_41.Bad)) && ((x_44.Bad && x_46.Bad) && x_49.Bad)) 2 [136] (.plain rfl) (eq_t _) rfl rfl (fun g95 => ⟨g95, trivial⟩) (fun g95 => op_eql rfl rfl), fun _ => .plain rfl (op_pick_and (fun e => e) rfl rfl rfl rfl), fun _ => .plain rfl (op_move rfl), fun _ => by exact .guard ((((((x_6 && ((decide (x_8 = x_9)) && (decide (x_11 = x_12)))) && ((decide (x_14 = x_15)) && (decide (x_17 = x_18)))) && (x_28 && (decide (x_30 = 0)))) && (x_39 && x_41.Bad)) && ((x_44.Bad && x_46.Bad) && x_49.Bad)) && (decide (x_51 = 281))) 1 [] (.plain rfl) (eq_t _) rfl rfl (fun g96 => trivial) (fun g96 => op_move rfl), fun _ => by exact .guard ((((((x_6 && ((decide (x_8 = x_9)) && (decide (x_11 = x_12)))) && ((decide (x_14 = x_15)) && (decide (x_17 = x_18)))) && (x_28 && (decide (x_30 = 0)))) && (x_39 && x_41.Bad)) && ((x_44.Bad && x_46.Bad) && x_49.Bad)) && (decide (x_51 = 281))) 2 [140] (.plain rfl) (eq_t _) rfl rfl (fun g97 => ⟨g97, trivial⟩) (fun g97 => op_eql rfl rfl), fun _ => .plain rfl (op_pick_and (fun e => e) rfl rfl rfl rfl), fun _ => .plain rfl (op_move rfl), fun _ => by exact .guard (((((((x_6 && ((decide (x_8 = x_9)) && (decide (x_11 = x_12)))) && ((decide (x_14 = x_15)) && (decide (x_17 = x_18)))) && (x_28 && (decide (x_30 = 0)))) && (x_39 && x_41.Bad)) && ((x_44.Bad && x_46.Bad) && x_49.Bad)) && (decide (x_51 = 281))) && (decide (x_53 = 281))) 1 [] (.plain rfl) (eq_t _) rfl rfl (fun g98 => trivial) (fun g98 => op_move rfl), fun _ => by exact .guard (((((((x_6 && ((decide (x_8 = x_9)) && (decide (x_11 = x_12)))) && ((decide (x_14 = x_15)) && (decide (x_17 = x_18)))) && (x_28 && (decide (x_30 = 0)))) && (x_39 && x_41.Bad)) && ((x_44.Bad && x_46.Bad) && x_49.Bad)) && (decide (x_51 = 281))) && (decide (x_53 = 281))) 2 [144] (.plain rfl) (eq_t _) rfl rfl (fun g99 => ⟨g99, trivial⟩) (fun g99 => op_eql rfl rfl), fun _ => .plain rfl (op_pick_and (fun e => e) rfl rfl rfl rfl), fun _ => .plain rfl (op_move rfl), fun _ => by exact .guard ((((((((x_6 && ((decide (x_8 = x_9)) && (decide (x_11 = x_12)))) && ((decide (x_14 = x_15)) && (decide (x_17 = x_18)))) && (x_28 && (decide (x_30 = 0)))) && (x_39 && x_41.Bad)) && ((x_44.Bad && x_46.Bad) && x_49.Bad)) && (decide (x_51 = 281))) && (decide (x_53 = 281))) && (decide (x_55 = 0))) 1 [] (.plain rfl) (eq_t _) rfl rfl (fun g100 => trivial) (fun g100 => op_load_p tyAgg25 rfl rfl rfl rfl), fun _ => by exact .guard ((((((((x_6 && ((decide (x_8 = x_9)) && (decide (x_11 = x_12)))) && ((decide (x_14 = x_15)) && (decide (x_17 = x_18)))) && (x_28 && (decide (x_30 = 0)))) && (x_39 && x_41.Bad)) && ((x_44.Bad && x_46.Bad) && x_49.Bad)) && (decide (x_51 = 281))) && (decide (x_53 = 281))) && (decide (x_55 = 0))) 2 [] (.plain rfl) (eq_t _) rfl rfl (fun g101 => trivial) (fun g101 => op_call0 (whole_Of_spec (gc e102 g101)) goes38 rfl rfl), fun _ => by exact .guard ((((((((x_6 && ((decide (x_8 = x_9)) && (decide (x_11 = x_12)))) && ((decide (x_14 = x_15)) && (decide (x_17 = x_18)))) && (x_28 && (decide (x_30 = 0)))) && (x_39 && x_41.Bad)) && ((x_44.Bad && x_46.Bad) && x_49.Bad)) && (decide (x_51 = 281))) && (decide (x_53 = 281))) && (decide (x_55 = 0))) 3 [148, 149] (.plain rfl) (eq_t _) rfl rfl (fun g103 => ⟨g103, g103, trivial⟩) (fun g103 => op_eql_agg (eqAgg25 x_54 x_56) rfl rfl), fun _ => .plain rfl (op_pick_and (fun e => e) rfl rfl rfl rfl), fun _ => .plain rfl (op_move rfl), fun _ => by exact .guard (((((((((x_6 && ((decide (x_8 = x_9)) && (decide (x_11 = x_12)))) && ((decide (x_14 = x_15)) && (decide (x_17 = x_18)))) && (x_28 && (decide (x_30 = 0)))) && (x_39 && x_41.Bad)) && ((x_44.Bad && x_46.Bad) && x_49.Bad)) && (decide (x_51 = 281))) && (decide (x_53 = 281))) && (decide (x_55 = 0))) && (decide (x_54 = x_56))) 1 [] (.plain rfl) (eq_t _) rfl rfl (fun g104 => trivial) (fun g104 => op_load_p tyAgg25 rfl rfl rfl rfl), fun _ => by exact .guard (((((((((x_6 && ((decide (x_8 = x_9)) && (decide (x_11 = x_12)))) && ((decide (x_14 = x_15)) && (decide (x_17 = x_18)))) && (x_28 && (decide (x_30 = 0)))) && (x_39 && x_41.Bad)) && ((x_44.Bad && x_46.Bad) && x_49.Bad)) && (decide (x_51 = 281))) && (decide (x_53 = 281))) && (decide (x_55 = 0))) && (decide (x_54 = x_56))) 1 [] (.plain rfl) (eq_t _) rfl rfl (fun g105 => trivial) (fun g105 => op_load_p tyAgg25 rfl rfl rfl rfl), fun _ => by exact .guard (((((((((x_6 && ((decide (x_8 = x_9)) && (decide (x_11 = x_12)))) && ((decide (x_14 = x_15)) && (decide (x_17 = x_18)))) && (x_28 && (decide (x_30 = 0)))) && (x_39 && x_41.Bad)) && ((x_44.Bad && x_46.Bad) && x_49.Bad)) && (decide (x_51 = 281))) && (decide (x_53 = 281))) && (decide (x_55 = 0))) && (decide (x_54 = x_56))) 4 [153, 154] (.plain rfl) (eq_t _) rfl rfl (fun g106 => ⟨g106, g106, trivial⟩) (fun g106 => op_call0 (whole_Cmp_spec (gc e107 g106)) goes25 rfl rfl), fun _ => by exact .guard (((((((((x_6 && ((decide (x_8 = x_9)) && (decide (x_11 = x_12)))) && ((decide (x_14 = x_15)) && (decide (x_17 = x_18)))) && (x_28 && (decide (x_30 = 0)))) && (x_39 && x_41.Bad)) && ((x_44.Bad && x_46.Bad) && x_49.Bad)) && (decide (x_51 = 281))) && (decide (x_53 = 281))) && (decide (x_55 = 0))) && (decide (x_54 = x_56))) 2 [155] (.plain rfl) (eq_t _) rfl rfl (fun g108 => ⟨g108, trivial⟩) (fun g108 => op_eql rfl rfl), fun _ => .plain rfl (op_pick_and (fun e => e) rfl rfl rfl rfl), fun _ => .plain rfl (op_assign rfl), trivial⟩ rfl rfl ?_
  refine Tri.ret ?_
  obtain rfl := Option.some.inj h
  refine Fin.keep [0] [] (s' := ⟨[(0, B ((((((((((x_6 && ((decide (x_8 = x_9)) && (decide (x_11 = x_12)))) && ((decide (x_14 = x_15)) && (decide (x_17 = x_18)))) && (x_28 && (decide (x_30 = 0)))) && (x_39 && x_41.Bad)) && ((x_44.Bad && x_46.Bad) && x_49.Bad)) && (decide (x_51 = 281))) && (decide (x_53 = 281))) && (decide (x_55 = 0))) && (decide (x_54 = x_56))) && (decide (x_57 = 1))))], []⟩) rfl ?_
  refine Fin.result' [.one (.bool ((((((((((x_6 && ((decide (x_8 = x_9)) && (decide (x_11 = x_12)))) && ((decide (x_14 = x_15)) && (decide (x_17 = x_18)))) && (x_28 && (decide (x_30 = 0)))) && (x_39 && x_41.Bad)) && ((x_44.Bad && x_46.Bad) && x_49.Bad)) && (decide (x_51 = 281))) && (decide (x_53 = 281))) && (decide (x_55 = 0))) && (decide (x_54 = x_56))) && (decide (x_57 = 1))))] (.inl rfl) rfl (.cons (.tmp rfl) .nil) ⟨rfl, rfl⟩

def skewbackref03_Text_S (F : Nat) (x0 : Big) : Option Str :=
 Option.bind (skewbackref03_Good_S F x0) (fun x_1 => if (!x_1) = true then (some []) else (Option.bind (skewbackref03_digits_S F x0) (fun x_2 => if (decide ((x_2.length : Int) = 0)) = true then (some [48]) else (Option.bind (iter F (un2 fun d_4 out_5 => if (decide (0 < (d_4.length : Int))) = true then (Option.bind (mk? (0 : Int) (d_4.length : Int) (d_4.length : Int)) (fun x_7 => Option.bind (letN (IntKind.i64.wrap ((d_4.length : Int) - 1)) fun x_10 => iter F (un3 fun rest_11 q_12 k_13 => if (decide (0 ≤ k_13)) = true then (Option.bind (idx? d_4 k_13) (fun x_16 => letN (IntKind.i64.wrap ((IntKind.i64.wrap (65536 * rest_11)) + x_16)) fun x_17 => Option.bind (quo? .i64 x_17 10) (fun x_18 => Option.bind (idx? q_12 k_13) (fun x_19 => some (.inl (Int.tmod x_17 10, q_12.set (k_13 : Int).toNat x_18, IntKind.i64.wrap (k_13 - 1))))))) else (some (.inr (rest_11, q_12)))) (0, x_7, x_10)) (un2 fun rest_8 q_9 => Option.bind (skewbackref03_trim_S F q_9) (fun x_20 => letN (IntKind.u8.wrap (IntKind.i64.wrap (48 + rest_8))) fun x_21 => Option.bind (app? (toStr [x_21]) out_5) (fun x_22 => some (.inl (x_20, x_22))))))) else (some (.inr out_5))) (x_2, [])) (fun out_3 => if x0.Neg = true then (Option.bind (app? [45] out_3) (fun x_23 => some x_23)) else (some out_3))))))
theorem skewbackref03_Text_spec {F : Nat} {x0 : Big} {r : Str} (h : skewbackref03_Text_S F x0 = some r) : Meets Tryd.prog tabs 34 [] [.agg (eBig x0)] (Is [] (.b (.one (.str r)))) := by
  unfold skewbackref03_Text_S at h
  refine Meets.intro 58 Tryd.func34 Tryd.ntmps34 rfl (by simp) fun E => ?_
  show Tri _ E ⟨58, [], []⟩ _ ⟨[(0, .b (.agg (eBig x0)))], []⟩ _
  refine Tri.seq ?_
  refine Tri.regionL ?_
  refine OpsL.cons rfl (op_box (k := 101) rfl rfl) ?_
  refine OpsL.cons rfl (op_assign rfl) ?_
  refine OpsL.nilK [1] [101] (s' := ⟨[(1, .b (.ptr 101 0))], [(101, .box 25 (eBig x0))]⟩) rfl ?_
  refine Tri.seq ?_
  refine Tri.seq ?_
  refine Tri.regionL ?_
  refine OpsL.cons rfl (op_load_p tyAgg25 rfl rfl rfl rfl) ?_
  obtain ⟨x_1, e1, h⟩ := bnd h
  refine OpsL.cons rfl (op_call0 (skewbackref03_Good_spec e1) goes35 rfl rfl) ?_
  refine OpsL.cons rfl (op_not rfl) ?_
  refine OpsL.nilK [1, 11] [101] (s' := ⟨[(1, .b (.ptr 101 0)), (11, B (!x_1))], [(101, .box 25 (eBig x0))]⟩) rfl ?_
  refine Tri.ite h rfl (fun _ h => ?_) (fun _ h => ?_)
  · refine Tri.seq ?_
    refine Tri.regionL ?_
    refine OpsL.cons rfl (op_assign rfl) ?_
    refine OpsL.nilK [2] [] (s' := ⟨[(2, .b (.one (.str [])))], []⟩) rfl ?_
    refine Tri.ret ?_
    refine Fin.then_ret ?_
    obtain rfl := Option.some.inj h
    refine Fin.keep [2] [] (s' := ⟨[(2, .b (.one (.str [])))], []⟩) rfl ?_
    refine Fin.result' [.one (.str [])] (.inl rfl) rfl (.cons (.tmp rfl) .nil) ⟨rfl, rfl⟩
  · refine Tri.skip ?_
    refine Fin.keep [1] [101] (s' := ⟨[(1, .b (.ptr 101 0))], [(101, .box 25 (eBig x0))]⟩) rfl ?_
    refine Fin.then ?_
    refine Tri.seq ?_
    refine Tri.regionL ?_
    refine OpsL.cons rfl (op_load_p tyAgg25 rfl rfl rfl rfl) ?_
    obtain ⟨x_2, e2, h⟩ := bnd h
    refine OpsL.cons rfl (op_call0 (skewbackref03_digits_spec e2) goes52 rfl rfl) ?_
    refine OpsL.cons rfl (op_assign rfl) ?_
    refine OpsL.nilK [1, 3] [101] (s' := ⟨[(1, .b (.ptr 101 0)), (3, .b (.one (.sl 1 (x_2.map eI))))], [(101, .box 25 (eBig x0))]⟩) rfl ?_
    refine Tri.seq ?_
    refine Tri.seq ?_
    refine Tri.regionL ?_
    refine OpsL.cons rfl (op_move rfl) ?_
    refine OpsL.cons rfl (op_len_e' und54 rfl (List.length_map _)) ?_
    refine OpsL.cons rfl (op_eql rfl rfl) ?_
    refine OpsL.nilK [1, 3, 16] [101] (s' := ⟨[(1, .b (.ptr 101 0)), (3, .b (.one (.sl 1 (x_2.map eI)))), (16, B (decide ((x_2.length : Int) = 0)))], [(101, .box 25 (eBig x0))]⟩) rfl ?_
    refine Tri.ite h rfl (fun _ h => ?_) (fun _ h => ?_)
    · refine Tri.seq ?_
      refine Tri.regionL ?_
      refine OpsL.cons rfl (op_assign rfl) ?_
      refine OpsL.nilK [2] [] (s' := ⟨[(2, .b (.one (.str [48])))], []⟩) rfl ?_
      refine Tri.ret ?_
      refine Fin.then_ret ?_
      obtain rfl := Option.some.inj h
      refine Fin.keep [2] [] (s' := ⟨[(2, .b (.one (.str [48])))], []⟩) rfl ?_
      refine Fin.result' [.one (.str [48])] (.inl rfl) rfl (.cons (.tmp rfl) .nil) ⟨rfl, rfl⟩
    · refine Tri.skip ?_
      refine Fin.keep [1, 3] [101] (s' := ⟨[(1, .b (.ptr 101 0)), (3, .b (.one (.sl 1 (x_2.map eI))))], [(101, .box 25 (eBig x0))]⟩) rfl ?_
      refine Fin.then ?_
      refine Tri.seq ?_
      refine Tri.regionL ?_
      refine OpsL.cons rfl (op_assign rfl) ?_
      refine OpsL.nilK [1, 3, 4] [101] (s' := ⟨[(1, .b (.ptr 101 0)), (3, .b (.one (.sl 1 (x_2.map eI)))), (4, .b (.one (.str [])))], [(101, .box 25 (eBig x0))]⟩) rfl ?_
      obtain ⟨v3, h4, h⟩ := bnd h
      refine Tri.seqJ (v := v3) (fun (out_3 : Str) => ⟨[(1, .b (.ptr 101 0)), (4, .b (.one (.str out_3)))], [(101, .box 25 (eBig x0))]⟩) (fun z => z) ?_ ?_
      · refine Tri.block ?_
        refine Tri.loopJ h4 (un2 fun (d_4 : List Int) (out_5 : Str) => ⟨[(1, .b (.ptr 101 0)), (3, .b (.one (.sl 1 (d_4.map eI)))), (4, .b (.one (.str out_5)))], [(101, .box 25 (eBig x0))]⟩) [1, 3, 4] [101] rfl ?_
        rintro ⟨d_4, out_5⟩ o5 h6 hy7
        refine Tri.seq ?_
        refine Tri.seq ?_
        refine Tri.regionL ?_
        refine OpsL.cons rfl (op_move rfl) ?_
        refine OpsL.cons rfl (op_len_e' und54 rfl (List.length_map _)) ?_
        refine OpsL.cons rfl (op_gtr rfl rfl) ?_
        refine OpsL.nilK [1, 3, 4, 19] [101] (s' := ⟨[(1, .b (.ptr 101 0)), (3, .b (.one (.sl 1 (d_4.map eI)))), (4, .b (.one (.str out_5))), (19, B (decide (0 < (d_4.length : Int))))], [(101, .box 25 (eBig x0))]⟩) rfl ?_
        refine Tri.ite h6 rfl (fun _ h6 => ?_) (fun _ h6 => ?_)
        · refine Tri.skip ?_
          refine Fin.keep [1, 3, 4] [101] (s' := ⟨[(1, .b (.ptr 101 0)), (3, .b (.one (.sl 1 (d_4.map eI)))), (4, .b (.one (.str out_5)))], [(101, .box 25 (eBig x0))]⟩) rfl ?_
          refine Fin.then ?_
          refine Tri.block ?_
          refine Tri.seq ?_
          refine Tri.regionL ?_
          refine OpsL.cons rfl (op_assign rfl) ?_
          refine OpsL.nilK [1, 3, 4, 5] [101] (s' := ⟨[(1, .b (.ptr 101 0)), (3, .b (.one (.sl 1 (d_4.map eI)))), (4, .b (.one (.str out_5))), (5, I 0)], [(101, .box 25 (eBig x0))]⟩) rfl ?_
          refine Tri.seq ?_
          refine Tri.regionL ?_
          refine OpsL.cons rfl (op_move rfl) ?_
          refine OpsL.cons rfl (op_len_e' und54 rfl (List.length_map _)) ?_
          obtain ⟨x_7, e8, h6⟩ := bnd h6
          refine OpsL.cons rfl (op_makeSlice (k := 102) (enc := eI) tySl54 e8 (by decide) (.cons .refl .nil) rfl rfl rfl) ?_
          refine OpsL.cons rfl (op_assign rfl) ?_
          refine OpsL.nilK [1, 3, 4, 5, 6] [101, 102] (s' := ⟨[(1, .b (.ptr 101 0)), (3, .b (.one (.sl 1 (d_4.map eI)))), (4, .b (.one (.str out_5))), (5, I 0), (6, .b (.row 102))], [(101, .box 25 (eBig x0)), (102, .row 3 1 (x_7.map eI))]⟩) rfl ?_
          obtain ⟨v9, h10, h6⟩ := bnd h6
          refine Tri.seqJ (v := v9) (un2 fun (rest_8 : Int) (q_9 : List Int) => ⟨[(1, .b (.ptr 101 0)), (4, .b (.one (.str out_5))), (5, I rest_8), (6, .b (.row 102))], [(101, .box 25 (eBig x0)), (102, .row 3 1 (q_9.map eI))]⟩) (fun z => z) ?_ ?_
          · refine Tri.seq ?_
            refine Tri.regionL ?_
            refine OpsL.cons rfl (op_move rfl) ?_
            refine OpsL.cons rfl (op_len_e' und54 rfl (List.length_map _)) ?_
            refine OpsL.consI .i64 h10 rfl (op_sub rfl rfl) (fun x_10 h10 => ?_)
            refine OpsL.cons rfl (op_assign rfl) ?_
            refine OpsL.nilK [1, 3, 4, 5, 6, 7] [101, 102] (s' := ⟨[(1, .b (.ptr 101 0)), (3, .b (.one (.sl 1 (d_4.map eI)))), (4, .b (.one (.str out_5))), (5, I 0), (6, .b (.row 102)), (7, I x_10)], [(101, .box 25 (eBig x0)), (102, .row 3 1 (x_7.map eI))]⟩) rfl ?_
            refine Tri.block ?_
            refine Tri.loopJ h10 (un3 fun (rest_11 : Int) (q_12 : List Int) (k_13 : Int) => ⟨[(1, .b (.ptr 101 0)), (3, .b (.one (.sl 1 (d_4.map eI)))), (4, .b (.one (.str out_5))), (5, I rest_11), (6, .b (.row 102)), (7, I k_13)], [(101, .box 25 (eBig x0)), (102, .row 3 1 (q_12.map eI))]⟩) [1, 3, 4, 5, 6, 7] [101, 102] rfl ?_
            rintro ⟨rest_11, q_12, k_13⟩ o11 h12 hy13
            refine Tri.seq ?_
            refine Tri.seq ?_
            refine Tri.regionL ?_
            refine OpsL.cons rfl (op_move rfl) ?_
            refine OpsL.cons rfl (op_geq rfl rfl) ?_
            refine OpsL.nilK [1, 3, 4, 5, 6, 7, 27] [101, 102] (s' := ⟨[(1, .b (.ptr 101 0)), (3, .b (.one (.sl 1 (d_4.map eI)))), (4, .b (.one (.str out_5))), (5, I rest_11), (6, .b (.row 102)), (7, I k_13), (27, B (decide (0 ≤ k_13)))], [(101, .box 25 (eBig x0)), (102, .row 3 1 (q_12.map eI))]⟩) rfl ?_
            refine Tri.ite h12 rfl (fun _ h12 => ?_) (fun _ h12 => ?_)
            · refine Tri.skip ?_
              refine Fin.keep [1, 3, 4, 5, 6, 7] [101, 102] (s' := ⟨[(1, .b (.ptr 101 0)), (3, .b (.one (.sl 1 (d_4.map eI)))), (4, .b (.one (.str out_5))), (5, I rest_11), (6, .b (.row 102)), (7, I k_13)], [(101, .box 25 (eBig x0)), (102, .row 3 1 (q_12.map eI))]⟩) rfl ?_
              refine Fin.then ?_
              refine Tri.seq ?_
              refine Tri.block ?_
              refine Tri.seq ?_
              refine Tri.regionL ?_
              refine OpsL.cons rfl (op_move rfl) ?_
              refine OpsL.cons rfl (op_mul rfl rfl) ?_
              refine OpsL.cons rfl (op_move rfl) ?_
              refine OpsL.cons rfl (op_move rfl) ?_
              obtain ⟨x_16, e14, h12⟩ := bnd h12
              refine OpsL.cons rfl (op_index_e tySl54 (ix_lo e14) (ix_map (e := eI) e14) rfl rfl) ?_
              refine OpsL.cons rfl (op_load_e1 tyOne3 rfl rfl) ?_
              refine OpsL.consI .i64 h12 rfl (op_add rfl rfl) (fun x_17 h12 => ?_)
              refine OpsL.cons rfl (op_assign rfl) ?_
              refine OpsL.nilK [1, 3, 4, 6, 7, 8] [101, 102] (s' := ⟨[(1, .b (.ptr 101 0)), (3, .b (.one (.sl 1 (d_4.map eI)))), (4, .b (.one (.str out_5))), (6, .b (.row 102)), (7, I k_13), (8, I x_17)], [(101, .box 25 (eBig x0)), (102, .row 3 1 (q_12.map eI))]⟩) rfl ?_
              refine Tri.seq ?_
              refine Tri.regionL ?_
              refine OpsL.cons rfl (op_move rfl) ?_
              refine OpsL.cons rfl (op_move rfl) ?_
              refine OpsL.cons rfl (op_move rfl) ?_
              obtain ⟨x_18, e15, h12⟩ := bnd h12
              refine OpsL.cons rfl (op_quo2 e15 rfl rfl) ?_
              obtain ⟨x_19, e16, h12⟩ := bnd h12
              refine OpsL.cons rfl (op_index_r tySl54 (ix_lo e16) (ix_lt' e16) rfl rfl rfl rfl) ?_
              refine OpsL.cons rfl (op_store_r1 (i := (k_13 : Int).toNat) tyOne3 rfl rfl rfl rfl (ix_lt e16) (map_set _ _ _ _)) ?_
              refine OpsL.nilK [1, 3, 4, 6, 7, 8] [101, 102] (s' := ⟨[(1, .b (.ptr 101 0)), (3, .b (.one (.sl 1 (d_4.map eI)))), (4, .b (.one (.str out_5))), (6, .b (.row 102)), (7, I k_13), (8, I x_17)], [(101, .box 25 (eBig x0)), (102, .row 3 1 ((q_12.set (k_13 : Int).toNat x_18).map eI))]⟩) rfl ?_
              refine Tri.regionL ?_
              refine OpsL.cons rfl (op_move rfl) ?_
              refine OpsL.cons rfl (op_rem (by decide) rfl rfl) ?_
              refine OpsL.cons rfl (op_assign rfl) ?_
              refine OpsL.nil ?_
              refine Fin.block_normal ?_
              refine Fin.keep [1, 3, 4, 5, 6, 7] [101, 102] (s' := ⟨[(1, .b (.ptr 101 0)), (3, .b (.one (.sl 1 (d_4.map eI)))), (4, .b (.one (.str out_5))), (5, I (Int.tmod x_17 10)), (6, .b (.row 102)), (7, I k_13)], [(101, .box 25 (eBig x0)), (102, .row 3 1 ((q_12.set (k_13 : Int).toNat x_18).map eI))]⟩) rfl ?_
              refine Fin.then ?_
              refine Tri.regionL ?_
              refine OpsL.cons rfl (op_move rfl) ?_
              refine OpsL.cons rfl (op_sub rfl rfl) ?_
              refine OpsL.cons rfl (op_assign rfl) ?_
              refine OpsL.nil ?_
              exact Fin.againJ [1, 3, 4, 5, 6, 7] [101, 102] (Int.tmod x_17 10, q_12.set (k_13 : Int).toNat x_18, IntKind.i64.wrap (k_13 - 1)) (Option.some.inj h12) rfl
            · refine Tri.exit ?_
              refine Fin.then_exit ?_
              obtain rfl := hy13 _ (Option.some.inj h12).symm
              refine Fin.then_exit ?_
              refine Fin.block_exit ?_
              exact Fin.join [1, 4, 5, 6] [101, 102] (rest_11, q_12) rfl rfl
          · rintro ⟨rest_8, q_9⟩ hv
            subst v9
            refine Tri.seq ?_
            refine Tri.regionL ?_
            refine OpsL.cons rfl (op_move rfl) ?_
            refine OpsL.persist 102 rfl ?_
            obtain ⟨x_20, e17, h6⟩ := bnd h6
            refine OpsL.cons rfl (op_call0 (skewbackref03_trim_spec e17) goes70 rfl rfl) ?_
            refine OpsL.cons rfl (op_assign rfl) ?_
            refine OpsL.nilK [1, 3, 4, 5] [101] (s' := ⟨[(1, .b (.ptr 101 0)), (3, .b (.one (.sl 1 (x_20.map eI)))), (4, .b (.one (.str out_5))), (5, I rest_8)], [(101, .box 25 (eBig x0))]⟩) rfl ?_
            refine Tri.regionL ?_
            refine OpsL.cons rfl (op_move rfl) ?_
            refine OpsL.cons rfl (op_add rfl rfl) ?_
            refine OpsL.consI .u8 h6 rfl (op_conv_wrap undi3 undi5 rfl) (fun x_21 h6 => ?_)
            refine OpsL.cons rfl (op_buildSlice (k := 103) (es := [x_21].map (eK .u8)) tySl79 rfl rfl (uni_map fun _ => rfl) rfl (by decide) (by decide) rfl) ?_
            refine OpsL.persist 103 rfl ?_
            refine OpsL.keep [1, 3, 4, 49] [101] (s' := ⟨[(1, .b (.ptr 101 0)), (3, .b (.one (.sl 1 (x_20.map eI)))), (4, .b (.one (.str out_5))), (49, .b (.one (.sl 1 ([x_21].map (eK .u8)))))], [(101, .box 25 (eBig x0))]⟩) rfl ?_
            refine OpsL.cons rfl (op_conv_bytes und79 undi5 und9 rfl) ?_
            refine OpsL.cons rfl (op_move rfl) ?_
            obtain ⟨x_22, e18, h6⟩ := bnd h6
            refine OpsL.cons rfl (op_add_str2 e18 rfl rfl) ?_
            refine OpsL.cons rfl (op_assign rfl) ?_
            refine OpsL.nil ?_
            refine Fin.block_normal ?_
            exact Fin.againJ [1, 3, 4] [101] (x_20, x_22) (Option.some.inj h6) rfl
        · refine Tri.exit ?_
          refine Fin.then_exit ?_
          obtain rfl := hy7 _ (Option.some.inj h6).symm
          refine Fin.then_exit ?_
          refine Fin.block_exit ?_
          exact Fin.join [1, 4] [101] out_5 rfl rfl
      · rintro out_3 hv
        subst v3
        refine Tri.seq ?_
        refine Tri.seq ?_
        refine Tri.regionL ?_
        refine OpsL.cons rfl (op_field_p tyFld25_1 rfl rfl) ?_
        refine OpsL.cons rfl (op_load_p1 tyOne4 rfl rfl rfl) ?_
        refine OpsL.nilK [4, 54] [] (s' := ⟨[(4, .b (.one (.str out_3))), (54, B x0.Neg)], []⟩) rfl ?_
        refine Tri.ite h rfl (fun _ h => ?_) (fun _ h => ?_)
        · refine Tri.seq ?_
          refine Tri.regionL ?_
          refine OpsL.cons rfl (op_move rfl) ?_
          obtain ⟨x_23, e19, h⟩ := bnd h
          refine OpsL.cons rfl (op_add_str2 e19 rfl rfl) ?_
          refine OpsL.cons rfl (op_assign rfl) ?_
          refine OpsL.nilK [2] [] (s' := ⟨[(2, .b (.one (.str x_23)))], []⟩) rfl ?_
          refine Tri.ret ?_
          refine Fin.then_ret ?_
          obtain rfl := Option.some.inj h
          refine Fin.keep [2] [] (s' := ⟨[(2, .b (.one (.str x_23)))], []⟩) rfl ?_
          refine Fin.result' [.one (.str x_23)] (.inl rfl) rfl (.cons (.tmp rfl) .nil) ⟨rfl, rfl⟩
        · refine Tri.skip ?_
          refine Fin.keep [4] [] (s' := ⟨[(4, .b (.one (.str out_3)))], []⟩) rfl ?_
          refine Fin.then ?_
          refine Tri.seq ?_
          refine Tri.regionL ?_
          refine OpsL.cons rfl (op_move rfl) ?_
          refine OpsL.cons rfl (op_assign rfl) ?_
          refine OpsL.nilK [2] [] (s' := ⟨[(2, .b (.one (.str out_3)))], []⟩) rfl ?_
          refine Tri.ret ?_
          obtain rfl := Option.some.inj h
          refine Fin.keep [2] [] (s' := ⟨[(2, .b (.one (.str out_3)))], []⟩) rfl ?_
          refine Fin.result' [.one (.str out_3)] (.inl rfl) rfl (.cons (.tmp rfl) .nil) ⟨rfl, rfl⟩

def skewbackref03_times_S (F : Nat) (a0 : List Int) (b0 : List Int) : Option (List Int) :=
 letN (IntKind.i64.wrap ((a0.length : Int) + (b0.length : Int))) fun x_1 => Option.bind (mk? (0 : Int) (IntKind.i64.wrap (x_1 + 1)) (IntKind.i64.wrap (x_1 + 1))) (fun x_2 => Option.bind (iter F (un2 fun out_4 i_5 => if (decide (i_5 < (a0.length : Int))) = true then (Option.bind (Option.bind (iter F (un2 fun out_9 k_10 => if (decide (k_10 < (b0.length : Int))) = true then (Option.bind (idx? out_9 (IntKind.i64.wrap (i_5 + k_10))) (fun x_12 => Option.bind (idx? a0 i_5) (fun x_13 => Option.bind (idx? b0 k_10) (fun x_14 => Option.bind (idx? out_9 (IntKind.i64.wrap (i_5 + k_10))) (fun x_15 => some (.inl (out_9.set (IntKind.i64.wrap (i_5 + k_10) : Int).toNat (IntKind.i64.wrap (x_12 + (IntKind.i64.wrap (x_13 * x_14)))), IntKind.i64.wrap (k_10 + 1)))))))) else (some (.inr out_9))) (out_4, 0)) (fun out_8 => Option.bind (iter F (un3 fun out_16 carry_17 k_18 => if (decide (k_18 < (out_16.length : Int))) = true then (Option.bind (idx? out_16 k_18) (fun x_20 => letN (Int.tmod (IntKind.i64.wrap (x_20 + carry_17)) 65536) fun x_21 => Option.bind (idx? out_16 k_18) (fun x_22 => Option.bind (quo? .i64 (IntKind.i64.wrap (x_20 + carry_17)) 65536) (fun x_23 => some (.inl (out_16.set (k_18 : Int).toNat x_21, x_23, IntKind.i64.wrap (k_18 + 1))))))) else (some (.inr out_16))) (out_8, 0, 0)) (fun out_19 => some out_19))) (fun out_7 => some (.inl (out_7, IntKind.i64.wrap (i_5 + 1))))) else (some (.inr out_4))) (x_2, 0)) (fun out_3 => Option.bind (skewbackref03_trim_S F out_3) (fun x_24 => some x_24)))
theorem skewbackref03_times_spec {F : Nat} {a0 : List Int} {b0 : List Int} {r : (List Int)} (h : skewbackref03_times_S F a0 b0 = some r) : Meets Tryd.prog tabs 61 [] [.one (.sl 1 (a0.map eI)), .one (.sl 1 (b0.map eI))] (Is [] (.b (.one (.sl 1 (r.map eI))))) := by
  unfold skewbackref03_times_S at h
  refine Meets.intro 72 Tryd.func61 Tryd.ntmps61 rfl (by simp) fun E => ?_
  show Tri _ E ⟨72, [], []⟩ _ ⟨[(0, .b (.one (.sl 1 (a0.map eI)))), (1, .b (.one (.sl 1 (b0.map eI))))], []⟩ _
  refine Tri.seq ?_
  refine Tri.regionL ?_
  refine OpsL.cons rfl (op_assign rfl) ?_
  refine OpsL.nilK [0, 1] [] (s' := ⟨[(0, .b (.one (.sl 1 (a0.map eI)))), (1, .b (.one (.sl 1 (b0.map eI))))], []⟩) rfl ?_
  refine Tri.seq ?_
  refine Tri.regionL ?_
  refine OpsL.cons rfl (op_move rfl) ?_
  refine OpsL.cons rfl (op_len_e' und54 rfl (List.length_map _)) ?_
  refine OpsL.cons rfl (op_move rfl) ?_
  refine OpsL.cons rfl (op_len_e' und54 rfl (List.length_map _)) ?_
  refine OpsL.consI .i64 h rfl (op_add rfl rfl) (fun x_1 h => ?_)
  refine OpsL.keep [0, 1, 15] [] (s' := ⟨[(0, .b (.one (.sl 1 (a0.map eI)))), (1, .b (.one (.sl 1 (b0.map eI)))), (15, I x_1)], []⟩) rfl ?_
  refine OpsL.cons rfl (op_add rfl rfl) ?_
  obtain ⟨x_2, e1, h⟩ := bnd h
  refine OpsL.cons rfl (op_makeSlice (k := 101) (enc := eI) tySl54 e1 (by decide) (.cons .refl .nil) rfl rfl rfl) ?_
  refine OpsL.cons rfl (op_assign rfl) ?_
  refine OpsL.nilK [0, 1, 5] [101] (s' := ⟨[(0, .b (.one (.sl 1 (a0.map eI)))), (1, .b (.one (.sl 1 (b0.map eI)))), (5, .b (.row 101))], [(101, .row 3 1 (x_2.map eI))]⟩) rfl ?_
  obtain ⟨v2, h3, h⟩ := bnd h
  refine Tri.seqJ (v := v2) (fun (out_3 : List Int) => ⟨[(5, .b (.row 101))], [(101, .row 3 1 (out_3.map eI))]⟩) (fun z => z) ?_ ?_
  · refine Tri.seq ?_
    refine Tri.regionL ?_
    refine OpsL.cons rfl (op_assign rfl) ?_
    refine OpsL.nilK [0, 1, 5, 6] [101] (s' := ⟨[(0, .b (.one (.sl 1 (a0.map eI)))), (1, .b (.one (.sl 1 (b0.map eI)))), (5, .b (.row 101)), (6, I 0)], [(101, .row 3 1 (x_2.map eI))]⟩) rfl ?_
    refine Tri.block ?_
    refine Tri.loopJ h3 (un2 fun (out_4 : List Int) (i_5 : Int) => ⟨[(0, .b (.one (.sl 1 (a0.map eI)))), (1, .b (.one (.sl 1 (b0.map eI)))), (5, .b (.row 101)), (6, I i_5)], [(101, .row 3 1 (out_4.map eI))]⟩) [0, 1, 5, 6] [101] rfl ?_
    rintro ⟨out_4, i_5⟩ o4 h5 hy6
    refine Tri.seq ?_
    refine Tri.seq ?_
    refine Tri.regionL ?_
    refine OpsL.cons rfl (op_move rfl) ?_
    refine OpsL.cons rfl (op_move rfl) ?_
    refine OpsL.cons rfl (op_len_e' und54 rfl (List.length_map _)) ?_
    refine OpsL.cons rfl (op_lss rfl rfl) ?_
    refine OpsL.nilK [0, 1, 5, 6, 21] [101] (s' := ⟨[(0, .b (.one (.sl 1 (a0.map eI)))), (1, .b (.one (.sl 1 (b0.map eI)))), (5, .b (.row 101)), (6, I i_5), (21, B (decide (i_5 < (a0.length : Int))))], [(101, .row 3 1 (out_4.map eI))]⟩) rfl ?_
    refine Tri.ite h5 rfl (fun _ h5 => ?_) (fun _ h5 => ?_)
    · refine Tri.skip ?_
      refine Fin.keep [0, 1, 5, 6] [101] (s' := ⟨[(0, .b (.one (.sl 1 (a0.map eI)))), (1, .b (.one (.sl 1 (b0.map eI)))), (5, .b (.row 101)), (6, I i_5)], [(101, .row 3 1 (out_4.map eI))]⟩) rfl ?_
      refine Fin.then ?_
      obtain ⟨v7, h8, h5⟩ := bnd h5
      refine Tri.seqJ (v := v7) (fun (out_7 : List Int) => ⟨[(0, .b (.one (.sl 1 (a0.map eI)))), (1, .b (.one (.sl 1 (b0.map eI)))), (5, .b (.row 101)), (6, I i_5)], [(101, .row 3 1 (out_7.map eI))]⟩) (fun z => z) ?_ ?_
      · refine Tri.block ?_
        obtain ⟨v9, h10, h8⟩ := bnd h8
        refine Tri.seqJ (v := v9) (fun (out_8 : List Int) => ⟨[(0, .b (.one (.sl 1 (a0.map eI)))), (1, .b (.one (.sl 1 (b0.map eI)))), (5, .b (.row 101)), (6, I i_5)], [(101, .row 3 1 (out_8.map eI))]⟩) (fun z => z) ?_ ?_
        · refine Tri.seq ?_
          refine Tri.regionL ?_
          refine OpsL.cons rfl (op_assign rfl) ?_
          refine OpsL.nilK [0, 1, 5, 6, 7] [101] (s' := ⟨[(0, .b (.one (.sl 1 (a0.map eI)))), (1, .b (.one (.sl 1 (b0.map eI)))), (5, .b (.row 101)), (6, I i_5), (7, I 0)], [(101, .row 3 1 (out_4.map eI))]⟩) rfl ?_
          refine Tri.block ?_
          refine Tri.loopJ h10 (un2 fun (out_9 : List Int) (k_10 : Int) => ⟨[(0, .b (.one (.sl 1 (a0.map eI)))), (1, .b (.one (.sl 1 (b0.map eI)))), (5, .b (.row 101)), (6, I i_5), (7, I k_10)], [(101, .row 3 1 (out_9.map eI))]⟩) [0, 1, 5, 6, 7] [101] rfl ?_
          rintro ⟨out_9, k_10⟩ o11 h12 hy13
          refine Tri.seq ?_
          refine Tri.seq ?_
          refine Tri.regionL ?_
          refine OpsL.cons rfl (op_move rfl) ?_
          refine OpsL.cons rfl (op_move rfl) ?_
          refine OpsL.cons rfl (op_len_e' und54 rfl (List.length_map _)) ?_
          refine OpsL.cons rfl (op_lss rfl rfl) ?_
          refine OpsL.nilK [0, 1, 5, 6, 7, 27] [101] (s' := ⟨[(0, .b (.one (.sl 1 (a0.map eI)))), (1, .b (.one (.sl 1 (b0.map eI)))), (5, .b (.row 101)), (6, I i_5), (7, I k_10), (27, B (decide (k_10 < (b0.length : Int))))], [(101, .row 3 1 (out_9.map eI))]⟩) rfl ?_
          refine Tri.ite h12 rfl (fun _ h12 => ?_) (fun _ h12 => ?_)
          · refine Tri.skip ?_
            refine Fin.keep [0, 1, 5, 6, 7] [101] (s' := ⟨[(0, .b (.one (.sl 1 (a0.map eI)))), (1, .b (.one (.sl 1 (b0.map eI)))), (5, .b (.row 101)), (6, I i_5), (7, I k_10)], [(101, .row 3 1 (out_9.map eI))]⟩) rfl ?_
            refine Fin.then ?_
            refine Tri.seq ?_
            refine Tri.block ?_
            refine Tri.keep [0, 1, 5, 6, 7] [101] (s' := ⟨[(0, .b (.one (.sl 1 (a0.map eI)))), (1, .b (.one (.sl 1 (b0.map eI)))), (5, .b (.row 101)), (6, I i_5), (7, I k_10)], [(101, .row 3 1 (out_9.map eI))]⟩) rfl ?_
            obtain ⟨x_12, e14, h12⟩ := bnd h12
            obtain ⟨x_13, e15, h12⟩ := bnd h12
            obtain ⟨x_14, e16, h12⟩ := bnd h12
            obtain ⟨x_15, e17, h12⟩ := bnd h12
            refine Tri.regionYF mixed 21 [.b (.row 101), I i_5, I k_10, I (IntKind.i64.wrap (i_5 + k_10)), .b (.row 101), I i_5, I k_10, I (IntKind.i64.wrap (i_5 + k_10)), .b (.rptr 101 ((IntKind.i64.wrap (i_5 + k_10) : Int).toNat * 1)), I x_12, .b (.one (.sl 1 (a0.map eI))), I i_5, .b (.eptr [.i x_13]), I x_13, .b (.one (.sl 1 (b0.map eI))), I k_10, .b (.eptr [.i x_14]), I x_14, I (IntKind.i64.wrap (x_13 * x_14)), I (IntKind.i64.wrap (x_12 + (IntKind.i64.wrap (x_13 * x_14)))), .b (.rptr 101 ((IntKind.i64.wrap (i_5 + k_10) : Int).toNat * 1))] [0, 1, 5, 6, 7] [101] (s' := ⟨[(0, .b (.one (.sl 1 (a0.map eI)))), (1, .b (.one (.sl 1 (b0.map eI)))), (5, .b (.row 101)), (6, I i_5), (7, I k_10)], [(101, .row 3 1 ((out_9.set (IntKind.i64.wrap (i_5 + k_10) : Int).toNat (IntKind.i64.wrap (x_12 + (IntKind.i64.wrap (x_13 * x_14))))).map eI))]⟩) rfl ⟨fun _ => .plain rfl (op_move rfl), fun _ => .plain rfl (op_move rfl), fun _ => .plain rfl (op_move rfl), fun _ => .plain rfl (op_add rfl rfl), fun _ => .plain rfl (op_move rfl), fun _ => .plain rfl (op_move rfl), fun _ => .plain rfl (op_move rfl), fun _ => .plain rfl (op_add rfl rfl), fun _ => .plain rfl (op_index_r tySl54 (ix_lo e14) (ix_lt' e14) rfl rfl rfl rfl), fun _ => .plain rfl (op_load_r1 (i := (IntKind.i64.wrap (i_5 + k_10) : Int).toNat) (f := 0) tyOne3 rfl rfl rfl (ix_map (e := eI) e14) rfl), fun _ => .plain rfl (op_move rfl), fun _ => .plain rfl (op_move rfl), fun _ => .plain rfl (op_index_e tySl54 (ix_lo e15) (ix_map (e := eI) e15) rfl rfl), fun _ => .plain rfl (op_load_e1 tyOne3 rfl rfl), fun _ => .plain rfl (op_move rfl), fun _ => .plain rfl (op_move rfl), fun _ => .plain rfl (op_index_e tySl54 (ix_lo e16) (ix_map (e := eI) e16) rfl rfl), fun _ => .plain rfl (op_load_e1 tyOne3 rfl rfl), fun _ => .plain rfl (op_mul rfl rfl), fun _ => .plain rfl (op_add rfl rfl), fun _ => .plain rfl (op_index_r tySl54 (ix_lo e17) (ix_lt' e17) rfl rfl rfl rfl), trivial⟩ ⟨_, by exact .plain rfl (op_store_r1 (i := (IntKind.i64.wrap (i_5 + k_10) : Int).toNat) tyOne3 rfl rfl rfl rfl (ix_lt e17) (map_set _ _ _ _)), rfl⟩ rfl ?_
            refine Fin.block_normal ?_
            refine Fin.keep [0, 1, 5, 6, 7] [101] (s' := ⟨[(0, .b (.one (.sl 1 (a0.map eI)))), (1, .b (.one (.sl 1 (b0.map eI)))), (5, .b (.row 101)), (6, I i_5), (7, I k_10)], [(101, .row 3 1 ((out_9.set (IntKind.i64.wrap (i_5 + k_10) : Int).toNat (IntKind.i64.wrap (x_12 + (IntKind.i64.wrap (x_13 * x_14))))).map eI))]⟩) rfl ?_
            refine Fin.then ?_
            refine Tri.regionL ?_
            refine OpsL.cons rfl (op_move rfl) ?_
            refine OpsL.cons rfl (op_add rfl rfl) ?_
            refine OpsL.cons rfl (op_assign rfl) ?_
            refine OpsL.nil ?_
            exact Fin.againJ [0, 1, 5, 6, 7] [101] (out_9.set (IntKind.i64.wrap (i_5 + k_10) : Int).toNat (IntKind.i64.wrap (x_12 + (IntKind.i64.wrap (x_13 * x_14)))), IntKind.i64.wrap (k_10 + 1)) (Option.some.inj h12) rfl
          · refine Tri.exit ?_
            refine Fin.then_exit ?_
            obtain rfl := hy13 _ (Option.some.inj h12).symm
            refine Fin.then_exit ?_
            refine Fin.block_exit ?_
            exact Fin.join [0, 1, 5, 6] [101] out_9 rfl rfl
        · rintro out_8 hv
          subst v9
          refine Tri.seq ?_
          refine Tri.regionL ?_
          refine OpsL.cons rfl (op_assign rfl) ?_
          refine OpsL.nilK [0, 1, 5, 6, 8] [101] (s' := ⟨[(0, .b (.one (.sl 1 (a0.map eI)))), (1, .b (.one (.sl 1 (b0.map eI)))), (5, .b (.row 101)), (6, I i_5), (8, I 0)], [(101, .row 3 1 (out_8.map eI))]⟩) rfl ?_
          refine Tri.seq ?_
          refine Tri.regionL ?_
          refine OpsL.cons rfl (op_assign rfl) ?_
          refine OpsL.nilK [0, 1, 5, 6, 8, 9] [101] (s' := ⟨[(0, .b (.one (.sl 1 (a0.map eI)))), (1, .b (.one (.sl 1 (b0.map eI)))), (5, .b (.row 101)), (6, I i_5), (8, I 0), (9, I 0)], [(101, .row 3 1 (out_8.map eI))]⟩) rfl ?_
          refine Tri.block ?_
          obtain ⟨v18, h19, h8⟩ := bnd h8
          refine Tri.loopJ h19 (un3 fun (out_16 : List Int) (carry_17 : Int) (k_18 : Int) => ⟨[(0, .b (.one (.sl 1 (a0.map eI)))), (1, .b (.one (.sl 1 (b0.map eI)))), (5, .b (.row 101)), (6, I i_5), (8, I carry_17), (9, I k_18)], [(101, .row 3 1 (out_16.map eI))]⟩) [0, 1, 5, 6, 8, 9] [101] rfl ?_
          rintro ⟨out_16, carry_17, k_18⟩ o20 h21 hy22
          refine Tri.seq ?_
          refine Tri.seq ?_
          refine Tri.regionL ?_
          refine OpsL.cons rfl (op_move rfl) ?_
          refine OpsL.cons rfl (op_move rfl) ?_
          refine OpsL.cons rfl (op_len_r' und54 rfl rfl (List.length_map _)) ?_
          refine OpsL.cons rfl (op_lss rfl rfl) ?_
          refine OpsL.nilK [0, 1, 5, 6, 8, 9, 54] [101] (s' := ⟨[(0, .b (.one (.sl 1 (a0.map eI)))), (1, .b (.one (.sl 1 (b0.map eI)))), (5, .b (.row 101)), (6, I i_5), (8, I carry_17), (9, I k_18), (54, B (decide (k_18 < (out_16.length : Int))))], [(101, .row 3 1 (out_16.map eI))]⟩) rfl ?_
          refine Tri.ite h21 rfl (fun _ h21 => ?_) (fun _ h21 => ?_)
          · refine Tri.skip ?_
            refine Fin.keep [0, 1, 5, 6, 8, 9] [101] (s' := ⟨[(0, .b (.one (.sl 1 (a0.map eI)))), (1, .b (.one (.sl 1 (b0.map eI)))), (5, .b (.row 101)), (6, I i_5), (8, I carry_17), (9, I k_18)], [(101, .row 3 1 (out_16.map eI))]⟩) rfl ?_
            refine Fin.then ?_
            refine Tri.seq ?_
            refine Tri.block ?_
            refine Tri.seq ?_
            refine Tri.regionL ?_
            refine OpsL.cons rfl (op_move rfl) ?_
            refine OpsL.cons rfl (op_move rfl) ?_
            obtain ⟨x_20, e23, h21⟩ := bnd h21
            refine OpsL.cons rfl (op_index_r tySl54 (ix_lo e23) (ix_lt' e23) rfl rfl rfl rfl) ?_
            refine OpsL.cons rfl (op_load_r1 (i := (k_18 : Int).toNat) (f := 0) tyOne3 rfl rfl rfl (ix_map (e := eI) e23) rfl) ?_
            refine OpsL.cons rfl (op_move rfl) ?_
            refine OpsL.cons rfl (op_add rfl rfl) ?_
            refine OpsL.cons rfl (op_assign rfl) ?_
            refine OpsL.nilK [0, 1, 5, 6, 9, 10] [101] (s' := ⟨[(0, .b (.one (.sl 1 (a0.map eI)))), (1, .b (.one (.sl 1 (b0.map eI)))), (5, .b (.row 101)), (6, I i_5), (9, I k_18), (10, I (IntKind.i64.wrap (x_20 + carry_17)))], [(101, .row 3 1 (out_16.map eI))]⟩) rfl ?_
            refine Tri.seq ?_
            refine Tri.regionL ?_
            refine OpsL.cons rfl (op_move rfl) ?_
            refine OpsL.cons rfl (op_move rfl) ?_
            refine OpsL.cons rfl (op_move rfl) ?_
            refine OpsL.consI .i64 h21 rfl (op_rem (by decide) rfl rfl) (fun x_21 h21 => ?_)
            obtain ⟨x_22, e24, h21⟩ := bnd h21
            refine OpsL.cons rfl (op_index_r tySl54 (ix_lo e24) (ix_lt' e24) rfl rfl rfl rfl) ?_
            refine OpsL.cons rfl (op_store_r1 (i := (k_18 : Int).toNat) tyOne3 rfl rfl rfl rfl (ix_lt e24) (map_set _ _ _ _)) ?_
            refine OpsL.nilK [0, 1, 5, 6, 9, 10] [101] (s' := ⟨[(0, .b (.one (.sl 1 (a0.map eI)))), (1, .b (.one (.sl 1 (b0.map eI)))), (5, .b (.row 101)), (6, I i_5), (9, I k_18), (10, I (IntKind.i64.wrap (x_20 + carry_17)))], [(101, .row 3 1 ((out_16.set (k_18 : Int).toNat x_21).map eI))]⟩) rfl ?_
            refine Tri.regionL ?_
            refine OpsL.cons rfl (op_move rfl) ?_
            obtain ⟨x_23, e25, h21⟩ := bnd h21
            refine OpsL.cons rfl (op_quo2 e25 rfl rfl) ?_
            refine OpsL.cons rfl (op_assign rfl) ?_
            refine OpsL.nil ?_
            refine Fin.block_normal ?_
            refine Fin.keep [0, 1, 5, 6, 8, 9] [101] (s' := ⟨[(0, .b (.one (.sl 1 (a0.map eI)))), (1, .b (.one (.sl 1 (b0.map eI)))), (5, .b (.row 101)), (6, I i_5), (8, I x_23), (9, I k_18)], [(101, .row 3 1 ((out_16.set (k_18 : Int).toNat x_21).map eI))]⟩) rfl ?_
            refine Fin.then ?_
            refine Tri.regionL ?_
            refine OpsL.cons rfl (op_move rfl) ?_
            refine OpsL.cons rfl (op_add rfl rfl) ?_
            refine OpsL.cons rfl (op_assign rfl) ?_
            refine OpsL.nil ?_
            exact Fin.againJ [0, 1, 5, 6, 8, 9] [101] (out_16.set (k_18 : Int).toNat x_21, x_23, IntKind.i64.wrap (k_18 + 1)) (Option.some.inj h21) rfl
          · refine Tri.exit ?_
            refine Fin.then_exit ?_
            obtain rfl := hy22 _ (Option.some.inj h21).symm
            refine Fin.then_exit ?_
            refine Fin.block_exit ?_
            refine Fin.block_normal ?_
            exact Fin.join [0, 1, 5, 6] [101] out_16 (Option.some.inj h8) rfl
      · rintro out_7 hv
        subst v7
        refine Tri.regionL ?_
        refine OpsL.cons rfl (op_move rfl) ?_
        refine OpsL.cons rfl (op_add rfl rfl) ?_
        refine OpsL.cons rfl (op_assign rfl) ?_
        refine OpsL.nil ?_
        exact Fin.againJ [0, 1, 5, 6] [101] (out_7, IntKind.i64.wrap (i_5 + 1)) (Option.some.inj h5) rfl
    · refine Tri.exit ?_
      refine Fin.then_exit ?_
      obtain rfl := hy6 _ (Option.some.inj h5).symm
      refine Fin.then_exit ?_
      refine Fin.block_exit ?_
      exact Fin.join [5] [101] out_4 rfl rfl
  · rintro out_3 hv
    subst v2
    refine Tri.seq ?_
    refine Tri.regionL ?_
    refine OpsL.cons rfl (op_move rfl) ?_
    refine OpsL.persist 101 rfl ?_
    obtain ⟨x_24, e26, h⟩ := bnd h
    refine OpsL.cons rfl (op_call0 (skewbackref03_trim_spec e26) goes70 rfl rfl) ?_
    refine OpsL.cons rfl (op_assign rfl) ?_
    refine OpsL.nilK [4] [] (s' := ⟨[(4, .b (.one (.sl 1 (x_24.map eI))))], []⟩) rfl ?_
    refine Tri.ret ?_
    obtain rfl := Option.some.inj h
    refine Fin.keep [4] [] (s' := ⟨[(4, .b (.one (.sl 1 (x_24.map eI))))], []⟩) rfl ?_
    refine Fin.result' [.one (.sl 1 (x_24.map eI))] (.inl rfl) rfl (.cons (.tmp rfl) .nil) ⟨rfl, rfl⟩

def skewbackref03_Parse_S (F : Nat) (s0 : Str) : Option (Big × Int) :=
 Option.bind (gcall (decide (0 < (s0.length : Int))) (idx? s0 0)) (fun x_1 => letN ((decide (0 < (s0.length : Int))) && (decide ((x_1.toNat : Int) = 45))) fun x_2 => Option.bind (if x_2 = true then (some 1) else (some 0)) (fun from_3 => Option.bind (gcall (!(decide ((s0.length : Int) = from_3))) (idx? s0 from_3)) (fun x_4 => letN ((decide ((s0.length : Int) = from_3)) || ((decide ((x_4.toNat : Int) = 48)) && (x_2 || (decide (1 < (s0.length : Int)))))) fun x_5 => if x_5 = true then (Option.bind (skewbackref03_Bad_S F) (fun x_6 => some (x_6, 281))) else (Option.bind (iter F (fun k_7 => if (decide (k_7 < (s0.length : Int))) = true then (Option.bind (idx? s0 k_7) (fun x_8 => Option.bind (gcall (!(decide ((x_8.toNat : Int) < 48))) (idx? s0 k_7)) (fun x_9 => letN ((decide ((x_8.toNat : Int) < 48)) || (decide (57 < (x_9.toNat : Int)))) fun x_10 => if x_10 = true then (Option.bind (skewbackref03_Bad_S F) (fun x_11 => some (.inr (.inr (x_11, 281))))) else (some (.inl (IntKind.i64.wrap (k_7 + 1))))))) else (some (.inr (.inl ())))) from_3) (alt2 (fun _ => Option.bind (iter F (un2 fun d_13 k_14 => if (decide (k_14 < (s0.length : Int))) = true then (Option.bind (skewbackref03_times_S F d_13 [10]) (fun x_16 => Option.bind (idx? s0 k_14) (fun x_17 => Option.bind (skewbackref03_trim_S F [IntKind.i64.wrap ((IntKind.i64.wrap (x_17.toNat : Int)) - 48)]) (fun x_18 => Option.bind (skewbackref03_plus_S F x_16 x_18) (fun x_19 => if (decide (32 < (x_19.length : Int))) = true then (Option.bind (skewbackref03_Bad_S F) (fun x_20 => some (.inr (.inr (x_20, 30))))) else (some (.inl (x_19, IntKind.i64.wrap (k_14 + 1))))))))) else (some (.inr (.inl d_13)))) ([], from_3)) (alt2 (fun d_12 => Option.bind (skewbackref03_number_S F x_2 d_12) (fun x_21 => some (x_21, 0))) (fun y => some y))) (fun y => some y))))))
theorem skewbackref03_Parse_spec {F : Nat} {s0 : Str} {r : Big × Int} (h : skewbackref03_Parse_S F s0 = some r) : Meets Tryd.prog tabs 37 [] [.one (.str s0)] (Is [] (.tup [.agg (eBig r.1), .one (.i r.2)])) := by
  unfold skewbackref03_Parse_S at h
  refine Meets.intro 80 Tryd.func37 Tryd.ntmps37 rfl (by simp) fun E => ?_
  show Tri _ E ⟨80, [], []⟩ _ ⟨[(0, .b (.one (.str s0)))], []⟩ _
  refine Tri.seq ?_
  refine Tri.regionL ?_
  refine OpsL.cons rfl (op_alloc (k := 101) tyZero25 rfl) ?_
  refine OpsL.cons rfl (op_assign rfl) ?_
  refine OpsL.nilK [0, 2] [101] (s' := ⟨[(0, .b (.one (.str s0))), (2, .b (.ptr 101 0))], [(101, .box 25 (.bool false :: .bool false :: ((eA16 .u32) A16.zero)))]⟩) rfl ?_
  refine Tri.seq ?_
  refine Tri.regionL ?_
  refine OpsL.cons rfl (op_move rfl) ?_
  refine OpsL.cons rfl (op_len_str und9 rfl) ?_
  refine OpsL.cons rfl (op_gtr rfl rfl) ?_
  refine OpsL.cons rfl (op_move rfl) ?_
  refine OpsL.consG (decide (0 < (s0.length : Int))) 99 [] (.plain rfl) (eq_t _) rfl rfl (fun g1 => trivial) (fun g1 => op_move rfl) ?_
  obtain ⟨x_1, e3, h⟩ := bnd h
  refine OpsL.consG (decide (0 < (s0.length : Int))) 99 [13] (.plain rfl) (eq_t _) rfl rfl (fun g2 => ⟨g2, trivial⟩) (fun g2 => op_index_str und9 rfl rfl (ix_lo (gc e3 g2)) (ix_get (gc e3 g2))) ?_
  refine OpsL.keep [0, 2, 12, 14] [101] (s' := ⟨[(0, .b (.one (.str s0))), (2, .b (.ptr 101 0)), (12, B (decide (0 < (s0.length : Int)))), (14, .opt (decide (0 < (s0.length : Int))) (.one (.int .u8 (x_1.toNat : Int))))], [(101, .box 25 (.bool false :: .bool false :: ((eA16 .u32) A16.zero)))]⟩) rfl ?_
  refine OpsL.consG (decide (0 < (s0.length : Int))) 99 [14] (.plain rfl) (eq_t _) rfl rfl (fun g4 => ⟨g4, trivial⟩) (fun g4 => op_eql rfl rfl) ?_
  refine OpsL.consB h rfl (op_pick_and (fun e => e) rfl rfl rfl rfl) (fun x_2 h => ?_)
  refine OpsL.cons rfl (op_assign rfl) ?_
  refine OpsL.nilK [0, 2, 4] [101] (s' := ⟨[(0, .b (.one (.str s0))), (2, .b (.ptr 101 0)), (4, B x_2)], [(101, .box 25 (.bool false :: .bool false :: ((eA16 .u32) A16.zero)))]⟩) rfl ?_
  refine Tri.seq ?_
  refine Tri.regionL ?_
  refine OpsL.cons rfl (op_assign rfl) ?_
  refine OpsL.nilK [0, 2, 4, 5] [101] (s' := ⟨[(0, .b (.one (.str s0))), (2, .b (.ptr 101 0)), (4, B x_2), (5, I 0)], [(101, .box 25 (.bool false :: .bool false :: ((eA16 .u32) A16.zero)))]⟩) rfl ?_
  obtain ⟨v5, h6, h⟩ := bnd h
  refine Tri.seqJ (v := v5) (fun (from_3 : Int) => ⟨[(0, .b (.one (.str s0))), (2, .b (.ptr 101 0)), (4, B x_2), (5, I from_3)], [(101, .box 25 (.bool false :: .bool false :: ((eA16 .u32) A16.zero)))]⟩) (fun z => z) ?_ ?_
  · refine Tri.seq ?_
    refine Tri.regionL ?_
    refine OpsL.cons rfl (op_move rfl) ?_
    refine OpsL.nilK [0, 2, 4, 5, 17] [101] (s' := ⟨[(0, .b (.one (.str s0))), (2, .b (.ptr 101 0)), (4, B x_2), (5, I 0), (17, B x_2)], [(101, .box 25 (.bool false :: .bool false :: ((eA16 .u32) A16.zero)))]⟩) rfl ?_
    refine Tri.ite h6 rfl (fun _ h6 => ?_) (fun _ h6 => ?_)
    · refine Tri.regionL ?_
      refine OpsL.cons rfl (op_assign rfl) ?_
      refine OpsL.nil ?_
      exact Fin.join [0, 2, 4, 5] [101] 1 (Option.some.inj h6) rfl
    · refine Tri.skip ?_
      exact Fin.join [0, 2, 4, 5] [101] 0 (Option.some.inj h6) rfl
  · rintro from_3 hv
    subst v5
    refine Tri.seq ?_
    refine Tri.seq ?_
    refine Tri.regionL ?_
    refine OpsL.cons rfl (op_move rfl) ?_
    refine OpsL.cons rfl (op_len_str und9 rfl) ?_
    refine OpsL.cons rfl (op_move rfl) ?_
    refine OpsL.cons rfl (op_eql rfl rfl) ?_
    refine OpsL.cons rfl (op_move rfl) ?_
    refine OpsL.consG (!(decide ((s0.length : Int) = from_3))) 99 [] (.plain rfl) (eq_f _) rfl rfl (fun g7 => trivial) (fun g7 => op_move rfl) ?_
    refine OpsL.keep [0, 2, 4, 5, 22, 23] [101] (s' := ⟨[(0, .b (.one (.str s0))), (2, .b (.ptr 101 0)), (4, B x_2), (5, I from_3), (22, B (decide ((s0.length : Int) = from_3))), (23, .opt (!(decide ((s0.length : Int) = from_3))) (.one (.str s0)))], [(101, .box 25 (.bool false :: .bool false :: ((eA16 .u32) A16.zero)))]⟩) rfl ?_
    refine OpsL.consG (!(decide ((s0.length : Int) = from_3))) 99 [] (.plain rfl) (eq_f _) rfl rfl (fun g8 => trivial) (fun g8 => op_move rfl) ?_
    obtain ⟨x_4, e10, h⟩ := bnd h
    refine OpsL.consG (!(decide ((s0.length : Int) = from_3))) 99 [23, 24] (.plain rfl) (eq_f _) rfl rfl (fun g9 => ⟨g9, g9, trivial⟩) (fun g9 => op_index_str und9 rfl rfl (ix_lo (gc e10 g9)) (ix_get (gc e10 g9))) ?_
    refine OpsL.consG (!(decide ((s0.length : Int) = from_3))) 99 [25] (.plain rfl) (eq_f _) rfl rfl (fun g11 => ⟨g11, trivial⟩) (fun g11 => op_eql rfl rfl) ?_
    refine OpsL.consG (!(decide ((s0.length : Int) = from_3))) 99 [26] (.plain rfl) (eq_f _) rfl rfl (fun g12 => ⟨g12, trivial⟩) (fun g12 => op_move rfl) ?_
    refine OpsL.consG ((!(decide ((s0.length : Int) = from_3))) && (decide ((x_4.toNat : Int) = 48))) 99 [] (.under rfl) (and_t _ _) rfl rfl (fun g13 => trivial) (fun g13 => op_move rfl) ?_
    refine OpsL.consG ((!(decide ((s0.length : Int) = from_3))) && (decide ((x_4.toNat : Int) = 48))) 99 [28] (.under rfl) (and_t _ _) rfl rfl (fun g14 => ⟨g14, trivial⟩) (fun g14 => op_move rfl) ?_
    refine OpsL.consG (((!(decide ((s0.length : Int) = from_3))) && (decide ((x_4.toNat : Int) = 48))) && !x_2) 99 [] (.under rfl) (and_f _ _) rfl rfl (fun g15 => trivial) (fun g15 => op_move rfl) ?_
    refine OpsL.keep [0, 2, 4, 5, 22, 27, 29, 30] [101] (s' := ⟨[(0, .b (.one (.str s0))), (2, .b (.ptr 101 0)), (4, B x_2), (5, I from_3), (22, B (decide ((s0.length : Int) = from_3))), (27, .opt (!(decide ((s0.length : Int) = from_3))) (.one (.bool (decide ((x_4.toNat : Int) = 48))))), (29, .opt ((!(decide ((s0.length : Int) = from_3))) && (decide ((x_4.toNat : Int) = 48))) (.one (.bool x_2))), (30, .opt (((!(decide ((s0.length : Int) = from_3))) && (decide ((x_4.toNat : Int) = 48))) && !x_2) (.one (.str s0)))], [(101, .box 25 (.bool false :: .bool false :: ((eA16 .u32) A16.zero)))]⟩) rfl ?_
    refine OpsL.consG (((!(decide ((s0.length : Int) = from_3))) && (decide ((x_4.toNat : Int) = 48))) && !x_2) 99 [30] (.under rfl) (and_f _ _) rfl rfl (fun g16 => ⟨g16, trivial⟩) (fun g16 => op_len_str und9 rfl) ?_
    refine OpsL.consG (((!(decide ((s0.length : Int) = from_3))) && (decide ((x_4.toNat : Int) = 48))) && !x_2) 99 [31] (.under rfl) (and_f _ _) rfl rfl (fun g17 => ⟨g17, trivial⟩) (fun g17 => op_gtr rfl rfl) ?_
    refine OpsL.consG ((!(decide ((s0.length : Int) = from_3))) && (decide ((x_4.toNat : Int) = 48))) 99 [29] (.under rfl) (and_t _ _) rfl rfl (fun g18 => ⟨g18, trivial⟩) (fun g18 => op_pick_or (fun e => by rw [g18, e]; rfl) rfl rfl rfl rfl) ?_
    refine OpsL.consG (!(decide ((s0.length : Int) = from_3))) 99 [27] (.plain rfl) (eq_f _) rfl rfl (fun g19 => ⟨g19, trivial⟩) (fun g19 => op_pick_and (fun e => by rw [g19, e]; rfl) rfl rfl rfl rfl) ?_
    refine OpsL.consB h rfl (op_pick_or (fun e => by rw [e]; rfl) rfl rfl rfl rfl) (fun x_5 h => ?_)
    refine OpsL.nilK [0, 2, 4, 5, 35] [101] (s' := ⟨[(0, .b (.one (.str s0))), (2, .b (.ptr 101 0)), (4, B x_2), (5, I from_3), (35, B x_5)], [(101, .box 25 (.bool false :: .bool false :: ((eA16 .u32) A16.zero)))]⟩) rfl ?_
    refine Tri.ite h rfl (fun _ h => ?_) (fun _ h => ?_)
    · refine Tri.seq ?_
      refine Tri.regionL ?_
      obtain ⟨x_6, e20, h⟩ := bnd h
      refine OpsL.cons rfl (op_call0 (skewbackref03_Bad_spec e20) goes51 rfl rfl) ?_
      refine OpsL.cons rfl (op_store_p tyAgg25 rfl rfl rfl rfl (Nat.le_of_ble_eq_true rfl) rfl) ?_
      refine OpsL.cons rfl (op_assign rfl) ?_
      refine OpsL.nilK [2, 3] [101] (s' := ⟨[(2, .b (.ptr 101 0)), (3, I 281)], [(101, .box 25 (eBig x_6))]⟩) rfl ?_
      refine Tri.ret ?_
      refine Fin.then_ret ?_
      obtain rfl := Option.some.inj h
      refine Fin.keep [2, 3] [101] (s' := ⟨[(2, .b (.ptr 101 0)), (3, I 281)], [(101, .box 25 (eBig x_6))]⟩) rfl ?_
      refine Fin.result' [.agg (eBig x_6), .one (.i 281)] (.inl rfl) rfl (.cons (.agg tyAgg25 rfl rfl rfl rfl) (.cons (.tmp rfl) .nil)) ⟨rfl, rfl⟩
    · refine Tri.skip ?_
      refine Fin.keep [0, 2, 4, 5] [101] (s' := ⟨[(0, .b (.one (.str s0))), (2, .b (.ptr 101 0)), (4, B x_2), (5, I from_3)], [(101, .box 25 (.bool false :: .bool false :: ((eA16 .u32) A16.zero)))]⟩) rfl ?_
      refine Fin.then ?_
      obtain ⟨v21, h22, h⟩ := bnd h
      refine Tri.seqJ (v := v21) (fun (_ : Unit) => ⟨[(0, .b (.one (.str s0))), (2, .b (.ptr 101 0)), (4, B x_2), (5, I from_3)], [(101, .box 25 (.bool false :: .bool false :: ((eA16 .u32) A16.zero)))]⟩) (fun z => .inl z) ?_ ?_
      · refine Tri.seq ?_
        refine Tri.regionL ?_
        refine OpsL.cons rfl (op_move rfl) ?_
        refine OpsL.cons rfl (op_assign rfl) ?_
        refine OpsL.nilK [0, 2, 4, 5, 6] [101] (s' := ⟨[(0, .b (.one (.str s0))), (2, .b (.ptr 101 0)), (4, B x_2), (5, I from_3), (6, I from_3)], [(101, .box 25 (.bool false :: .bool false :: ((eA16 .u32) A16.zero)))]⟩) rfl ?_
        refine Tri.block ?_
        refine Tri.loopJ h22 (fun (k_7 : Int) => ⟨[(0, .b (.one (.str s0))), (2, .b (.ptr 101 0)), (4, B x_2), (5, I from_3), (6, I k_7)], [(101, .box 25 (.bool false :: .bool false :: ((eA16 .u32) A16.zero)))]⟩) [0, 2, 4, 5, 6] [101] rfl ?_
        rintro k_7 o23 h24 hy25
        refine Tri.seq ?_
        refine Tri.seq ?_
        refine Tri.regionL ?_
        refine OpsL.cons rfl (op_move rfl) ?_
        refine OpsL.cons rfl (op_move rfl) ?_
        refine OpsL.cons rfl (op_len_str und9 rfl) ?_
        refine OpsL.cons rfl (op_lss rfl rfl) ?_
        refine OpsL.nilK [0, 2, 4, 5, 6, 41] [101] (s' := ⟨[(0, .b (.one (.str s0))), (2, .b (.ptr 101 0)), (4, B x_2), (5, I from_3), (6, I k_7), (41, B (decide (k_7 < (s0.length : Int))))], [(101, .box 25 (.bool false :: .bool false :: ((eA16 .u32) A16.zero)))]⟩) rfl ?_
        refine Tri.ite h24 rfl (fun _ h24 => ?_) (fun _ h24 => ?_)
        · refine Tri.skip ?_
          refine Fin.keep [0, 2, 4, 5, 6] [101] (s' := ⟨[(0, .b (.one (.str s0))), (2, .b (.ptr 101 0)), (4, B x_2), (5, I from_3), (6, I k_7)], [(101, .box 25 (.bool false :: .bool false :: ((eA16 .u32) A16.zero)))]⟩) rfl ?_
          refine Fin.then ?_
          refine Tri.seq ?_
          refine Tri.block ?_
          refine Tri.seq ?_
          refine Tri.regionL ?_
          refine OpsL.cons rfl (op_move rfl) ?_
          refine OpsL.cons rfl (op_move rfl) ?_
          obtain ⟨x_8, e26, h24⟩ := bnd h24
          refine OpsL.cons rfl (op_index_str und9 rfl rfl (ix_lo e26) (ix_get e26)) ?_
          refine OpsL.cons rfl (op_lss rfl rfl) ?_
          refine OpsL.cons rfl (op_move rfl) ?_
          refine OpsL.consG (!(decide ((x_8.toNat : Int) < 48))) 99 [] (.plain rfl) (eq_f _) rfl rfl (fun g27 => trivial) (fun g27 => op_move rfl) ?_
          refine OpsL.consG (!(decide ((x_8.toNat : Int) < 48))) 99 [] (.plain rfl) (eq_f _) rfl rfl (fun g28 => trivial) (fun g28 => op_move rfl) ?_
          refine OpsL.keep [0, 2, 4, 5, 6, 48, 49, 50] [101] (s' := ⟨[(0, .b (.one (.str s0))), (2, .b (.ptr 101 0)), (4, B x_2), (5, I from_3), (6, I k_7), (48, B (decide ((x_8.toNat : Int) < 48))), (49, .opt (!(decide ((x_8.toNat : Int) < 48))) (.one (.str s0))), (50, .opt (!(decide ((x_8.toNat : Int) < 48))) (.one (.i k_7)))], [(101, .box 25 (.bool false :: .bool false :: ((eA16 .u32) A16.zero)))]⟩) rfl ?_
          obtain ⟨x_9, e30, h24⟩ := bnd h24
          refine OpsL.consG (!(decide ((x_8.toNat : Int) < 48))) 99 [49, 50] (.plain rfl) (eq_f _) rfl rfl (fun g29 => ⟨g29, g29, trivial⟩) (fun g29 => op_index_str und9 rfl rfl (ix_lo (gc e30 g29)) (ix_get (gc e30 g29))) ?_
          refine OpsL.consG (!(decide ((x_8.toNat : Int) < 48))) 99 [51] (.plain rfl) (eq_f _) rfl rfl (fun g31 => ⟨g31, trivial⟩) (fun g31 => op_gtr rfl rfl) ?_
          refine OpsL.consB h24 rfl (op_pick_or (fun e => by rw [e]; rfl) rfl rfl rfl rfl) (fun x_10 h24 => ?_)
          refine OpsL.nilK [0, 2, 4, 5, 6, 53] [101] (s' := ⟨[(0, .b (.one (.str s0))), (2, .b (.ptr 101 0)), (4, B x_2), (5, I from_3), (6, I k_7), (53, B x_10)], [(101, .box 25 (.bool false :: .bool false :: ((eA16 .u32) A16.zero)))]⟩) rfl ?_
          refine Tri.ite h24 rfl (fun _ h24 => ?_) (fun _ h24 => ?_)
          · refine Tri.seq ?_
            refine Tri.regionL ?_
            obtain ⟨x_11, e32, h24⟩ := bnd h24
            refine OpsL.cons rfl (op_call0 (skewbackref03_Bad_spec e32) goes51 rfl rfl) ?_
            refine OpsL.cons rfl (op_store_p tyAgg25 rfl rfl rfl rfl (Nat.le_of_ble_eq_true rfl) rfl) ?_
            refine OpsL.cons rfl (op_assign rfl) ?_
            refine OpsL.nilK [2, 3] [101] (s' := ⟨[(2, .b (.ptr 101 0)), (3, I 281)], [(101, .box 25 (eBig x_11))]⟩) rfl ?_
            refine Tri.ret ?_
            refine Fin.block_ret ?_
            refine Fin.then_ret ?_
            obtain rfl := hy25 _ (Option.some.inj h24).symm
            refine Fin.then_ret ?_
            refine Fin.block_ret ?_
            refine Fin.then_ret ?_
            obtain rfl := Option.some.inj h
            refine Fin.keep [2, 3] [101] (s' := ⟨[(2, .b (.ptr 101 0)), (3, I 281)], [(101, .box 25 (eBig x_11))]⟩) rfl ?_
            refine Fin.result' [.agg (eBig x_11), .one (.i 281)] (.inl rfl) rfl (.cons (.agg tyAgg25 rfl rfl rfl rfl) (.cons (.tmp rfl) .nil)) ⟨rfl, rfl⟩
          · refine Tri.skip ?_
            refine Fin.block_normal ?_
            refine Fin.keep [0, 2, 4, 5, 6] [101] (s' := ⟨[(0, .b (.one (.str s0))), (2, .b (.ptr 101 0)), (4, B x_2), (5, I from_3), (6, I k_7)], [(101, .box 25 (.bool false :: .bool false :: ((eA16 .u32) A16.zero)))]⟩) rfl ?_
            refine Fin.then ?_
            refine Tri.regionL ?_
            refine OpsL.cons rfl (op_move rfl) ?_
            refine OpsL.cons rfl (op_add rfl rfl) ?_
            refine OpsL.cons rfl (op_assign rfl) ?_
            refine OpsL.nil ?_
            exact Fin.againJ [0, 2, 4, 5, 6] [101] (IntKind.i64.wrap (k_7 + 1)) (Option.some.inj h24) rfl
        · refine Tri.exit ?_
          refine Fin.then_exit ?_
          obtain rfl := hy25 _ (Option.some.inj h24).symm
          refine Fin.then_exit ?_
          refine Fin.block_exit ?_
          exact Fin.join [0, 2, 4, 5] [101] () rfl rfl
      · rintro _ hv
        subst v21
        refine Tri.seq ?_
        refine Tri.regionL ?_
        refine OpsL.cons rfl (op_assign rfl) ?_
        refine OpsL.nilK [0, 2, 4, 5, 7] [101] (s' := ⟨[(0, .b (.one (.str s0))), (2, .b (.ptr 101 0)), (4, B x_2), (5, I from_3), (7, .b (.one (.nil)))], [(101, .box 25 (.bool false :: .bool false :: ((eA16 .u32) A16.zero)))]⟩) rfl ?_
        obtain ⟨v33, h34, h⟩ := bnd h
        refine Tri.seqJ (v := v33) (fun (d_12 : List Int) => ⟨[(2, .b (.ptr 101 0)), (4, B x_2), (7, .b (.one (.sl 1 (d_12.map eI))))], [(101, .box 25 (.bool false :: .bool false :: ((eA16 .u32) A16.zero)))]⟩) (fun z => .inl z) ?_ ?_
        · refine Tri.seq ?_
          refine Tri.regionL ?_
          refine OpsL.cons rfl (op_move rfl) ?_
          refine OpsL.cons rfl (op_assign rfl) ?_
          refine OpsL.nilK [0, 2, 4, 7, 8] [101] (s' := ⟨[(0, .b (.one (.str s0))), (2, .b (.ptr 101 0)), (4, B x_2), (7, .b (.one (.nil))), (8, I from_3)], [(101, .box 25 (.bool false :: .bool false :: ((eA16 .u32) A16.zero)))]⟩) rfl ?_
          refine Tri.block ?_
          refine Tri.keep [0, 2, 4, 7, 8] [101] (s' := ⟨[(0, .b (.one (.str s0))), (2, .b (.ptr 101 0)), (4, B x_2), (7, .b (.one (.nil))), (8, I from_3)], [(101, .box 25 (.bool false :: .bool false :: ((eA16 .u32) A16.zero)))]⟩) rfl ?_
          refine Tri.nilsl 7 1 rfl (by decide) ?_
          refine Tri.loopJ h34 (un2 fun (d_13 : List Int) (k_14 : Int) => ⟨[(0, .b (.one (.str s0))), (2, .b (.ptr 101 0)), (4, B x_2), (7, .b (.one (.sl 1 (d_13.map eI)))), (8, I k_14)], [(101, .box 25 (.bool false :: .bool false :: ((eA16 .u32) A16.zero)))]⟩) [0, 2, 4, 7, 8] [101] rfl ?_
          rintro ⟨d_13, k_14⟩ o35 h36 hy37
          refine Tri.seq ?_
          refine Tri.seq ?_
          refine Tri.regionL ?_
          refine OpsL.cons rfl (op_move rfl) ?_
          refine OpsL.cons rfl (op_move rfl) ?_
          refine OpsL.cons rfl (op_len_str und9 rfl) ?_
          refine OpsL.cons rfl (op_lss rfl rfl) ?_
          refine OpsL.nilK [0, 2, 4, 7, 8, 59] [101] (s' := ⟨[(0, .b (.one (.str s0))), (2, .b (.ptr 101 0)), (4, B x_2), (7, .b (.one (.sl 1 (d_13.map eI)))), (8, I k_14), (59, B (decide (k_14 < (s0.length : Int))))], [(101, .box 25 (.bool false :: .bool false :: ((eA16 .u32) A16.zero)))]⟩) rfl ?_
          refine Tri.ite h36 rfl (fun _ h36 => ?_) (fun _ h36 => ?_)
          · refine Tri.skip ?_
            refine Fin.keep [0, 2, 4, 7, 8] [101] (s' := ⟨[(0, .b (.one (.str s0))), (2, .b (.ptr 101 0)), (4, B x_2), (7, .b (.one (.sl 1 (d_13.map eI)))), (8, I k_14)], [(101, .box 25 (.bool false :: .bool false :: ((eA16 .u32) A16.zero)))]⟩) rfl ?_
            refine Fin.then ?_
            refine Tri.seq ?_
            refine Tri.block ?_
            refine Tri.seq ?_
            refine Tri.keep [0, 2, 4, 7, 8] [101] (s' := ⟨[(0, .b (.one (.str s0))), (2, .b (.ptr 101 0)), (4, B x_2), (7, .b (.one (.sl 1 (d_13.map eI)))), (8, I k_14)], [(101, .box 25 (.bool false :: .bool false :: ((eA16 .u32) A16.zero)))]⟩) rfl ?_
            obtain ⟨x_16, e38, h36⟩ := bnd h36
            obtain ⟨x_17, e39, h36⟩ := bnd h36
            obtain ⟨x_18, e40, h36⟩ := bnd h36
            obtain ⟨x_19, e41, h36⟩ := bnd h36
            refine Tri.regionY mixed 11 [.b (.one (.sl 1 (d_13.map eI))), .b (.one (.sl 1 ([10].map eI))), .b (.one (.sl 1 (x_16.map eI))), .b (.one (.str s0)), I k_14, .b (.one (.int .u8 (x_17.toNat : Int))), I (IntKind.i64.wrap (x_17.toNat : Int)), I (IntKind.i64.wrap ((IntKind.i64.wrap (x_17.toNat : Int)) - 48)), .b (.one (.sl 1 ([IntKind.i64.wrap ((IntKind.i64.wrap (x_17.toNat : Int)) - 48)].map eI))), .b (.one (.sl 1 (x_18.map eI))), .b (.one (.sl 1 (x_19.map eI)))] [0, 2, 4, 7, 8] [101] (s' := ⟨[(0, .b (.one (.str s0))), (2, .b (.ptr 101 0)), (4, B x_2), (7, .b (.one (.sl 1 (x_19.map eI)))), (8, I k_14)], [(101, .box 25 (.bool false :: .bool false :: ((eA16 .u32) A16.zero)))]⟩) rfl ⟨fun _ => .plain rfl (op_move rfl), fun _ => .plain rfl (op_buildSliceP (es := [10].map eI) tySl54 rfl rfl (uni_map fun _ => rfl) rfl (by decide) (by decide)), fun _ => .plain rfl (op_call0 (skewbackref03_times_spec e38) goes61 rfl rfl), fun _ => .plain rfl (op_move rfl), fun _ => .plain rfl (op_move rfl), fun _ => .plain rfl (op_index_str und9 rfl rfl (ix_lo e39) (ix_get e39)), fun _ => .plain rfl (op_conv_wrap undi5 undi3 rfl), fun _ => .plain rfl (op_sub rfl rfl), fun _ => .plain rfl (op_buildSliceP (es := [IntKind.i64.wrap ((IntKind.i64.wrap (x_17.toNat : Int)) - 48)].map eI) tySl54 rfl rfl (uni_map fun _ => rfl) rfl (by decide) (by decide)), fun _ => .plain rfl (op_call0 (skewbackref03_trim_spec e40) goes70 rfl rfl), fun _ => .plain rfl (op_call0 (skewbackref03_plus_spec e41) goes54 rfl rfl), trivial⟩ ⟨_, by exact .plain rfl (op_assign rfl), rfl⟩ rfl ?_
            refine Tri.seq ?_
            refine Tri.regionL ?_
            refine OpsL.cons rfl (op_move rfl) ?_
            refine OpsL.cons rfl (op_len_e' und54 rfl (List.length_map _)) ?_
            refine OpsL.cons rfl (op_gtr rfl rfl) ?_
            refine OpsL.nilK [0, 2, 4, 7, 8, 75] [101] (s' := ⟨[(0, .b (.one (.str s0))), (2, .b (.ptr 101 0)), (4, B x_2), (7, .b (.one (.sl 1 (x_19.map eI)))), (8, I k_14), (75, B (decide (32 < (x_19.length : Int))))], [(101, .box 25 (.bool false :: .bool false :: ((eA16 .u32) A16.zero)))]⟩) rfl ?_
            refine Tri.ite h36 rfl (fun _ h36 => ?_) (fun _ h36 => ?_)
            · refine Tri.seq ?_
              refine Tri.regionL ?_
              obtain ⟨x_20, e42, h36⟩ := bnd h36
              refine OpsL.cons rfl (op_call0 (skewbackref03_Bad_spec e42) goes51 rfl rfl) ?_
              refine OpsL.cons rfl (op_store_p tyAgg25 rfl rfl rfl rfl (Nat.le_of_ble_eq_true rfl) rfl) ?_
              refine OpsL.cons rfl (op_assign rfl) ?_
              refine OpsL.nilK [2, 3] [101] (s' := ⟨[(2, .b (.ptr 101 0)), (3, I 30)], [(101, .box 25 (eBig x_20))]⟩) rfl ?_
              refine Tri.ret ?_
              refine Fin.block_ret ?_
              refine Fin.then_ret ?_
              obtain rfl := hy37 _ (Option.some.inj h36).symm
              refine Fin.then_ret ?_
              refine Fin.block_ret ?_
              refine Fin.then_ret ?_
              obtain rfl := Option.some.inj h
              refine Fin.keep [2, 3] [101] (s' := ⟨[(2, .b (.ptr 101 0)), (3, I 30)], [(101, .box 25 (eBig x_20))]⟩) rfl ?_
              refine Fin.result' [.agg (eBig x_20), .one (.i 30)] (.inl rfl) rfl (.cons (.agg tyAgg25 rfl rfl rfl rfl) (.cons (.tmp rfl) .nil)) ⟨rfl, rfl⟩
            · refine Tri.skip ?_
              refine Fin.block_normal ?_
              refine Fin.keep [0, 2, 4, 7, 8] [101] (s' := ⟨[(0, .b (.one (.str s0))), (2, .b (.ptr 101 0)), (4, B x_2), (7, .b (.one (.sl 1 (x_19.map eI)))), (8, I k_14)], [(101, .box 25 (.bool false :: .bool false :: ((eA16 .u32) A16.zero)))]⟩) rfl ?_
              refine Fin.then ?_
              refine Tri.regionL ?_
              refine OpsL.cons rfl (op_move rfl) ?_
              refine OpsL.cons rfl (op_add rfl rfl) ?_
              refine OpsL.cons rfl (op_assign rfl) ?_
              refine OpsL.nil ?_
              exact Fin.againJ [0, 2, 4, 7, 8] [101] (x_19, IntKind.i64.wrap (k_14 + 1)) (Option.some.inj h36) rfl
          · refine Tri.exit ?_
            refine Fin.then_exit ?_
            obtain rfl := hy37 _ (Option.some.inj h36).symm
            refine Fin.then_exit ?_
            refine Fin.block_exit ?_
            exact Fin.join [2, 4, 7] [101] d_13 rfl rfl
        · rintro d_12 hv
          subst v33
          refine Tri.seq ?_
          refine Tri.regionL ?_
          refine OpsL.cons rfl (op_move rfl) ?_
          refine OpsL.cons rfl (op_move rfl) ?_
          obtain ⟨x_21, e43, h⟩ := bnd h
          refine OpsL.cons rfl (op_call0 (skewbackref03_number_spec e43) goes53 rfl rfl) ?_
          refine OpsL.cons rfl (op_store_p tyAgg25 rfl rfl rfl rfl (Nat.le_of_ble_eq_true rfl) rfl) ?_
          refine OpsL.cons rfl (op_assign rfl) ?_
          refine OpsL.nilK [2, 3] [101] (s' := ⟨[(2, .b (.ptr 101 0)), (3, I 0)], [(101, .box 25 (eBig x_21))]⟩) rfl ?_
          refine Tri.ret ?_
          obtain rfl := Option.some.inj h
          refine Fin.keep [2, 3] [101] (s' := ⟨[(2, .b (.ptr 101 0)), (3, I 0)], [(101, .box 25 (eBig x_21))]⟩) rfl ?_
          refine Fin.result' [.agg (eBig x_21), .one (.i 0)] (.inl rfl) rfl (.cons (.agg tyAgg25 rfl rfl rfl rfl) (.cons (.tmp rfl) .nil)) ⟨rfl, rfl⟩

def skewbacklaw03_WholeTextsMatchSpec_S (F : Nat) (x0 : Big) (s0 : Str) : Option Bool :=
 if (decide (400 < (s0.length : Int))) = true then (Option.bind (skewbacklaw03_sanity_S F) (fun x_1 => some x_1)) else (Option.bind (whole_Text_S F x0) (fun x_2 => Option.bind (skewbackref03_Text_S F x0) (fun x_3 => if (decide (x_2 ≠ x_3)) = true then (some false) else (Option.bind (Option.bind (skewbackref03_Good_S F x0) (fun x_4 => if x_4 = true then (Option.bind (whole_Parse_S F x_2) (un2 fun x_5 x_6 => if ((decide (x_5 ≠ x0)) || (decide (x_6 ≠ 0))) = true then (some (.inr false)) else (some (.inl ())))) else (some (.inl ())))) (alt2 (fun _ => Option.bind (whole_Parse_S F s0) (un2 fun x_7 x_8 => Option.bind (skewbackref03_Parse_S F s0) (un2 fun x_9 x_10 => Option.bind (skewbacklaw03_sanity_S F) (fun x_11 => Option.bind (gcall (((x_11 && (decide (x_7 = x_9))) && (decide (x_8 = x_10))) && !(decide (x_8 ≠ 0))) (whole_Text_S F x_7)) (fun x_12 => letN (((x_11 && (decide (x_7 = x_9))) && (decide (x_8 = x_10))) && ((decide (x_8 ≠ 0)) || (decide (x_12 = s0)))) fun x_13 => some x_13))))) (fun y => some y))))))
theorem skewbacklaw03_WholeTextsMatchSpec_spec {F : Nat} {x0 : Big} {s0 : Str} {r : Bool} (h : skewbacklaw03_WholeTextsMatchSpec_S F x0 s0 = some r) : Meets Tryd.prog tabs 5 [] [.agg (eBig x0), .one (.str s0)] (Is [] (.b (.one (.bool r)))) := by
  unfold skewbacklaw03_WholeTextsMatchSpec_S at h
  refine Meets.intro 67 Tryd.func5 Tryd.ntmps5 rfl (by simp) fun E => ?_
  show Tri _ E ⟨67, [], []⟩ _ ⟨[(0, .b (.agg (eBig x0))), (1, .b (.one (.str s0)))], []⟩ _
  refine Tri.seq ?_
  refine Tri.regionL ?_
  refine OpsL.cons rfl (op_box (k := 101) rfl rfl) ?_
  refine OpsL.cons rfl (op_assign rfl) ?_
  refine OpsL.nilK [1, 2] [101] (s' := ⟨[(1, .b (.one (.str s0))), (2, .b (.ptr 101 0))], [(101, .box 25 (eBig x0))]⟩) rfl ?_
  refine Tri.seq ?_
  refine Tri.seq ?_
  refine Tri.regionL ?_
  refine OpsL.cons rfl (op_move rfl) ?_
  refine OpsL.cons rfl (op_len_str und9 rfl) ?_
  refine OpsL.cons rfl (op_gtr rfl rfl) ?_
  refine OpsL.nilK [1, 2, 14] [101] (s' := ⟨[(1, .b (.one (.str s0))), (2, .b (.ptr 101 0)), (14, B (decide (400 < (s0.length : Int))))], [(101, .box 25 (eBig x0))]⟩) rfl ?_
  refine Tri.ite h rfl (fun _ h => ?_) (fun _ h => ?_)
  · refine Tri.seq ?_
    refine Tri.regionL ?_
    obtain ⟨x_1, e1, h⟩ := bnd h
    refine OpsL.cons rfl (op_call0 (skewbacklaw03_sanity_spec e1) goes22 rfl rfl) ?_
    refine OpsL.cons rfl (op_assign rfl) ?_
    refine OpsL.nilK [4] [] (s' := ⟨[(4, B x_1)], []⟩) rfl ?_
    refine Tri.ret ?_
    refine Fin.then_ret ?_
    obtain rfl := Option.some.inj h
    refine Fin.keep [4] [] (s' := ⟨[(4, B x_1)], []⟩) rfl ?_
    refine Fin.result' [.one (.bool x_1)] (.inl rfl) rfl (.cons (.tmp rfl) .nil) ⟨rfl, rfl⟩
  · refine Tri.skip ?_
    refine Fin.keep [1, 2] [101] (s' := ⟨[(1, .b (.one (.str s0))), (2, .b (.ptr 101 0))], [(101, .box 25 (eBig x0))]⟩) rfl ?_
    refine Fin.then ?_
    refine Tri.seq ?_
    refine Tri.regionL ?_
    refine OpsL.cons rfl (op_load_p tyAgg25 rfl rfl rfl rfl) ?_
    obtain ⟨x_2, e2, h⟩ := bnd h
    refine OpsL.cons rfl (op_call0 (whole_Text_spec e2) goes33 rfl rfl) ?_
    refine OpsL.cons rfl (op_assign rfl) ?_
    refine OpsL.nilK [1, 2, 5] [101] (s' := ⟨[(1, .b (.one (.str s0))), (2, .b (.ptr 101 0)), (5, .b (.one (.str x_2)))], [(101, .box 25 (eBig x0))]⟩) rfl ?_
    refine Tri.seq ?_
    refine Tri.seq ?_
    refine Tri.regionL ?_
    refine OpsL.cons rfl (op_move rfl) ?_
    refine OpsL.cons rfl (op_load_p tyAgg25 rfl rfl rfl rfl) ?_
    obtain ⟨x_3, e3, h⟩ := bnd h
    refine OpsL.cons rfl (op_call0 (skewbackref03_Text_spec e3) goes34 rfl rfl) ?_
    refine OpsL.cons rfl (op_neq_str rfl rfl) ?_
    refine OpsL.nilK [1, 2, 5, 21] [101] (s' := ⟨[(1, .b (.one (.str s0))), (2, .b (.ptr 101 0)), (5, .b (.one (.str x_2))), (21, B (decide (x_2 ≠ x_3)))], [(101, .box 25 (eBig x0))]⟩) rfl ?_
    refine Tri.ite h rfl (fun _ h => ?_) (fun _ h => ?_)
    · refine Tri.seq ?_
      refine Tri.regionL ?_
      refine OpsL.cons rfl (op_assign rfl) ?_
      refine OpsL.nilK [4] [] (s' := ⟨[(4, B false)], []⟩) rfl ?_
      refine Tri.ret ?_
      refine Fin.then_ret ?_
      obtain rfl := Option.some.inj h
      refine Fin.keep [4] [] (s' := ⟨[(4, B false)], []⟩) rfl ?_
      refine Fin.result' [.one (.bool false)] (.inl rfl) rfl (.cons (.tmp rfl) .nil) ⟨rfl, rfl⟩
    · refine Tri.skip ?_
      refine Fin.keep [1, 2, 5] [101] (s' := ⟨[(1, .b (.one (.str s0))), (2, .b (.ptr 101 0)), (5, .b (.one (.str x_2)))], [(101, .box 25 (eBig x0))]⟩) rfl ?_
      refine Fin.then ?_
      obtain ⟨v4, h5, h⟩ := bnd h
      refine Tri.seqJ (v := v4) (fun (_ : Unit) => ⟨[(1, .b (.one (.str s0)))], []⟩) (fun z => .inl z) ?_ ?_
      · refine Tri.seq ?_
        refine Tri.regionL ?_
        refine OpsL.cons rfl (op_load_p tyAgg25 rfl rfl rfl rfl) ?_
        obtain ⟨x_4, e6, h5⟩ := bnd h5
        refine OpsL.cons rfl (op_call0 (skewbackref03_Good_spec e6) goes35 rfl rfl) ?_
        refine OpsL.nilK [1, 2, 5, 23] [101] (s' := ⟨[(1, .b (.one (.str s0))), (2, .b (.ptr 101 0)), (5, .b (.one (.str x_2))), (23, B x_4)], [(101, .box 25 (eBig x0))]⟩) rfl ?_
        refine Tri.ite h5 rfl (fun _ h5 => ?_) (fun _ h5 => ?_)
        · refine Tri.seq ?_
          refine Tri.regionL ?_
          refine OpsL.cons rfl (op_move rfl) ?_
          obtain ⟨⟨x_5, x_6⟩, e7, h5⟩ := bnd h5
          refine OpsL.cons rfl (op_call0 (whole_Parse_spec e7) goes36 rfl rfl) ?_
          refine OpsL.cons rfl (op_move rfl) ?_
          refine OpsL.cons rfl (op_extract rfl rfl) ?_
          refine OpsL.cons rfl (op_extract rfl rfl) ?_
          refine OpsL.keep [1, 2, 27, 28] [101] (s' := ⟨[(1, .b (.one (.str s0))), (2, .b (.ptr 101 0)), (27, .b (.agg (eBig x_5))), (28, I x_6)], [(101, .box 25 (eBig x0))]⟩) rfl ?_
          refine OpsL.cons rfl (op_alloc (k := 102) tyZero25 rfl) ?_
          refine OpsL.cons rfl (op_store_p tyAgg25 rfl rfl rfl rfl (Nat.le_of_ble_eq_true rfl) rfl) ?_
          refine OpsL.cons rfl (op_assign rfl) ?_
          refine OpsL.nilK [1, 2, 6, 7] [101, 102] (s' := ⟨[(1, .b (.one (.str s0))), (2, .b (.ptr 101 0)), (6, .b (.ptr 102 0)), (7, I x_6)], [(101, .box 25 (eBig x0)), (102, .box 25 (eBig x_5))]⟩) rfl ?_
          refine Tri.seq ?_
          refine Tri.regionL ?_
          refine OpsL.cons rfl (op_load_p tyAgg25 rfl rfl rfl rfl) ?_
          refine OpsL.cons rfl (op_load_p tyAgg25 rfl rfl rfl rfl) ?_
          refine OpsL.cons rfl (op_neq_agg (eqAgg25 x_5 x0) rfl rfl neg_dec) ?_
          refine OpsL.cons rfl (op_move rfl) ?_
          refine OpsL.consG (!(decide (x_5 ≠ x0))) 99 [] (.plain rfl) (eq_f _) rfl rfl (fun g8 => trivial) (fun g8 => op_move rfl) ?_
          refine OpsL.consG (!(decide (x_5 ≠ x0))) 99 [33] (.plain rfl) (eq_f _) rfl rfl (fun g9 => ⟨g9, trivial⟩) (fun g9 => op_neq rfl rfl) ?_
          refine OpsL.cons rfl (op_pick_or (fun e => by rw [e]; rfl) rfl rfl rfl rfl) ?_
          refine OpsL.nilK [1, 35] [] (s' := ⟨[(1, .b (.one (.str s0))), (35, B ((decide (x_5 ≠ x0)) || (decide (x_6 ≠ 0))))], []⟩) rfl ?_
          refine Tri.ite h5 rfl (fun _ h5 => ?_) (fun _ h5 => ?_)
          · refine Tri.seq ?_
            refine Tri.regionL ?_
            refine OpsL.cons rfl (op_assign rfl) ?_
            refine OpsL.nilK [4] [] (s' := ⟨[(4, B false)], []⟩) rfl ?_
            refine Tri.ret ?_
            obtain rfl := Option.some.inj h5
            refine Fin.then_ret ?_
            obtain rfl := Option.some.inj h
            refine Fin.keep [4] [] (s' := ⟨[(4, B false)], []⟩) rfl ?_
            refine Fin.result' [.one (.bool false)] (.inl rfl) rfl (.cons (.tmp rfl) .nil) ⟨rfl, rfl⟩
          · refine Tri.skip ?_
            exact Fin.join [1] [] () (Option.some.inj h5) rfl
        · refine Tri.skip ?_
          exact Fin.join [1] [] () (Option.some.inj h5) rfl
      · rintro _ hv
        subst v4
        refine Tri.seq ?_
        refine Tri.regionL ?_
        refine OpsL.cons rfl (op_move rfl) ?_
        obtain ⟨⟨x_7, x_8⟩, e10, h⟩ := bnd h
        refine OpsL.cons rfl (op_call0 (whole_Parse_spec e10) goes36 rfl rfl) ?_
        refine OpsL.cons rfl (op_move rfl) ?_
        refine OpsL.cons rfl (op_extract rfl rfl) ?_
        refine OpsL.cons rfl (op_extract rfl rfl) ?_
        refine OpsL.keep [1, 39, 40] [] (s' := ⟨[(1, .b (.one (.str s0))), (39, .b (.agg (eBig x_7))), (40, I x_8)], []⟩) rfl ?_
        refine OpsL.cons rfl (op_alloc (k := 103) tyZero25 rfl) ?_
        refine OpsL.cons rfl (op_store_p tyAgg25 rfl rfl rfl rfl (Nat.le_of_ble_eq_true rfl) rfl) ?_
        refine OpsL.cons rfl (op_assign rfl) ?_
        refine OpsL.nilK [1, 8, 9] [103] (s' := ⟨[(1, .b (.one (.str s0))), (8, .b (.ptr 103 0)), (9, I x_8)], [(103, .box 25 (eBig x_7))]⟩) rfl ?_
        refine Tri.seq ?_
        refine Tri.regionL ?_
        refine OpsL.cons rfl (op_move rfl) ?_
        obtain ⟨⟨x_9, x_10⟩, e11, h⟩ := bnd h
        refine OpsL.cons rfl (op_call0 (skewbackref03_Parse_spec e11) goes37 rfl rfl) ?_
        refine OpsL.cons rfl (op_move rfl) ?_
        refine OpsL.cons rfl (op_extract rfl rfl) ?_
        refine OpsL.cons rfl (op_extract rfl rfl) ?_
        refine OpsL.keep [1, 8, 9, 44, 45] [103] (s' := ⟨[(1, .b (.one (.str s0))), (8, .b (.ptr 103 0)), (9, I x_8), (44, .b (.agg (eBig x_9))), (45, I x_10)], [(103, .box 25 (eBig x_7))]⟩) rfl ?_
        refine OpsL.cons rfl (op_alloc (k := 104) tyZero25 rfl) ?_
        refine OpsL.cons rfl (op_store_p tyAgg25 rfl rfl rfl rfl (Nat.le_of_ble_eq_true rfl) rfl) ?_
        refine OpsL.cons rfl (op_assign rfl) ?_
        refine OpsL.nilK [1, 8, 9, 10, 11] [103, 104] (s' := ⟨[(1, .b (.one (.str s0))), (8, .b (.ptr 103 0)), (9, I x_8), (10, .b (.ptr 104 0)), (11, I x_10)], [(103, .box 25 (eBig x_7)), (104, .box 25 (eBig x_9))]⟩) rfl ?_
        refine Tri.seq ?_
        refine Tri.regionL ?_
        obtain ⟨x_11, e12, h⟩ := bnd h
        refine OpsL.cons rfl (op_call0 (skewbacklaw03_sanity_spec e12) goes22 rfl rfl) ?_
        refine OpsL.cons rfl (op_move rfl) ?_
        refine OpsL.consG x_11 99 [] (.plain rfl) (eq_t _) rfl rfl (fun g13 => trivial) (fun g13 => op_load_p tyAgg25 rfl rfl rfl rfl) ?_
        refine OpsL.consG x_11 99 [] (.plain rfl) (eq_t _) rfl rfl (fun g14 => trivial) (fun g14 => op_load_p tyAgg25 rfl rfl rfl rfl) ?_
        refine OpsL.consG x_11 99 [48, 49] (.plain rfl) (eq_t _) rfl rfl (fun g15 => ⟨g15, g15, trivial⟩) (fun g15 => op_eql_agg (eqAgg25 x_7 x_9) rfl rfl) ?_
        refine OpsL.keep [1, 8, 9, 11, 47, 50] [103] (s' := ⟨[(1, .b (.one (.str s0))), (8, .b (.ptr 103 0)), (9, I x_8), (11, I x_10), (47, B x_11), (50, .opt x_11 (.one (.bool (decide (x_7 = x_9)))))], [(103, .box 25 (eBig x_7))]⟩) rfl ?_
        refine OpsL.cons rfl (op_pick_and (fun e => e) rfl rfl rfl rfl) ?_
        refine OpsL.cons rfl (op_move rfl) ?_
        refine OpsL.consG (x_11 && (decide (x_7 = x_9))) 99 [] (.plain rfl) (eq_t _) rfl rfl (fun g16 => trivial) (fun g16 => op_move rfl) ?_
        refine OpsL.consG (x_11 && (decide (x_7 = x_9))) 99 [] (.plain rfl) (eq_t _) rfl rfl (fun g17 => trivial) (fun g17 => op_move rfl) ?_
        refine OpsL.consG (x_11 && (decide (x_7 = x_9))) 99 [53, 54] (.plain rfl) (eq_t _) rfl rfl (fun g18 => ⟨g18, g18, trivial⟩) (fun g18 => op_eql rfl rfl) ?_
        refine OpsL.cons rfl (op_pick_and (fun e => e) rfl rfl rfl rfl) ?_
        refine OpsL.cons rfl (op_move rfl) ?_
        refine OpsL.consG ((x_11 && (decide (x_7 = x_9))) && (decide (x_8 = x_10))) 99 [] (.plain rfl) (eq_t _) rfl rfl (fun g19 => trivial) (fun g19 => op_move rfl) ?_
        refine OpsL.keep [1, 8, 57, 58] [103] (s' := ⟨[(1, .b (.one (.str s0))), (8, .b (.ptr 103 0)), (57, B ((x_11 && (decide (x_7 = x_9))) && (decide (x_8 = x_10)))), (58, .opt ((x_11 && (decide (x_7 = x_9))) && (decide (x_8 = x_10))) (.one (.i x_8)))], [(103, .box 25 (eBig x_7))]⟩) rfl ?_
        refine OpsL.consG ((x_11 && (decide (x_7 = x_9))) && (decide (x_8 = x_10))) 99 [58] (.plain rfl) (eq_t _) rfl rfl (fun g20 => ⟨g20, trivial⟩) (fun g20 => op_neq rfl rfl) ?_
        refine OpsL.consG ((x_11 && (decide (x_7 = x_9))) && (decide (x_8 = x_10))) 99 [59] (.plain rfl) (eq_t _) rfl rfl (fun g21 => ⟨g21, trivial⟩) (fun g21 => op_move rfl) ?_
        refine OpsL.consG (((x_11 && (decide (x_7 = x_9))) && (decide (x_8 = x_10))) && !(decide (x_8 ≠ 0))) 99 [] (.under rfl) (and_f _ _) rfl rfl (fun g22 => trivial) (fun g22 => op_load_p tyAgg25 rfl rfl rfl rfl) ?_
        obtain ⟨x_12, e24, h⟩ := bnd h
        refine OpsL.consG (((x_11 && (decide (x_7 = x_9))) && (decide (x_8 = x_10))) && !(decide (x_8 ≠ 0))) 99 [61] (.under rfl) (and_f _ _) rfl rfl (fun g23 => ⟨g23, trivial⟩) (fun g23 => op_call0 (whole_Text_spec (gc e24 g23)) goes33 rfl rfl) ?_
        refine OpsL.consG (((x_11 && (decide (x_7 = x_9))) && (decide (x_8 = x_10))) && !(decide (x_8 ≠ 0))) 99 [] (.under rfl) (and_f _ _) rfl rfl (fun g25 => trivial) (fun g25 => op_move rfl) ?_
        refine OpsL.consG (((x_11 && (decide (x_7 = x_9))) && (decide (x_8 = x_10))) && !(decide (x_8 ≠ 0))) 99 [62, 63] (.under rfl) (and_f _ _) rfl rfl (fun g26 => ⟨g26, g26, trivial⟩) (fun g26 => op_eql_str rfl rfl) ?_
        refine OpsL.keep [57, 60, 64] [] (s' := ⟨[(57, B ((x_11 && (decide (x_7 = x_9))) && (decide (x_8 = x_10)))), (60, .opt ((x_11 && (decide (x_7 = x_9))) && (decide (x_8 = x_10))) (.one (.bool (decide (x_8 ≠ 0))))), (64, .opt (((x_11 && (decide (x_7 = x_9))) && (decide (x_8 = x_10))) && !(decide (x_8 ≠ 0))) (.one (.bool (decide (x_12 = s0)))))], []⟩) rfl ?_
        refine OpsL.consG ((x_11 && (decide (x_7 = x_9))) && (decide (x_8 = x_10))) 99 [60] (.plain rfl) (eq_t _) rfl rfl (fun g27 => ⟨g27, trivial⟩) (fun g27 => op_pick_or (fun e => by rw [g27, e]; rfl) rfl rfl rfl rfl) ?_
        refine OpsL.consB h rfl (op_pick_and (fun e => e) rfl rfl rfl rfl) (fun x_13 h => ?_)
        refine OpsL.cons rfl (op_assign rfl) ?_
        refine OpsL.nilK [4] [] (s' := ⟨[(4, B x_13)], []⟩) rfl ?_
        refine Tri.ret ?_
        obtain rfl := Option.some.inj h
        refine Fin.keep [4] [] (s' := ⟨[(4, B x_13)], []⟩) rfl ?_
        refine Fin.result' [.one (.bool x_13)] (.inl rfl) rfl (.cons (.tmp rfl) .nil) ⟨rfl, rfl⟩

end Go.Proofs.YtaigaoifloldcaaDoor
