/- printed walks -/
import Derived.Test.YtaigaoifloldcaaDoorW2
namespace Go.Proofs.YtaigaoifloldcaaDoor
open Go.Sk
set_option maxHeartbeats 1000000
set_option maxRecDepth 4000
set_option linter.unusedSimpArgs false
set_option linter.unusedVariables false
def skewbacklaw03_WholeIntsAgree_S (F : Nat) (n0 : Int) (m0 : Int) : Option Bool :=
 Option.bind (whole_Of_S F n0) (fun x_1 => Option.bind (whole_Of_S F m0) (fun x_2 => Option.bind (whole_Small_S F x_1) (un2 fun x_3 x_4 => Option.bind (gcall (!((decide (x_3 ≠ n0)) || (!x_4))) (whole_Cmp_S F x_1 x_2)) (fun x_5 => letN (((decide (x_3 ≠ n0)) || (!x_4)) || ((decide (x_5 < 0)) != (decide (n0 < m0)))) fun x_6 => Option.bind (gcall (!x_6) (whole_Cmp_S F x_1 x_2)) (fun x_7 => if (x_6 || ((decide (0 < x_7)) != (decide (m0 < n0)))) = true then (some false) else (Option.bind (whole_Of_S F (n0 / 4294967296)) (fun x_8 => Option.bind (whole_Of_S F (m0 / 4294967296)) (fun x_9 => Option.bind (whole_Add_S F x_8 x_9) (fun x_10 => Option.bind (whole_Small_S F x_10) (un2 fun x_11 x_12 => Option.bind (whole_Of_S F (n0 / 4294967296)) (fun x_13 => Option.bind (whole_Of_S F (m0 / 4294967296)) (fun x_14 => Option.bind (whole_Mul_S F x_13 x_14) (fun x_15 => Option.bind (whole_Small_S F x_15) (un2 fun x_16 x_17 => letN (((!x_12) || (!x_17)) || (decide (x_11 ≠ (IntKind.i64.wrap ((n0 / 4294967296) + (m0 / 4294967296)))))) fun x_18 => letN (x_18 || (decide (x_16 ≠ (IntKind.i64.wrap ((n0 / 4294967296) * (m0 / 4294967296)))))) fun x_19 => if x_19 = true then (some false) else (if ((decide (m0 = 0)) || (decide (n0 = (-9223372036854775808)))) = true then (Option.bind (skewbacklaw03_sanity_S F) (fun x_20 => some x_20)) else (Option.bind (whole_Quo_S F x_1 x_2) (fun x_21 => Option.bind (whole_Small_S F x_21) (un2 fun x_22 x_23 => Option.bind (whole_Rem_S F x_1 x_2) (fun x_24 => Option.bind (whole_Small_S F x_24) (un2 fun x_25 x_26 => Option.bind (skewbacklaw03_sanity_S F) (fun x_27 => letN (((x_27 && x_23) && x_26) && (decide ((IntKind.i64.wrap ((IntKind.i64.wrap (x_22 * m0)) + x_25)) = n0))) fun x_28 => letN (x_28 && ((decide (x_25 = 0)) || ((decide (x_25 < 0)) == (decide (m0 < 0))))) fun x_29 => letN (x_29 && (((decide (m0 < 0)) && (decide (m0 < x_25))) || ((decide (0 < m0)) && (decide (x_25 < m0))))) fun x_30 => some x_30)))))))))))))))))))))
theorem skewbacklaw03_WholeIntsAgree_spec {F : Nat} {n0 : Int} {m0 : Int} {r : Bool} (h : skewbacklaw03_WholeIntsAgree_S F n0 m0 = some r) : Meets Tryd.prog tabs 6 [] [.one (.i n0), .one (.i m0)] (Is [] (.b (.one (.bool r)))) := by
  unfold skewbacklaw03_WholeIntsAgree_S at h
  refine Meets.intro 163 Tryd.func6 Tryd.ntmps6 rfl (by simp) fun E => ?_
  show Tri _ E ⟨163, [], []⟩ _ ⟨[(0, I n0), (1, I m0)], []⟩ _
  refine Tri.seq ?_
  refine Tri.regionL ?_
  refine OpsL.cons rfl (op_assign rfl) ?_
  refine OpsL.nilK [0, 1] [] (s' := ⟨[(0, I n0), (1, I m0)], []⟩) rfl ?_
  refine Tri.seq ?_
  refine Tri.regionL ?_
  refine OpsL.cons rfl (op_move rfl) ?_
  obtain ⟨x_1, e1, h⟩ := bnd h
  refine OpsL.cons rfl (op_call0 (whole_Of_spec e1) goes38 rfl rfl) ?_
  refine OpsL.cons rfl (op_alloc (k := 101) tyZero25 rfl) ?_
  refine OpsL.cons rfl (op_store_p tyAgg25 rfl rfl rfl rfl (Nat.le_of_ble_eq_true rfl) rfl) ?_
  refine OpsL.nilK [0, 1, 5] [101] (s' := ⟨[(0, I n0), (1, I m0), (5, .b (.ptr 101 0))], [(101, .box 25 (eBig x_1))]⟩) rfl ?_
  refine Tri.seq ?_
  refine Tri.regionL ?_
  refine OpsL.cons rfl (op_move rfl) ?_
  obtain ⟨x_2, e2, h⟩ := bnd h
  refine OpsL.cons rfl (op_call0 (whole_Of_spec e2) goes38 rfl rfl) ?_
  refine OpsL.cons rfl (op_alloc (k := 102) tyZero25 rfl) ?_
  refine OpsL.cons rfl (op_store_p tyAgg25 rfl rfl rfl rfl (Nat.le_of_ble_eq_true rfl) rfl) ?_
  refine OpsL.nilK [0, 1, 5, 6] [101, 102] (s' := ⟨[(0, I n0), (1, I m0), (5, .b (.ptr 101 0)), (6, .b (.ptr 102 0))], [(101, .box 25 (eBig x_1)), (102, .box 25 (eBig x_2))]⟩) rfl ?_
  refine Tri.seq ?_
  refine Tri.regionL ?_
  refine OpsL.cons rfl (op_load_p tyAgg25 rfl rfl rfl rfl) ?_
  obtain ⟨⟨x_3, x_4⟩, e3, h⟩ := bnd h
  refine OpsL.cons rfl (op_call0 (whole_Small_spec e3) goes39 rfl rfl) ?_
  refine OpsL.cons rfl (op_move rfl) ?_
  refine OpsL.cons rfl (op_extract rfl rfl) ?_
  refine OpsL.cons rfl (op_extract rfl rfl) ?_
  refine OpsL.cons rfl (op_assign rfl) ?_
  refine OpsL.cons rfl (op_assign rfl) ?_
  refine OpsL.nilK [0, 1, 5, 6, 7, 8] [101, 102] (s' := ⟨[(0, I n0), (1, I m0), (5, .b (.ptr 101 0)), (6, .b (.ptr 102 0)), (7, I x_3), (8, B x_4)], [(101, .box 25 (eBig x_1)), (102, .box 25 (eBig x_2))]⟩) rfl ?_
  refine Tri.seq ?_
  refine Tri.seq ?_
  refine Tri.regionL ?_
  refine OpsL.cons rfl (op_move rfl) ?_
  refine OpsL.cons rfl (op_move rfl) ?_
  refine OpsL.cons rfl (op_neq rfl rfl) ?_
  refine OpsL.cons rfl (op_move rfl) ?_
  refine OpsL.consG (!(decide (x_3 ≠ n0))) 99 [] (.plain rfl) (eq_f _) rfl rfl (fun g4 => trivial) (fun g4 => op_move rfl) ?_
  refine OpsL.consG (!(decide (x_3 ≠ n0))) 99 [32] (.plain rfl) (eq_f _) rfl rfl (fun g5 => ⟨g5, trivial⟩) (fun g5 => op_not rfl) ?_
  refine OpsL.cons rfl (op_pick_or (fun e => by rw [e]; rfl) rfl rfl rfl rfl) ?_
  refine OpsL.keep [0, 1, 5, 6, 34] [101, 102] (s' := ⟨[(0, I n0), (1, I m0), (5, .b (.ptr 101 0)), (6, .b (.ptr 102 0)), (34, B ((decide (x_3 ≠ n0)) || (!x_4)))], [(101, .box 25 (eBig x_1)), (102, .box 25 (eBig x_2))]⟩) rfl ?_
  refine OpsL.cons rfl (op_move rfl) ?_
  refine OpsL.consG (!((decide (x_3 ≠ n0)) || (!x_4))) 99 [] (.plain rfl) (eq_f _) rfl rfl (fun g6 => trivial) (fun g6 => op_load_p tyAgg25 rfl rfl rfl rfl) ?_
  refine OpsL.consG (!((decide (x_3 ≠ n0)) || (!x_4))) 99 [] (.plain rfl) (eq_f _) rfl rfl (fun g7 => trivial) (fun g7 => op_load_p tyAgg25 rfl rfl rfl rfl) ?_
  obtain ⟨x_5, e9, h⟩ := bnd h
  refine OpsL.consG (!((decide (x_3 ≠ n0)) || (!x_4))) 99 [36, 37] (.plain rfl) (eq_f _) rfl rfl (fun g8 => ⟨g8, g8, trivial⟩) (fun g8 => op_call0 (whole_Cmp_spec (gc e9 g8)) goes25 rfl rfl) ?_
  refine OpsL.consG (!((decide (x_3 ≠ n0)) || (!x_4))) 99 [38] (.plain rfl) (eq_f _) rfl rfl (fun g10 => ⟨g10, trivial⟩) (fun g10 => op_lss rfl rfl) ?_
  refine OpsL.consG (!((decide (x_3 ≠ n0)) || (!x_4))) 99 [] (.plain rfl) (eq_f _) rfl rfl (fun g11 => trivial) (fun g11 => op_move rfl) ?_
  refine OpsL.keep [0, 1, 5, 6, 35, 39, 40] [101, 102] (s' := ⟨[(0, I n0), (1, I m0), (5, .b (.ptr 101 0)), (6, .b (.ptr 102 0)), (35, B ((decide (x_3 ≠ n0)) || (!x_4))), (39, .opt (!((decide (x_3 ≠ n0)) || (!x_4))) (.one (.bool (decide (x_5 < 0))))), (40, .opt (!((decide (x_3 ≠ n0)) || (!x_4))) (.one (.i n0)))], [(101, .box 25 (eBig x_1)), (102, .box 25 (eBig x_2))]⟩) rfl ?_
  refine OpsL.consG (!((decide (x_3 ≠ n0)) || (!x_4))) 99 [] (.plain rfl) (eq_f _) rfl rfl (fun g12 => trivial) (fun g12 => op_move rfl) ?_
  refine OpsL.consG (!((decide (x_3 ≠ n0)) || (!x_4))) 99 [40, 41] (.plain rfl) (eq_f _) rfl rfl (fun g13 => ⟨g13, g13, trivial⟩) (fun g13 => op_lss rfl rfl) ?_
  refine OpsL.consG (!((decide (x_3 ≠ n0)) || (!x_4))) 99 [39, 42] (.plain rfl) (eq_f _) rfl rfl (fun g14 => ⟨g14, g14, trivial⟩) (fun g14 => op_neq_bool und4 rfl rfl) ?_
  refine OpsL.consB h rfl (op_pick_or (fun e => by rw [e]; rfl) rfl rfl rfl rfl) (fun x_6 h => ?_)
  refine OpsL.cons rfl (op_move rfl) ?_
  refine OpsL.consG (!x_6) 99 [] (.plain rfl) (eq_f _) rfl rfl (fun g15 => trivial) (fun g15 => op_load_p tyAgg25 rfl rfl rfl rfl) ?_
  refine OpsL.consG (!x_6) 99 [] (.plain rfl) (eq_f _) rfl rfl (fun g16 => trivial) (fun g16 => op_load_p tyAgg25 rfl rfl rfl rfl) ?_
  refine OpsL.keep [0, 1, 5, 6, 45, 46, 47] [101, 102] (s' := ⟨[(0, I n0), (1, I m0), (5, .b (.ptr 101 0)), (6, .b (.ptr 102 0)), (45, B x_6), (46, .opt (!x_6) (.agg (eBig x_1))), (47, .opt (!x_6) (.agg (eBig x_2)))], [(101, .box 25 (eBig x_1)), (102, .box 25 (eBig x_2))]⟩) rfl ?_
  obtain ⟨x_7, e18, h⟩ := bnd h
  refine OpsL.consG (!x_6) 99 [46, 47] (.plain rfl) (eq_f _) rfl rfl (fun g17 => ⟨g17, g17, trivial⟩) (fun g17 => op_call0 (whole_Cmp_spec (gc e18 g17)) goes25 rfl rfl) ?_
  refine OpsL.consG (!x_6) 99 [48] (.plain rfl) (eq_f _) rfl rfl (fun g19 => ⟨g19, trivial⟩) (fun g19 => op_gtr rfl rfl) ?_
  refine OpsL.consG (!x_6) 99 [] (.plain rfl) (eq_f _) rfl rfl (fun g20 => trivial) (fun g20 => op_move rfl) ?_
  refine OpsL.consG (!x_6) 99 [] (.plain rfl) (eq_f _) rfl rfl (fun g21 => trivial) (fun g21 => op_move rfl) ?_
  refine OpsL.consG (!x_6) 99 [50, 51] (.plain rfl) (eq_f _) rfl rfl (fun g22 => ⟨g22, g22, trivial⟩) (fun g22 => op_gtr rfl rfl) ?_
  refine OpsL.consG (!x_6) 99 [49, 52] (.plain rfl) (eq_f _) rfl rfl (fun g23 => ⟨g23, g23, trivial⟩) (fun g23 => op_neq_bool und4 rfl rfl) ?_
  refine OpsL.cons rfl (op_pick_or (fun e => by rw [e]; rfl) rfl rfl rfl rfl) ?_
  refine OpsL.nilK [0, 1, 5, 6, 54] [101, 102] (s' := ⟨[(0, I n0), (1, I m0), (5, .b (.ptr 101 0)), (6, .b (.ptr 102 0)), (54, B (x_6 || ((decide (0 < x_7)) != (decide (m0 < n0)))))], [(101, .box 25 (eBig x_1)), (102, .box 25 (eBig x_2))]⟩) rfl ?_
  refine Tri.ite h rfl (fun _ h => ?_) (fun _ h => ?_)
  · refine Tri.seq ?_
    refine Tri.regionL ?_
    refine OpsL.cons rfl (op_assign rfl) ?_
    refine OpsL.nilK [4] [] (s' := ⟨[(4, B false)], []⟩) rfl ?_
    refine Tri.ret ?_
    refine Fin.then_ret ?_
    obtain rfl := Option.some.inj h
    refine Fin.keep [4] [] (s' := ⟨[(4, B false)], []⟩) rfl ?_
    refine Fin.result' [.one (.bool false)] (.inl rfl) rfl (.cons (.tmp rfl) .nil) ⟨rfl, rfl⟩
  · refine Tri.skip ?_
    refine Fin.keep [0, 1, 5, 6] [101, 102] (s' := ⟨[(0, I n0), (1, I m0), (5, .b (.ptr 101 0)), (6, .b (.ptr 102 0))], [(101, .box 25 (eBig x_1)), (102, .box 25 (eBig x_2))]⟩) rfl ?_
    refine Fin.then ?_
    refine Tri.seq ?_
    refine Tri.regionL ?_
    refine OpsL.cons rfl (op_move rfl) ?_
    refine OpsL.cons rfl (op_shr2 (m := 32) (by decide) rfl rfl rfl) ?_
    refine OpsL.cons rfl (op_assign rfl) ?_
    refine OpsL.nilK [0, 1, 5, 6, 9] [101, 102] (s' := ⟨[(0, I n0), (1, I m0), (5, .b (.ptr 101 0)), (6, .b (.ptr 102 0)), (9, I (n0 / 4294967296))], [(101, .box 25 (eBig x_1)), (102, .box 25 (eBig x_2))]⟩) rfl ?_
    refine Tri.seq ?_
    refine Tri.regionL ?_
    refine OpsL.cons rfl (op_move rfl) ?_
    refine OpsL.cons rfl (op_shr2 (m := 32) (by decide) rfl rfl rfl) ?_
    refine OpsL.cons rfl (op_assign rfl) ?_
    refine OpsL.nilK [0, 1, 5, 6, 9, 10] [101, 102] (s' := ⟨[(0, I n0), (1, I m0), (5, .b (.ptr 101 0)), (6, .b (.ptr 102 0)), (9, I (n0 / 4294967296)), (10, I (m0 / 4294967296))], [(101, .box 25 (eBig x_1)), (102, .box 25 (eBig x_2))]⟩) rfl ?_
    refine Tri.seq ?_
    refine Tri.regionL ?_
    refine OpsL.cons rfl (op_move rfl) ?_
    obtain ⟨x_8, e24, h⟩ := bnd h
    refine OpsL.cons rfl (op_call0 (whole_Of_spec e24) goes38 rfl rfl) ?_
    refine OpsL.cons rfl (op_move rfl) ?_
    refine OpsL.keep [0, 1, 5, 6, 9, 10, 61, 62] [101, 102] (s' := ⟨[(0, I n0), (1, I m0), (5, .b (.ptr 101 0)), (6, .b (.ptr 102 0)), (9, I (n0 / 4294967296)), (10, I (m0 / 4294967296)), (61, .b (.agg (eBig x_8))), (62, I (m0 / 4294967296))], [(101, .box 25 (eBig x_1)), (102, .box 25 (eBig x_2))]⟩) rfl ?_
    obtain ⟨x_9, e25, h⟩ := bnd h
    refine OpsL.cons rfl (op_call0 (whole_Of_spec e25) goes38 rfl rfl) ?_
    obtain ⟨x_10, e26, h⟩ := bnd h
    refine OpsL.cons rfl (op_call0 (whole_Add_spec e26) goes10 rfl rfl) ?_
    obtain ⟨⟨x_11, x_12⟩, e27, h⟩ := bnd h
    refine OpsL.cons rfl (op_call0 (whole_Small_spec e27) goes39 rfl rfl) ?_
    refine OpsL.cons rfl (op_move rfl) ?_
    refine OpsL.keep [0, 1, 5, 6, 9, 10, 59] [101, 102] (s' := ⟨[(0, I n0), (1, I m0), (5, .b (.ptr 101 0)), (6, .b (.ptr 102 0)), (9, I (n0 / 4294967296)), (10, I (m0 / 4294967296)), (59, .tup [.one (.i x_11), .one (.bool x_12)])], [(101, .box 25 (eBig x_1)), (102, .box 25 (eBig x_2))]⟩) rfl ?_
    refine OpsL.cons rfl (op_extract rfl rfl) ?_
    refine OpsL.cons rfl (op_extract rfl rfl) ?_
    refine OpsL.cons rfl (op_assign rfl) ?_
    refine OpsL.cons rfl (op_assign rfl) ?_
    refine OpsL.nilK [0, 1, 5, 6, 9, 10, 11, 12] [101, 102] (s' := ⟨[(0, I n0), (1, I m0), (5, .b (.ptr 101 0)), (6, .b (.ptr 102 0)), (9, I (n0 / 4294967296)), (10, I (m0 / 4294967296)), (11, I x_11), (12, B x_12)], [(101, .box 25 (eBig x_1)), (102, .box 25 (eBig x_2))]⟩) rfl ?_
    refine Tri.seq ?_
    refine Tri.regionL ?_
    refine OpsL.cons rfl (op_move rfl) ?_
    obtain ⟨x_13, e28, h⟩ := bnd h
    refine OpsL.cons rfl (op_call0 (whole_Of_spec e28) goes38 rfl rfl) ?_
    refine OpsL.cons rfl (op_move rfl) ?_
    refine OpsL.keep [0, 1, 5, 6, 9, 10, 11, 12, 70, 71] [101, 102] (s' := ⟨[(0, I n0), (1, I m0), (5, .b (.ptr 101 0)), (6, .b (.ptr 102 0)), (9, I (n0 / 4294967296)), (10, I (m0 / 4294967296)), (11, I x_11), (12, B x_12), (70, .b (.agg (eBig x_13))), (71, I (m0 / 4294967296))], [(101, .box 25 (eBig x_1)), (102, .box 25 (eBig x_2))]⟩) rfl ?_
    obtain ⟨x_14, e29, h⟩ := bnd h
    refine OpsL.cons rfl (op_call0 (whole_Of_spec e29) goes38 rfl rfl) ?_
    obtain ⟨x_15, e30, h⟩ := bnd h
    refine OpsL.cons rfl (op_call0 (whole_Mul_spec e30) goes27 rfl rfl) ?_
    obtain ⟨⟨x_16, x_17⟩, e31, h⟩ := bnd h
    refine OpsL.cons rfl (op_call0 (whole_Small_spec e31) goes39 rfl rfl) ?_
    refine OpsL.cons rfl (op_move rfl) ?_
    refine OpsL.keep [0, 1, 5, 6, 9, 10, 11, 12, 68] [101, 102] (s' := ⟨[(0, I n0), (1, I m0), (5, .b (.ptr 101 0)), (6, .b (.ptr 102 0)), (9, I (n0 / 4294967296)), (10, I (m0 / 4294967296)), (11, I x_11), (12, B x_12), (68, .tup [.one (.i x_16), .one (.bool x_17)])], [(101, .box 25 (eBig x_1)), (102, .box 25 (eBig x_2))]⟩) rfl ?_
    refine OpsL.cons rfl (op_extract rfl rfl) ?_
    refine OpsL.cons rfl (op_extract rfl rfl) ?_
    refine OpsL.cons rfl (op_assign rfl) ?_
    refine OpsL.cons rfl (op_assign rfl) ?_
    refine OpsL.nilK [0, 1, 5, 6, 9, 10, 11, 12, 13, 14] [101, 102] (s' := ⟨[(0, I n0), (1, I m0), (5, .b (.ptr 101 0)), (6, .b (.ptr 102 0)), (9, I (n0 / 4294967296)), (10, I (m0 / 4294967296)), (11, I x_11), (12, B x_12), (13, I x_16), (14, B x_17)], [(101, .box 25 (eBig x_1)), (102, .box 25 (eBig x_2))]⟩) rfl ?_
    refine Tri.seq ?_
    refine Tri.seq ?_
    refine Tri.regionL ?_
    refine OpsL.cons rfl (op_move rfl) ?_
    refine OpsL.cons rfl (op_not rfl) ?_
    refine OpsL.cons rfl (op_move rfl) ?_
    refine OpsL.consG (!(!x_12)) 99 [] (.plain rfl) (eq_f _) rfl rfl (fun g32 => trivial) (fun g32 => op_move rfl) ?_
    refine OpsL.consG (!(!x_12)) 99 [80] (.plain rfl) (eq_f _) rfl rfl (fun g33 => ⟨g33, trivial⟩) (fun g33 => op_not rfl) ?_
    refine OpsL.cons rfl (op_pick_or (fun e => by rw [e]; rfl) rfl rfl rfl rfl) ?_
    refine OpsL.cons rfl (op_move rfl) ?_
    refine OpsL.keep [0, 1, 5, 6, 9, 10, 11, 13, 83] [101, 102] (s' := ⟨[(0, I n0), (1, I m0), (5, .b (.ptr 101 0)), (6, .b (.ptr 102 0)), (9, I (n0 / 4294967296)), (10, I (m0 / 4294967296)), (11, I x_11), (13, I x_16), (83, B ((!x_12) || (!x_17)))], [(101, .box 25 (eBig x_1)), (102, .box 25 (eBig x_2))]⟩) rfl ?_
    refine OpsL.consG (!((!x_12) || (!x_17))) 99 [] (.plain rfl) (eq_f _) rfl rfl (fun g34 => trivial) (fun g34 => op_move rfl) ?_
    refine OpsL.consG (!((!x_12) || (!x_17))) 99 [] (.plain rfl) (eq_f _) rfl rfl (fun g35 => trivial) (fun g35 => op_move rfl) ?_
    refine OpsL.consG (!((!x_12) || (!x_17))) 99 [] (.plain rfl) (eq_f _) rfl rfl (fun g36 => trivial) (fun g36 => op_move rfl) ?_
    refine OpsL.consG (!((!x_12) || (!x_17))) 99 [85, 86] (.plain rfl) (eq_f _) rfl rfl (fun g37 => ⟨g37, g37, trivial⟩) (fun g37 => op_add rfl rfl) ?_
    refine OpsL.consG (!((!x_12) || (!x_17))) 99 [84, 87] (.plain rfl) (eq_f _) rfl rfl (fun g38 => ⟨g38, g38, trivial⟩) (fun g38 => op_neq rfl rfl) ?_
    refine OpsL.consB h rfl (op_pick_or (fun e => by rw [e]; rfl) rfl rfl rfl rfl) (fun x_18 h => ?_)
    refine OpsL.cons rfl (op_move rfl) ?_
    refine OpsL.consG (!x_18) 99 [] (.plain rfl) (eq_f _) rfl rfl (fun g39 => trivial) (fun g39 => op_move rfl) ?_
    refine OpsL.keep [0, 1, 5, 6, 9, 10, 90, 91] [101, 102] (s' := ⟨[(0, I n0), (1, I m0), (5, .b (.ptr 101 0)), (6, .b (.ptr 102 0)), (9, I (n0 / 4294967296)), (10, I (m0 / 4294967296)), (90, B x_18), (91, .opt (!x_18) (.one (.i x_16)))], [(101, .box 25 (eBig x_1)), (102, .box 25 (eBig x_2))]⟩) rfl ?_
    refine OpsL.consG (!x_18) 99 [] (.plain rfl) (eq_f _) rfl rfl (fun g40 => trivial) (fun g40 => op_move rfl) ?_
    refine OpsL.consG (!x_18) 99 [] (.plain rfl) (eq_f _) rfl rfl (fun g41 => trivial) (fun g41 => op_move rfl) ?_
    refine OpsL.consG (!x_18) 99 [92, 93] (.plain rfl) (eq_f _) rfl rfl (fun g42 => ⟨g42, g42, trivial⟩) (fun g42 => op_mul rfl rfl) ?_
    refine OpsL.consG (!x_18) 99 [91, 94] (.plain rfl) (eq_f _) rfl rfl (fun g43 => ⟨g43, g43, trivial⟩) (fun g43 => op_neq rfl rfl) ?_
    refine OpsL.consB h rfl (op_pick_or (fun e => by rw [e]; rfl) rfl rfl rfl rfl) (fun x_19 h => ?_)
    refine OpsL.nilK [0, 1, 5, 6, 96] [101, 102] (s' := ⟨[(0, I n0), (1, I m0), (5, .b (.ptr 101 0)), (6, .b (.ptr 102 0)), (96, B x_19)], [(101, .box 25 (eBig x_1)), (102, .box 25 (eBig x_2))]⟩) rfl ?_
    refine Tri.ite h rfl (fun _ h => ?_) (fun _ h => ?_)
    · refine Tri.seq ?_
      refine Tri.regionL ?_
      refine OpsL.cons rfl (op_assign rfl) ?_
      refine OpsL.nilK [4] [] (s' := ⟨[(4, B false)], []⟩) rfl ?_
      refine Tri.ret ?_
      refine Fin.then_ret ?_
      obtain rfl := Option.some.inj h
      refine Fin.keep [4] [] (s' := ⟨[(4, B false)], []⟩) rfl ?_
      refine Fin.result' [.one (.bool false)] (.inl rfl) rfl (.cons (.tmp rfl) .nil) ⟨rfl, rfl⟩
    · refine Tri.skip ?_
      refine Fin.keep [0, 1, 5, 6] [101, 102] (s' := ⟨[(0, I n0), (1, I m0), (5, .b (.ptr 101 0)), (6, .b (.ptr 102 0))], [(101, .box 25 (eBig x_1)), (102, .box 25 (eBig x_2))]⟩) rfl ?_
      refine Fin.then ?_
      refine Tri.seq ?_
      refine Tri.seq ?_
      refine Tri.regionL ?_
      refine OpsL.cons rfl (op_move rfl) ?_
      refine OpsL.cons rfl (op_eql rfl rfl) ?_
      refine OpsL.cons rfl (op_move rfl) ?_
      refine OpsL.consG (!(decide (m0 = 0))) 99 [] (.plain rfl) (eq_f _) rfl rfl (fun g44 => trivial) (fun g44 => op_move rfl) ?_
      refine OpsL.consG (!(decide (m0 = 0))) 99 [100] (.plain rfl) (eq_f _) rfl rfl (fun g45 => ⟨g45, trivial⟩) (fun g45 => op_eql rfl rfl) ?_
      refine OpsL.cons rfl (op_pick_or (fun e => by rw [e]; rfl) rfl rfl rfl rfl) ?_
      refine OpsL.nilK [0, 1, 5, 6, 102] [101, 102] (s' := ⟨[(0, I n0), (1, I m0), (5, .b (.ptr 101 0)), (6, .b (.ptr 102 0)), (102, B ((decide (m0 = 0)) || (decide (n0 = (-9223372036854775808)))))], [(101, .box 25 (eBig x_1)), (102, .box 25 (eBig x_2))]⟩) rfl ?_
      refine Tri.ite h rfl (fun _ h => ?_) (fun _ h => ?_)
      · refine Tri.seq ?_
        refine Tri.regionL ?_
        obtain ⟨x_20, e46, h⟩ := bnd h
        refine OpsL.cons rfl (op_call0 (skewbacklaw03_sanity_spec e46) goes22 rfl rfl) ?_
        refine OpsL.cons rfl (op_assign rfl) ?_
        refine OpsL.nilK [4] [] (s' := ⟨[(4, B x_20)], []⟩) rfl ?_
        refine Tri.ret ?_
        refine Fin.then_ret ?_
        obtain rfl := Option.some.inj h
        refine Fin.keep [4] [] (s' := ⟨[(4, B x_20)], []⟩) rfl ?_
        refine Fin.result' [.one (.bool x_20)] (.inl rfl) rfl (.cons (.tmp rfl) .nil) ⟨rfl, rfl⟩
      · refine Tri.skip ?_
        refine Fin.keep [0, 1, 5, 6] [101, 102] (s' := ⟨[(0, I n0), (1, I m0), (5, .b (.ptr 101 0)), (6, .b (.ptr 102 0))], [(101, .box 25 (eBig x_1)), (102, .box 25 (eBig x_2))]⟩) rfl ?_
        refine Fin.then ?_
        refine Tri.seq ?_
        refine Tri.regionL ?_
        refine OpsL.cons rfl (op_load_p tyAgg25 rfl rfl rfl rfl) ?_
        refine OpsL.cons rfl (op_load_p tyAgg25 rfl rfl rfl rfl) ?_
        obtain ⟨x_21, e47, h⟩ := bnd h
        refine OpsL.cons rfl (op_call0 (whole_Quo_spec e47) goes29 rfl rfl) ?_
        refine OpsL.keep [0, 1, 5, 6, 107] [101, 102] (s' := ⟨[(0, I n0), (1, I m0), (5, .b (.ptr 101 0)), (6, .b (.ptr 102 0)), (107, .b (.agg (eBig x_21)))], [(101, .box 25 (eBig x_1)), (102, .box 25 (eBig x_2))]⟩) rfl ?_
        obtain ⟨⟨x_22, x_23⟩, e48, h⟩ := bnd h
        refine OpsL.cons rfl (op_call0 (whole_Small_spec e48) goes39 rfl rfl) ?_
        refine OpsL.cons rfl (op_move rfl) ?_
        refine OpsL.cons rfl (op_extract rfl rfl) ?_
        refine OpsL.cons rfl (op_extract rfl rfl) ?_
        refine OpsL.cons rfl (op_assign rfl) ?_
        refine OpsL.cons rfl (op_assign rfl) ?_
        refine OpsL.nilK [0, 1, 5, 6, 15, 16] [101, 102] (s' := ⟨[(0, I n0), (1, I m0), (5, .b (.ptr 101 0)), (6, .b (.ptr 102 0)), (15, I x_22), (16, B x_23)], [(101, .box 25 (eBig x_1)), (102, .box 25 (eBig x_2))]⟩) rfl ?_
        refine Tri.seq ?_
        refine Tri.regionL ?_
        refine OpsL.cons rfl (op_load_p tyAgg25 rfl rfl rfl rfl) ?_
        refine OpsL.cons rfl (op_load_p tyAgg25 rfl rfl rfl rfl) ?_
        obtain ⟨x_24, e49, h⟩ := bnd h
        refine OpsL.cons rfl (op_call0 (whole_Rem_spec e49) goes31 rfl rfl) ?_
        refine OpsL.keep [0, 1, 15, 16, 114] [] (s' := ⟨[(0, I n0), (1, I m0), (15, I x_22), (16, B x_23), (114, .b (.agg (eBig x_24)))], []⟩) rfl ?_
        obtain ⟨⟨x_25, x_26⟩, e50, h⟩ := bnd h
        refine OpsL.cons rfl (op_call0 (whole_Small_spec e50) goes39 rfl rfl) ?_
        refine OpsL.cons rfl (op_move rfl) ?_
        refine OpsL.cons rfl (op_extract rfl rfl) ?_
        refine OpsL.cons rfl (op_extract rfl rfl) ?_
        refine OpsL.cons rfl (op_assign rfl) ?_
        refine OpsL.cons rfl (op_assign rfl) ?_
        refine OpsL.nilK [0, 1, 15, 16, 17, 18] [] (s' := ⟨[(0, I n0), (1, I m0), (15, I x_22), (16, B x_23), (17, I x_25), (18, B x_26)], []⟩) rfl ?_
        refine Tri.seq ?_
        refine Tri.regionL ?_
        obtain ⟨x_27, e51, h⟩ := bnd h
        refine OpsL.cons rfl (op_call0 (skewbacklaw03_sanity_spec e51) goes22 rfl rfl) ?_
        refine OpsL.cons rfl (op_move rfl) ?_
        refine OpsL.consG x_27 99 [] (.plain rfl) (eq_t _) rfl rfl (fun g52 => trivial) (fun g52 => op_move rfl) ?_
        refine OpsL.cons rfl (op_pick_and (fun e => e) rfl rfl rfl rfl) ?_
        refine OpsL.cons rfl (op_move rfl) ?_
        refine OpsL.keep [0, 1, 15, 17, 18, 122] [] (s' := ⟨[(0, I n0), (1, I m0), (15, I x_22), (17, I x_25), (18, B x_26), (122, B (x_27 && x_23))], []⟩) rfl ?_
        refine OpsL.consG (x_27 && x_23) 99 [] (.plain rfl) (eq_t _) rfl rfl (fun g53 => trivial) (fun g53 => op_move rfl) ?_
        refine OpsL.cons rfl (op_pick_and (fun e => e) rfl rfl rfl rfl) ?_
        refine OpsL.cons rfl (op_move rfl) ?_
        refine OpsL.consG ((x_27 && x_23) && x_26) 99 [] (.plain rfl) (eq_t _) rfl rfl (fun g54 => trivial) (fun g54 => op_move rfl) ?_
        refine OpsL.consG ((x_27 && x_23) && x_26) 99 [] (.plain rfl) (eq_t _) rfl rfl (fun g55 => trivial) (fun g55 => op_move rfl) ?_
        refine OpsL.consG ((x_27 && x_23) && x_26) 99 [126, 127] (.plain rfl) (eq_t _) rfl rfl (fun g56 => ⟨g56, g56, trivial⟩) (fun g56 => op_mul rfl rfl) ?_
        refine OpsL.consG ((x_27 && x_23) && x_26) 99 [] (.plain rfl) (eq_t _) rfl rfl (fun g57 => trivial) (fun g57 => op_move rfl) ?_
        refine OpsL.consG ((x_27 && x_23) && x_26) 99 [128, 129] (.plain rfl) (eq_t _) rfl rfl (fun g58 => ⟨g58, g58, trivial⟩) (fun g58 => op_add rfl rfl) ?_
        refine OpsL.keep [0, 1, 17, 125, 130] [] (s' := ⟨[(0, I n0), (1, I m0), (17, I x_25), (125, B ((x_27 && x_23) && x_26)), (130, .opt ((x_27 && x_23) && x_26) (.one (.i (IntKind.i64.wrap ((IntKind.i64.wrap (x_22 * m0)) + x_25)))))], []⟩) rfl ?_
        refine OpsL.consG ((x_27 && x_23) && x_26) 99 [] (.plain rfl) (eq_t _) rfl rfl (fun g59 => trivial) (fun g59 => op_move rfl) ?_
        refine OpsL.consG ((x_27 && x_23) && x_26) 99 [130, 131] (.plain rfl) (eq_t _) rfl rfl (fun g60 => ⟨g60, g60, trivial⟩) (fun g60 => op_eql rfl rfl) ?_
        refine OpsL.consB h rfl (op_pick_and (fun e => e) rfl rfl rfl rfl) (fun x_28 h => ?_)
        refine OpsL.cons rfl (op_move rfl) ?_
        refine OpsL.consG x_28 99 [] (.plain rfl) (eq_t _) rfl rfl (fun g61 => trivial) (fun g61 => op_move rfl) ?_
        refine OpsL.consG x_28 99 [135] (.plain rfl) (eq_t _) rfl rfl (fun g62 => ⟨g62, trivial⟩) (fun g62 => op_eql rfl rfl) ?_
        refine OpsL.consG x_28 99 [136] (.plain rfl) (eq_t _) rfl rfl (fun g63 => ⟨g63, trivial⟩) (fun g63 => op_move rfl) ?_
        refine OpsL.consG (x_28 && !(decide (x_25 = 0))) 99 [] (.under rfl) (and_f _ _) rfl rfl (fun g64 => trivial) (fun g64 => op_move rfl) ?_
        refine OpsL.keep [1, 17, 134, 137, 138] [] (s' := ⟨[(1, I m0), (17, I x_25), (134, B x_28), (137, .opt x_28 (.one (.bool (decide (x_25 = 0))))), (138, .opt (x_28 && !(decide (x_25 = 0))) (.one (.i x_25)))], []⟩) rfl ?_
        refine OpsL.consG (x_28 && !(decide (x_25 = 0))) 99 [138] (.under rfl) (and_f _ _) rfl rfl (fun g65 => ⟨g65, trivial⟩) (fun g65 => op_lss rfl rfl) ?_
        refine OpsL.consG (x_28 && !(decide (x_25 = 0))) 99 [] (.under rfl) (and_f _ _) rfl rfl (fun g66 => trivial) (fun g66 => op_move rfl) ?_
        refine OpsL.consG (x_28 && !(decide (x_25 = 0))) 99 [140] (.under rfl) (and_f _ _) rfl rfl (fun g67 => ⟨g67, trivial⟩) (fun g67 => op_lss rfl rfl) ?_
        refine OpsL.consG (x_28 && !(decide (x_25 = 0))) 99 [139, 141] (.under rfl) (and_f _ _) rfl rfl (fun g68 => ⟨g68, g68, trivial⟩) (fun g68 => op_eql_bool und4 rfl rfl) ?_
        refine OpsL.consG x_28 99 [137] (.plain rfl) (eq_t _) rfl rfl (fun g69 => ⟨g69, trivial⟩) (fun g69 => op_pick_or (fun e => by rw [g69, e]; rfl) rfl rfl rfl rfl) ?_
        refine OpsL.consB h rfl (op_pick_and (fun e => e) rfl rfl rfl rfl) (fun x_29 h => ?_)
        refine OpsL.cons rfl (op_move rfl) ?_
        refine OpsL.consG x_29 99 [] (.plain rfl) (eq_t _) rfl rfl (fun g70 => trivial) (fun g70 => op_move rfl) ?_
        refine OpsL.keep [1, 17, 145, 146] [] (s' := ⟨[(1, I m0), (17, I x_25), (145, B x_29), (146, .opt x_29 (.one (.i m0)))], []⟩) rfl ?_
        refine OpsL.consG x_29 99 [146] (.plain rfl) (eq_t _) rfl rfl (fun g71 => ⟨g71, trivial⟩) (fun g71 => op_lss rfl rfl) ?_
        refine OpsL.consG x_29 99 [147] (.plain rfl) (eq_t _) rfl rfl (fun g72 => ⟨g72, trivial⟩) (fun g72 => op_move rfl) ?_
        refine OpsL.consG (x_29 && (decide (m0 < 0))) 99 [] (.under rfl) (and_t _ _) rfl rfl (fun g73 => trivial) (fun g73 => op_move rfl) ?_
        refine OpsL.consG (x_29 && (decide (m0 < 0))) 99 [] (.under rfl) (and_t _ _) rfl rfl (fun g74 => trivial) (fun g74 => op_move rfl) ?_
        refine OpsL.consG (x_29 && (decide (m0 < 0))) 99 [149, 150] (.under rfl) (and_t _ _) rfl rfl (fun g75 => ⟨g75, g75, trivial⟩) (fun g75 => op_gtr rfl rfl) ?_
        refine OpsL.consG x_29 99 [148] (.plain rfl) (eq_t _) rfl rfl (fun g76 => ⟨g76, trivial⟩) (fun g76 => op_pick_and (fun e => by rw [g76, e]; rfl) rfl rfl rfl rfl) ?_
        refine OpsL.consG x_29 99 [152] (.plain rfl) (eq_t _) rfl rfl (fun g77 => ⟨g77, trivial⟩) (fun g77 => op_move rfl) ?_
        refine OpsL.consG (x_29 && !((decide (m0 < 0)) && (decide (m0 < x_25)))) 99 [] (.under rfl) (and_f _ _) rfl rfl (fun g78 => trivial) (fun g78 => op_move rfl) ?_
        refine OpsL.keep [1, 17, 145, 153, 154] [] (s' := ⟨[(1, I m0), (17, I x_25), (145, B x_29), (153, .opt x_29 (.one (.bool ((decide (m0 < 0)) && (decide (m0 < x_25)))))), (154, .opt (x_29 && !((decide (m0 < 0)) && (decide (m0 < x_25)))) (.one (.i m0)))], []⟩) rfl ?_
        refine OpsL.consG (x_29 && !((decide (m0 < 0)) && (decide (m0 < x_25)))) 99 [154] (.under rfl) (and_f _ _) rfl rfl (fun g79 => ⟨g79, trivial⟩) (fun g79 => op_gtr rfl rfl) ?_
        refine OpsL.consG (x_29 && !((decide (m0 < 0)) && (decide (m0 < x_25)))) 99 [155] (.under rfl) (and_f _ _) rfl rfl (fun g80 => ⟨g80, trivial⟩) (fun g80 => op_move rfl) ?_
        refine OpsL.consG ((x_29 && !((decide (m0 < 0)) && (decide (m0 < x_25)))) && (decide (0 < m0))) 99 [] (.under rfl) (and_t _ _) rfl rfl (fun g81 => trivial) (fun g81 => op_move rfl) ?_
        refine OpsL.consG ((x_29 && !((decide (m0 < 0)) && (decide (m0 < x_25)))) && (decide (0 < m0))) 99 [] (.under rfl) (and_t _ _) rfl rfl (fun g82 => trivial) (fun g82 => op_move rfl) ?_
        refine OpsL.consG ((x_29 && !((decide (m0 < 0)) && (decide (m0 < x_25)))) && (decide (0 < m0))) 99 [157, 158] (.under rfl) (and_t _ _) rfl rfl (fun g83 => ⟨g83, g83, trivial⟩) (fun g83 => op_lss rfl rfl) ?_
        refine OpsL.consG (x_29 && !((decide (m0 < 0)) && (decide (m0 < x_25)))) 99 [156] (.under rfl) (and_f _ _) rfl rfl (fun g84 => ⟨g84, trivial⟩) (fun g84 => op_pick_and (fun e => by rw [g84, e]; rfl) rfl rfl rfl rfl) ?_
        refine OpsL.consG x_29 99 [153] (.plain rfl) (eq_t _) rfl rfl (fun g85 => ⟨g85, trivial⟩) (fun g85 => op_pick_or (fun e => by rw [g85, e]; rfl) rfl rfl rfl rfl) ?_
        refine OpsL.consB h rfl (op_pick_and (fun e => e) rfl rfl rfl rfl) (fun x_30 h => ?_)
        refine OpsL.cons rfl (op_assign rfl) ?_
        refine OpsL.nilK [4] [] (s' := ⟨[(4, B x_30)], []⟩) rfl ?_
        refine Tri.ret ?_
        obtain rfl := Option.some.inj h
        refine Fin.keep [4] [] (s' := ⟨[(4, B x_30)], []⟩) rfl ?_
        refine Fin.result' [.one (.bool x_30)] (.inl rfl) rfl (.cons (.tmp rfl) .nil) ⟨rfl, rfl⟩

end Go.Proofs.YtaigaoifloldcaaDoor
