/- printed walks -/
import Derived.Test.YtaigaoifloldcaaDoorW2
namespace Go.Proofs.YtaigaoifloldcaaDoor
open Go.Sk
set_option maxHeartbeats 1000000
set_option maxRecDepth 4000
set_option linter.unusedSimpArgs false
set_option linter.unusedVariables false
def whole_Shift_S (F : Nat) (x0 : Big) (n0 : Int) : Option Big :=
 Option.bind (whole_good_S F [x0]) (fun x_1 => if (!x_1) = true then (Option.bind (whole_Bad_S F) (fun x_2 => some x_2)) else (Option.bind (whole_Sign_S F x0) (fun x_3 => if (decide (x_3 = 0)) = true then (some x0) else (Option.bind (gcall ((!(decide (512 ≤ n0))) && (decide (0 < n0))) (whole_Bits_S F x0)) (fun x_4 => letN ((decide (512 ≤ n0)) || ((decide (0 < n0)) && (decide (512 < (IntKind.i64.wrap (x_4 + n0)))))) fun x_5 => if x_5 = true then (Option.bind (whole_Bad_S F) (fun x_6 => some x_6)) else (if (decide (n0 ≤ (-512))) = true then (Option.bind (whole_lost_S F x0 A16.zero []) (fun x_7 => some x_7)) else (Option.bind (quo? .i64 n0 32) (fun x_8 => if (decide (0 ≤ n0)) = true then (Option.bind (slo? 16 x_8) (fun x_9 => letN (A16.of (spliceE A16.zero.l ((x_8 : Int).toNat) ((x0.W.l.drop 0).take (min 16 (16 - (x_8 : Int).toNat))))) fun x_10 => Option.bind (whole_up_S F x_10 (Int.tmod n0 32)) (un2 fun x_11 x_12 => Option.bind (whole_signed_S F x0.Neg x_11) (fun x_13 => some x_13)))) else (Option.bind (slo? 16 (IntKind.i64.wrap (-x_8))) (fun x_14 => Option.bind (whole_down_S F (A16.of (spliceE A16.zero.l 0 ((x0.W.l.drop ((IntKind.i64.wrap (-x_8) : Int).toNat)).take (min (16 - (IntKind.i64.wrap (-x_8) : Int).toNat) 16)))) (Int.tmod (IntKind.i64.wrap (-n0)) 32)) (fun x_15 => Option.bind (whole_lost_S F x0 x_15 [IntKind.i64.wrap (-n0)]) (fun x_16 => some x_16))))))))))))
theorem whole_Shift_spec {F : Nat} {x0 : Big} {n0 : Int} {r : Big} (h : whole_Shift_S F x0 n0 = some r) : Meets Tryd.prog tabs 42 [] [.agg (eBig x0), .one (.i n0)] (Is [] (.b (.agg (eBig r)))) := by
  unfold whole_Shift_S at h
  refine Meets.intro 75 Tryd.func42 Tryd.ntmps42 rfl (by simp) fun E => ?_
  show Tri _ E ⟨75, [], []⟩ _ ⟨[(0, .b (.agg (eBig x0))), (1, I n0)], []⟩ _
  refine Tri.seq ?_
  refine Tri.regionL ?_
  refine OpsL.cons rfl (op_box (k := 101) rfl rfl) ?_
  refine OpsL.cons rfl (op_alloc (k := 102) tyZero25 rfl) ?_
  refine OpsL.nilK [1, 2, 4] [101, 102] (s' := ⟨[(1, I n0), (2, .b (.ptr 101 0)), (4, .b (.ptr 102 0))], [(101, .box 25 (eBig x0)), (102, .box 25 (.bool false :: .bool false :: ((eA16 .u32) A16.zero)))]⟩) rfl ?_
  refine Tri.seq ?_
  refine Tri.block ?_
  refine Tri.seq ?_
  refine Tri.regionL ?_
  refine OpsL.cons rfl (op_load_p tyAgg25 rfl rfl rfl rfl) ?_
  refine OpsL.cons rfl (op_buildSlice (k := 103) (es := [x0].map eBig) tySl85 rfl rfl (uni_map fun _ => rfl) rfl (by decide) (by decide) rfl) ?_
  obtain ⟨x_1, e1, h⟩ := bnd h
  refine OpsL.cons rfl (op_callB (whole_good_spec e1) goes43 rfl CP.flat_bool) ?_
  refine OpsL.cons rfl (op_not rfl) ?_
  refine OpsL.cons rfl (op_assign rfl) ?_
  refine OpsL.nilK [1, 2, 4, 7] [101, 102] (s' := ⟨[(1, I n0), (2, .b (.ptr 101 0)), (4, .b (.ptr 102 0)), (7, B (!x_1))], [(101, .box 25 (eBig x0)), (102, .box 25 (.bool false :: .bool false :: ((eA16 .u32) A16.zero)))]⟩) rfl ?_
  refine Tri.ite h rfl (fun _ h => ?_) (fun _ h => ?_)
  · refine Tri.seq ?_
    refine Tri.regionL ?_
    obtain ⟨x_2, e2, h⟩ := bnd h
    refine OpsL.cons rfl (op_call0 (whole_Bad_spec e2) goes44 rfl rfl) ?_
    refine OpsL.cons rfl (op_store_p tyAgg25 rfl rfl rfl rfl (Nat.le_of_ble_eq_true rfl) rfl) ?_
    refine OpsL.nilK [4] [102] (s' := ⟨[(4, .b (.ptr 102 0))], [(102, .box 25 (eBig x_2))]⟩) rfl ?_
    refine Tri.ret ?_
    refine Fin.block_ret ?_
    refine Fin.then_ret ?_
    obtain rfl := Option.some.inj h
    refine Fin.keep [4] [102] (s' := ⟨[(4, .b (.ptr 102 0))], [(102, .box 25 (eBig x_2))]⟩) rfl ?_
    refine Fin.result' [.agg (eBig x_2)] (.inl rfl) rfl (.cons (.agg tyAgg25 rfl rfl rfl rfl) .nil) ⟨rfl, rfl⟩
  · refine Tri.seq ?_
    refine Tri.regionL ?_
    refine OpsL.cons rfl (op_load_p tyAgg25 rfl rfl rfl rfl) ?_
    obtain ⟨x_3, e3, h⟩ := bnd h
    refine OpsL.cons rfl (op_call0 (whole_Sign_spec e3) goes18 rfl rfl) ?_
    refine OpsL.cons rfl (op_eql rfl rfl) ?_
    refine OpsL.cons rfl (op_assign rfl) ?_
    refine OpsL.nilK [1, 2, 4, 13] [101, 102] (s' := ⟨[(1, I n0), (2, .b (.ptr 101 0)), (4, .b (.ptr 102 0)), (13, B (decide (x_3 = 0)))], [(101, .box 25 (eBig x0)), (102, .box 25 (.bool false :: .bool false :: ((eA16 .u32) A16.zero)))]⟩) rfl ?_
    refine Tri.ite h rfl (fun _ h => ?_) (fun _ h => ?_)
    · refine Tri.seq ?_
      refine Tri.regionL ?_
      refine OpsL.cons rfl (op_load_p tyAgg25 rfl rfl rfl rfl) ?_
      refine OpsL.cons rfl (op_store_p tyAgg25 rfl rfl rfl rfl (Nat.le_of_ble_eq_true rfl) rfl) ?_
      refine OpsL.nilK [4] [102] (s' := ⟨[(4, .b (.ptr 102 0))], [(102, .box 25 (eBig x0))]⟩) rfl ?_
      refine Tri.ret ?_
      refine Fin.block_ret ?_
      refine Fin.then_ret ?_
      obtain rfl := Option.some.inj h
      refine Fin.keep [4] [102] (s' := ⟨[(4, .b (.ptr 102 0))], [(102, .box 25 (eBig x0))]⟩) rfl ?_
      refine Fin.result' [.agg (eBig x0)] (.inl rfl) rfl (.cons (.agg tyAgg25 rfl rfl rfl rfl) .nil) ⟨rfl, rfl⟩
    · refine Tri.seq ?_
      refine Tri.regionL ?_
      refine OpsL.cons rfl (op_move rfl) ?_
      refine OpsL.cons rfl (op_geq rfl rfl) ?_
      refine OpsL.cons rfl (op_move rfl) ?_
      refine OpsL.consG (!(decide (512 ≤ n0))) 99 [] (.plain rfl) (eq_f _) rfl rfl (fun g4 => trivial) (fun g4 => op_move rfl) ?_
      refine OpsL.consG (!(decide (512 ≤ n0))) 99 [22] (.plain rfl) (eq_f _) rfl rfl (fun g5 => ⟨g5, trivial⟩) (fun g5 => op_gtr rfl rfl) ?_
      refine OpsL.consG (!(decide (512 ≤ n0))) 99 [23] (.plain rfl) (eq_f _) rfl rfl (fun g6 => ⟨g6, trivial⟩) (fun g6 => op_move rfl) ?_
      refine OpsL.consG ((!(decide (512 ≤ n0))) && (decide (0 < n0))) 99 [] (.under rfl) (and_t _ _) rfl rfl (fun g7 => trivial) (fun g7 => op_load_p tyAgg25 rfl rfl rfl rfl) ?_
      refine OpsL.keep [1, 2, 4, 21, 24, 25] [101, 102] (s' := ⟨[(1, I n0), (2, .b (.ptr 101 0)), (4, .b (.ptr 102 0)), (21, B (decide (512 ≤ n0))), (24, .opt (!(decide (512 ≤ n0))) (.one (.bool (decide (0 < n0))))), (25, .opt ((!(decide (512 ≤ n0))) && (decide (0 < n0))) (.agg (eBig x0)))], [(101, .box 25 (eBig x0)), (102, .box 25 (.bool false :: .bool false :: ((eA16 .u32) A16.zero)))]⟩) rfl ?_
      obtain ⟨x_4, e9, h⟩ := bnd h
      refine OpsL.consG ((!(decide (512 ≤ n0))) && (decide (0 < n0))) 99 [25] (.under rfl) (and_t _ _) rfl rfl (fun g8 => ⟨g8, trivial⟩) (fun g8 => op_call0 (whole_Bits_spec (gc e9 g8)) goes20 rfl rfl) ?_
      refine OpsL.consG ((!(decide (512 ≤ n0))) && (decide (0 < n0))) 99 [] (.under rfl) (and_t _ _) rfl rfl (fun g10 => trivial) (fun g10 => op_move rfl) ?_
      refine OpsL.consG ((!(decide (512 ≤ n0))) && (decide (0 < n0))) 99 [26, 27] (.under rfl) (and_t _ _) rfl rfl (fun g11 => ⟨g11, g11, trivial⟩) (fun g11 => op_add rfl rfl) ?_
      refine OpsL.consG ((!(decide (512 ≤ n0))) && (decide (0 < n0))) 99 [28] (.under rfl) (and_t _ _) rfl rfl (fun g12 => ⟨g12, trivial⟩) (fun g12 => op_gtr rfl rfl) ?_
      refine OpsL.consG (!(decide (512 ≤ n0))) 99 [24] (.plain rfl) (eq_f _) rfl rfl (fun g13 => ⟨g13, trivial⟩) (fun g13 => op_pick_and (fun e => by rw [g13, e]; rfl) rfl rfl rfl rfl) ?_
      refine OpsL.consB h rfl (op_pick_or (fun e => by rw [e]; rfl) rfl rfl rfl rfl) (fun x_5 h => ?_)
      refine OpsL.cons rfl (op_assign rfl) ?_
      refine OpsL.nilK [1, 2, 4, 18] [101, 102] (s' := ⟨[(1, I n0), (2, .b (.ptr 101 0)), (4, .b (.ptr 102 0)), (18, B x_5)], [(101, .box 25 (eBig x0)), (102, .box 25 (.bool false :: .bool false :: ((eA16 .u32) A16.zero)))]⟩) rfl ?_
      refine Tri.ite h rfl (fun _ h => ?_) (fun _ h => ?_)
      · refine Tri.seq ?_
        refine Tri.regionL ?_
        obtain ⟨x_6, e14, h⟩ := bnd h
        refine OpsL.cons rfl (op_call0 (whole_Bad_spec e14) goes44 rfl rfl) ?_
        refine OpsL.cons rfl (op_store_p tyAgg25 rfl rfl rfl rfl (Nat.le_of_ble_eq_true rfl) rfl) ?_
        refine OpsL.nilK [4] [102] (s' := ⟨[(4, .b (.ptr 102 0))], [(102, .box 25 (eBig x_6))]⟩) rfl ?_
        refine Tri.ret ?_
        refine Fin.block_ret ?_
        refine Fin.then_ret ?_
        obtain rfl := Option.some.inj h
        refine Fin.keep [4] [102] (s' := ⟨[(4, .b (.ptr 102 0))], [(102, .box 25 (eBig x_6))]⟩) rfl ?_
        refine Fin.result' [.agg (eBig x_6)] (.inl rfl) rfl (.cons (.agg tyAgg25 rfl rfl rfl rfl) .nil) ⟨rfl, rfl⟩
      · refine Tri.seq ?_
        refine Tri.regionL ?_
        refine OpsL.cons rfl (op_move rfl) ?_
        refine OpsL.cons rfl (op_leq rfl rfl) ?_
        refine OpsL.cons rfl (op_assign rfl) ?_
        refine OpsL.nilK [1, 2, 4, 33] [101, 102] (s' := ⟨[(1, I n0), (2, .b (.ptr 101 0)), (4, .b (.ptr 102 0)), (33, B (decide (n0 ≤ (-512))))], [(101, .box 25 (eBig x0)), (102, .box 25 (.bool false :: .bool false :: ((eA16 .u32) A16.zero)))]⟩) rfl ?_
        refine Tri.ite h rfl (fun _ h => ?_) (fun _ h => ?_)
        · refine Tri.seq ?_
          refine Tri.regionL ?_
          refine OpsL.cons rfl (op_load_p tyAgg25 rfl rfl rfl rfl) ?_
          refine OpsL.cons rfl (op_buildA tyBuild23 rfl rfl) ?_
          obtain ⟨x_7, e15, h⟩ := bnd h
          refine OpsL.cons rfl (op_call0 (Meets.nilA 2 (by decide) (whole_lost_spec e15) rfl) goes72 rfl rfl) ?_
          refine OpsL.cons rfl (op_store_p tyAgg25 rfl rfl rfl rfl (Nat.le_of_ble_eq_true rfl) rfl) ?_
          refine OpsL.nilK [4] [102] (s' := ⟨[(4, .b (.ptr 102 0))], [(102, .box 25 (eBig x_7))]⟩) rfl ?_
          refine Tri.ret ?_
          refine Fin.block_ret ?_
          refine Fin.then_ret ?_
          obtain rfl := Option.some.inj h
          refine Fin.keep [4] [102] (s' := ⟨[(4, .b (.ptr 102 0))], [(102, .box 25 (eBig x_7))]⟩) rfl ?_
          refine Fin.result' [.agg (eBig x_7)] (.inl rfl) rfl (.cons (.agg tyAgg25 rfl rfl rfl rfl) .nil) ⟨rfl, rfl⟩
        · refine Tri.skip ?_
          refine Fin.block_normal ?_
          refine Fin.keep [1, 2, 4] [101, 102] (s' := ⟨[(1, I n0), (2, .b (.ptr 101 0)), (4, .b (.ptr 102 0))], [(101, .box 25 (eBig x0)), (102, .box 25 (.bool false :: .bool false :: ((eA16 .u32) A16.zero)))]⟩) rfl ?_
          refine Fin.then ?_
          refine Tri.seq ?_
          refine Tri.regionL ?_
          refine OpsL.cons rfl (op_alloc (k := 104) tyZero23 rfl) ?_
          refine OpsL.nilK [1, 2, 4, 5] [101, 102, 104] (s' := ⟨[(1, I n0), (2, .b (.ptr 101 0)), (4, .b (.ptr 102 0)), (5, .b (.ptr 104 0))], [(101, .box 25 (eBig x0)), (102, .box 25 (.bool false :: .bool false :: ((eA16 .u32) A16.zero))), (104, .box 23 ((eA16 .u32) A16.zero))]⟩) rfl ?_
          refine Tri.seq ?_
          refine Tri.regionL ?_
          refine OpsL.cons rfl (op_move rfl) ?_
          obtain ⟨x_8, e16, h⟩ := bnd h
          refine OpsL.cons rfl (op_quo2 e16 rfl rfl) ?_
          refine OpsL.cons rfl (op_assign rfl) ?_
          refine OpsL.nilK [1, 2, 4, 5, 6] [101, 102, 104] (s' := ⟨[(1, I n0), (2, .b (.ptr 101 0)), (4, .b (.ptr 102 0)), (5, .b (.ptr 104 0)), (6, I x_8)], [(101, .box 25 (eBig x0)), (102, .box 25 (.bool false :: .bool false :: ((eA16 .u32) A16.zero))), (104, .box 23 ((eA16 .u32) A16.zero))]⟩) rfl ?_
          refine Tri.seq ?_
          refine Tri.seq ?_
          refine Tri.regionL ?_
          refine OpsL.cons rfl (op_move rfl) ?_
          refine OpsL.cons rfl (op_geq rfl rfl) ?_
          refine OpsL.nilK [1, 2, 4, 5, 6, 42] [101, 102, 104] (s' := ⟨[(1, I n0), (2, .b (.ptr 101 0)), (4, .b (.ptr 102 0)), (5, .b (.ptr 104 0)), (6, I x_8), (42, B (decide (0 ≤ n0)))], [(101, .box 25 (eBig x0)), (102, .box 25 (.bool false :: .bool false :: ((eA16 .u32) A16.zero))), (104, .box 23 ((eA16 .u32) A16.zero))]⟩) rfl ?_
          refine Tri.ite h rfl (fun _ h => ?_) (fun _ h => ?_)
          · refine Tri.seq ?_
            refine Tri.keep [1, 2, 4, 5, 6] [101, 102, 104] (s' := ⟨[(1, I n0), (2, .b (.ptr 101 0)), (4, .b (.ptr 102 0)), (5, .b (.ptr 104 0)), (6, I x_8)], [(101, .box 25 (eBig x0)), (102, .box 25 (.bool false :: .bool false :: ((eA16 .u32) A16.zero))), (104, .box 23 ((eA16 .u32) A16.zero))]⟩) rfl ?_
            obtain ⟨x_9, e17, h⟩ := bnd h
            refine Tri.regionY mixed 4 [I x_8, .b (.psl 104 (0 + (x_8 : Int).toNat) (16 - (x_8 : Int).toNat) (16 - (x_8 : Int).toNat)), .b (.ptr 101 2), .b (.psl 101 2 16 16)] [1, 2, 4, 5] [101, 102, 104] (s' := ⟨[(1, I n0), (2, .b (.ptr 101 0)), (4, .b (.ptr 102 0)), (5, .b (.ptr 104 0))], [(101, .box 25 (eBig x0)), (102, .box 25 (.bool false :: .bool false :: ((eA16 .u32) A16.zero))), (104, .box 23 ((eA16 .u32) (A16.of (spliceE A16.zero.l ((x_8 : Int).toNat) ((x0.W.l.drop 0).take (min 16 (16 - (x_8 : Int).toNat)))))))]⟩) rfl ⟨fun _ => .plain rfl (op_move rfl), fun _ => .plain rfl (op_slice_al tyArr23 (slo_lo e17) (slo_hi e17) rfl rfl), fun _ => .plain rfl (op_field_p tyFld25_2 rfl rfl), fun _ => .plain rfl (op_slice_a tyArr23 (by decide) rfl), trivial⟩ ⟨_, by exact .plain rfl (op_copy_psl (m := min 16 (16 - (x_8 : Int).toNat)) tySl64 (by rfl) (by have q0_ := slo_lo e17; have p0_ := slo_hi e17; first | decide | (show (min 16 (16 - (x_8 : Int).toNat)) ≤ 9223372036854775807; omega)) rfl rfl rfl rfl (by have q0_ := slo_lo e17; have p0_ := slo_hi e17; first | decide | (show (0 + (x_8 : Int).toNat) + (min 16 (16 - (x_8 : Int).toNat)) ≤ 16; omega)) (by have q0_ := slo_lo e17; have p0_ := slo_hi e17; first | decide | (show 2 + (min 16 (16 - (x_8 : Int).toNat)) ≤ 18; omega)) (splice_arr (a := 0) (a2 := 2) (off := 0 + (x_8 : Int).toNat) (off2 := 2) (post := []) (post2 := []) (l := A16.zero.l) (l2 := x0.W.l) (kd := .u32) (lo := (x_8 : Int).toNat) (lo2 := 0) [] [.bool x0.Bad, .bool x0.Neg] rfl rfl rfl rfl (by omega) (by omega) (by have q0_ := slo_lo e17; have p0_ := slo_hi e17; first | decide | (show ((x_8 : Int).toNat) + (min 16 (16 - (x_8 : Int).toNat)) ≤ 16; omega)) (by have q0_ := slo_lo e17; have p0_ := slo_hi e17; first | decide | (show 0 + (min 16 (16 - (x_8 : Int).toNat)) ≤ 16; omega)) (A16.l_of (spliceE_lenA rfl (by have q0_ := slo_lo e17; have p0_ := slo_hi e17; first | decide | (show ((x_8 : Int).toNat) + (min 16 (16 - (x_8 : Int).toNat)) ≤ 16; omega)) (by have q0_ := slo_lo e17; have p0_ := slo_hi e17; first | decide | (show 0 + (min 16 (16 - (x_8 : Int).toNat)) ≤ 16; omega)))) rfl)), rfl⟩ rfl ?_
            refine Tri.seq ?_
            refine Tri.regionL ?_
            refine OpsL.consA (eA16 .u32) h rfl (op_load_p tyAgg23 rfl rfl rfl rfl) (fun x_10 h => ?_)
            refine OpsL.cons rfl (op_move rfl) ?_
            refine OpsL.cons rfl (op_rem (by decide) rfl rfl) ?_
            obtain ⟨⟨x_11, x_12⟩, e18, h⟩ := bnd h
            refine OpsL.cons rfl (op_call0 (whole_up_spec e18) goes73 rfl rfl) ?_
            refine OpsL.cons rfl (op_move rfl) ?_
            refine OpsL.keep [2, 4, 5, 48] [101, 102, 104] (s' := ⟨[(2, .b (.ptr 101 0)), (4, .b (.ptr 102 0)), (5, .b (.ptr 104 0)), (48, .tup [.agg ((eA16 .u32) x_11), .one (.int .u32 x_12)])], [(101, .box 25 (eBig x0)), (102, .box 25 (.bool false :: .bool false :: ((eA16 .u32) A16.zero))), (104, .box 23 ((eA16 .u32) (A16.of (spliceE A16.zero.l ((x_8 : Int).toNat) ((x0.W.l.drop 0).take (min 16 (16 - (x_8 : Int).toNat)))))))]⟩) rfl ?_
            refine OpsL.cons rfl (op_extract rfl rfl) ?_
            refine OpsL.cons rfl (op_extract rfl rfl) ?_
            refine OpsL.cons rfl (op_store_p tyAgg23 rfl rfl rfl rfl (Nat.le_of_ble_eq_true rfl) rfl) ?_
            refine OpsL.nilK [2, 4, 5] [101, 102, 104] (s' := ⟨[(2, .b (.ptr 101 0)), (4, .b (.ptr 102 0)), (5, .b (.ptr 104 0))], [(101, .box 25 (eBig x0)), (102, .box 25 (.bool false :: .bool false :: ((eA16 .u32) A16.zero))), (104, .box 23 ((eA16 .u32) x_11))]⟩) rfl ?_
            refine Tri.seq ?_
            refine Tri.regionL ?_
            refine OpsL.cons rfl (op_field_p tyFld25_1 rfl rfl) ?_
            refine OpsL.cons rfl (op_load_p1 tyOne4 rfl rfl rfl) ?_
            refine OpsL.cons rfl (op_load_p tyAgg23 rfl rfl rfl rfl) ?_
            obtain ⟨x_13, e19, h⟩ := bnd h
            refine OpsL.cons rfl (op_call0 (whole_signed_spec e19) goes46 rfl rfl) ?_
            refine OpsL.cons rfl (op_store_p tyAgg25 rfl rfl rfl rfl (Nat.le_of_ble_eq_true rfl) rfl) ?_
            refine OpsL.nilK [4] [102] (s' := ⟨[(4, .b (.ptr 102 0))], [(102, .box 25 (eBig x_13))]⟩) rfl ?_
            refine Tri.ret ?_
            refine Fin.then_ret ?_
            obtain rfl := Option.some.inj h
            refine Fin.keep [4] [102] (s' := ⟨[(4, .b (.ptr 102 0))], [(102, .box 25 (eBig x_13))]⟩) rfl ?_
            refine Fin.result' [.agg (eBig x_13)] (.inl rfl) rfl (.cons (.agg tyAgg25 rfl rfl rfl rfl) .nil) ⟨rfl, rfl⟩
          · refine Tri.skip ?_
            refine Fin.keep [1, 2, 4, 5, 6] [101, 102, 104] (s' := ⟨[(1, I n0), (2, .b (.ptr 101 0)), (4, .b (.ptr 102 0)), (5, .b (.ptr 104 0)), (6, I x_8)], [(101, .box 25 (eBig x0)), (102, .box 25 (.bool false :: .bool false :: ((eA16 .u32) A16.zero))), (104, .box 23 ((eA16 .u32) A16.zero))]⟩) rfl ?_
            refine Fin.then ?_
            refine Tri.seq ?_
            refine Tri.keep [1, 2, 4, 5, 6] [101, 102, 104] (s' := ⟨[(1, I n0), (2, .b (.ptr 101 0)), (4, .b (.ptr 102 0)), (5, .b (.ptr 104 0)), (6, I x_8)], [(101, .box 25 (eBig x0)), (102, .box 25 (.bool false :: .bool false :: ((eA16 .u32) A16.zero))), (104, .box 23 ((eA16 .u32) A16.zero))]⟩) rfl ?_
            obtain ⟨x_14, e20, h⟩ := bnd h
            refine Tri.regionY mixed 5 [.b (.psl 104 0 16 16), .b (.ptr 101 2), I x_8, I (IntKind.i64.wrap (-x_8)), .b (.psl 101 (2 + (IntKind.i64.wrap (-x_8) : Int).toNat) (16 - (IntKind.i64.wrap (-x_8) : Int).toNat) (16 - (IntKind.i64.wrap (-x_8) : Int).toNat))] [1, 2, 4, 5] [101, 102, 104] (s' := ⟨[(1, I n0), (2, .b (.ptr 101 0)), (4, .b (.ptr 102 0)), (5, .b (.ptr 104 0))], [(101, .box 25 (eBig x0)), (102, .box 25 (.bool false :: .bool false :: ((eA16 .u32) A16.zero))), (104, .box 23 ((eA16 .u32) (A16.of (spliceE A16.zero.l 0 ((x0.W.l.drop ((IntKind.i64.wrap (-x_8) : Int).toNat)).take (min (16 - (IntKind.i64.wrap (-x_8) : Int).toNat) 16))))))]⟩) rfl ⟨fun _ => .plain rfl (op_slice_a tyArr23 (by decide) rfl), fun _ => .plain rfl (op_field_p tyFld25_2 rfl rfl), fun _ => .plain rfl (op_move rfl), fun _ => .plain rfl (op_neg rfl), fun _ => .plain rfl (op_slice_al tyArr23 (slo_lo e20) (slo_hi e20) rfl rfl), trivial⟩ ⟨_, by exact .plain rfl (op_copy_psl (m := min (16 - (IntKind.i64.wrap (-x_8) : Int).toNat) 16) tySl64 (by rfl) (by have q1_ := slo_lo e20; have p1_ := slo_hi e20; first | decide | (show (min (16 - (IntKind.i64.wrap (-x_8) : Int).toNat) 16) ≤ 9223372036854775807; omega)) rfl rfl rfl rfl (by have q1_ := slo_lo e20; have p1_ := slo_hi e20; first | decide | (show 0 + (min (16 - (IntKind.i64.wrap (-x_8) : Int).toNat) 16) ≤ 16; omega)) (by have q1_ := slo_lo e20; have p1_ := slo_hi e20; first | decide | (show (2 + (IntKind.i64.wrap (-x_8) : Int).toNat) + (min (16 - (IntKind.i64.wrap (-x_8) : Int).toNat) 16) ≤ 18; omega)) (splice_arr (a := 0) (a2 := 2) (off := 0) (off2 := 2 + (IntKind.i64.wrap (-x_8) : Int).toNat) (post := []) (post2 := []) (l := A16.zero.l) (l2 := x0.W.l) (kd := .u32) (lo := 0) (lo2 := (IntKind.i64.wrap (-x_8) : Int).toNat) [] [.bool x0.Bad, .bool x0.Neg] rfl rfl rfl rfl (by omega) (by omega) (by have q1_ := slo_lo e20; have p1_ := slo_hi e20; first | decide | (show 0 + (min (16 - (IntKind.i64.wrap (-x_8) : Int).toNat) 16) ≤ 16; omega)) (by have q1_ := slo_lo e20; have p1_ := slo_hi e20; first | decide | (show ((IntKind.i64.wrap (-x_8) : Int).toNat) + (min (16 - (IntKind.i64.wrap (-x_8) : Int).toNat) 16) ≤ 16; omega)) (A16.l_of (spliceE_lenA rfl (by have q1_ := slo_lo e20; have p1_ := slo_hi e20; first | decide | (show 0 + (min (16 - (IntKind.i64.wrap (-x_8) : Int).toNat) 16) ≤ 16; omega)) (by have q1_ := slo_lo e20; have p1_ := slo_hi e20; first | decide | (show ((IntKind.i64.wrap (-x_8) : Int).toNat) + (min (16 - (IntKind.i64.wrap (-x_8) : Int).toNat) 16) ≤ 16; omega)))) rfl)), rfl⟩ rfl ?_
            refine Tri.seq ?_
            refine Tri.keep [1, 2, 4, 5] [101, 102, 104] (s' := ⟨[(1, I n0), (2, .b (.ptr 101 0)), (4, .b (.ptr 102 0)), (5, .b (.ptr 104 0))], [(101, .box 25 (eBig x0)), (102, .box 25 (.bool false :: .bool false :: ((eA16 .u32) A16.zero))), (104, .box 23 ((eA16 .u32) (A16.of (spliceE A16.zero.l 0 ((x0.W.l.drop ((IntKind.i64.wrap (-x_8) : Int).toNat)).take (min (16 - (IntKind.i64.wrap (-x_8) : Int).toNat) 16))))))]⟩) rfl ?_
            obtain ⟨x_15, e21, h⟩ := bnd h
            obtain ⟨x_16, e22, h⟩ := bnd h
            refine Tri.regionY mixed 10 [.b (.agg (eBig x0)), .b (.agg ((eA16 .u32) (A16.of (spliceE A16.zero.l 0 ((x0.W.l.drop ((IntKind.i64.wrap (-x_8) : Int).toNat)).take (min (16 - (IntKind.i64.wrap (-x_8) : Int).toNat) 16)))))), I n0, I (IntKind.i64.wrap (-n0)), I (Int.tmod (IntKind.i64.wrap (-n0)) 32), .b (.agg ((eA16 .u32) x_15)), I n0, I (IntKind.i64.wrap (-n0)), .b (.one (.sl 1 ([IntKind.i64.wrap (-n0)].map eI))), .b (.agg (eBig x_16))] [4] [102] (s' := ⟨[(4, .b (.ptr 102 0))], [(102, .box 25 (eBig x_16))]⟩) rfl ⟨fun _ => .plain rfl (op_load_p tyAgg25 rfl rfl rfl rfl), fun _ => .plain rfl (op_load_p tyAgg23 rfl rfl rfl rfl), fun _ => .plain rfl (op_move rfl), fun _ => .plain rfl (op_neg rfl), fun _ => .plain rfl (op_rem (by decide) rfl rfl), fun _ => .plain rfl (op_call0 (whole_down_spec e21) goes74 rfl rfl), fun _ => .plain rfl (op_move rfl), fun _ => .plain rfl (op_neg rfl), fun _ => .plain rfl (op_buildSliceP (es := [IntKind.i64.wrap (-n0)].map eI) tySl54 rfl rfl (uni_map fun _ => rfl) rfl (by decide) (by decide)), fun _ => .plain rfl (op_call0 (whole_lost_spec e22) goes72 rfl rfl), trivial⟩ ⟨_, by exact .plain rfl (op_store_p tyAgg25 rfl rfl rfl rfl (Nat.le_of_ble_eq_true rfl) rfl), rfl⟩ rfl ?_
            refine Tri.ret ?_
            obtain rfl := Option.some.inj h
            refine Fin.keep [4] [102] (s' := ⟨[(4, .b (.ptr 102 0))], [(102, .box 25 (eBig x_16))]⟩) rfl ?_
            refine Fin.result' [.agg (eBig x_16)] (.inl rfl) rfl (.cons (.agg tyAgg25 rfl rfl rfl rfl) .nil) ⟨rfl, rfl⟩

def whole_Cmp_S (F : Nat) (a0 : Big) (b0 : Big) : Option Int :=
 Option.bind (whole_good_S F [a0]) (fun x_1 => Option.bind (whole_good_S F [b0]) (fun x_2 => if ((!x_1) && (!x_2)) = true then (some 0) else (if (!x_1) = true then (some (-1)) else (if (!x_2) = true then (some 1) else (if (a0.Neg != b0.Neg) = true then (if a0.Neg = true then (some (-1)) else (some 1)) else (if a0.Neg = true then (Option.bind (whole_order_S F b0.W a0.W) (fun x_3 => some x_3)) else (Option.bind (whole_order_S F a0.W b0.W) (fun x_4 => some x_4))))))))
theorem whole_Cmp_spec {F : Nat} {a0 : Big} {b0 : Big} {r : Int} (h : whole_Cmp_S F a0 b0 = some r) : Meets Tryd.prog tabs 25 [] [.agg (eBig a0), .agg (eBig b0)] (Is [] (.b (.one (.i r)))) := by
  unfold whole_Cmp_S at h
  refine Meets.intro 47 Tryd.func25 Tryd.ntmps25 rfl (by simp) fun E => ?_
  show Tri _ E ⟨47, [], []⟩ _ ⟨[(0, .b (.agg (eBig a0))), (1, .b (.agg (eBig b0)))], []⟩ _
  refine Tri.seq ?_
  refine Tri.regionL ?_
  refine OpsL.cons rfl (op_box (k := 101) rfl rfl) ?_
  refine OpsL.cons rfl (op_box (k := 102) rfl rfl) ?_
  refine OpsL.cons rfl (op_assign rfl) ?_
  refine OpsL.nilK [2, 3] [101, 102] (s' := ⟨[(2, .b (.ptr 101 0)), (3, .b (.ptr 102 0))], [(101, .box 25 (eBig a0)), (102, .box 25 (eBig b0))]⟩) rfl ?_
  refine Tri.seq ?_
  refine Tri.keep [2, 3] [101, 102] (s' := ⟨[(2, .b (.ptr 101 0)), (3, .b (.ptr 102 0))], [(101, .box 25 (eBig a0)), (102, .box 25 (eBig b0))]⟩) rfl ?_
  obtain ⟨x_1, e1, h⟩ := bnd h
  obtain ⟨x_2, e2, h⟩ := bnd h
  refine Tri.regionY mixed 8 [.b (.agg (eBig a0)), .b (.one (.sl 18 ([a0].map eBig))), B x_1, .b (.agg (eBig b0)), .b (.one (.sl 18 ([b0].map eBig))), B x_2, B x_1, B x_2] [2, 3, 5, 6] [101, 102] (s' := ⟨[(2, .b (.ptr 101 0)), (3, .b (.ptr 102 0)), (5, B x_1), (6, B x_2)], [(101, .box 25 (eBig a0)), (102, .box 25 (eBig b0))]⟩) rfl ⟨fun _ => .plain rfl (op_load_p tyAgg25 rfl rfl rfl rfl), fun _ => .plain rfl (op_buildSliceP (es := [a0].map eBig) tySl85 rfl rfl (uni_map fun _ => rfl) rfl (by decide) (by decide)), fun _ => .plain rfl (op_call0 (whole_good_spec e1) goes43 rfl rfl), fun _ => .plain rfl (op_load_p tyAgg25 rfl rfl rfl rfl), fun _ => .plain rfl (op_buildSliceP (es := [b0].map eBig) tySl85 rfl rfl (uni_map fun _ => rfl) rfl (by decide) (by decide)), fun _ => .plain rfl (op_call0 (whole_good_spec e2) goes43 rfl rfl), fun _ => .plain rfl (op_assign rfl), fun _ => .plain rfl (op_assign rfl), trivial⟩ rfl rfl ?_
  refine Tri.seq ?_
  refine Tri.block ?_
  refine Tri.seq ?_
  refine Tri.regionL ?_
  refine OpsL.cons rfl (op_move rfl) ?_
  refine OpsL.cons rfl (op_not rfl) ?_
  refine OpsL.cons rfl (op_move rfl) ?_
  refine OpsL.consG (!x_1) 99 [] (.plain rfl) (eq_t _) rfl rfl (fun g3 => trivial) (fun g3 => op_move rfl) ?_
  refine OpsL.consG (!x_1) 99 [17] (.plain rfl) (eq_t _) rfl rfl (fun g4 => ⟨g4, trivial⟩) (fun g4 => op_not rfl) ?_
  refine OpsL.cons rfl (op_pick_and (fun e => e) rfl rfl rfl rfl) ?_
  refine OpsL.cons rfl (op_assign rfl) ?_
  refine OpsL.nilK [2, 3, 5, 6, 13] [101, 102] (s' := ⟨[(2, .b (.ptr 101 0)), (3, .b (.ptr 102 0)), (5, B x_1), (6, B x_2), (13, B ((!x_1) && (!x_2)))], [(101, .box 25 (eBig a0)), (102, .box 25 (eBig b0))]⟩) rfl ?_
  refine Tri.ite h rfl (fun _ h => ?_) (fun _ h => ?_)
  · refine Tri.seq ?_
    refine Tri.regionL ?_
    refine OpsL.cons rfl (op_assign rfl) ?_
    refine OpsL.nilK [4] [] (s' := ⟨[(4, I 0)], []⟩) rfl ?_
    refine Tri.ret ?_
    refine Fin.block_ret ?_
    refine Fin.then_ret ?_
    obtain rfl := Option.some.inj h
    refine Fin.keep [4] [] (s' := ⟨[(4, I 0)], []⟩) rfl ?_
    refine Fin.result' [.one (.i 0)] (.inl rfl) rfl (.cons (.tmp rfl) .nil) ⟨rfl, rfl⟩
  · refine Tri.seq ?_
    refine Tri.regionL ?_
    refine OpsL.cons rfl (op_move rfl) ?_
    refine OpsL.cons rfl (op_not rfl) ?_
    refine OpsL.cons rfl (op_assign rfl) ?_
    refine OpsL.nilK [2, 3, 6, 20] [101, 102] (s' := ⟨[(2, .b (.ptr 101 0)), (3, .b (.ptr 102 0)), (6, B x_2), (20, B (!x_1))], [(101, .box 25 (eBig a0)), (102, .box 25 (eBig b0))]⟩) rfl ?_
    refine Tri.ite h rfl (fun _ h => ?_) (fun _ h => ?_)
    · refine Tri.seq ?_
      refine Tri.regionL ?_
      refine OpsL.cons rfl (op_assign rfl) ?_
      refine OpsL.nilK [4] [] (s' := ⟨[(4, I (-1))], []⟩) rfl ?_
      refine Tri.ret ?_
      refine Fin.block_ret ?_
      refine Fin.then_ret ?_
      obtain rfl := Option.some.inj h
      refine Fin.keep [4] [] (s' := ⟨[(4, I (-1))], []⟩) rfl ?_
      refine Fin.result' [.one (.i (-1))] (.inl rfl) rfl (.cons (.tmp rfl) .nil) ⟨rfl, rfl⟩
    · refine Tri.seq ?_
      refine Tri.regionL ?_
      refine OpsL.cons rfl (op_move rfl) ?_
      refine OpsL.cons rfl (op_not rfl) ?_
      refine OpsL.cons rfl (op_assign rfl) ?_
      refine OpsL.nilK [2, 3, 23] [101, 102] (s' := ⟨[(2, .b (.ptr 101 0)), (3, .b (.ptr 102 0)), (23, B (!x_2))], [(101, .box 25 (eBig a0)), (102, .box 25 (eBig b0))]⟩) rfl ?_
      refine Tri.ite h rfl (fun _ h => ?_) (fun _ h => ?_)
      · refine Tri.seq ?_
        refine Tri.regionL ?_
        refine OpsL.cons rfl (op_assign rfl) ?_
        refine OpsL.nilK [4] [] (s' := ⟨[(4, I 1)], []⟩) rfl ?_
        refine Tri.ret ?_
        refine Fin.block_ret ?_
        refine Fin.then_ret ?_
        obtain rfl := Option.some.inj h
        refine Fin.keep [4] [] (s' := ⟨[(4, I 1)], []⟩) rfl ?_
        refine Fin.result' [.one (.i 1)] (.inl rfl) rfl (.cons (.tmp rfl) .nil) ⟨rfl, rfl⟩
      · refine Tri.seq ?_
        refine Tri.regionL ?_
        refine OpsL.cons rfl (op_field_p tyFld25_1 rfl rfl) ?_
        refine OpsL.cons rfl (op_load_p1 tyOne4 rfl rfl rfl) ?_
        refine OpsL.cons rfl (op_field_p tyFld25_1 rfl rfl) ?_
        refine OpsL.cons rfl (op_load_p1 tyOne4 rfl rfl rfl) ?_
        refine OpsL.cons rfl (op_neq_bool und4 rfl rfl) ?_
        refine OpsL.cons rfl (op_assign rfl) ?_
        refine OpsL.nilK [2, 3, 26] [101, 102] (s' := ⟨[(2, .b (.ptr 101 0)), (3, .b (.ptr 102 0)), (26, B (a0.Neg != b0.Neg))], [(101, .box 25 (eBig a0)), (102, .box 25 (eBig b0))]⟩) rfl ?_
        refine Tri.ite h rfl (fun _ h => ?_) (fun _ h => ?_)
        · refine Tri.seq ?_
          refine Tri.seq ?_
          refine Tri.regionL ?_
          refine OpsL.cons rfl (op_field_p tyFld25_1 rfl rfl) ?_
          refine OpsL.cons rfl (op_load_p1 tyOne4 rfl rfl rfl) ?_
          refine OpsL.nilK [33] [] (s' := ⟨[(33, B a0.Neg)], []⟩) rfl ?_
          refine Tri.ite h rfl (fun _ h => ?_) (fun _ h => ?_)
          · refine Tri.seq ?_
            refine Tri.regionL ?_
            refine OpsL.cons rfl (op_assign rfl) ?_
            refine OpsL.nilK [4] [] (s' := ⟨[(4, I (-1))], []⟩) rfl ?_
            refine Tri.ret ?_
            refine Fin.then_ret ?_
            refine Fin.block_ret ?_
            refine Fin.then_ret ?_
            obtain rfl := Option.some.inj h
            refine Fin.keep [4] [] (s' := ⟨[(4, I (-1))], []⟩) rfl ?_
            refine Fin.result' [.one (.i (-1))] (.inl rfl) rfl (.cons (.tmp rfl) .nil) ⟨rfl, rfl⟩
          · refine Tri.skip ?_
            refine Fin.keep [] [] (s' := ⟨[], []⟩) rfl ?_
            refine Fin.then ?_
            refine Tri.seq ?_
            refine Tri.regionL ?_
            refine OpsL.cons rfl (op_assign rfl) ?_
            refine OpsL.nilK [4] [] (s' := ⟨[(4, I 1)], []⟩) rfl ?_
            refine Tri.ret ?_
            refine Fin.block_ret ?_
            refine Fin.then_ret ?_
            obtain rfl := Option.some.inj h
            refine Fin.keep [4] [] (s' := ⟨[(4, I 1)], []⟩) rfl ?_
            refine Fin.result' [.one (.i 1)] (.inl rfl) rfl (.cons (.tmp rfl) .nil) ⟨rfl, rfl⟩
        · refine Tri.seq ?_
          refine Tri.regionL ?_
          refine OpsL.cons rfl (op_field_p tyFld25_1 rfl rfl) ?_
          refine OpsL.cons rfl (op_load_p1 tyOne4 rfl rfl rfl) ?_
          refine OpsL.cons rfl (op_assign rfl) ?_
          refine OpsL.nilK [2, 3, 34] [101, 102] (s' := ⟨[(2, .b (.ptr 101 0)), (3, .b (.ptr 102 0)), (34, B a0.Neg)], [(101, .box 25 (eBig a0)), (102, .box 25 (eBig b0))]⟩) rfl ?_
          refine Tri.ite h rfl (fun _ h => ?_) (fun _ h => ?_)
          · refine Tri.seq ?_
            refine Tri.regionL ?_
            refine OpsL.cons rfl (op_field_p tyFld25_2 rfl rfl) ?_
            refine OpsL.cons rfl (op_load_p tyAgg23 rfl rfl rfl rfl) ?_
            refine OpsL.cons rfl (op_field_p tyFld25_2 rfl rfl) ?_
            refine OpsL.cons rfl (op_load_p tyAgg23 rfl rfl rfl rfl) ?_
            obtain ⟨x_3, e5, h⟩ := bnd h
            refine OpsL.cons rfl (op_call0 (whole_order_spec e5) goes47 rfl rfl) ?_
            refine OpsL.cons rfl (op_assign rfl) ?_
            refine OpsL.nilK [4] [] (s' := ⟨[(4, I x_3)], []⟩) rfl ?_
            refine Tri.ret ?_
            refine Fin.block_ret ?_
            refine Fin.then_ret ?_
            obtain rfl := Option.some.inj h
            refine Fin.keep [4] [] (s' := ⟨[(4, I x_3)], []⟩) rfl ?_
            refine Fin.result' [.one (.i x_3)] (.inl rfl) rfl (.cons (.tmp rfl) .nil) ⟨rfl, rfl⟩
          · refine Tri.skip ?_
            refine Fin.block_normal ?_
            refine Fin.keep [2, 3] [101, 102] (s' := ⟨[(2, .b (.ptr 101 0)), (3, .b (.ptr 102 0))], [(101, .box 25 (eBig a0)), (102, .box 25 (eBig b0))]⟩) rfl ?_
            refine Fin.then ?_
            refine Tri.seq ?_
            refine Tri.regionL ?_
            refine OpsL.cons rfl (op_field_p tyFld25_2 rfl rfl) ?_
            refine OpsL.cons rfl (op_load_p tyAgg23 rfl rfl rfl rfl) ?_
            refine OpsL.cons rfl (op_field_p tyFld25_2 rfl rfl) ?_
            refine OpsL.cons rfl (op_load_p tyAgg23 rfl rfl rfl rfl) ?_
            obtain ⟨x_4, e6, h⟩ := bnd h
            refine OpsL.cons rfl (op_call0 (whole_order_spec e6) goes47 rfl rfl) ?_
            refine OpsL.cons rfl (op_assign rfl) ?_
            refine OpsL.nilK [4] [] (s' := ⟨[(4, I x_4)], []⟩) rfl ?_
            refine Tri.ret ?_
            obtain rfl := Option.some.inj h
            refine Fin.keep [4] [] (s' := ⟨[(4, I x_4)], []⟩) rfl ?_
            refine Fin.result' [.one (.i x_4)] (.inl rfl) rfl (.cons (.tmp rfl) .nil) ⟨rfl, rfl⟩

def whole_Sqrt_S (F : Nat) (x0 : Big) : Option Big :=
 Option.bind (whole_good_S F [x0]) (fun x_1 => if ((!x_1) || x0.Neg) = true then (Option.bind (whole_Bad_S F) (fun x_2 => some x_2)) else (Option.bind (whole_Sign_S F x0) (fun x_3 => if (decide (x_3 = 0)) = true then (some x0) else (Option.bind (whole_Of_S F 1) (fun x_4 => Option.bind (whole_Bits_S F x0) (fun x_5 => Option.bind (quo? .i64 (IntKind.i64.wrap (x_5 + 1)) 2) (fun x_6 => Option.bind (whole_Shift_S F x_4 x_6) (fun x_7 => Option.bind (iter F (fun root_8 => Option.bind (whole_Quo_S F x0 root_8) (fun x_9 => Option.bind (whole_Add_S F root_8 x_9) (fun x_10 => Option.bind (whole_Shift_S F x_10 (-1)) (fun x_11 => Option.bind (whole_Cmp_S F x_11 root_8) (fun x_12 => if (decide (0 ≤ x_12)) = true then (some (.inr root_8)) else (some (.inl x_11))))))) x_7) (fun y => some y)))))))))
theorem whole_Sqrt_spec {F : Nat} {x0 : Big} {r : Big} (h : whole_Sqrt_S F x0 = some r) : Meets Tryd.prog tabs 41 [] [.agg (eBig x0)] (Is [] (.b (.agg (eBig r)))) := by
  unfold whole_Sqrt_S at h
  refine Meets.intro 36 Tryd.func41 Tryd.ntmps41 rfl (by simp) fun E => ?_
  show Tri _ E ⟨36, [], []⟩ _ ⟨[(0, .b (.agg (eBig x0)))], []⟩ _
  refine Tri.seq ?_
  refine Tri.regionL ?_
  refine OpsL.cons rfl (op_box (k := 101) rfl rfl) ?_
  refine OpsL.cons rfl (op_alloc (k := 102) tyZero25 rfl) ?_
  refine OpsL.nilK [1, 2] [101, 102] (s' := ⟨[(1, .b (.ptr 101 0)), (2, .b (.ptr 102 0))], [(101, .box 25 (eBig x0)), (102, .box 25 (.bool false :: .bool false :: ((eA16 .u32) A16.zero)))]⟩) rfl ?_
  refine Tri.seq ?_
  refine Tri.seq ?_
  refine Tri.regionL ?_
  refine OpsL.cons rfl (op_load_p tyAgg25 rfl rfl rfl rfl) ?_
  refine OpsL.cons rfl (op_buildSlice (k := 103) (es := [x0].map eBig) tySl85 rfl rfl (uni_map fun _ => rfl) rfl (by decide) (by decide) rfl) ?_
  obtain ⟨x_1, e1, h⟩ := bnd h
  refine OpsL.cons rfl (op_callB (whole_good_spec e1) goes43 rfl CP.flat_bool) ?_
  refine OpsL.cons rfl (op_not rfl) ?_
  refine OpsL.keep [1, 2, 8] [101, 102] (s' := ⟨[(1, .b (.ptr 101 0)), (2, .b (.ptr 102 0)), (8, B (!x_1))], [(101, .box 25 (eBig x0)), (102, .box 25 (.bool false :: .bool false :: ((eA16 .u32) A16.zero)))]⟩) rfl ?_
  refine OpsL.cons rfl (op_move rfl) ?_
  refine OpsL.consG (!(!x_1)) 99 [] (.plain rfl) (eq_f _) rfl rfl (fun g2 => trivial) (fun g2 => op_field_p tyFld25_1 rfl rfl) ?_
  refine OpsL.consG (!(!x_1)) 99 [10] (.plain rfl) (eq_f _) rfl rfl (fun g3 => ⟨g3, trivial⟩) (fun g3 => op_load_p1 tyOne4 rfl rfl rfl) ?_
  refine OpsL.cons rfl (op_pick_or (fun e => by rw [e]; rfl) rfl rfl rfl rfl) ?_
  refine OpsL.nilK [1, 2, 12] [101, 102] (s' := ⟨[(1, .b (.ptr 101 0)), (2, .b (.ptr 102 0)), (12, B ((!x_1) || x0.Neg))], [(101, .box 25 (eBig x0)), (102, .box 25 (.bool false :: .bool false :: ((eA16 .u32) A16.zero)))]⟩) rfl ?_
  refine Tri.ite h rfl (fun _ h => ?_) (fun _ h => ?_)
  · refine Tri.seq ?_
    refine Tri.regionL ?_
    obtain ⟨x_2, e4, h⟩ := bnd h
    refine OpsL.cons rfl (op_call0 (whole_Bad_spec e4) goes44 rfl rfl) ?_
    refine OpsL.cons rfl (op_store_p tyAgg25 rfl rfl rfl rfl (Nat.le_of_ble_eq_true rfl) rfl) ?_
    refine OpsL.nilK [2] [102] (s' := ⟨[(2, .b (.ptr 102 0))], [(102, .box 25 (eBig x_2))]⟩) rfl ?_
    refine Tri.ret ?_
    refine Fin.then_ret ?_
    obtain rfl := Option.some.inj h
    refine Fin.keep [2] [102] (s' := ⟨[(2, .b (.ptr 102 0))], [(102, .box 25 (eBig x_2))]⟩) rfl ?_
    refine Fin.result' [.agg (eBig x_2)] (.inl rfl) rfl (.cons (.agg tyAgg25 rfl rfl rfl rfl) .nil) ⟨rfl, rfl⟩
  · refine Tri.skip ?_
    refine Fin.keep [1, 2] [101, 102] (s' := ⟨[(1, .b (.ptr 101 0)), (2, .b (.ptr 102 0))], [(101, .box 25 (eBig x0)), (102, .box 25 (.bool false :: .bool false :: ((eA16 .u32) A16.zero)))]⟩) rfl ?_
    refine Fin.then ?_
    refine Tri.seq ?_
    refine Tri.seq ?_
    refine Tri.regionL ?_
    refine OpsL.cons rfl (op_load_p tyAgg25 rfl rfl rfl rfl) ?_
    obtain ⟨x_3, e5, h⟩ := bnd h
    refine OpsL.cons rfl (op_call0 (whole_Sign_spec e5) goes18 rfl rfl) ?_
    refine OpsL.cons rfl (op_eql rfl rfl) ?_
    refine OpsL.nilK [1, 2, 16] [101, 102] (s' := ⟨[(1, .b (.ptr 101 0)), (2, .b (.ptr 102 0)), (16, B (decide (x_3 = 0)))], [(101, .box 25 (eBig x0)), (102, .box 25 (.bool false :: .bool false :: ((eA16 .u32) A16.zero)))]⟩) rfl ?_
    refine Tri.ite h rfl (fun _ h => ?_) (fun _ h => ?_)
    · refine Tri.seq ?_
      refine Tri.regionL ?_
      refine OpsL.cons rfl (op_load_p tyAgg25 rfl rfl rfl rfl) ?_
      refine OpsL.cons rfl (op_store_p tyAgg25 rfl rfl rfl rfl (Nat.le_of_ble_eq_true rfl) rfl) ?_
      refine OpsL.nilK [2] [102] (s' := ⟨[(2, .b (.ptr 102 0))], [(102, .box 25 (eBig x0))]⟩) rfl ?_
      refine Tri.ret ?_
      refine Fin.then_ret ?_
      obtain rfl := Option.some.inj h
      refine Fin.keep [2] [102] (s' := ⟨[(2, .b (.ptr 102 0))], [(102, .box 25 (eBig x0))]⟩) rfl ?_
      refine Fin.result' [.agg (eBig x0)] (.inl rfl) rfl (.cons (.agg tyAgg25 rfl rfl rfl rfl) .nil) ⟨rfl, rfl⟩
    · refine Tri.skip ?_
      refine Fin.keep [1, 2] [101, 102] (s' := ⟨[(1, .b (.ptr 101 0)), (2, .b (.ptr 102 0))], [(101, .box 25 (eBig x0)), (102, .box 25 (.bool false :: .bool false :: ((eA16 .u32) A16.zero)))]⟩) rfl ?_
      refine Fin.then ?_
      refine Tri.seq ?_
      refine Tri.keep [1, 2] [101, 102] (s' := ⟨[(1, .b (.ptr 101 0)), (2, .b (.ptr 102 0))], [(101, .box 25 (eBig x0)), (102, .box 25 (.bool false :: .bool false :: ((eA16 .u32) A16.zero)))]⟩) rfl ?_
      obtain ⟨x_4, e6, h⟩ := bnd h
      obtain ⟨x_5, e7, h⟩ := bnd h
      obtain ⟨x_6, e8, h⟩ := bnd h
      obtain ⟨x_7, e9, h⟩ := bnd h
      refine Tri.regionW mixed [false, false, false, false, false, false, true, true] [.b (.agg (eBig x_4)), .b (.agg (eBig x0)), I x_5, I (IntKind.i64.wrap (x_5 + 1)), I x_6, .b (.agg (eBig x_7)), .b (.ptr 104 0), B true] [⟨[false, false, false, false, false, false, false, false], [(1, .b (.ptr 101 0)), (2, .b (.ptr 102 0))], [(101, .box 25 (eBig x0)), (102, .box 25 (.bool false :: .bool false :: ((eA16 .u32) A16.zero)))], [true, true, true, true, true, true, true, true], []⟩, ⟨[false, false, false, false, false, false, true, false], [(1, .b (.ptr 101 0)), (2, .b (.ptr 102 0))], [(101, .box 25 (eBig x0)), (102, .box 25 (.bool false :: .bool false :: ((eA16 .u32) A16.zero))), (104, .box 25 (.bool false :: .bool false :: ((eA16 .u32) A16.zero)))], [true, true, true, true, true, true, true, true], [6]⟩, ⟨[false, false, false, false, false, false, true, true], [(1, .b (.ptr 101 0)), (2, .b (.ptr 102 0))], [(101, .box 25 (eBig x0)), (102, .box 25 (.bool false :: .bool false :: ((eA16 .u32) A16.zero))), (104, .box 25 (eBig x_7))], [true, true, true, true, true, true, true, true], [0, 1, 2, 3, 4, 5, 6, 7]⟩] rfl (⟨by kernel_rfl, ⟨⟨.b (.agg (eBig x_4)), fun _ => rfl, fun _ => .plain rfl (by exact op_call0 (whole_Of_spec e6) goes38 rfl rfl)⟩, ⟨.b (.agg (eBig x0)), fun _ => rfl, fun _ => .plain rfl (by exact op_load_p tyAgg25 rfl rfl rfl rfl)⟩, ⟨I x_5, fun _ => rfl, fun _ => .plain rfl (by exact op_call0 (whole_Bits_spec e7) goes20 rfl rfl)⟩, ⟨I (IntKind.i64.wrap (x_5 + 1)), fun _ => rfl, fun _ => .plain rfl (by exact op_add rfl rfl)⟩, ⟨I x_6, fun _ => rfl, fun _ => .plain rfl (by exact op_quo2 e8 rfl rfl)⟩, ⟨.b (.agg (eBig x_7)), fun _ => rfl, fun _ => .plain rfl (by exact op_call0 (whole_Shift_spec e9) goes42 rfl rfl)⟩, ⟨_, some 104, .b (.ptr 104 0), rfl, fun _ => rfl, rfl, rfl, fun _ => .toO [101, 102, 104] (by exact .plain rfl (by exact op_alloc (k := 104) tyZero25 rfl)) (by exact rfl)⟩, trivial, trivial⟩, ⟨by kernel_rfl, ⟨⟨.b (.agg (eBig x_4)), fun _ => rfl, fun _ => .plain rfl (by exact op_call0 (whole_Of_spec e6) goes38 rfl rfl)⟩, ⟨.b (.agg (eBig x0)), fun _ => rfl, fun _ => .plain rfl (by exact op_load_p tyAgg25 rfl rfl rfl rfl)⟩, ⟨I x_5, fun _ => rfl, fun _ => .plain rfl (by exact op_call0 (whole_Bits_spec e7) goes20 rfl rfl)⟩, ⟨I (IntKind.i64.wrap (x_5 + 1)), fun _ => rfl, fun _ => .plain rfl (by exact op_add rfl rfl)⟩, ⟨I x_6, fun _ => rfl, fun _ => .plain rfl (by exact op_quo2 e8 rfl rfl)⟩, ⟨.b (.agg (eBig x_7)), fun _ => rfl, fun _ => .plain rfl (by exact op_call0 (whole_Shift_spec e9) goes42 rfl rfl)⟩, trivial, ⟨_, none, .b (.one .any), rfl, (fun e => by simp at e), rfl, rfl, fun _ => .toO [101, 102, 104] (by exact .plain rfl (by exact op_store_p tyAgg25 rfl rfl rfl rfl (Nat.le_of_ble_eq_true rfl) rfl)) (by exact rfl)⟩, trivial⟩, ⟨by kernel_rfl, ⟨trivial, trivial, trivial, trivial, trivial, trivial, trivial, trivial, trivial⟩, trivial⟩⟩⟩) rfl rfl rfl [1, 2, 3] [101, 102, 104] (s' := ⟨[(1, .b (.ptr 101 0)), (2, .b (.ptr 102 0)), (3, .b (.ptr 104 0))], [(101, .box 25 (eBig x0)), (102, .box 25 (.bool false :: .bool false :: ((eA16 .u32) A16.zero))), (104, .box 25 (eBig x_7))]⟩) rfl ?_
      refine Tri.block ?_
      obtain ⟨v10, h11, h⟩ := bnd h
      refine Tri.loopJ h11 (fun (root_8 : Big) => ⟨[(1, .b (.ptr 101 0)), (2, .b (.ptr 102 0)), (3, .b (.ptr 104 0))], [(101, .box 25 (eBig x0)), (102, .box 25 (.bool false :: .bool false :: ((eA16 .u32) A16.zero))), (104, .box 25 (eBig root_8))]⟩) [1, 2, 3] [101, 102, 104] rfl ?_
      rintro root_8 o12 h13 hy14
      refine Tri.block ?_
      refine Tri.seq ?_
      refine Tri.keep [1, 2, 3] [101, 102, 104] (s' := ⟨[(1, .b (.ptr 101 0)), (2, .b (.ptr 102 0)), (3, .b (.ptr 104 0))], [(101, .box 25 (eBig x0)), (102, .box 25 (.bool false :: .bool false :: ((eA16 .u32) A16.zero))), (104, .box 25 (eBig root_8))]⟩) rfl ?_
      obtain ⟨x_9, e15, h13⟩ := bnd h13
      obtain ⟨x_10, e16, h13⟩ := bnd h13
      obtain ⟨x_11, e17, h13⟩ := bnd h13
      refine Tri.regionW mixed [false, false, false, false, false, false, true, true] [.b (.agg (eBig root_8)), .b (.agg (eBig x0)), .b (.agg (eBig root_8)), .b (.agg (eBig x_9)), .b (.agg (eBig x_10)), .b (.agg (eBig x_11)), .b (.ptr 105 0), B true] [⟨[false, false, false, false, false, false, false, false], [(1, .b (.ptr 101 0)), (2, .b (.ptr 102 0)), (3, .b (.ptr 104 0))], [(101, .box 25 (eBig x0)), (102, .box 25 (.bool false :: .bool false :: ((eA16 .u32) A16.zero))), (104, .box 25 (eBig root_8))], [true, true, true, true, true, true, true, true], []⟩, ⟨[false, false, false, false, false, false, true, false], [(1, .b (.ptr 101 0)), (2, .b (.ptr 102 0)), (3, .b (.ptr 104 0))], [(101, .box 25 (eBig x0)), (102, .box 25 (.bool false :: .bool false :: ((eA16 .u32) A16.zero))), (104, .box 25 (eBig root_8)), (105, .box 25 (.bool false :: .bool false :: ((eA16 .u32) A16.zero)))], [true, true, true, true, true, true, true, true], [6]⟩, ⟨[false, false, false, false, false, false, true, true], [(1, .b (.ptr 101 0)), (2, .b (.ptr 102 0)), (3, .b (.ptr 104 0))], [(101, .box 25 (eBig x0)), (102, .box 25 (.bool false :: .bool false :: ((eA16 .u32) A16.zero))), (104, .box 25 (eBig root_8)), (105, .box 25 (eBig x_11))], [true, true, true, true, true, true, true, true], [0, 1, 2, 3, 4, 5, 6, 7]⟩] rfl (⟨by kernel_rfl, ⟨⟨.b (.agg (eBig root_8)), fun _ => rfl, fun _ => .plain rfl (by exact op_load_p tyAgg25 rfl rfl rfl rfl)⟩, ⟨.b (.agg (eBig x0)), fun _ => rfl, fun _ => .plain rfl (by exact op_load_p tyAgg25 rfl rfl rfl rfl)⟩, ⟨.b (.agg (eBig root_8)), fun _ => rfl, fun _ => .plain rfl (by exact op_load_p tyAgg25 rfl rfl rfl rfl)⟩, ⟨.b (.agg (eBig x_9)), fun _ => rfl, fun _ => .plain rfl (by exact op_call0 (whole_Quo_spec e15) goes29 rfl rfl)⟩, ⟨.b (.agg (eBig x_10)), fun _ => rfl, fun _ => .plain rfl (by exact op_call0 (whole_Add_spec e16) goes10 rfl rfl)⟩, ⟨.b (.agg (eBig x_11)), fun _ => rfl, fun _ => .plain rfl (by exact op_call0 (whole_Shift_spec e17) goes42 rfl rfl)⟩, ⟨_, some 105, .b (.ptr 105 0), rfl, fun _ => rfl, rfl, rfl, fun _ => .toO [101, 102, 104, 105] (by exact .plain rfl (by exact op_alloc (k := 105) tyZero25 rfl)) (by exact rfl)⟩, trivial, trivial⟩, ⟨by kernel_rfl, ⟨⟨.b (.agg (eBig root_8)), fun _ => rfl, fun _ => .plain rfl (by exact op_load_p tyAgg25 rfl rfl rfl rfl)⟩, ⟨.b (.agg (eBig x0)), fun _ => rfl, fun _ => .plain rfl (by exact op_load_p tyAgg25 rfl rfl rfl rfl)⟩, ⟨.b (.agg (eBig root_8)), fun _ => rfl, fun _ => .plain rfl (by exact op_load_p tyAgg25 rfl rfl rfl rfl)⟩, ⟨.b (.agg (eBig x_9)), fun _ => rfl, fun _ => .plain rfl (by exact op_call0 (whole_Quo_spec e15) goes29 rfl rfl)⟩, ⟨.b (.agg (eBig x_10)), fun _ => rfl, fun _ => .plain rfl (by exact op_call0 (whole_Add_spec e16) goes10 rfl rfl)⟩, ⟨.b (.agg (eBig x_11)), fun _ => rfl, fun _ => .plain rfl (by exact op_call0 (whole_Shift_spec e17) goes42 rfl rfl)⟩, trivial, ⟨_, none, .b (.one .any), rfl, (fun e => by simp at e), rfl, rfl, fun _ => .toO [101, 102, 104, 105] (by exact .plain rfl (by exact op_store_p tyAgg25 rfl rfl rfl rfl (Nat.le_of_ble_eq_true rfl) rfl)) (by exact rfl)⟩, trivial⟩, ⟨by kernel_rfl, ⟨trivial, trivial, trivial, trivial, trivial, trivial, trivial, trivial, trivial⟩, trivial⟩⟩⟩) rfl rfl rfl [1, 2, 3, 4] [101, 102, 104, 105] (s' := ⟨[(1, .b (.ptr 101 0)), (2, .b (.ptr 102 0)), (3, .b (.ptr 104 0)), (4, .b (.ptr 105 0))], [(101, .box 25 (eBig x0)), (102, .box 25 (.bool false :: .bool false :: ((eA16 .u32) A16.zero))), (104, .box 25 (eBig root_8)), (105, .box 25 (eBig x_11))]⟩) rfl ?_
      refine Tri.seq ?_
      refine Tri.seq ?_
      refine Tri.regionL ?_
      refine OpsL.cons rfl (op_load_p tyAgg25 rfl rfl rfl rfl) ?_
      refine OpsL.cons rfl (op_load_p tyAgg25 rfl rfl rfl rfl) ?_
      obtain ⟨x_12, e18, h13⟩ := bnd h13
      refine OpsL.cons rfl (op_call0 (whole_Cmp_spec e18) goes25 rfl rfl) ?_
      refine OpsL.cons rfl (op_geq rfl rfl) ?_
      refine OpsL.nilK [1, 2, 3, 4, 33] [101, 102, 104, 105] (s' := ⟨[(1, .b (.ptr 101 0)), (2, .b (.ptr 102 0)), (3, .b (.ptr 104 0)), (4, .b (.ptr 105 0)), (33, B (decide (0 ≤ x_12)))], [(101, .box 25 (eBig x0)), (102, .box 25 (.bool false :: .bool false :: ((eA16 .u32) A16.zero))), (104, .box 25 (eBig root_8)), (105, .box 25 (eBig x_11))]⟩) rfl ?_
      refine Tri.ite h13 rfl (fun _ h13 => ?_) (fun _ h13 => ?_)
      · refine Tri.seq ?_
        refine Tri.regionL ?_
        refine OpsL.cons rfl (op_load_p tyAgg25 rfl rfl rfl rfl) ?_
        refine OpsL.cons rfl (op_store_p tyAgg25 rfl rfl rfl rfl (Nat.le_of_ble_eq_true rfl) rfl) ?_
        refine OpsL.nilK [2] [102] (s' := ⟨[(2, .b (.ptr 102 0))], [(102, .box 25 (eBig root_8))]⟩) rfl ?_
        refine Tri.ret ?_
        refine Fin.then_ret ?_
        refine Fin.block_ret ?_
        obtain rfl := hy14 _ (Option.some.inj h13).symm
        refine Fin.then_ret ?_
        refine Fin.block_ret ?_
        obtain rfl := Option.some.inj h
        refine Fin.keep [2] [102] (s' := ⟨[(2, .b (.ptr 102 0))], [(102, .box 25 (eBig root_8))]⟩) rfl ?_
        refine Fin.result' [.agg (eBig root_8)] (.inl rfl) rfl (.cons (.agg tyAgg25 rfl rfl rfl rfl) .nil) ⟨rfl, rfl⟩
      · refine Tri.skip ?_
        refine Fin.keep [1, 2, 3, 4] [101, 102, 104, 105] (s' := ⟨[(1, .b (.ptr 101 0)), (2, .b (.ptr 102 0)), (3, .b (.ptr 104 0)), (4, .b (.ptr 105 0))], [(101, .box 25 (eBig x0)), (102, .box 25 (.bool false :: .bool false :: ((eA16 .u32) A16.zero))), (104, .box 25 (eBig root_8)), (105, .box 25 (eBig x_11))]⟩) rfl ?_
        refine Fin.then ?_
        refine Tri.regionL ?_
        refine OpsL.cons rfl (op_load_p tyAgg25 rfl rfl rfl rfl) ?_
        refine OpsL.cons rfl (op_store_p tyAgg25 rfl rfl rfl rfl (Nat.le_of_ble_eq_true rfl) rfl) ?_
        refine OpsL.nil ?_
        refine Fin.block_normal ?_
        exact Fin.againJ [1, 2, 3] [101, 102, 104] x_11 (Option.some.inj h13) rfl

def whole_Parse_S (F : Nat) (s0 : Str) : Option (Big × Int) :=
 Option.bind (Option.bind (gcall (decide (0 < (s0.length : Int))) (idx? s0 0)) (fun x_2 => letN ((decide (0 < (s0.length : Int))) && (decide ((x_2.toNat : Int) = 45))) fun x_3 => if x_3 = true then (Option.bind (drop? s0 1) (fun x_4 => some x_4)) else (some s0))) (fun digits_1 => Option.bind (gcall (!(decide (digits_1 = []))) (idx? digits_1 0)) (fun x_5 => letN ((decide (digits_1 = [])) || ((decide ((x_5.toNat : Int) = 48)) && (decide (s0 ≠ [48])))) fun x_6 => if x_6 = true then (Option.bind (whole_Bad_S F) (fun x_7 => some (x_7, 281))) else (Option.bind (iter F (fun x_8 => if (decide (x_8 < ((ofStr digits_1).length : Int))) = true then (Option.bind (idx? (ofStr digits_1) x_8) (fun x_9 => if ((decide (x_9 < 48)) || (decide (57 < x_9))) = true then (Option.bind (whole_Bad_S F) (fun x_10 => some (.inr (.inr (x_10, 281))))) else (some (.inl (IntKind.i64.wrap (x_8 + 1)))))) else (some (.inr (.inl ())))) 0) (alt2 (fun _ => if (decide (512 < (digits_1.length : Int))) = true then (Option.bind (whole_Bad_S F) (fun x_11 => some (x_11, 30))) else (Option.bind (whole_Of_S F 0) (fun x_12 => Option.bind (whole_Of_S F 10) (fun x_13 => Option.bind (iter F (un2 fun x_15 x_16 => if (decide (x_16 < ((ofStr digits_1).length : Int))) = true then (Option.bind (idx? (ofStr digits_1) x_16) (fun x_18 => Option.bind (whole_Mul_S F x_15 x_13) (fun x_19 => letN (IntKind.i64.wrap (IntKind.u8.wrap (x_18 - 48))) fun x_20 => Option.bind (whole_Of_S F x_20) (fun x_21 => Option.bind (whole_Add_S F x_19 x_21) (fun x_22 => some (.inl (x_22, IntKind.i64.wrap (x_16 + 1)))))))) else (some (.inr x_15))) (x_12, 0)) (fun x_14 => if x_14.Bad = true then (some (x_14, 30)) else (Option.bind (whole_signed_S F (decide (digits_1 ≠ s0)) x_14.W) (fun x_23 => some (x_23, 0)))))))) (fun y => some y)))))
theorem whole_Parse_spec {F : Nat} {s0 : Str} {r : Big × Int} (h : whole_Parse_S F s0 = some r) : Meets Tryd.prog tabs 36 [] [.one (.str s0)] (Is [] (.tup [.agg (eBig r.1), .one (.i r.2)])) := by
  unfold whole_Parse_S at h
  refine Meets.intro 80 Tryd.func36 Tryd.ntmps36 rfl (by simp) fun E => ?_
  show Tri _ E ⟨80, [], []⟩ _ ⟨[(0, .b (.one (.str s0)))], []⟩ _
  refine Tri.seq ?_
  refine Tri.regionL ?_
  refine OpsL.cons rfl (op_alloc (k := 101) tyZero25 rfl) ?_
  refine OpsL.cons rfl (op_assign rfl) ?_
  refine OpsL.nilK [0, 2] [101] (s' := ⟨[(0, .b (.one (.str s0))), (2, .b (.ptr 101 0))], [(101, .box 25 (.bool false :: .bool false :: ((eA16 .u32) A16.zero)))]⟩) rfl ?_
  refine Tri.seq ?_
  refine Tri.regionL ?_
  refine OpsL.cons rfl (op_move rfl) ?_
  refine OpsL.cons rfl (op_assign rfl) ?_
  refine OpsL.nilK [0, 2, 4] [101] (s' := ⟨[(0, .b (.one (.str s0))), (2, .b (.ptr 101 0)), (4, .b (.one (.str s0)))], [(101, .box 25 (.bool false :: .bool false :: ((eA16 .u32) A16.zero)))]⟩) rfl ?_
  obtain ⟨v1, h2, h⟩ := bnd h
  refine Tri.seqJ (v := v1) (fun (digits_1 : Str) => ⟨[(0, .b (.one (.str s0))), (2, .b (.ptr 101 0)), (4, .b (.one (.str digits_1)))], [(101, .box 25 (.bool false :: .bool false :: ((eA16 .u32) A16.zero)))]⟩) (fun z => z) ?_ ?_
  · refine Tri.seq ?_
    refine Tri.regionL ?_
    refine OpsL.cons rfl (op_move rfl) ?_
    refine OpsL.cons rfl (op_len_str und9 rfl) ?_
    refine OpsL.cons rfl (op_gtr rfl rfl) ?_
    refine OpsL.cons rfl (op_move rfl) ?_
    refine OpsL.consG (decide (0 < (s0.length : Int))) 99 [] (.plain rfl) (eq_t _) rfl rfl (fun g3 => trivial) (fun g3 => op_move rfl) ?_
    obtain ⟨x_2, e5, h2⟩ := bnd h2
    refine OpsL.consG (decide (0 < (s0.length : Int))) 99 [16] (.plain rfl) (eq_t _) rfl rfl (fun g4 => ⟨g4, trivial⟩) (fun g4 => op_index_str und9 rfl rfl (ix_lo (gc e5 g4)) (ix_get (gc e5 g4))) ?_
    refine OpsL.consG (decide (0 < (s0.length : Int))) 99 [17] (.plain rfl) (eq_t _) rfl rfl (fun g6 => ⟨g6, trivial⟩) (fun g6 => op_eql rfl rfl) ?_
    refine OpsL.consB h2 rfl (op_pick_and (fun e => e) rfl rfl rfl rfl) (fun x_3 h2 => ?_)
    refine OpsL.nilK [0, 2, 4, 19] [101] (s' := ⟨[(0, .b (.one (.str s0))), (2, .b (.ptr 101 0)), (4, .b (.one (.str s0))), (19, B x_3)], [(101, .box 25 (.bool false :: .bool false :: ((eA16 .u32) A16.zero)))]⟩) rfl ?_
    refine Tri.ite h2 rfl (fun _ h2 => ?_) (fun _ h2 => ?_)
    · refine Tri.regionL ?_
      refine OpsL.cons rfl (op_move rfl) ?_
      obtain ⟨x_4, e7, h2⟩ := bnd h2
      refine OpsL.cons rfl (op_slice_str_l und9 e7 rfl rfl) ?_
      refine OpsL.cons rfl (op_assign rfl) ?_
      refine OpsL.nil ?_
      exact Fin.join [0, 2, 4] [101] x_4 (Option.some.inj h2) rfl
    · refine Tri.skip ?_
      exact Fin.join [0, 2, 4] [101] s0 (Option.some.inj h2) rfl
  · rintro digits_1 hv
    subst v1
    refine Tri.seq ?_
    refine Tri.seq ?_
    refine Tri.regionL ?_
    refine OpsL.cons rfl (op_move rfl) ?_
    refine OpsL.cons rfl (op_eql_str rfl rfl) ?_
    refine OpsL.cons rfl (op_move rfl) ?_
    refine OpsL.consG (!(decide (digits_1 = []))) 99 [] (.plain rfl) (eq_f _) rfl rfl (fun g8 => trivial) (fun g8 => op_move rfl) ?_
    obtain ⟨x_5, e10, h⟩ := bnd h
    refine OpsL.consG (!(decide (digits_1 = []))) 99 [25] (.plain rfl) (eq_f _) rfl rfl (fun g9 => ⟨g9, trivial⟩) (fun g9 => op_index_str und9 rfl rfl (ix_lo (gc e10 g9)) (ix_get (gc e10 g9))) ?_
    refine OpsL.consG (!(decide (digits_1 = []))) 99 [26] (.plain rfl) (eq_f _) rfl rfl (fun g11 => ⟨g11, trivial⟩) (fun g11 => op_eql rfl rfl) ?_
    refine OpsL.consG (!(decide (digits_1 = []))) 99 [27] (.plain rfl) (eq_f _) rfl rfl (fun g12 => ⟨g12, trivial⟩) (fun g12 => op_move rfl) ?_
    refine OpsL.keep [0, 2, 4, 24, 28] [101] (s' := ⟨[(0, .b (.one (.str s0))), (2, .b (.ptr 101 0)), (4, .b (.one (.str digits_1))), (24, B (decide (digits_1 = []))), (28, .opt (!(decide (digits_1 = []))) (.one (.bool (decide ((x_5.toNat : Int) = 48)))))], [(101, .box 25 (.bool false :: .bool false :: ((eA16 .u32) A16.zero)))]⟩) rfl ?_
    refine OpsL.consG ((!(decide (digits_1 = []))) && (decide ((x_5.toNat : Int) = 48))) 99 [] (.under rfl) (and_t _ _) rfl rfl (fun g13 => trivial) (fun g13 => op_move rfl) ?_
    refine OpsL.consG ((!(decide (digits_1 = []))) && (decide ((x_5.toNat : Int) = 48))) 99 [29] (.under rfl) (and_t _ _) rfl rfl (fun g14 => ⟨g14, trivial⟩) (fun g14 => op_neq_str rfl rfl) ?_
    refine OpsL.consG (!(decide (digits_1 = []))) 99 [28] (.plain rfl) (eq_f _) rfl rfl (fun g15 => ⟨g15, trivial⟩) (fun g15 => op_pick_and (fun e => by rw [g15, e]; rfl) rfl rfl rfl rfl) ?_
    refine OpsL.consB h rfl (op_pick_or (fun e => by rw [e]; rfl) rfl rfl rfl rfl) (fun x_6 h => ?_)
    refine OpsL.nilK [0, 2, 4, 32] [101] (s' := ⟨[(0, .b (.one (.str s0))), (2, .b (.ptr 101 0)), (4, .b (.one (.str digits_1))), (32, B x_6)], [(101, .box 25 (.bool false :: .bool false :: ((eA16 .u32) A16.zero)))]⟩) rfl ?_
    refine Tri.ite h rfl (fun _ h => ?_) (fun _ h => ?_)
    · refine Tri.seq ?_
      refine Tri.regionL ?_
      obtain ⟨x_7, e16, h⟩ := bnd h
      refine OpsL.cons rfl (op_call0 (whole_Bad_spec e16) goes44 rfl rfl) ?_
      refine OpsL.cons rfl (op_store_p tyAgg25 rfl rfl rfl rfl (Nat.le_of_ble_eq_true rfl) rfl) ?_
      refine OpsL.cons rfl (op_assign rfl) ?_
      refine OpsL.nilK [2, 3] [101] (s' := ⟨[(2, .b (.ptr 101 0)), (3, I 281)], [(101, .box 25 (eBig x_7))]⟩) rfl ?_
      refine Tri.ret ?_
      refine Fin.then_ret ?_
      obtain rfl := Option.some.inj h
      refine Fin.keep [2, 3] [101] (s' := ⟨[(2, .b (.ptr 101 0)), (3, I 281)], [(101, .box 25 (eBig x_7))]⟩) rfl ?_
      refine Fin.result' [.agg (eBig x_7), .one (.i 281)] (.inl rfl) rfl (.cons (.agg tyAgg25 rfl rfl rfl rfl) (.cons (.tmp rfl) .nil)) ⟨rfl, rfl⟩
    · refine Tri.skip ?_
      refine Fin.keep [0, 2, 4] [101] (s' := ⟨[(0, .b (.one (.str s0))), (2, .b (.ptr 101 0)), (4, .b (.one (.str digits_1)))], [(101, .box 25 (.bool false :: .bool false :: ((eA16 .u32) A16.zero)))]⟩) rfl ?_
      refine Fin.then ?_
      obtain ⟨v17, h18, h⟩ := bnd h
      refine Tri.seqJ (v := v17) (fun (_ : Unit) => ⟨[(0, .b (.one (.str s0))), (2, .b (.ptr 101 0)), (4, .b (.one (.str digits_1)))], [(101, .box 25 (.bool false :: .bool false :: ((eA16 .u32) A16.zero)))]⟩) (fun z => .inl z) ?_ ?_
      · refine Tri.seq ?_
        refine Tri.regionL ?_
        refine OpsL.cons rfl (op_move rfl) ?_
        refine OpsL.cons rfl (op_conv_str und9 und79 undi5 rfl) ?_
        refine OpsL.cons rfl (op_len_e' und79 rfl (List.length_map _)) ?_
        refine OpsL.cons rfl (op_move rfl) ?_
        refine OpsL.nilK [0, 2, 4, 35, 36, 37] [101] (s' := ⟨[(0, .b (.one (.str s0))), (2, .b (.ptr 101 0)), (4, .b (.one (.str digits_1))), (35, .b (.one (.sl 1 ((ofStr digits_1).map (eK .u8))))), (36, I ((ofStr digits_1).length : Int)), (37, I 0)], [(101, .box 25 (.bool false :: .bool false :: ((eA16 .u32) A16.zero)))]⟩) rfl ?_
        refine Tri.block ?_
        refine Tri.loopJ h18 (fun (x_8 : Int) => ⟨[(0, .b (.one (.str s0))), (2, .b (.ptr 101 0)), (4, .b (.one (.str digits_1))), (35, .b (.one (.sl 1 ((ofStr digits_1).map (eK .u8))))), (36, I ((ofStr digits_1).length : Int)), (37, I x_8)], [(101, .box 25 (.bool false :: .bool false :: ((eA16 .u32) A16.zero)))]⟩) [0, 2, 4, 35, 36, 37] [101] rfl ?_
        rintro x_8 o19 h20 hy21
        refine Tri.seq ?_
        refine Tri.regionL ?_
        refine OpsL.cons rfl (op_lss rfl rfl) ?_
        refine OpsL.nilK [0, 2, 4, 35, 36, 37, 38] [101] (s' := ⟨[(0, .b (.one (.str s0))), (2, .b (.ptr 101 0)), (4, .b (.one (.str digits_1))), (35, .b (.one (.sl 1 ((ofStr digits_1).map (eK .u8))))), (36, I ((ofStr digits_1).length : Int)), (37, I x_8), (38, B (decide (x_8 < ((ofStr digits_1).length : Int))))], [(101, .box 25 (.bool false :: .bool false :: ((eA16 .u32) A16.zero)))]⟩) rfl ?_
        refine Tri.seq ?_
        refine Tri.ite h20 rfl (fun _ h20 => ?_) (fun _ h20 => ?_)
        · refine Tri.skip ?_
          refine Fin.keep [0, 2, 4, 35, 36, 37] [101] (s' := ⟨[(0, .b (.one (.str s0))), (2, .b (.ptr 101 0)), (4, .b (.one (.str digits_1))), (35, .b (.one (.sl 1 ((ofStr digits_1).map (eK .u8))))), (36, I ((ofStr digits_1).length : Int)), (37, I x_8)], [(101, .box 25 (.bool false :: .bool false :: ((eA16 .u32) A16.zero)))]⟩) rfl ?_
          refine Fin.then ?_
          refine Tri.seq ?_
          refine Tri.block ?_
          refine Tri.seq ?_
          refine Tri.regionL ?_
          obtain ⟨x_9, e22, h20⟩ := bnd h20
          refine OpsL.cons rfl (op_index_e tySl79 (ix_lo e22) (ix_map (e := (eK .u8)) e22) rfl rfl) ?_
          refine OpsL.cons rfl (op_load_e1 tyOne5 rfl rfl) ?_
          refine OpsL.cons rfl (op_assign rfl) ?_
          refine OpsL.nilK [0, 2, 4, 6, 35, 36, 37] [101] (s' := ⟨[(0, .b (.one (.str s0))), (2, .b (.ptr 101 0)), (4, .b (.one (.str digits_1))), (6, .b (.one (.int .u8 x_9))), (35, .b (.one (.sl 1 ((ofStr digits_1).map (eK .u8))))), (36, I ((ofStr digits_1).length : Int)), (37, I x_8)], [(101, .box 25 (.bool false :: .bool false :: ((eA16 .u32) A16.zero)))]⟩) rfl ?_
          refine Tri.seq ?_
          refine Tri.regionL ?_
          refine OpsL.cons rfl (op_move rfl) ?_
          refine OpsL.cons rfl (op_lss rfl rfl) ?_
          refine OpsL.cons rfl (op_move rfl) ?_
          refine OpsL.consG (!(decide (x_9 < 48))) 99 [] (.plain rfl) (eq_f _) rfl rfl (fun g23 => trivial) (fun g23 => op_move rfl) ?_
          refine OpsL.consG (!(decide (x_9 < 48))) 99 [44] (.plain rfl) (eq_f _) rfl rfl (fun g24 => ⟨g24, trivial⟩) (fun g24 => op_gtr rfl rfl) ?_
          refine OpsL.cons rfl (op_pick_or (fun e => by rw [e]; rfl) rfl rfl rfl rfl) ?_
          refine OpsL.nilK [0, 2, 4, 35, 36, 37, 46] [101] (s' := ⟨[(0, .b (.one (.str s0))), (2, .b (.ptr 101 0)), (4, .b (.one (.str digits_1))), (35, .b (.one (.sl 1 ((ofStr digits_1).map (eK .u8))))), (36, I ((ofStr digits_1).length : Int)), (37, I x_8), (46, B ((decide (x_9 < 48)) || (decide (57 < x_9))))], [(101, .box 25 (.bool false :: .bool false :: ((eA16 .u32) A16.zero)))]⟩) rfl ?_
          refine Tri.ite h20 rfl (fun _ h20 => ?_) (fun _ h20 => ?_)
          · refine Tri.seq ?_
            refine Tri.regionL ?_
            obtain ⟨x_10, e25, h20⟩ := bnd h20
            refine OpsL.cons rfl (op_call0 (whole_Bad_spec e25) goes44 rfl rfl) ?_
            refine OpsL.cons rfl (op_store_p tyAgg25 rfl rfl rfl rfl (Nat.le_of_ble_eq_true rfl) rfl) ?_
            refine OpsL.cons rfl (op_assign rfl) ?_
            refine OpsL.nilK [2, 3] [101] (s' := ⟨[(2, .b (.ptr 101 0)), (3, I 281)], [(101, .box 25 (eBig x_10))]⟩) rfl ?_
            refine Tri.ret ?_
            refine Fin.block_ret ?_
            refine Fin.then_ret ?_
            obtain rfl := hy21 _ (Option.some.inj h20).symm
            refine Fin.then_ret ?_
            refine Fin.block_ret ?_
            refine Fin.then_ret ?_
            obtain rfl := Option.some.inj h
            refine Fin.keep [2, 3] [101] (s' := ⟨[(2, .b (.ptr 101 0)), (3, I 281)], [(101, .box 25 (eBig x_10))]⟩) rfl ?_
            refine Fin.result' [.agg (eBig x_10), .one (.i 281)] (.inl rfl) rfl (.cons (.agg tyAgg25 rfl rfl rfl rfl) (.cons (.tmp rfl) .nil)) ⟨rfl, rfl⟩
          · refine Tri.skip ?_
            refine Fin.block_normal ?_
            refine Fin.keep [0, 2, 4, 35, 36, 37] [101] (s' := ⟨[(0, .b (.one (.str s0))), (2, .b (.ptr 101 0)), (4, .b (.one (.str digits_1))), (35, .b (.one (.sl 1 ((ofStr digits_1).map (eK .u8))))), (36, I ((ofStr digits_1).length : Int)), (37, I x_8)], [(101, .box 25 (.bool false :: .bool false :: ((eA16 .u32) A16.zero)))]⟩) rfl ?_
            refine Fin.then ?_
            refine Tri.regionL ?_
            refine OpsL.cons rfl (op_add rfl rfl) ?_
            refine OpsL.cons rfl (op_move rfl) ?_
            refine OpsL.nil ?_
            exact Fin.againJ [0, 2, 4, 35, 36, 37] [101] (IntKind.i64.wrap (x_8 + 1)) (Option.some.inj h20) rfl
        · refine Tri.exit ?_
          refine Fin.then_exit ?_
          obtain rfl := hy21 _ (Option.some.inj h20).symm
          refine Fin.then_exit ?_
          refine Fin.block_exit ?_
          exact Fin.join [0, 2, 4] [101] () rfl rfl
      · rintro _ hv
        subst v17
        refine Tri.seq ?_
        refine Tri.seq ?_
        refine Tri.regionL ?_
        refine OpsL.cons rfl (op_move rfl) ?_
        refine OpsL.cons rfl (op_len_str und9 rfl) ?_
        refine OpsL.cons rfl (op_gtr rfl rfl) ?_
        refine OpsL.nilK [0, 2, 4, 51] [101] (s' := ⟨[(0, .b (.one (.str s0))), (2, .b (.ptr 101 0)), (4, .b (.one (.str digits_1))), (51, B (decide (512 < (digits_1.length : Int))))], [(101, .box 25 (.bool false :: .bool false :: ((eA16 .u32) A16.zero)))]⟩) rfl ?_
        refine Tri.ite h rfl (fun _ h => ?_) (fun _ h => ?_)
        · refine Tri.seq ?_
          refine Tri.regionL ?_
          obtain ⟨x_11, e26, h⟩ := bnd h
          refine OpsL.cons rfl (op_call0 (whole_Bad_spec e26) goes44 rfl rfl) ?_
          refine OpsL.cons rfl (op_store_p tyAgg25 rfl rfl rfl rfl (Nat.le_of_ble_eq_true rfl) rfl) ?_
          refine OpsL.cons rfl (op_assign rfl) ?_
          refine OpsL.nilK [2, 3] [101] (s' := ⟨[(2, .b (.ptr 101 0)), (3, I 30)], [(101, .box 25 (eBig x_11))]⟩) rfl ?_
          refine Tri.ret ?_
          refine Fin.then_ret ?_
          obtain rfl := Option.some.inj h
          refine Fin.keep [2, 3] [101] (s' := ⟨[(2, .b (.ptr 101 0)), (3, I 30)], [(101, .box 25 (eBig x_11))]⟩) rfl ?_
          refine Fin.result' [.agg (eBig x_11), .one (.i 30)] (.inl rfl) rfl (.cons (.agg tyAgg25 rfl rfl rfl rfl) (.cons (.tmp rfl) .nil)) ⟨rfl, rfl⟩
        · refine Tri.skip ?_
          refine Fin.keep [0, 2, 4] [101] (s' := ⟨[(0, .b (.one (.str s0))), (2, .b (.ptr 101 0)), (4, .b (.one (.str digits_1)))], [(101, .box 25 (.bool false :: .bool false :: ((eA16 .u32) A16.zero)))]⟩) rfl ?_
          refine Fin.then ?_
          refine Tri.seq ?_
          refine Tri.regionL ?_
          obtain ⟨x_12, e27, h⟩ := bnd h
          refine OpsL.cons rfl (op_call0 (whole_Of_spec e27) goes38 rfl rfl) ?_
          obtain ⟨x_13, e28, h⟩ := bnd h
          refine OpsL.cons rfl (op_call0 (whole_Of_spec e28) goes38 rfl rfl) ?_
          refine OpsL.keep [0, 2, 4, 53, 54] [101] (s' := ⟨[(0, .b (.one (.str s0))), (2, .b (.ptr 101 0)), (4, .b (.one (.str digits_1))), (53, .b (.agg (eBig x_12))), (54, .b (.agg (eBig x_13)))], [(101, .box 25 (.bool false :: .bool false :: ((eA16 .u32) A16.zero)))]⟩) rfl ?_
          refine OpsL.cons rfl (op_alloc (k := 102) tyZero25 rfl) ?_
          refine OpsL.cons rfl (op_alloc (k := 103) tyZero25 rfl) ?_
          refine OpsL.cons rfl (op_store_p tyAgg25 rfl rfl rfl rfl (Nat.le_of_ble_eq_true rfl) rfl) ?_
          refine OpsL.cons rfl (op_store_p tyAgg25 rfl rfl rfl rfl (Nat.le_of_ble_eq_true rfl) rfl) ?_
          refine OpsL.nilK [0, 2, 4, 7, 8] [101, 102, 103] (s' := ⟨[(0, .b (.one (.str s0))), (2, .b (.ptr 101 0)), (4, .b (.one (.str digits_1))), (7, .b (.ptr 102 0)), (8, .b (.ptr 103 0))], [(101, .box 25 (.bool false :: .bool false :: ((eA16 .u32) A16.zero))), (102, .box 25 (eBig x_12)), (103, .box 25 (eBig x_13))]⟩) rfl ?_
          obtain ⟨v29, h30, h⟩ := bnd h
          refine Tri.seqJ (v := v29) (fun (x_14 : Big) => ⟨[(0, .b (.one (.str s0))), (2, .b (.ptr 101 0)), (4, .b (.one (.str digits_1))), (7, .b (.ptr 102 0))], [(101, .box 25 (.bool false :: .bool false :: ((eA16 .u32) A16.zero))), (102, .box 25 (eBig x_14))]⟩) (fun z => z) ?_ ?_
          · refine Tri.seq ?_
            refine Tri.regionL ?_
            refine OpsL.cons rfl (op_move rfl) ?_
            refine OpsL.cons rfl (op_conv_str und9 und79 undi5 rfl) ?_
            refine OpsL.cons rfl (op_len_e' und79 rfl (List.length_map _)) ?_
            refine OpsL.cons rfl (op_move rfl) ?_
            refine OpsL.nilK [0, 2, 4, 7, 8, 56, 57, 58] [101, 102, 103] (s' := ⟨[(0, .b (.one (.str s0))), (2, .b (.ptr 101 0)), (4, .b (.one (.str digits_1))), (7, .b (.ptr 102 0)), (8, .b (.ptr 103 0)), (56, .b (.one (.sl 1 ((ofStr digits_1).map (eK .u8))))), (57, I ((ofStr digits_1).length : Int)), (58, I 0)], [(101, .box 25 (.bool false :: .bool false :: ((eA16 .u32) A16.zero))), (102, .box 25 (eBig x_12)), (103, .box 25 (eBig x_13))]⟩) rfl ?_
            refine Tri.block ?_
            refine Tri.loopJ h30 (un2 fun (x_15 : Big) (x_16 : Int) => ⟨[(0, .b (.one (.str s0))), (2, .b (.ptr 101 0)), (4, .b (.one (.str digits_1))), (7, .b (.ptr 102 0)), (8, .b (.ptr 103 0)), (56, .b (.one (.sl 1 ((ofStr digits_1).map (eK .u8))))), (57, I ((ofStr digits_1).length : Int)), (58, I x_16)], [(101, .box 25 (.bool false :: .bool false :: ((eA16 .u32) A16.zero))), (102, .box 25 (eBig x_15)), (103, .box 25 (eBig x_13))]⟩) [0, 2, 4, 7, 8, 56, 57, 58] [101, 102, 103] rfl ?_
            rintro ⟨x_15, x_16⟩ o31 h32 hy33
            refine Tri.seq ?_
            refine Tri.regionL ?_
            refine OpsL.cons rfl (op_lss rfl rfl) ?_
            refine OpsL.nilK [0, 2, 4, 7, 8, 56, 57, 58, 59] [101, 102, 103] (s' := ⟨[(0, .b (.one (.str s0))), (2, .b (.ptr 101 0)), (4, .b (.one (.str digits_1))), (7, .b (.ptr 102 0)), (8, .b (.ptr 103 0)), (56, .b (.one (.sl 1 ((ofStr digits_1).map (eK .u8))))), (57, I ((ofStr digits_1).length : Int)), (58, I x_16), (59, B (decide (x_16 < ((ofStr digits_1).length : Int))))], [(101, .box 25 (.bool false :: .bool false :: ((eA16 .u32) A16.zero))), (102, .box 25 (eBig x_15)), (103, .box 25 (eBig x_13))]⟩) rfl ?_
            refine Tri.seq ?_
            refine Tri.ite h32 rfl (fun _ h32 => ?_) (fun _ h32 => ?_)
            · refine Tri.skip ?_
              refine Fin.keep [0, 2, 4, 7, 8, 56, 57, 58] [101, 102, 103] (s' := ⟨[(0, .b (.one (.str s0))), (2, .b (.ptr 101 0)), (4, .b (.one (.str digits_1))), (7, .b (.ptr 102 0)), (8, .b (.ptr 103 0)), (56, .b (.one (.sl 1 ((ofStr digits_1).map (eK .u8))))), (57, I ((ofStr digits_1).length : Int)), (58, I x_16)], [(101, .box 25 (.bool false :: .bool false :: ((eA16 .u32) A16.zero))), (102, .box 25 (eBig x_15)), (103, .box 25 (eBig x_13))]⟩) rfl ?_
              refine Fin.then ?_
              refine Tri.seq ?_
              refine Tri.block ?_
              refine Tri.seq ?_
              refine Tri.regionL ?_
              obtain ⟨x_18, e34, h32⟩ := bnd h32
              refine OpsL.cons rfl (op_index_e tySl79 (ix_lo e34) (ix_map (e := (eK .u8)) e34) rfl rfl) ?_
              refine OpsL.cons rfl (op_load_e1 tyOne5 rfl rfl) ?_
              refine OpsL.cons rfl (op_assign rfl) ?_
              refine OpsL.nilK [0, 2, 4, 7, 8, 10, 56, 57, 58] [101, 102, 103] (s' := ⟨[(0, .b (.one (.str s0))), (2, .b (.ptr 101 0)), (4, .b (.one (.str digits_1))), (7, .b (.ptr 102 0)), (8, .b (.ptr 103 0)), (10, .b (.one (.int .u8 x_18))), (56, .b (.one (.sl 1 ((ofStr digits_1).map (eK .u8))))), (57, I ((ofStr digits_1).length : Int)), (58, I x_16)], [(101, .box 25 (.bool false :: .bool false :: ((eA16 .u32) A16.zero))), (102, .box 25 (eBig x_15)), (103, .box 25 (eBig x_13))]⟩) rfl ?_
              refine Tri.regionL ?_
              refine OpsL.cons rfl (op_load_p tyAgg25 rfl rfl rfl rfl) ?_
              refine OpsL.cons rfl (op_load_p tyAgg25 rfl rfl rfl rfl) ?_
              obtain ⟨x_19, e35, h32⟩ := bnd h32
              refine OpsL.cons rfl (op_call0 (whole_Mul_spec e35) goes27 rfl rfl) ?_
              refine OpsL.cons rfl (op_move rfl) ?_
              refine OpsL.cons rfl (op_sub rfl rfl) ?_
              refine OpsL.keep [0, 2, 4, 7, 8, 56, 57, 58, 64, 66] [101, 102, 103] (s' := ⟨[(0, .b (.one (.str s0))), (2, .b (.ptr 101 0)), (4, .b (.one (.str digits_1))), (7, .b (.ptr 102 0)), (8, .b (.ptr 103 0)), (56, .b (.one (.sl 1 ((ofStr digits_1).map (eK .u8))))), (57, I ((ofStr digits_1).length : Int)), (58, I x_16), (64, .b (.agg (eBig x_19))), (66, .b (.one (.int .u8 (IntKind.u8.wrap (x_18 - 48)))))], [(101, .box 25 (.bool false :: .bool false :: ((eA16 .u32) A16.zero))), (102, .box 25 (eBig x_15)), (103, .box 25 (eBig x_13))]⟩) rfl ?_
              refine OpsL.consI .i64 h32 rfl (op_conv_wrap undi5 undi3 rfl) (fun x_20 h32 => ?_)
              obtain ⟨x_21, e36, h32⟩ := bnd h32
              refine OpsL.cons rfl (op_call0 (whole_Of_spec e36) goes38 rfl rfl) ?_
              obtain ⟨x_22, e37, h32⟩ := bnd h32
              refine OpsL.cons rfl (op_call0 (whole_Add_spec e37) goes10 rfl rfl) ?_
              refine OpsL.cons rfl (op_store_p tyAgg25 rfl rfl rfl rfl (Nat.le_of_ble_eq_true rfl) rfl) ?_
              refine OpsL.nil ?_
              refine Fin.block_normal ?_
              refine Fin.keep [0, 2, 4, 7, 8, 56, 57, 58] [101, 102, 103] (s' := ⟨[(0, .b (.one (.str s0))), (2, .b (.ptr 101 0)), (4, .b (.one (.str digits_1))), (7, .b (.ptr 102 0)), (8, .b (.ptr 103 0)), (56, .b (.one (.sl 1 ((ofStr digits_1).map (eK .u8))))), (57, I ((ofStr digits_1).length : Int)), (58, I x_16)], [(101, .box 25 (.bool false :: .bool false :: ((eA16 .u32) A16.zero))), (102, .box 25 (eBig x_22)), (103, .box 25 (eBig x_13))]⟩) rfl ?_
              refine Fin.then ?_
              refine Tri.regionL ?_
              refine OpsL.cons rfl (op_add rfl rfl) ?_
              refine OpsL.cons rfl (op_move rfl) ?_
              refine OpsL.nil ?_
              exact Fin.againJ [0, 2, 4, 7, 8, 56, 57, 58] [101, 102, 103] (x_22, IntKind.i64.wrap (x_16 + 1)) (Option.some.inj h32) rfl
            · refine Tri.exit ?_
              refine Fin.then_exit ?_
              obtain rfl := hy33 _ (Option.some.inj h32).symm
              refine Fin.then_exit ?_
              refine Fin.block_exit ?_
              exact Fin.join [0, 2, 4, 7] [101, 102] x_15 rfl rfl
          · rintro x_14 hv
            subst v29
            refine Tri.seq ?_
            refine Tri.seq ?_
            refine Tri.regionL ?_
            refine OpsL.cons rfl (op_field_p tyFld25_0 rfl rfl) ?_
            refine OpsL.cons rfl (op_load_p1 tyOne4 rfl rfl rfl) ?_
            refine OpsL.nilK [0, 2, 4, 7, 72] [101, 102] (s' := ⟨[(0, .b (.one (.str s0))), (2, .b (.ptr 101 0)), (4, .b (.one (.str digits_1))), (7, .b (.ptr 102 0)), (72, B x_14.Bad)], [(101, .box 25 (.bool false :: .bool false :: ((eA16 .u32) A16.zero))), (102, .box 25 (eBig x_14))]⟩) rfl ?_
            refine Tri.ite h rfl (fun _ h => ?_) (fun _ h => ?_)
            · refine Tri.seq ?_
              refine Tri.regionL ?_
              refine OpsL.cons rfl (op_load_p tyAgg25 rfl rfl rfl rfl) ?_
              refine OpsL.cons rfl (op_store_p tyAgg25 rfl rfl rfl rfl (Nat.le_of_ble_eq_true rfl) rfl) ?_
              refine OpsL.cons rfl (op_assign rfl) ?_
              refine OpsL.nilK [2, 3] [101] (s' := ⟨[(2, .b (.ptr 101 0)), (3, I 30)], [(101, .box 25 (eBig x_14))]⟩) rfl ?_
              refine Tri.ret ?_
              refine Fin.then_ret ?_
              obtain rfl := Option.some.inj h
              refine Fin.keep [2, 3] [101] (s' := ⟨[(2, .b (.ptr 101 0)), (3, I 30)], [(101, .box 25 (eBig x_14))]⟩) rfl ?_
              refine Fin.result' [.agg (eBig x_14), .one (.i 30)] (.inl rfl) rfl (.cons (.agg tyAgg25 rfl rfl rfl rfl) (.cons (.tmp rfl) .nil)) ⟨rfl, rfl⟩
            · refine Tri.skip ?_
              refine Fin.keep [0, 2, 4, 7] [101, 102] (s' := ⟨[(0, .b (.one (.str s0))), (2, .b (.ptr 101 0)), (4, .b (.one (.str digits_1))), (7, .b (.ptr 102 0))], [(101, .box 25 (.bool false :: .bool false :: ((eA16 .u32) A16.zero))), (102, .box 25 (eBig x_14))]⟩) rfl ?_
              refine Fin.then ?_
              refine Tri.seq ?_
              refine Tri.regionL ?_
              refine OpsL.cons rfl (op_move rfl) ?_
              refine OpsL.cons rfl (op_move rfl) ?_
              refine OpsL.cons rfl (op_neq_str rfl rfl) ?_
              refine OpsL.cons rfl (op_field_p tyFld25_2 rfl rfl) ?_
              refine OpsL.cons rfl (op_load_p tyAgg23 rfl rfl rfl rfl) ?_
              refine OpsL.keep [2, 76, 78] [101] (s' := ⟨[(2, .b (.ptr 101 0)), (76, B (decide (digits_1 ≠ s0))), (78, .b (.agg ((eA16 .u32) x_14.W)))], [(101, .box 25 (.bool false :: .bool false :: ((eA16 .u32) A16.zero)))]⟩) rfl ?_
              obtain ⟨x_23, e38, h⟩ := bnd h
              refine OpsL.cons rfl (op_call0 (whole_signed_spec e38) goes46 rfl rfl) ?_
              refine OpsL.cons rfl (op_store_p tyAgg25 rfl rfl rfl rfl (Nat.le_of_ble_eq_true rfl) rfl) ?_
              refine OpsL.cons rfl (op_assign rfl) ?_
              refine OpsL.nilK [2, 3] [101] (s' := ⟨[(2, .b (.ptr 101 0)), (3, I 0)], [(101, .box 25 (eBig x_23))]⟩) rfl ?_
              refine Tri.ret ?_
              obtain rfl := Option.some.inj h
              refine Fin.keep [2, 3] [101] (s' := ⟨[(2, .b (.ptr 101 0)), (3, I 0)], [(101, .box 25 (eBig x_23))]⟩) rfl ?_
              refine Fin.result' [.agg (eBig x_23), .one (.i 0)] (.inl rfl) rfl (.cons (.agg tyAgg25 rfl rfl rfl rfl) (.cons (.tmp rfl) .nil)) ⟨rfl, rfl⟩

def skewbacklaw03_sanity_S (F : Nat) : Option Bool :=
 Option.bind (whole_Of_S F 1099511627776) (fun x_1 => Option.bind (whole_Of_S F 7) (fun x_2 => Option.bind (whole_Of_S F 2) (fun x_3 => Option.bind (whole_Mul_S F x_1 x_1) (fun x_4 => Option.bind (whole_Text_S F x_4) (fun x_5 => letN (decide (x_5 = [49, 50, 48, 56, 57, 50, 53, 56, 49, 57, 54, 49, 52, 54, 50, 57, 49, 55, 52, 55, 48, 54, 49, 55, 54])) fun x_6 => Option.bind (whole_Neg_S F x_2) (fun x_7 => Option.bind (whole_Quo_S F x_7 x_3) (fun x_8 => Option.bind (whole_Of_S F (-4)) (fun x_9 => Option.bind (gcall (decide (x_8 = x_9)) (whole_Neg_S F x_2)) (fun x_10 => Option.bind (gcall (decide (x_8 = x_9)) (whole_Rem_S F x_10 x_3)) (fun x_11 => Option.bind (gcall (decide (x_8 = x_9)) (whole_Of_S F 1)) (fun x_12 => Option.bind (whole_Of_S F (-2)) (fun x_13 => Option.bind (whole_Quo_S F x_2 x_13) (fun x_14 => Option.bind (whole_Of_S F (-4)) (fun x_15 => Option.bind (gcall (decide (x_14 = x_15)) (whole_Of_S F (-2))) (fun x_16 => Option.bind (gcall (decide (x_14 = x_15)) (whole_Rem_S F x_2 x_16)) (fun x_17 => Option.bind (gcall (decide (x_14 = x_15)) (whole_Of_S F (-1))) (fun x_18 => Option.bind (whole_Of_S F 12) (fun x_19 => Option.bind (whole_Of_S F (-18)) (fun x_20 => Option.bind (whole_Gcd_S F x_19 x_20) (fun x_21 => Option.bind (whole_Of_S F 6) (fun x_22 => Option.bind (gcall (decide (x_21 = x_22)) (whole_Of_S F 99)) (fun x_23 => Option.bind (gcall (decide (x_21 = x_22)) (whole_Sqrt_S F x_23)) (fun x_24 => Option.bind (gcall (decide (x_21 = x_22)) (whole_Of_S F 9)) (fun x_25 => Option.bind (gcall ((decide (x_21 = x_22)) && (decide (x_24 = x_25))) (whole_Of_S F 255)) (fun x_26 => Option.bind (gcall ((decide (x_21 = x_22)) && (decide (x_24 = x_25))) (whole_Bits_S F x_26)) (fun x_27 => letN (((decide (x_21 = x_22)) && (decide (x_24 = x_25))) && (decide (x_27 = 8))) fun x_28 => Option.bind (gcall x_28 (whole_Of_S F 0)) (fun x_29 => Option.bind (gcall x_28 (whole_Bits_S F x_29)) (fun x_30 => Option.bind (whole_Of_S F 5) (fun x_31 => Option.bind (whole_Shift_S F x_31 3) (fun x_32 => Option.bind (whole_Of_S F 40) (fun x_33 => Option.bind (gcall (decide (x_32 = x_33)) (whole_Of_S F (-5))) (fun x_34 => Option.bind (gcall (decide (x_32 = x_33)) (whole_Shift_S F x_34 (-1))) (fun x_35 => Option.bind (gcall (decide (x_32 = x_33)) (whole_Of_S F (-3))) (fun x_36 => Option.bind (gcall ((decide (x_32 = x_33)) && (decide (x_35 = x_36))) (whole_Of_S F 1)) (fun x_37 => Option.bind (gcall ((decide (x_32 = x_33)) && (decide (x_35 = x_36))) (whole_Shift_S F x_37 511)) (fun x_38 => letN (((decide (x_32 = x_33)) && (decide (x_35 = x_36))) && (!x_38.Bad)) fun x_39 => Option.bind (gcall x_39 (whole_Of_S F 1)) (fun x_40 => Option.bind (gcall x_39 (whole_Shift_S F x_40 512)) (fun x_41 => Option.bind (whole_Of_S F 1) (fun x_42 => Option.bind (whole_Of_S F 0) (fun x_43 => Option.bind (whole_Quo_S F x_42 x_43) (fun x_44 => Option.bind (gcall x_44.Bad (whole_Of_S F (-1))) (fun x_45 => Option.bind (gcall x_44.Bad (whole_Sqrt_S F x_45)) (fun x_46 => Option.bind (gcall (x_44.Bad && x_46.Bad) (whole_Bad_S F)) (fun x_47 => Option.bind (gcall (x_44.Bad && x_46.Bad) (whole_Of_S F 1)) (fun x_48 => Option.bind (gcall (x_44.Bad && x_46.Bad) (whole_Add_S F x_47 x_48)) (fun x_49 => Option.bind (whole_Parse_S F [45, 48]) (un2 fun x_50 x_51 => Option.bind (whole_Parse_S F [48, 48, 55]) (un2 fun x_52 x_53 => Option.bind (whole_Parse_S F [45, 49, 50]) (un2 fun x_54 x_55 => Option.bind (gcall ((((((((x_6 && ((decide (x_8 = x_9)) && (decide (x_11 = x_12)))) && ((decide (x_14 = x_15)) && (decide (x_17 = x_18)))) && (x_28 && (decide (x_30 = 0)))) && (x_39 && x_41.Bad)) && ((x_44.Bad && x_46.Bad) && x_49.Bad)) && (decide (x_51 = 281))) && (decide (x_53 = 281))) && (decide (x_55 = 0))) (whole_Of_S F (-12))) (fun x_56 => Option.bind (gcall (((((((((x_6 && ((decide (x_8 = x_9)) && (decide (x_11 = x_12)))) && ((decide (x_14 = x_15)) && (decide (x_17 = x_18)))) && (x_28 && (decide (x_30 = 0)))) && (x_39 && x_41.Bad)) && ((x_44.Bad && x_46.Bad) && x_49.Bad)) && (decide (x_51 = 281))) && (decide (x_53 = 281))) && (decide (x_55 = 0))) && (decide (x_54 = x_56))) (whole_Cmp_S F x_2 x_3)) (fun x_57 => some ((((((((((x_6 && ((decide (x_8 = x_9)) && (decide (x_11 = x_12)))) && ((decide (x_14 = x_15)) && (decide (x_17 = x_18)))) && (x_28 && (decide (x_30 = 0)))) && (x_39 && x_41.Bad)) && ((x_44.Bad && x_46.Bad) && x_49.Bad)) && (decide (x_51 = 281))) && (decide (x_53 = 281))) && (decide (x_55 = 0))) && (decide (x_54 = x_56))) && (decide (x_57 = 1))))))))))))))))))))))))))))))))))))))))))))))))))))))
theorem skewbacklaw03_sanity_spec {F : Nat} {r : Bool} (h : skewbacklaw03_sanity_S F = some r) : Meets Tryd.prog tabs 22 [] [] (Is [] (.b (.one (.bool r)))) := by
  unfold skewbacklaw03_sanity_S at h
  refine Meets.intro 158 Tryd.func22 Tryd.ntmps22 rfl (by simp) fun E => ?_
  show Tri _ E ⟨158, [], []⟩ _ ⟨[], []⟩ _
  refine Tri.seq ?_
  refine Tri.regionL ?_
  refine OpsL.cons rfl (op_assign rfl) ?_
  refine OpsL.nilK [] [] (s' := ⟨[], []⟩) rfl ?_
  refine Tri.seq ?_
  refine Tri.regionL ?_
  obtain ⟨x_1, e1, h⟩ := bnd h
  refine OpsL.cons rfl (op_call0 (whole_Of_spec e1) goes38 rfl rfl) ?_
  refine OpsL.cons rfl (op_alloc (k := 101) tyZero25 rfl) ?_
  refine OpsL.cons rfl (op_store_p tyAgg25 rfl rfl rfl rfl (Nat.le_of_ble_eq_true rfl) rfl) ?_
  refine OpsL.nilK [1] [101] (s' := ⟨[(1, .b (.ptr 101 0))], [(101, .box 25 (eBig x_1))]⟩) rfl ?_
  refine Tri.seq ?_
  refine Tri.regionL ?_
  obtain ⟨x_2, e2, h⟩ := bnd h
  refine OpsL.cons rfl (op_call0 (whole_Of_spec e2) goes38 rfl rfl) ?_
  refine OpsL.cons rfl (op_alloc (k := 102) tyZero25 rfl) ?_
  refine OpsL.cons rfl (op_store_p tyAgg25 rfl rfl rfl rfl (Nat.le_of_ble_eq_true rfl) rfl) ?_
  refine OpsL.nilK [1, 2] [101, 102] (s' := ⟨[(1, .b (.ptr 101 0)), (2, .b (.ptr 102 0))], [(101, .box 25 (eBig x_1)), (102, .box 25 (eBig x_2))]⟩) rfl ?_
  refine Tri.seq ?_
  refine Tri.regionL ?_
  obtain ⟨x_3, e3, h⟩ := bnd h
  refine OpsL.cons rfl (op_call0 (whole_Of_spec e3) goes38 rfl rfl) ?_
  refine OpsL.cons rfl (op_alloc (k := 103) tyZero25 rfl) ?_
  refine OpsL.cons rfl (op_store_p tyAgg25 rfl rfl rfl rfl (Nat.le_of_ble_eq_true rfl) rfl) ?_
  refine OpsL.nilK [1, 2, 3] [101, 102, 103] (s' := ⟨[(1, .b (.ptr 101 0)), (2, .b (.ptr 102 0)), (3, .b (.ptr 103 0))], [(101, .box 25 (eBig x_1)), (102, .box 25 (eBig x_2)), (103, .box 25 (eBig x_3))]⟩) rfl ?_
  refine Tri.seq ?_
  refine Tri.regionL ?_
  refine OpsL.cons rfl (op_load_p tyAgg25 rfl rfl rfl rfl) ?_
  refine OpsL.cons rfl (op_load_p tyAgg25 rfl rfl rfl rfl) ?_
  obtain ⟨x_4, e4, h⟩ := bnd h
  refine OpsL.cons rfl (op_call0 (whole_Mul_spec e4) goes27 rfl rfl) ?_
  refine OpsL.keep [2, 3, 21] [102, 103] (s' := ⟨[(2, .b (.ptr 102 0)), (3, .b (.ptr 103 0)), (21, .b (.agg (eBig x_4)))], [(102, .box 25 (eBig x_2)), (103, .box 25 (eBig x_3))]⟩) rfl ?_
  obtain ⟨x_5, e5, h⟩ := bnd h
  refine OpsL.cons rfl (op_call0 (whole_Text_spec e5) goes33 rfl rfl) ?_
  refine OpsL.consB h rfl (op_eql_str rfl rfl) (fun x_6 h => ?_)
  refine OpsL.cons rfl (op_assign rfl) ?_
  refine OpsL.nilK [2, 3, 4] [102, 103] (s' := ⟨[(2, .b (.ptr 102 0)), (3, .b (.ptr 103 0)), (4, B x_6)], [(102, .box 25 (eBig x_2)), (103, .box 25 (eBig x_3))]⟩) rfl ?_
  refine Tri.seq ?_
  refine Tri.keep [2, 3, 4] [102, 103] (s' := ⟨[(2, .b (.ptr 102 0)), (3, .b (.ptr 103 0)), (4, B x_6)], [(102, .box 25 (eBig x_2)), (103, .box 25 (eBig x_3))]⟩) rfl ?_
  obtain ⟨x_7, e6, h⟩ := bnd h
  obtain ⟨x_8, e7, h⟩ := bnd h
  obtain ⟨x_9, e8, h⟩ := bnd h
  obtain ⟨x_10, e11, h⟩ := bnd h
  obtain ⟨x_11, e14, h⟩ := bnd h
  obtain ⟨x_12, e16, h⟩ := bnd h
  refine Tri.regionY mixed 15 [.b (.agg (eBig x_2)), .b (.agg (eBig x_7)), .b (.agg (eBig x_3)), .b (.agg (eBig x_8)), .b (.agg (eBig x_9)), B (decide (x_8 = x_9)), B (decide (x_8 = x_9)), .opt (decide (x_8 = x_9)) (.agg (eBig x_2)), .opt (decide (x_8 = x_9)) (.agg (eBig x_10)), .opt (decide (x_8 = x_9)) (.agg (eBig x_3)), .opt (decide (x_8 = x_9)) (.agg (eBig x_11)), .opt (decide (x_8 = x_9)) (.agg (eBig x_12)), .opt (decide (x_8 = x_9)) (.one (.bool (decide (x_11 = x_12)))), B ((decide (x_8 = x_9)) && (decide (x_11 = x_12))), B ((decide (x_8 = x_9)) && (decide (x_11 = x_12)))] [2, 3, 4, 5] [102, 103] (s' := ⟨[(2, .b (.ptr 102 0)), (3, .b (.ptr 103 0)), (4, B x_6), (5, B ((decide (x_8 = x_9)) && (decide (x_11 = x_12))))], [(102, .box 25 (eBig x_2)), (103, .box 25 (eBig x_3))]⟩) rfl ⟨fun _ => .plain rfl (op_load_p tyAgg25 rfl rfl rfl rfl), fun _ => .plain rfl (op_call0 (whole_Neg_spec e6) goes14 rfl rfl), fun _ => .plain rfl (op_load_p tyAgg25 rfl rfl rfl rfl), fun _ => .plain rfl (op_call0 (whole_Quo_spec e7) goes29 rfl rfl), fun _ => .plain rfl (op_call0 (whole_Of_spec e8) goes38 rfl rfl), fun _ => .plain rfl (op_eql_agg (eqAgg25 x_8 x_9) rfl rfl), fun _ => .plain rfl (op_move rfl), fun _ => by exact .guard (decide (x_8 = x_9)) 1 [] (.plain rfl) (eq_t _) rfl rfl (fun g9 => trivial) (fun g9 => op_load_p tyAgg25 rfl rfl rfl rfl), fun _ => by exact .guard (decide (x_8 = x_9)) 3 [31] (.plain rfl) (eq_t _) rfl rfl (fun g10 => ⟨g10, trivial⟩) (fun g10 => op_call0 (whole_Neg_spec (gc e11 g10)) goes14 rfl rfl), fun _ => by exact .guard (decide (x_8 = x_9)) 1 [] (.plain rfl) (eq_t _) rfl rfl (fun g12 => trivial) (fun g12 => op_load_p tyAgg25 rfl rfl rfl rfl), fun _ => by exact .guard (decide (x_8 = x_9)) 4 [32, 33] (.plain rfl) (eq_t _) rfl rfl (fun g13 => ⟨g13, g13, g13, trivial⟩) (fun g13 => op_call0 (whole_Rem_spec (gc e14 g13)) goes31 rfl rfl), fun _ => by exact .guard (decide (x_8 = x_9)) 2 [] (.plain rfl) (eq_t _) rfl rfl (fun g15 => trivial) (fun g15 => op_call0 (whole_Of_spec (gc e16 g15)) goes38 rfl rfl), fun _ => by exact .guard (decide (x_8 = x_9)) 3 [34, 35] (.plain rfl) (eq_t _) rfl rfl (fun g17 => ⟨g17, g17, trivial⟩) (fun g17 => op_eql_agg (eqAgg25 x_11 x_12) rfl rfl), fun _ => .plain rfl (op_pick_and (fun e => e) rfl rfl rfl rfl), fun _ => .plain rfl (op_assign rfl), trivial⟩ rfl rfl ?_
  refine Tri.seq ?_
  refine Tri.keep [2, 3, 4, 5] [102, 103] (s' := ⟨[(2, .b (.ptr 102 0)), (3, .b (.ptr 103 0)), (4, B x_6), (5, B ((decide (x_8 = x_9)) && (decide (x_11 = x_12))))], [(102, .box 25 (eBig x_2)), (103, .box 25 (eBig x_3))]⟩) rfl ?_
  obtain ⟨x_13, e18, h⟩ := bnd h
  obtain ⟨x_14, e19, h⟩ := bnd h
  obtain ⟨x_15, e20, h⟩ := bnd h
  obtain ⟨x_16, e23, h⟩ := bnd h
  obtain ⟨x_17, e25, h⟩ := bnd h
  obtain ⟨x_18, e27, h⟩ := bnd h
  refine Tri.regionY mixed 13 [.b (.agg (eBig x_2)), .b (.agg (eBig x_13)), .b (.agg (eBig x_14)), .b (.agg (eBig x_15)), B (decide (x_14 = x_15)), B (decide (x_14 = x_15)), .opt (decide (x_14 = x_15)) (.agg (eBig x_2)), .opt (decide (x_14 = x_15)) (.agg (eBig x_16)), .opt (decide (x_14 = x_15)) (.agg (eBig x_17)), .opt (decide (x_14 = x_15)) (.agg (eBig x_18)), .opt (decide (x_14 = x_15)) (.one (.bool (decide (x_17 = x_18)))), B ((decide (x_14 = x_15)) && (decide (x_17 = x_18))), B ((decide (x_14 = x_15)) && (decide (x_17 = x_18)))] [2, 3, 4, 5, 6] [102, 103] (s' := ⟨[(2, .b (.ptr 102 0)), (3, .b (.ptr 103 0)), (4, B x_6), (5, B ((decide (x_8 = x_9)) && (decide (x_11 = x_12)))), (6, B ((decide (x_14 = x_15)) && (decide (x_17 = x_18))))], [(102, .box 25 (eBig x_2)), (103, .box 25 (eBig x_3))]⟩) rfl ⟨fun _ => .plain rfl (op_load_p tyAgg25 rfl rfl rfl rfl), fun _ => .plain rfl (op_call0 (whole_Of_spec e18) goes38 rfl rfl), fun _ => .plain rfl (op_call0 (whole_Quo_spec e19) goes29 rfl rfl), fun _ => .plain rfl (op_call0 (whole_Of_spec e20) goes38 rfl rfl), fun _ => .plain rfl (op_eql_agg (eqAgg25 x_14 x_15) rfl rfl), fun _ => .plain rfl (op_move rfl), fun _ => by exact .guard (decide (x_14 = x_15)) 1 [] (.plain rfl) (eq_t _) rfl rfl (fun g21 => trivial) (fun g21 => op_load_p tyAgg25 rfl rfl rfl rfl), fun _ => by exact .guard (decide (x_14 = x_15)) 2 [] (.plain rfl) (eq_t _) rfl rfl (fun g22 => trivial) (fun g22 => op_call0 (whole_Of_spec (gc e23 g22)) goes38 rfl rfl), fun _ => by exact .guard (decide (x_14 = x_15)) 4 [44, 45] (.plain rfl) (eq_t _) rfl rfl (fun g24 => ⟨g24, g24, g24, trivial⟩) (fun g24 => op_call0 (whole_Rem_spec (gc e25 g24)) goes31 rfl rfl), fun _ => by exact .guard (decide (x_14 = x_15)) 2 [] (.plain rfl) (eq_t _) rfl rfl (fun g26 => trivial) (fun g26 => op_call0 (whole_Of_spec (gc e27 g26)) goes38 rfl rfl), fun _ => by exact .guard (decide (x_14 = x_15)) 3 [46, 47] (.plain rfl) (eq_t _) rfl rfl (fun g28 => ⟨g28, g28, trivial⟩) (fun g28 => op_eql_agg (eqAgg25 x_17 x_18) rfl rfl), fun _ => .plain rfl (op_pick_and (fun e => e) rfl rfl rfl rfl), fun _ => .plain rfl (op_assign rfl), trivial⟩ rfl rfl ?_
  refine Tri.seq ?_
  refine Tri.regionL ?_
  obtain ⟨x_19, e29, h⟩ := bnd h
  refine OpsL.cons rfl (op_call0 (whole_Of_spec e29) goes38 rfl rfl) ?_
  obtain ⟨x_20, e30, h⟩ := bnd h
  refine OpsL.cons rfl (op_call0 (whole_Of_spec e30) goes38 rfl rfl) ?_
  refine OpsL.keep [2, 3, 4, 5, 6, 50, 51] [102, 103] (s' := ⟨[(2, .b (.ptr 102 0)), (3, .b (.ptr 103 0)), (4, B x_6), (5, B ((decide (x_8 = x_9)) && (decide (x_11 = x_12)))), (6, B ((decide (x_14 = x_15)) && (decide (x_17 = x_18)))), (50, .b (.agg (eBig x_19))), (51, .b (.agg (eBig x_20)))], [(102, .box 25 (eBig x_2)), (103, .box 25 (eBig x_3))]⟩) rfl ?_
  obtain ⟨x_21, e31, h⟩ := bnd h
  refine OpsL.cons rfl (op_call0 (whole_Gcd_spec e31) goes40 rfl rfl) ?_
  obtain ⟨x_22, e32, h⟩ := bnd h
  refine OpsL.cons rfl (op_call0 (whole_Of_spec e32) goes38 rfl rfl) ?_
  refine OpsL.cons rfl (op_eql_agg (eqAgg25 x_21 x_22) rfl rfl) ?_
  refine OpsL.cons rfl (op_move rfl) ?_
  refine OpsL.keep [2, 3, 4, 5, 6, 55] [102, 103] (s' := ⟨[(2, .b (.ptr 102 0)), (3, .b (.ptr 103 0)), (4, B x_6), (5, B ((decide (x_8 = x_9)) && (decide (x_11 = x_12)))), (6, B ((decide (x_14 = x_15)) && (decide (x_17 = x_18)))), (55, B (decide (x_21 = x_22)))], [(102, .box 25 (eBig x_2)), (103, .box 25 (eBig x_3))]⟩) rfl ?_
  obtain ⟨x_23, e34, h⟩ := bnd h
  refine OpsL.consG (decide (x_21 = x_22)) 99 [] (.plain rfl) (eq_t _) rfl rfl (fun g33 => trivial) (fun g33 => op_call0 (whole_Of_spec (gc e34 g33)) goes38 rfl rfl) ?_
  obtain ⟨x_24, e36, h⟩ := bnd h
  refine OpsL.consG (decide (x_21 = x_22)) 99 [56] (.plain rfl) (eq_t _) rfl rfl (fun g35 => ⟨g35, trivial⟩) (fun g35 => op_call0 (whole_Sqrt_spec (gc e36 g35)) goes41 rfl rfl) ?_
  obtain ⟨x_25, e38, h⟩ := bnd h
  refine OpsL.consG (decide (x_21 = x_22)) 99 [] (.plain rfl) (eq_t _) rfl rfl (fun g37 => trivial) (fun g37 => op_call0 (whole_Of_spec (gc e38 g37)) goes38 rfl rfl) ?_
  refine OpsL.consG (decide (x_21 = x_22)) 99 [57, 58] (.plain rfl) (eq_t _) rfl rfl (fun g39 => ⟨g39, g39, trivial⟩) (fun g39 => op_eql_agg (eqAgg25 x_24 x_25) rfl rfl) ?_
  refine OpsL.keep [2, 3, 4, 5, 6, 55, 59] [102, 103] (s' := ⟨[(2, .b (.ptr 102 0)), (3, .b (.ptr 103 0)), (4, B x_6), (5, B ((decide (x_8 = x_9)) && (decide (x_11 = x_12)))), (6, B ((decide (x_14 = x_15)) && (decide (x_17 = x_18)))), (55, B (decide (x_21 = x_22))), (59, .opt (decide (x_21 = x_22)) (.one (.bool (decide (x_24 = x_25)))))], [(102, .box 25 (eBig x_2)), (103, .box 25 (eBig x_3))]⟩) rfl ?_
  refine OpsL.cons rfl (op_pick_and (fun e => e) rfl rfl rfl rfl) ?_
  refine OpsL.cons rfl (op_move rfl) ?_
  obtain ⟨x_26, e41, h⟩ := bnd h
  refine OpsL.consG ((decide (x_21 = x_22)) && (decide (x_24 = x_25))) 99 [] (.plain rfl) (eq_t _) rfl rfl (fun g40 => trivial) (fun g40 => op_call0 (whole_Of_spec (gc e41 g40)) goes38 rfl rfl) ?_
  obtain ⟨x_27, e43, h⟩ := bnd h
  refine OpsL.consG ((decide (x_21 = x_22)) && (decide (x_24 = x_25))) 99 [62] (.plain rfl) (eq_t _) rfl rfl (fun g42 => ⟨g42, trivial⟩) (fun g42 => op_call0 (whole_Bits_spec (gc e43 g42)) goes20 rfl rfl) ?_
  refine OpsL.keep [2, 3, 4, 5, 6, 61, 63] [102, 103] (s' := ⟨[(2, .b (.ptr 102 0)), (3, .b (.ptr 103 0)), (4, B x_6), (5, B ((decide (x_8 = x_9)) && (decide (x_11 = x_12)))), (6, B ((decide (x_14 = x_15)) && (decide (x_17 = x_18)))), (61, B ((decide (x_21 = x_22)) && (decide (x_24 = x_25)))), (63, .opt ((decide (x_21 = x_22)) && (decide (x_24 = x_25))) (.one (.i x_27)))], [(102, .box 25 (eBig x_2)), (103, .box 25 (eBig x_3))]⟩) rfl ?_
  refine OpsL.consG ((decide (x_21 = x_22)) && (decide (x_24 = x_25))) 99 [63] (.plain rfl) (eq_t _) rfl rfl (fun g44 => ⟨g44, trivial⟩) (fun g44 => op_eql rfl rfl) ?_
  refine OpsL.consB h rfl (op_pick_and (fun e => e) rfl rfl rfl rfl) (fun x_28 h => ?_)
  refine OpsL.cons rfl (op_move rfl) ?_
  obtain ⟨x_29, e46, h⟩ := bnd h
  refine OpsL.consG x_28 99 [] (.plain rfl) (eq_t _) rfl rfl (fun g45 => trivial) (fun g45 => op_call0 (whole_Of_spec (gc e46 g45)) goes38 rfl rfl) ?_
  refine OpsL.keep [2, 3, 4, 5, 6, 66, 67] [102, 103] (s' := ⟨[(2, .b (.ptr 102 0)), (3, .b (.ptr 103 0)), (4, B x_6), (5, B ((decide (x_8 = x_9)) && (decide (x_11 = x_12)))), (6, B ((decide (x_14 = x_15)) && (decide (x_17 = x_18)))), (66, B x_28), (67, .opt x_28 (.agg (eBig x_29)))], [(102, .box 25 (eBig x_2)), (103, .box 25 (eBig x_3))]⟩) rfl ?_
  obtain ⟨x_30, e48, h⟩ := bnd h
  refine OpsL.consG x_28 99 [67] (.plain rfl) (eq_t _) rfl rfl (fun g47 => ⟨g47, trivial⟩) (fun g47 => op_call0 (whole_Bits_spec (gc e48 g47)) goes20 rfl rfl) ?_
  refine OpsL.consG x_28 99 [68] (.plain rfl) (eq_t _) rfl rfl (fun g49 => ⟨g49, trivial⟩) (fun g49 => op_eql rfl rfl) ?_
  refine OpsL.cons rfl (op_pick_and (fun e => e) rfl rfl rfl rfl) ?_
  refine OpsL.cons rfl (op_assign rfl) ?_
  refine OpsL.nilK [2, 3, 4, 5, 6, 7] [102, 103] (s' := ⟨[(2, .b (.ptr 102 0)), (3, .b (.ptr 103 0)), (4, B x_6), (5, B ((decide (x_8 = x_9)) && (decide (x_11 = x_12)))), (6, B ((decide (x_14 = x_15)) && (decide (x_17 = x_18)))), (7, B (x_28 && (decide (x_30 = 0))))], [(102, .box 25 (eBig x_2)), (103, .box 25 (eBig x_3))]⟩) rfl ?_
  refine Tri.seq ?_
  refine Tri.regionL ?_
  obtain ⟨x_31, e50, h⟩ := bnd h
  refine OpsL.cons rfl (op_call0 (whole_Of_spec e50) goes38 rfl rfl) ?_
  obtain ⟨x_32, e51, h⟩ := bnd h
  refine OpsL.cons rfl (op_call0 (whole_Shift_spec e51) goes42 rfl rfl) ?_
  refine OpsL.keep [2, 3, 4, 5, 6, 7, 72] [102, 103] (s' := ⟨[(2, .b (.ptr 102 0)), (3, .b (.ptr 103 0)), (4, B x_6), (5, B ((decide (x_8 = x_9)) && (decide (x_11 = x_12)))), (6, B ((decide (x_14 = x_15)) && (decide (x_17 = x_18)))), (7, B (x_28 && (decide (x_30 = 0)))), (72, .b (.agg (eBig x_32)))], [(102, .box 25 (eBig x_2)), (103, .box 25 (eBig x_3))]⟩) rfl ?_
  obtain ⟨x_33, e52, h⟩ := bnd h
  refine OpsL.cons rfl (op_call0 (whole_Of_spec e52) goes38 rfl rfl) ?_
  refine OpsL.cons rfl (op_eql_agg (eqAgg25 x_32 x_33) rfl rfl) ?_
  refine OpsL.cons rfl (op_move rfl) ?_
  obtain ⟨x_34, e54, h⟩ := bnd h
  refine OpsL.consG (decide (x_32 = x_33)) 99 [] (.plain rfl) (eq_t _) rfl rfl (fun g53 => trivial) (fun g53 => op_call0 (whole_Of_spec (gc e54 g53)) goes38 rfl rfl) ?_
  refine OpsL.keep [2, 3, 4, 5, 6, 7, 75, 76] [102, 103] (s' := ⟨[(2, .b (.ptr 102 0)), (3, .b (.ptr 103 0)), (4, B x_6), (5, B ((decide (x_8 = x_9)) && (decide (x_11 = x_12)))), (6, B ((decide (x_14 = x_15)) && (decide (x_17 = x_18)))), (7, B (x_28 && (decide (x_30 = 0)))), (75, B (decide (x_32 = x_33))), (76, .opt (decide (x_32 = x_33)) (.agg (eBig x_34)))], [(102, .box 25 (eBig x_2)), (103, .box 25 (eBig x_3))]⟩) rfl ?_
  obtain ⟨x_35, e56, h⟩ := bnd h
  refine OpsL.consG (decide (x_32 = x_33)) 99 [76] (.plain rfl) (eq_t _) rfl rfl (fun g55 => ⟨g55, trivial⟩) (fun g55 => op_call0 (whole_Shift_spec (gc e56 g55)) goes42 rfl rfl) ?_
  obtain ⟨x_36, e58, h⟩ := bnd h
  refine OpsL.consG (decide (x_32 = x_33)) 99 [] (.plain rfl) (eq_t _) rfl rfl (fun g57 => trivial) (fun g57 => op_call0 (whole_Of_spec (gc e58 g57)) goes38 rfl rfl) ?_
  refine OpsL.consG (decide (x_32 = x_33)) 99 [77, 78] (.plain rfl) (eq_t _) rfl rfl (fun g59 => ⟨g59, g59, trivial⟩) (fun g59 => op_eql_agg (eqAgg25 x_35 x_36) rfl rfl) ?_
  refine OpsL.cons rfl (op_pick_and (fun e => e) rfl rfl rfl rfl) ?_
  refine OpsL.cons rfl (op_move rfl) ?_
  refine OpsL.keep [2, 3, 4, 5, 6, 7, 81] [102, 103] (s' := ⟨[(2, .b (.ptr 102 0)), (3, .b (.ptr 103 0)), (4, B x_6), (5, B ((decide (x_8 = x_9)) && (decide (x_11 = x_12)))), (6, B ((decide (x_14 = x_15)) && (decide (x_17 = x_18)))), (7, B (x_28 && (decide (x_30 = 0)))), (81, B ((decide (x_32 = x_33)) && (decide (x_35 = x_36))))], [(102, .box 25 (eBig x_2)), (103, .box 25 (eBig x_3))]⟩) rfl ?_
  obtain ⟨x_37, e61, h⟩ := bnd h
  refine OpsL.consG ((decide (x_32 = x_33)) && (decide (x_35 = x_36))) 99 [] (.plain rfl) (eq_t _) rfl rfl (fun g60 => trivial) (fun g60 => op_call0 (whole_Of_spec (gc e61 g60)) goes38 rfl rfl) ?_
  obtain ⟨x_38, e63, h⟩ := bnd h
  refine OpsL.consG ((decide (x_32 = x_33)) && (decide (x_35 = x_36))) 99 [82] (.plain rfl) (eq_t _) rfl rfl (fun g62 => ⟨g62, trivial⟩) (fun g62 => op_call0 (whole_Shift_spec (gc e63 g62)) goes42 rfl rfl) ?_
  refine OpsL.consG ((decide (x_32 = x_33)) && (decide (x_35 = x_36))) 99 [83] (.plain rfl) (eq_t _) rfl rfl (fun g64 => ⟨g64, trivial⟩) (fun g64 => op_fieldv1 tyFld25_0 tyOne4 rfl rfl) ?_
  refine OpsL.consG ((decide (x_32 = x_33)) && (decide (x_35 = x_36))) 99 [84] (.plain rfl) (eq_t _) rfl rfl (fun g65 => ⟨g65, trivial⟩) (fun g65 => op_not rfl) ?_
  refine OpsL.consB h rfl (op_pick_and (fun e => e) rfl rfl rfl rfl) (fun x_39 h => ?_)
  refine OpsL.cons rfl (op_move rfl) ?_
  refine OpsL.keep [2, 3, 4, 5, 6, 7, 87] [102, 103] (s' := ⟨[(2, .b (.ptr 102 0)), (3, .b (.ptr 103 0)), (4, B x_6), (5, B ((decide (x_8 = x_9)) && (decide (x_11 = x_12)))), (6, B ((decide (x_14 = x_15)) && (decide (x_17 = x_18)))), (7, B (x_28 && (decide (x_30 = 0)))), (87, B x_39)], [(102, .box 25 (eBig x_2)), (103, .box 25 (eBig x_3))]⟩) rfl ?_
  obtain ⟨x_40, e67, h⟩ := bnd h
  refine OpsL.consG x_39 99 [] (.plain rfl) (eq_t _) rfl rfl (fun g66 => trivial) (fun g66 => op_call0 (whole_Of_spec (gc e67 g66)) goes38 rfl rfl) ?_
  obtain ⟨x_41, e69, h⟩ := bnd h
  refine OpsL.consG x_39 99 [88] (.plain rfl) (eq_t _) rfl rfl (fun g68 => ⟨g68, trivial⟩) (fun g68 => op_call0 (whole_Shift_spec (gc e69 g68)) goes42 rfl rfl) ?_
  refine OpsL.consG x_39 99 [89] (.plain rfl) (eq_t _) rfl rfl (fun g70 => ⟨g70, trivial⟩) (fun g70 => op_fieldv1 tyFld25_0 tyOne4 rfl rfl) ?_
  refine OpsL.cons rfl (op_pick_and (fun e => e) rfl rfl rfl rfl) ?_
  refine OpsL.cons rfl (op_assign rfl) ?_
  refine OpsL.nilK [2, 3, 4, 5, 6, 7, 8] [102, 103] (s' := ⟨[(2, .b (.ptr 102 0)), (3, .b (.ptr 103 0)), (4, B x_6), (5, B ((decide (x_8 = x_9)) && (decide (x_11 = x_12)))), (6, B ((decide (x_14 = x_15)) && (decide (x_17 = x_18)))), (7, B (x_28 && (decide (x_30 = 0)))), (8, B (x_39 && x_41.Bad))], [(102, .box 25 (eBig x_2)), (103, .box 25 (eBig x_3))]⟩) rfl ?_
  refine Tri.seq ?_
  refine Tri.regionL ?_
  obtain ⟨x_42, e71, h⟩ := bnd h
  refine OpsL.cons rfl (op_call0 (whole_Of_spec e71) goes38 rfl rfl) ?_
  obtain ⟨x_43, e72, h⟩ := bnd h
  refine OpsL.cons rfl (op_call0 (whole_Of_spec e72) goes38 rfl rfl) ?_
  refine OpsL.keep [2, 3, 4, 5, 6, 7, 8, 92, 93] [102, 103] (s' := ⟨[(2, .b (.ptr 102 0)), (3, .b (.ptr 103 0)), (4, B x_6), (5, B ((decide (x_8 = x_9)) && (decide (x_11 = x_12)))), (6, B ((decide (x_14 = x_15)) && (decide (x_17 = x_18)))), (7, B (x_28 && (decide (x_30 = 0)))), (8, B (x_39 && x_41.Bad)), (92, .b (.agg (eBig x_42))), (93, .b (.agg (eBig x_43)))], [(102, .box 25 (eBig x_2)), (103, .box 25 (eBig x_3))]⟩) rfl ?_
  obtain ⟨x_44, e73, h⟩ := bnd h
  refine OpsL.cons rfl (op_call0 (whole_Quo_spec e73) goes29 rfl rfl) ?_
  refine OpsL.cons rfl (op_fieldv1 tyFld25_0 tyOne4 rfl rfl) ?_
  refine OpsL.cons rfl (op_move rfl) ?_
  obtain ⟨x_45, e75, h⟩ := bnd h
  refine OpsL.consG x_44.Bad 99 [] (.plain rfl) (eq_t _) rfl rfl (fun g74 => trivial) (fun g74 => op_call0 (whole_Of_spec (gc e75 g74)) goes38 rfl rfl) ?_
  refine OpsL.keep [2, 3, 4, 5, 6, 7, 8, 96, 97] [102, 103] (s' := ⟨[(2, .b (.ptr 102 0)), (3, .b (.ptr 103 0)), (4, B x_6), (5, B ((decide (x_8 = x_9)) && (decide (x_11 = x_12)))), (6, B ((decide (x_14 = x_15)) && (decide (x_17 = x_18)))), (7, B (x_28 && (decide (x_30 = 0)))), (8, B (x_39 && x_41.Bad)), (96, B x_44.Bad), (97, .opt x_44.Bad (.agg (eBig x_45)))], [(102, .box 25 (eBig x_2)), (103, .box 25 (eBig x_3))]⟩) rfl ?_
  obtain ⟨x_46, e77, h⟩ := bnd h
  refine OpsL.consG x_44.Bad 99 [97] (.plain rfl) (eq_t _) rfl rfl (fun g76 => ⟨g76, trivial⟩) (fun g76 => op_call0 (whole_Sqrt_spec (gc e77 g76)) goes41 rfl rfl) ?_
  refine OpsL.consG x_44.Bad 99 [98] (.plain rfl) (eq_t _) rfl rfl (fun g78 => ⟨g78, trivial⟩) (fun g78 => op_fieldv1 tyFld25_0 tyOne4 rfl rfl) ?_
  refine OpsL.cons rfl (op_pick_and (fun e => e) rfl rfl rfl rfl) ?_
  refine OpsL.cons rfl (op_move rfl) ?_
  obtain ⟨x_47, e80, h⟩ := bnd h
  refine OpsL.consG (x_44.Bad && x_46.Bad) 99 [] (.plain rfl) (eq_t _) rfl rfl (fun g79 => trivial) (fun g79 => op_call0 (whole_Bad_spec (gc e80 g79)) goes44 rfl rfl) ?_
  refine OpsL.keep [2, 3, 4, 5, 6, 7, 8, 101, 102] [102, 103] (s' := ⟨[(2, .b (.ptr 102 0)), (3, .b (.ptr 103 0)), (4, B x_6), (5, B ((decide (x_8 = x_9)) && (decide (x_11 = x_12)))), (6, B ((decide (x_14 = x_15)) && (decide (x_17 = x_18)))), (7, B (x_28 && (decide (x_30 = 0)))), (8, B (x_39 && x_41.Bad)), (101, B (x_44.Bad && x_46.Bad)), (102, .opt (x_44.Bad && x_46.Bad) (.agg (eBig x_47)))], [(102, .box 25 (eBig x_2)), (103, .box 25 (eBig x_3))]⟩) rfl ?_
  obtain ⟨x_48, e82, h⟩ := bnd h
  refine OpsL.consG (x_44.Bad && x_46.Bad) 99 [] (.plain rfl) (eq_t _) rfl rfl (fun g81 => trivial) (fun g81 => op_call0 (whole_Of_spec (gc e82 g81)) goes38 rfl rfl) ?_
  obtain ⟨x_49, e84, h⟩ := bnd h
  refine OpsL.consG (x_44.Bad && x_46.Bad) 99 [102, 103] (.plain rfl) (eq_t _) rfl rfl (fun g83 => ⟨g83, g83, trivial⟩) (fun g83 => op_call0 (whole_Add_spec (gc e84 g83)) goes10 rfl rfl) ?_
  refine OpsL.consG (x_44.Bad && x_46.Bad) 99 [104] (.plain rfl) (eq_t _) rfl rfl (fun g85 => ⟨g85, trivial⟩) (fun g85 => op_fieldv1 tyFld25_0 tyOne4 rfl rfl) ?_
  refine OpsL.cons rfl (op_pick_and (fun e => e) rfl rfl rfl rfl) ?_
  refine OpsL.cons rfl (op_assign rfl) ?_
  refine OpsL.nilK [2, 3, 4, 5, 6, 7, 8, 9] [102, 103] (s' := ⟨[(2, .b (.ptr 102 0)), (3, .b (.ptr 103 0)), (4, B x_6), (5, B ((decide (x_8 = x_9)) && (decide (x_11 = x_12)))), (6, B ((decide (x_14 = x_15)) && (decide (x_17 = x_18)))), (7, B (x_28 && (decide (x_30 = 0)))), (8, B (x_39 && x_41.Bad)), (9, B ((x_44.Bad && x_46.Bad) && x_49.Bad))], [(102, .box 25 (eBig x_2)), (103, .box 25 (eBig x_3))]⟩) rfl ?_
  refine Tri.seq ?_
  refine Tri.regionL ?_
  obtain ⟨⟨x_50, x_51⟩, e86, h⟩ := bnd h
  refine OpsL.cons rfl (op_call0 (whole_Parse_spec e86) goes36 rfl rfl) ?_
  refine OpsL.cons rfl (op_move rfl) ?_
  refine OpsL.cons rfl (op_extract rfl rfl) ?_
  refine OpsL.cons rfl (op_extract rfl rfl) ?_
  refine OpsL.keep [2, 3, 4, 5, 6, 7, 8, 9, 109, 110] [102, 103] (s' := ⟨[(2, .b (.ptr 102 0)), (3, .b (.ptr 103 0)), (4, B x_6), (5, B ((decide (x_8 = x_9)) && (decide (x_11 = x_12)))), (6, B ((decide (x_14 = x_15)) && (decide (x_17 = x_18)))), (7, B (x_28 && (decide (x_30 = 0)))), (8, B (x_39 && x_41.Bad)), (9, B ((x_44.Bad && x_46.Bad) && x_49.Bad)), (109, .b (.agg (eBig x_50))), (110, I x_51)], [(102, .box 25 (eBig x_2)), (103, .box 25 (eBig x_3))]⟩) rfl ?_
  refine OpsL.cons rfl (op_alloc (k := 104) tyZero25 rfl) ?_
  refine OpsL.cons rfl (op_store_p tyAgg25 rfl rfl rfl rfl (Nat.le_of_ble_eq_true rfl) rfl) ?_
  refine OpsL.cons rfl (op_assign rfl) ?_
  refine OpsL.nilK [2, 3, 4, 5, 6, 7, 8, 9, 11] [102, 103] (s' := ⟨[(2, .b (.ptr 102 0)), (3, .b (.ptr 103 0)), (4, B x_6), (5, B ((decide (x_8 = x_9)) && (decide (x_11 = x_12)))), (6, B ((decide (x_14 = x_15)) && (decide (x_17 = x_18)))), (7, B (x_28 && (decide (x_30 = 0)))), (8, B (x_39 && x_41.Bad)), (9, B ((x_44.Bad && x_46.Bad) && x_49.Bad)), (11, I x_51)], [(102, .box 25 (eBig x_2)), (103, .box 25 (eBig x_3))]⟩) rfl ?_
  refine Tri.seq ?_
  refine Tri.regionL ?_
  obtain ⟨⟨x_52, x_53⟩, e87, h⟩ := bnd h
  refine OpsL.cons rfl (op_call0 (whole_Parse_spec e87) goes36 rfl rfl) ?_
  refine OpsL.cons rfl (op_move rfl) ?_
  refine OpsL.cons rfl (op_extract rfl rfl) ?_
  refine OpsL.cons rfl (op_extract rfl rfl) ?_
  refine OpsL.keep [2, 3, 4, 5, 6, 7, 8, 9, 11, 113, 114] [102, 103] (s' := ⟨[(2, .b (.ptr 102 0)), (3, .b (.ptr 103 0)), (4, B x_6), (5, B ((decide (x_8 = x_9)) && (decide (x_11 = x_12)))), (6, B ((decide (x_14 = x_15)) && (decide (x_17 = x_18)))), (7, B (x_28 && (decide (x_30 = 0)))), (8, B (x_39 && x_41.Bad)), (9, B ((x_44.Bad && x_46.Bad) && x_49.Bad)), (11, I x_51), (113, .b (.agg (eBig x_52))), (114, I x_53)], [(102, .box 25 (eBig x_2)), (103, .box 25 (eBig x_3))]⟩) rfl ?_
  refine OpsL.cons rfl (op_alloc (k := 105) tyZero25 rfl) ?_
  refine OpsL.cons rfl (op_store_p tyAgg25 rfl rfl rfl rfl (Nat.le_of_ble_eq_true rfl) rfl) ?_
  refine OpsL.cons rfl (op_assign rfl) ?_
  refine OpsL.nilK [2, 3, 4, 5, 6, 7, 8, 9, 11, 13] [102, 103] (s' := ⟨[(2, .b (.ptr 102 0)), (3, .b (.ptr 103 0)), (4, B x_6), (5, B ((decide (x_8 = x_9)) && (decide (x_11 = x_12)))), (6, B ((decide (x_14 = x_15)) && (decide (x_17 = x_18)))), (7, B (x_28 && (decide (x_30 = 0)))), (8, B (x_39 && x_41.Bad)), (9, B ((x_44.Bad && x_46.Bad) && x_49.Bad)), (11, I x_51), (13, I x_53)], [(102, .box 25 (eBig x_2)), (103, .box 25 (eBig x_3))]⟩) rfl ?_
  refine Tri.seq ?_
  refine Tri.regionL ?_
  obtain ⟨⟨x_54, x_55⟩, e88, h⟩ := bnd h
  refine OpsL.cons rfl (op_call0 (whole_Parse_spec e88) goes36 rfl rfl) ?_
  refine OpsL.cons rfl (op_move rfl) ?_
  refine OpsL.cons rfl (op_extract rfl rfl) ?_
  refine OpsL.cons rfl (op_extract rfl rfl) ?_
  refine OpsL.keep [2, 3, 4, 5, 6, 7, 8, 9, 11, 13, 117, 118] [102, 103] (s' := ⟨[(2, .b (.ptr 102 0)), (3, .b (.ptr 103 0)), (4, B x_6), (5, B ((decide (x_8 = x_9)) && (decide (x_11 = x_12)))), (6, B ((decide (x_14 = x_15)) && (decide (x_17 = x_18)))), (7, B (x_28 && (decide (x_30 = 0)))), (8, B (x_39 && x_41.Bad)), (9, B ((x_44.Bad && x_46.Bad) && x_49.Bad)), (11, I x_51), (13, I x_53), (117, .b (.agg (eBig x_54))), (118, I x_55)], [(102, .box 25 (eBig x_2)), (103, .box 25 (eBig x_3))]⟩) rfl ?_
  refine OpsL.cons rfl (op_alloc (k := 106) tyZero25 rfl) ?_
  refine OpsL.cons rfl (op_store_p tyAgg25 rfl rfl rfl rfl (Nat.le_of_ble_eq_true rfl) rfl) ?_
  refine OpsL.cons rfl (op_assign rfl) ?_
  refine OpsL.nilK [2, 3, 4, 5, 6, 7, 8, 9, 11, 13, 14, 15] [102, 103, 106] (s' := ⟨[(2, .b (.ptr 102 0)), (3, .b (.ptr 103 0)), (4, B x_6), (5, B ((decide (x_8 = x_9)) && (decide (x_11 = x_12)))), (6, B ((decide (x_14 = x_15)) && (decide (x_17 = x_18)))), (7, B (x_28 && (decide (x_30 = 0)))), (8, B (x_39 && x_41.Bad)), (9, B ((x_44.Bad && x_46.Bad) && x_49.Bad)), (11, I x_51), (13, I x_53), (14, .b (.ptr 106 0)), (15, I x_55)], [(102, .box 25 (eBig x_2)), (103, .box 25 (eBig x_3)), (106, .box 25 (eBig x_54))]⟩) rfl ?_
  refine Tri.seq ?_
  refine Tri.keep [2, 3, 4, 5, 6, 7, 8, 9, 11, 13, 14, 15] [102, 103, 106] (s' := ⟨[(2, .b (.ptr 102 0)), (3, .b (.ptr 103 0)), (4, B x_6), (5, B ((decide (x_8 = x_9)) && (decide (x_11 = x_12)))), (6, B ((decide (x_14 = x_15)) && (decide (x_17 = x_18)))), (7, B (x_28 && (decide (x_30 = 0)))), (8, B (x_39 && x_41.Bad)), (9, B ((x_44.Bad && x_46.Bad) && x_49.Bad)), (11, I x_51), (13, I x_53), (14, .b (.ptr 106 0)), (15, I x_55)], [(102, .box 25 (eBig x_2)), (103, .box 25 (eBig x_3)), (106, .box 25 (eBig x_54))]⟩) rfl ?_
  obtain ⟨x_56, e102, h⟩ := bnd h
  obtain ⟨x_57, e107, h⟩ := bnd h
  refine Tri.regionY mixed 40 [B x_6, B x_6, .opt x_6 (.one (.bool ((decide (x_8 = x_9)) && (decide (x_11 = x_12))))), B (x_6 && ((decide (x_8 = x_9)) && (decide (x_11 = x_12)))), B (x_6 && ((decide (x_8 = x_9)) && (decide (x_11 = x_12)))), .opt (x_6 && ((decide (x_8 = x_9)) && (decide (x_11 = x_12)))) (.one (.bool ((decide (x_14 = x_15)) && (decide (x_17 = x_18))))), B ((x_6 && ((decide (x_8 = x_9)) && (decide (x_11 = x_12)))) && ((decide (x_14 = x_15)) && (decide (x_17 = x_18)))), B ((x_6 && ((decide (x_8 = x_9)) && (decide (x_11 = x_12)))) && ((decide (x_14 = x_15)) && (decide (x_17 = x_18)))), .opt ((x_6 && ((decide (x_8 = x_9)) && (decide (x_11 = x_12)))) && ((decide (x_14 = x_15)) && (decide (x_17 = x_18)))) (.one (.bool (x_28 && (decide (x_30 = 0))))), B (((x_6 && ((decide (x_8 = x_9)) && (decide (x_11 = x_12)))) && ((decide (x_14 = x_15)) && (decide (x_17 = x_18)))) && (x_28 && (decide (x_30 = 0)))), B (((x_6 && ((decide (x_8 = x_9)) && (decide (x_11 = x_12)))) && ((decide (x_14 = x_15)) && (decide (x_17 = x_18)))) && (x_28 && (decide (x_30 = 0)))), .opt (((x_6 && ((decide (x_8 = x_9)) && (decide (x_11 = x_12)))) && ((decide (x_14 = x_15)) && (decide (x_17 = x_18)))) && (x_28 && (decide (x_30 = 0)))) (.one (.bool (x_39 && x_41.Bad))), B ((((x_6 && ((decide (x_8 = x_9)) && (decide (x_11 = x_12)))) && ((decide (x_14 = x_15)) && (decide (x_17 = x_18)))) && (x_28 && (decide (x_30 = 0)))) && (x_39 && x_41.Bad)), B ((((x_6 && ((decide (x_8 = x_9)) && (decide (x_11 = x_12)))) && ((decide (x_14 = x_15)) && (decide (x_17 = x_18)))) && (x_28 && (decide (x_30 = 0)))) && (x_39 && x_41.Bad)), .opt ((((x_6 && ((decide (x_8 = x_9)) && (decide (x_11 = x_12)))) && ((decide (x_14 = x_15)) && (decide (x_17 = x_18)))) && (x_28 && (decide (x_30 = 0)))) && (x_39 && x_41.Bad)) (.one (.bool ((x_44.Bad && x_46.Bad) && x_49.Bad))), B (((((x_6 && ((decide (x_8 = x_9)) && (decide (x_11 = x_12)))) && ((decide (x_14 = x_15)) && (decide (x_17 = x_18)))) && (x_28 && (decide (x_30 = 0)))) && (x_39 && x_41.Bad)) && ((x_44.Bad && x_46.Bad) && x_49.Bad)), B (((((x_6 && ((decide (x_8 = x_9)) && (decide (x_11 = x_12)))) && ((decide (x_14 = x_15)) && (decide (x_17 = x_18)))) && (x_28 && (decide (x_30 = 0)))) && (x_39 && x_41.Bad)) && ((x_44.Bad && x_46.Bad) && x_49.Bad)), .opt (((((x_6 && ((decide (x_8 = x_9)) && (decide (x_11 = x_12)))) && ((decide (x_14 = x_15)) && (decide (x_17 = x_18)))) && (x_28 && (decide (x_30 = 0)))) && (x_39 && x_41.Bad)) && ((x_44.Bad && x_46.Bad) && x_49.Bad)) (.one (.i x_51)), .opt (((((x_6 && ((decide (x_8 = x_9)) && (decide (x_11 = x_12)))) && ((decide (x_14 = x_15)) && (decide (x_17 = x_18)))) && (x_28 && (decide (x_30 = 0)))) && (x_39 && x_41.Bad)) && ((x_44.Bad && x_46.Bad) && x_49.Bad)) (.one (.bool (decide (x_51 = 281)))), B ((((((x_6 && ((decide (x_8 = x_9)) && (decide (x_11 = x_12)))) && ((decide (x_14 = x_15)) && (decide (x_17 = x_18)))) && (x_28 && (decide (x_30 = 0)))) && (x_39 && x_41.Bad)) && ((x_44.Bad && x_46.Bad) && x_49.Bad)) && (decide (x_51 = 281))), B ((((((x_6 && ((decide (x_8 = x_9)) && (decide (x_11 = x_12)))) && ((decide (x_14 = x_15)) && (decide (x_17 = x_18)))) && (x_28 && (decide (x_30 = 0)))) && (x_39 && x_41.Bad)) && ((x_44.Bad && x_46.Bad) && x_49.Bad)) && (decide (x_51 = 281))), .opt ((((((x_6 && ((decide (x_8 = x_9)) && (decide (x_11 = x_12)))) && ((decide (x_14 = x_15)) && (decide (x_17 = x_18)))) && (x_28 && (decide (x_30 = 0)))) && (x_39 && x_41.Bad)) && ((x_44.Bad && x_46.Bad) && x_49.Bad)) && (decide (x_51 = 281))) (.one (.i x_53)), .opt ((((((x_6 && ((decide (x_8 = x_9)) && (decide (x_11 = x_12)))) && ((decide (x_14 = x_15)) && (decide (x_17 = x_18)))) && (x_28 && (decide (x_30 = 0)))) && (x_39 && x_41.Bad)) && ((x_44.Bad && x_46.Bad) && x_49.Bad)) && (decide (x_51 = 281))) (.one (.bool (decide (x_53 = 281)))), B (((((((x_6 && ((decide (x_8 = x_9)) && (decide (x_11 = x_12)))) && ((decide (x_14 = x_15)) && (decide (x_17 = x_18)))) && (x_28 && (decide (x_30 = 0)))) && (x_39 && x_41.Bad)) && ((x_44.Bad && x_46.Bad) && x_49.Bad)) && (decide (x_51 = 281))) && (decide (x_53 = 281))), B (((((((x_6 && ((decide (x_8 = x_9)) && (decide (x_11 = x_12)))) && ((decide (x_14 = x_15)) && (decide (x_17 = x_18)))) && (x_28 && (decide (x_30 = 0)))) && (x_39 && x_41.Bad)) && ((x_44.Bad && x_46.Bad) && x_49.Bad)) && (decide (x_51 = 281))) && (decide (x_53 = 281))), .opt (((((((x_6 && ((decide (x_8 = x_9)) && (decide (x_11 = x_12)))) && ((decide (x_14 = x_15)) && (decide (x_17 = x_18)))) && (x_28 && (decide (x_30 = 0)))) && (x_39 && x_41.Bad)) && ((x_44.Bad && x_46.Bad) && x_49.Bad)) && (decide (x_51 = 281))) && (decide (x_53 = 281))) (.one (.i x_55)), .opt (((((((x_6 && ((decide (x_8 = x_9)) && (decide (x_11 = x_12)))) && ((decide (x_14 = x_15)) && (decide (x_17 = x_18)))) && (x_28 && (decide (x_30 = 0)))) && (x_39 && x_41.Bad)) && ((x_44.Bad && x_46.Bad) && x_49.Bad)) && (decide (x_51 = 281))) && (decide (x_53 = 281))) (.one (.bool (decide (x_55 = 0)))), B ((((((((x_6 && ((decide (x_8 = x_9)) && (decide (x_11 = x_12)))) && ((decide (x_14 = x_15)) && (decide (x_17 = x_18)))) && (x_28 && (decide (x_30 = 0)))) && (x_39 && x_41.Bad)) && ((x_44.Bad && x_46.Bad) && x_49.Bad)) && (decide (x_51 = 281))) && (decide (x_53 = 281))) && (decide (x_55 = 0))), B ((((((((x_6 && ((decide (x_8 = x_9)) && (decide (x_11 = x_12)))) && ((decide (x_14 = x_15)) && (decide (x_17 = x_18)))) && (x_28 && (decide (x_30 = 0)))) && (x_39 && x_41.Bad)) && ((x_44.Bad && x_46.Bad) && x_49.Bad)) && (decide (x_51 = 281))) && (decide (x_53 = 281))) && (decide (x_55 = 0))), .opt ((((((((x_6 && ((decide (x_8 = x_9)) && (decide (x_11 = x_12)))) && ((decide (x_14 = x_15)) && (decide (x_17 = x_18)))) && (x_28 && (decide (x_30 = 0)))) && (x_39 && x_41.Bad)) && ((x_44.Bad && x_46.Bad) && x_49.Bad)) && (decide (x_51 = 281))) && (decide (x_53 = 281))) && (decide (x_55 = 0))) (.agg (eBig x_54)), .opt ((((((((x_6 && ((decide (x_8 = x_9)) && (decide (x_11 = x_12)))) && ((decide (x_14 = x_15)) && (decide (x_17 = x_18)))) && (x_28 && (decide (x_30 = 0)))) && (x_39 && x_41.Bad)) && ((x_44.Bad && x_46.Bad) && x_49.Bad)) && (decide (x_51 = 281))) && (decide (x_53 = 281))) && (decide (x_55 = 0))) (.agg (eBig x_56)), .opt ((((((((x_6 && ((decide (x_8 = x_9)) && (decide (x_11 = x_12)))) && ((decide (x_14 = x_15)) && (decide (x_17 = x_18)))) && (x_28 && (decide (x_30 = 0)))) && (x_39 && x_41.Bad)) && ((x_44.Bad && x_46.Bad) && x_49.Bad)) && (decide (x_51 = 281))) && (decide (x_53 = 281))) && (decide (x_55 = 0))) (.one (.bool (decide (x_54 = x_56)))), B (((((((((x_6 && ((decide (x_8 = x_9)) && (decide (x_11 = x_12)))) && ((decide (x_14 = x_15)) && (decide (x_17 = x_18)))) && (x_28 && (decide (x_30 = 0)))) && (x_39 && x_41.Bad)) && ((x_44.Bad && x_46.Bad) && x_49.Bad)) && (decide (x_51 = 281))) && (decide (x_53 = 281))) && (decide (x_55 = 0))) && (decide (x_54 = x_56))), B (((((((((x_6 && ((decide (x_8 = x_9)) && (decide (x_11 = x_12)))) && ((decide (x_14 = x_15)) && (decide (x_17 = x_18)))) && (x_28 && (decide (x_30 = 0)))) && (x_39 && x_41.Bad)) && ((x_44.Bad && x_46.Bad) && x_49.Bad)) && (decide (x_51 = 281))) && (decide (x_53 = 281))) && (decide (x_55 = 0))) && (decide (x_54 = x_56))), .opt (((((((((x_6 && ((decide (x_8 = x_9)) && (decide (x_11 = x_12)))) && ((decide (x_14 = x_15)) && (decide (x_17 = x_18)))) && (x_28 && (decide (x_30 = 0)))) && (x_39 && x_41.Bad)) && ((x_44.Bad && x_46.Bad) && x_49.Bad)) && (decide (x_51 = 281))) && (decide (x_53 = 281))) && (decide (x_55 = 0))) && (decide (x_54 = x_56))) (.agg (eBig x_2)), .opt (((((((((x_6 && ((decide (x_8 = x_9)) && (decide (x_11 = x_12)))) && ((decide (x_14 = x_15)) && (decide (x_17 = x_18)))) && (x_28 && (decide (x_30 = 0)))) && (x_39 && x_41.Bad)) && ((x_44.Bad && x_46.Bad) && x_49.Bad)) && (decide (x_51 = 281))) && (decide (x_53 = 281))) && (decide (x_55 = 0))) && (decide (x_54 = x_56))) (.agg (eBig x_3)), .opt (((((((((x_6 && ((decide (x_8 = x_9)) && (decide (x_11 = x_12)))) && ((decide (x_14 = x_15)) && (decide (x_17 = x_18)))) && (x_28 && (decide (x_30 = 0)))) && (x_39 && x_41.Bad)) && ((x_44.Bad && x_46.Bad) && x_49.Bad)) && (decide (x_51 = 281))) && (decide (x_53 = 281))) && (decide (x_55 = 0))) && (decide (x_54 = x_56))) (.one (.i x_57)), .opt (((((((((x_6 && ((decide (x_8 = x_9)) && (decide (x_11 = x_12)))) && ((decide (x_14 = x_15)) && (decide (x_17 = x_18)))) && (x_28 && (decide (x_30 = 0)))) && (x_39 && x_41.Bad)) && ((x_44.Bad && x_46.Bad) && x_49.Bad)) && (decide (x_51 = 281))) && (decide (x_53 = 281))) && (decide (x_55 = 0))) && (decide (x_54 = x_56))) (.one (.bool (decide (x_57 = 1)))), B ((((((((((x_6 && ((decide (x_8 = x_9)) && (decide (x_11 = x_12)))) && ((decide (x_14 = x_15)) && (decide (x_17 = x_18)))) && (x_28 && (decide (x_30 = 0)))) && (x_39 && x_41.Bad)) && ((x_44.Bad && x_46.Bad) && x_49.Bad)) && (decide (x_51 = 281))) && (decide (x_53 = 281))) && (decide (x_55 = 0))) && (decide (x_54 = x_56))) && (decide (x_57 = 1))), B ((((((((((x_6 && ((decide (x_8 = x_9)) && (decide (x_11 = x_12)))) && ((decide (x_14 = x_15)) && (decide (x_17 = x_18)))) && (x_28 && (decide (x_30 = 0)))) && (x_39 && x_41.Bad)) && ((x_44.Bad && x_46.Bad) && x_49.Bad)) && (decide (x_51 = 281))) && (decide (x_53 = 281))) && (decide (x_55 = 0))) && (decide (x_54 = x_56))) && (decide (x_57 = 1)))] [0] [] (s' := ⟨[(0, B ((((((((((x_6 && ((decide (x_8 = x_9)) && (decide (x_11 = x_12)))) && ((decide (x_14 = x_15)) && (decide (x_17 = x_18)))) && (x_28 && (decide (x_30 = 0)))) && (x_39 && x_41.Bad)) && ((x_44.Bad && x_46.Bad) && x_49.Bad)) && (decide (x_51 = 281))) && (decide (x_53 = 281))) && (decide (x_55 = 0))) && (decide (x_54 = x_56))) && (decide (x_57 = 1))))], []⟩) rfl ⟨fun _ => .plain rfl (op_move rfl), fun _ => .plain rfl (op_move rfl), fun _ => by exact .guard x_6 1 [] (.plain rfl) (eq_t _) rfl rfl (fun g89 => trivial) (fun g89 => op_move rfl), fun _ => .plain rfl (op_pick_and (fun e => e) rfl rfl rfl rfl), fun _ => .plain rfl (op_move rfl), fun _ => by exact .guard (x_6 && ((decide (x_8 = x_9)) && (decide (x_11 = x_12)))) 1 [] (.plain rfl) (eq_t _) rfl rfl (fun g90 => trivial) (fun g90 => op_move rfl), fun _ => .plain rfl (op_pick_and (fun e => e) rfl rfl rfl rfl), fun _ => .plain rfl (op_move rfl), fun _ => by exact .guard ((x_6 && ((decide (x_8 = x_9)) && (decide (x_11 = x_12)))) && ((decide (x_14 = x_15)) && (decide (x_17 = x_18)))) 1 [] (.plain rfl) (eq_t _) rfl rfl (fun g91 => trivial) (fun g91 => op_move rfl), fun _ => .plain rfl (op_pick_and (fun e => e) rfl rfl rfl rfl), fun _ => .plain rfl (op_move rfl), fun _ => by exact .guard (((x_6 && ((decide (x_8 = x_9)) && (decide (x_11 = x_12)))) && ((decide (x_14 = x_15)) && (decide (x_17 = x_18)))) && (x_28 && (decide (x_30 = 0)))) 1 [] (.plain rfl) (eq_t _) rfl rfl (fun g92 => trivial) (fun g92 => op_move rfl), fun _ => .plain rfl (op_pick_and (fun e => e) rfl rfl rfl rfl), fun _ => .plain rfl (op_move rfl), fun _ => by exact .guard ((((x_6 && ((decide (x_8 = x_9)) && (decide (x_11 = x_12)))) && ((decide (x_14 = x_15)) && (decide (x_17 = x_18)))) && (x_28 && (decide (x_30 = 0)))) && (x_39 && x_41.Bad)) 1 [] (.plain rfl) (eq_t _) rfl rfl (fun g93 => trivial) (fun g93 => op_move rfl), fun _ => .plain rfl (op_pick_and (fun e => e) rfl rfl rfl rfl), fun _ => .plain rfl (op_move rfl), fun _ => by exact .guard (((((x_6 && ((decide (x_8 = x_9)) && (decide (x_11 = x_12)))) && ((decide (x_14 = x_15)) && (decide (x_17 = x_18)))) && (x_28 && (decide (x_30 = 0)))) && (x_39 && x_41.Bad)) && ((x_44.Bad && x_46.Bad) && x_49.Bad)) 1 [] (.plain rfl) (eq_t _) rfl rfl (fun g94 => trivial) (fun g94 => op_move rfl), fun _ => by exact .guard (((((x_6 && ((decide (x_8 = x_9)) && (decide (x_11 = x_12)))) && ((decide (x_14 = x_15)) && (decide (x_17 = x_18)))) && (x_28 && (decide (x_30 = 0)))) && (x_39 && x_41.Bad)) && ((x_44.Bad && x_46.Bad) && x_49.Bad)) 2 [136] (.plain rfl) (eq_t _) rfl rfl (fun g95 => ⟨g95, trivial⟩) (fun g95 => op_eql rfl rfl), fun _ => .plain rfl (op_pick_and (fun e => e) rfl rfl rfl rfl), fun _ => .plain rfl (op_move rfl), fun _ => by exact .guard ((((((x_6 && ((decide (x_8 = x_9)) && (decide (x_11 = x_12)))) && ((decide (x_14 = x_15)) && (decide (x_17 = x_18)))) && (x_28 && (decide (x_30 = 0)))) && (x_39 && x_41.Bad)) && ((x_44.Bad && x_46.Bad) && x_49.Bad)) && (decide (x_51 = 281))) 1 [] (.plain rfl) (eq_t _) rfl rfl (fun g96 => trivial) (fun g96 => op_move rfl), fun _ => by exact .guard ((((((x_6 && ((decide (x_8 = x_9)) && (decide (x_11 = x_12)))) && ((decide (x_14 = x_15)) && (decide (x_17 = x_18)))) && (x_28 && (decide (x_30 = 0)))) && (x_39 && x_41.Bad)) && ((x_44.Bad && x_46.Bad) && x_49.Bad)) && (decide (x_51 = 281))) 2 [140] (.plain rfl) (eq_t _) rfl rfl (fun g97 => ⟨g97, trivial⟩) (fun g97 => op_eql rfl rfl), fun _ => .plain rfl (op_pick_and (fun e => e) rfl rfl rfl rfl), fun _ => .plain rfl (op_move rfl), fun _ => by exact .guard (((((((x_6 && ((decide (x_8 = x_9)) && (decide (x_11 = x_12)))) && ((decide (x_14 = x_15)) && (decide (x_17 = x_18)))) && (x_28 && (decide (x_30 = 0)))) && (x_39 && x_41.Bad)) && ((x_44.Bad && x_46.Bad) && x_49.Bad)) && (decide (x_51 = 281))) && (decide (x_53 = 281))) 1 [] (.plain rfl) (eq_t _) rfl rfl (fun g98 => trivial) (fun g98 => op_move rfl), fun _ => by exact .guard (((((((x_6 && ((decide (x_8 = x_9)) && (decide (x_11 = x_12)))) && ((decide (x_14 = x_15)) && (decide (x_17 = x_18)))) && (x_28 && (decide (x_30 = 0)))) && (x_39 && x_41.Bad)) && ((x_44.Bad && x_46.Bad) && x_49.Bad)) && (decide (x_51 = 281))) && (decide (x_53 = 281))) 2 [144] (.plain rfl) (eq_t _) rfl rfl (fun g99 => ⟨g99, trivial⟩) (fun g99 => op_eql rfl rfl), fun _ => .plain rfl (op_pick_and (fun e => e) rfl rfl rfl rfl), fun _ => .plain rfl (op_move rfl), fun _ => by exact .guard ((((((((x_6 && ((decide (x_8 = x_9)) && (decide (x_11 = x_12)))) && ((decide (x_14 = x_15)) && (decide (x_17 = x_18)))) && (x_28 && (decide (x_30 = 0)))) && (x_39 && x_41.Bad)) && ((x_44.Bad && x_46.Bad) && x_49.Bad)) && (decide (x_51 = 281))) && (decide (x_53 = 281))) && (decide (x_55 = 0))) 1 [] (.plain rfl) (eq_t _) rfl rfl (fun g100 => trivial) (fun g100 => op_load_p tyAgg25 rfl rfl rfl rfl), fun _ => by exact .guard ((((((((x_6 && ((decide (x_8 = x_9)) && (decide (x_11 = x_12)))) && ((decide (x_14 = x_15)) && (decide (x_17 = x_18)))) && (x_28 && (decide (x_30 = 0)))) && (x_39 && x_41.Bad)) && ((x_44.Bad && x_46.Bad) && x_49.Bad)) && (decide (x_51 = 281))) && (decide (x_53 = 281))) && (decide (x_55 = 0))) 2 [] (.plain rfl) (eq_t _) rfl rfl (fun g101 => trivial) (fun g101 => op_call0 (whole_Of_spec (gc e102 g101)) goes38 rfl rfl), fun _ => by exact .guard ((((((((x_6 && ((decide (x_8 = x_9)) && (decide (x_11 = x_12)))) && ((decide (x_14 = x_15)) && (decide (x_17 = x_18)))) && (x_28 && (decide (x_30 = 0)))) && (x_39 && x_41.Bad)) && ((x_44.Bad && x_46.Bad) && x_49.Bad)) && (decide (x_51 = 281))) && (decide (x_53 = 281))) && (decide (x_55 = 0))) 3 [148, 149] (.plain rfl) (eq_t _) rfl rfl (fun g103 => ⟨g103, g103, trivial⟩) (fun g103 => op_eql_agg (eqAgg25 x_54 x_56) rfl rfl), fun _ => .plain rfl (op_pick_and (fun e => e) rfl rfl rfl rfl), fun _ => .plain rfl (op_move rfl), fun _ => by exact .guard (((((((((x_6 && ((decide (x_8 = x_9)) && (decide (x_11 = x_12)))) && ((decide (x_14 = x_15)) && (decide (x_17 = x_18)))) && (x_28 && (decide (x_30 = 0)))) && (x_39 && x_41.Bad)) && ((x_44.Bad && x_46.Bad) && x_49.Bad)) && (decide (x_51 = 281))) && (decide (x_53 = 281))) && (decide (x_55 = 0))) && (decide (x_54 = x_56))) 1 [] (.plain rfl) (eq_t _) rfl rfl (fun g104 => trivial) (fun g104 => op_load_p tyAgg25 rfl rfl rfl rfl), fun _ => by exact .guard (((((((((x_6 && ((decide (x_8 = x_9)) && (decide (x_11 = x_12)))) && ((decide (x_14 = x_15)) && (decide (x_17 = x_18)))) && (x_28 && (decide (x_30 = 0)))) && (x_39 && x_41.Bad)) && ((x_44.Bad && x_46.Bad) && x_49.Bad)) && (decide (x_51 = 281))) && (decide (x_53 = 281))) && (decide (x_55 = 0))) && (decide (x_54 = x_56))) 1 [] (.plain rfl) (eq_t _) rfl rfl (fun g105 => trivial) (fun g105 => op_load_p tyAgg25 rfl rfl rfl rfl), fun _ => by exact .guard (((((((((x_6 && ((decide (x_8 = x_9)) && (decide (x_11 = x_12)))) && ((decide (x_14 = x_15)) && (decide (x_17 = x_18)))) && (x_28 && (decide (x_30 = 0)))) && (x_39 && x_41.Bad)) && ((x_44.Bad && x_46.Bad) && x_49.Bad)) && (decide (x_51 = 281))) && (decide (x_53 = 281))) && (decide (x_55 = 0))) && (decide (x_54 = x_56))) 4 [153, 154] (.plain rfl) (eq_t _) rfl rfl (fun g106 => ⟨g106, g106, trivial⟩) (fun g106 => op_call0 (whole_Cmp_spec (gc e107 g106)) goes25 rfl rfl), fun _ => by exact .guard (((((((((x_6 && ((decide (x_8 = x_9)) && (decide (x_11 = x_12)))) && ((decide (x_14 = x_15)) && (decide (x_17 = x_18)))) && (x_28 && (decide (x_30 = 0)))) && (x_39 && x_41.Bad)) && ((x_44.Bad && x_46.Bad) && x_49.Bad)) && (decide (x_51 = 281))) && (decide (x_53 = 281))) && (decide (x_55 = 0))) && (decide (x_54 = x_56))) 2 [155] (.plain rfl) (eq_t _) rfl rfl (fun g108 => ⟨g108, trivial⟩) (fun g108 => op_eql rfl rfl), fun _ => .plain rfl (op_pick_and (fun e => e) rfl rfl rfl rfl), fun _ => .plain rfl (op_assign rfl), trivial⟩ rfl rfl ?_
  refine Tri.ret ?_
  obtain rfl := Option.some.inj h
  refine Fin.keep [0] [] (s' := ⟨[(0, B ((((((((((x_6 && ((decide (x_8 = x_9)) && (decide (x_11 = x_12)))) && ((decide (x_14 = x_15)) && (decide (x_17 = x_18)))) && (x_28 && (decide (x_30 = 0)))) && (x_39 && x_41.Bad)) && ((x_44.Bad && x_46.Bad) && x_49.Bad)) && (decide (x_51 = 281))) && (decide (x_53 = 281))) && (decide (x_55 = 0))) && (decide (x_54 = x_56))) && (decide (x_57 = 1))))], []⟩) rfl ?_
  refine Fin.result' [.one (.bool ((((((((((x_6 && ((decide (x_8 = x_9)) && (decide (x_11 = x_12)))) && ((decide (x_14 = x_15)) && (decide (x_17 = x_18)))) && (x_28 && (decide (x_30 = 0)))) && (x_39 && x_41.Bad)) && ((x_44.Bad && x_46.Bad) && x_49.Bad)) && (decide (x_51 = 281))) && (decide (x_53 = 281))) && (decide (x_55 = 0))) && (decide (x_54 = x_56))) && (decide (x_57 = 1))))] (.inl rfl) rfl (.cons (.tmp rfl) .nil) ⟨rfl, rfl⟩

def skewbackref03_Sign_S (F : Nat) (x0 : Big) : Option Int :=
 Option.bind (skewbackref03_Good_S F x0) (fun x_1 => Option.bind (gcall (!(!x_1)) (skewbackref03_digits_S F x0)) (fun x_2 => if ((!x_1) || (decide ((x_2.length : Int) = 0))) = true then (some 0) else (if x0.Neg = true then (some (-1)) else (some 1))))
theorem skewbackref03_Sign_spec {F : Nat} {x0 : Big} {r : Int} (h : skewbackref03_Sign_S F x0 = some r) : Meets Tryd.prog tabs 19 [] [.agg (eBig x0)] (Is [] (.b (.one (.i r)))) := by
  unfold skewbackref03_Sign_S at h
  refine Meets.intro 14 Tryd.func19 Tryd.ntmps19 rfl (by simp) fun E => ?_
  show Tri _ E ⟨14, [], []⟩ _ ⟨[(0, .b (.agg (eBig x0)))], []⟩ _
  refine Tri.seq ?_
  refine Tri.regionL ?_
  refine OpsL.cons rfl (op_box (k := 101) rfl rfl) ?_
  refine OpsL.cons rfl (op_assign rfl) ?_
  refine OpsL.nilK [1] [101] (s' := ⟨[(1, .b (.ptr 101 0))], [(101, .box 25 (eBig x0))]⟩) rfl ?_
  refine Tri.seq ?_
  refine Tri.seq ?_
  refine Tri.regionL ?_
  refine OpsL.cons rfl (op_load_p tyAgg25 rfl rfl rfl rfl) ?_
  obtain ⟨x_1, e1, h⟩ := bnd h
  refine OpsL.cons rfl (op_call0 (skewbackref03_Good_spec e1) goes35 rfl rfl) ?_
  refine OpsL.cons rfl (op_not rfl) ?_
  refine OpsL.cons rfl (op_move rfl) ?_
  refine OpsL.consG (!(!x_1)) 99 [] (.plain rfl) (eq_f _) rfl rfl (fun g2 => trivial) (fun g2 => op_load_p tyAgg25 rfl rfl rfl rfl) ?_
  refine OpsL.keep [1, 6, 7] [101] (s' := ⟨[(1, .b (.ptr 101 0)), (6, B (!x_1)), (7, .opt (!(!x_1)) (.agg (eBig x0)))], [(101, .box 25 (eBig x0))]⟩) rfl ?_
  obtain ⟨x_2, e4, h⟩ := bnd h
  refine OpsL.consG (!(!x_1)) 99 [7] (.plain rfl) (eq_f _) rfl rfl (fun g3 => ⟨g3, trivial⟩) (fun g3 => op_call0 (skewbackref03_digits_spec (gc e4 g3)) goes52 rfl rfl) ?_
  refine OpsL.consG (!(!x_1)) 99 [8] (.plain rfl) (eq_f _) rfl rfl (fun g5 => ⟨g5, trivial⟩) (fun g5 => op_len_e' und54 rfl (List.length_map _)) ?_
  refine OpsL.consG (!(!x_1)) 99 [9] (.plain rfl) (eq_f _) rfl rfl (fun g6 => ⟨g6, trivial⟩) (fun g6 => op_eql rfl rfl) ?_
  refine OpsL.cons rfl (op_pick_or (fun e => by rw [e]; rfl) rfl rfl rfl rfl) ?_
  refine OpsL.nilK [1, 11] [101] (s' := ⟨[(1, .b (.ptr 101 0)), (11, B ((!x_1) || (decide ((x_2.length : Int) = 0))))], [(101, .box 25 (eBig x0))]⟩) rfl ?_
  refine Tri.ite h rfl (fun _ h => ?_) (fun _ h => ?_)
  · refine Tri.seq ?_
    refine Tri.regionL ?_
    refine OpsL.cons rfl (op_assign rfl) ?_
    refine OpsL.nilK [2] [] (s' := ⟨[(2, I 0)], []⟩) rfl ?_
    refine Tri.ret ?_
    refine Fin.then_ret ?_
    obtain rfl := Option.some.inj h
    refine Fin.keep [2] [] (s' := ⟨[(2, I 0)], []⟩) rfl ?_
    refine Fin.result' [.one (.i 0)] (.inl rfl) rfl (.cons (.tmp rfl) .nil) ⟨rfl, rfl⟩
  · refine Tri.skip ?_
    refine Fin.keep [1] [101] (s' := ⟨[(1, .b (.ptr 101 0))], [(101, .box 25 (eBig x0))]⟩) rfl ?_
    refine Fin.then ?_
    refine Tri.seq ?_
    refine Tri.seq ?_
    refine Tri.regionL ?_
    refine OpsL.cons rfl (op_field_p tyFld25_1 rfl rfl) ?_
    refine OpsL.cons rfl (op_load_p1 tyOne4 rfl rfl rfl) ?_
    refine OpsL.nilK [13] [] (s' := ⟨[(13, B x0.Neg)], []⟩) rfl ?_
    refine Tri.ite h rfl (fun _ h => ?_) (fun _ h => ?_)
    · refine Tri.seq ?_
      refine Tri.regionL ?_
      refine OpsL.cons rfl (op_assign rfl) ?_
      refine OpsL.nilK [2] [] (s' := ⟨[(2, I (-1))], []⟩) rfl ?_
      refine Tri.ret ?_
      refine Fin.then_ret ?_
      obtain rfl := Option.some.inj h
      refine Fin.keep [2] [] (s' := ⟨[(2, I (-1))], []⟩) rfl ?_
      refine Fin.result' [.one (.i (-1))] (.inl rfl) rfl (.cons (.tmp rfl) .nil) ⟨rfl, rfl⟩
    · refine Tri.skip ?_
      refine Fin.keep [] [] (s' := ⟨[], []⟩) rfl ?_
      refine Fin.then ?_
      refine Tri.seq ?_
      refine Tri.regionL ?_
      refine OpsL.cons rfl (op_assign rfl) ?_
      refine OpsL.nilK [2] [] (s' := ⟨[(2, I 1)], []⟩) rfl ?_
      refine Tri.ret ?_
      obtain rfl := Option.some.inj h
      refine Fin.keep [2] [] (s' := ⟨[(2, I 1)], []⟩) rfl ?_
      refine Fin.result' [.one (.i 1)] (.inl rfl) rfl (.cons (.tmp rfl) .nil) ⟨rfl, rfl⟩

def skewbacklaw03_WholeDivides_S (F : Nat) (a0 : Big) (b0 : Big) : Option Bool :=
 Option.bind (skewbackref03_Good_S F a0) (fun x_1 => Option.bind (gcall (!(!x_1)) (skewbackref03_Good_S F b0)) (fun x_2 => Option.bind (gcall (!((!x_1) || (!x_2))) (whole_Sign_S F b0)) (fun x_3 => if (((!x_1) || (!x_2)) || (decide (x_3 = 0))) = true then (Option.bind (skewbacklaw03_sanity_S F) (fun x_4 => Option.bind (gcall x_4 (skewbackref03_Sign_S F b0)) (fun x_5 => Option.bind (gcall (x_4 && !(decide (x_5 = 0))) (skewbackref03_Good_S F a0)) (fun x_6 => Option.bind (gcall (x_4 && !((decide (x_5 = 0)) || (!x_6))) (skewbackref03_Good_S F b0)) (fun x_7 => some (x_4 && (((decide (x_5 = 0)) || (!x_6)) || (!x_7)))))))) else (Option.bind (whole_Quo_S F a0 b0) (fun x_8 => Option.bind (whole_Rem_S F a0 b0) (fun x_9 => Option.bind (whole_Mul_S F b0 x_8) (fun x_10 => Option.bind (whole_Add_S F x_10 x_9) (fun x_11 => Option.bind (Option.bind (whole_Mul_S F b0 x_8) (fun x_13 => if x_13.Bad = true then (Option.bind (whole_Of_S F 1) (fun x_14 => Option.bind (whole_Add_S F x_8 x_14) (fun x_15 => Option.bind (whole_Mul_S F b0 x_15) (fun x_16 => Option.bind (whole_Sub_S F x_9 b0) (fun x_17 => Option.bind (whole_Add_S F x_16 x_17) (fun x_18 => some x_18)))))) else (some x_11))) (fun back_12 => Option.bind (gcall (!(decide (back_12 ≠ a0))) (whole_Sign_S F x_9)) (fun x_19 => Option.bind (gcall ((!(decide (back_12 ≠ a0))) && (decide (x_19 ≠ 0))) (whole_Sign_S F x_9)) (fun x_20 => Option.bind (gcall ((!(decide (back_12 ≠ a0))) && (decide (x_19 ≠ 0))) (whole_Sign_S F b0)) (fun x_21 => Option.bind (gcall (!((decide (back_12 ≠ a0)) || ((decide (x_19 ≠ 0)) && (decide (x_20 ≠ x_21))))) (whole_Abs_S F x_9)) (fun x_22 => Option.bind (gcall (!((decide (back_12 ≠ a0)) || ((decide (x_19 ≠ 0)) && (decide (x_20 ≠ x_21))))) (whole_Abs_S F b0)) (fun x_23 => Option.bind (gcall (!((decide (back_12 ≠ a0)) || ((decide (x_19 ≠ 0)) && (decide (x_20 ≠ x_21))))) (whole_Cmp_S F x_22 x_23)) (fun x_24 => if (((decide (back_12 ≠ a0)) || ((decide (x_19 ≠ 0)) && (decide (x_20 ≠ x_21)))) || (decide (0 ≤ x_24))) = true then (some false) else (Option.bind (whole_Gcd_S F a0 b0) (fun x_25 => Option.bind (whole_Quo_S F a0 x_25) (fun x_26 => Option.bind (whole_Quo_S F b0 x_25) (fun x_27 => Option.bind (whole_Sign_S F x_25) (fun x_28 => Option.bind (gcall (!(decide (x_28 ≠ 1))) (whole_Mul_S F x_26 x_25)) (fun x_29 => Option.bind (gcall (!((decide (x_28 ≠ 1)) || (decide (x_29 ≠ a0)))) (whole_Mul_S F x_27 x_25)) (fun x_30 => Option.bind (gcall (!(((decide (x_28 ≠ 1)) || (decide (x_29 ≠ a0))) || (decide (x_30 ≠ b0)))) (whole_Gcd_S F x_26 x_27)) (fun x_31 => Option.bind (gcall (!(((decide (x_28 ≠ 1)) || (decide (x_29 ≠ a0))) || (decide (x_30 ≠ b0)))) (whole_Of_S F 1)) (fun x_32 => if ((((decide (x_28 ≠ 1)) || (decide (x_29 ≠ a0))) || (decide (x_30 ≠ b0))) || (decide (x_31 ≠ x_32))) = true then (some false) else (Option.bind (whole_Mul_S F a0 b0) (fun x_33 => Option.bind (whole_Bits_S F a0) (fun x_34 => Option.bind (whole_Bits_S F b0) (fun x_35 => if x_33.Bad = true then (Option.bind (skewbacklaw03_sanity_S F) (fun x_36 => some (x_36 && (decide (512 ≤ (IntKind.i64.wrap (x_34 + x_35))))))) else (Option.bind (skewbacklaw03_sanity_S F) (fun x_37 => Option.bind (gcall (x_37 && (decide ((IntKind.i64.wrap (x_34 + x_35)) ≤ 513))) (whole_Quo_S F x_33 b0)) (fun x_38 => Option.bind (gcall ((x_37 && (decide ((IntKind.i64.wrap (x_34 + x_35)) ≤ 513))) && (decide (x_38 = a0))) (whole_Rem_S F x_33 b0)) (fun x_39 => Option.bind (gcall ((x_37 && (decide ((IntKind.i64.wrap (x_34 + x_35)) ≤ 513))) && (decide (x_38 = a0))) (whole_Of_S F 0)) (fun x_40 => some (((x_37 && (decide ((IntKind.i64.wrap (x_34 + x_35)) ≤ 513))) && (decide (x_38 = a0))) && (decide (x_39 = x_40))))))))))))))))))))))))))))))))))))
theorem skewbacklaw03_WholeDivides_spec {F : Nat} {a0 : Big} {b0 : Big} {r : Bool} (h : skewbacklaw03_WholeDivides_S F a0 b0 = some r) : Meets Tryd.prog tabs 8 [] [.agg (eBig a0), .agg (eBig b0)] (Is [] (.b (.one (.bool r)))) := by
  unfold skewbacklaw03_WholeDivides_S at h
  refine Meets.intro 156 Tryd.func8 Tryd.ntmps8 rfl (by simp) fun E => ?_
  show Tri _ E ⟨156, [], []⟩ _ ⟨[(0, .b (.agg (eBig a0))), (1, .b (.agg (eBig b0)))], []⟩ _
  refine Tri.seq ?_
  refine Tri.regionL ?_
  refine OpsL.cons rfl (op_box (k := 101) rfl rfl) ?_
  refine OpsL.cons rfl (op_box (k := 102) rfl rfl) ?_
  refine OpsL.cons rfl (op_assign rfl) ?_
  refine OpsL.nilK [2, 3] [101, 102] (s' := ⟨[(2, .b (.ptr 101 0)), (3, .b (.ptr 102 0))], [(101, .box 25 (eBig a0)), (102, .box 25 (eBig b0))]⟩) rfl ?_
  refine Tri.seq ?_
  refine Tri.seq ?_
  refine Tri.regionL ?_
  refine OpsL.cons rfl (op_load_p tyAgg25 rfl rfl rfl rfl) ?_
  obtain ⟨x_1, e1, h⟩ := bnd h
  refine OpsL.cons rfl (op_call0 (skewbackref03_Good_spec e1) goes35 rfl rfl) ?_
  refine OpsL.cons rfl (op_not rfl) ?_
  refine OpsL.cons rfl (op_move rfl) ?_
  refine OpsL.consG (!(!x_1)) 99 [] (.plain rfl) (eq_f _) rfl rfl (fun g2 => trivial) (fun g2 => op_load_p tyAgg25 rfl rfl rfl rfl) ?_
  refine OpsL.keep [2, 3, 16, 17] [101, 102] (s' := ⟨[(2, .b (.ptr 101 0)), (3, .b (.ptr 102 0)), (16, B (!x_1)), (17, .opt (!(!x_1)) (.agg (eBig b0)))], [(101, .box 25 (eBig a0)), (102, .box 25 (eBig b0))]⟩) rfl ?_
  obtain ⟨x_2, e4, h⟩ := bnd h
  refine OpsL.consG (!(!x_1)) 99 [17] (.plain rfl) (eq_f _) rfl rfl (fun g3 => ⟨g3, trivial⟩) (fun g3 => op_call0 (skewbackref03_Good_spec (gc e4 g3)) goes35 rfl rfl) ?_
  refine OpsL.consG (!(!x_1)) 99 [18] (.plain rfl) (eq_f _) rfl rfl (fun g5 => ⟨g5, trivial⟩) (fun g5 => op_not rfl) ?_
  refine OpsL.cons rfl (op_pick_or (fun e => by rw [e]; rfl) rfl rfl rfl rfl) ?_
  refine OpsL.cons rfl (op_move rfl) ?_
  refine OpsL.consG (!((!x_1) || (!x_2))) 99 [] (.plain rfl) (eq_f _) rfl rfl (fun g6 => trivial) (fun g6 => op_load_p tyAgg25 rfl rfl rfl rfl) ?_
  obtain ⟨x_3, e8, h⟩ := bnd h
  refine OpsL.consG (!((!x_1) || (!x_2))) 99 [22] (.plain rfl) (eq_f _) rfl rfl (fun g7 => ⟨g7, trivial⟩) (fun g7 => op_call0 (whole_Sign_spec (gc e8 g7)) goes18 rfl rfl) ?_
  refine OpsL.consG (!((!x_1) || (!x_2))) 99 [23] (.plain rfl) (eq_f _) rfl rfl (fun g9 => ⟨g9, trivial⟩) (fun g9 => op_eql rfl rfl) ?_
  refine OpsL.cons rfl (op_pick_or (fun e => by rw [e]; rfl) rfl rfl rfl rfl) ?_
  refine OpsL.nilK [2, 3, 25] [101, 102] (s' := ⟨[(2, .b (.ptr 101 0)), (3, .b (.ptr 102 0)), (25, B (((!x_1) || (!x_2)) || (decide (x_3 = 0))))], [(101, .box 25 (eBig a0)), (102, .box 25 (eBig b0))]⟩) rfl ?_
  refine Tri.ite h rfl (fun _ h => ?_) (fun _ h => ?_)
  · refine Tri.seq ?_
    refine Tri.regionL ?_
    obtain ⟨x_4, e10, h⟩ := bnd h
    refine OpsL.cons rfl (op_call0 (skewbacklaw03_sanity_spec e10) goes22 rfl rfl) ?_
    refine OpsL.cons rfl (op_move rfl) ?_
    refine OpsL.consG x_4 99 [] (.plain rfl) (eq_t _) rfl rfl (fun g11 => trivial) (fun g11 => op_load_p tyAgg25 rfl rfl rfl rfl) ?_
    refine OpsL.keep [2, 3, 27, 28] [101, 102] (s' := ⟨[(2, .b (.ptr 101 0)), (3, .b (.ptr 102 0)), (27, B x_4), (28, .opt x_4 (.agg (eBig b0)))], [(101, .box 25 (eBig a0)), (102, .box 25 (eBig b0))]⟩) rfl ?_
    obtain ⟨x_5, e13, h⟩ := bnd h
    refine OpsL.consG x_4 99 [28] (.plain rfl) (eq_t _) rfl rfl (fun g12 => ⟨g12, trivial⟩) (fun g12 => op_call0 (skewbackref03_Sign_spec (gc e13 g12)) goes19 rfl rfl) ?_
    refine OpsL.consG x_4 99 [29] (.plain rfl) (eq_t _) rfl rfl (fun g14 => ⟨g14, trivial⟩) (fun g14 => op_eql rfl rfl) ?_
    refine OpsL.consG x_4 99 [30] (.plain rfl) (eq_t _) rfl rfl (fun g15 => ⟨g15, trivial⟩) (fun g15 => op_move rfl) ?_
    refine OpsL.consG (x_4 && !(decide (x_5 = 0))) 99 [] (.under rfl) (and_f _ _) rfl rfl (fun g16 => trivial) (fun g16 => op_load_p tyAgg25 rfl rfl rfl rfl) ?_
    obtain ⟨x_6, e18, h⟩ := bnd h
    refine OpsL.consG (x_4 && !(decide (x_5 = 0))) 99 [32] (.under rfl) (and_f _ _) rfl rfl (fun g17 => ⟨g17, trivial⟩) (fun g17 => op_call0 (skewbackref03_Good_spec (gc e18 g17)) goes35 rfl rfl) ?_
    refine OpsL.consG (x_4 && !(decide (x_5 = 0))) 99 [33] (.under rfl) (and_f _ _) rfl rfl (fun g19 => ⟨g19, trivial⟩) (fun g19 => op_not rfl) ?_
    refine OpsL.keep [3, 27, 31, 34] [102] (s' := ⟨[(3, .b (.ptr 102 0)), (27, B x_4), (31, .opt x_4 (.one (.bool (decide (x_5 = 0))))), (34, .opt (x_4 && !(decide (x_5 = 0))) (.one (.bool (!x_6))))], [(102, .box 25 (eBig b0))]⟩) rfl ?_
    refine OpsL.consG x_4 99 [31] (.plain rfl) (eq_t _) rfl rfl (fun g20 => ⟨g20, trivial⟩) (fun g20 => op_pick_or (fun e => by rw [g20, e]; rfl) rfl rfl rfl rfl) ?_
    refine OpsL.consG x_4 99 [35] (.plain rfl) (eq_t _) rfl rfl (fun g21 => ⟨g21, trivial⟩) (fun g21 => op_move rfl) ?_
    refine OpsL.consG (x_4 && !((decide (x_5 = 0)) || (!x_6))) 99 [] (.under rfl) (and_f _ _) rfl rfl (fun g22 => trivial) (fun g22 => op_load_p tyAgg25 rfl rfl rfl rfl) ?_
    obtain ⟨x_7, e24, h⟩ := bnd h
    refine OpsL.consG (x_4 && !((decide (x_5 = 0)) || (!x_6))) 99 [37] (.under rfl) (and_f _ _) rfl rfl (fun g23 => ⟨g23, trivial⟩) (fun g23 => op_call0 (skewbackref03_Good_spec (gc e24 g23)) goes35 rfl rfl) ?_
    refine OpsL.consG (x_4 && !((decide (x_5 = 0)) || (!x_6))) 99 [38] (.under rfl) (and_f _ _) rfl rfl (fun g25 => ⟨g25, trivial⟩) (fun g25 => op_not rfl) ?_
    refine OpsL.consG x_4 99 [36] (.plain rfl) (eq_t _) rfl rfl (fun g26 => ⟨g26, trivial⟩) (fun g26 => op_pick_or (fun e => by rw [g26, e]; rfl) rfl rfl rfl rfl) ?_
    refine OpsL.cons rfl (op_pick_and (fun e => e) rfl rfl rfl rfl) ?_
    refine OpsL.cons rfl (op_assign rfl) ?_
    refine OpsL.nilK [4] [] (s' := ⟨[(4, B (x_4 && (((decide (x_5 = 0)) || (!x_6)) || (!x_7))))], []⟩) rfl ?_
    refine Tri.ret ?_
    refine Fin.then_ret ?_
    obtain rfl := Option.some.inj h
    refine Fin.keep [4] [] (s' := ⟨[(4, B (x_4 && (((decide (x_5 = 0)) || (!x_6)) || (!x_7))))], []⟩) rfl ?_
    refine Fin.result' [.one (.bool (x_4 && (((decide (x_5 = 0)) || (!x_6)) || (!x_7))))] (.inl rfl) rfl (.cons (.tmp rfl) .nil) ⟨rfl, rfl⟩
  · refine Tri.skip ?_
    refine Fin.keep [2, 3] [101, 102] (s' := ⟨[(2, .b (.ptr 101 0)), (3, .b (.ptr 102 0))], [(101, .box 25 (eBig a0)), (102, .box 25 (eBig b0))]⟩) rfl ?_
    refine Fin.then ?_
    refine Tri.seq ?_
    refine Tri.regionL ?_
    refine OpsL.cons rfl (op_load_p tyAgg25 rfl rfl rfl rfl) ?_
    refine OpsL.cons rfl (op_load_p tyAgg25 rfl rfl rfl rfl) ?_
    obtain ⟨x_8, e27, h⟩ := bnd h
    refine OpsL.cons rfl (op_call0 (whole_Quo_spec e27) goes29 rfl rfl) ?_
    refine OpsL.cons rfl (op_alloc (k := 103) tyZero25 rfl) ?_
    refine OpsL.cons rfl (op_store_p tyAgg25 rfl rfl rfl rfl (Nat.le_of_ble_eq_true rfl) rfl) ?_
    refine OpsL.nilK [2, 3, 5] [101, 102, 103] (s' := ⟨[(2, .b (.ptr 101 0)), (3, .b (.ptr 102 0)), (5, .b (.ptr 103 0))], [(101, .box 25 (eBig a0)), (102, .box 25 (eBig b0)), (103, .box 25 (eBig x_8))]⟩) rfl ?_
    refine Tri.seq ?_
    refine Tri.regionL ?_
    refine OpsL.cons rfl (op_load_p tyAgg25 rfl rfl rfl rfl) ?_
    refine OpsL.cons rfl (op_load_p tyAgg25 rfl rfl rfl rfl) ?_
    obtain ⟨x_9, e28, h⟩ := bnd h
    refine OpsL.cons rfl (op_call0 (whole_Rem_spec e28) goes31 rfl rfl) ?_
    refine OpsL.cons rfl (op_alloc (k := 104) tyZero25 rfl) ?_
    refine OpsL.cons rfl (op_store_p tyAgg25 rfl rfl rfl rfl (Nat.le_of_ble_eq_true rfl) rfl) ?_
    refine OpsL.nilK [2, 3, 5, 6] [101, 102, 103, 104] (s' := ⟨[(2, .b (.ptr 101 0)), (3, .b (.ptr 102 0)), (5, .b (.ptr 103 0)), (6, .b (.ptr 104 0))], [(101, .box 25 (eBig a0)), (102, .box 25 (eBig b0)), (103, .box 25 (eBig x_8)), (104, .box 25 (eBig x_9))]⟩) rfl ?_
    refine Tri.seq ?_
    refine Tri.keep [2, 3, 5, 6] [101, 102, 103, 104] (s' := ⟨[(2, .b (.ptr 101 0)), (3, .b (.ptr 102 0)), (5, .b (.ptr 103 0)), (6, .b (.ptr 104 0))], [(101, .box 25 (eBig a0)), (102, .box 25 (eBig b0)), (103, .box 25 (eBig x_8)), (104, .box 25 (eBig x_9))]⟩) rfl ?_
    obtain ⟨x_10, e29, h⟩ := bnd h
    obtain ⟨x_11, e30, h⟩ := bnd h
    refine Tri.regionW mixed [false, false, false, false, false, true, true] [.b (.agg (eBig b0)), .b (.agg (eBig x_8)), .b (.agg (eBig x_10)), .b (.agg (eBig x_9)), .b (.agg (eBig x_11)), .b (.ptr 105 0), B true] [⟨[false, false, false, false, false, false, false], [(2, .b (.ptr 101 0)), (3, .b (.ptr 102 0)), (5, .b (.ptr 103 0)), (6, .b (.ptr 104 0))], [(101, .box 25 (eBig a0)), (102, .box 25 (eBig b0)), (103, .box 25 (eBig x_8)), (104, .box 25 (eBig x_9))], [true, true, true, true, true, true, true], []⟩, ⟨[false, false, false, false, false, true, false], [(2, .b (.ptr 101 0)), (3, .b (.ptr 102 0)), (5, .b (.ptr 103 0)), (6, .b (.ptr 104 0))], [(101, .box 25 (eBig a0)), (102, .box 25 (eBig b0)), (103, .box 25 (eBig x_8)), (104, .box 25 (eBig x_9)), (105, .box 25 (.bool false :: .bool false :: ((eA16 .u32) A16.zero)))], [true, true, true, true, true, true, true], [5]⟩, ⟨[false, false, false, false, false, true, true], [(2, .b (.ptr 101 0)), (3, .b (.ptr 102 0)), (5, .b (.ptr 103 0)), (6, .b (.ptr 104 0))], [(101, .box 25 (eBig a0)), (102, .box 25 (eBig b0)), (103, .box 25 (eBig x_8)), (104, .box 25 (eBig x_9)), (105, .box 25 (eBig x_11))], [true, true, true, true, true, true, true], [0, 1, 2, 3, 4, 5, 6]⟩] rfl (⟨by kernel_rfl, ⟨⟨.b (.agg (eBig b0)), fun _ => rfl, fun _ => .plain rfl (by exact op_load_p tyAgg25 rfl rfl rfl rfl)⟩, ⟨.b (.agg (eBig x_8)), fun _ => rfl, fun _ => .plain rfl (by exact op_load_p tyAgg25 rfl rfl rfl rfl)⟩, ⟨.b (.agg (eBig x_10)), fun _ => rfl, fun _ => .plain rfl (by exact op_call0 (whole_Mul_spec e29) goes27 rfl rfl)⟩, ⟨.b (.agg (eBig x_9)), fun _ => rfl, fun _ => .plain rfl (by exact op_load_p tyAgg25 rfl rfl rfl rfl)⟩, ⟨.b (.agg (eBig x_11)), fun _ => rfl, fun _ => .plain rfl (by exact op_call0 (whole_Add_spec e30) goes10 rfl rfl)⟩, ⟨_, some 105, .b (.ptr 105 0), rfl, fun _ => rfl, rfl, rfl, fun _ => .toO [101, 102, 103, 104, 105] (by exact .plain rfl (by exact op_alloc (k := 105) tyZero25 rfl)) (by exact rfl)⟩, trivial, trivial⟩, ⟨by kernel_rfl, ⟨⟨.b (.agg (eBig b0)), fun _ => rfl, fun _ => .plain rfl (by exact op_load_p tyAgg25 rfl rfl rfl rfl)⟩, ⟨.b (.agg (eBig x_8)), fun _ => rfl, fun _ => .plain rfl (by exact op_load_p tyAgg25 rfl rfl rfl rfl)⟩, ⟨.b (.agg (eBig x_10)), fun _ => rfl, fun _ => .plain rfl (by exact op_call0 (whole_Mul_spec e29) goes27 rfl rfl)⟩, ⟨.b (.agg (eBig x_9)), fun _ => rfl, fun _ => .plain rfl (by exact op_load_p tyAgg25 rfl rfl rfl rfl)⟩, ⟨.b (.agg (eBig x_11)), fun _ => rfl, fun _ => .plain rfl (by exact op_call0 (whole_Add_spec e30) goes10 rfl rfl)⟩, trivial, ⟨_, none, .b (.one .any), rfl, (fun e => by simp at e), rfl, rfl, fun _ => .toO [101, 102, 103, 104, 105] (by exact .plain rfl (by exact op_store_p tyAgg25 rfl rfl rfl rfl (Nat.le_of_ble_eq_true rfl) rfl)) (by exact rfl)⟩, trivial⟩, ⟨by kernel_rfl, ⟨trivial, trivial, trivial, trivial, trivial, trivial, trivial, trivial⟩, trivial⟩⟩⟩) rfl rfl rfl [2, 3, 5, 6, 7] [101, 102, 103, 104, 105] (s' := ⟨[(2, .b (.ptr 101 0)), (3, .b (.ptr 102 0)), (5, .b (.ptr 103 0)), (6, .b (.ptr 104 0)), (7, .b (.ptr 105 0))], [(101, .box 25 (eBig a0)), (102, .box 25 (eBig b0)), (103, .box 25 (eBig x_8)), (104, .box 25 (eBig x_9)), (105, .box 25 (eBig x_11))]⟩) rfl ?_
    obtain ⟨v31, h32, h⟩ := bnd h
    refine Tri.seqJ (v := v31) (fun (back_12 : Big) => ⟨[(2, .b (.ptr 101 0)), (3, .b (.ptr 102 0)), (6, .b (.ptr 104 0)), (7, .b (.ptr 105 0))], [(101, .box 25 (eBig a0)), (102, .box 25 (eBig b0)), (104, .box 25 (eBig x_9)), (105, .box 25 (eBig back_12))]⟩) (fun z => z) ?_ ?_
    · refine Tri.seq ?_
      refine Tri.regionL ?_
      refine OpsL.cons rfl (op_load_p tyAgg25 rfl rfl rfl rfl) ?_
      refine OpsL.cons rfl (op_load_p tyAgg25 rfl rfl rfl rfl) ?_
      obtain ⟨x_13, e33, h32⟩ := bnd h32
      refine OpsL.cons rfl (op_call0 (whole_Mul_spec e33) goes27 rfl rfl) ?_
      refine OpsL.cons rfl (op_fieldv1 tyFld25_0 tyOne4 rfl rfl) ?_
      refine OpsL.nilK [2, 3, 5, 6, 7, 56] [101, 102, 103, 104, 105] (s' := ⟨[(2, .b (.ptr 101 0)), (3, .b (.ptr 102 0)), (5, .b (.ptr 103 0)), (6, .b (.ptr 104 0)), (7, .b (.ptr 105 0)), (56, B x_13.Bad)], [(101, .box 25 (eBig a0)), (102, .box 25 (eBig b0)), (103, .box 25 (eBig x_8)), (104, .box 25 (eBig x_9)), (105, .box 25 (eBig x_11))]⟩) rfl ?_
      refine Tri.ite h32 rfl (fun _ h32 => ?_) (fun _ h32 => ?_)
      · refine Tri.keep [2, 3, 5, 6, 7] [101, 102, 103, 104, 105] (s' := ⟨[(2, .b (.ptr 101 0)), (3, .b (.ptr 102 0)), (5, .b (.ptr 103 0)), (6, .b (.ptr 104 0)), (7, .b (.ptr 105 0))], [(101, .box 25 (eBig a0)), (102, .box 25 (eBig b0)), (103, .box 25 (eBig x_8)), (104, .box 25 (eBig x_9)), (105, .box 25 (eBig x_11))]⟩) rfl ?_
        obtain ⟨x_14, e34, h32⟩ := bnd h32
        obtain ⟨x_15, e35, h32⟩ := bnd h32
        obtain ⟨x_16, e36, h32⟩ := bnd h32
        obtain ⟨x_17, e37, h32⟩ := bnd h32
        obtain ⟨x_18, e38, h32⟩ := bnd h32
        refine Tri.regionYF mixed 9 [.b (.agg (eBig b0)), .b (.agg (eBig x_8)), .b (.agg (eBig x_14)), .b (.agg (eBig x_15)), .b (.agg (eBig x_16)), .b (.agg (eBig x_9)), .b (.agg (eBig b0)), .b (.agg (eBig x_17)), .b (.agg (eBig x_18))] [2, 3, 6, 7] [101, 102, 104, 105] (s' := ⟨[(2, .b (.ptr 101 0)), (3, .b (.ptr 102 0)), (6, .b (.ptr 104 0)), (7, .b (.ptr 105 0))], [(101, .box 25 (eBig a0)), (102, .box 25 (eBig b0)), (104, .box 25 (eBig x_9)), (105, .box 25 (eBig x_18))]⟩) rfl ⟨fun _ => .plain rfl (op_load_p tyAgg25 rfl rfl rfl rfl), fun _ => .plain rfl (op_load_p tyAgg25 rfl rfl rfl rfl), fun _ => .plain rfl (op_call0 (whole_Of_spec e34) goes38 rfl rfl), fun _ => .plain rfl (op_call0 (whole_Add_spec e35) goes10 rfl rfl), fun _ => .plain rfl (op_call0 (whole_Mul_spec e36) goes27 rfl rfl), fun _ => .plain rfl (op_load_p tyAgg25 rfl rfl rfl rfl), fun _ => .plain rfl (op_load_p tyAgg25 rfl rfl rfl rfl), fun _ => .plain rfl (op_call0 (whole_Sub_spec e37) goes12 rfl rfl), fun _ => .plain rfl (op_call0 (whole_Add_spec e38) goes10 rfl rfl), trivial⟩ ⟨_, by exact .plain rfl (op_store_p tyAgg25 rfl rfl rfl rfl (Nat.le_of_ble_eq_true rfl) rfl), rfl⟩ rfl ?_
        exact Fin.join [2, 3, 6, 7] [101, 102, 104, 105] x_18 (Option.some.inj h32) rfl
      · refine Tri.skip ?_
        exact Fin.join [2, 3, 6, 7] [101, 102, 104, 105] x_11 (Option.some.inj h32) rfl
    · rintro back_12 hv
      subst v31
      refine Tri.seq ?_
      refine Tri.seq ?_
      refine Tri.keep [2, 3, 6, 7] [101, 102, 104, 105] (s' := ⟨[(2, .b (.ptr 101 0)), (3, .b (.ptr 102 0)), (6, .b (.ptr 104 0)), (7, .b (.ptr 105 0))], [(101, .box 25 (eBig a0)), (102, .box 25 (eBig b0)), (104, .box 25 (eBig x_9)), (105, .box 25 (eBig back_12))]⟩) rfl ?_
      obtain ⟨x_19, e41, h⟩ := bnd h
      obtain ⟨x_20, e46, h⟩ := bnd h
      obtain ⟨x_21, e49, h⟩ := bnd h
      obtain ⟨x_22, e54, h⟩ := bnd h
      obtain ⟨x_23, e57, h⟩ := bnd h
      obtain ⟨x_24, e59, h⟩ := bnd h
      refine Tri.regionY mixed 23 [.b (.agg (eBig back_12)), .b (.agg (eBig a0)), B (decide (back_12 ≠ a0)), B (decide (back_12 ≠ a0)), .opt (!(decide (back_12 ≠ a0))) (.agg (eBig x_9)), .opt (!(decide (back_12 ≠ a0))) (.one (.i x_19)), .opt (!(decide (back_12 ≠ a0))) (.one (.bool (decide (x_19 ≠ 0)))), .opt (!(decide (back_12 ≠ a0))) (.one (.bool (decide (x_19 ≠ 0)))), .opt ((!(decide (back_12 ≠ a0))) && (decide (x_19 ≠ 0))) (.agg (eBig x_9)), .opt ((!(decide (back_12 ≠ a0))) && (decide (x_19 ≠ 0))) (.one (.i x_20)), .opt ((!(decide (back_12 ≠ a0))) && (decide (x_19 ≠ 0))) (.agg (eBig b0)), .opt ((!(decide (back_12 ≠ a0))) && (decide (x_19 ≠ 0))) (.one (.i x_21)), .opt ((!(decide (back_12 ≠ a0))) && (decide (x_19 ≠ 0))) (.one (.bool (decide (x_20 ≠ x_21)))), .opt (!(decide (back_12 ≠ a0))) (.one (.bool ((decide (x_19 ≠ 0)) && (decide (x_20 ≠ x_21))))), B ((decide (back_12 ≠ a0)) || ((decide (x_19 ≠ 0)) && (decide (x_20 ≠ x_21)))), B ((decide (back_12 ≠ a0)) || ((decide (x_19 ≠ 0)) && (decide (x_20 ≠ x_21)))), .opt (!((decide (back_12 ≠ a0)) || ((decide (x_19 ≠ 0)) && (decide (x_20 ≠ x_21))))) (.agg (eBig x_9)), .opt (!((decide (back_12 ≠ a0)) || ((decide (x_19 ≠ 0)) && (decide (x_20 ≠ x_21))))) (.agg (eBig x_22)), .opt (!((decide (back_12 ≠ a0)) || ((decide (x_19 ≠ 0)) && (decide (x_20 ≠ x_21))))) (.agg (eBig b0)), .opt (!((decide (back_12 ≠ a0)) || ((decide (x_19 ≠ 0)) && (decide (x_20 ≠ x_21))))) (.agg (eBig x_23)), .opt (!((decide (back_12 ≠ a0)) || ((decide (x_19 ≠ 0)) && (decide (x_20 ≠ x_21))))) (.one (.i x_24)), .opt (!((decide (back_12 ≠ a0)) || ((decide (x_19 ≠ 0)) && (decide (x_20 ≠ x_21))))) (.one (.bool (decide (0 ≤ x_24)))), B (((decide (back_12 ≠ a0)) || ((decide (x_19 ≠ 0)) && (decide (x_20 ≠ x_21)))) || (decide (0 ≤ x_24)))] [2, 3, 88] [101, 102] (s' := ⟨[(2, .b (.ptr 101 0)), (3, .b (.ptr 102 0)), (88, B (((decide (back_12 ≠ a0)) || ((decide (x_19 ≠ 0)) && (decide (x_20 ≠ x_21)))) || (decide (0 ≤ x_24))))], [(101, .box 25 (eBig a0)), (102, .box 25 (eBig b0))]⟩) rfl ⟨fun _ => .plain rfl (op_load_p tyAgg25 rfl rfl rfl rfl), fun _ => .plain rfl (op_load_p tyAgg25 rfl rfl rfl rfl), fun _ => .plain rfl (op_neq_agg (eqAgg25 back_12 a0) rfl rfl neg_dec), fun _ => .plain rfl (op_move rfl), fun _ => by exact .guard (!(decide (back_12 ≠ a0))) 1 [] (.plain rfl) (eq_f _) rfl rfl (fun g39 => trivial) (fun g39 => op_load_p tyAgg25 rfl rfl rfl rfl), fun _ => by exact .guard (!(decide (back_12 ≠ a0))) 3 [70] (.plain rfl) (eq_f _) rfl rfl (fun g40 => ⟨g40, trivial⟩) (fun g40 => op_call0 (whole_Sign_spec (gc e41 g40)) goes18 rfl rfl), fun _ => by exact .guard (!(decide (back_12 ≠ a0))) 2 [71] (.plain rfl) (eq_f _) rfl rfl (fun g42 => ⟨g42, trivial⟩) (fun g42 => op_neq rfl rfl), fun _ => by exact .guard (!(decide (back_12 ≠ a0))) 3 [72] (.plain rfl) (eq_f _) rfl rfl (fun g43 => ⟨g43, trivial⟩) (fun g43 => op_move rfl), fun _ => by exact .guard ((!(decide (back_12 ≠ a0))) && (decide (x_19 ≠ 0))) 1 [] (.under rfl) (and_t _ _) rfl rfl (fun g44 => trivial) (fun g44 => op_load_p tyAgg25 rfl rfl rfl rfl), fun _ => by exact .guard ((!(decide (back_12 ≠ a0))) && (decide (x_19 ≠ 0))) 3 [74] (.under rfl) (and_t _ _) rfl rfl (fun g45 => ⟨g45, trivial⟩) (fun g45 => op_call0 (whole_Sign_spec (gc e46 g45)) goes18 rfl rfl), fun _ => by exact .guard ((!(decide (back_12 ≠ a0))) && (decide (x_19 ≠ 0))) 1 [] (.under rfl) (and_t _ _) rfl rfl (fun g47 => trivial) (fun g47 => op_load_p tyAgg25 rfl rfl rfl rfl), fun _ => by exact .guard ((!(decide (back_12 ≠ a0))) && (decide (x_19 ≠ 0))) 3 [76] (.under rfl) (and_t _ _) rfl rfl (fun g48 => ⟨g48, trivial⟩) (fun g48 => op_call0 (whole_Sign_spec (gc e49 g48)) goes18 rfl rfl), fun _ => by exact .guard ((!(decide (back_12 ≠ a0))) && (decide (x_19 ≠ 0))) 3 [75, 77] (.under rfl) (and_t _ _) rfl rfl (fun g50 => ⟨g50, g50, trivial⟩) (fun g50 => op_neq rfl rfl), fun _ => by exact .guard (!(decide (back_12 ≠ a0))) 3 [73] (.plain rfl) (eq_f _) rfl rfl (fun g51 => ⟨g51, trivial⟩) (fun g51 => op_pick_and (fun e => by rw [g51, e]; rfl) rfl rfl rfl rfl), fun _ => .plain rfl (op_pick_or (fun e => by rw [e]; rfl) rfl rfl rfl rfl), fun _ => .plain rfl (op_move rfl), fun _ => by exact .guard (!((decide (back_12 ≠ a0)) || ((decide (x_19 ≠ 0)) && (decide (x_20 ≠ x_21))))) 1 [] (.plain rfl) (eq_f _) rfl rfl (fun g52 => trivial) (fun g52 => op_load_p tyAgg25 rfl rfl rfl rfl), fun _ => by exact .guard (!((decide (back_12 ≠ a0)) || ((decide (x_19 ≠ 0)) && (decide (x_20 ≠ x_21))))) 3 [82] (.plain rfl) (eq_f _) rfl rfl (fun g53 => ⟨g53, trivial⟩) (fun g53 => op_call0 (whole_Abs_spec (gc e54 g53)) goes16 rfl rfl), fun _ => by exact .guard (!((decide (back_12 ≠ a0)) || ((decide (x_19 ≠ 0)) && (decide (x_20 ≠ x_21))))) 1 [] (.plain rfl) (eq_f _) rfl rfl (fun g55 => trivial) (fun g55 => op_load_p tyAgg25 rfl rfl rfl rfl), fun _ => by exact .guard (!((decide (back_12 ≠ a0)) || ((decide (x_19 ≠ 0)) && (decide (x_20 ≠ x_21))))) 3 [84] (.plain rfl) (eq_f _) rfl rfl (fun g56 => ⟨g56, trivial⟩) (fun g56 => op_call0 (whole_Abs_spec (gc e57 g56)) goes16 rfl rfl), fun _ => by exact .guard (!((decide (back_12 ≠ a0)) || ((decide (x_19 ≠ 0)) && (decide (x_20 ≠ x_21))))) 4 [83, 85] (.plain rfl) (eq_f _) rfl rfl (fun g58 => ⟨g58, g58, g58, trivial⟩) (fun g58 => op_call0 (whole_Cmp_spec (gc e59 g58)) goes25 rfl rfl), fun _ => by exact .guard (!((decide (back_12 ≠ a0)) || ((decide (x_19 ≠ 0)) && (decide (x_20 ≠ x_21))))) 2 [86] (.plain rfl) (eq_f _) rfl rfl (fun g60 => ⟨g60, trivial⟩) (fun g60 => op_geq rfl rfl), fun _ => .plain rfl (op_pick_or (fun e => by rw [e]; rfl) rfl rfl rfl rfl), trivial⟩ rfl rfl ?_
      refine Tri.ite h rfl (fun _ h => ?_) (fun _ h => ?_)
      · refine Tri.seq ?_
        refine Tri.regionL ?_
        refine OpsL.cons rfl (op_assign rfl) ?_
        refine OpsL.nilK [4] [] (s' := ⟨[(4, B false)], []⟩) rfl ?_
        refine Tri.ret ?_
        refine Fin.then_ret ?_
        obtain rfl := Option.some.inj h
        refine Fin.keep [4] [] (s' := ⟨[(4, B false)], []⟩) rfl ?_
        refine Fin.result' [.one (.bool false)] (.inl rfl) rfl (.cons (.tmp rfl) .nil) ⟨rfl, rfl⟩
      · refine Tri.skip ?_
        refine Fin.keep [2, 3] [101, 102] (s' := ⟨[(2, .b (.ptr 101 0)), (3, .b (.ptr 102 0))], [(101, .box 25 (eBig a0)), (102, .box 25 (eBig b0))]⟩) rfl ?_
        refine Fin.then ?_
        refine Tri.seq ?_
        refine Tri.regionL ?_
        refine OpsL.cons rfl (op_load_p tyAgg25 rfl rfl rfl rfl) ?_
        refine OpsL.cons rfl (op_load_p tyAgg25 rfl rfl rfl rfl) ?_
        obtain ⟨x_25, e61, h⟩ := bnd h
        refine OpsL.cons rfl (op_call0 (whole_Gcd_spec e61) goes40 rfl rfl) ?_
        refine OpsL.cons rfl (op_alloc (k := 106) tyZero25 rfl) ?_
        refine OpsL.cons rfl (op_store_p tyAgg25 rfl rfl rfl rfl (Nat.le_of_ble_eq_true rfl) rfl) ?_
        refine OpsL.nilK [2, 3, 8] [101, 102, 106] (s' := ⟨[(2, .b (.ptr 101 0)), (3, .b (.ptr 102 0)), (8, .b (.ptr 106 0))], [(101, .box 25 (eBig a0)), (102, .box 25 (eBig b0)), (106, .box 25 (eBig x_25))]⟩) rfl ?_
        refine Tri.seq ?_
        refine Tri.regionL ?_
        refine OpsL.cons rfl (op_load_p tyAgg25 rfl rfl rfl rfl) ?_
        refine OpsL.cons rfl (op_load_p tyAgg25 rfl rfl rfl rfl) ?_
        obtain ⟨x_26, e62, h⟩ := bnd h
        refine OpsL.cons rfl (op_call0 (whole_Quo_spec e62) goes29 rfl rfl) ?_
        refine OpsL.cons rfl (op_alloc (k := 107) tyZero25 rfl) ?_
        refine OpsL.cons rfl (op_store_p tyAgg25 rfl rfl rfl rfl (Nat.le_of_ble_eq_true rfl) rfl) ?_
        refine OpsL.nilK [2, 3, 8, 9] [101, 102, 106, 107] (s' := ⟨[(2, .b (.ptr 101 0)), (3, .b (.ptr 102 0)), (8, .b (.ptr 106 0)), (9, .b (.ptr 107 0))], [(101, .box 25 (eBig a0)), (102, .box 25 (eBig b0)), (106, .box 25 (eBig x_25)), (107, .box 25 (eBig x_26))]⟩) rfl ?_
        refine Tri.seq ?_
        refine Tri.regionL ?_
        refine OpsL.cons rfl (op_load_p tyAgg25 rfl rfl rfl rfl) ?_
        refine OpsL.cons rfl (op_load_p tyAgg25 rfl rfl rfl rfl) ?_
        obtain ⟨x_27, e63, h⟩ := bnd h
        refine OpsL.cons rfl (op_call0 (whole_Quo_spec e63) goes29 rfl rfl) ?_
        refine OpsL.cons rfl (op_alloc (k := 108) tyZero25 rfl) ?_
        refine OpsL.cons rfl (op_store_p tyAgg25 rfl rfl rfl rfl (Nat.le_of_ble_eq_true rfl) rfl) ?_
        refine OpsL.nilK [2, 3, 8, 9, 10] [101, 102, 106, 107, 108] (s' := ⟨[(2, .b (.ptr 101 0)), (3, .b (.ptr 102 0)), (8, .b (.ptr 106 0)), (9, .b (.ptr 107 0)), (10, .b (.ptr 108 0))], [(101, .box 25 (eBig a0)), (102, .box 25 (eBig b0)), (106, .box 25 (eBig x_25)), (107, .box 25 (eBig x_26)), (108, .box 25 (eBig x_27))]⟩) rfl ?_
        refine Tri.seq ?_
        refine Tri.seq ?_
        refine Tri.keep [2, 3, 8, 9, 10] [101, 102, 106, 107, 108] (s' := ⟨[(2, .b (.ptr 101 0)), (3, .b (.ptr 102 0)), (8, .b (.ptr 106 0)), (9, .b (.ptr 107 0)), (10, .b (.ptr 108 0))], [(101, .box 25 (eBig a0)), (102, .box 25 (eBig b0)), (106, .box 25 (eBig x_25)), (107, .box 25 (eBig x_26)), (108, .box 25 (eBig x_27))]⟩) rfl ?_
        obtain ⟨x_28, e64, h⟩ := bnd h
        obtain ⟨x_29, e68, h⟩ := bnd h
        obtain ⟨x_30, e74, h⟩ := bnd h
        obtain ⟨x_31, e80, h⟩ := bnd h
        obtain ⟨x_32, e82, h⟩ := bnd h
        refine Tri.regionY mixed 24 [.b (.agg (eBig x_25)), I x_28, B (decide (x_28 ≠ 1)), B (decide (x_28 ≠ 1)), .opt (!(decide (x_28 ≠ 1))) (.agg (eBig x_26)), .opt (!(decide (x_28 ≠ 1))) (.agg (eBig x_25)), .opt (!(decide (x_28 ≠ 1))) (.agg (eBig x_29)), .opt (!(decide (x_28 ≠ 1))) (.agg (eBig a0)), .opt (!(decide (x_28 ≠ 1))) (.one (.bool (decide (x_29 ≠ a0)))), B ((decide (x_28 ≠ 1)) || (decide (x_29 ≠ a0))), B ((decide (x_28 ≠ 1)) || (decide (x_29 ≠ a0))), .opt (!((decide (x_28 ≠ 1)) || (decide (x_29 ≠ a0)))) (.agg (eBig x_27)), .opt (!((decide (x_28 ≠ 1)) || (decide (x_29 ≠ a0)))) (.agg (eBig x_25)), .opt (!((decide (x_28 ≠ 1)) || (decide (x_29 ≠ a0)))) (.agg (eBig x_30)), .opt (!((decide (x_28 ≠ 1)) || (decide (x_29 ≠ a0)))) (.agg (eBig b0)), .opt (!((decide (x_28 ≠ 1)) || (decide (x_29 ≠ a0)))) (.one (.bool (decide (x_30 ≠ b0)))), B (((decide (x_28 ≠ 1)) || (decide (x_29 ≠ a0))) || (decide (x_30 ≠ b0))), B (((decide (x_28 ≠ 1)) || (decide (x_29 ≠ a0))) || (decide (x_30 ≠ b0))), .opt (!(((decide (x_28 ≠ 1)) || (decide (x_29 ≠ a0))) || (decide (x_30 ≠ b0)))) (.agg (eBig x_26)), .opt (!(((decide (x_28 ≠ 1)) || (decide (x_29 ≠ a0))) || (decide (x_30 ≠ b0)))) (.agg (eBig x_27)), .opt (!(((decide (x_28 ≠ 1)) || (decide (x_29 ≠ a0))) || (decide (x_30 ≠ b0)))) (.agg (eBig x_31)), .opt (!(((decide (x_28 ≠ 1)) || (decide (x_29 ≠ a0))) || (decide (x_30 ≠ b0)))) (.agg (eBig x_32)), .opt (!(((decide (x_28 ≠ 1)) || (decide (x_29 ≠ a0))) || (decide (x_30 ≠ b0)))) (.one (.bool (decide (x_31 ≠ x_32)))), B ((((decide (x_28 ≠ 1)) || (decide (x_29 ≠ a0))) || (decide (x_30 ≠ b0))) || (decide (x_31 ≠ x_32)))] [2, 3, 121] [101, 102] (s' := ⟨[(2, .b (.ptr 101 0)), (3, .b (.ptr 102 0)), (121, B ((((decide (x_28 ≠ 1)) || (decide (x_29 ≠ a0))) || (decide (x_30 ≠ b0))) || (decide (x_31 ≠ x_32))))], [(101, .box 25 (eBig a0)), (102, .box 25 (eBig b0))]⟩) rfl ⟨fun _ => .plain rfl (op_load_p tyAgg25 rfl rfl rfl rfl), fun _ => .plain rfl (op_call0 (whole_Sign_spec e64) goes18 rfl rfl), fun _ => .plain rfl (op_neq rfl rfl), fun _ => .plain rfl (op_move rfl), fun _ => by exact .guard (!(decide (x_28 ≠ 1))) 1 [] (.plain rfl) (eq_f _) rfl rfl (fun g65 => trivial) (fun g65 => op_load_p tyAgg25 rfl rfl rfl rfl), fun _ => by exact .guard (!(decide (x_28 ≠ 1))) 1 [] (.plain rfl) (eq_f _) rfl rfl (fun g66 => trivial) (fun g66 => op_load_p tyAgg25 rfl rfl rfl rfl), fun _ => by exact .guard (!(decide (x_28 ≠ 1))) 4 [102, 103] (.plain rfl) (eq_f _) rfl rfl (fun g67 => ⟨g67, g67, trivial⟩) (fun g67 => op_call0 (whole_Mul_spec (gc e68 g67)) goes27 rfl rfl), fun _ => by exact .guard (!(decide (x_28 ≠ 1))) 1 [] (.plain rfl) (eq_f _) rfl rfl (fun g69 => trivial) (fun g69 => op_load_p tyAgg25 rfl rfl rfl rfl), fun _ => by exact .guard (!(decide (x_28 ≠ 1))) 3 [104, 105] (.plain rfl) (eq_f _) rfl rfl (fun g70 => ⟨g70, g70, trivial⟩) (fun g70 => op_neq_agg (eqAgg25 x_29 a0) rfl rfl neg_dec), fun _ => .plain rfl (op_pick_or (fun e => by rw [e]; rfl) rfl rfl rfl rfl), fun _ => .plain rfl (op_move rfl), fun _ => by exact .guard (!((decide (x_28 ≠ 1)) || (decide (x_29 ≠ a0)))) 1 [] (.plain rfl) (eq_f _) rfl rfl (fun g71 => trivial) (fun g71 => op_load_p tyAgg25 rfl rfl rfl rfl), fun _ => by exact .guard (!((decide (x_28 ≠ 1)) || (decide (x_29 ≠ a0)))) 1 [] (.plain rfl) (eq_f _) rfl rfl (fun g72 => trivial) (fun g72 => op_load_p tyAgg25 rfl rfl rfl rfl), fun _ => by exact .guard (!((decide (x_28 ≠ 1)) || (decide (x_29 ≠ a0)))) 4 [109, 110] (.plain rfl) (eq_f _) rfl rfl (fun g73 => ⟨g73, g73, trivial⟩) (fun g73 => op_call0 (whole_Mul_spec (gc e74 g73)) goes27 rfl rfl), fun _ => by exact .guard (!((decide (x_28 ≠ 1)) || (decide (x_29 ≠ a0)))) 1 [] (.plain rfl) (eq_f _) rfl rfl (fun g75 => trivial) (fun g75 => op_load_p tyAgg25 rfl rfl rfl rfl), fun _ => by exact .guard (!((decide (x_28 ≠ 1)) || (decide (x_29 ≠ a0)))) 3 [111, 112] (.plain rfl) (eq_f _) rfl rfl (fun g76 => ⟨g76, g76, trivial⟩) (fun g76 => op_neq_agg (eqAgg25 x_30 b0) rfl rfl neg_dec), fun _ => .plain rfl (op_pick_or (fun e => by rw [e]; rfl) rfl rfl rfl rfl), fun _ => .plain rfl (op_move rfl), fun _ => by exact .guard (!(((decide (x_28 ≠ 1)) || (decide (x_29 ≠ a0))) || (decide (x_30 ≠ b0)))) 1 [] (.plain rfl) (eq_f _) rfl rfl (fun g77 => trivial) (fun g77 => op_load_p tyAgg25 rfl rfl rfl rfl), fun _ => by exact .guard (!(((decide (x_28 ≠ 1)) || (decide (x_29 ≠ a0))) || (decide (x_30 ≠ b0)))) 1 [] (.plain rfl) (eq_f _) rfl rfl (fun g78 => trivial) (fun g78 => op_load_p tyAgg25 rfl rfl rfl rfl), fun _ => by exact .guard (!(((decide (x_28 ≠ 1)) || (decide (x_29 ≠ a0))) || (decide (x_30 ≠ b0)))) 4 [116, 117] (.plain rfl) (eq_f _) rfl rfl (fun g79 => ⟨g79, g79, trivial⟩) (fun g79 => op_call0 (whole_Gcd_spec (gc e80 g79)) goes40 rfl rfl), fun _ => by exact .guard (!(((decide (x_28 ≠ 1)) || (decide (x_29 ≠ a0))) || (decide (x_30 ≠ b0)))) 2 [] (.plain rfl) (eq_f _) rfl rfl (fun g81 => trivial) (fun g81 => op_call0 (whole_Of_spec (gc e82 g81)) goes38 rfl rfl), fun _ => by exact .guard (!(((decide (x_28 ≠ 1)) || (decide (x_29 ≠ a0))) || (decide (x_30 ≠ b0)))) 3 [118, 119] (.plain rfl) (eq_f _) rfl rfl (fun g83 => ⟨g83, g83, trivial⟩) (fun g83 => op_neq_agg (eqAgg25 x_31 x_32) rfl rfl neg_dec), fun _ => .plain rfl (op_pick_or (fun e => by rw [e]; rfl) rfl rfl rfl rfl), trivial⟩ rfl rfl ?_
        refine Tri.ite h rfl (fun _ h => ?_) (fun _ h => ?_)
        · refine Tri.seq ?_
          refine Tri.regionL ?_
          refine OpsL.cons rfl (op_assign rfl) ?_
          refine OpsL.nilK [4] [] (s' := ⟨[(4, B false)], []⟩) rfl ?_
          refine Tri.ret ?_
          refine Fin.then_ret ?_
          obtain rfl := Option.some.inj h
          refine Fin.keep [4] [] (s' := ⟨[(4, B false)], []⟩) rfl ?_
          refine Fin.result' [.one (.bool false)] (.inl rfl) rfl (.cons (.tmp rfl) .nil) ⟨rfl, rfl⟩
        · refine Tri.skip ?_
          refine Fin.keep [2, 3] [101, 102] (s' := ⟨[(2, .b (.ptr 101 0)), (3, .b (.ptr 102 0))], [(101, .box 25 (eBig a0)), (102, .box 25 (eBig b0))]⟩) rfl ?_
          refine Fin.then ?_
          refine Tri.seq ?_
          refine Tri.regionL ?_
          refine OpsL.cons rfl (op_load_p tyAgg25 rfl rfl rfl rfl) ?_
          refine OpsL.cons rfl (op_load_p tyAgg25 rfl rfl rfl rfl) ?_
          obtain ⟨x_33, e84, h⟩ := bnd h
          refine OpsL.cons rfl (op_call0 (whole_Mul_spec e84) goes27 rfl rfl) ?_
          refine OpsL.cons rfl (op_alloc (k := 109) tyZero25 rfl) ?_
          refine OpsL.cons rfl (op_store_p tyAgg25 rfl rfl rfl rfl (Nat.le_of_ble_eq_true rfl) rfl) ?_
          refine OpsL.nilK [2, 3, 11] [101, 102, 109] (s' := ⟨[(2, .b (.ptr 101 0)), (3, .b (.ptr 102 0)), (11, .b (.ptr 109 0))], [(101, .box 25 (eBig a0)), (102, .box 25 (eBig b0)), (109, .box 25 (eBig x_33))]⟩) rfl ?_
          refine Tri.seq ?_
          refine Tri.keep [2, 3, 11] [101, 102, 109] (s' := ⟨[(2, .b (.ptr 101 0)), (3, .b (.ptr 102 0)), (11, .b (.ptr 109 0))], [(101, .box 25 (eBig a0)), (102, .box 25 (eBig b0)), (109, .box 25 (eBig x_33))]⟩) rfl ?_
          obtain ⟨x_34, e85, h⟩ := bnd h
          obtain ⟨x_35, e86, h⟩ := bnd h
          refine Tri.regionY mixed 6 [.b (.agg (eBig a0)), I x_34, .b (.agg (eBig b0)), I x_35, I (IntKind.i64.wrap (x_34 + x_35)), I (IntKind.i64.wrap (x_34 + x_35))] [2, 3, 11, 12] [101, 102, 109] (s' := ⟨[(2, .b (.ptr 101 0)), (3, .b (.ptr 102 0)), (11, .b (.ptr 109 0)), (12, I (IntKind.i64.wrap (x_34 + x_35)))], [(101, .box 25 (eBig a0)), (102, .box 25 (eBig b0)), (109, .box 25 (eBig x_33))]⟩) rfl ⟨fun _ => .plain rfl (op_load_p tyAgg25 rfl rfl rfl rfl), fun _ => .plain rfl (op_call0 (whole_Bits_spec e85) goes20 rfl rfl), fun _ => .plain rfl (op_load_p tyAgg25 rfl rfl rfl rfl), fun _ => .plain rfl (op_call0 (whole_Bits_spec e86) goes20 rfl rfl), fun _ => .plain rfl (op_add rfl rfl), fun _ => .plain rfl (op_assign rfl), trivial⟩ rfl rfl ?_
          refine Tri.seq ?_
          refine Tri.seq ?_
          refine Tri.regionL ?_
          refine OpsL.cons rfl (op_field_p tyFld25_0 rfl rfl) ?_
          refine OpsL.cons rfl (op_load_p1 tyOne4 rfl rfl rfl) ?_
          refine OpsL.nilK [2, 3, 11, 12, 131] [101, 102, 109] (s' := ⟨[(2, .b (.ptr 101 0)), (3, .b (.ptr 102 0)), (11, .b (.ptr 109 0)), (12, I (IntKind.i64.wrap (x_34 + x_35))), (131, B x_33.Bad)], [(101, .box 25 (eBig a0)), (102, .box 25 (eBig b0)), (109, .box 25 (eBig x_33))]⟩) rfl ?_
          refine Tri.ite h rfl (fun _ h => ?_) (fun _ h => ?_)
          · refine Tri.seq ?_
            refine Tri.regionL ?_
            obtain ⟨x_36, e87, h⟩ := bnd h
            refine OpsL.cons rfl (op_call0 (skewbacklaw03_sanity_spec e87) goes22 rfl rfl) ?_
            refine OpsL.cons rfl (op_move rfl) ?_
            refine OpsL.consG x_36 99 [] (.plain rfl) (eq_t _) rfl rfl (fun g88 => trivial) (fun g88 => op_move rfl) ?_
            refine OpsL.consG x_36 99 [134] (.plain rfl) (eq_t _) rfl rfl (fun g89 => ⟨g89, trivial⟩) (fun g89 => op_geq rfl rfl) ?_
            refine OpsL.cons rfl (op_pick_and (fun e => e) rfl rfl rfl rfl) ?_
            refine OpsL.cons rfl (op_assign rfl) ?_
            refine OpsL.nilK [4] [] (s' := ⟨[(4, B (x_36 && (decide (512 ≤ (IntKind.i64.wrap (x_34 + x_35))))))], []⟩) rfl ?_
            refine Tri.ret ?_
            refine Fin.then_ret ?_
            obtain rfl := Option.some.inj h
            refine Fin.keep [4] [] (s' := ⟨[(4, B (x_36 && (decide (512 ≤ (IntKind.i64.wrap (x_34 + x_35))))))], []⟩) rfl ?_
            refine Fin.result' [.one (.bool (x_36 && (decide (512 ≤ (IntKind.i64.wrap (x_34 + x_35))))))] (.inl rfl) rfl (.cons (.tmp rfl) .nil) ⟨rfl, rfl⟩
          · refine Tri.skip ?_
            refine Fin.keep [2, 3, 11, 12] [101, 102, 109] (s' := ⟨[(2, .b (.ptr 101 0)), (3, .b (.ptr 102 0)), (11, .b (.ptr 109 0)), (12, I (IntKind.i64.wrap (x_34 + x_35)))], [(101, .box 25 (eBig a0)), (102, .box 25 (eBig b0)), (109, .box 25 (eBig x_33))]⟩) rfl ?_
            refine Fin.then ?_
            refine Tri.seq ?_
            refine Tri.keep [2, 3, 11, 12] [101, 102, 109] (s' := ⟨[(2, .b (.ptr 101 0)), (3, .b (.ptr 102 0)), (11, .b (.ptr 109 0)), (12, I (IntKind.i64.wrap (x_34 + x_35)))], [(101, .box 25 (eBig a0)), (102, .box 25 (eBig b0)), (109, .box 25 (eBig x_33))]⟩) rfl ?_
            obtain ⟨x_37, e90, h⟩ := bnd h
            obtain ⟨x_38, e96, h⟩ := bnd h
            obtain ⟨x_39, e102, h⟩ := bnd h
            obtain ⟨x_40, e104, h⟩ := bnd h
            refine Tri.regionY mixed 20 [B x_37, B x_37, .opt x_37 (.one (.i (IntKind.i64.wrap (x_34 + x_35)))), .opt x_37 (.one (.bool (decide ((IntKind.i64.wrap (x_34 + x_35)) ≤ 513)))), B (x_37 && (decide ((IntKind.i64.wrap (x_34 + x_35)) ≤ 513))), B (x_37 && (decide ((IntKind.i64.wrap (x_34 + x_35)) ≤ 513))), .opt (x_37 && (decide ((IntKind.i64.wrap (x_34 + x_35)) ≤ 513))) (.agg (eBig x_33)), .opt (x_37 && (decide ((IntKind.i64.wrap (x_34 + x_35)) ≤ 513))) (.agg (eBig b0)), .opt (x_37 && (decide ((IntKind.i64.wrap (x_34 + x_35)) ≤ 513))) (.agg (eBig x_38)), .opt (x_37 && (decide ((IntKind.i64.wrap (x_34 + x_35)) ≤ 513))) (.agg (eBig a0)), .opt (x_37 && (decide ((IntKind.i64.wrap (x_34 + x_35)) ≤ 513))) (.one (.bool (decide (x_38 = a0)))), B ((x_37 && (decide ((IntKind.i64.wrap (x_34 + x_35)) ≤ 513))) && (decide (x_38 = a0))), B ((x_37 && (decide ((IntKind.i64.wrap (x_34 + x_35)) ≤ 513))) && (decide (x_38 = a0))), .opt ((x_37 && (decide ((IntKind.i64.wrap (x_34 + x_35)) ≤ 513))) && (decide (x_38 = a0))) (.agg (eBig x_33)), .opt ((x_37 && (decide ((IntKind.i64.wrap (x_34 + x_35)) ≤ 513))) && (decide (x_38 = a0))) (.agg (eBig b0)), .opt ((x_37 && (decide ((IntKind.i64.wrap (x_34 + x_35)) ≤ 513))) && (decide (x_38 = a0))) (.agg (eBig x_39)), .opt ((x_37 && (decide ((IntKind.i64.wrap (x_34 + x_35)) ≤ 513))) && (decide (x_38 = a0))) (.agg (eBig x_40)), .opt ((x_37 && (decide ((IntKind.i64.wrap (x_34 + x_35)) ≤ 513))) && (decide (x_38 = a0))) (.one (.bool (decide (x_39 = x_40)))), B (((x_37 && (decide ((IntKind.i64.wrap (x_34 + x_35)) ≤ 513))) && (decide (x_38 = a0))) && (decide (x_39 = x_40))), B (((x_37 && (decide ((IntKind.i64.wrap (x_34 + x_35)) ≤ 513))) && (decide (x_38 = a0))) && (decide (x_39 = x_40)))] [4] [] (s' := ⟨[(4, B (((x_37 && (decide ((IntKind.i64.wrap (x_34 + x_35)) ≤ 513))) && (decide (x_38 = a0))) && (decide (x_39 = x_40))))], []⟩) rfl ⟨fun _ => .plain rfl (op_call0 (skewbacklaw03_sanity_spec e90) goes22 rfl rfl), fun _ => .plain rfl (op_move rfl), fun _ => by exact .guard x_37 1 [] (.plain rfl) (eq_t _) rfl rfl (fun g91 => trivial) (fun g91 => op_move rfl), fun _ => by exact .guard x_37 2 [139] (.plain rfl) (eq_t _) rfl rfl (fun g92 => ⟨g92, trivial⟩) (fun g92 => op_leq rfl rfl), fun _ => .plain rfl (op_pick_and (fun e => e) rfl rfl rfl rfl), fun _ => .plain rfl (op_move rfl), fun _ => by exact .guard (x_37 && (decide ((IntKind.i64.wrap (x_34 + x_35)) ≤ 513))) 1 [] (.plain rfl) (eq_t _) rfl rfl (fun g93 => trivial) (fun g93 => op_load_p tyAgg25 rfl rfl rfl rfl), fun _ => by exact .guard (x_37 && (decide ((IntKind.i64.wrap (x_34 + x_35)) ≤ 513))) 1 [] (.plain rfl) (eq_t _) rfl rfl (fun g94 => trivial) (fun g94 => op_load_p tyAgg25 rfl rfl rfl rfl), fun _ => by exact .guard (x_37 && (decide ((IntKind.i64.wrap (x_34 + x_35)) ≤ 513))) 4 [143, 144] (.plain rfl) (eq_t _) rfl rfl (fun g95 => ⟨g95, g95, trivial⟩) (fun g95 => op_call0 (whole_Quo_spec (gc e96 g95)) goes29 rfl rfl), fun _ => by exact .guard (x_37 && (decide ((IntKind.i64.wrap (x_34 + x_35)) ≤ 513))) 1 [] (.plain rfl) (eq_t _) rfl rfl (fun g97 => trivial) (fun g97 => op_load_p tyAgg25 rfl rfl rfl rfl), fun _ => by exact .guard (x_37 && (decide ((IntKind.i64.wrap (x_34 + x_35)) ≤ 513))) 3 [145, 146] (.plain rfl) (eq_t _) rfl rfl (fun g98 => ⟨g98, g98, trivial⟩) (fun g98 => op_eql_agg (eqAgg25 x_38 a0) rfl rfl), fun _ => .plain rfl (op_pick_and (fun e => e) rfl rfl rfl rfl), fun _ => .plain rfl (op_move rfl), fun _ => by exact .guard ((x_37 && (decide ((IntKind.i64.wrap (x_34 + x_35)) ≤ 513))) && (decide (x_38 = a0))) 1 [] (.plain rfl) (eq_t _) rfl rfl (fun g99 => trivial) (fun g99 => op_load_p tyAgg25 rfl rfl rfl rfl), fun _ => by exact .guard ((x_37 && (decide ((IntKind.i64.wrap (x_34 + x_35)) ≤ 513))) && (decide (x_38 = a0))) 1 [] (.plain rfl) (eq_t _) rfl rfl (fun g100 => trivial) (fun g100 => op_load_p tyAgg25 rfl rfl rfl rfl), fun _ => by exact .guard ((x_37 && (decide ((IntKind.i64.wrap (x_34 + x_35)) ≤ 513))) && (decide (x_38 = a0))) 4 [150, 151] (.plain rfl) (eq_t _) rfl rfl (fun g101 => ⟨g101, g101, trivial⟩) (fun g101 => op_call0 (whole_Rem_spec (gc e102 g101)) goes31 rfl rfl), fun _ => by exact .guard ((x_37 && (decide ((IntKind.i64.wrap (x_34 + x_35)) ≤ 513))) && (decide (x_38 = a0))) 2 [] (.plain rfl) (eq_t _) rfl rfl (fun g103 => trivial) (fun g103 => op_call0 (whole_Of_spec (gc e104 g103)) goes38 rfl rfl), fun _ => by exact .guard ((x_37 && (decide ((IntKind.i64.wrap (x_34 + x_35)) ≤ 513))) && (decide (x_38 = a0))) 3 [152, 153] (.plain rfl) (eq_t _) rfl rfl (fun g105 => ⟨g105, g105, trivial⟩) (fun g105 => op_eql_agg (eqAgg25 x_39 x_40) rfl rfl), fun _ => .plain rfl (op_pick_and (fun e => e) rfl rfl rfl rfl), fun _ => .plain rfl (op_assign rfl), trivial⟩ rfl rfl ?_
            refine Tri.ret ?_
            obtain rfl := Option.some.inj h
            refine Fin.keep [4] [] (s' := ⟨[(4, B (((x_37 && (decide ((IntKind.i64.wrap (x_34 + x_35)) ≤ 513))) && (decide (x_38 = a0))) && (decide (x_39 = x_40))))], []⟩) rfl ?_
            refine Fin.result' [.one (.bool (((x_37 && (decide ((IntKind.i64.wrap (x_34 + x_35)) ≤ 513))) && (decide (x_38 = a0))) && (decide (x_39 = x_40))))] (.inl rfl) rfl (.cons (.tmp rfl) .nil) ⟨rfl, rfl⟩

end Go.Proofs.YtaigaoifloldcaaDoor
