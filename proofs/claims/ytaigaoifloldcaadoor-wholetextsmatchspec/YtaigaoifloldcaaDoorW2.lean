/- printed walks -/
import Derived.Test.YtaigaoifloldcaaDoorW1
namespace Go.Proofs.YtaigaoifloldcaaDoor
open Go.Sk
set_option maxHeartbeats 1000000
set_option maxRecDepth 4000
set_option linter.unusedSimpArgs false
set_option linter.unusedVariables false
def whole_up_S (F : Nat) (w0 : A16) (n0 : Int) : Option (A16 × Int) :=
 Option.bind (iter F (un3 fun out_3 carry_4 x_5 => if (decide (x_5 < 16)) = true then (Option.bind (idx? w0.l x_5) (fun x_8 => Option.bind (shl? .u64 (IntKind.u64.wrap x_8) n0) (fun x_9 => letN (IntKind.u32.wrap (ior .u64 carry_4 x_9)) fun x_10 => Option.bind (idx? out_3.l x_5) (fun x_11 => some (.inl (out_3.set x_5 x_10, (ior .u64 carry_4 x_9) / 4294967296, IntKind.i64.wrap (x_5 + 1))))))) else (some (.inr (out_3, carry_4)))) (A16.zero, 0, 0)) (un2 fun out_1 carry_2 => some (out_1, IntKind.u32.wrap carry_2))
theorem whole_up_spec {F : Nat} {w0 : A16} {n0 : Int} {r : A16 × Int} (h : whole_up_S F w0 n0 = some r) : Meets Tryd.prog tabs 73 [] [.agg ((eA16 .u32) w0), .one (.i n0)] (Is [] (.tup [.agg ((eA16 .u32) r.1), .one (.int .u32 r.2)])) := by
  unfold whole_up_S at h
  refine Meets.intro 30 Tryd.func73 Tryd.ntmps73 rfl (by simp) fun E => ?_
  show Tri _ E ⟨30, [], []⟩ _ ⟨[(0, .b (.agg ((eA16 .u32) w0))), (1, I n0)], []⟩ _
  refine Tri.seq ?_
  refine Tri.regionL ?_
  refine OpsL.cons rfl (op_box (k := 101) rfl rfl) ?_
  refine OpsL.cons rfl (op_alloc (k := 102) tyZero23 rfl) ?_
  refine OpsL.cons rfl (op_assign rfl) ?_
  refine OpsL.nilK [1, 2, 4] [101, 102] (s' := ⟨[(1, I n0), (2, .b (.ptr 101 0)), (4, .b (.ptr 102 0))], [(101, .box 23 ((eA16 .u32) w0)), (102, .box 23 ((eA16 .u32) A16.zero))]⟩) rfl ?_
  refine Tri.seq ?_
  refine Tri.regionL ?_
  refine OpsL.cons rfl (op_alloc (k := 103) tyZero23 rfl) ?_
  refine OpsL.nilK [1, 2, 4, 6] [101, 102, 103] (s' := ⟨[(1, I n0), (2, .b (.ptr 101 0)), (4, .b (.ptr 102 0)), (6, .b (.ptr 103 0))], [(101, .box 23 ((eA16 .u32) w0)), (102, .box 23 ((eA16 .u32) A16.zero)), (103, .box 23 ((eA16 .u32) A16.zero))]⟩) rfl ?_
  refine Tri.seq ?_
  refine Tri.regionL ?_
  refine OpsL.cons rfl (op_assign rfl) ?_
  refine OpsL.nilK [1, 2, 4, 6, 7] [101, 102, 103] (s' := ⟨[(1, I n0), (2, .b (.ptr 101 0)), (4, .b (.ptr 102 0)), (6, .b (.ptr 103 0)), (7, .b (.one (.int .u64 0)))], [(101, .box 23 ((eA16 .u32) w0)), (102, .box 23 ((eA16 .u32) A16.zero)), (103, .box 23 ((eA16 .u32) A16.zero))]⟩) rfl ?_
  obtain ⟨v1, h2, h⟩ := bnd h
  refine Tri.seqJ (v := v1) (un2 fun (out_1 : A16) (carry_2 : Int) => ⟨[(4, .b (.ptr 102 0)), (6, .b (.ptr 103 0)), (7, .b (.one (.int .u64 carry_2)))], [(102, .box 23 ((eA16 .u32) A16.zero)), (103, .box 23 ((eA16 .u32) out_1))]⟩) (fun z => z) ?_ ?_
  · refine Tri.seq ?_
    refine Tri.regionL ?_
    refine OpsL.cons rfl (op_move rfl) ?_
    refine OpsL.nilK [1, 2, 4, 6, 7, 9] [101, 102, 103] (s' := ⟨[(1, I n0), (2, .b (.ptr 101 0)), (4, .b (.ptr 102 0)), (6, .b (.ptr 103 0)), (7, .b (.one (.int .u64 0))), (9, I 0)], [(101, .box 23 ((eA16 .u32) w0)), (102, .box 23 ((eA16 .u32) A16.zero)), (103, .box 23 ((eA16 .u32) A16.zero))]⟩) rfl ?_
    refine Tri.block ?_
    refine Tri.loopJ h2 (un3 fun (out_3 : A16) (carry_4 : Int) (x_5 : Int) => ⟨[(1, I n0), (2, .b (.ptr 101 0)), (4, .b (.ptr 102 0)), (6, .b (.ptr 103 0)), (7, .b (.one (.int .u64 carry_4))), (9, I x_5)], [(101, .box 23 ((eA16 .u32) w0)), (102, .box 23 ((eA16 .u32) A16.zero)), (103, .box 23 ((eA16 .u32) out_3))]⟩) [1, 2, 4, 6, 7, 9] [101, 102, 103] rfl ?_
    rintro ⟨out_3, carry_4, x_5⟩ o3 h4 hy5
    refine Tri.seq ?_
    refine Tri.regionL ?_
    refine OpsL.cons rfl (op_lss rfl rfl) ?_
    refine OpsL.nilK [1, 2, 4, 6, 7, 9, 10] [101, 102, 103] (s' := ⟨[(1, I n0), (2, .b (.ptr 101 0)), (4, .b (.ptr 102 0)), (6, .b (.ptr 103 0)), (7, .b (.one (.int .u64 carry_4))), (9, I x_5), (10, B (decide (x_5 < 16)))], [(101, .box 23 ((eA16 .u32) w0)), (102, .box 23 ((eA16 .u32) A16.zero)), (103, .box 23 ((eA16 .u32) out_3))]⟩) rfl ?_
    refine Tri.seq ?_
    refine Tri.ite h4 rfl (fun _ h4 => ?_) (fun _ h4 => ?_)
    · refine Tri.skip ?_
      refine Fin.keep [1, 2, 4, 6, 7, 9] [101, 102, 103] (s' := ⟨[(1, I n0), (2, .b (.ptr 101 0)), (4, .b (.ptr 102 0)), (6, .b (.ptr 103 0)), (7, .b (.one (.int .u64 carry_4))), (9, I x_5)], [(101, .box 23 ((eA16 .u32) w0)), (102, .box 23 ((eA16 .u32) A16.zero)), (103, .box 23 ((eA16 .u32) out_3))]⟩) rfl ?_
      refine Fin.then ?_
      refine Tri.seq ?_
      refine Tri.block ?_
      refine Tri.seq ?_
      refine Tri.regionL ?_
      refine OpsL.cons rfl (op_move rfl) ?_
      refine OpsL.cons rfl (op_assign rfl) ?_
      refine OpsL.nilK [1, 2, 4, 6, 7, 8, 9] [101, 102, 103] (s' := ⟨[(1, I n0), (2, .b (.ptr 101 0)), (4, .b (.ptr 102 0)), (6, .b (.ptr 103 0)), (7, .b (.one (.int .u64 carry_4))), (8, I x_5), (9, I x_5)], [(101, .box 23 ((eA16 .u32) w0)), (102, .box 23 ((eA16 .u32) A16.zero)), (103, .box 23 ((eA16 .u32) out_3))]⟩) rfl ?_
      refine Tri.seq ?_
      refine Tri.regionL ?_
      refine OpsL.cons rfl (op_move rfl) ?_
      refine OpsL.cons rfl (op_move rfl) ?_
      obtain ⟨x_8, e6, h4⟩ := bnd h4
      refine OpsL.cons rfl (op_index_p tyArr23 (ix_lo e6) (ix_hi e6) rfl rfl rfl) ?_
      refine OpsL.cons rfl (op_load_p1 tyOne22 rfl rfl (arr_get (post := []) (k := .u32) [] e6 rfl rfl rfl)) ?_
      refine OpsL.cons rfl (op_conv_wrap undi22 undi63 rfl) ?_
      refine OpsL.cons rfl (op_move rfl) ?_
      obtain ⟨x_9, e7, h4⟩ := bnd h4
      refine OpsL.cons rfl (op_shl e7 rfl rfl) ?_
      refine OpsL.cons rfl (op_or rfl rfl) ?_
      refine OpsL.cons rfl (op_assign rfl) ?_
      refine OpsL.nilK [1, 2, 4, 6, 7, 8, 9] [101, 102, 103] (s' := ⟨[(1, I n0), (2, .b (.ptr 101 0)), (4, .b (.ptr 102 0)), (6, .b (.ptr 103 0)), (7, .b (.one (.int .u64 (ior .u64 carry_4 x_9)))), (8, I x_5), (9, I x_5)], [(101, .box 23 ((eA16 .u32) w0)), (102, .box 23 ((eA16 .u32) A16.zero)), (103, .box 23 ((eA16 .u32) out_3))]⟩) rfl ?_
      refine Tri.seq ?_
      refine Tri.regionL ?_
      refine OpsL.cons rfl (op_move rfl) ?_
      refine OpsL.cons rfl (op_move rfl) ?_
      refine OpsL.consI .u32 h4 rfl (op_conv_wrap undi63 undi22 rfl) (fun x_10 h4 => ?_)
      obtain ⟨x_11, e8, h4⟩ := bnd h4
      refine OpsL.cons rfl (op_index_p tyArr23 (ix_lo e8) (ix_hi e8) rfl rfl rfl) ?_
      refine OpsL.cons rfl (op_store_p1 tyOne22 rfl rfl rfl (arr_lt (post := []) (k := .u32) [] e8 rfl rfl rfl) (arr_set (post := []) (k := .u32) [] e8 rfl rfl (A16.set_l out_3 x_5 x_10) rfl rfl)) ?_
      refine OpsL.nilK [1, 2, 4, 6, 7, 9] [101, 102, 103] (s' := ⟨[(1, I n0), (2, .b (.ptr 101 0)), (4, .b (.ptr 102 0)), (6, .b (.ptr 103 0)), (7, .b (.one (.int .u64 (ior .u64 carry_4 x_9)))), (9, I x_5)], [(101, .box 23 ((eA16 .u32) w0)), (102, .box 23 ((eA16 .u32) A16.zero)), (103, .box 23 ((eA16 .u32) (out_3.set x_5 x_10)))]⟩) rfl ?_
      refine Tri.regionL ?_
      refine OpsL.cons rfl (op_move rfl) ?_
      refine OpsL.cons rfl (op_shr2 (m := 32) (by decide) rfl rfl rfl) ?_
      refine OpsL.cons rfl (op_assign rfl) ?_
      refine OpsL.nil ?_
      refine Fin.block_normal ?_
      refine Fin.keep [1, 2, 4, 6, 7, 9] [101, 102, 103] (s' := ⟨[(1, I n0), (2, .b (.ptr 101 0)), (4, .b (.ptr 102 0)), (6, .b (.ptr 103 0)), (7, .b (.one (.int .u64 ((ior .u64 carry_4 x_9) / 4294967296)))), (9, I x_5)], [(101, .box 23 ((eA16 .u32) w0)), (102, .box 23 ((eA16 .u32) A16.zero)), (103, .box 23 ((eA16 .u32) (out_3.set x_5 x_10)))]⟩) rfl ?_
      refine Fin.then ?_
      refine Tri.regionL ?_
      refine OpsL.cons rfl (op_add rfl rfl) ?_
      refine OpsL.cons rfl (op_move rfl) ?_
      refine OpsL.nil ?_
      exact Fin.againJ [1, 2, 4, 6, 7, 9] [101, 102, 103] (out_3.set x_5 x_10, (ior .u64 carry_4 x_9) / 4294967296, IntKind.i64.wrap (x_5 + 1)) (Option.some.inj h4) rfl
    · refine Tri.exit ?_
      refine Fin.then_exit ?_
      obtain rfl := hy5 _ (Option.some.inj h4).symm
      refine Fin.then_exit ?_
      refine Fin.block_exit ?_
      exact Fin.join [4, 6, 7] [102, 103] (out_3, carry_4) rfl rfl
  · rintro ⟨out_1, carry_2⟩ hv
    subst v1
    refine Tri.seq ?_
    refine Tri.regionL ?_
    refine OpsL.cons rfl (op_load_p tyAgg23 rfl rfl rfl rfl) ?_
    refine OpsL.cons rfl (op_move rfl) ?_
    refine OpsL.cons rfl (op_conv_wrap undi63 undi22 rfl) ?_
    refine OpsL.cons rfl (op_store_p tyAgg23 rfl rfl rfl rfl (Nat.le_of_ble_eq_true rfl) rfl) ?_
    refine OpsL.cons rfl (op_assign rfl) ?_
    refine OpsL.nilK [4, 5] [102] (s' := ⟨[(4, .b (.ptr 102 0)), (5, .b (.one (.int .u32 (IntKind.u32.wrap carry_2))))], [(102, .box 23 ((eA16 .u32) out_1))]⟩) rfl ?_
    refine Tri.ret ?_
    obtain rfl := Option.some.inj h
    refine Fin.keep [4, 5] [102] (s' := ⟨[(4, .b (.ptr 102 0)), (5, .b (.one (.int .u32 (IntKind.u32.wrap carry_2))))], [(102, .box 23 ((eA16 .u32) out_1))]⟩) rfl ?_
    refine Fin.result' [.agg ((eA16 .u32) out_1), .one (.int .u32 (IntKind.u32.wrap carry_2))] (.inl rfl) rfl (.cons (.agg tyAgg23 rfl rfl rfl rfl) (.cons (.tmp rfl) .nil)) ⟨rfl, rfl⟩

def whole_guess_S (F : Nat) (v0 : A16) (n0 : Int) (j0 : Int) (u0v : A17) : Option Int :=
 Option.bind (idx? u0v.l (IntKind.i64.wrap (j0 + n0))) (fun x_1 => Option.bind (idx? u0v.l (IntKind.i64.wrap ((IntKind.i64.wrap (j0 + n0)) - 1))) (fun x_2 => Option.bind (idx? v0.l (IntKind.i64.wrap (n0 - 1))) (fun x_3 => Option.bind (quo? .u64 (ior .u64 (IntKind.u64.wrap ((IntKind.u64.wrap x_1) * 4294967296)) (IntKind.u64.wrap x_2)) (IntKind.u64.wrap x_3)) (fun x_4 => Option.bind (rem? (ior .u64 (IntKind.u64.wrap ((IntKind.u64.wrap x_1) * 4294967296)) (IntKind.u64.wrap x_2)) (IntKind.u64.wrap x_3)) (fun x_5 => Option.bind (iter F (un2 fun d_7 rest_8 => Option.bind (gcall ((decide (rest_8 < 4294967296)) && !(decide (4294967296 ≤ d_7))) (idx? v0.l (IntKind.i64.wrap (n0 - 2)))) (fun x_10 => Option.bind (gcall ((decide (rest_8 < 4294967296)) && !(decide (4294967296 ≤ d_7))) (idx? u0v.l (IntKind.i64.wrap ((IntKind.i64.wrap (j0 + n0)) - 2)))) (fun x_11 => if ((decide (rest_8 < 4294967296)) && ((decide (4294967296 ≤ d_7)) || (decide ((ior .u64 (IntKind.u64.wrap (rest_8 * 4294967296)) (IntKind.u64.wrap x_11)) < (IntKind.u64.wrap (d_7 * (IntKind.u64.wrap x_10))))))) = true then (letN (IntKind.u64.wrap (rest_8 + (IntKind.u64.wrap x_3))) fun x_12 => some (.inl (IntKind.u64.wrap (d_7 - 1), x_12))) else (some (.inr d_7))))) (x_4, x_5)) (fun d_6 => some d_6))))))
theorem whole_guess_spec {F : Nat} {v0 : A16} {n0 : Int} {j0 : Int} {u0v : A17} {r : Int} (h : whole_guess_S F v0 n0 j0 u0v = some r) : Meets Tryd.prog tabs 86 [(1, .box 100 ((eA17 .u32) u0v))] [.ptr 1 0, .agg ((eA16 .u32) v0), .one (.i n0), .one (.i j0)] (Is [(1, .box 100 ((eA17 .u32) u0v))] (.b (.one (.int .u64 r)))) := by
  unfold whole_guess_S at h
  refine Meets.intro 77 Tryd.func86 Tryd.ntmps86 rfl (by simp) fun E => ?_
  show Tri _ E ⟨77, [1], [1]⟩ _ ⟨[(0, .b (.ptr 1 0)), (1, .b (.agg ((eA16 .u32) v0))), (2, I n0), (3, I j0)], [(1, .box 100 ((eA17 .u32) u0v))]⟩ _
  refine Tri.seq ?_
  refine Tri.regionL ?_
  refine OpsL.cons rfl (op_box (k := 101) rfl rfl) ?_
  refine OpsL.cons rfl (op_assign rfl) ?_
  refine OpsL.nilK [0, 2, 3, 5] [1, 101] (s' := ⟨[(0, .b (.ptr 1 0)), (2, I n0), (3, I j0), (5, .b (.ptr 101 0))], [(1, .box 100 ((eA17 .u32) u0v)), (101, .box 23 ((eA16 .u32) v0))]⟩) rfl ?_
  refine Tri.seq ?_
  refine Tri.keep [0, 2, 3, 5] [1, 101] (s' := ⟨[(0, .b (.ptr 1 0)), (2, I n0), (3, I j0), (5, .b (.ptr 101 0))], [(1, .box 100 ((eA17 .u32) u0v)), (101, .box 23 ((eA16 .u32) v0))]⟩) rfl ?_
  obtain ⟨x_1, e1, h⟩ := bnd h
  obtain ⟨x_2, e2, h⟩ := bnd h
  refine Tri.regionY mixed 20 [.b (.ptr 1 0), I j0, I n0, I (IntKind.i64.wrap (j0 + n0)), .b (.ptr 1 0), .b (.ptr 1 (0 + (IntKind.i64.wrap (j0 + n0) : Int).toNat * 1)), .b (.one (.int .u32 x_1)), .b (.one (.int .u64 (IntKind.u64.wrap x_1))), .b (.one (.int .u64 (IntKind.u64.wrap ((IntKind.u64.wrap x_1) * 4294967296)))), .b (.ptr 1 0), I j0, I n0, I (IntKind.i64.wrap (j0 + n0)), I (IntKind.i64.wrap ((IntKind.i64.wrap (j0 + n0)) - 1)), .b (.ptr 1 0), .b (.ptr 1 (0 + (IntKind.i64.wrap ((IntKind.i64.wrap (j0 + n0)) - 1) : Int).toNat * 1)), .b (.one (.int .u32 x_2)), .b (.one (.int .u64 (IntKind.u64.wrap x_2))), .b (.one (.int .u64 (ior .u64 (IntKind.u64.wrap ((IntKind.u64.wrap x_1) * 4294967296)) (IntKind.u64.wrap x_2)))), .b (.one (.int .u64 (ior .u64 (IntKind.u64.wrap ((IntKind.u64.wrap x_1) * 4294967296)) (IntKind.u64.wrap x_2))))] [0, 2, 3, 5, 9] [1, 101] (s' := ⟨[(0, .b (.ptr 1 0)), (2, I n0), (3, I j0), (5, .b (.ptr 101 0)), (9, .b (.one (.int .u64 (ior .u64 (IntKind.u64.wrap ((IntKind.u64.wrap x_1) * 4294967296)) (IntKind.u64.wrap x_2)))))], [(1, .box 100 ((eA17 .u32) u0v)), (101, .box 23 ((eA16 .u32) v0))]⟩) rfl ⟨fun _ => .plain rfl (op_move rfl), fun _ => .plain rfl (op_move rfl), fun _ => .plain rfl (op_move rfl), fun _ => .plain rfl (op_add rfl rfl), fun _ => .plain rfl (op_nilCheck_p rfl), fun _ => .plain rfl (op_index_p tyArr100 (ix_lo e1) (ix_hi e1) rfl rfl rfl), fun _ => .plain rfl (op_load_p1 tyOne22 rfl rfl (arr_get (post := []) (k := .u32) [] e1 rfl rfl rfl)), fun _ => .plain rfl (op_conv_wrap undi22 undi63 rfl), fun _ => .plain rfl (op_shl0 (m := 32) (q := 4294967296) (by decide) rfl rfl (by decide)), fun _ => .plain rfl (op_move rfl), fun _ => .plain rfl (op_move rfl), fun _ => .plain rfl (op_move rfl), fun _ => .plain rfl (op_add rfl rfl), fun _ => .plain rfl (op_sub rfl rfl), fun _ => .plain rfl (op_nilCheck_p rfl), fun _ => .plain rfl (op_index_p tyArr100 (ix_lo e2) (ix_hi e2) rfl rfl rfl), fun _ => .plain rfl (op_load_p1 tyOne22 rfl rfl (arr_get (post := []) (k := .u32) [] e2 rfl rfl rfl)), fun _ => .plain rfl (op_conv_wrap undi22 undi63 rfl), fun _ => .plain rfl (op_or rfl rfl), fun _ => .plain rfl (op_assign rfl), trivial⟩ rfl rfl ?_
  refine Tri.seq ?_
  refine Tri.regionL ?_
  refine OpsL.cons rfl (op_move rfl) ?_
  refine OpsL.cons rfl (op_sub rfl rfl) ?_
  obtain ⟨x_3, e3, h⟩ := bnd h
  refine OpsL.cons rfl (op_index_p tyArr23 (ix_lo e3) (ix_hi e3) rfl rfl rfl) ?_
  refine OpsL.cons rfl (op_load_p1 tyOne22 rfl rfl (arr_get (post := []) (k := .u32) [] e3 rfl rfl rfl)) ?_
  refine OpsL.cons rfl (op_conv_wrap undi22 undi63 rfl) ?_
  refine OpsL.cons rfl (op_assign rfl) ?_
  refine OpsL.nilK [0, 2, 3, 5, 9, 10] [1, 101] (s' := ⟨[(0, .b (.ptr 1 0)), (2, I n0), (3, I j0), (5, .b (.ptr 101 0)), (9, .b (.one (.int .u64 (ior .u64 (IntKind.u64.wrap ((IntKind.u64.wrap x_1) * 4294967296)) (IntKind.u64.wrap x_2))))), (10, .b (.one (.int .u64 (IntKind.u64.wrap x_3))))], [(1, .box 100 ((eA17 .u32) u0v)), (101, .box 23 ((eA16 .u32) v0))]⟩) rfl ?_
  refine Tri.seq ?_
  refine Tri.keep [0, 2, 3, 5, 9, 10] [1, 101] (s' := ⟨[(0, .b (.ptr 1 0)), (2, I n0), (3, I j0), (5, .b (.ptr 101 0)), (9, .b (.one (.int .u64 (ior .u64 (IntKind.u64.wrap ((IntKind.u64.wrap x_1) * 4294967296)) (IntKind.u64.wrap x_2))))), (10, .b (.one (.int .u64 (IntKind.u64.wrap x_3))))], [(1, .box 100 ((eA17 .u32) u0v)), (101, .box 23 ((eA16 .u32) v0))]⟩) rfl ?_
  obtain ⟨x_4, e4, h⟩ := bnd h
  obtain ⟨x_5, e5, h⟩ := bnd h
  refine Tri.regionY mixed 8 [.b (.one (.int .u64 (ior .u64 (IntKind.u64.wrap ((IntKind.u64.wrap x_1) * 4294967296)) (IntKind.u64.wrap x_2)))), .b (.one (.int .u64 (IntKind.u64.wrap x_3))), .b (.one (.int .u64 x_4)), .b (.one (.int .u64 (ior .u64 (IntKind.u64.wrap ((IntKind.u64.wrap x_1) * 4294967296)) (IntKind.u64.wrap x_2)))), .b (.one (.int .u64 (IntKind.u64.wrap x_3))), .b (.one (.int .u64 x_5)), .b (.one (.int .u64 x_4)), .b (.one (.int .u64 x_5))] [0, 2, 3, 5, 10, 11, 12] [1, 101] (s' := ⟨[(0, .b (.ptr 1 0)), (2, I n0), (3, I j0), (5, .b (.ptr 101 0)), (10, .b (.one (.int .u64 (IntKind.u64.wrap x_3)))), (11, .b (.one (.int .u64 x_4))), (12, .b (.one (.int .u64 x_5)))], [(1, .box 100 ((eA17 .u32) u0v)), (101, .box 23 ((eA16 .u32) v0))]⟩) rfl ⟨fun _ => .plain rfl (op_move rfl), fun _ => .plain rfl (op_move rfl), fun _ => .plain rfl (op_quo2 e4 rfl rfl), fun _ => .plain rfl (op_move rfl), fun _ => .plain rfl (op_move rfl), fun _ => .plain rfl (op_rem2 e5 rfl rfl), fun _ => .plain rfl (op_assign rfl), fun _ => .plain rfl (op_assign rfl), trivial⟩ rfl rfl ?_
  obtain ⟨v6, h7, h⟩ := bnd h
  refine Tri.seqJ (v := v6) (fun (d_6 : Int) => ⟨[(11, .b (.one (.int .u64 d_6)))], [(1, .box 100 ((eA17 .u32) u0v))]⟩) (fun z => z) ?_ ?_
  · refine Tri.block ?_
    refine Tri.loopJ h7 (un2 fun (d_7 : Int) (rest_8 : Int) => ⟨[(0, .b (.ptr 1 0)), (2, I n0), (3, I j0), (5, .b (.ptr 101 0)), (10, .b (.one (.int .u64 (IntKind.u64.wrap x_3)))), (11, .b (.one (.int .u64 d_7))), (12, .b (.one (.int .u64 rest_8)))], [(1, .box 100 ((eA17 .u32) u0v)), (101, .box 23 ((eA16 .u32) v0))]⟩) [0, 2, 3, 5, 10, 11, 12] [1, 101] rfl ?_
    rintro ⟨d_7, rest_8⟩ o8 h9 hy10
    refine Tri.seq ?_
    refine Tri.seq ?_
    refine Tri.keep [0, 2, 3, 5, 10, 11, 12] [1, 101] (s' := ⟨[(0, .b (.ptr 1 0)), (2, I n0), (3, I j0), (5, .b (.ptr 101 0)), (10, .b (.one (.int .u64 (IntKind.u64.wrap x_3)))), (11, .b (.one (.int .u64 d_7))), (12, .b (.one (.int .u64 rest_8)))], [(1, .box 100 ((eA17 .u32) u0v)), (101, .box 23 ((eA16 .u32) v0))]⟩) rfl ?_
    obtain ⟨x_10, e18, h9⟩ := bnd h9
    obtain ⟨x_11, e31, h9⟩ := bnd h9
    refine Tri.regionY mixed 28 [.b (.one (.int .u64 rest_8)), B (decide (rest_8 < 4294967296)), B (decide (rest_8 < 4294967296)), .opt (decide (rest_8 < 4294967296)) (.one (.int .u64 d_7)), .opt (decide (rest_8 < 4294967296)) (.one (.bool (decide (4294967296 ≤ d_7)))), .opt (decide (rest_8 < 4294967296)) (.one (.bool (decide (4294967296 ≤ d_7)))), .opt ((decide (rest_8 < 4294967296)) && !(decide (4294967296 ≤ d_7))) (.one (.int .u64 d_7)), .opt ((decide (rest_8 < 4294967296)) && !(decide (4294967296 ≤ d_7))) (.one (.i n0)), .opt ((decide (rest_8 < 4294967296)) && !(decide (4294967296 ≤ d_7))) (.one (.i (IntKind.i64.wrap (n0 - 2)))), .opt ((decide (rest_8 < 4294967296)) && !(decide (4294967296 ≤ d_7))) (.ptr 101 (0 + (IntKind.i64.wrap (n0 - 2) : Int).toNat * 1)), .opt ((decide (rest_8 < 4294967296)) && !(decide (4294967296 ≤ d_7))) (.one (.int .u32 x_10)), .opt ((decide (rest_8 < 4294967296)) && !(decide (4294967296 ≤ d_7))) (.one (.int .u64 (IntKind.u64.wrap x_10))), .opt ((decide (rest_8 < 4294967296)) && !(decide (4294967296 ≤ d_7))) (.one (.int .u64 (IntKind.u64.wrap (d_7 * (IntKind.u64.wrap x_10))))), .opt ((decide (rest_8 < 4294967296)) && !(decide (4294967296 ≤ d_7))) (.one (.int .u64 rest_8)), .opt ((decide (rest_8 < 4294967296)) && !(decide (4294967296 ≤ d_7))) (.one (.int .u64 (IntKind.u64.wrap (rest_8 * 4294967296)))), .opt ((decide (rest_8 < 4294967296)) && !(decide (4294967296 ≤ d_7))) (.ptr 1 0), .opt ((decide (rest_8 < 4294967296)) && !(decide (4294967296 ≤ d_7))) (.one (.i j0)), .opt ((decide (rest_8 < 4294967296)) && !(decide (4294967296 ≤ d_7))) (.one (.i n0)), .opt ((decide (rest_8 < 4294967296)) && !(decide (4294967296 ≤ d_7))) (.one (.i (IntKind.i64.wrap (j0 + n0)))), .opt ((decide (rest_8 < 4294967296)) && !(decide (4294967296 ≤ d_7))) (.one (.i (IntKind.i64.wrap ((IntKind.i64.wrap (j0 + n0)) - 2)))), .opt ((decide (rest_8 < 4294967296)) && !(decide (4294967296 ≤ d_7))) (.ptr 1 0), .opt ((decide (rest_8 < 4294967296)) && !(decide (4294967296 ≤ d_7))) (.ptr 1 (0 + (IntKind.i64.wrap ((IntKind.i64.wrap (j0 + n0)) - 2) : Int).toNat * 1)), .opt ((decide (rest_8 < 4294967296)) && !(decide (4294967296 ≤ d_7))) (.one (.int .u32 x_11)), .opt ((decide (rest_8 < 4294967296)) && !(decide (4294967296 ≤ d_7))) (.one (.int .u64 (IntKind.u64.wrap x_11))), .opt ((decide (rest_8 < 4294967296)) && !(decide (4294967296 ≤ d_7))) (.one (.int .u64 (ior .u64 (IntKind.u64.wrap (rest_8 * 4294967296)) (IntKind.u64.wrap x_11)))), .opt ((decide (rest_8 < 4294967296)) && !(decide (4294967296 ≤ d_7))) (.one (.bool (decide ((ior .u64 (IntKind.u64.wrap (rest_8 * 4294967296)) (IntKind.u64.wrap x_11)) < (IntKind.u64.wrap (d_7 * (IntKind.u64.wrap x_10))))))), .opt (decide (rest_8 < 4294967296)) (.one (.bool ((decide (4294967296 ≤ d_7)) || (decide ((ior .u64 (IntKind.u64.wrap (rest_8 * 4294967296)) (IntKind.u64.wrap x_11)) < (IntKind.u64.wrap (d_7 * (IntKind.u64.wrap x_10)))))))), B ((decide (rest_8 < 4294967296)) && ((decide (4294967296 ≤ d_7)) || (decide ((ior .u64 (IntKind.u64.wrap (rest_8 * 4294967296)) (IntKind.u64.wrap x_11)) < (IntKind.u64.wrap (d_7 * (IntKind.u64.wrap x_10)))))))] [0, 2, 3, 5, 10, 11, 12, 70] [1, 101] (s' := ⟨[(0, .b (.ptr 1 0)), (2, I n0), (3, I j0), (5, .b (.ptr 101 0)), (10, .b (.one (.int .u64 (IntKind.u64.wrap x_3)))), (11, .b (.one (.int .u64 d_7))), (12, .b (.one (.int .u64 rest_8))), (70, B ((decide (rest_8 < 4294967296)) && ((decide (4294967296 ≤ d_7)) || (decide ((ior .u64 (IntKind.u64.wrap (rest_8 * 4294967296)) (IntKind.u64.wrap x_11)) < (IntKind.u64.wrap (d_7 * (IntKind.u64.wrap x_10))))))))], [(1, .box 100 ((eA17 .u32) u0v)), (101, .box 23 ((eA16 .u32) v0))]⟩) rfl ⟨fun _ => .plain rfl (op_move rfl), fun _ => .plain rfl (op_lss rfl rfl), fun _ => .plain rfl (op_move rfl), fun _ => by exact .guard (decide (rest_8 < 4294967296)) 1 [] (.plain rfl) (eq_t _) rfl rfl (fun g11 => trivial) (fun g11 => op_move rfl), fun _ => by exact .guard (decide (rest_8 < 4294967296)) 2 [46] (.plain rfl) (eq_t _) rfl rfl (fun g12 => ⟨g12, trivial⟩) (fun g12 => op_geq rfl rfl), fun _ => by exact .guard (decide (rest_8 < 4294967296)) 3 [47] (.plain rfl) (eq_t _) rfl rfl (fun g13 => ⟨g13, trivial⟩) (fun g13 => op_move rfl), fun _ => by exact .guard ((decide (rest_8 < 4294967296)) && !(decide (4294967296 ≤ d_7))) 1 [] (.under rfl) (and_f _ _) rfl rfl (fun g14 => trivial) (fun g14 => op_move rfl), fun _ => by exact .guard ((decide (rest_8 < 4294967296)) && !(decide (4294967296 ≤ d_7))) 1 [] (.under rfl) (and_f _ _) rfl rfl (fun g15 => trivial) (fun g15 => op_move rfl), fun _ => by exact .guard ((decide (rest_8 < 4294967296)) && !(decide (4294967296 ≤ d_7))) 2 [50] (.under rfl) (and_f _ _) rfl rfl (fun g16 => ⟨g16, trivial⟩) (fun g16 => op_sub rfl rfl), fun _ => by exact .guard ((decide (rest_8 < 4294967296)) && !(decide (4294967296 ≤ d_7))) 2 [51] (.under rfl) (and_f _ _) rfl rfl (fun g17 => ⟨g17, trivial⟩) (fun g17 => op_index_p tyArr23 (ix_lo (gc e18 g17)) (ix_hi (gc e18 g17)) rfl rfl rfl), fun _ => by exact .guard ((decide (rest_8 < 4294967296)) && !(decide (4294967296 ≤ d_7))) 2 [52] (.under rfl) (and_f _ _) rfl rfl (fun g19 => ⟨g19, trivial⟩) (fun g19 => op_load_p1 tyOne22 rfl rfl (arr_get (post := []) (k := .u32) [] (gc e18 g19) rfl rfl rfl)), fun _ => by exact .guard ((decide (rest_8 < 4294967296)) && !(decide (4294967296 ≤ d_7))) 2 [53] (.under rfl) (and_f _ _) rfl rfl (fun g20 => ⟨g20, trivial⟩) (fun g20 => op_conv_wrap undi22 undi63 rfl), fun _ => by exact .guard ((decide (rest_8 < 4294967296)) && !(decide (4294967296 ≤ d_7))) 3 [49, 54] (.under rfl) (and_f _ _) rfl rfl (fun g21 => ⟨g21, g21, trivial⟩) (fun g21 => op_mul rfl rfl), fun _ => by exact .guard ((decide (rest_8 < 4294967296)) && !(decide (4294967296 ≤ d_7))) 1 [] (.under rfl) (and_f _ _) rfl rfl (fun g22 => trivial) (fun g22 => op_move rfl), fun _ => by exact .guard ((decide (rest_8 < 4294967296)) && !(decide (4294967296 ≤ d_7))) 2 [56] (.under rfl) (and_f _ _) rfl rfl (fun g23 => ⟨g23, trivial⟩) (fun g23 => op_shl0 (m := 32) (q := 4294967296) (by decide) rfl rfl (by decide)), fun _ => by exact .guard ((decide (rest_8 < 4294967296)) && !(decide (4294967296 ≤ d_7))) 1 [] (.under rfl) (and_f _ _) rfl rfl (fun g24 => trivial) (fun g24 => op_move rfl), fun _ => by exact .guard ((decide (rest_8 < 4294967296)) && !(decide (4294967296 ≤ d_7))) 1 [] (.under rfl) (and_f _ _) rfl rfl (fun g25 => trivial) (fun g25 => op_move rfl), fun _ => by exact .guard ((decide (rest_8 < 4294967296)) && !(decide (4294967296 ≤ d_7))) 1 [] (.under rfl) (and_f _ _) rfl rfl (fun g26 => trivial) (fun g26 => op_move rfl), fun _ => by exact .guard ((decide (rest_8 < 4294967296)) && !(decide (4294967296 ≤ d_7))) 3 [59, 60] (.under rfl) (and_f _ _) rfl rfl (fun g27 => ⟨g27, g27, trivial⟩) (fun g27 => op_add rfl rfl), fun _ => by exact .guard ((decide (rest_8 < 4294967296)) && !(decide (4294967296 ≤ d_7))) 2 [61] (.under rfl) (and_f _ _) rfl rfl (fun g28 => ⟨g28, trivial⟩) (fun g28 => op_sub rfl rfl), fun _ => by exact .guard ((decide (rest_8 < 4294967296)) && !(decide (4294967296 ≤ d_7))) 2 [58] (.under rfl) (and_f _ _) rfl rfl (fun g29 => ⟨g29, trivial⟩) (fun g29 => op_nilCheck_p rfl), fun _ => by exact .guard ((decide (rest_8 < 4294967296)) && !(decide (4294967296 ≤ d_7))) 3 [62, 63] (.under rfl) (and_f _ _) rfl rfl (fun g30 => ⟨g30, g30, trivial⟩) (fun g30 => op_index_p tyArr100 (ix_lo (gc e31 g30)) (ix_hi (gc e31 g30)) rfl rfl rfl), fun _ => by exact .guard ((decide (rest_8 < 4294967296)) && !(decide (4294967296 ≤ d_7))) 2 [64] (.under rfl) (and_f _ _) rfl rfl (fun g32 => ⟨g32, trivial⟩) (fun g32 => op_load_p1 tyOne22 rfl rfl (arr_get (post := []) (k := .u32) [] (gc e31 g32) rfl rfl rfl)), fun _ => by exact .guard ((decide (rest_8 < 4294967296)) && !(decide (4294967296 ≤ d_7))) 2 [65] (.under rfl) (and_f _ _) rfl rfl (fun g33 => ⟨g33, trivial⟩) (fun g33 => op_conv_wrap undi22 undi63 rfl), fun _ => by exact .guard ((decide (rest_8 < 4294967296)) && !(decide (4294967296 ≤ d_7))) 3 [57, 66] (.under rfl) (and_f _ _) rfl rfl (fun g34 => ⟨g34, g34, trivial⟩) (fun g34 => op_or rfl rfl), fun _ => by exact .guard ((decide (rest_8 < 4294967296)) && !(decide (4294967296 ≤ d_7))) 3 [55, 67] (.under rfl) (and_f _ _) rfl rfl (fun g35 => ⟨g35, g35, trivial⟩) (fun g35 => op_gtr rfl rfl), fun _ => by exact .guard (decide (rest_8 < 4294967296)) 3 [48] (.plain rfl) (eq_t _) rfl rfl (fun g36 => ⟨g36, trivial⟩) (fun g36 => op_pick_or (fun e => by rw [g36, e]; rfl) rfl rfl rfl rfl), fun _ => .plain rfl (op_pick_and (fun e => e) rfl rfl rfl rfl), trivial⟩ rfl rfl ?_
    refine Tri.ite h9 rfl (fun _ h9 => ?_) (fun _ h9 => ?_)
    · refine Tri.skip ?_
      refine Fin.keep [0, 2, 3, 5, 10, 11, 12] [1, 101] (s' := ⟨[(0, .b (.ptr 1 0)), (2, I n0), (3, I j0), (5, .b (.ptr 101 0)), (10, .b (.one (.int .u64 (IntKind.u64.wrap x_3)))), (11, .b (.one (.int .u64 d_7))), (12, .b (.one (.int .u64 rest_8)))], [(1, .box 100 ((eA17 .u32) u0v)), (101, .box 23 ((eA16 .u32) v0))]⟩) rfl ?_
      refine Fin.then ?_
      refine Tri.block ?_
      refine Tri.seq ?_
      refine Tri.regionL ?_
      refine OpsL.cons rfl (op_move rfl) ?_
      refine OpsL.cons rfl (op_sub rfl rfl) ?_
      refine OpsL.cons rfl (op_assign rfl) ?_
      refine OpsL.nilK [0, 2, 3, 5, 10, 11, 12] [1, 101] (s' := ⟨[(0, .b (.ptr 1 0)), (2, I n0), (3, I j0), (5, .b (.ptr 101 0)), (10, .b (.one (.int .u64 (IntKind.u64.wrap x_3)))), (11, .b (.one (.int .u64 (IntKind.u64.wrap (d_7 - 1))))), (12, .b (.one (.int .u64 rest_8)))], [(1, .box 100 ((eA17 .u32) u0v)), (101, .box 23 ((eA16 .u32) v0))]⟩) rfl ?_
      refine Tri.regionL ?_
      refine OpsL.cons rfl (op_move rfl) ?_
      refine OpsL.cons rfl (op_move rfl) ?_
      refine OpsL.consI .u64 h9 rfl (op_add rfl rfl) (fun x_12 h9 => ?_)
      refine OpsL.cons rfl (op_assign rfl) ?_
      refine OpsL.nil ?_
      refine Fin.block_normal ?_
      exact Fin.againJ [0, 2, 3, 5, 10, 11, 12] [1, 101] (IntKind.u64.wrap (d_7 - 1), x_12) (Option.some.inj h9) rfl
    · refine Tri.exit ?_
      refine Fin.then_exit ?_
      obtain rfl := hy10 _ (Option.some.inj h9).symm
      refine Fin.then_exit ?_
      refine Fin.block_exit ?_
      exact Fin.join [11] [1] d_7 rfl rfl
  · rintro d_6 hv
    subst v6
    refine Tri.seq ?_
    refine Tri.regionL ?_
    refine OpsL.cons rfl (op_move rfl) ?_
    refine OpsL.cons rfl (op_assign rfl) ?_
    refine OpsL.nilK [8] [1] (s' := ⟨[(8, .b (.one (.int .u64 d_6)))], [(1, .box 100 ((eA17 .u32) u0v))]⟩) rfl ?_
    refine Tri.ret ?_
    obtain rfl := Option.some.inj h
    refine Fin.keep [8] [1] (s' := ⟨[(8, .b (.one (.int .u64 d_6)))], [(1, .box 100 ((eA17 .u32) u0v))]⟩) rfl ?_
    refine Fin.keep [8] [1] (s' := ⟨[(8, .b (.one (.int .u64 d_6)))], [(1, .box 100 ((eA17 .u32) u0v))]⟩) rfl ?_
    exact Fin.result [.one (.int .u64 d_6)] (.inl rfl) rfl (.cons (.tmp rfl) .nil) ⟨rfl, rfl⟩

def whole_take_S (F : Nat) (v0 : A16) (n0 : Int) (j0 : Int) (d0 : Int) (u0v : A17) : Option (Bool × A17) :=
 Option.bind (iter F (un4 fun u_4 carry_5 borrow_6 x_7 => if (decide (x_7 < n0)) = true then (Option.bind (idx? v0.l x_7) (fun x_11 => letN (IntKind.u64.wrap (d0 * (IntKind.u64.wrap x_11))) fun x_12 => Option.bind (idx? u_4.l (IntKind.i64.wrap (j0 + x_7))) (fun x_13 => letN (IntKind.u32.wrap (IntKind.u64.wrap (carry_5 + x_12))) fun x_14 => letN (IntKind.u64.wrap ((IntKind.u64.wrap x_13) - (IntKind.u64.wrap x_14))) fun x_15 => letN (IntKind.u32.wrap (IntKind.u64.wrap (x_15 - borrow_6))) fun x_16 => Option.bind (idx? u_4.l (IntKind.i64.wrap (j0 + x_7))) (fun x_17 => letN ((IntKind.u64.wrap (x_15 - borrow_6)) / 9223372036854775808) fun x_18 => letN ((IntKind.u64.wrap (carry_5 + x_12)) / 4294967296) fun x_19 => some (.inl (u_4.set (IntKind.i64.wrap (j0 + x_7)) x_16, x_19, x_18, IntKind.i64.wrap (x_7 + 1))))))) else (some (.inr (u_4, carry_5, borrow_6)))) (u0v, 0, 0, 0)) (un3 fun u_1 carry_2 borrow_3 => Option.bind (idx? u_1.l (IntKind.i64.wrap (j0 + n0))) (fun x_20 => letN (IntKind.u64.wrap ((IntKind.u64.wrap x_20) - carry_2)) fun x_21 => letN (IntKind.u32.wrap (IntKind.u64.wrap (x_21 - borrow_3))) fun x_22 => Option.bind (idx? u_1.l (IntKind.i64.wrap (j0 + n0))) (fun x_23 => letN ((IntKind.u64.wrap (x_21 - borrow_3)) / 9223372036854775808) fun x_24 => some (decide (x_24 = 1), u_1.set (IntKind.i64.wrap (j0 + n0)) x_22))))
theorem whole_take_spec {F : Nat} {v0 : A16} {n0 : Int} {j0 : Int} {d0 : Int} {u0v : A17} {r : Bool × A17} (h : whole_take_S F v0 n0 j0 d0 u0v = some r) : Meets Tryd.prog tabs 87 [(1, .box 100 ((eA17 .u32) u0v))] [.ptr 1 0, .agg ((eA16 .u32) v0), .one (.i n0), .one (.i j0), .one (.int .u64 d0)] (Is [(1, .box 100 ((eA17 .u32) r.2))] (.b (.one (.bool r.1)))) := by
  unfold whole_take_S at h
  refine Meets.intro 78 Tryd.func87 Tryd.ntmps87 rfl (by simp) fun E => ?_
  show Tri _ E ⟨78, [1], [1]⟩ _ ⟨[(0, .b (.ptr 1 0)), (1, .b (.agg ((eA16 .u32) v0))), (2, I n0), (3, I j0), (4, .b (.one (.int .u64 d0)))], [(1, .box 100 ((eA17 .u32) u0v))]⟩ _
  refine Tri.seq ?_
  refine Tri.regionL ?_
  refine OpsL.cons rfl (op_box (k := 101) rfl rfl) ?_
  refine OpsL.cons rfl (op_assign rfl) ?_
  refine OpsL.nilK [0, 2, 3, 4, 6] [1, 101] (s' := ⟨[(0, .b (.ptr 1 0)), (2, I n0), (3, I j0), (4, .b (.one (.int .u64 d0))), (6, .b (.ptr 101 0))], [(1, .box 100 ((eA17 .u32) u0v)), (101, .box 23 ((eA16 .u32) v0))]⟩) rfl ?_
  refine Tri.seq ?_
  refine Tri.regionL ?_
  refine OpsL.cons rfl (op_assign rfl) ?_
  refine OpsL.cons rfl (op_assign rfl) ?_
  refine OpsL.nilK [0, 2, 3, 4, 6, 11, 12] [1, 101] (s' := ⟨[(0, .b (.ptr 1 0)), (2, I n0), (3, I j0), (4, .b (.one (.int .u64 d0))), (6, .b (.ptr 101 0)), (11, .b (.one (.int .u64 0))), (12, .b (.one (.int .u64 0)))], [(1, .box 100 ((eA17 .u32) u0v)), (101, .box 23 ((eA16 .u32) v0))]⟩) rfl ?_
  obtain ⟨v1, h2, h⟩ := bnd h
  refine Tri.seqJ (v := v1) (un3 fun (u_1 : A17) (carry_2 : Int) (borrow_3 : Int) => ⟨[(0, .b (.ptr 1 0)), (2, I n0), (3, I j0), (11, .b (.one (.int .u64 carry_2))), (12, .b (.one (.int .u64 borrow_3)))], [(1, .box 100 ((eA17 .u32) u_1))]⟩) (fun z => z) ?_ ?_
  · refine Tri.seq ?_
    refine Tri.regionL ?_
    refine OpsL.cons rfl (op_move rfl) ?_
    refine OpsL.cons rfl (op_move rfl) ?_
    refine OpsL.nilK [0, 2, 3, 4, 6, 11, 12, 16, 17] [1, 101] (s' := ⟨[(0, .b (.ptr 1 0)), (2, I n0), (3, I j0), (4, .b (.one (.int .u64 d0))), (6, .b (.ptr 101 0)), (11, .b (.one (.int .u64 0))), (12, .b (.one (.int .u64 0))), (16, I n0), (17, I 0)], [(1, .box 100 ((eA17 .u32) u0v)), (101, .box 23 ((eA16 .u32) v0))]⟩) rfl ?_
    refine Tri.block ?_
    refine Tri.loopJ h2 (un4 fun (u_4 : A17) (carry_5 : Int) (borrow_6 : Int) (x_7 : Int) => ⟨[(0, .b (.ptr 1 0)), (2, I n0), (3, I j0), (4, .b (.one (.int .u64 d0))), (6, .b (.ptr 101 0)), (11, .b (.one (.int .u64 carry_5))), (12, .b (.one (.int .u64 borrow_6))), (16, I n0), (17, I x_7)], [(1, .box 100 ((eA17 .u32) u_4)), (101, .box 23 ((eA16 .u32) v0))]⟩) [0, 2, 3, 4, 6, 11, 12, 16, 17] [1, 101] rfl ?_
    rintro ⟨u_4, carry_5, borrow_6, x_7⟩ o3 h4 hy5
    refine Tri.seq ?_
    refine Tri.regionL ?_
    refine OpsL.cons rfl (op_lss rfl rfl) ?_
    refine OpsL.nilK [0, 2, 3, 4, 6, 11, 12, 16, 17, 18] [1, 101] (s' := ⟨[(0, .b (.ptr 1 0)), (2, I n0), (3, I j0), (4, .b (.one (.int .u64 d0))), (6, .b (.ptr 101 0)), (11, .b (.one (.int .u64 carry_5))), (12, .b (.one (.int .u64 borrow_6))), (16, I n0), (17, I x_7), (18, B (decide (x_7 < n0)))], [(1, .box 100 ((eA17 .u32) u_4)), (101, .box 23 ((eA16 .u32) v0))]⟩) rfl ?_
    refine Tri.seq ?_
    refine Tri.ite h4 rfl (fun _ h4 => ?_) (fun _ h4 => ?_)
    · refine Tri.skip ?_
      refine Fin.keep [0, 2, 3, 4, 6, 11, 12, 16, 17] [1, 101] (s' := ⟨[(0, .b (.ptr 1 0)), (2, I n0), (3, I j0), (4, .b (.one (.int .u64 d0))), (6, .b (.ptr 101 0)), (11, .b (.one (.int .u64 carry_5))), (12, .b (.one (.int .u64 borrow_6))), (16, I n0), (17, I x_7)], [(1, .box 100 ((eA17 .u32) u_4)), (101, .box 23 ((eA16 .u32) v0))]⟩) rfl ?_
      refine Fin.then ?_
      refine Tri.seq ?_
      refine Tri.block ?_
      refine Tri.seq ?_
      refine Tri.regionL ?_
      refine OpsL.cons rfl (op_move rfl) ?_
      refine OpsL.cons rfl (op_assign rfl) ?_
      refine OpsL.nilK [0, 2, 3, 4, 6, 11, 12, 13, 16, 17] [1, 101] (s' := ⟨[(0, .b (.ptr 1 0)), (2, I n0), (3, I j0), (4, .b (.one (.int .u64 d0))), (6, .b (.ptr 101 0)), (11, .b (.one (.int .u64 carry_5))), (12, .b (.one (.int .u64 borrow_6))), (13, I x_7), (16, I n0), (17, I x_7)], [(1, .box 100 ((eA17 .u32) u_4)), (101, .box 23 ((eA16 .u32) v0))]⟩) rfl ?_
      refine Tri.seq ?_
      refine Tri.regionL ?_
      refine OpsL.cons rfl (op_move rfl) ?_
      refine OpsL.cons rfl (op_move rfl) ?_
      refine OpsL.cons rfl (op_move rfl) ?_
      obtain ⟨x_11, e6, h4⟩ := bnd h4
      refine OpsL.cons rfl (op_index_p tyArr23 (ix_lo e6) (ix_hi e6) rfl rfl rfl) ?_
      refine OpsL.cons rfl (op_load_p1 tyOne22 rfl rfl (arr_get (post := []) (k := .u32) [] e6 rfl rfl rfl)) ?_
      refine OpsL.cons rfl (op_conv_wrap undi22 undi63 rfl) ?_
      refine OpsL.consI .u64 h4 rfl (op_mul rfl rfl) (fun x_12 h4 => ?_)
      refine OpsL.cons rfl (op_add rfl rfl) ?_
      refine OpsL.cons rfl (op_assign rfl) ?_
      refine OpsL.nilK [0, 2, 3, 4, 6, 11, 12, 13, 16, 17] [1, 101] (s' := ⟨[(0, .b (.ptr 1 0)), (2, I n0), (3, I j0), (4, .b (.one (.int .u64 d0))), (6, .b (.ptr 101 0)), (11, .b (.one (.int .u64 (IntKind.u64.wrap (carry_5 + x_12))))), (12, .b (.one (.int .u64 borrow_6))), (13, I x_7), (16, I n0), (17, I x_7)], [(1, .box 100 ((eA17 .u32) u_4)), (101, .box 23 ((eA16 .u32) v0))]⟩) rfl ?_
      refine Tri.seq ?_
      refine Tri.regionL ?_
      refine OpsL.cons rfl (op_move rfl) ?_
      refine OpsL.cons rfl (op_move rfl) ?_
      refine OpsL.cons rfl (op_move rfl) ?_
      refine OpsL.cons rfl (op_add rfl rfl) ?_
      refine OpsL.cons rfl (op_nilCheck_p rfl) ?_
      obtain ⟨x_13, e7, h4⟩ := bnd h4
      refine OpsL.cons rfl (op_index_p tyArr100 (ix_lo e7) (ix_hi e7) rfl rfl rfl) ?_
      refine OpsL.cons rfl (op_load_p1 tyOne22 rfl rfl (arr_get (post := []) (k := .u32) [] e7 rfl rfl rfl)) ?_
      refine OpsL.keep [0, 2, 3, 4, 6, 11, 12, 13, 16, 17, 34] [1, 101] (s' := ⟨[(0, .b (.ptr 1 0)), (2, I n0), (3, I j0), (4, .b (.one (.int .u64 d0))), (6, .b (.ptr 101 0)), (11, .b (.one (.int .u64 (IntKind.u64.wrap (carry_5 + x_12))))), (12, .b (.one (.int .u64 borrow_6))), (13, I x_7), (16, I n0), (17, I x_7), (34, .b (.one (.int .u32 x_13)))], [(1, .box 100 ((eA17 .u32) u_4)), (101, .box 23 ((eA16 .u32) v0))]⟩) rfl ?_
      refine OpsL.cons rfl (op_conv_wrap undi22 undi63 rfl) ?_
      refine OpsL.cons rfl (op_move rfl) ?_
      refine OpsL.consI .u32 h4 rfl (op_conv_wrap undi63 undi22 rfl) (fun x_14 h4 => ?_)
      refine OpsL.cons rfl (op_conv_wrap undi22 undi63 rfl) ?_
      refine OpsL.consI .u64 h4 rfl (op_sub rfl rfl) (fun x_15 h4 => ?_)
      refine OpsL.cons rfl (op_move rfl) ?_
      refine OpsL.cons rfl (op_sub rfl rfl) ?_
      refine OpsL.cons rfl (op_assign rfl) ?_
      refine OpsL.nilK [0, 2, 3, 4, 6, 11, 13, 14, 16, 17] [1, 101] (s' := ⟨[(0, .b (.ptr 1 0)), (2, I n0), (3, I j0), (4, .b (.one (.int .u64 d0))), (6, .b (.ptr 101 0)), (11, .b (.one (.int .u64 (IntKind.u64.wrap (carry_5 + x_12))))), (13, I x_7), (14, .b (.one (.int .u64 (IntKind.u64.wrap (x_15 - borrow_6))))), (16, I n0), (17, I x_7)], [(1, .box 100 ((eA17 .u32) u_4)), (101, .box 23 ((eA16 .u32) v0))]⟩) rfl ?_
      refine Tri.seq ?_
      refine Tri.regionL ?_
      refine OpsL.cons rfl (op_move rfl) ?_
      refine OpsL.cons rfl (op_move rfl) ?_
      refine OpsL.cons rfl (op_move rfl) ?_
      refine OpsL.cons rfl (op_add rfl rfl) ?_
      refine OpsL.cons rfl (op_move rfl) ?_
      refine OpsL.consI .u32 h4 rfl (op_conv_wrap undi63 undi22 rfl) (fun x_16 h4 => ?_)
      refine OpsL.cons rfl (op_nilCheck_p rfl) ?_
      obtain ⟨x_17, e8, h4⟩ := bnd h4
      refine OpsL.cons rfl (op_index_p tyArr100 (ix_lo e8) (ix_hi e8) rfl rfl rfl) ?_
      refine OpsL.cons rfl (op_store_p1 tyOne22 rfl rfl rfl (arr_lt (post := []) (k := .u32) [] e8 rfl rfl rfl) (arr_set (post := []) (k := .u32) [] e8 rfl rfl (A17.set_l u_4 (IntKind.i64.wrap (j0 + x_7)) x_16) rfl rfl)) ?_
      refine OpsL.nilK [0, 2, 3, 4, 6, 11, 14, 16, 17] [1, 101] (s' := ⟨[(0, .b (.ptr 1 0)), (2, I n0), (3, I j0), (4, .b (.one (.int .u64 d0))), (6, .b (.ptr 101 0)), (11, .b (.one (.int .u64 (IntKind.u64.wrap (carry_5 + x_12))))), (14, .b (.one (.int .u64 (IntKind.u64.wrap (x_15 - borrow_6))))), (16, I n0), (17, I x_7)], [(1, .box 100 ((eA17 .u32) (u_4.set (IntKind.i64.wrap (j0 + x_7)) x_16))), (101, .box 23 ((eA16 .u32) v0))]⟩) rfl ?_
      refine Tri.seq ?_
      refine Tri.regionL ?_
      refine OpsL.cons rfl (op_move rfl) ?_
      refine OpsL.consI .u64 h4 rfl (op_shr2 (m := 63) (by decide) rfl rfl rfl) (fun x_18 h4 => ?_)
      refine OpsL.cons rfl (op_assign rfl) ?_
      refine OpsL.nilK [0, 2, 3, 4, 6, 11, 12, 16, 17] [1, 101] (s' := ⟨[(0, .b (.ptr 1 0)), (2, I n0), (3, I j0), (4, .b (.one (.int .u64 d0))), (6, .b (.ptr 101 0)), (11, .b (.one (.int .u64 (IntKind.u64.wrap (carry_5 + x_12))))), (12, .b (.one (.int .u64 x_18))), (16, I n0), (17, I x_7)], [(1, .box 100 ((eA17 .u32) (u_4.set (IntKind.i64.wrap (j0 + x_7)) x_16))), (101, .box 23 ((eA16 .u32) v0))]⟩) rfl ?_
      refine Tri.regionL ?_
      refine OpsL.cons rfl (op_move rfl) ?_
      refine OpsL.consI .u64 h4 rfl (op_shr2 (m := 32) (by decide) rfl rfl rfl) (fun x_19 h4 => ?_)
      refine OpsL.cons rfl (op_assign rfl) ?_
      refine OpsL.nil ?_
      refine Fin.block_normal ?_
      refine Fin.keep [0, 2, 3, 4, 6, 11, 12, 16, 17] [1, 101] (s' := ⟨[(0, .b (.ptr 1 0)), (2, I n0), (3, I j0), (4, .b (.one (.int .u64 d0))), (6, .b (.ptr 101 0)), (11, .b (.one (.int .u64 x_19))), (12, .b (.one (.int .u64 x_18))), (16, I n0), (17, I x_7)], [(1, .box 100 ((eA17 .u32) (u_4.set (IntKind.i64.wrap (j0 + x_7)) x_16))), (101, .box 23 ((eA16 .u32) v0))]⟩) rfl ?_
      refine Fin.then ?_
      refine Tri.regionL ?_
      refine OpsL.cons rfl (op_add rfl rfl) ?_
      refine OpsL.cons rfl (op_move rfl) ?_
      refine OpsL.nil ?_
      exact Fin.againJ [0, 2, 3, 4, 6, 11, 12, 16, 17] [1, 101] (u_4.set (IntKind.i64.wrap (j0 + x_7)) x_16, x_19, x_18, IntKind.i64.wrap (x_7 + 1)) (Option.some.inj h4) rfl
    · refine Tri.exit ?_
      refine Fin.then_exit ?_
      obtain rfl := hy5 _ (Option.some.inj h4).symm
      refine Fin.then_exit ?_
      refine Fin.block_exit ?_
      exact Fin.join [0, 2, 3, 11, 12] [1] (u_4, carry_5, borrow_6) rfl rfl
  · rintro ⟨u_1, carry_2, borrow_3⟩ hv
    subst v1
    refine Tri.seq ?_
    refine Tri.regionL ?_
    refine OpsL.cons rfl (op_move rfl) ?_
    refine OpsL.cons rfl (op_move rfl) ?_
    refine OpsL.cons rfl (op_move rfl) ?_
    refine OpsL.cons rfl (op_add rfl rfl) ?_
    refine OpsL.cons rfl (op_nilCheck_p rfl) ?_
    obtain ⟨x_20, e9, h⟩ := bnd h
    refine OpsL.cons rfl (op_index_p tyArr100 (ix_lo e9) (ix_hi e9) rfl rfl rfl) ?_
    refine OpsL.cons rfl (op_load_p1 tyOne22 rfl rfl (arr_get (post := []) (k := .u32) [] e9 rfl rfl rfl)) ?_
    refine OpsL.keep [0, 2, 3, 11, 12, 61] [1] (s' := ⟨[(0, .b (.ptr 1 0)), (2, I n0), (3, I j0), (11, .b (.one (.int .u64 carry_2))), (12, .b (.one (.int .u64 borrow_3))), (61, .b (.one (.int .u32 x_20)))], [(1, .box 100 ((eA17 .u32) u_1))]⟩) rfl ?_
    refine OpsL.cons rfl (op_conv_wrap undi22 undi63 rfl) ?_
    refine OpsL.cons rfl (op_move rfl) ?_
    refine OpsL.consI .u64 h rfl (op_sub rfl rfl) (fun x_21 h => ?_)
    refine OpsL.cons rfl (op_move rfl) ?_
    refine OpsL.cons rfl (op_sub rfl rfl) ?_
    refine OpsL.cons rfl (op_assign rfl) ?_
    refine OpsL.nilK [0, 2, 3, 15] [1] (s' := ⟨[(0, .b (.ptr 1 0)), (2, I n0), (3, I j0), (15, .b (.one (.int .u64 (IntKind.u64.wrap (x_21 - borrow_3)))))], [(1, .box 100 ((eA17 .u32) u_1))]⟩) rfl ?_
    refine Tri.seq ?_
    refine Tri.regionL ?_
    refine OpsL.cons rfl (op_move rfl) ?_
    refine OpsL.cons rfl (op_move rfl) ?_
    refine OpsL.cons rfl (op_move rfl) ?_
    refine OpsL.cons rfl (op_add rfl rfl) ?_
    refine OpsL.cons rfl (op_move rfl) ?_
    refine OpsL.consI .u32 h rfl (op_conv_wrap undi63 undi22 rfl) (fun x_22 h => ?_)
    refine OpsL.cons rfl (op_nilCheck_p rfl) ?_
    obtain ⟨x_23, e10, h⟩ := bnd h
    refine OpsL.cons rfl (op_index_p tyArr100 (ix_lo e10) (ix_hi e10) rfl rfl rfl) ?_
    refine OpsL.cons rfl (op_store_p1 tyOne22 rfl rfl rfl (arr_lt (post := []) (k := .u32) [] e10 rfl rfl rfl) (arr_set (post := []) (k := .u32) [] e10 rfl rfl (A17.set_l u_1 (IntKind.i64.wrap (j0 + n0)) x_22) rfl rfl)) ?_
    refine OpsL.nilK [15] [1] (s' := ⟨[(15, .b (.one (.int .u64 (IntKind.u64.wrap (x_21 - borrow_3)))))], [(1, .box 100 ((eA17 .u32) (u_1.set (IntKind.i64.wrap (j0 + n0)) x_22)))]⟩) rfl ?_
    refine Tri.seq ?_
    refine Tri.regionL ?_
    refine OpsL.cons rfl (op_move rfl) ?_
    refine OpsL.consI .u64 h rfl (op_shr2 (m := 63) (by decide) rfl rfl rfl) (fun x_24 h => ?_)
    refine OpsL.cons rfl (op_eql rfl rfl) ?_
    refine OpsL.cons rfl (op_assign rfl) ?_
    refine OpsL.nilK [10] [1] (s' := ⟨[(10, B (decide (x_24 = 1)))], [(1, .box 100 ((eA17 .u32) (u_1.set (IntKind.i64.wrap (j0 + n0)) x_22)))]⟩) rfl ?_
    refine Tri.ret ?_
    obtain rfl := Option.some.inj h
    refine Fin.keep [10] [1] (s' := ⟨[(10, B (decide (x_24 = 1)))], [(1, .box 100 ((eA17 .u32) (u_1.set (IntKind.i64.wrap (j0 + n0)) x_22)))]⟩) rfl ?_
    refine Fin.keep [10] [1] (s' := ⟨[(10, B (decide (x_24 = 1)))], [(1, .box 100 ((eA17 .u32) (u_1.set (IntKind.i64.wrap (j0 + n0)) x_22)))]⟩) rfl ?_
    exact Fin.result [.one (.bool (decide (x_24 = 1)))] (.inl rfl) rfl (.cons (.tmp rfl) .nil) ⟨rfl, rfl⟩

def whole_give_S (F : Nat) (v0 : A16) (n0 : Int) (j0 : Int) (u0v : A17) : Option A17 :=
 Option.bind (iter F (un3 fun u_3 carry_4 x_5 => if (decide (x_5 < n0)) = true then (Option.bind (idx? u_3.l (IntKind.i64.wrap (j0 + x_5))) (fun x_8 => Option.bind (idx? v0.l x_5) (fun x_9 => letN (IntKind.u64.wrap (carry_4 + (IntKind.u64.wrap ((IntKind.u64.wrap x_8) + (IntKind.u64.wrap x_9))))) fun x_10 => Option.bind (idx? u_3.l (IntKind.i64.wrap (j0 + x_5))) (fun x_11 => letN (IntKind.u64.wrap (carry_4 + (IntKind.u64.wrap ((IntKind.u64.wrap x_8) + (IntKind.u64.wrap x_9))))) fun x_12 => some (.inl (u_3.set (IntKind.i64.wrap (j0 + x_5)) (IntKind.u32.wrap x_10), x_12 / 4294967296, IntKind.i64.wrap (x_5 + 1))))))) else (some (.inr (u_3, carry_4)))) (u0v, 0, 0)) (un2 fun u_1 carry_2 => Option.bind (idx? u_1.l (IntKind.i64.wrap (j0 + n0))) (fun x_13 => Option.bind (idx? u_1.l (IntKind.i64.wrap (j0 + n0))) (fun x_14 => some (u_1.set (IntKind.i64.wrap (j0 + n0)) (IntKind.u32.wrap (x_13 + (IntKind.u32.wrap carry_2)))))))
theorem whole_give_spec {F : Nat} {v0 : A16} {n0 : Int} {j0 : Int} {u0v : A17} {r : A17} (h : whole_give_S F v0 n0 j0 u0v = some r) : Meets Tryd.prog tabs 88 [(1, .box 100 ((eA17 .u32) u0v))] [.ptr 1 0, .agg ((eA16 .u32) v0), .one (.i n0), .one (.i j0)] (Is [(1, .box 100 ((eA17 .u32) r))] (.tup [])) := by
  unfold whole_give_S at h
  refine Meets.intro 52 Tryd.func88 Tryd.ntmps88 rfl (by simp) fun E => ?_
  show Tri _ E ⟨52, [1], [1]⟩ _ ⟨[(0, .b (.ptr 1 0)), (1, .b (.agg ((eA16 .u32) v0))), (2, I n0), (3, I j0)], [(1, .box 100 ((eA17 .u32) u0v))]⟩ _
  refine Tri.seq ?_
  refine Tri.regionL ?_
  refine OpsL.cons rfl (op_box (k := 101) rfl rfl) ?_
  refine OpsL.nilK [0, 2, 3, 5] [1, 101] (s' := ⟨[(0, .b (.ptr 1 0)), (2, I n0), (3, I j0), (5, .b (.ptr 101 0))], [(1, .box 100 ((eA17 .u32) u0v)), (101, .box 23 ((eA16 .u32) v0))]⟩) rfl ?_
  refine Tri.seq ?_
  refine Tri.regionL ?_
  refine OpsL.cons rfl (op_assign rfl) ?_
  refine OpsL.nilK [0, 2, 3, 5, 8] [1, 101] (s' := ⟨[(0, .b (.ptr 1 0)), (2, I n0), (3, I j0), (5, .b (.ptr 101 0)), (8, .b (.one (.int .u64 0)))], [(1, .box 100 ((eA17 .u32) u0v)), (101, .box 23 ((eA16 .u32) v0))]⟩) rfl ?_
  obtain ⟨v1, h2, h⟩ := bnd h
  refine Tri.seqJ (v := v1) (un2 fun (u_1 : A17) (carry_2 : Int) => ⟨[(0, .b (.ptr 1 0)), (2, I n0), (3, I j0), (8, .b (.one (.int .u64 carry_2)))], [(1, .box 100 ((eA17 .u32) u_1))]⟩) (fun z => z) ?_ ?_
  · refine Tri.seq ?_
    refine Tri.regionL ?_
    refine OpsL.cons rfl (op_move rfl) ?_
    refine OpsL.cons rfl (op_move rfl) ?_
    refine OpsL.nilK [0, 2, 3, 5, 8, 10, 11] [1, 101] (s' := ⟨[(0, .b (.ptr 1 0)), (2, I n0), (3, I j0), (5, .b (.ptr 101 0)), (8, .b (.one (.int .u64 0))), (10, I n0), (11, I 0)], [(1, .box 100 ((eA17 .u32) u0v)), (101, .box 23 ((eA16 .u32) v0))]⟩) rfl ?_
    refine Tri.block ?_
    refine Tri.loopJ h2 (un3 fun (u_3 : A17) (carry_4 : Int) (x_5 : Int) => ⟨[(0, .b (.ptr 1 0)), (2, I n0), (3, I j0), (5, .b (.ptr 101 0)), (8, .b (.one (.int .u64 carry_4))), (10, I n0), (11, I x_5)], [(1, .box 100 ((eA17 .u32) u_3)), (101, .box 23 ((eA16 .u32) v0))]⟩) [0, 2, 3, 5, 8, 10, 11] [1, 101] rfl ?_
    rintro ⟨u_3, carry_4, x_5⟩ o3 h4 hy5
    refine Tri.seq ?_
    refine Tri.regionL ?_
    refine OpsL.cons rfl (op_lss rfl rfl) ?_
    refine OpsL.nilK [0, 2, 3, 5, 8, 10, 11, 12] [1, 101] (s' := ⟨[(0, .b (.ptr 1 0)), (2, I n0), (3, I j0), (5, .b (.ptr 101 0)), (8, .b (.one (.int .u64 carry_4))), (10, I n0), (11, I x_5), (12, B (decide (x_5 < n0)))], [(1, .box 100 ((eA17 .u32) u_3)), (101, .box 23 ((eA16 .u32) v0))]⟩) rfl ?_
    refine Tri.seq ?_
    refine Tri.ite h4 rfl (fun _ h4 => ?_) (fun _ h4 => ?_)
    · refine Tri.skip ?_
      refine Fin.keep [0, 2, 3, 5, 8, 10, 11] [1, 101] (s' := ⟨[(0, .b (.ptr 1 0)), (2, I n0), (3, I j0), (5, .b (.ptr 101 0)), (8, .b (.one (.int .u64 carry_4))), (10, I n0), (11, I x_5)], [(1, .box 100 ((eA17 .u32) u_3)), (101, .box 23 ((eA16 .u32) v0))]⟩) rfl ?_
      refine Fin.then ?_
      refine Tri.seq ?_
      refine Tri.block ?_
      refine Tri.seq ?_
      refine Tri.regionL ?_
      refine OpsL.cons rfl (op_move rfl) ?_
      refine OpsL.cons rfl (op_assign rfl) ?_
      refine OpsL.nilK [0, 2, 3, 5, 8, 9, 10, 11] [1, 101] (s' := ⟨[(0, .b (.ptr 1 0)), (2, I n0), (3, I j0), (5, .b (.ptr 101 0)), (8, .b (.one (.int .u64 carry_4))), (9, I x_5), (10, I n0), (11, I x_5)], [(1, .box 100 ((eA17 .u32) u_3)), (101, .box 23 ((eA16 .u32) v0))]⟩) rfl ?_
      refine Tri.seq ?_
      refine Tri.keep [0, 2, 3, 5, 8, 9, 10, 11] [1, 101] (s' := ⟨[(0, .b (.ptr 1 0)), (2, I n0), (3, I j0), (5, .b (.ptr 101 0)), (8, .b (.one (.int .u64 carry_4))), (9, I x_5), (10, I n0), (11, I x_5)], [(1, .box 100 ((eA17 .u32) u_3)), (101, .box 23 ((eA16 .u32) v0))]⟩) rfl ?_
      obtain ⟨x_8, e6, h4⟩ := bnd h4
      obtain ⟨x_9, e7, h4⟩ := bnd h4
      refine Tri.regionY mixed 15 [.b (.one (.int .u64 carry_4)), .b (.ptr 1 0), I j0, I x_5, I (IntKind.i64.wrap (j0 + x_5)), .b (.ptr 1 0), .b (.ptr 1 (0 + (IntKind.i64.wrap (j0 + x_5) : Int).toNat * 1)), .b (.one (.int .u32 x_8)), .b (.one (.int .u64 (IntKind.u64.wrap x_8))), I x_5, .b (.ptr 101 (0 + (x_5 : Int).toNat * 1)), .b (.one (.int .u32 x_9)), .b (.one (.int .u64 (IntKind.u64.wrap x_9))), .b (.one (.int .u64 (IntKind.u64.wrap ((IntKind.u64.wrap x_8) + (IntKind.u64.wrap x_9))))), .b (.one (.int .u64 (IntKind.u64.wrap (carry_4 + (IntKind.u64.wrap ((IntKind.u64.wrap x_8) + (IntKind.u64.wrap x_9)))))))] [0, 2, 3, 5, 8, 9, 10, 11] [1, 101] (s' := ⟨[(0, .b (.ptr 1 0)), (2, I n0), (3, I j0), (5, .b (.ptr 101 0)), (8, .b (.one (.int .u64 (IntKind.u64.wrap (carry_4 + (IntKind.u64.wrap ((IntKind.u64.wrap x_8) + (IntKind.u64.wrap x_9)))))))), (9, I x_5), (10, I n0), (11, I x_5)], [(1, .box 100 ((eA17 .u32) u_3)), (101, .box 23 ((eA16 .u32) v0))]⟩) rfl ⟨fun _ => .plain rfl (op_move rfl), fun _ => .plain rfl (op_move rfl), fun _ => .plain rfl (op_move rfl), fun _ => .plain rfl (op_move rfl), fun _ => .plain rfl (op_add rfl rfl), fun _ => .plain rfl (op_nilCheck_p rfl), fun _ => .plain rfl (op_index_p tyArr100 (ix_lo e6) (ix_hi e6) rfl rfl rfl), fun _ => .plain rfl (op_load_p1 tyOne22 rfl rfl (arr_get (post := []) (k := .u32) [] e6 rfl rfl rfl)), fun _ => .plain rfl (op_conv_wrap undi22 undi63 rfl), fun _ => .plain rfl (op_move rfl), fun _ => .plain rfl (op_index_p tyArr23 (ix_lo e7) (ix_hi e7) rfl rfl rfl), fun _ => .plain rfl (op_load_p1 tyOne22 rfl rfl (arr_get (post := []) (k := .u32) [] e7 rfl rfl rfl)), fun _ => .plain rfl (op_conv_wrap undi22 undi63 rfl), fun _ => .plain rfl (op_add rfl rfl), fun _ => .plain rfl (op_add rfl rfl), trivial⟩ ⟨_, by exact .plain rfl (op_assign rfl), rfl⟩ rfl ?_
      refine Tri.seq ?_
      refine Tri.regionL ?_
      refine OpsL.cons rfl (op_move rfl) ?_
      refine OpsL.cons rfl (op_move rfl) ?_
      refine OpsL.cons rfl (op_move rfl) ?_
      refine OpsL.cons rfl (op_add rfl rfl) ?_
      refine OpsL.consI .u64 h4 rfl (op_move rfl) (fun x_10 h4 => ?_)
      refine OpsL.cons rfl (op_conv_wrap undi63 undi22 rfl) ?_
      refine OpsL.cons rfl (op_nilCheck_p rfl) ?_
      obtain ⟨x_11, e8, h4⟩ := bnd h4
      refine OpsL.cons rfl (op_index_p tyArr100 (ix_lo e8) (ix_hi e8) rfl rfl rfl) ?_
      refine OpsL.cons rfl (op_store_p1 tyOne22 rfl rfl rfl (arr_lt (post := []) (k := .u32) [] e8 rfl rfl rfl) (arr_set (post := []) (k := .u32) [] e8 rfl rfl (A17.set_l u_3 (IntKind.i64.wrap (j0 + x_5)) (IntKind.u32.wrap x_10)) rfl rfl)) ?_
      refine OpsL.nilK [0, 2, 3, 5, 8, 10, 11] [1, 101] (s' := ⟨[(0, .b (.ptr 1 0)), (2, I n0), (3, I j0), (5, .b (.ptr 101 0)), (8, .b (.one (.int .u64 (IntKind.u64.wrap (carry_4 + (IntKind.u64.wrap ((IntKind.u64.wrap x_8) + (IntKind.u64.wrap x_9)))))))), (10, I n0), (11, I x_5)], [(1, .box 100 ((eA17 .u32) (u_3.set (IntKind.i64.wrap (j0 + x_5)) (IntKind.u32.wrap x_10)))), (101, .box 23 ((eA16 .u32) v0))]⟩) rfl ?_
      refine Tri.regionL ?_
      refine OpsL.consI .u64 h4 rfl (op_move rfl) (fun x_12 h4 => ?_)
      refine OpsL.cons rfl (op_shr2 (m := 32) (by decide) rfl rfl rfl) ?_
      refine OpsL.cons rfl (op_assign rfl) ?_
      refine OpsL.nil ?_
      refine Fin.block_normal ?_
      refine Fin.keep [0, 2, 3, 5, 8, 10, 11] [1, 101] (s' := ⟨[(0, .b (.ptr 1 0)), (2, I n0), (3, I j0), (5, .b (.ptr 101 0)), (8, .b (.one (.int .u64 (x_12 / 4294967296)))), (10, I n0), (11, I x_5)], [(1, .box 100 ((eA17 .u32) (u_3.set (IntKind.i64.wrap (j0 + x_5)) (IntKind.u32.wrap x_10)))), (101, .box 23 ((eA16 .u32) v0))]⟩) rfl ?_
      refine Fin.then ?_
      refine Tri.regionL ?_
      refine OpsL.cons rfl (op_add rfl rfl) ?_
      refine OpsL.cons rfl (op_move rfl) ?_
      refine OpsL.nil ?_
      exact Fin.againJ [0, 2, 3, 5, 8, 10, 11] [1, 101] (u_3.set (IntKind.i64.wrap (j0 + x_5)) (IntKind.u32.wrap x_10), x_12 / 4294967296, IntKind.i64.wrap (x_5 + 1)) (Option.some.inj h4) rfl
    · refine Tri.exit ?_
      refine Fin.then_exit ?_
      obtain rfl := hy5 _ (Option.some.inj h4).symm
      refine Fin.then_exit ?_
      refine Fin.block_exit ?_
      exact Fin.join [0, 2, 3, 8] [1] (u_3, carry_4) rfl rfl
  · rintro ⟨u_1, carry_2⟩ hv
    subst v1
    refine Tri.keep [0, 2, 3, 8] [1] (s' := ⟨[(0, .b (.ptr 1 0)), (2, I n0), (3, I j0), (8, .b (.one (.int .u64 carry_2)))], [(1, .box 100 ((eA17 .u32) u_1))]⟩) rfl ?_
    obtain ⟨x_13, e9, h⟩ := bnd h
    obtain ⟨x_14, e10, h⟩ := bnd h
    refine Tri.regionYF mixed 12 [.b (.ptr 1 0), I j0, I n0, I (IntKind.i64.wrap (j0 + n0)), .b (.ptr 1 0), .b (.ptr 1 (0 + (IntKind.i64.wrap (j0 + n0) : Int).toNat * 1)), .b (.one (.int .u32 x_13)), .b (.one (.int .u64 carry_2)), .b (.one (.int .u32 (IntKind.u32.wrap carry_2))), .b (.one (.int .u32 (IntKind.u32.wrap (x_13 + (IntKind.u32.wrap carry_2))))), .b (.ptr 1 0), .b (.ptr 1 (0 + (IntKind.i64.wrap (j0 + n0) : Int).toNat * 1))] [] [1] (s' := ⟨[], [(1, .box 100 ((eA17 .u32) (u_1.set (IntKind.i64.wrap (j0 + n0)) (IntKind.u32.wrap (x_13 + (IntKind.u32.wrap carry_2))))))]⟩) rfl ⟨fun _ => .plain rfl (op_move rfl), fun _ => .plain rfl (op_move rfl), fun _ => .plain rfl (op_move rfl), fun _ => .plain rfl (op_add rfl rfl), fun _ => .plain rfl (op_nilCheck_p rfl), fun _ => .plain rfl (op_index_p tyArr100 (ix_lo e9) (ix_hi e9) rfl rfl rfl), fun _ => .plain rfl (op_load_p1 tyOne22 rfl rfl (arr_get (post := []) (k := .u32) [] e9 rfl rfl rfl)), fun _ => .plain rfl (op_move rfl), fun _ => .plain rfl (op_conv_wrap undi63 undi22 rfl), fun _ => .plain rfl (op_add rfl rfl), fun _ => .plain rfl (op_nilCheck_p rfl), fun _ => .plain rfl (op_index_p tyArr100 (ix_lo e10) (ix_hi e10) rfl rfl rfl), trivial⟩ ⟨_, by exact .plain rfl (op_store_p1 tyOne22 rfl rfl rfl (arr_lt (post := []) (k := .u32) [] e10 rfl rfl rfl) (arr_set (post := []) (k := .u32) [] e10 rfl rfl (A17.set_l u_1 (IntKind.i64.wrap (j0 + n0)) (IntKind.u32.wrap (x_13 + (IntKind.u32.wrap carry_2)))) rfl rfl)), rfl⟩ rfl ?_
    obtain rfl := Option.some.inj h
    refine Fin.keep [] [1] (s' := ⟨[], [(1, .box 100 ((eA17 .u32) (u_1.set (IntKind.i64.wrap (j0 + n0)) (IntKind.u32.wrap (x_13 + (IntKind.u32.wrap carry_2))))))]⟩) rfl ?_
    refine Fin.keep [] [1] (s' := ⟨[], [(1, .box 100 ((eA17 .u32) (u_1.set (IntKind.i64.wrap (j0 + n0)) (IntKind.u32.wrap (x_13 + (IntKind.u32.wrap carry_2))))))]⟩) rfl ?_
    exact Fin.result [] (.inr rfl) rfl (.nil) ⟨rfl, rfl⟩

def whole_down_S (F : Nat) (w0 : A16) (n0 : Int) : Option A16 :=
 Option.bind (iter F (un2 fun out_2 x_3 => if (decide (x_3 < 16)) = true then (Option.bind (Option.bind (if (decide ((IntKind.i64.wrap (x_3 + 1)) < 16)) = true then (Option.bind (idx? w0.l (IntKind.i64.wrap (x_3 + 1))) (fun x_7 => some (IntKind.u64.wrap x_7))) else (some 0)) (fun next_6 => letN (IntKind.u64.wrap (next_6 * 4294967296)) fun x_8 => Option.bind (idx? w0.l x_3) (fun x_9 => Option.bind (shr? .u64 (ior .u64 x_8 (IntKind.u64.wrap x_9)) n0) (fun x_10 => Option.bind (idx? out_2.l x_3) (fun x_11 => some (out_2.set x_3 (IntKind.u32.wrap x_10))))))) (fun out_5 => some (.inl (out_5, IntKind.i64.wrap (x_3 + 1))))) else (some (.inr out_2))) (A16.zero, 0)) (fun out_1 => some out_1)
theorem whole_down_spec {F : Nat} {w0 : A16} {n0 : Int} {r : A16} (h : whole_down_S F w0 n0 = some r) : Meets Tryd.prog tabs 74 [] [.agg ((eA16 .u32) w0), .one (.i n0)] (Is [] (.b (.agg ((eA16 .u32) r)))) := by
  unfold whole_down_S at h
  refine Meets.intro 33 Tryd.func74 Tryd.ntmps74 rfl (by simp) fun E => ?_
  show Tri _ E ⟨33, [], []⟩ _ ⟨[(0, .b (.agg ((eA16 .u32) w0))), (1, I n0)], []⟩ _
  refine Tri.seq ?_
  refine Tri.regionL ?_
  refine OpsL.cons rfl (op_box (k := 101) rfl rfl) ?_
  refine OpsL.cons rfl (op_alloc (k := 102) tyZero23 rfl) ?_
  refine OpsL.nilK [1, 2, 4] [101, 102] (s' := ⟨[(1, I n0), (2, .b (.ptr 101 0)), (4, .b (.ptr 102 0))], [(101, .box 23 ((eA16 .u32) w0)), (102, .box 23 ((eA16 .u32) A16.zero))]⟩) rfl ?_
  refine Tri.seq ?_
  refine Tri.regionL ?_
  refine OpsL.cons rfl (op_alloc (k := 103) tyZero23 rfl) ?_
  refine OpsL.nilK [1, 2, 4, 5] [101, 102, 103] (s' := ⟨[(1, I n0), (2, .b (.ptr 101 0)), (4, .b (.ptr 102 0)), (5, .b (.ptr 103 0))], [(101, .box 23 ((eA16 .u32) w0)), (102, .box 23 ((eA16 .u32) A16.zero)), (103, .box 23 ((eA16 .u32) A16.zero))]⟩) rfl ?_
  obtain ⟨v1, h2, h⟩ := bnd h
  refine Tri.seqJ (v := v1) (fun (out_1 : A16) => ⟨[(4, .b (.ptr 102 0)), (5, .b (.ptr 103 0))], [(102, .box 23 ((eA16 .u32) A16.zero)), (103, .box 23 ((eA16 .u32) out_1))]⟩) (fun z => z) ?_ ?_
  · refine Tri.seq ?_
    refine Tri.regionL ?_
    refine OpsL.cons rfl (op_move rfl) ?_
    refine OpsL.nilK [1, 2, 4, 5, 8] [101, 102, 103] (s' := ⟨[(1, I n0), (2, .b (.ptr 101 0)), (4, .b (.ptr 102 0)), (5, .b (.ptr 103 0)), (8, I 0)], [(101, .box 23 ((eA16 .u32) w0)), (102, .box 23 ((eA16 .u32) A16.zero)), (103, .box 23 ((eA16 .u32) A16.zero))]⟩) rfl ?_
    refine Tri.block ?_
    refine Tri.loopJ h2 (un2 fun (out_2 : A16) (x_3 : Int) => ⟨[(1, I n0), (2, .b (.ptr 101 0)), (4, .b (.ptr 102 0)), (5, .b (.ptr 103 0)), (8, I x_3)], [(101, .box 23 ((eA16 .u32) w0)), (102, .box 23 ((eA16 .u32) A16.zero)), (103, .box 23 ((eA16 .u32) out_2))]⟩) [1, 2, 4, 5, 8] [101, 102, 103] rfl ?_
    rintro ⟨out_2, x_3⟩ o3 h4 hy5
    refine Tri.seq ?_
    refine Tri.regionL ?_
    refine OpsL.cons rfl (op_lss rfl rfl) ?_
    refine OpsL.nilK [1, 2, 4, 5, 8, 9] [101, 102, 103] (s' := ⟨[(1, I n0), (2, .b (.ptr 101 0)), (4, .b (.ptr 102 0)), (5, .b (.ptr 103 0)), (8, I x_3), (9, B (decide (x_3 < 16)))], [(101, .box 23 ((eA16 .u32) w0)), (102, .box 23 ((eA16 .u32) A16.zero)), (103, .box 23 ((eA16 .u32) out_2))]⟩) rfl ?_
    refine Tri.seq ?_
    refine Tri.ite h4 rfl (fun _ h4 => ?_) (fun _ h4 => ?_)
    · refine Tri.skip ?_
      refine Fin.keep [1, 2, 4, 5, 8] [101, 102, 103] (s' := ⟨[(1, I n0), (2, .b (.ptr 101 0)), (4, .b (.ptr 102 0)), (5, .b (.ptr 103 0)), (8, I x_3)], [(101, .box 23 ((eA16 .u32) w0)), (102, .box 23 ((eA16 .u32) A16.zero)), (103, .box 23 ((eA16 .u32) out_2))]⟩) rfl ?_
      refine Fin.then ?_
      obtain ⟨v6, h7, h4⟩ := bnd h4
      refine Tri.seqJ (v := v6) (fun (out_5 : A16) => ⟨[(1, I n0), (2, .b (.ptr 101 0)), (4, .b (.ptr 102 0)), (5, .b (.ptr 103 0)), (8, I x_3)], [(101, .box 23 ((eA16 .u32) w0)), (102, .box 23 ((eA16 .u32) A16.zero)), (103, .box 23 ((eA16 .u32) out_5))]⟩) (fun z => z) ?_ ?_
      · refine Tri.block ?_
        refine Tri.seq ?_
        refine Tri.regionL ?_
        refine OpsL.cons rfl (op_move rfl) ?_
        refine OpsL.cons rfl (op_assign rfl) ?_
        refine OpsL.nilK [1, 2, 4, 5, 6, 8] [101, 102, 103] (s' := ⟨[(1, I n0), (2, .b (.ptr 101 0)), (4, .b (.ptr 102 0)), (5, .b (.ptr 103 0)), (6, I x_3), (8, I x_3)], [(101, .box 23 ((eA16 .u32) w0)), (102, .box 23 ((eA16 .u32) A16.zero)), (103, .box 23 ((eA16 .u32) out_2))]⟩) rfl ?_
        refine Tri.seq ?_
        refine Tri.regionL ?_
        refine OpsL.cons rfl (op_assign rfl) ?_
        refine OpsL.nilK [1, 2, 4, 5, 6, 7, 8] [101, 102, 103] (s' := ⟨[(1, I n0), (2, .b (.ptr 101 0)), (4, .b (.ptr 102 0)), (5, .b (.ptr 103 0)), (6, I x_3), (7, .b (.one (.int .u64 0))), (8, I x_3)], [(101, .box 23 ((eA16 .u32) w0)), (102, .box 23 ((eA16 .u32) A16.zero)), (103, .box 23 ((eA16 .u32) out_2))]⟩) rfl ?_
        obtain ⟨v8, h9, h7⟩ := bnd h7
        refine Tri.seqJ (v := v8) (fun (next_6 : Int) => ⟨[(1, I n0), (2, .b (.ptr 101 0)), (4, .b (.ptr 102 0)), (5, .b (.ptr 103 0)), (6, I x_3), (7, .b (.one (.int .u64 next_6))), (8, I x_3)], [(101, .box 23 ((eA16 .u32) w0)), (102, .box 23 ((eA16 .u32) A16.zero)), (103, .box 23 ((eA16 .u32) out_2))]⟩) (fun z => z) ?_ ?_
        · refine Tri.seq ?_
          refine Tri.regionL ?_
          refine OpsL.cons rfl (op_move rfl) ?_
          refine OpsL.cons rfl (op_add rfl rfl) ?_
          refine OpsL.cons rfl (op_lss rfl rfl) ?_
          refine OpsL.nilK [1, 2, 4, 5, 6, 7, 8, 13] [101, 102, 103] (s' := ⟨[(1, I n0), (2, .b (.ptr 101 0)), (4, .b (.ptr 102 0)), (5, .b (.ptr 103 0)), (6, I x_3), (7, .b (.one (.int .u64 0))), (8, I x_3), (13, B (decide ((IntKind.i64.wrap (x_3 + 1)) < 16)))], [(101, .box 23 ((eA16 .u32) w0)), (102, .box 23 ((eA16 .u32) A16.zero)), (103, .box 23 ((eA16 .u32) out_2))]⟩) rfl ?_
          refine Tri.ite h9 rfl (fun _ h9 => ?_) (fun _ h9 => ?_)
          · refine Tri.regionL ?_
            refine OpsL.cons rfl (op_move rfl) ?_
            refine OpsL.cons rfl (op_add rfl rfl) ?_
            obtain ⟨x_7, e10, h9⟩ := bnd h9
            refine OpsL.cons rfl (op_index_p tyArr23 (ix_lo e10) (ix_hi e10) rfl rfl rfl) ?_
            refine OpsL.cons rfl (op_load_p1 tyOne22 rfl rfl (arr_get (post := []) (k := .u32) [] e10 rfl rfl rfl)) ?_
            refine OpsL.cons rfl (op_conv_wrap undi22 undi63 rfl) ?_
            refine OpsL.cons rfl (op_assign rfl) ?_
            refine OpsL.nil ?_
            exact Fin.join [1, 2, 4, 5, 6, 7, 8] [101, 102, 103] (IntKind.u64.wrap x_7) (Option.some.inj h9) rfl
          · refine Tri.skip ?_
            exact Fin.join [1, 2, 4, 5, 6, 7, 8] [101, 102, 103] 0 (Option.some.inj h9) rfl
        · rintro next_6 hv
          subst v8
          refine Tri.regionL ?_
          refine OpsL.cons rfl (op_move rfl) ?_
          refine OpsL.cons rfl (op_move rfl) ?_
          refine OpsL.consI .u64 h7 rfl (op_shl0 (m := 32) (q := 4294967296) (by decide) rfl rfl (by decide)) (fun x_8 h7 => ?_)
          refine OpsL.cons rfl (op_move rfl) ?_
          obtain ⟨x_9, e11, h7⟩ := bnd h7
          refine OpsL.cons rfl (op_index_p tyArr23 (ix_lo e11) (ix_hi e11) rfl rfl rfl) ?_
          refine OpsL.cons rfl (op_load_p1 tyOne22 rfl rfl (arr_get (post := []) (k := .u32) [] e11 rfl rfl rfl)) ?_
          refine OpsL.cons rfl (op_conv_wrap undi22 undi63 rfl) ?_
          refine OpsL.keep [1, 2, 4, 5, 8, 19, 21, 25] [101, 102, 103] (s' := ⟨[(1, I n0), (2, .b (.ptr 101 0)), (4, .b (.ptr 102 0)), (5, .b (.ptr 103 0)), (8, I x_3), (19, I x_3), (21, .b (.one (.int .u64 x_8))), (25, .b (.one (.int .u64 (IntKind.u64.wrap x_9))))], [(101, .box 23 ((eA16 .u32) w0)), (102, .box 23 ((eA16 .u32) A16.zero)), (103, .box 23 ((eA16 .u32) out_2))]⟩) rfl ?_
          refine OpsL.cons rfl (op_or rfl rfl) ?_
          refine OpsL.cons rfl (op_move rfl) ?_
          obtain ⟨x_10, e12, h7⟩ := bnd h7
          refine OpsL.cons rfl (op_shr3 e12 rfl rfl) ?_
          refine OpsL.cons rfl (op_conv_wrap undi63 undi22 rfl) ?_
          obtain ⟨x_11, e13, h7⟩ := bnd h7
          refine OpsL.cons rfl (op_index_p tyArr23 (ix_lo e13) (ix_hi e13) rfl rfl rfl) ?_
          refine OpsL.cons rfl (op_store_p1 tyOne22 rfl rfl rfl (arr_lt (post := []) (k := .u32) [] e13 rfl rfl rfl) (arr_set (post := []) (k := .u32) [] e13 rfl rfl (A16.set_l out_2 x_3 (IntKind.u32.wrap x_10)) rfl rfl)) ?_
          refine OpsL.nil ?_
          refine Fin.block_normal ?_
          exact Fin.join [1, 2, 4, 5, 8] [101, 102, 103] (out_2.set x_3 (IntKind.u32.wrap x_10)) (Option.some.inj h7) rfl
      · rintro out_5 hv
        subst v6
        refine Tri.regionL ?_
        refine OpsL.cons rfl (op_add rfl rfl) ?_
        refine OpsL.cons rfl (op_move rfl) ?_
        refine OpsL.nil ?_
        exact Fin.againJ [1, 2, 4, 5, 8] [101, 102, 103] (out_5, IntKind.i64.wrap (x_3 + 1)) (Option.some.inj h4) rfl
    · refine Tri.exit ?_
      refine Fin.then_exit ?_
      obtain rfl := hy5 _ (Option.some.inj h4).symm
      refine Fin.then_exit ?_
      refine Fin.block_exit ?_
      exact Fin.join [4, 5] [102, 103] out_2 rfl rfl
  · rintro out_1 hv
    subst v1
    refine Tri.seq ?_
    refine Tri.regionL ?_
    refine OpsL.cons rfl (op_load_p tyAgg23 rfl rfl rfl rfl) ?_
    refine OpsL.cons rfl (op_store_p tyAgg23 rfl rfl rfl rfl (Nat.le_of_ble_eq_true rfl) rfl) ?_
    refine OpsL.nilK [4] [102] (s' := ⟨[(4, .b (.ptr 102 0))], [(102, .box 23 ((eA16 .u32) out_1))]⟩) rfl ?_
    refine Tri.ret ?_
    obtain rfl := Option.some.inj h
    refine Fin.keep [4] [102] (s' := ⟨[(4, .b (.ptr 102 0))], [(102, .box 23 ((eA16 .u32) out_1))]⟩) rfl ?_
    refine Fin.result' [.agg ((eA16 .u32) out_1)] (.inl rfl) rfl (.cons (.agg tyAgg23 rfl rfl rfl rfl) .nil) ⟨rfl, rfl⟩

def whole_quotient_S (F : Nat) (a0 : A16) (b0 : A16) : Option (A16 × A16) :=
 Option.bind (whole_size_S F b0) (fun x_1 => Option.bind (whole_size_S F a0) (fun x_2 => Option.bind (whole_order_S F a0 b0) (fun x_3 => if (decide (x_3 < 0)) = true then (some (A16.zero, a0)) else (if (decide (x_1 = 1)) = true then (Option.bind (whole_short_S F a0 b0.a0) (un2 fun x_4 x_5 => letN (⟨x_5, 0, 0, 0, 0, 0, 0, 0, 0, 0, 0, 0, 0, 0, 0, 0⟩ : A16) fun x_6 => some (x_4, x_6))) else (Option.bind (idx? b0.l (IntKind.i64.wrap (x_1 - 1))) (fun x_7 => Option.bind (bits_LeadingZeros32_S F x_7) (fun x_8 => Option.bind (whole_up_S F b0 x_8) (un2 fun x_9 x_10 => Option.bind (whole_up_S F a0 x_8) (un2 fun x_11 x_12 => Option.bind (iter F (un3 fun q_15 u_16 j_17 => if (decide (0 ≤ j_17)) = true then (Option.bind (Option.bind (whole_guess_S F x_9 x_1 j_17 u_16) (fun x_22 => Option.bind (Option.bind (whole_take_S F x_9 x_1 j_17 x_22 u_16) (un2 fun x_25 x_26 => if x_25 = true then (Option.bind (whole_give_S F x_9 x_1 j_17 x_26) (fun x_27 => some (x_27, IntKind.u64.wrap (x_22 - 1)))) else (some (x_26, x_22)))) (un2 fun u_23 d_24 => Option.bind (idx? q_15.l j_17) (fun x_28 => some (q_15.set j_17 (IntKind.u32.wrap d_24), u_23))))) (un2 fun q_20 u_21 => some (.inl (q_20, u_21, IntKind.i64.wrap (j_17 - 1))))) else (some (.inr (q_15, u_16)))) (A16.zero, (⟨(A17.of (spliceE A17.zero.l 0 ((x_11.l.drop 0).take 16))).a0, (A17.of (spliceE A17.zero.l 0 ((x_11.l.drop 0).take 16))).a1, (A17.of (spliceE A17.zero.l 0 ((x_11.l.drop 0).take 16))).a2, (A17.of (spliceE A17.zero.l 0 ((x_11.l.drop 0).take 16))).a3, (A17.of (spliceE A17.zero.l 0 ((x_11.l.drop 0).take 16))).a4, (A17.of (spliceE A17.zero.l 0 ((x_11.l.drop 0).take 16))).a5, (A17.of (spliceE A17.zero.l 0 ((x_11.l.drop 0).take 16))).a6, (A17.of (spliceE A17.zero.l 0 ((x_11.l.drop 0).take 16))).a7, (A17.of (spliceE A17.zero.l 0 ((x_11.l.drop 0).take 16))).a8, (A17.of (spliceE A17.zero.l 0 ((x_11.l.drop 0).take 16))).a9, (A17.of (spliceE A17.zero.l 0 ((x_11.l.drop 0).take 16))).a10, (A17.of (spliceE A17.zero.l 0 ((x_11.l.drop 0).take 16))).a11, (A17.of (spliceE A17.zero.l 0 ((x_11.l.drop 0).take 16))).a12, (A17.of (spliceE A17.zero.l 0 ((x_11.l.drop 0).take 16))).a13, (A17.of (spliceE A17.zero.l 0 ((x_11.l.drop 0).take 16))).a14, (A17.of (spliceE A17.zero.l 0 ((x_11.l.drop 0).take 16))).a15, x_12⟩ : A17), IntKind.i64.wrap (x_2 - x_1))) (un2 fun q_13 u_14 => Option.bind (whole_down_S F (⟨u_14.a0, u_14.a1, u_14.a2, u_14.a3, u_14.a4, u_14.a5, u_14.a6, u_14.a7, u_14.a8, u_14.a9, u_14.a10, u_14.a11, u_14.a12, u_14.a13, u_14.a14, u_14.a15⟩ : A16) x_8) (fun x_29 => some (q_13, x_29))))))))))))
theorem whole_quotient_spec {F : Nat} {a0 : A16} {b0 : A16} {r : A16 × A16} (h : whole_quotient_S F a0 b0 = some r) : Meets Tryd.prog tabs 71 [] [.agg ((eA16 .u32) a0), .agg ((eA16 .u32) b0)] (Is [] (.tup [.agg ((eA16 .u32) r.1), .agg ((eA16 .u32) r.2)])) := by
  unfold whole_quotient_S at h
  refine Meets.intro 94 Tryd.func71 Tryd.ntmps71 rfl (by simp) fun E => ?_
  show Tri _ E ⟨94, [], []⟩ _ ⟨[(0, .b (.agg ((eA16 .u32) a0))), (1, .b (.agg ((eA16 .u32) b0)))], []⟩ _
  refine Tri.seq ?_
  refine Tri.regionL ?_
  refine OpsL.cons rfl (op_box (k := 101) rfl rfl) ?_
  refine OpsL.cons rfl (op_box (k := 102) rfl rfl) ?_
  refine OpsL.cons rfl (op_alloc (k := 103) tyZero23 rfl) ?_
  refine OpsL.cons rfl (op_alloc (k := 104) tyZero23 rfl) ?_
  refine OpsL.nilK [2, 3, 4, 5] [101, 102, 103, 104] (s' := ⟨[(2, .b (.ptr 101 0)), (3, .b (.ptr 102 0)), (4, .b (.ptr 103 0)), (5, .b (.ptr 104 0))], [(101, .box 23 ((eA16 .u32) a0)), (102, .box 23 ((eA16 .u32) b0)), (103, .box 23 ((eA16 .u32) A16.zero)), (104, .box 23 ((eA16 .u32) A16.zero))]⟩) rfl ?_
  refine Tri.seq ?_
  refine Tri.keep [2, 3, 4, 5] [101, 102, 103, 104] (s' := ⟨[(2, .b (.ptr 101 0)), (3, .b (.ptr 102 0)), (4, .b (.ptr 103 0)), (5, .b (.ptr 104 0))], [(101, .box 23 ((eA16 .u32) a0)), (102, .box 23 ((eA16 .u32) b0)), (103, .box 23 ((eA16 .u32) A16.zero)), (104, .box 23 ((eA16 .u32) A16.zero))]⟩) rfl ?_
  obtain ⟨x_1, e1, h⟩ := bnd h
  obtain ⟨x_2, e2, h⟩ := bnd h
  refine Tri.regionY mixed 6 [.b (.agg ((eA16 .u32) b0)), I x_1, .b (.agg ((eA16 .u32) a0)), I x_2, I x_1, I x_2] [2, 3, 4, 5, 6, 7] [101, 102, 103, 104] (s' := ⟨[(2, .b (.ptr 101 0)), (3, .b (.ptr 102 0)), (4, .b (.ptr 103 0)), (5, .b (.ptr 104 0)), (6, I x_1), (7, I x_2)], [(101, .box 23 ((eA16 .u32) a0)), (102, .box 23 ((eA16 .u32) b0)), (103, .box 23 ((eA16 .u32) A16.zero)), (104, .box 23 ((eA16 .u32) A16.zero))]⟩) rfl ⟨fun _ => .plain rfl (op_load_p tyAgg23 rfl rfl rfl rfl), fun _ => .plain rfl (op_call0 (whole_size_spec e1) goes57 rfl rfl), fun _ => .plain rfl (op_load_p tyAgg23 rfl rfl rfl rfl), fun _ => .plain rfl (op_call0 (whole_size_spec e2) goes57 rfl rfl), fun _ => .plain rfl (op_assign rfl), fun _ => .plain rfl (op_assign rfl), trivial⟩ rfl rfl ?_
  refine Tri.seq ?_
  refine Tri.seq ?_
  refine Tri.regionL ?_
  refine OpsL.cons rfl (op_load_p tyAgg23 rfl rfl rfl rfl) ?_
  refine OpsL.cons rfl (op_load_p tyAgg23 rfl rfl rfl rfl) ?_
  obtain ⟨x_3, e3, h⟩ := bnd h
  refine OpsL.cons rfl (op_call0 (whole_order_spec e3) goes47 rfl rfl) ?_
  refine OpsL.cons rfl (op_lss rfl rfl) ?_
  refine OpsL.nilK [2, 3, 4, 5, 6, 7, 25] [101, 102, 103, 104] (s' := ⟨[(2, .b (.ptr 101 0)), (3, .b (.ptr 102 0)), (4, .b (.ptr 103 0)), (5, .b (.ptr 104 0)), (6, I x_1), (7, I x_2), (25, B (decide (x_3 < 0)))], [(101, .box 23 ((eA16 .u32) a0)), (102, .box 23 ((eA16 .u32) b0)), (103, .box 23 ((eA16 .u32) A16.zero)), (104, .box 23 ((eA16 .u32) A16.zero))]⟩) rfl ?_
  refine Tri.ite h rfl (fun _ h => ?_) (fun _ h => ?_)
  · refine Tri.seq ?_
    refine Tri.keep [2, 4, 5] [101, 103, 104] (s' := ⟨[(2, .b (.ptr 101 0)), (4, .b (.ptr 103 0)), (5, .b (.ptr 104 0))], [(101, .box 23 ((eA16 .u32) a0)), (103, .box 23 ((eA16 .u32) A16.zero)), (104, .box 23 ((eA16 .u32) A16.zero))]⟩) rfl ?_
    refine Tri.regionW mixed [false, false, true, true] [.b (.agg ((eA16 .u32) A16.zero)), .b (.agg ((eA16 .u32) a0)), B true, B true] [⟨[false, false, false, false], [(2, .b (.ptr 101 0)), (4, .b (.ptr 103 0)), (5, .b (.ptr 104 0))], [(101, .box 23 ((eA16 .u32) a0)), (103, .box 23 ((eA16 .u32) A16.zero)), (104, .box 23 ((eA16 .u32) A16.zero))], [true, true, true, true], []⟩, ⟨[false, false, true, false], [(2, .b (.ptr 101 0)), (4, .b (.ptr 103 0)), (5, .b (.ptr 104 0))], [(101, .box 23 ((eA16 .u32) a0)), (103, .box 23 ((eA16 .u32) A16.zero)), (104, .box 23 ((eA16 .u32) A16.zero))], [true, true, true, true], [0, 2]⟩, ⟨[false, false, true, true], [(2, .b (.ptr 101 0)), (4, .b (.ptr 103 0)), (5, .b (.ptr 104 0))], [(101, .box 23 ((eA16 .u32) a0)), (103, .box 23 ((eA16 .u32) A16.zero)), (104, .box 23 ((eA16 .u32) a0))], [true, true, true, true], [0, 1, 2, 3]⟩] rfl (⟨by kernel_rfl, ⟨⟨.b (.agg ((eA16 .u32) A16.zero)), fun _ => rfl, fun _ => .plain rfl (by exact op_buildA tyBuild23 rfl rfl)⟩, ⟨.b (.agg ((eA16 .u32) a0)), fun _ => rfl, fun _ => .plain rfl (by exact op_load_p tyAgg23 rfl rfl rfl rfl)⟩, ⟨_, none, .b (.one .any), rfl, (fun e => by simp at e), rfl, rfl, fun _ => .toO [101, 103, 104] (by exact .plain rfl (by exact op_store_p tyAgg23 rfl rfl rfl rfl (Nat.le_of_ble_eq_true rfl) rfl)) (by exact rfl)⟩, trivial, trivial⟩, ⟨by kernel_rfl, ⟨trivial, ⟨.b (.agg ((eA16 .u32) a0)), fun _ => rfl, fun _ => .plain rfl (by exact op_load_p tyAgg23 rfl rfl rfl rfl)⟩, trivial, ⟨_, none, .b (.one .any), rfl, (fun e => by simp at e), rfl, rfl, fun _ => .toO [101, 103, 104] (by exact .plain rfl (by exact op_store_p tyAgg23 rfl rfl rfl rfl (Nat.le_of_ble_eq_true rfl) rfl)) (by exact rfl)⟩, trivial⟩, ⟨by kernel_rfl, ⟨trivial, trivial, trivial, trivial, trivial⟩, trivial⟩⟩⟩) rfl rfl rfl [4, 5] [103, 104] (s' := ⟨[(4, .b (.ptr 103 0)), (5, .b (.ptr 104 0))], [(103, .box 23 ((eA16 .u32) A16.zero)), (104, .box 23 ((eA16 .u32) a0))]⟩) rfl ?_
    refine Tri.ret ?_
    refine Fin.then_ret ?_
    obtain rfl := Option.some.inj h
    refine Fin.keep [4, 5] [103, 104] (s' := ⟨[(4, .b (.ptr 103 0)), (5, .b (.ptr 104 0))], [(103, .box 23 ((eA16 .u32) A16.zero)), (104, .box 23 ((eA16 .u32) a0))]⟩) rfl ?_
    refine Fin.result' [.agg ((eA16 .u32) A16.zero), .agg ((eA16 .u32) a0)] (.inl rfl) rfl (.cons (.agg tyAgg23 rfl rfl rfl rfl) (.cons (.agg tyAgg23 rfl rfl rfl rfl) .nil)) ⟨rfl, rfl⟩
  · refine Tri.skip ?_
    refine Fin.keep [2, 3, 4, 5, 6, 7] [101, 102, 103, 104] (s' := ⟨[(2, .b (.ptr 101 0)), (3, .b (.ptr 102 0)), (4, .b (.ptr 103 0)), (5, .b (.ptr 104 0)), (6, I x_1), (7, I x_2)], [(101, .box 23 ((eA16 .u32) a0)), (102, .box 23 ((eA16 .u32) b0)), (103, .box 23 ((eA16 .u32) A16.zero)), (104, .box 23 ((eA16 .u32) A16.zero))]⟩) rfl ?_
    refine Fin.then ?_
    refine Tri.seq ?_
    refine Tri.seq ?_
    refine Tri.regionL ?_
    refine OpsL.cons rfl (op_move rfl) ?_
    refine OpsL.cons rfl (op_eql rfl rfl) ?_
    refine OpsL.nilK [2, 3, 4, 5, 6, 7, 29] [101, 102, 103, 104] (s' := ⟨[(2, .b (.ptr 101 0)), (3, .b (.ptr 102 0)), (4, .b (.ptr 103 0)), (5, .b (.ptr 104 0)), (6, I x_1), (7, I x_2), (29, B (decide (x_1 = 1)))], [(101, .box 23 ((eA16 .u32) a0)), (102, .box 23 ((eA16 .u32) b0)), (103, .box 23 ((eA16 .u32) A16.zero)), (104, .box 23 ((eA16 .u32) A16.zero))]⟩) rfl ?_
    refine Tri.ite h rfl (fun _ h => ?_) (fun _ h => ?_)
    · refine Tri.seq ?_
      refine Tri.regionL ?_
      refine OpsL.cons rfl (op_load_p tyAgg23 rfl rfl rfl rfl) ?_
      refine OpsL.cons rfl (op_index_p tyArr23 (by decide) (by decide) rfl rfl rfl) ?_
      refine OpsL.cons rfl (op_load_p1 tyOne22 rfl rfl rfl) ?_
      obtain ⟨⟨x_4, x_5⟩, e4, h⟩ := bnd h
      refine OpsL.cons rfl (op_call0 (whole_short_spec e4) goes65 rfl rfl) ?_
      refine OpsL.cons rfl (op_move rfl) ?_
      refine OpsL.keep [4, 5, 30] [103, 104] (s' := ⟨[(4, .b (.ptr 103 0)), (5, .b (.ptr 104 0)), (30, .tup [.agg ((eA16 .u32) x_4), .one (.int .u32 x_5)])], [(103, .box 23 ((eA16 .u32) A16.zero)), (104, .box 23 ((eA16 .u32) A16.zero))]⟩) rfl ?_
      refine OpsL.cons rfl (op_extract rfl rfl) ?_
      refine OpsL.cons rfl (op_extract rfl rfl) ?_
      refine OpsL.cons rfl (op_alloc (k := 105) tyZero23 rfl) ?_
      refine OpsL.cons rfl (op_store_p tyAgg23 rfl rfl rfl rfl (Nat.le_of_ble_eq_true rfl) rfl) ?_
      refine OpsL.cons rfl (op_assign rfl) ?_
      refine OpsL.nilK [4, 5, 8, 9] [103, 104, 105] (s' := ⟨[(4, .b (.ptr 103 0)), (5, .b (.ptr 104 0)), (8, .b (.ptr 105 0)), (9, .b (.one (.int .u32 x_5)))], [(103, .box 23 ((eA16 .u32) A16.zero)), (104, .box 23 ((eA16 .u32) A16.zero)), (105, .box 23 ((eA16 .u32) x_4))]⟩) rfl ?_
      refine Tri.seq ?_
      refine Tri.regionL ?_
      refine OpsL.cons rfl (op_load_p tyAgg23 rfl rfl rfl rfl) ?_
      refine OpsL.cons rfl (op_move rfl) ?_
      refine OpsL.consA (eA16 .u32) h rfl (op_buildA tyBuild23 rfl rfl) (fun x_6 h => ?_)
      refine OpsL.cons rfl (op_store_p tyAgg23 rfl rfl rfl rfl (Nat.le_of_ble_eq_true rfl) rfl) ?_
      refine OpsL.cons rfl (op_store_p tyAgg23 rfl rfl rfl rfl (Nat.le_of_ble_eq_true rfl) rfl) ?_
      refine OpsL.nilK [4, 5] [103, 104] (s' := ⟨[(4, .b (.ptr 103 0)), (5, .b (.ptr 104 0))], [(103, .box 23 ((eA16 .u32) x_4)), (104, .box 23 ((eA16 .u32) x_6))]⟩) rfl ?_
      refine Tri.ret ?_
      refine Fin.then_ret ?_
      obtain rfl := Option.some.inj h
      refine Fin.keep [4, 5] [103, 104] (s' := ⟨[(4, .b (.ptr 103 0)), (5, .b (.ptr 104 0))], [(103, .box 23 ((eA16 .u32) x_4)), (104, .box 23 ((eA16 .u32) x_6))]⟩) rfl ?_
      refine Fin.result' [.agg ((eA16 .u32) x_4), .agg ((eA16 .u32) x_6)] (.inl rfl) rfl (.cons (.agg tyAgg23 rfl rfl rfl rfl) (.cons (.agg tyAgg23 rfl rfl rfl rfl) .nil)) ⟨rfl, rfl⟩
    · refine Tri.skip ?_
      refine Fin.keep [2, 3, 4, 5, 6, 7] [101, 102, 103, 104] (s' := ⟨[(2, .b (.ptr 101 0)), (3, .b (.ptr 102 0)), (4, .b (.ptr 103 0)), (5, .b (.ptr 104 0)), (6, I x_1), (7, I x_2)], [(101, .box 23 ((eA16 .u32) a0)), (102, .box 23 ((eA16 .u32) b0)), (103, .box 23 ((eA16 .u32) A16.zero)), (104, .box 23 ((eA16 .u32) A16.zero))]⟩) rfl ?_
      refine Fin.then ?_
      refine Tri.seq ?_
      refine Tri.regionL ?_
      refine OpsL.cons rfl (op_move rfl) ?_
      refine OpsL.cons rfl (op_sub rfl rfl) ?_
      obtain ⟨x_7, e5, h⟩ := bnd h
      refine OpsL.cons rfl (op_index_p tyArr23 (ix_lo e5) (ix_hi e5) rfl rfl rfl) ?_
      refine OpsL.cons rfl (op_load_p1 tyOne22 rfl rfl (arr_get (post := []) (k := .u32) [] e5 rfl rfl rfl)) ?_
      obtain ⟨x_8, e6, h⟩ := bnd h
      refine OpsL.cons rfl (op_call0 (bits_LeadingZeros32_spec e6) goes85 rfl rfl) ?_
      refine OpsL.cons rfl (op_assign rfl) ?_
      refine OpsL.nilK [2, 3, 4, 5, 6, 7, 10] [101, 102, 103, 104] (s' := ⟨[(2, .b (.ptr 101 0)), (3, .b (.ptr 102 0)), (4, .b (.ptr 103 0)), (5, .b (.ptr 104 0)), (6, I x_1), (7, I x_2), (10, I x_8)], [(101, .box 23 ((eA16 .u32) a0)), (102, .box 23 ((eA16 .u32) b0)), (103, .box 23 ((eA16 .u32) A16.zero)), (104, .box 23 ((eA16 .u32) A16.zero))]⟩) rfl ?_
      refine Tri.seq ?_
      refine Tri.regionL ?_
      refine OpsL.cons rfl (op_load_p tyAgg23 rfl rfl rfl rfl) ?_
      refine OpsL.cons rfl (op_move rfl) ?_
      obtain ⟨⟨x_9, x_10⟩, e7, h⟩ := bnd h
      refine OpsL.cons rfl (op_call0 (whole_up_spec e7) goes73 rfl rfl) ?_
      refine OpsL.cons rfl (op_move rfl) ?_
      refine OpsL.cons rfl (op_extract rfl rfl) ?_
      refine OpsL.keep [2, 4, 5, 6, 7, 10, 45, 49] [101, 103, 104] (s' := ⟨[(2, .b (.ptr 101 0)), (4, .b (.ptr 103 0)), (5, .b (.ptr 104 0)), (6, I x_1), (7, I x_2), (10, I x_8), (45, .tup [.agg ((eA16 .u32) x_9), .one (.int .u32 x_10)]), (49, .b (.agg ((eA16 .u32) x_9)))], [(101, .box 23 ((eA16 .u32) a0)), (103, .box 23 ((eA16 .u32) A16.zero)), (104, .box 23 ((eA16 .u32) A16.zero))]⟩) rfl ?_
      refine OpsL.cons rfl (op_extract rfl rfl) ?_
      refine OpsL.cons rfl (op_alloc (k := 106) tyZero23 rfl) ?_
      refine OpsL.cons rfl (op_store_p tyAgg23 rfl rfl rfl rfl (Nat.le_of_ble_eq_true rfl) rfl) ?_
      refine OpsL.cons rfl (op_assign rfl) ?_
      refine OpsL.nilK [2, 4, 5, 6, 7, 10, 11] [101, 103, 104, 106] (s' := ⟨[(2, .b (.ptr 101 0)), (4, .b (.ptr 103 0)), (5, .b (.ptr 104 0)), (6, I x_1), (7, I x_2), (10, I x_8), (11, .b (.ptr 106 0))], [(101, .box 23 ((eA16 .u32) a0)), (103, .box 23 ((eA16 .u32) A16.zero)), (104, .box 23 ((eA16 .u32) A16.zero)), (106, .box 23 ((eA16 .u32) x_9))]⟩) rfl ?_
      refine Tri.seq ?_
      refine Tri.regionL ?_
      refine OpsL.cons rfl (op_load_p tyAgg23 rfl rfl rfl rfl) ?_
      refine OpsL.cons rfl (op_move rfl) ?_
      obtain ⟨⟨x_11, x_12⟩, e8, h⟩ := bnd h
      refine OpsL.cons rfl (op_call0 (whole_up_spec e8) goes73 rfl rfl) ?_
      refine OpsL.cons rfl (op_move rfl) ?_
      refine OpsL.cons rfl (op_extract rfl rfl) ?_
      refine OpsL.keep [4, 5, 6, 7, 10, 11, 51, 55] [103, 104, 106] (s' := ⟨[(4, .b (.ptr 103 0)), (5, .b (.ptr 104 0)), (6, I x_1), (7, I x_2), (10, I x_8), (11, .b (.ptr 106 0)), (51, .tup [.agg ((eA16 .u32) x_11), .one (.int .u32 x_12)]), (55, .b (.agg ((eA16 .u32) x_11)))], [(103, .box 23 ((eA16 .u32) A16.zero)), (104, .box 23 ((eA16 .u32) A16.zero)), (106, .box 23 ((eA16 .u32) x_9))]⟩) rfl ?_
      refine OpsL.cons rfl (op_extract rfl rfl) ?_
      refine OpsL.cons rfl (op_alloc (k := 107) tyZero23 rfl) ?_
      refine OpsL.cons rfl (op_store_p tyAgg23 rfl rfl rfl rfl (Nat.le_of_ble_eq_true rfl) rfl) ?_
      refine OpsL.cons rfl (op_assign rfl) ?_
      refine OpsL.nilK [4, 5, 6, 7, 10, 11, 13, 14] [103, 104, 106, 107] (s' := ⟨[(4, .b (.ptr 103 0)), (5, .b (.ptr 104 0)), (6, I x_1), (7, I x_2), (10, I x_8), (11, .b (.ptr 106 0)), (13, .b (.ptr 107 0)), (14, .b (.one (.int .u32 x_12)))], [(103, .box 23 ((eA16 .u32) A16.zero)), (104, .box 23 ((eA16 .u32) A16.zero)), (106, .box 23 ((eA16 .u32) x_9)), (107, .box 23 ((eA16 .u32) x_11))]⟩) rfl ?_
      refine Tri.seq ?_
      refine Tri.regionL ?_
      refine OpsL.cons rfl (op_alloc (k := 108) tyZero100 rfl) ?_
      refine OpsL.nilK [4, 5, 6, 7, 10, 11, 13, 14, 15] [103, 104, 106, 107, 108] (s' := ⟨[(4, .b (.ptr 103 0)), (5, .b (.ptr 104 0)), (6, I x_1), (7, I x_2), (10, I x_8), (11, .b (.ptr 106 0)), (13, .b (.ptr 107 0)), (14, .b (.one (.int .u32 x_12))), (15, .b (.ptr 108 0))], [(103, .box 23 ((eA16 .u32) A16.zero)), (104, .box 23 ((eA16 .u32) A16.zero)), (106, .box 23 ((eA16 .u32) x_9)), (107, .box 23 ((eA16 .u32) x_11)), (108, .box 100 ((eA17 .u32) A17.zero))]⟩) rfl ?_
      refine Tri.seq ?_
      refine Tri.keep [4, 5, 6, 7, 10, 11, 13, 14, 15] [103, 104, 106, 107, 108] (s' := ⟨[(4, .b (.ptr 103 0)), (5, .b (.ptr 104 0)), (6, I x_1), (7, I x_2), (10, I x_8), (11, .b (.ptr 106 0)), (13, .b (.ptr 107 0)), (14, .b (.one (.int .u32 x_12))), (15, .b (.ptr 108 0))], [(103, .box 23 ((eA16 .u32) A16.zero)), (104, .box 23 ((eA16 .u32) A16.zero)), (106, .box 23 ((eA16 .u32) x_9)), (107, .box 23 ((eA16 .u32) x_11)), (108, .box 100 ((eA17 .u32) A17.zero))]⟩) rfl ?_
      refine Tri.regionY mixed 2 [.b (.psl 108 0 17 17), .b (.psl 107 0 16 16)] [4, 5, 6, 7, 10, 11, 14, 15] [103, 104, 106, 108] (s' := ⟨[(4, .b (.ptr 103 0)), (5, .b (.ptr 104 0)), (6, I x_1), (7, I x_2), (10, I x_8), (11, .b (.ptr 106 0)), (14, .b (.one (.int .u32 x_12))), (15, .b (.ptr 108 0))], [(103, .box 23 ((eA16 .u32) A16.zero)), (104, .box 23 ((eA16 .u32) A16.zero)), (106, .box 23 ((eA16 .u32) x_9)), (108, .box 100 ((eA17 .u32) (A17.of (spliceE A17.zero.l 0 ((x_11.l.drop 0).take 16)))))]⟩) rfl ⟨fun _ => .plain rfl (op_slice_a tyArr100 (by decide) rfl), fun _ => .plain rfl (op_slice_a tyArr23 (by decide) rfl), trivial⟩ ⟨_, by exact .plain rfl (op_copy_psl (m := 16) tySl64 (by decide) (by first | decide | (show 16 ≤ 9223372036854775807; omega)) rfl rfl rfl rfl (by first | decide | (show 0 + 16 ≤ 17; omega)) (by first | decide | (show 0 + 16 ≤ 16; omega)) (splice_arr (a := 0) (a2 := 0) (off := 0) (off2 := 0) (post := []) (post2 := []) (l := A17.zero.l) (l2 := x_11.l) (kd := .u32) (lo := 0) (lo2 := 0) [] [] rfl rfl rfl rfl (by rfl) (by rfl) (by first | decide | (show 0 + 16 ≤ 17; omega)) (by first | decide | (show 0 + 16 ≤ 16; omega)) (A17.l_of (spliceE_lenA rfl (by first | decide | (show 0 + 16 ≤ 17; omega)) (by first | decide | (show 0 + 16 ≤ 16; omega)))) rfl)), rfl⟩ rfl ?_
      refine Tri.seq ?_
      refine Tri.regionL ?_
      refine OpsL.cons rfl (op_move rfl) ?_
      refine OpsL.cons rfl (op_index_p tyArr100 (by decide) (by decide) rfl rfl rfl) ?_
      refine OpsL.cons rfl (op_store_p1 tyOne22 rfl rfl rfl (Nat.le_of_ble_eq_true rfl) rfl) ?_
      refine OpsL.nilK [4, 5, 6, 7, 10, 11, 15] [103, 104, 106, 108] (s' := ⟨[(4, .b (.ptr 103 0)), (5, .b (.ptr 104 0)), (6, I x_1), (7, I x_2), (10, I x_8), (11, .b (.ptr 106 0)), (15, .b (.ptr 108 0))], [(103, .box 23 ((eA16 .u32) A16.zero)), (104, .box 23 ((eA16 .u32) A16.zero)), (106, .box 23 ((eA16 .u32) x_9)), (108, .box 100 [.int .u32 ((A17.of (spliceE A17.zero.l 0 ((x_11.l.drop 0).take 16))).a0), .int .u32 ((A17.of (spliceE A17.zero.l 0 ((x_11.l.drop 0).take 16))).a1), .int .u32 ((A17.of (spliceE A17.zero.l 0 ((x_11.l.drop 0).take 16))).a2), .int .u32 ((A17.of (spliceE A17.zero.l 0 ((x_11.l.drop 0).take 16))).a3), .int .u32 ((A17.of (spliceE A17.zero.l 0 ((x_11.l.drop 0).take 16))).a4), .int .u32 ((A17.of (spliceE A17.zero.l 0 ((x_11.l.drop 0).take 16))).a5), .int .u32 ((A17.of (spliceE A17.zero.l 0 ((x_11.l.drop 0).take 16))).a6), .int .u32 ((A17.of (spliceE A17.zero.l 0 ((x_11.l.drop 0).take 16))).a7), .int .u32 ((A17.of (spliceE A17.zero.l 0 ((x_11.l.drop 0).take 16))).a8), .int .u32 ((A17.of (spliceE A17.zero.l 0 ((x_11.l.drop 0).take 16))).a9), .int .u32 ((A17.of (spliceE A17.zero.l 0 ((x_11.l.drop 0).take 16))).a10), .int .u32 ((A17.of (spliceE A17.zero.l 0 ((x_11.l.drop 0).take 16))).a11), .int .u32 ((A17.of (spliceE A17.zero.l 0 ((x_11.l.drop 0).take 16))).a12), .int .u32 ((A17.of (spliceE A17.zero.l 0 ((x_11.l.drop 0).take 16))).a13), .int .u32 ((A17.of (spliceE A17.zero.l 0 ((x_11.l.drop 0).take 16))).a14), .int .u32 ((A17.of (spliceE A17.zero.l 0 ((x_11.l.drop 0).take 16))).a15), .int .u32 x_12])]⟩) rfl ?_
      obtain ⟨v9, h10, h⟩ := bnd h
      refine Tri.seqJ (v := v9) (un2 fun (q_13 : A16) (u_14 : A17) => ⟨[(4, .b (.ptr 103 0)), (5, .b (.ptr 104 0)), (10, I x_8), (15, .b (.ptr 108 0))], [(103, .box 23 ((eA16 .u32) q_13)), (104, .box 23 ((eA16 .u32) A16.zero)), (108, .box 100 ((eA17 .u32) u_14))]⟩) (fun z => z) ?_ ?_
      · refine Tri.seq ?_
        refine Tri.regionL ?_
        refine OpsL.cons rfl (op_move rfl) ?_
        refine OpsL.cons rfl (op_move rfl) ?_
        refine OpsL.cons rfl (op_sub rfl rfl) ?_
        refine OpsL.cons rfl (op_assign rfl) ?_
        refine OpsL.nilK [4, 5, 6, 10, 11, 15, 16] [103, 104, 106, 108] (s' := ⟨[(4, .b (.ptr 103 0)), (5, .b (.ptr 104 0)), (6, I x_1), (10, I x_8), (11, .b (.ptr 106 0)), (15, .b (.ptr 108 0)), (16, I (IntKind.i64.wrap (x_2 - x_1)))], [(103, .box 23 ((eA16 .u32) A16.zero)), (104, .box 23 ((eA16 .u32) A16.zero)), (106, .box 23 ((eA16 .u32) x_9)), (108, .box 100 [.int .u32 ((A17.of (spliceE A17.zero.l 0 ((x_11.l.drop 0).take 16))).a0), .int .u32 ((A17.of (spliceE A17.zero.l 0 ((x_11.l.drop 0).take 16))).a1), .int .u32 ((A17.of (spliceE A17.zero.l 0 ((x_11.l.drop 0).take 16))).a2), .int .u32 ((A17.of (spliceE A17.zero.l 0 ((x_11.l.drop 0).take 16))).a3), .int .u32 ((A17.of (spliceE A17.zero.l 0 ((x_11.l.drop 0).take 16))).a4), .int .u32 ((A17.of (spliceE A17.zero.l 0 ((x_11.l.drop 0).take 16))).a5), .int .u32 ((A17.of (spliceE A17.zero.l 0 ((x_11.l.drop 0).take 16))).a6), .int .u32 ((A17.of (spliceE A17.zero.l 0 ((x_11.l.drop 0).take 16))).a7), .int .u32 ((A17.of (spliceE A17.zero.l 0 ((x_11.l.drop 0).take 16))).a8), .int .u32 ((A17.of (spliceE A17.zero.l 0 ((x_11.l.drop 0).take 16))).a9), .int .u32 ((A17.of (spliceE A17.zero.l 0 ((x_11.l.drop 0).take 16))).a10), .int .u32 ((A17.of (spliceE A17.zero.l 0 ((x_11.l.drop 0).take 16))).a11), .int .u32 ((A17.of (spliceE A17.zero.l 0 ((x_11.l.drop 0).take 16))).a12), .int .u32 ((A17.of (spliceE A17.zero.l 0 ((x_11.l.drop 0).take 16))).a13), .int .u32 ((A17.of (spliceE A17.zero.l 0 ((x_11.l.drop 0).take 16))).a14), .int .u32 ((A17.of (spliceE A17.zero.l 0 ((x_11.l.drop 0).take 16))).a15), .int .u32 x_12])]⟩) rfl ?_
        refine Tri.block ?_
        refine Tri.loopJ h10 (un3 fun (q_15 : A16) (u_16 : A17) (j_17 : Int) => ⟨[(4, .b (.ptr 103 0)), (5, .b (.ptr 104 0)), (6, I x_1), (10, I x_8), (11, .b (.ptr 106 0)), (15, .b (.ptr 108 0)), (16, I j_17)], [(103, .box 23 ((eA16 .u32) q_15)), (104, .box 23 ((eA16 .u32) A16.zero)), (106, .box 23 ((eA16 .u32) x_9)), (108, .box 100 ((eA17 .u32) u_16))]⟩) [4, 5, 6, 10, 11, 15, 16] [103, 104, 106, 108] rfl ?_
        rintro ⟨q_15, u_16, j_17⟩ o11 h12 hy13
        refine Tri.seq ?_
        refine Tri.seq ?_
        refine Tri.regionL ?_
        refine OpsL.cons rfl (op_move rfl) ?_
        refine OpsL.cons rfl (op_geq rfl rfl) ?_
        refine OpsL.nilK [4, 5, 6, 10, 11, 15, 16, 66] [103, 104, 106, 108] (s' := ⟨[(4, .b (.ptr 103 0)), (5, .b (.ptr 104 0)), (6, I x_1), (10, I x_8), (11, .b (.ptr 106 0)), (15, .b (.ptr 108 0)), (16, I j_17), (66, B (decide (0 ≤ j_17)))], [(103, .box 23 ((eA16 .u32) q_15)), (104, .box 23 ((eA16 .u32) A16.zero)), (106, .box 23 ((eA16 .u32) x_9)), (108, .box 100 ((eA17 .u32) u_16))]⟩) rfl ?_
        refine Tri.ite h12 rfl (fun _ h12 => ?_) (fun _ h12 => ?_)
        · refine Tri.skip ?_
          refine Fin.keep [4, 5, 6, 10, 11, 15, 16] [103, 104, 106, 108] (s' := ⟨[(4, .b (.ptr 103 0)), (5, .b (.ptr 104 0)), (6, I x_1), (10, I x_8), (11, .b (.ptr 106 0)), (15, .b (.ptr 108 0)), (16, I j_17)], [(103, .box 23 ((eA16 .u32) q_15)), (104, .box 23 ((eA16 .u32) A16.zero)), (106, .box 23 ((eA16 .u32) x_9)), (108, .box 100 ((eA17 .u32) u_16))]⟩) rfl ?_
          refine Fin.then ?_
          obtain ⟨v14, h15, h12⟩ := bnd h12
          refine Tri.seqJ (v := v14) (un2 fun (q_20 : A16) (u_21 : A17) => ⟨[(4, .b (.ptr 103 0)), (5, .b (.ptr 104 0)), (6, I x_1), (10, I x_8), (11, .b (.ptr 106 0)), (15, .b (.ptr 108 0)), (16, I j_17)], [(103, .box 23 ((eA16 .u32) q_20)), (104, .box 23 ((eA16 .u32) A16.zero)), (106, .box 23 ((eA16 .u32) x_9)), (108, .box 100 ((eA17 .u32) u_21))]⟩) (fun z => z) ?_ ?_
          · refine Tri.block ?_
            refine Tri.seq ?_
            refine Tri.regionL ?_
            refine OpsL.cons rfl (op_load_p tyAgg23 rfl rfl rfl rfl) ?_
            refine OpsL.cons rfl (op_move rfl) ?_
            refine OpsL.cons rfl (op_move rfl) ?_
            obtain ⟨x_22, e16, h15⟩ := bnd h15
            refine OpsL.cons rfl (op_call (own_a := [(108, _)]) ((whole_guess_spec e16).sw 1 108) goes86 rfl ⟨rfl, trivial⟩ rfl rfl) ?_
            refine OpsL.cons rfl (op_assign rfl) ?_
            refine OpsL.nilK [4, 5, 6, 10, 11, 15, 16, 17] [103, 104, 106, 108] (s' := ⟨[(4, .b (.ptr 103 0)), (5, .b (.ptr 104 0)), (6, I x_1), (10, I x_8), (11, .b (.ptr 106 0)), (15, .b (.ptr 108 0)), (16, I j_17), (17, .b (.one (.int .u64 x_22)))], [(103, .box 23 ((eA16 .u32) q_15)), (104, .box 23 ((eA16 .u32) A16.zero)), (106, .box 23 ((eA16 .u32) x_9)), (108, .box 100 ((eA17 .u32) u_16))]⟩) rfl ?_
            obtain ⟨v17, h18, h15⟩ := bnd h15
            refine Tri.seqJ (v := v17) (un2 fun (u_23 : A17) (d_24 : Int) => ⟨[(4, .b (.ptr 103 0)), (5, .b (.ptr 104 0)), (6, I x_1), (10, I x_8), (11, .b (.ptr 106 0)), (15, .b (.ptr 108 0)), (16, I j_17), (17, .b (.one (.int .u64 d_24)))], [(103, .box 23 ((eA16 .u32) q_15)), (104, .box 23 ((eA16 .u32) A16.zero)), (106, .box 23 ((eA16 .u32) x_9)), (108, .box 100 ((eA17 .u32) u_23))]⟩) (fun z => z) ?_ ?_
            · refine Tri.seq ?_
              refine Tri.regionL ?_
              refine OpsL.cons rfl (op_load_p tyAgg23 rfl rfl rfl rfl) ?_
              refine OpsL.cons rfl (op_move rfl) ?_
              refine OpsL.cons rfl (op_move rfl) ?_
              refine OpsL.cons rfl (op_move rfl) ?_
              obtain ⟨⟨x_25, x_26⟩, e19, h18⟩ := bnd h18
              refine OpsL.cons rfl (op_call (own_a := [(108, _)]) ((whole_take_spec e19).sw 1 108) goes87 rfl ⟨rfl, trivial⟩ rfl rfl) ?_
              refine OpsL.nilK [4, 5, 6, 10, 11, 15, 16, 17, 77] [103, 104, 106, 108] (s' := ⟨[(4, .b (.ptr 103 0)), (5, .b (.ptr 104 0)), (6, I x_1), (10, I x_8), (11, .b (.ptr 106 0)), (15, .b (.ptr 108 0)), (16, I j_17), (17, .b (.one (.int .u64 x_22))), (77, B x_25)], [(103, .box 23 ((eA16 .u32) q_15)), (104, .box 23 ((eA16 .u32) A16.zero)), (106, .box 23 ((eA16 .u32) x_9)), (108, .box 100 ((eA17 .u32) x_26))]⟩) rfl ?_
              refine Tri.ite h18 rfl (fun _ h18 => ?_) (fun _ h18 => ?_)
              · refine Tri.seq ?_
                refine Tri.regionL ?_
                refine OpsL.cons rfl (op_move rfl) ?_
                refine OpsL.cons rfl (op_sub rfl rfl) ?_
                refine OpsL.cons rfl (op_assign rfl) ?_
                refine OpsL.nilK [4, 5, 6, 10, 11, 15, 16, 17] [103, 104, 106, 108] (s' := ⟨[(4, .b (.ptr 103 0)), (5, .b (.ptr 104 0)), (6, I x_1), (10, I x_8), (11, .b (.ptr 106 0)), (15, .b (.ptr 108 0)), (16, I j_17), (17, .b (.one (.int .u64 (IntKind.u64.wrap (x_22 - 1)))))], [(103, .box 23 ((eA16 .u32) q_15)), (104, .box 23 ((eA16 .u32) A16.zero)), (106, .box 23 ((eA16 .u32) x_9)), (108, .box 100 ((eA17 .u32) x_26))]⟩) rfl ?_
                refine Tri.regionL ?_
                refine OpsL.cons rfl (op_load_p tyAgg23 rfl rfl rfl rfl) ?_
                refine OpsL.cons rfl (op_move rfl) ?_
                refine OpsL.cons rfl (op_move rfl) ?_
                obtain ⟨x_27, e20, h18⟩ := bnd h18
                refine OpsL.cons rfl (op_call (own_a := [(108, _)]) ((whole_give_spec e20).sw 1 108) goes88 rfl ⟨rfl, trivial⟩ rfl rfl) ?_
                refine OpsL.nil ?_
                exact Fin.join [4, 5, 6, 10, 11, 15, 16, 17] [103, 104, 106, 108] (x_27, IntKind.u64.wrap (x_22 - 1)) (Option.some.inj h18) rfl
              · refine Tri.skip ?_
                exact Fin.join [4, 5, 6, 10, 11, 15, 16, 17] [103, 104, 106, 108] (x_26, x_22) (Option.some.inj h18) rfl
            · rintro ⟨u_23, d_24⟩ hv
              subst v17
              refine Tri.regionL ?_
              refine OpsL.cons rfl (op_move rfl) ?_
              refine OpsL.cons rfl (op_move rfl) ?_
              refine OpsL.cons rfl (op_conv_wrap undi63 undi22 rfl) ?_
              obtain ⟨x_28, e21, h15⟩ := bnd h15
              refine OpsL.cons rfl (op_index_p tyArr23 (ix_lo e21) (ix_hi e21) rfl rfl rfl) ?_
              refine OpsL.cons rfl (op_store_p1 tyOne22 rfl rfl rfl (arr_lt (post := []) (k := .u32) [] e21 rfl rfl rfl) (arr_set (post := []) (k := .u32) [] e21 rfl rfl (A16.set_l q_15 j_17 (IntKind.u32.wrap d_24)) rfl rfl)) ?_
              refine OpsL.nil ?_
              refine Fin.block_normal ?_
              exact Fin.join [4, 5, 6, 10, 11, 15, 16] [103, 104, 106, 108] (q_15.set j_17 (IntKind.u32.wrap d_24), u_23) (Option.some.inj h15) rfl
          · rintro ⟨q_20, u_21⟩ hv
            subst v14
            refine Tri.regionL ?_
            refine OpsL.cons rfl (op_move rfl) ?_
            refine OpsL.cons rfl (op_sub rfl rfl) ?_
            refine OpsL.cons rfl (op_assign rfl) ?_
            refine OpsL.nil ?_
            exact Fin.againJ [4, 5, 6, 10, 11, 15, 16] [103, 104, 106, 108] (q_20, u_21, IntKind.i64.wrap (j_17 - 1)) (Option.some.inj h12) rfl
        · refine Tri.exit ?_
          refine Fin.then_exit ?_
          obtain rfl := hy13 _ (Option.some.inj h12).symm
          refine Fin.then_exit ?_
          refine Fin.block_exit ?_
          exact Fin.join [4, 5, 10, 15] [103, 104, 108] (q_15, u_16) rfl rfl
      · rintro ⟨q_13, u_14⟩ hv
        subst v9
        refine Tri.seq ?_
        refine Tri.keep [4, 5, 10, 15] [103, 104, 108] (s' := ⟨[(4, .b (.ptr 103 0)), (5, .b (.ptr 104 0)), (10, I x_8), (15, .b (.ptr 108 0))], [(103, .box 23 ((eA16 .u32) q_13)), (104, .box 23 ((eA16 .u32) A16.zero)), (108, .box 100 ((eA17 .u32) u_14))]⟩) rfl ?_
        obtain ⟨x_29, e22, h⟩ := bnd h
        refine Tri.regionY mixed 6 [.b (.agg ((eA16 .u32) q_13)), .b (.psl 108 0 16 17), .b (.ptr 108 0), .b (.agg [.int .u32 u_14.a0, .int .u32 u_14.a1, .int .u32 u_14.a2, .int .u32 u_14.a3, .int .u32 u_14.a4, .int .u32 u_14.a5, .int .u32 u_14.a6, .int .u32 u_14.a7, .int .u32 u_14.a8, .int .u32 u_14.a9, .int .u32 u_14.a10, .int .u32 u_14.a11, .int .u32 u_14.a12, .int .u32 u_14.a13, .int .u32 u_14.a14, .int .u32 u_14.a15]), I x_8, .b (.agg ((eA16 .u32) x_29))] [4, 5] [103, 104] (s' := ⟨[(4, .b (.ptr 103 0)), (5, .b (.ptr 104 0))], [(103, .box 23 ((eA16 .u32) q_13)), (104, .box 23 ((eA16 .u32) x_29))]⟩) rfl ⟨fun _ => .plain rfl (op_load_p tyAgg23 rfl rfl rfl rfl), fun _ => .plain rfl (op_slice_ah (i := 16) tyArr100 (by decide) (by decide) rfl rfl), fun _ => .plain rfl (op_toArr tyArr23 (by decide) rfl), fun _ => .plain rfl (op_load_p tyAgg23 rfl rfl rfl rfl), fun _ => .plain rfl (op_move rfl), fun _ => .plain rfl (op_call0 (whole_down_spec e22) goes74 rfl rfl), trivial⟩ ⟨_, by exact .plain rfl (op_store_p tyAgg23 rfl rfl rfl rfl (Nat.le_of_ble_eq_true rfl) rfl), ⟨_, by exact .plain rfl (op_store_p tyAgg23 rfl rfl rfl rfl (Nat.le_of_ble_eq_true rfl) rfl), rfl⟩⟩ rfl ?_
        refine Tri.ret ?_
        obtain rfl := Option.some.inj h
        refine Fin.keep [4, 5] [103, 104] (s' := ⟨[(4, .b (.ptr 103 0)), (5, .b (.ptr 104 0))], [(103, .box 23 ((eA16 .u32) q_13)), (104, .box 23 ((eA16 .u32) x_29))]⟩) rfl ?_
        refine Fin.result' [.agg ((eA16 .u32) q_13), .agg ((eA16 .u32) x_29)] (.inl rfl) rfl (.cons (.agg tyAgg23 rfl rfl rfl rfl) (.cons (.agg tyAgg23 rfl rfl rfl rfl) .nil)) ⟨rfl, rfl⟩

def whole_plus_S (F : Nat) (a0 : A16) (b0 : A16) : Option (A16 × Bool) :=
 Option.bind (iter F (un3 fun out_3 carry_4 x_5 => if (decide (x_5 < 16)) = true then (Option.bind (idx? a0.l x_5) (fun x_8 => Option.bind (idx? b0.l x_5) (fun x_9 => letN (IntKind.u64.wrap (carry_4 + (IntKind.u64.wrap ((IntKind.u64.wrap x_8) + (IntKind.u64.wrap x_9))))) fun x_10 => Option.bind (idx? out_3.l x_5) (fun x_11 => letN (IntKind.u64.wrap (carry_4 + (IntKind.u64.wrap ((IntKind.u64.wrap x_8) + (IntKind.u64.wrap x_9))))) fun x_12 => some (.inl (out_3.set x_5 (IntKind.u32.wrap x_10), x_12 / 4294967296, IntKind.i64.wrap (x_5 + 1))))))) else (some (.inr (out_3, carry_4)))) (A16.zero, 0, 0)) (un2 fun out_1 carry_2 => some (out_1, decide (carry_2 = 0)))
theorem whole_plus_spec {F : Nat} {a0 : A16} {b0 : A16} {r : A16 × Bool} (h : whole_plus_S F a0 b0 = some r) : Meets Tryd.prog tabs 45 [] [.agg ((eA16 .u32) a0), .agg ((eA16 .u32) b0)] (Is [] (.tup [.agg ((eA16 .u32) r.1), .one (.bool r.2)])) := by
  unfold whole_plus_S at h
  refine Meets.intro 33 Tryd.func45 Tryd.ntmps45 rfl (by simp) fun E => ?_
  show Tri _ E ⟨33, [], []⟩ _ ⟨[(0, .b (.agg ((eA16 .u32) a0))), (1, .b (.agg ((eA16 .u32) b0)))], []⟩ _
  refine Tri.seq ?_
  refine Tri.regionL ?_
  refine OpsL.cons rfl (op_box (k := 101) rfl rfl) ?_
  refine OpsL.cons rfl (op_box (k := 102) rfl rfl) ?_
  refine OpsL.cons rfl (op_alloc (k := 103) tyZero23 rfl) ?_
  refine OpsL.cons rfl (op_assign rfl) ?_
  refine OpsL.nilK [2, 3, 4] [101, 102, 103] (s' := ⟨[(2, .b (.ptr 101 0)), (3, .b (.ptr 102 0)), (4, .b (.ptr 103 0))], [(101, .box 23 ((eA16 .u32) a0)), (102, .box 23 ((eA16 .u32) b0)), (103, .box 23 ((eA16 .u32) A16.zero))]⟩) rfl ?_
  refine Tri.seq ?_
  refine Tri.regionL ?_
  refine OpsL.cons rfl (op_alloc (k := 104) tyZero23 rfl) ?_
  refine OpsL.nilK [2, 3, 4, 6] [101, 102, 103, 104] (s' := ⟨[(2, .b (.ptr 101 0)), (3, .b (.ptr 102 0)), (4, .b (.ptr 103 0)), (6, .b (.ptr 104 0))], [(101, .box 23 ((eA16 .u32) a0)), (102, .box 23 ((eA16 .u32) b0)), (103, .box 23 ((eA16 .u32) A16.zero)), (104, .box 23 ((eA16 .u32) A16.zero))]⟩) rfl ?_
  refine Tri.seq ?_
  refine Tri.regionL ?_
  refine OpsL.cons rfl (op_assign rfl) ?_
  refine OpsL.nilK [2, 3, 4, 6, 7] [101, 102, 103, 104] (s' := ⟨[(2, .b (.ptr 101 0)), (3, .b (.ptr 102 0)), (4, .b (.ptr 103 0)), (6, .b (.ptr 104 0)), (7, .b (.one (.int .u64 0)))], [(101, .box 23 ((eA16 .u32) a0)), (102, .box 23 ((eA16 .u32) b0)), (103, .box 23 ((eA16 .u32) A16.zero)), (104, .box 23 ((eA16 .u32) A16.zero))]⟩) rfl ?_
  obtain ⟨v1, h2, h⟩ := bnd h
  refine Tri.seqJ (v := v1) (un2 fun (out_1 : A16) (carry_2 : Int) => ⟨[(4, .b (.ptr 103 0)), (6, .b (.ptr 104 0)), (7, .b (.one (.int .u64 carry_2)))], [(103, .box 23 ((eA16 .u32) A16.zero)), (104, .box 23 ((eA16 .u32) out_1))]⟩) (fun z => z) ?_ ?_
  · refine Tri.seq ?_
    refine Tri.regionL ?_
    refine OpsL.cons rfl (op_move rfl) ?_
    refine OpsL.nilK [2, 3, 4, 6, 7, 9] [101, 102, 103, 104] (s' := ⟨[(2, .b (.ptr 101 0)), (3, .b (.ptr 102 0)), (4, .b (.ptr 103 0)), (6, .b (.ptr 104 0)), (7, .b (.one (.int .u64 0))), (9, I 0)], [(101, .box 23 ((eA16 .u32) a0)), (102, .box 23 ((eA16 .u32) b0)), (103, .box 23 ((eA16 .u32) A16.zero)), (104, .box 23 ((eA16 .u32) A16.zero))]⟩) rfl ?_
    refine Tri.block ?_
    refine Tri.loopJ h2 (un3 fun (out_3 : A16) (carry_4 : Int) (x_5 : Int) => ⟨[(2, .b (.ptr 101 0)), (3, .b (.ptr 102 0)), (4, .b (.ptr 103 0)), (6, .b (.ptr 104 0)), (7, .b (.one (.int .u64 carry_4))), (9, I x_5)], [(101, .box 23 ((eA16 .u32) a0)), (102, .box 23 ((eA16 .u32) b0)), (103, .box 23 ((eA16 .u32) A16.zero)), (104, .box 23 ((eA16 .u32) out_3))]⟩) [2, 3, 4, 6, 7, 9] [101, 102, 103, 104] rfl ?_
    rintro ⟨out_3, carry_4, x_5⟩ o3 h4 hy5
    refine Tri.seq ?_
    refine Tri.regionL ?_
    refine OpsL.cons rfl (op_lss rfl rfl) ?_
    refine OpsL.nilK [2, 3, 4, 6, 7, 9, 10] [101, 102, 103, 104] (s' := ⟨[(2, .b (.ptr 101 0)), (3, .b (.ptr 102 0)), (4, .b (.ptr 103 0)), (6, .b (.ptr 104 0)), (7, .b (.one (.int .u64 carry_4))), (9, I x_5), (10, B (decide (x_5 < 16)))], [(101, .box 23 ((eA16 .u32) a0)), (102, .box 23 ((eA16 .u32) b0)), (103, .box 23 ((eA16 .u32) A16.zero)), (104, .box 23 ((eA16 .u32) out_3))]⟩) rfl ?_
    refine Tri.seq ?_
    refine Tri.ite h4 rfl (fun _ h4 => ?_) (fun _ h4 => ?_)
    · refine Tri.skip ?_
      refine Fin.keep [2, 3, 4, 6, 7, 9] [101, 102, 103, 104] (s' := ⟨[(2, .b (.ptr 101 0)), (3, .b (.ptr 102 0)), (4, .b (.ptr 103 0)), (6, .b (.ptr 104 0)), (7, .b (.one (.int .u64 carry_4))), (9, I x_5)], [(101, .box 23 ((eA16 .u32) a0)), (102, .box 23 ((eA16 .u32) b0)), (103, .box 23 ((eA16 .u32) A16.zero)), (104, .box 23 ((eA16 .u32) out_3))]⟩) rfl ?_
      refine Fin.then ?_
      refine Tri.seq ?_
      refine Tri.block ?_
      refine Tri.seq ?_
      refine Tri.regionL ?_
      refine OpsL.cons rfl (op_move rfl) ?_
      refine OpsL.cons rfl (op_assign rfl) ?_
      refine OpsL.nilK [2, 3, 4, 6, 7, 8, 9] [101, 102, 103, 104] (s' := ⟨[(2, .b (.ptr 101 0)), (3, .b (.ptr 102 0)), (4, .b (.ptr 103 0)), (6, .b (.ptr 104 0)), (7, .b (.one (.int .u64 carry_4))), (8, I x_5), (9, I x_5)], [(101, .box 23 ((eA16 .u32) a0)), (102, .box 23 ((eA16 .u32) b0)), (103, .box 23 ((eA16 .u32) A16.zero)), (104, .box 23 ((eA16 .u32) out_3))]⟩) rfl ?_
      refine Tri.seq ?_
      refine Tri.keep [2, 3, 4, 6, 7, 8, 9] [101, 102, 103, 104] (s' := ⟨[(2, .b (.ptr 101 0)), (3, .b (.ptr 102 0)), (4, .b (.ptr 103 0)), (6, .b (.ptr 104 0)), (7, .b (.one (.int .u64 carry_4))), (8, I x_5), (9, I x_5)], [(101, .box 23 ((eA16 .u32) a0)), (102, .box 23 ((eA16 .u32) b0)), (103, .box 23 ((eA16 .u32) A16.zero)), (104, .box 23 ((eA16 .u32) out_3))]⟩) rfl ?_
      obtain ⟨x_8, e6, h4⟩ := bnd h4
      obtain ⟨x_9, e7, h4⟩ := bnd h4
      refine Tri.regionY mixed 11 [.b (.one (.int .u64 carry_4)), I x_5, .b (.ptr 101 (0 + (x_5 : Int).toNat * 1)), .b (.one (.int .u32 x_8)), .b (.one (.int .u64 (IntKind.u64.wrap x_8))), I x_5, .b (.ptr 102 (0 + (x_5 : Int).toNat * 1)), .b (.one (.int .u32 x_9)), .b (.one (.int .u64 (IntKind.u64.wrap x_9))), .b (.one (.int .u64 (IntKind.u64.wrap ((IntKind.u64.wrap x_8) + (IntKind.u64.wrap x_9))))), .b (.one (.int .u64 (IntKind.u64.wrap (carry_4 + (IntKind.u64.wrap ((IntKind.u64.wrap x_8) + (IntKind.u64.wrap x_9)))))))] [2, 3, 4, 6, 7, 8, 9] [101, 102, 103, 104] (s' := ⟨[(2, .b (.ptr 101 0)), (3, .b (.ptr 102 0)), (4, .b (.ptr 103 0)), (6, .b (.ptr 104 0)), (7, .b (.one (.int .u64 (IntKind.u64.wrap (carry_4 + (IntKind.u64.wrap ((IntKind.u64.wrap x_8) + (IntKind.u64.wrap x_9)))))))), (8, I x_5), (9, I x_5)], [(101, .box 23 ((eA16 .u32) a0)), (102, .box 23 ((eA16 .u32) b0)), (103, .box 23 ((eA16 .u32) A16.zero)), (104, .box 23 ((eA16 .u32) out_3))]⟩) rfl ⟨fun _ => .plain rfl (op_move rfl), fun _ => .plain rfl (op_move rfl), fun _ => .plain rfl (op_index_p tyArr23 (ix_lo e6) (ix_hi e6) rfl rfl rfl), fun _ => .plain rfl (op_load_p1 tyOne22 rfl rfl (arr_get (post := []) (k := .u32) [] e6 rfl rfl rfl)), fun _ => .plain rfl (op_conv_wrap undi22 undi63 rfl), fun _ => .plain rfl (op_move rfl), fun _ => .plain rfl (op_index_p tyArr23 (ix_lo e7) (ix_hi e7) rfl rfl rfl), fun _ => .plain rfl (op_load_p1 tyOne22 rfl rfl (arr_get (post := []) (k := .u32) [] e7 rfl rfl rfl)), fun _ => .plain rfl (op_conv_wrap undi22 undi63 rfl), fun _ => .plain rfl (op_add rfl rfl), fun _ => .plain rfl (op_add rfl rfl), trivial⟩ ⟨_, by exact .plain rfl (op_assign rfl), rfl⟩ rfl ?_
      refine Tri.seq ?_
      refine Tri.regionL ?_
      refine OpsL.cons rfl (op_move rfl) ?_
      refine OpsL.consI .u64 h4 rfl (op_move rfl) (fun x_10 h4 => ?_)
      refine OpsL.cons rfl (op_conv_wrap undi63 undi22 rfl) ?_
      obtain ⟨x_11, e8, h4⟩ := bnd h4
      refine OpsL.cons rfl (op_index_p tyArr23 (ix_lo e8) (ix_hi e8) rfl rfl rfl) ?_
      refine OpsL.cons rfl (op_store_p1 tyOne22 rfl rfl rfl (arr_lt (post := []) (k := .u32) [] e8 rfl rfl rfl) (arr_set (post := []) (k := .u32) [] e8 rfl rfl (A16.set_l out_3 x_5 (IntKind.u32.wrap x_10)) rfl rfl)) ?_
      refine OpsL.nilK [2, 3, 4, 6, 7, 9] [101, 102, 103, 104] (s' := ⟨[(2, .b (.ptr 101 0)), (3, .b (.ptr 102 0)), (4, .b (.ptr 103 0)), (6, .b (.ptr 104 0)), (7, .b (.one (.int .u64 (IntKind.u64.wrap (carry_4 + (IntKind.u64.wrap ((IntKind.u64.wrap x_8) + (IntKind.u64.wrap x_9)))))))), (9, I x_5)], [(101, .box 23 ((eA16 .u32) a0)), (102, .box 23 ((eA16 .u32) b0)), (103, .box 23 ((eA16 .u32) A16.zero)), (104, .box 23 ((eA16 .u32) (out_3.set x_5 (IntKind.u32.wrap x_10))))]⟩) rfl ?_
      refine Tri.regionL ?_
      refine OpsL.consI .u64 h4 rfl (op_move rfl) (fun x_12 h4 => ?_)
      refine OpsL.cons rfl (op_shr2 (m := 32) (by decide) rfl rfl rfl) ?_
      refine OpsL.cons rfl (op_assign rfl) ?_
      refine OpsL.nil ?_
      refine Fin.block_normal ?_
      refine Fin.keep [2, 3, 4, 6, 7, 9] [101, 102, 103, 104] (s' := ⟨[(2, .b (.ptr 101 0)), (3, .b (.ptr 102 0)), (4, .b (.ptr 103 0)), (6, .b (.ptr 104 0)), (7, .b (.one (.int .u64 (x_12 / 4294967296)))), (9, I x_5)], [(101, .box 23 ((eA16 .u32) a0)), (102, .box 23 ((eA16 .u32) b0)), (103, .box 23 ((eA16 .u32) A16.zero)), (104, .box 23 ((eA16 .u32) (out_3.set x_5 (IntKind.u32.wrap x_10))))]⟩) rfl ?_
      refine Fin.then ?_
      refine Tri.regionL ?_
      refine OpsL.cons rfl (op_add rfl rfl) ?_
      refine OpsL.cons rfl (op_move rfl) ?_
      refine OpsL.nil ?_
      exact Fin.againJ [2, 3, 4, 6, 7, 9] [101, 102, 103, 104] (out_3.set x_5 (IntKind.u32.wrap x_10), x_12 / 4294967296, IntKind.i64.wrap (x_5 + 1)) (Option.some.inj h4) rfl
    · refine Tri.exit ?_
      refine Fin.then_exit ?_
      obtain rfl := hy5 _ (Option.some.inj h4).symm
      refine Fin.then_exit ?_
      refine Fin.block_exit ?_
      exact Fin.join [4, 6, 7] [103, 104] (out_3, carry_4) rfl rfl
  · rintro ⟨out_1, carry_2⟩ hv
    subst v1
    refine Tri.seq ?_
    refine Tri.regionL ?_
    refine OpsL.cons rfl (op_load_p tyAgg23 rfl rfl rfl rfl) ?_
    refine OpsL.cons rfl (op_move rfl) ?_
    refine OpsL.cons rfl (op_eql rfl rfl) ?_
    refine OpsL.cons rfl (op_store_p tyAgg23 rfl rfl rfl rfl (Nat.le_of_ble_eq_true rfl) rfl) ?_
    refine OpsL.cons rfl (op_assign rfl) ?_
    refine OpsL.nilK [4, 5] [103] (s' := ⟨[(4, .b (.ptr 103 0)), (5, B (decide (carry_2 = 0)))], [(103, .box 23 ((eA16 .u32) out_1))]⟩) rfl ?_
    refine Tri.ret ?_
    obtain rfl := Option.some.inj h
    refine Fin.keep [4, 5] [103] (s' := ⟨[(4, .b (.ptr 103 0)), (5, B (decide (carry_2 = 0)))], [(103, .box 23 ((eA16 .u32) out_1))]⟩) rfl ?_
    refine Fin.result' [.agg ((eA16 .u32) out_1), .one (.bool (decide (carry_2 = 0)))] (.inl rfl) rfl (.cons (.agg tyAgg23 rfl rfl rfl rfl) (.cons (.tmp rfl) .nil)) ⟨rfl, rfl⟩

def whole_minus_S (F : Nat) (a0 : A16) (b0 : A16) : Option A16 :=
 Option.bind (iter F (un3 fun out_2 borrow_3 x_4 => if (decide (x_4 < 16)) = true then (Option.bind (idx? a0.l x_4) (fun x_6 => Option.bind (idx? b0.l x_4) (fun x_7 => letN (IntKind.u64.wrap ((IntKind.u64.wrap ((IntKind.u64.wrap x_6) - (IntKind.u64.wrap x_7))) - borrow_3)) fun x_8 => Option.bind (idx? out_2.l x_4) (fun x_9 => letN (IntKind.u64.wrap ((IntKind.u64.wrap ((IntKind.u64.wrap x_6) - (IntKind.u64.wrap x_7))) - borrow_3)) fun x_10 => some (.inl (out_2.set x_4 (IntKind.u32.wrap x_8), x_10 / 9223372036854775808, IntKind.i64.wrap (x_4 + 1))))))) else (some (.inr out_2))) (A16.zero, 0, 0)) (fun out_1 => some out_1)
theorem whole_minus_spec {F : Nat} {a0 : A16} {b0 : A16} {r : A16} (h : whole_minus_S F a0 b0 = some r) : Meets Tryd.prog tabs 48 [] [.agg ((eA16 .u32) a0), .agg ((eA16 .u32) b0)] (Is [] (.b (.agg ((eA16 .u32) r)))) := by
  unfold whole_minus_S at h
  refine Meets.intro 31 Tryd.func48 Tryd.ntmps48 rfl (by simp) fun E => ?_
  show Tri _ E ⟨31, [], []⟩ _ ⟨[(0, .b (.agg ((eA16 .u32) a0))), (1, .b (.agg ((eA16 .u32) b0)))], []⟩ _
  refine Tri.seq ?_
  refine Tri.regionL ?_
  refine OpsL.cons rfl (op_box (k := 101) rfl rfl) ?_
  refine OpsL.cons rfl (op_box (k := 102) rfl rfl) ?_
  refine OpsL.cons rfl (op_alloc (k := 103) tyZero23 rfl) ?_
  refine OpsL.nilK [2, 3, 4] [101, 102, 103] (s' := ⟨[(2, .b (.ptr 101 0)), (3, .b (.ptr 102 0)), (4, .b (.ptr 103 0))], [(101, .box 23 ((eA16 .u32) a0)), (102, .box 23 ((eA16 .u32) b0)), (103, .box 23 ((eA16 .u32) A16.zero))]⟩) rfl ?_
  refine Tri.seq ?_
  refine Tri.regionL ?_
  refine OpsL.cons rfl (op_alloc (k := 104) tyZero23 rfl) ?_
  refine OpsL.nilK [2, 3, 4, 5] [101, 102, 103, 104] (s' := ⟨[(2, .b (.ptr 101 0)), (3, .b (.ptr 102 0)), (4, .b (.ptr 103 0)), (5, .b (.ptr 104 0))], [(101, .box 23 ((eA16 .u32) a0)), (102, .box 23 ((eA16 .u32) b0)), (103, .box 23 ((eA16 .u32) A16.zero)), (104, .box 23 ((eA16 .u32) A16.zero))]⟩) rfl ?_
  refine Tri.seq ?_
  refine Tri.regionL ?_
  refine OpsL.cons rfl (op_assign rfl) ?_
  refine OpsL.nilK [2, 3, 4, 5, 6] [101, 102, 103, 104] (s' := ⟨[(2, .b (.ptr 101 0)), (3, .b (.ptr 102 0)), (4, .b (.ptr 103 0)), (5, .b (.ptr 104 0)), (6, .b (.one (.int .u64 0)))], [(101, .box 23 ((eA16 .u32) a0)), (102, .box 23 ((eA16 .u32) b0)), (103, .box 23 ((eA16 .u32) A16.zero)), (104, .box 23 ((eA16 .u32) A16.zero))]⟩) rfl ?_
  obtain ⟨v1, h2, h⟩ := bnd h
  refine Tri.seqJ (v := v1) (fun (out_1 : A16) => ⟨[(4, .b (.ptr 103 0)), (5, .b (.ptr 104 0))], [(103, .box 23 ((eA16 .u32) A16.zero)), (104, .box 23 ((eA16 .u32) out_1))]⟩) (fun z => z) ?_ ?_
  · refine Tri.seq ?_
    refine Tri.regionL ?_
    refine OpsL.cons rfl (op_move rfl) ?_
    refine OpsL.nilK [2, 3, 4, 5, 6, 9] [101, 102, 103, 104] (s' := ⟨[(2, .b (.ptr 101 0)), (3, .b (.ptr 102 0)), (4, .b (.ptr 103 0)), (5, .b (.ptr 104 0)), (6, .b (.one (.int .u64 0))), (9, I 0)], [(101, .box 23 ((eA16 .u32) a0)), (102, .box 23 ((eA16 .u32) b0)), (103, .box 23 ((eA16 .u32) A16.zero)), (104, .box 23 ((eA16 .u32) A16.zero))]⟩) rfl ?_
    refine Tri.block ?_
    refine Tri.loopJ h2 (un3 fun (out_2 : A16) (borrow_3 : Int) (x_4 : Int) => ⟨[(2, .b (.ptr 101 0)), (3, .b (.ptr 102 0)), (4, .b (.ptr 103 0)), (5, .b (.ptr 104 0)), (6, .b (.one (.int .u64 borrow_3))), (9, I x_4)], [(101, .box 23 ((eA16 .u32) a0)), (102, .box 23 ((eA16 .u32) b0)), (103, .box 23 ((eA16 .u32) A16.zero)), (104, .box 23 ((eA16 .u32) out_2))]⟩) [2, 3, 4, 5, 6, 9] [101, 102, 103, 104] rfl ?_
    rintro ⟨out_2, borrow_3, x_4⟩ o3 h4 hy5
    refine Tri.seq ?_
    refine Tri.regionL ?_
    refine OpsL.cons rfl (op_lss rfl rfl) ?_
    refine OpsL.nilK [2, 3, 4, 5, 6, 9, 10] [101, 102, 103, 104] (s' := ⟨[(2, .b (.ptr 101 0)), (3, .b (.ptr 102 0)), (4, .b (.ptr 103 0)), (5, .b (.ptr 104 0)), (6, .b (.one (.int .u64 borrow_3))), (9, I x_4), (10, B (decide (x_4 < 16)))], [(101, .box 23 ((eA16 .u32) a0)), (102, .box 23 ((eA16 .u32) b0)), (103, .box 23 ((eA16 .u32) A16.zero)), (104, .box 23 ((eA16 .u32) out_2))]⟩) rfl ?_
    refine Tri.seq ?_
    refine Tri.ite h4 rfl (fun _ h4 => ?_) (fun _ h4 => ?_)
    · refine Tri.skip ?_
      refine Fin.keep [2, 3, 4, 5, 6, 9] [101, 102, 103, 104] (s' := ⟨[(2, .b (.ptr 101 0)), (3, .b (.ptr 102 0)), (4, .b (.ptr 103 0)), (5, .b (.ptr 104 0)), (6, .b (.one (.int .u64 borrow_3))), (9, I x_4)], [(101, .box 23 ((eA16 .u32) a0)), (102, .box 23 ((eA16 .u32) b0)), (103, .box 23 ((eA16 .u32) A16.zero)), (104, .box 23 ((eA16 .u32) out_2))]⟩) rfl ?_
      refine Fin.then ?_
      refine Tri.seq ?_
      refine Tri.block ?_
      refine Tri.seq ?_
      refine Tri.regionL ?_
      refine OpsL.cons rfl (op_move rfl) ?_
      refine OpsL.cons rfl (op_assign rfl) ?_
      refine OpsL.nilK [2, 3, 4, 5, 6, 7, 9] [101, 102, 103, 104] (s' := ⟨[(2, .b (.ptr 101 0)), (3, .b (.ptr 102 0)), (4, .b (.ptr 103 0)), (5, .b (.ptr 104 0)), (6, .b (.one (.int .u64 borrow_3))), (7, I x_4), (9, I x_4)], [(101, .box 23 ((eA16 .u32) a0)), (102, .box 23 ((eA16 .u32) b0)), (103, .box 23 ((eA16 .u32) A16.zero)), (104, .box 23 ((eA16 .u32) out_2))]⟩) rfl ?_
      refine Tri.seq ?_
      refine Tri.keep [2, 3, 4, 5, 6, 7, 9] [101, 102, 103, 104] (s' := ⟨[(2, .b (.ptr 101 0)), (3, .b (.ptr 102 0)), (4, .b (.ptr 103 0)), (5, .b (.ptr 104 0)), (6, .b (.one (.int .u64 borrow_3))), (7, I x_4), (9, I x_4)], [(101, .box 23 ((eA16 .u32) a0)), (102, .box 23 ((eA16 .u32) b0)), (103, .box 23 ((eA16 .u32) A16.zero)), (104, .box 23 ((eA16 .u32) out_2))]⟩) rfl ?_
      obtain ⟨x_6, e6, h4⟩ := bnd h4
      obtain ⟨x_7, e7, h4⟩ := bnd h4
      refine Tri.regionY mixed 12 [I x_4, .b (.ptr 101 (0 + (x_4 : Int).toNat * 1)), .b (.one (.int .u32 x_6)), .b (.one (.int .u64 (IntKind.u64.wrap x_6))), I x_4, .b (.ptr 102 (0 + (x_4 : Int).toNat * 1)), .b (.one (.int .u32 x_7)), .b (.one (.int .u64 (IntKind.u64.wrap x_7))), .b (.one (.int .u64 (IntKind.u64.wrap ((IntKind.u64.wrap x_6) - (IntKind.u64.wrap x_7))))), .b (.one (.int .u64 borrow_3)), .b (.one (.int .u64 (IntKind.u64.wrap ((IntKind.u64.wrap ((IntKind.u64.wrap x_6) - (IntKind.u64.wrap x_7))) - borrow_3)))), .b (.one (.int .u64 (IntKind.u64.wrap ((IntKind.u64.wrap ((IntKind.u64.wrap x_6) - (IntKind.u64.wrap x_7))) - borrow_3))))] [2, 3, 4, 5, 7, 8, 9] [101, 102, 103, 104] (s' := ⟨[(2, .b (.ptr 101 0)), (3, .b (.ptr 102 0)), (4, .b (.ptr 103 0)), (5, .b (.ptr 104 0)), (7, I x_4), (8, .b (.one (.int .u64 (IntKind.u64.wrap ((IntKind.u64.wrap ((IntKind.u64.wrap x_6) - (IntKind.u64.wrap x_7))) - borrow_3))))), (9, I x_4)], [(101, .box 23 ((eA16 .u32) a0)), (102, .box 23 ((eA16 .u32) b0)), (103, .box 23 ((eA16 .u32) A16.zero)), (104, .box 23 ((eA16 .u32) out_2))]⟩) rfl ⟨fun _ => .plain rfl (op_move rfl), fun _ => .plain rfl (op_index_p tyArr23 (ix_lo e6) (ix_hi e6) rfl rfl rfl), fun _ => .plain rfl (op_load_p1 tyOne22 rfl rfl (arr_get (post := []) (k := .u32) [] e6 rfl rfl rfl)), fun _ => .plain rfl (op_conv_wrap undi22 undi63 rfl), fun _ => .plain rfl (op_move rfl), fun _ => .plain rfl (op_index_p tyArr23 (ix_lo e7) (ix_hi e7) rfl rfl rfl), fun _ => .plain rfl (op_load_p1 tyOne22 rfl rfl (arr_get (post := []) (k := .u32) [] e7 rfl rfl rfl)), fun _ => .plain rfl (op_conv_wrap undi22 undi63 rfl), fun _ => .plain rfl (op_sub rfl rfl), fun _ => .plain rfl (op_move rfl), fun _ => .plain rfl (op_sub rfl rfl), fun _ => .plain rfl (op_assign rfl), trivial⟩ rfl rfl ?_
      refine Tri.seq ?_
      refine Tri.regionL ?_
      refine OpsL.cons rfl (op_move rfl) ?_
      refine OpsL.consI .u64 h4 rfl (op_move rfl) (fun x_8 h4 => ?_)
      refine OpsL.cons rfl (op_conv_wrap undi63 undi22 rfl) ?_
      obtain ⟨x_9, e8, h4⟩ := bnd h4
      refine OpsL.cons rfl (op_index_p tyArr23 (ix_lo e8) (ix_hi e8) rfl rfl rfl) ?_
      refine OpsL.cons rfl (op_store_p1 tyOne22 rfl rfl rfl (arr_lt (post := []) (k := .u32) [] e8 rfl rfl rfl) (arr_set (post := []) (k := .u32) [] e8 rfl rfl (A16.set_l out_2 x_4 (IntKind.u32.wrap x_8)) rfl rfl)) ?_
      refine OpsL.nilK [2, 3, 4, 5, 8, 9] [101, 102, 103, 104] (s' := ⟨[(2, .b (.ptr 101 0)), (3, .b (.ptr 102 0)), (4, .b (.ptr 103 0)), (5, .b (.ptr 104 0)), (8, .b (.one (.int .u64 (IntKind.u64.wrap ((IntKind.u64.wrap ((IntKind.u64.wrap x_6) - (IntKind.u64.wrap x_7))) - borrow_3))))), (9, I x_4)], [(101, .box 23 ((eA16 .u32) a0)), (102, .box 23 ((eA16 .u32) b0)), (103, .box 23 ((eA16 .u32) A16.zero)), (104, .box 23 ((eA16 .u32) (out_2.set x_4 (IntKind.u32.wrap x_8))))]⟩) rfl ?_
      refine Tri.regionL ?_
      refine OpsL.consI .u64 h4 rfl (op_move rfl) (fun x_10 h4 => ?_)
      refine OpsL.cons rfl (op_shr2 (m := 63) (by decide) rfl rfl rfl) ?_
      refine OpsL.cons rfl (op_assign rfl) ?_
      refine OpsL.nil ?_
      refine Fin.block_normal ?_
      refine Fin.keep [2, 3, 4, 5, 6, 9] [101, 102, 103, 104] (s' := ⟨[(2, .b (.ptr 101 0)), (3, .b (.ptr 102 0)), (4, .b (.ptr 103 0)), (5, .b (.ptr 104 0)), (6, .b (.one (.int .u64 (x_10 / 9223372036854775808)))), (9, I x_4)], [(101, .box 23 ((eA16 .u32) a0)), (102, .box 23 ((eA16 .u32) b0)), (103, .box 23 ((eA16 .u32) A16.zero)), (104, .box 23 ((eA16 .u32) (out_2.set x_4 (IntKind.u32.wrap x_8))))]⟩) rfl ?_
      refine Fin.then ?_
      refine Tri.regionL ?_
      refine OpsL.cons rfl (op_add rfl rfl) ?_
      refine OpsL.cons rfl (op_move rfl) ?_
      refine OpsL.nil ?_
      exact Fin.againJ [2, 3, 4, 5, 6, 9] [101, 102, 103, 104] (out_2.set x_4 (IntKind.u32.wrap x_8), x_10 / 9223372036854775808, IntKind.i64.wrap (x_4 + 1)) (Option.some.inj h4) rfl
    · refine Tri.exit ?_
      refine Fin.then_exit ?_
      obtain rfl := hy5 _ (Option.some.inj h4).symm
      refine Fin.then_exit ?_
      refine Fin.block_exit ?_
      exact Fin.join [4, 5] [103, 104] out_2 rfl rfl
  · rintro out_1 hv
    subst v1
    refine Tri.seq ?_
    refine Tri.regionL ?_
    refine OpsL.cons rfl (op_load_p tyAgg23 rfl rfl rfl rfl) ?_
    refine OpsL.cons rfl (op_store_p tyAgg23 rfl rfl rfl rfl (Nat.le_of_ble_eq_true rfl) rfl) ?_
    refine OpsL.nilK [4] [103] (s' := ⟨[(4, .b (.ptr 103 0))], [(103, .box 23 ((eA16 .u32) out_1))]⟩) rfl ?_
    refine Tri.ret ?_
    obtain rfl := Option.some.inj h
    refine Fin.keep [4] [103] (s' := ⟨[(4, .b (.ptr 103 0))], [(103, .box 23 ((eA16 .u32) out_1))]⟩) rfl ?_
    refine Fin.result' [.agg ((eA16 .u32) out_1)] (.inl rfl) rfl (.cons (.agg tyAgg23 rfl rfl rfl rfl) .nil) ⟨rfl, rfl⟩

def whole_Add_S (F : Nat) (a0 : Big) (b0 : Big) : Option Big :=
 Option.bind (whole_good_S F [a0, b0]) (fun x_1 => if (!x_1) = true then (Option.bind (whole_Bad_S F) (fun x_2 => some x_2)) else (if (a0.Neg == b0.Neg) = true then (Option.bind (whole_plus_S F a0.W b0.W) (un2 fun x_3 x_4 => if (!x_4) = true then (Option.bind (whole_Bad_S F) (fun x_5 => some x_5)) else (Option.bind (whole_signed_S F a0.Neg x_3) (fun x_6 => some x_6)))) else (Option.bind (whole_order_S F a0.W b0.W) (fun x_7 => if (decide (0 ≤ x_7)) = true then (Option.bind (whole_minus_S F a0.W b0.W) (fun x_8 => Option.bind (whole_signed_S F a0.Neg x_8) (fun x_9 => some x_9))) else (Option.bind (whole_minus_S F b0.W a0.W) (fun x_10 => Option.bind (whole_signed_S F b0.Neg x_10) (fun x_11 => some x_11)))))))
theorem whole_Add_spec {F : Nat} {a0 : Big} {b0 : Big} {r : Big} (h : whole_Add_S F a0 b0 = some r) : Meets Tryd.prog tabs 10 [] [.agg (eBig a0), .agg (eBig b0)] (Is [] (.b (.agg (eBig r)))) := by
  unfold whole_Add_S at h
  refine Meets.intro 55 Tryd.func10 Tryd.ntmps10 rfl (by simp) fun E => ?_
  show Tri _ E ⟨55, [], []⟩ _ ⟨[(0, .b (.agg (eBig a0))), (1, .b (.agg (eBig b0)))], []⟩ _
  refine Tri.seq ?_
  refine Tri.regionL ?_
  refine OpsL.cons rfl (op_box (k := 101) rfl rfl) ?_
  refine OpsL.cons rfl (op_box (k := 102) rfl rfl) ?_
  refine OpsL.cons rfl (op_alloc (k := 103) tyZero25 rfl) ?_
  refine OpsL.nilK [2, 3, 4] [101, 102, 103] (s' := ⟨[(2, .b (.ptr 101 0)), (3, .b (.ptr 102 0)), (4, .b (.ptr 103 0))], [(101, .box 25 (eBig a0)), (102, .box 25 (eBig b0)), (103, .box 25 (.bool false :: .bool false :: ((eA16 .u32) A16.zero)))]⟩) rfl ?_
  refine Tri.seq ?_
  refine Tri.seq ?_
  refine Tri.regionL ?_
  refine OpsL.cons rfl (op_load_p tyAgg25 rfl rfl rfl rfl) ?_
  refine OpsL.cons rfl (op_load_p tyAgg25 rfl rfl rfl rfl) ?_
  refine OpsL.cons rfl (op_buildSlice (k := 104) (es := [a0, b0].map eBig) tySl85 rfl rfl (uni_map fun _ => rfl) rfl (by decide) (by decide) rfl) ?_
  obtain ⟨x_1, e1, h⟩ := bnd h
  refine OpsL.cons rfl (op_callB (whole_good_spec e1) goes43 rfl CP.flat_bool) ?_
  refine OpsL.cons rfl (op_not rfl) ?_
  refine OpsL.nilK [2, 3, 4, 11] [101, 102, 103] (s' := ⟨[(2, .b (.ptr 101 0)), (3, .b (.ptr 102 0)), (4, .b (.ptr 103 0)), (11, B (!x_1))], [(101, .box 25 (eBig a0)), (102, .box 25 (eBig b0)), (103, .box 25 (.bool false :: .bool false :: ((eA16 .u32) A16.zero)))]⟩) rfl ?_
  refine Tri.ite h rfl (fun _ h => ?_) (fun _ h => ?_)
  · refine Tri.seq ?_
    refine Tri.regionL ?_
    obtain ⟨x_2, e2, h⟩ := bnd h
    refine OpsL.cons rfl (op_call0 (whole_Bad_spec e2) goes44 rfl rfl) ?_
    refine OpsL.cons rfl (op_store_p tyAgg25 rfl rfl rfl rfl (Nat.le_of_ble_eq_true rfl) rfl) ?_
    refine OpsL.nilK [4] [103] (s' := ⟨[(4, .b (.ptr 103 0))], [(103, .box 25 (eBig x_2))]⟩) rfl ?_
    refine Tri.ret ?_
    refine Fin.then_ret ?_
    obtain rfl := Option.some.inj h
    refine Fin.keep [4] [103] (s' := ⟨[(4, .b (.ptr 103 0))], [(103, .box 25 (eBig x_2))]⟩) rfl ?_
    refine Fin.result' [.agg (eBig x_2)] (.inl rfl) rfl (.cons (.agg tyAgg25 rfl rfl rfl rfl) .nil) ⟨rfl, rfl⟩
  · refine Tri.skip ?_
    refine Fin.keep [2, 3, 4] [101, 102, 103] (s' := ⟨[(2, .b (.ptr 101 0)), (3, .b (.ptr 102 0)), (4, .b (.ptr 103 0))], [(101, .box 25 (eBig a0)), (102, .box 25 (eBig b0)), (103, .box 25 (.bool false :: .bool false :: ((eA16 .u32) A16.zero)))]⟩) rfl ?_
    refine Fin.then ?_
    refine Tri.seq ?_
    refine Tri.seq ?_
    refine Tri.regionL ?_
    refine OpsL.cons rfl (op_field_p tyFld25_1 rfl rfl) ?_
    refine OpsL.cons rfl (op_load_p1 tyOne4 rfl rfl rfl) ?_
    refine OpsL.cons rfl (op_field_p tyFld25_1 rfl rfl) ?_
    refine OpsL.cons rfl (op_load_p1 tyOne4 rfl rfl rfl) ?_
    refine OpsL.cons rfl (op_eql_bool und4 rfl rfl) ?_
    refine OpsL.nilK [2, 3, 4, 17] [101, 102, 103] (s' := ⟨[(2, .b (.ptr 101 0)), (3, .b (.ptr 102 0)), (4, .b (.ptr 103 0)), (17, B (a0.Neg == b0.Neg))], [(101, .box 25 (eBig a0)), (102, .box 25 (eBig b0)), (103, .box 25 (.bool false :: .bool false :: ((eA16 .u32) A16.zero)))]⟩) rfl ?_
    refine Tri.ite h rfl (fun _ h => ?_) (fun _ h => ?_)
    · refine Tri.seq ?_
      refine Tri.regionL ?_
      refine OpsL.cons rfl (op_field_p tyFld25_2 rfl rfl) ?_
      refine OpsL.cons rfl (op_load_p tyAgg23 rfl rfl rfl rfl) ?_
      refine OpsL.cons rfl (op_field_p tyFld25_2 rfl rfl) ?_
      refine OpsL.cons rfl (op_load_p tyAgg23 rfl rfl rfl rfl) ?_
      obtain ⟨⟨x_3, x_4⟩, e3, h⟩ := bnd h
      refine OpsL.cons rfl (op_call0 (whole_plus_spec e3) goes45 rfl rfl) ?_
      refine OpsL.keep [2, 4, 23] [101, 103] (s' := ⟨[(2, .b (.ptr 101 0)), (4, .b (.ptr 103 0)), (23, .tup [.agg ((eA16 .u32) x_3), .one (.bool x_4)])], [(101, .box 25 (eBig a0)), (103, .box 25 (.bool false :: .bool false :: ((eA16 .u32) A16.zero)))]⟩) rfl ?_
      refine OpsL.cons rfl (op_move rfl) ?_
      refine OpsL.cons rfl (op_extract rfl rfl) ?_
      refine OpsL.cons rfl (op_extract rfl rfl) ?_
      refine OpsL.cons rfl (op_alloc (k := 105) tyZero23 rfl) ?_
      refine OpsL.cons rfl (op_store_p tyAgg23 rfl rfl rfl rfl (Nat.le_of_ble_eq_true rfl) rfl) ?_
      refine OpsL.cons rfl (op_assign rfl) ?_
      refine OpsL.nilK [2, 4, 5, 6] [101, 103, 105] (s' := ⟨[(2, .b (.ptr 101 0)), (4, .b (.ptr 103 0)), (5, .b (.ptr 105 0)), (6, B x_4)], [(101, .box 25 (eBig a0)), (103, .box 25 (.bool false :: .bool false :: ((eA16 .u32) A16.zero))), (105, .box 23 ((eA16 .u32) x_3))]⟩) rfl ?_
      refine Tri.seq ?_
      refine Tri.seq ?_
      refine Tri.regionL ?_
      refine OpsL.cons rfl (op_move rfl) ?_
      refine OpsL.cons rfl (op_not rfl) ?_
      refine OpsL.nilK [2, 4, 5, 27] [101, 103, 105] (s' := ⟨[(2, .b (.ptr 101 0)), (4, .b (.ptr 103 0)), (5, .b (.ptr 105 0)), (27, B (!x_4))], [(101, .box 25 (eBig a0)), (103, .box 25 (.bool false :: .bool false :: ((eA16 .u32) A16.zero))), (105, .box 23 ((eA16 .u32) x_3))]⟩) rfl ?_
      refine Tri.ite h rfl (fun _ h => ?_) (fun _ h => ?_)
      · refine Tri.seq ?_
        refine Tri.regionL ?_
        obtain ⟨x_5, e4, h⟩ := bnd h
        refine OpsL.cons rfl (op_call0 (whole_Bad_spec e4) goes44 rfl rfl) ?_
        refine OpsL.cons rfl (op_store_p tyAgg25 rfl rfl rfl rfl (Nat.le_of_ble_eq_true rfl) rfl) ?_
        refine OpsL.nilK [4] [103] (s' := ⟨[(4, .b (.ptr 103 0))], [(103, .box 25 (eBig x_5))]⟩) rfl ?_
        refine Tri.ret ?_
        refine Fin.then_ret ?_
        refine Fin.then_ret ?_
        obtain rfl := Option.some.inj h
        refine Fin.keep [4] [103] (s' := ⟨[(4, .b (.ptr 103 0))], [(103, .box 25 (eBig x_5))]⟩) rfl ?_
        refine Fin.result' [.agg (eBig x_5)] (.inl rfl) rfl (.cons (.agg tyAgg25 rfl rfl rfl rfl) .nil) ⟨rfl, rfl⟩
      · refine Tri.skip ?_
        refine Fin.keep [2, 4, 5] [101, 103, 105] (s' := ⟨[(2, .b (.ptr 101 0)), (4, .b (.ptr 103 0)), (5, .b (.ptr 105 0))], [(101, .box 25 (eBig a0)), (103, .box 25 (.bool false :: .bool false :: ((eA16 .u32) A16.zero))), (105, .box 23 ((eA16 .u32) x_3))]⟩) rfl ?_
        refine Fin.then ?_
        refine Tri.seq ?_
        refine Tri.regionL ?_
        refine OpsL.cons rfl (op_field_p tyFld25_1 rfl rfl) ?_
        refine OpsL.cons rfl (op_load_p1 tyOne4 rfl rfl rfl) ?_
        refine OpsL.cons rfl (op_load_p tyAgg23 rfl rfl rfl rfl) ?_
        obtain ⟨x_6, e5, h⟩ := bnd h
        refine OpsL.cons rfl (op_call0 (whole_signed_spec e5) goes46 rfl rfl) ?_
        refine OpsL.cons rfl (op_store_p tyAgg25 rfl rfl rfl rfl (Nat.le_of_ble_eq_true rfl) rfl) ?_
        refine OpsL.nilK [4] [103] (s' := ⟨[(4, .b (.ptr 103 0))], [(103, .box 25 (eBig x_6))]⟩) rfl ?_
        refine Tri.ret ?_
        refine Fin.then_ret ?_
        obtain rfl := Option.some.inj h
        refine Fin.keep [4] [103] (s' := ⟨[(4, .b (.ptr 103 0))], [(103, .box 25 (eBig x_6))]⟩) rfl ?_
        refine Fin.result' [.agg (eBig x_6)] (.inl rfl) rfl (.cons (.agg tyAgg25 rfl rfl rfl rfl) .nil) ⟨rfl, rfl⟩
    · refine Tri.skip ?_
      refine Fin.keep [2, 3, 4] [101, 102, 103] (s' := ⟨[(2, .b (.ptr 101 0)), (3, .b (.ptr 102 0)), (4, .b (.ptr 103 0))], [(101, .box 25 (eBig a0)), (102, .box 25 (eBig b0)), (103, .box 25 (.bool false :: .bool false :: ((eA16 .u32) A16.zero)))]⟩) rfl ?_
      refine Fin.then ?_
      refine Tri.seq ?_
      refine Tri.seq ?_
      refine Tri.regionL ?_
      refine OpsL.cons rfl (op_field_p tyFld25_2 rfl rfl) ?_
      refine OpsL.cons rfl (op_load_p tyAgg23 rfl rfl rfl rfl) ?_
      refine OpsL.cons rfl (op_field_p tyFld25_2 rfl rfl) ?_
      refine OpsL.cons rfl (op_load_p tyAgg23 rfl rfl rfl rfl) ?_
      obtain ⟨x_7, e6, h⟩ := bnd h
      refine OpsL.cons rfl (op_call0 (whole_order_spec e6) goes47 rfl rfl) ?_
      refine OpsL.cons rfl (op_geq rfl rfl) ?_
      refine OpsL.nilK [2, 3, 4, 38] [101, 102, 103] (s' := ⟨[(2, .b (.ptr 101 0)), (3, .b (.ptr 102 0)), (4, .b (.ptr 103 0)), (38, B (decide (0 ≤ x_7)))], [(101, .box 25 (eBig a0)), (102, .box 25 (eBig b0)), (103, .box 25 (.bool false :: .bool false :: ((eA16 .u32) A16.zero)))]⟩) rfl ?_
      refine Tri.ite h rfl (fun _ h => ?_) (fun _ h => ?_)
      · refine Tri.seq ?_
        refine Tri.keep [2, 3, 4] [101, 102, 103] (s' := ⟨[(2, .b (.ptr 101 0)), (3, .b (.ptr 102 0)), (4, .b (.ptr 103 0))], [(101, .box 25 (eBig a0)), (102, .box 25 (eBig b0)), (103, .box 25 (.bool false :: .bool false :: ((eA16 .u32) A16.zero)))]⟩) rfl ?_
        obtain ⟨x_8, e7, h⟩ := bnd h
        obtain ⟨x_9, e8, h⟩ := bnd h
        refine Tri.regionY mixed 8 [.b (.ptr 101 1), B a0.Neg, .b (.ptr 101 2), .b (.agg ((eA16 .u32) a0.W)), .b (.ptr 102 2), .b (.agg ((eA16 .u32) b0.W)), .b (.agg ((eA16 .u32) x_8)), .b (.agg (eBig x_9))] [4] [103] (s' := ⟨[(4, .b (.ptr 103 0))], [(103, .box 25 (eBig x_9))]⟩) rfl ⟨fun _ => .plain rfl (op_field_p tyFld25_1 rfl rfl), fun _ => .plain rfl (op_load_p1 tyOne4 rfl rfl rfl), fun _ => .plain rfl (op_field_p tyFld25_2 rfl rfl), fun _ => .plain rfl (op_load_p tyAgg23 rfl rfl rfl rfl), fun _ => .plain rfl (op_field_p tyFld25_2 rfl rfl), fun _ => .plain rfl (op_load_p tyAgg23 rfl rfl rfl rfl), fun _ => .plain rfl (op_call0 (whole_minus_spec e7) goes48 rfl rfl), fun _ => .plain rfl (op_call0 (whole_signed_spec e8) goes46 rfl rfl), trivial⟩ ⟨_, by exact .plain rfl (op_store_p tyAgg25 rfl rfl rfl rfl (Nat.le_of_ble_eq_true rfl) rfl), rfl⟩ rfl ?_
        refine Tri.ret ?_
        refine Fin.then_ret ?_
        obtain rfl := Option.some.inj h
        refine Fin.keep [4] [103] (s' := ⟨[(4, .b (.ptr 103 0))], [(103, .box 25 (eBig x_9))]⟩) rfl ?_
        refine Fin.result' [.agg (eBig x_9)] (.inl rfl) rfl (.cons (.agg tyAgg25 rfl rfl rfl rfl) .nil) ⟨rfl, rfl⟩
      · refine Tri.skip ?_
        refine Fin.keep [2, 3, 4] [101, 102, 103] (s' := ⟨[(2, .b (.ptr 101 0)), (3, .b (.ptr 102 0)), (4, .b (.ptr 103 0))], [(101, .box 25 (eBig a0)), (102, .box 25 (eBig b0)), (103, .box 25 (.bool false :: .bool false :: ((eA16 .u32) A16.zero)))]⟩) rfl ?_
        refine Fin.then ?_
        refine Tri.seq ?_
        refine Tri.keep [2, 3, 4] [101, 102, 103] (s' := ⟨[(2, .b (.ptr 101 0)), (3, .b (.ptr 102 0)), (4, .b (.ptr 103 0))], [(101, .box 25 (eBig a0)), (102, .box 25 (eBig b0)), (103, .box 25 (.bool false :: .bool false :: ((eA16 .u32) A16.zero)))]⟩) rfl ?_
        obtain ⟨x_10, e9, h⟩ := bnd h
        obtain ⟨x_11, e10, h⟩ := bnd h
        refine Tri.regionY mixed 8 [.b (.ptr 102 1), B b0.Neg, .b (.ptr 102 2), .b (.agg ((eA16 .u32) b0.W)), .b (.ptr 101 2), .b (.agg ((eA16 .u32) a0.W)), .b (.agg ((eA16 .u32) x_10)), .b (.agg (eBig x_11))] [4] [103] (s' := ⟨[(4, .b (.ptr 103 0))], [(103, .box 25 (eBig x_11))]⟩) rfl ⟨fun _ => .plain rfl (op_field_p tyFld25_1 rfl rfl), fun _ => .plain rfl (op_load_p1 tyOne4 rfl rfl rfl), fun _ => .plain rfl (op_field_p tyFld25_2 rfl rfl), fun _ => .plain rfl (op_load_p tyAgg23 rfl rfl rfl rfl), fun _ => .plain rfl (op_field_p tyFld25_2 rfl rfl), fun _ => .plain rfl (op_load_p tyAgg23 rfl rfl rfl rfl), fun _ => .plain rfl (op_call0 (whole_minus_spec e9) goes48 rfl rfl), fun _ => .plain rfl (op_call0 (whole_signed_spec e10) goes46 rfl rfl), trivial⟩ ⟨_, by exact .plain rfl (op_store_p tyAgg25 rfl rfl rfl rfl (Nat.le_of_ble_eq_true rfl) rfl), rfl⟩ rfl ?_
        refine Tri.ret ?_
        obtain rfl := Option.some.inj h
        refine Fin.keep [4] [103] (s' := ⟨[(4, .b (.ptr 103 0))], [(103, .box 25 (eBig x_11))]⟩) rfl ?_
        refine Fin.result' [.agg (eBig x_11)] (.inl rfl) rfl (.cons (.agg tyAgg25 rfl rfl rfl rfl) .nil) ⟨rfl, rfl⟩

def whole_Sub_S (F : Nat) (a0 : Big) (b0 : Big) : Option Big :=
 Option.bind (whole_Neg_S F b0) (fun x_1 => Option.bind (whole_Add_S F a0 x_1) (fun x_2 => some x_2))
theorem whole_Sub_spec {F : Nat} {a0 : Big} {b0 : Big} {r : Big} (h : whole_Sub_S F a0 b0 = some r) : Meets Tryd.prog tabs 12 [] [.agg (eBig a0), .agg (eBig b0)] (Is [] (.b (.agg (eBig r)))) := by
  unfold whole_Sub_S at h
  refine Meets.intro 9 Tryd.func12 Tryd.ntmps12 rfl (by simp) fun E => ?_
  show Tri _ E ⟨9, [], []⟩ _ ⟨[(0, .b (.agg (eBig a0))), (1, .b (.agg (eBig b0)))], []⟩ _
  refine Tri.seq ?_
  refine Tri.regionL ?_
  refine OpsL.cons rfl (op_box (k := 101) rfl rfl) ?_
  refine OpsL.cons rfl (op_box (k := 102) rfl rfl) ?_
  refine OpsL.cons rfl (op_alloc (k := 103) tyZero25 rfl) ?_
  refine OpsL.nilK [2, 3, 4] [101, 102, 103] (s' := ⟨[(2, .b (.ptr 101 0)), (3, .b (.ptr 102 0)), (4, .b (.ptr 103 0))], [(101, .box 25 (eBig a0)), (102, .box 25 (eBig b0)), (103, .box 25 (.bool false :: .bool false :: ((eA16 .u32) A16.zero)))]⟩) rfl ?_
  refine Tri.seq ?_
  refine Tri.keep [2, 3, 4] [101, 102, 103] (s' := ⟨[(2, .b (.ptr 101 0)), (3, .b (.ptr 102 0)), (4, .b (.ptr 103 0))], [(101, .box 25 (eBig a0)), (102, .box 25 (eBig b0)), (103, .box 25 (.bool false :: .bool false :: ((eA16 .u32) A16.zero)))]⟩) rfl ?_
  obtain ⟨x_1, e1, h⟩ := bnd h
  obtain ⟨x_2, e2, h⟩ := bnd h
  refine Tri.regionY mixed 4 [.b (.agg (eBig a0)), .b (.agg (eBig b0)), .b (.agg (eBig x_1)), .b (.agg (eBig x_2))] [4] [103] (s' := ⟨[(4, .b (.ptr 103 0))], [(103, .box 25 (eBig x_2))]⟩) rfl ⟨fun _ => .plain rfl (op_load_p tyAgg25 rfl rfl rfl rfl), fun _ => .plain rfl (op_load_p tyAgg25 rfl rfl rfl rfl), fun _ => .plain rfl (op_call0 (whole_Neg_spec e1) goes14 rfl rfl), fun _ => .plain rfl (op_call0 (whole_Add_spec e2) goes10 rfl rfl), trivial⟩ ⟨_, by exact .plain rfl (op_store_p tyAgg25 rfl rfl rfl rfl (Nat.le_of_ble_eq_true rfl) rfl), rfl⟩ rfl ?_
  refine Tri.ret ?_
  obtain rfl := Option.some.inj h
  refine Fin.keep [4] [103] (s' := ⟨[(4, .b (.ptr 103 0))], [(103, .box 25 (eBig x_2))]⟩) rfl ?_
  refine Fin.result' [.agg (eBig x_2)] (.inl rfl) rfl (.cons (.agg tyAgg25 rfl rfl rfl rfl) .nil) ⟨rfl, rfl⟩

def whole_divided_S (F : Nat) (a0 : Big) (b0 : Big) : Option (Big × Big) :=
 Option.bind (whole_good_S F [a0, b0]) (fun x_1 => Option.bind (gcall (!(!x_1)) (whole_Sign_S F b0)) (fun x_2 => if ((!x_1) || (decide (x_2 = 0))) = true then (Option.bind (whole_Bad_S F) (fun x_3 => Option.bind (whole_Bad_S F) (fun x_4 => some (x_3, x_4)))) else (Option.bind (Option.bind (whole_Small_S F a0) (un2 fun x_5 x_6 => if (x_6 && (decide (x_5 ≠ (-9223372036854775808)))) = true then (Option.bind (whole_Small_S F b0) (un2 fun x_7 x_8 => if (x_8 && (decide (x_7 ≠ (-9223372036854775808)))) = true then (Option.bind (quo? .i64 x_5 x_7) (fun x_9 => Option.bind (rem? x_5 x_7) (fun x_10 => Option.bind (letN ((decide (x_10 ≠ 0)) && ((decide (x_10 < 0)) != (decide (x_7 < 0)))) fun x_13 => if x_13 = true then (some (IntKind.i64.wrap (x_9 - 1), IntKind.i64.wrap (x_10 + x_7))) else (some (x_9, x_10))) (un2 fun q_11 r_12 => Option.bind (whole_Of_S F q_11) (fun x_14 => Option.bind (whole_Of_S F r_12) (fun x_15 => some (.inr (x_14, x_15)))))))) else (some (.inl ())))) else (some (.inl ())))) (alt2 (fun _ => Option.bind (whole_quotient_S F a0.W b0.W) (un2 fun x_16 x_17 => Option.bind (whole_signed_S F (a0.Neg != b0.Neg) x_16) (fun x_18 => Option.bind (if ((decide (x_17 ≠ A16.zero)) && (a0.Neg != b0.Neg)) = true then (Option.bind (whole_Of_S F 1) (fun x_21 => Option.bind (whole_Sub_S F x_18 x_21) (fun x_22 => Option.bind (whole_minus_S F b0.W x_17) (fun x_23 => some (x_23, x_22))))) else (some (x_17, x_18))) (un2 fun r_19 q_20 => Option.bind (whole_signed_S F b0.Neg r_19) (fun x_24 => some (q_20, x_24)))))) (fun y => some y)))))
theorem whole_divided_spec {F : Nat} {a0 : Big} {b0 : Big} {r : Big × Big} (h : whole_divided_S F a0 b0 = some r) : Meets Tryd.prog tabs 62 [] [.agg (eBig a0), .agg (eBig b0)] (Is [] (.tup [.agg (eBig r.1), .agg (eBig r.2)])) := by
  unfold whole_divided_S at h
  refine Meets.intro 108 Tryd.func62 Tryd.ntmps62 rfl (by simp) fun E => ?_
  show Tri _ E ⟨108, [], []⟩ _ ⟨[(0, .b (.agg (eBig a0))), (1, .b (.agg (eBig b0)))], []⟩ _
  refine Tri.seq ?_
  refine Tri.regionL ?_
  refine OpsL.cons rfl (op_box (k := 101) rfl rfl) ?_
  refine OpsL.cons rfl (op_box (k := 102) rfl rfl) ?_
  refine OpsL.cons rfl (op_alloc (k := 103) tyZero25 rfl) ?_
  refine OpsL.cons rfl (op_alloc (k := 104) tyZero25 rfl) ?_
  refine OpsL.nilK [2, 3, 4, 5] [101, 102, 103, 104] (s' := ⟨[(2, .b (.ptr 101 0)), (3, .b (.ptr 102 0)), (4, .b (.ptr 103 0)), (5, .b (.ptr 104 0))], [(101, .box 25 (eBig a0)), (102, .box 25 (eBig b0)), (103, .box 25 (.bool false :: .bool false :: ((eA16 .u32) A16.zero))), (104, .box 25 (.bool false :: .bool false :: ((eA16 .u32) A16.zero)))]⟩) rfl ?_
  refine Tri.seq ?_
  refine Tri.seq ?_
  refine Tri.regionL ?_
  refine OpsL.cons rfl (op_load_p tyAgg25 rfl rfl rfl rfl) ?_
  refine OpsL.cons rfl (op_load_p tyAgg25 rfl rfl rfl rfl) ?_
  refine OpsL.cons rfl (op_buildSlice (k := 105) (es := [a0, b0].map eBig) tySl85 rfl rfl (uni_map fun _ => rfl) rfl (by decide) (by decide) rfl) ?_
  obtain ⟨x_1, e1, h⟩ := bnd h
  refine OpsL.cons rfl (op_callB (whole_good_spec e1) goes43 rfl CP.flat_bool) ?_
  refine OpsL.keep [2, 3, 4, 5, 18] [101, 102, 103, 104] (s' := ⟨[(2, .b (.ptr 101 0)), (3, .b (.ptr 102 0)), (4, .b (.ptr 103 0)), (5, .b (.ptr 104 0)), (18, B x_1)], [(101, .box 25 (eBig a0)), (102, .box 25 (eBig b0)), (103, .box 25 (.bool false :: .bool false :: ((eA16 .u32) A16.zero))), (104, .box 25 (.bool false :: .bool false :: ((eA16 .u32) A16.zero)))]⟩) rfl ?_
  refine OpsL.cons rfl (op_not rfl) ?_
  refine OpsL.cons rfl (op_move rfl) ?_
  refine OpsL.consG (!(!x_1)) 99 [] (.plain rfl) (eq_f _) rfl rfl (fun g2 => trivial) (fun g2 => op_load_p tyAgg25 rfl rfl rfl rfl) ?_
  obtain ⟨x_2, e4, h⟩ := bnd h
  refine OpsL.consG (!(!x_1)) 99 [21] (.plain rfl) (eq_f _) rfl rfl (fun g3 => ⟨g3, trivial⟩) (fun g3 => op_call0 (whole_Sign_spec (gc e4 g3)) goes18 rfl rfl) ?_
  refine OpsL.consG (!(!x_1)) 99 [22] (.plain rfl) (eq_f _) rfl rfl (fun g5 => ⟨g5, trivial⟩) (fun g5 => op_eql rfl rfl) ?_
  refine OpsL.cons rfl (op_pick_or (fun e => by rw [e]; rfl) rfl rfl rfl rfl) ?_
  refine OpsL.nilK [2, 3, 4, 5, 24] [101, 102, 103, 104] (s' := ⟨[(2, .b (.ptr 101 0)), (3, .b (.ptr 102 0)), (4, .b (.ptr 103 0)), (5, .b (.ptr 104 0)), (24, B ((!x_1) || (decide (x_2 = 0))))], [(101, .box 25 (eBig a0)), (102, .box 25 (eBig b0)), (103, .box 25 (.bool false :: .bool false :: ((eA16 .u32) A16.zero))), (104, .box 25 (.bool false :: .bool false :: ((eA16 .u32) A16.zero)))]⟩) rfl ?_
  refine Tri.ite h rfl (fun _ h => ?_) (fun _ h => ?_)
  · refine Tri.seq ?_
    refine Tri.regionL ?_
    obtain ⟨x_3, e6, h⟩ := bnd h
    refine OpsL.cons rfl (op_call0 (whole_Bad_spec e6) goes44 rfl rfl) ?_
    obtain ⟨x_4, e7, h⟩ := bnd h
    refine OpsL.cons rfl (op_call0 (whole_Bad_spec e7) goes44 rfl rfl) ?_
    refine OpsL.cons rfl (op_store_p tyAgg25 rfl rfl rfl rfl (Nat.le_of_ble_eq_true rfl) rfl) ?_
    refine OpsL.cons rfl (op_store_p tyAgg25 rfl rfl rfl rfl (Nat.le_of_ble_eq_true rfl) rfl) ?_
    refine OpsL.nilK [4, 5] [103, 104] (s' := ⟨[(4, .b (.ptr 103 0)), (5, .b (.ptr 104 0))], [(103, .box 25 (eBig x_3)), (104, .box 25 (eBig x_4))]⟩) rfl ?_
    refine Tri.ret ?_
    refine Fin.then_ret ?_
    obtain rfl := Option.some.inj h
    refine Fin.keep [4, 5] [103, 104] (s' := ⟨[(4, .b (.ptr 103 0)), (5, .b (.ptr 104 0))], [(103, .box 25 (eBig x_3)), (104, .box 25 (eBig x_4))]⟩) rfl ?_
    refine Fin.result' [.agg (eBig x_3), .agg (eBig x_4)] (.inl rfl) rfl (.cons (.agg tyAgg25 rfl rfl rfl rfl) (.cons (.agg tyAgg25 rfl rfl rfl rfl) .nil)) ⟨rfl, rfl⟩
  · refine Tri.skip ?_
    refine Fin.keep [2, 3, 4, 5] [101, 102, 103, 104] (s' := ⟨[(2, .b (.ptr 101 0)), (3, .b (.ptr 102 0)), (4, .b (.ptr 103 0)), (5, .b (.ptr 104 0))], [(101, .box 25 (eBig a0)), (102, .box 25 (eBig b0)), (103, .box 25 (.bool false :: .bool false :: ((eA16 .u32) A16.zero))), (104, .box 25 (.bool false :: .bool false :: ((eA16 .u32) A16.zero)))]⟩) rfl ?_
    refine Fin.then ?_
    obtain ⟨v8, h9, h⟩ := bnd h
    refine Tri.seqJ (v := v8) (fun (_ : Unit) => ⟨[(2, .b (.ptr 101 0)), (3, .b (.ptr 102 0)), (4, .b (.ptr 103 0)), (5, .b (.ptr 104 0))], [(101, .box 25 (eBig a0)), (102, .box 25 (eBig b0)), (103, .box 25 (.bool false :: .bool false :: ((eA16 .u32) A16.zero))), (104, .box 25 (.bool false :: .bool false :: ((eA16 .u32) A16.zero)))]⟩) (fun z => .inl z) ?_ ?_
    · refine Tri.seq ?_
      refine Tri.regionL ?_
      refine OpsL.cons rfl (op_load_p tyAgg25 rfl rfl rfl rfl) ?_
      obtain ⟨⟨x_5, x_6⟩, e10, h9⟩ := bnd h9
      refine OpsL.cons rfl (op_call0 (whole_Small_spec e10) goes39 rfl rfl) ?_
      refine OpsL.cons rfl (op_move rfl) ?_
      refine OpsL.cons rfl (op_extract rfl rfl) ?_
      refine OpsL.cons rfl (op_extract rfl rfl) ?_
      refine OpsL.cons rfl (op_assign rfl) ?_
      refine OpsL.cons rfl (op_assign rfl) ?_
      refine OpsL.nilK [2, 3, 4, 5, 6, 7] [101, 102, 103, 104] (s' := ⟨[(2, .b (.ptr 101 0)), (3, .b (.ptr 102 0)), (4, .b (.ptr 103 0)), (5, .b (.ptr 104 0)), (6, I x_5), (7, B x_6)], [(101, .box 25 (eBig a0)), (102, .box 25 (eBig b0)), (103, .box 25 (.bool false :: .bool false :: ((eA16 .u32) A16.zero))), (104, .box 25 (.bool false :: .bool false :: ((eA16 .u32) A16.zero)))]⟩) rfl ?_
      refine Tri.seq ?_
      refine Tri.regionL ?_
      refine OpsL.cons rfl (op_move rfl) ?_
      refine OpsL.cons rfl (op_move rfl) ?_
      refine OpsL.consG x_6 99 [] (.plain rfl) (eq_t _) rfl rfl (fun g11 => trivial) (fun g11 => op_move rfl) ?_
      refine OpsL.consG x_6 99 [34] (.plain rfl) (eq_t _) rfl rfl (fun g12 => ⟨g12, trivial⟩) (fun g12 => op_neq rfl rfl) ?_
      refine OpsL.cons rfl (op_pick_and (fun e => e) rfl rfl rfl rfl) ?_
      refine OpsL.nilK [2, 3, 4, 5, 6, 36] [101, 102, 103, 104] (s' := ⟨[(2, .b (.ptr 101 0)), (3, .b (.ptr 102 0)), (4, .b (.ptr 103 0)), (5, .b (.ptr 104 0)), (6, I x_5), (36, B (x_6 && (decide (x_5 ≠ (-9223372036854775808)))))], [(101, .box 25 (eBig a0)), (102, .box 25 (eBig b0)), (103, .box 25 (.bool false :: .bool false :: ((eA16 .u32) A16.zero))), (104, .box 25 (.bool false :: .bool false :: ((eA16 .u32) A16.zero)))]⟩) rfl ?_
      refine Tri.ite h9 rfl (fun _ h9 => ?_) (fun _ h9 => ?_)
      · refine Tri.seq ?_
        refine Tri.regionL ?_
        refine OpsL.cons rfl (op_load_p tyAgg25 rfl rfl rfl rfl) ?_
        obtain ⟨⟨x_7, x_8⟩, e13, h9⟩ := bnd h9
        refine OpsL.cons rfl (op_call0 (whole_Small_spec e13) goes39 rfl rfl) ?_
        refine OpsL.cons rfl (op_move rfl) ?_
        refine OpsL.cons rfl (op_extract rfl rfl) ?_
        refine OpsL.cons rfl (op_extract rfl rfl) ?_
        refine OpsL.cons rfl (op_assign rfl) ?_
        refine OpsL.cons rfl (op_assign rfl) ?_
        refine OpsL.nilK [2, 3, 4, 5, 6, 8, 9] [101, 102, 103, 104] (s' := ⟨[(2, .b (.ptr 101 0)), (3, .b (.ptr 102 0)), (4, .b (.ptr 103 0)), (5, .b (.ptr 104 0)), (6, I x_5), (8, I x_7), (9, B x_8)], [(101, .box 25 (eBig a0)), (102, .box 25 (eBig b0)), (103, .box 25 (.bool false :: .bool false :: ((eA16 .u32) A16.zero))), (104, .box 25 (.bool false :: .bool false :: ((eA16 .u32) A16.zero)))]⟩) rfl ?_
        refine Tri.seq ?_
        refine Tri.regionL ?_
        refine OpsL.cons rfl (op_move rfl) ?_
        refine OpsL.cons rfl (op_move rfl) ?_
        refine OpsL.consG x_8 99 [] (.plain rfl) (eq_t _) rfl rfl (fun g14 => trivial) (fun g14 => op_move rfl) ?_
        refine OpsL.consG x_8 99 [44] (.plain rfl) (eq_t _) rfl rfl (fun g15 => ⟨g15, trivial⟩) (fun g15 => op_neq rfl rfl) ?_
        refine OpsL.cons rfl (op_pick_and (fun e => e) rfl rfl rfl rfl) ?_
        refine OpsL.nilK [2, 3, 4, 5, 6, 8, 46] [101, 102, 103, 104] (s' := ⟨[(2, .b (.ptr 101 0)), (3, .b (.ptr 102 0)), (4, .b (.ptr 103 0)), (5, .b (.ptr 104 0)), (6, I x_5), (8, I x_7), (46, B (x_8 && (decide (x_7 ≠ (-9223372036854775808)))))], [(101, .box 25 (eBig a0)), (102, .box 25 (eBig b0)), (103, .box 25 (.bool false :: .bool false :: ((eA16 .u32) A16.zero))), (104, .box 25 (.bool false :: .bool false :: ((eA16 .u32) A16.zero)))]⟩) rfl ?_
        refine Tri.ite h9 rfl (fun _ h9 => ?_) (fun _ h9 => ?_)
        · refine Tri.seq ?_
          refine Tri.keep [4, 5, 6, 8] [103, 104] (s' := ⟨[(4, .b (.ptr 103 0)), (5, .b (.ptr 104 0)), (6, I x_5), (8, I x_7)], [(103, .box 25 (.bool false :: .bool false :: ((eA16 .u32) A16.zero))), (104, .box 25 (.bool false :: .bool false :: ((eA16 .u32) A16.zero)))]⟩) rfl ?_
          obtain ⟨x_9, e16, h9⟩ := bnd h9
          obtain ⟨x_10, e17, h9⟩ := bnd h9
          refine Tri.regionY mixed 8 [I x_5, I x_7, I x_9, I x_5, I x_7, I x_10, I x_9, I x_10] [4, 5, 8, 10, 11] [103, 104] (s' := ⟨[(4, .b (.ptr 103 0)), (5, .b (.ptr 104 0)), (8, I x_7), (10, I x_9), (11, I x_10)], [(103, .box 25 (.bool false :: .bool false :: ((eA16 .u32) A16.zero))), (104, .box 25 (.bool false :: .bool false :: ((eA16 .u32) A16.zero)))]⟩) rfl ⟨fun _ => .plain rfl (op_move rfl), fun _ => .plain rfl (op_move rfl), fun _ => .plain rfl (op_quo2 e16 rfl rfl), fun _ => .plain rfl (op_move rfl), fun _ => .plain rfl (op_move rfl), fun _ => .plain rfl (op_rem2 e17 rfl rfl), fun _ => .plain rfl (op_assign rfl), fun _ => .plain rfl (op_assign rfl), trivial⟩ rfl rfl ?_
          obtain ⟨v18, h19, h9⟩ := bnd h9
          refine Tri.seqJ (v := v18) (un2 fun (q_11 : Int) (r_12 : Int) => ⟨[(4, .b (.ptr 103 0)), (5, .b (.ptr 104 0)), (10, I q_11), (11, I r_12)], [(103, .box 25 (.bool false :: .bool false :: ((eA16 .u32) A16.zero))), (104, .box 25 (.bool false :: .bool false :: ((eA16 .u32) A16.zero)))]⟩) (fun z => z) ?_ ?_
          · refine Tri.seq ?_
            refine Tri.regionL ?_
            refine OpsL.cons rfl (op_move rfl) ?_
            refine OpsL.cons rfl (op_neq rfl rfl) ?_
            refine OpsL.cons rfl (op_move rfl) ?_
            refine OpsL.consG (decide (x_10 ≠ 0)) 99 [] (.plain rfl) (eq_t _) rfl rfl (fun g20 => trivial) (fun g20 => op_move rfl) ?_
            refine OpsL.consG (decide (x_10 ≠ 0)) 99 [56] (.plain rfl) (eq_t _) rfl rfl (fun g21 => ⟨g21, trivial⟩) (fun g21 => op_lss rfl rfl) ?_
            refine OpsL.consG (decide (x_10 ≠ 0)) 99 [] (.plain rfl) (eq_t _) rfl rfl (fun g22 => trivial) (fun g22 => op_move rfl) ?_
            refine OpsL.consG (decide (x_10 ≠ 0)) 99 [58] (.plain rfl) (eq_t _) rfl rfl (fun g23 => ⟨g23, trivial⟩) (fun g23 => op_lss rfl rfl) ?_
            refine OpsL.consG (decide (x_10 ≠ 0)) 99 [57, 59] (.plain rfl) (eq_t _) rfl rfl (fun g24 => ⟨g24, g24, trivial⟩) (fun g24 => op_neq_bool und4 rfl rfl) ?_
            refine OpsL.consB h19 rfl (op_pick_and (fun e => e) rfl rfl rfl rfl) (fun x_13 h19 => ?_)
            refine OpsL.nilK [4, 5, 8, 10, 11, 61] [103, 104] (s' := ⟨[(4, .b (.ptr 103 0)), (5, .b (.ptr 104 0)), (8, I x_7), (10, I x_9), (11, I x_10), (61, B x_13)], [(103, .box 25 (.bool false :: .bool false :: ((eA16 .u32) A16.zero))), (104, .box 25 (.bool false :: .bool false :: ((eA16 .u32) A16.zero)))]⟩) rfl ?_
            refine Tri.ite h19 rfl (fun _ h19 => ?_) (fun _ h19 => ?_)
            · refine Tri.regionL ?_
              refine OpsL.cons rfl (op_move rfl) ?_
              refine OpsL.cons rfl (op_sub rfl rfl) ?_
              refine OpsL.cons rfl (op_move rfl) ?_
              refine OpsL.cons rfl (op_move rfl) ?_
              refine OpsL.cons rfl (op_add rfl rfl) ?_
              refine OpsL.cons rfl (op_assign rfl) ?_
              refine OpsL.cons rfl (op_assign rfl) ?_
              refine OpsL.nil ?_
              exact Fin.join [4, 5, 10, 11] [103, 104] (IntKind.i64.wrap (x_9 - 1), IntKind.i64.wrap (x_10 + x_7)) (Option.some.inj h19) rfl
            · refine Tri.skip ?_
              exact Fin.join [4, 5, 10, 11] [103, 104] (x_9, x_10) (Option.some.inj h19) rfl
          · rintro ⟨q_11, r_12⟩ hv
            subst v18
            refine Tri.seq ?_
            refine Tri.regionL ?_
            refine OpsL.cons rfl (op_move rfl) ?_
            obtain ⟨x_14, e25, h9⟩ := bnd h9
            refine OpsL.cons rfl (op_call0 (whole_Of_spec e25) goes38 rfl rfl) ?_
            refine OpsL.cons rfl (op_move rfl) ?_
            refine OpsL.keep [4, 5, 68, 69] [103, 104] (s' := ⟨[(4, .b (.ptr 103 0)), (5, .b (.ptr 104 0)), (68, .b (.agg (eBig x_14))), (69, I r_12)], [(103, .box 25 (.bool false :: .bool false :: ((eA16 .u32) A16.zero))), (104, .box 25 (.bool false :: .bool false :: ((eA16 .u32) A16.zero)))]⟩) rfl ?_
            obtain ⟨x_15, e26, h9⟩ := bnd h9
            refine OpsL.cons rfl (op_call0 (whole_Of_spec e26) goes38 rfl rfl) ?_
            refine OpsL.cons rfl (op_store_p tyAgg25 rfl rfl rfl rfl (Nat.le_of_ble_eq_true rfl) rfl) ?_
            refine OpsL.cons rfl (op_store_p tyAgg25 rfl rfl rfl rfl (Nat.le_of_ble_eq_true rfl) rfl) ?_
            refine OpsL.nilK [4, 5] [103, 104] (s' := ⟨[(4, .b (.ptr 103 0)), (5, .b (.ptr 104 0))], [(103, .box 25 (eBig x_14)), (104, .box 25 (eBig x_15))]⟩) rfl ?_
            refine Tri.ret ?_
            obtain rfl := Option.some.inj h9
            refine Fin.then_ret ?_
            obtain rfl := Option.some.inj h
            refine Fin.keep [4, 5] [103, 104] (s' := ⟨[(4, .b (.ptr 103 0)), (5, .b (.ptr 104 0))], [(103, .box 25 (eBig x_14)), (104, .box 25 (eBig x_15))]⟩) rfl ?_
            refine Fin.result' [.agg (eBig x_14), .agg (eBig x_15)] (.inl rfl) rfl (.cons (.agg tyAgg25 rfl rfl rfl rfl) (.cons (.agg tyAgg25 rfl rfl rfl rfl) .nil)) ⟨rfl, rfl⟩
        · refine Tri.skip ?_
          exact Fin.join [2, 3, 4, 5] [101, 102, 103, 104] () (Option.some.inj h9) rfl
      · refine Tri.skip ?_
        exact Fin.join [2, 3, 4, 5] [101, 102, 103, 104] () (Option.some.inj h9) rfl
    · rintro _ hv
      subst v8
      refine Tri.seq ?_
      refine Tri.regionL ?_
      refine OpsL.cons rfl (op_field_p tyFld25_2 rfl rfl) ?_
      refine OpsL.cons rfl (op_load_p tyAgg23 rfl rfl rfl rfl) ?_
      refine OpsL.cons rfl (op_field_p tyFld25_2 rfl rfl) ?_
      refine OpsL.cons rfl (op_load_p tyAgg23 rfl rfl rfl rfl) ?_
      obtain ⟨⟨x_16, x_17⟩, e27, h⟩ := bnd h
      refine OpsL.cons rfl (op_call0 (whole_quotient_spec e27) goes71 rfl rfl) ?_
      refine OpsL.keep [2, 3, 4, 5, 76] [101, 102, 103, 104] (s' := ⟨[(2, .b (.ptr 101 0)), (3, .b (.ptr 102 0)), (4, .b (.ptr 103 0)), (5, .b (.ptr 104 0)), (76, .tup [.agg ((eA16 .u32) x_16), .agg ((eA16 .u32) x_17)])], [(101, .box 25 (eBig a0)), (102, .box 25 (eBig b0)), (103, .box 25 (.bool false :: .bool false :: ((eA16 .u32) A16.zero))), (104, .box 25 (.bool false :: .bool false :: ((eA16 .u32) A16.zero)))]⟩) rfl ?_
      refine OpsL.cons rfl (op_move rfl) ?_
      refine OpsL.cons rfl (op_extract rfl rfl) ?_
      refine OpsL.cons rfl (op_extract rfl rfl) ?_
      refine OpsL.cons rfl (op_alloc (k := 106) tyZero23 rfl) ?_
      refine OpsL.cons rfl (op_alloc (k := 107) tyZero23 rfl) ?_
      refine OpsL.cons rfl (op_store_p tyAgg23 rfl rfl rfl rfl (Nat.le_of_ble_eq_true rfl) rfl) ?_
      refine OpsL.cons rfl (op_store_p tyAgg23 rfl rfl rfl rfl (Nat.le_of_ble_eq_true rfl) rfl) ?_
      refine OpsL.nilK [2, 3, 4, 5, 12, 13] [101, 102, 103, 104, 106, 107] (s' := ⟨[(2, .b (.ptr 101 0)), (3, .b (.ptr 102 0)), (4, .b (.ptr 103 0)), (5, .b (.ptr 104 0)), (12, .b (.ptr 106 0)), (13, .b (.ptr 107 0))], [(101, .box 25 (eBig a0)), (102, .box 25 (eBig b0)), (103, .box 25 (.bool false :: .bool false :: ((eA16 .u32) A16.zero))), (104, .box 25 (.bool false :: .bool false :: ((eA16 .u32) A16.zero))), (106, .box 23 ((eA16 .u32) x_16)), (107, .box 23 ((eA16 .u32) x_17))]⟩) rfl ?_
      refine Tri.seq ?_
      refine Tri.regionL ?_
      refine OpsL.cons rfl (op_field_p tyFld25_1 rfl rfl) ?_
      refine OpsL.cons rfl (op_load_p1 tyOne4 rfl rfl rfl) ?_
      refine OpsL.cons rfl (op_field_p tyFld25_1 rfl rfl) ?_
      refine OpsL.cons rfl (op_load_p1 tyOne4 rfl rfl rfl) ?_
      refine OpsL.cons rfl (op_neq_bool und4 rfl rfl) ?_
      refine OpsL.cons rfl (op_load_p tyAgg23 rfl rfl rfl rfl) ?_
      refine OpsL.keep [2, 3, 4, 5, 13, 83, 84] [101, 102, 103, 104, 107] (s' := ⟨[(2, .b (.ptr 101 0)), (3, .b (.ptr 102 0)), (4, .b (.ptr 103 0)), (5, .b (.ptr 104 0)), (13, .b (.ptr 107 0)), (83, B (a0.Neg != b0.Neg)), (84, .b (.agg ((eA16 .u32) x_16)))], [(101, .box 25 (eBig a0)), (102, .box 25 (eBig b0)), (103, .box 25 (.bool false :: .bool false :: ((eA16 .u32) A16.zero))), (104, .box 25 (.bool false :: .bool false :: ((eA16 .u32) A16.zero))), (107, .box 23 ((eA16 .u32) x_17))]⟩) rfl ?_
      obtain ⟨x_18, e28, h⟩ := bnd h
      refine OpsL.cons rfl (op_call0 (whole_signed_spec e28) goes46 rfl rfl) ?_
      refine OpsL.cons rfl (op_alloc (k := 108) tyZero25 rfl) ?_
      refine OpsL.cons rfl (op_store_p tyAgg25 rfl rfl rfl rfl (Nat.le_of_ble_eq_true rfl) rfl) ?_
      refine OpsL.nilK [2, 3, 4, 5, 13, 14] [101, 102, 103, 104, 107, 108] (s' := ⟨[(2, .b (.ptr 101 0)), (3, .b (.ptr 102 0)), (4, .b (.ptr 103 0)), (5, .b (.ptr 104 0)), (13, .b (.ptr 107 0)), (14, .b (.ptr 108 0))], [(101, .box 25 (eBig a0)), (102, .box 25 (eBig b0)), (103, .box 25 (.bool false :: .bool false :: ((eA16 .u32) A16.zero))), (104, .box 25 (.bool false :: .bool false :: ((eA16 .u32) A16.zero))), (107, .box 23 ((eA16 .u32) x_17)), (108, .box 25 (eBig x_18))]⟩) rfl ?_
      obtain ⟨v29, h30, h⟩ := bnd h
      refine Tri.seqJ (v := v29) (un2 fun (r_19 : A16) (q_20 : Big) => ⟨[(3, .b (.ptr 102 0)), (4, .b (.ptr 103 0)), (5, .b (.ptr 104 0)), (13, .b (.ptr 107 0)), (14, .b (.ptr 108 0))], [(102, .box 25 (eBig b0)), (103, .box 25 (.bool false :: .bool false :: ((eA16 .u32) A16.zero))), (104, .box 25 (.bool false :: .bool false :: ((eA16 .u32) A16.zero))), (107, .box 23 ((eA16 .u32) r_19)), (108, .box 25 (eBig q_20))]⟩) (fun z => z) ?_ ?_
      · refine Tri.seq ?_
        refine Tri.regionL ?_
        refine OpsL.cons rfl (op_load_p tyAgg23 rfl rfl rfl rfl) ?_
        refine OpsL.cons rfl (op_buildA tyBuild23 rfl rfl) ?_
        refine OpsL.cons rfl (op_neq_agg (eqAgg23 x_17 A16.zero) rfl rfl neg_dec) ?_
        refine OpsL.cons rfl (op_move rfl) ?_
        refine OpsL.consG (decide (x_17 ≠ A16.zero)) 99 [] (.plain rfl) (eq_t _) rfl rfl (fun g31 => trivial) (fun g31 => op_field_p tyFld25_1 rfl rfl) ?_
        refine OpsL.consG (decide (x_17 ≠ A16.zero)) 99 [90] (.plain rfl) (eq_t _) rfl rfl (fun g32 => ⟨g32, trivial⟩) (fun g32 => op_load_p1 tyOne4 rfl rfl rfl) ?_
        refine OpsL.consG (decide (x_17 ≠ A16.zero)) 99 [] (.plain rfl) (eq_t _) rfl rfl (fun g33 => trivial) (fun g33 => op_field_p tyFld25_1 rfl rfl) ?_
        refine OpsL.keep [3, 4, 5, 13, 14, 89, 91, 92] [102, 103, 104, 107, 108] (s' := ⟨[(3, .b (.ptr 102 0)), (4, .b (.ptr 103 0)), (5, .b (.ptr 104 0)), (13, .b (.ptr 107 0)), (14, .b (.ptr 108 0)), (89, B (decide (x_17 ≠ A16.zero))), (91, .opt (decide (x_17 ≠ A16.zero)) (.one (.bool a0.Neg))), (92, .opt (decide (x_17 ≠ A16.zero)) (.ptr 102 1))], [(102, .box 25 (eBig b0)), (103, .box 25 (.bool false :: .bool false :: ((eA16 .u32) A16.zero))), (104, .box 25 (.bool false :: .bool false :: ((eA16 .u32) A16.zero))), (107, .box 23 ((eA16 .u32) x_17)), (108, .box 25 (eBig x_18))]⟩) rfl ?_
        refine OpsL.consG (decide (x_17 ≠ A16.zero)) 99 [92] (.plain rfl) (eq_t _) rfl rfl (fun g34 => ⟨g34, trivial⟩) (fun g34 => op_load_p1 tyOne4 rfl rfl rfl) ?_
        refine OpsL.consG (decide (x_17 ≠ A16.zero)) 99 [91, 93] (.plain rfl) (eq_t _) rfl rfl (fun g35 => ⟨g35, g35, trivial⟩) (fun g35 => op_neq_bool und4 rfl rfl) ?_
        refine OpsL.cons rfl (op_pick_and (fun e => e) rfl rfl rfl rfl) ?_
        refine OpsL.nilK [3, 4, 5, 13, 14, 95] [102, 103, 104, 107, 108] (s' := ⟨[(3, .b (.ptr 102 0)), (4, .b (.ptr 103 0)), (5, .b (.ptr 104 0)), (13, .b (.ptr 107 0)), (14, .b (.ptr 108 0)), (95, B ((decide (x_17 ≠ A16.zero)) && (a0.Neg != b0.Neg)))], [(102, .box 25 (eBig b0)), (103, .box 25 (.bool false :: .bool false :: ((eA16 .u32) A16.zero))), (104, .box 25 (.bool false :: .bool false :: ((eA16 .u32) A16.zero))), (107, .box 23 ((eA16 .u32) x_17)), (108, .box 25 (eBig x_18))]⟩) rfl ?_
        refine Tri.ite h30 rfl (fun _ h30 => ?_) (fun _ h30 => ?_)
        · refine Tri.keep [3, 4, 5, 13, 14] [102, 103, 104, 107, 108] (s' := ⟨[(3, .b (.ptr 102 0)), (4, .b (.ptr 103 0)), (5, .b (.ptr 104 0)), (13, .b (.ptr 107 0)), (14, .b (.ptr 108 0))], [(102, .box 25 (eBig b0)), (103, .box 25 (.bool false :: .bool false :: ((eA16 .u32) A16.zero))), (104, .box 25 (.bool false :: .bool false :: ((eA16 .u32) A16.zero))), (107, .box 23 ((eA16 .u32) x_17)), (108, .box 25 (eBig x_18))]⟩) rfl ?_
          obtain ⟨x_21, e36, h30⟩ := bnd h30
          obtain ⟨x_22, e37, h30⟩ := bnd h30
          obtain ⟨x_23, e38, h30⟩ := bnd h30
          refine Tri.regionYF mixed 7 [.b (.agg (eBig x_18)), .b (.agg (eBig x_21)), .b (.agg (eBig x_22)), .b (.ptr 102 2), .b (.agg ((eA16 .u32) b0.W)), .b (.agg ((eA16 .u32) x_17)), .b (.agg ((eA16 .u32) x_23))] [3, 4, 5, 13, 14] [102, 103, 104, 107, 108] (s' := ⟨[(3, .b (.ptr 102 0)), (4, .b (.ptr 103 0)), (5, .b (.ptr 104 0)), (13, .b (.ptr 107 0)), (14, .b (.ptr 108 0))], [(102, .box 25 (eBig b0)), (103, .box 25 (.bool false :: .bool false :: ((eA16 .u32) A16.zero))), (104, .box 25 (.bool false :: .bool false :: ((eA16 .u32) A16.zero))), (107, .box 23 ((eA16 .u32) x_23)), (108, .box 25 (eBig x_22))]⟩) rfl ⟨fun _ => .plain rfl (op_load_p tyAgg25 rfl rfl rfl rfl), fun _ => .plain rfl (op_call0 (whole_Of_spec e36) goes38 rfl rfl), fun _ => .plain rfl (op_call0 (whole_Sub_spec e37) goes12 rfl rfl), fun _ => .plain rfl (op_field_p tyFld25_2 rfl rfl), fun _ => .plain rfl (op_load_p tyAgg23 rfl rfl rfl rfl), fun _ => .plain rfl (op_load_p tyAgg23 rfl rfl rfl rfl), fun _ => .plain rfl (op_call0 (whole_minus_spec e38) goes48 rfl rfl), trivial⟩ ⟨_, by exact .plain rfl (op_store_p tyAgg25 rfl rfl rfl rfl (Nat.le_of_ble_eq_true rfl) rfl), ⟨_, by exact .plain rfl (op_store_p tyAgg23 rfl rfl rfl rfl (Nat.le_of_ble_eq_true rfl) rfl), rfl⟩⟩ rfl ?_
          exact Fin.join [3, 4, 5, 13, 14] [102, 103, 104, 107, 108] (x_23, x_22) (Option.some.inj h30) rfl
        · refine Tri.skip ?_
          exact Fin.join [3, 4, 5, 13, 14] [102, 103, 104, 107, 108] (x_17, x_18) (Option.some.inj h30) rfl
      · rintro ⟨r_19, q_20⟩ hv
        subst v29
        refine Tri.seq ?_
        refine Tri.keep [3, 4, 5, 13, 14] [102, 103, 104, 107, 108] (s' := ⟨[(3, .b (.ptr 102 0)), (4, .b (.ptr 103 0)), (5, .b (.ptr 104 0)), (13, .b (.ptr 107 0)), (14, .b (.ptr 108 0))], [(102, .box 25 (eBig b0)), (103, .box 25 (.bool false :: .bool false :: ((eA16 .u32) A16.zero))), (104, .box 25 (.bool false :: .bool false :: ((eA16 .u32) A16.zero))), (107, .box 23 ((eA16 .u32) r_19)), (108, .box 25 (eBig q_20))]⟩) rfl ?_
        obtain ⟨x_24, e39, h⟩ := bnd h
        refine Tri.regionY mixed 5 [.b (.agg (eBig q_20)), .b (.ptr 102 1), B b0.Neg, .b (.agg ((eA16 .u32) r_19)), .b (.agg (eBig x_24))] [4, 5] [103, 104] (s' := ⟨[(4, .b (.ptr 103 0)), (5, .b (.ptr 104 0))], [(103, .box 25 (eBig q_20)), (104, .box 25 (eBig x_24))]⟩) rfl ⟨fun _ => .plain rfl (op_load_p tyAgg25 rfl rfl rfl rfl), fun _ => .plain rfl (op_field_p tyFld25_1 rfl rfl), fun _ => .plain rfl (op_load_p1 tyOne4 rfl rfl rfl), fun _ => .plain rfl (op_load_p tyAgg23 rfl rfl rfl rfl), fun _ => .plain rfl (op_call0 (whole_signed_spec e39) goes46 rfl rfl), trivial⟩ ⟨_, by exact .plain rfl (op_store_p tyAgg25 rfl rfl rfl rfl (Nat.le_of_ble_eq_true rfl) rfl), ⟨_, by exact .plain rfl (op_store_p tyAgg25 rfl rfl rfl rfl (Nat.le_of_ble_eq_true rfl) rfl), rfl⟩⟩ rfl ?_
        refine Tri.ret ?_
        obtain rfl := Option.some.inj h
        refine Fin.keep [4, 5] [103, 104] (s' := ⟨[(4, .b (.ptr 103 0)), (5, .b (.ptr 104 0))], [(103, .box 25 (eBig q_20)), (104, .box 25 (eBig x_24))]⟩) rfl ?_
        refine Fin.result' [.agg (eBig q_20), .agg (eBig x_24)] (.inl rfl) rfl (.cons (.agg tyAgg25 rfl rfl rfl rfl) (.cons (.agg tyAgg25 rfl rfl rfl rfl) .nil)) ⟨rfl, rfl⟩

def whole_Quo_S (F : Nat) (a0 : Big) (b0 : Big) : Option Big :=
 Option.bind (whole_divided_S F a0 b0) (un2 fun x_1 x_2 => some x_1)
theorem whole_Quo_spec {F : Nat} {a0 : Big} {b0 : Big} {r : Big} (h : whole_Quo_S F a0 b0 = some r) : Meets Tryd.prog tabs 29 [] [.agg (eBig a0), .agg (eBig b0)] (Is [] (.b (.agg (eBig r)))) := by
  unfold whole_Quo_S at h
  refine Meets.intro 14 Tryd.func29 Tryd.ntmps29 rfl (by simp) fun E => ?_
  show Tri _ E ⟨14, [], []⟩ _ ⟨[(0, .b (.agg (eBig a0))), (1, .b (.agg (eBig b0)))], []⟩ _
  refine Tri.seq ?_
  refine Tri.regionL ?_
  refine OpsL.cons rfl (op_box (k := 101) rfl rfl) ?_
  refine OpsL.cons rfl (op_box (k := 102) rfl rfl) ?_
  refine OpsL.cons rfl (op_alloc (k := 103) tyZero25 rfl) ?_
  refine OpsL.nilK [2, 3, 4] [101, 102, 103] (s' := ⟨[(2, .b (.ptr 101 0)), (3, .b (.ptr 102 0)), (4, .b (.ptr 103 0))], [(101, .box 25 (eBig a0)), (102, .box 25 (eBig b0)), (103, .box 25 (.bool false :: .bool false :: ((eA16 .u32) A16.zero)))]⟩) rfl ?_
  refine Tri.seq ?_
  refine Tri.regionL ?_
  refine OpsL.cons rfl (op_load_p tyAgg25 rfl rfl rfl rfl) ?_
  refine OpsL.cons rfl (op_load_p tyAgg25 rfl rfl rfl rfl) ?_
  obtain ⟨⟨x_1, x_2⟩, e1, h⟩ := bnd h
  refine OpsL.cons rfl (op_call0 (whole_divided_spec e1) goes62 rfl rfl) ?_
  refine OpsL.cons rfl (op_move rfl) ?_
  refine OpsL.cons rfl (op_extract rfl rfl) ?_
  refine OpsL.keep [4, 7, 11] [103] (s' := ⟨[(4, .b (.ptr 103 0)), (7, .tup [.agg (eBig x_1), .agg (eBig x_2)]), (11, .b (.agg (eBig x_1)))], [(103, .box 25 (.bool false :: .bool false :: ((eA16 .u32) A16.zero)))]⟩) rfl ?_
  refine OpsL.cons rfl (op_extract rfl rfl) ?_
  refine OpsL.cons rfl (op_alloc (k := 104) tyZero25 rfl) ?_
  refine OpsL.cons rfl (op_alloc (k := 105) tyZero25 rfl) ?_
  refine OpsL.cons rfl (op_store_p tyAgg25 rfl rfl rfl rfl (Nat.le_of_ble_eq_true rfl) rfl) ?_
  refine OpsL.cons rfl (op_store_p tyAgg25 rfl rfl rfl rfl (Nat.le_of_ble_eq_true rfl) rfl) ?_
  refine OpsL.nilK [4, 5] [103, 104] (s' := ⟨[(4, .b (.ptr 103 0)), (5, .b (.ptr 104 0))], [(103, .box 25 (.bool false :: .bool false :: ((eA16 .u32) A16.zero))), (104, .box 25 (eBig x_1))]⟩) rfl ?_
  refine Tri.seq ?_
  refine Tri.regionL ?_
  refine OpsL.cons rfl (op_load_p tyAgg25 rfl rfl rfl rfl) ?_
  refine OpsL.cons rfl (op_store_p tyAgg25 rfl rfl rfl rfl (Nat.le_of_ble_eq_true rfl) rfl) ?_
  refine OpsL.nilK [4] [103] (s' := ⟨[(4, .b (.ptr 103 0))], [(103, .box 25 (eBig x_1))]⟩) rfl ?_
  refine Tri.ret ?_
  obtain rfl := Option.some.inj h
  refine Fin.keep [4] [103] (s' := ⟨[(4, .b (.ptr 103 0))], [(103, .box 25 (eBig x_1))]⟩) rfl ?_
  refine Fin.result' [.agg (eBig x_1)] (.inl rfl) rfl (.cons (.agg tyAgg25 rfl rfl rfl rfl) .nil) ⟨rfl, rfl⟩

def whole_Rem_S (F : Nat) (a0 : Big) (b0 : Big) : Option Big :=
 Option.bind (whole_divided_S F a0 b0) (un2 fun x_1 x_2 => some x_2)
theorem whole_Rem_spec {F : Nat} {a0 : Big} {b0 : Big} {r : Big} (h : whole_Rem_S F a0 b0 = some r) : Meets Tryd.prog tabs 31 [] [.agg (eBig a0), .agg (eBig b0)] (Is [] (.b (.agg (eBig r)))) := by
  unfold whole_Rem_S at h
  refine Meets.intro 14 Tryd.func31 Tryd.ntmps31 rfl (by simp) fun E => ?_
  show Tri _ E ⟨14, [], []⟩ _ ⟨[(0, .b (.agg (eBig a0))), (1, .b (.agg (eBig b0)))], []⟩ _
  refine Tri.seq ?_
  refine Tri.regionL ?_
  refine OpsL.cons rfl (op_box (k := 101) rfl rfl) ?_
  refine OpsL.cons rfl (op_box (k := 102) rfl rfl) ?_
  refine OpsL.cons rfl (op_alloc (k := 103) tyZero25 rfl) ?_
  refine OpsL.nilK [2, 3, 4] [101, 102, 103] (s' := ⟨[(2, .b (.ptr 101 0)), (3, .b (.ptr 102 0)), (4, .b (.ptr 103 0))], [(101, .box 25 (eBig a0)), (102, .box 25 (eBig b0)), (103, .box 25 (.bool false :: .bool false :: ((eA16 .u32) A16.zero)))]⟩) rfl ?_
  refine Tri.seq ?_
  refine Tri.regionL ?_
  refine OpsL.cons rfl (op_load_p tyAgg25 rfl rfl rfl rfl) ?_
  refine OpsL.cons rfl (op_load_p tyAgg25 rfl rfl rfl rfl) ?_
  obtain ⟨⟨x_1, x_2⟩, e1, h⟩ := bnd h
  refine OpsL.cons rfl (op_call0 (whole_divided_spec e1) goes62 rfl rfl) ?_
  refine OpsL.cons rfl (op_move rfl) ?_
  refine OpsL.cons rfl (op_extract rfl rfl) ?_
  refine OpsL.keep [4, 7, 11] [103] (s' := ⟨[(4, .b (.ptr 103 0)), (7, .tup [.agg (eBig x_1), .agg (eBig x_2)]), (11, .b (.agg (eBig x_1)))], [(103, .box 25 (.bool false :: .bool false :: ((eA16 .u32) A16.zero)))]⟩) rfl ?_
  refine OpsL.cons rfl (op_extract rfl rfl) ?_
  refine OpsL.cons rfl (op_alloc (k := 104) tyZero25 rfl) ?_
  refine OpsL.cons rfl (op_alloc (k := 105) tyZero25 rfl) ?_
  refine OpsL.cons rfl (op_store_p tyAgg25 rfl rfl rfl rfl (Nat.le_of_ble_eq_true rfl) rfl) ?_
  refine OpsL.cons rfl (op_store_p tyAgg25 rfl rfl rfl rfl (Nat.le_of_ble_eq_true rfl) rfl) ?_
  refine OpsL.nilK [4, 6] [103, 105] (s' := ⟨[(4, .b (.ptr 103 0)), (6, .b (.ptr 105 0))], [(103, .box 25 (.bool false :: .bool false :: ((eA16 .u32) A16.zero))), (105, .box 25 (eBig x_2))]⟩) rfl ?_
  refine Tri.seq ?_
  refine Tri.regionL ?_
  refine OpsL.cons rfl (op_load_p tyAgg25 rfl rfl rfl rfl) ?_
  refine OpsL.cons rfl (op_store_p tyAgg25 rfl rfl rfl rfl (Nat.le_of_ble_eq_true rfl) rfl) ?_
  refine OpsL.nilK [4] [103] (s' := ⟨[(4, .b (.ptr 103 0))], [(103, .box 25 (eBig x_2))]⟩) rfl ?_
  refine Tri.ret ?_
  obtain rfl := Option.some.inj h
  refine Fin.keep [4] [103] (s' := ⟨[(4, .b (.ptr 103 0))], [(103, .box 25 (eBig x_2))]⟩) rfl ?_
  refine Fin.result' [.agg (eBig x_2)] (.inl rfl) rfl (.cons (.agg tyAgg25 rfl rfl rfl rfl) .nil) ⟨rfl, rfl⟩

def whole_Abs_S (F : Nat) (x0 : Big) : Option Big :=
 Option.bind (whole_good_S F [x0]) (fun x_1 => if (!x_1) = true then (Option.bind (whole_Bad_S F) (fun x_2 => some x_2)) else (Option.bind (whole_signed_S F false x0.W) (fun x_3 => some x_3)))
theorem whole_Abs_spec {F : Nat} {x0 : Big} {r : Big} (h : whole_Abs_S F x0 = some r) : Meets Tryd.prog tabs 16 [] [.agg (eBig x0)] (Is [] (.b (.agg (eBig r)))) := by
  unfold whole_Abs_S at h
  refine Meets.intro 11 Tryd.func16 Tryd.ntmps16 rfl (by simp) fun E => ?_
  show Tri _ E ⟨11, [], []⟩ _ ⟨[(0, .b (.agg (eBig x0)))], []⟩ _
  refine Tri.seq ?_
  refine Tri.regionL ?_
  refine OpsL.cons rfl (op_box (k := 101) rfl rfl) ?_
  refine OpsL.cons rfl (op_alloc (k := 102) tyZero25 rfl) ?_
  refine OpsL.nilK [1, 2] [101, 102] (s' := ⟨[(1, .b (.ptr 101 0)), (2, .b (.ptr 102 0))], [(101, .box 25 (eBig x0)), (102, .box 25 (.bool false :: .bool false :: ((eA16 .u32) A16.zero)))]⟩) rfl ?_
  refine Tri.seq ?_
  refine Tri.seq ?_
  refine Tri.regionL ?_
  refine OpsL.cons rfl (op_load_p tyAgg25 rfl rfl rfl rfl) ?_
  refine OpsL.cons rfl (op_buildSlice (k := 103) (es := [x0].map eBig) tySl85 rfl rfl (uni_map fun _ => rfl) rfl (by decide) (by decide) rfl) ?_
  obtain ⟨x_1, e1, h⟩ := bnd h
  refine OpsL.cons rfl (op_callB (whole_good_spec e1) goes43 rfl CP.flat_bool) ?_
  refine OpsL.cons rfl (op_not rfl) ?_
  refine OpsL.nilK [1, 2, 6] [101, 102] (s' := ⟨[(1, .b (.ptr 101 0)), (2, .b (.ptr 102 0)), (6, B (!x_1))], [(101, .box 25 (eBig x0)), (102, .box 25 (.bool false :: .bool false :: ((eA16 .u32) A16.zero)))]⟩) rfl ?_
  refine Tri.ite h rfl (fun _ h => ?_) (fun _ h => ?_)
  · refine Tri.seq ?_
    refine Tri.regionL ?_
    obtain ⟨x_2, e2, h⟩ := bnd h
    refine OpsL.cons rfl (op_call0 (whole_Bad_spec e2) goes44 rfl rfl) ?_
    refine OpsL.cons rfl (op_store_p tyAgg25 rfl rfl rfl rfl (Nat.le_of_ble_eq_true rfl) rfl) ?_
    refine OpsL.nilK [2] [102] (s' := ⟨[(2, .b (.ptr 102 0))], [(102, .box 25 (eBig x_2))]⟩) rfl ?_
    refine Tri.ret ?_
    refine Fin.then_ret ?_
    obtain rfl := Option.some.inj h
    refine Fin.keep [2] [102] (s' := ⟨[(2, .b (.ptr 102 0))], [(102, .box 25 (eBig x_2))]⟩) rfl ?_
    refine Fin.result' [.agg (eBig x_2)] (.inl rfl) rfl (.cons (.agg tyAgg25 rfl rfl rfl rfl) .nil) ⟨rfl, rfl⟩
  · refine Tri.skip ?_
    refine Fin.keep [1, 2] [101, 102] (s' := ⟨[(1, .b (.ptr 101 0)), (2, .b (.ptr 102 0))], [(101, .box 25 (eBig x0)), (102, .box 25 (.bool false :: .bool false :: ((eA16 .u32) A16.zero)))]⟩) rfl ?_
    refine Fin.then ?_
    refine Tri.seq ?_
    refine Tri.regionL ?_
    refine OpsL.cons rfl (op_field_p tyFld25_2 rfl rfl) ?_
    refine OpsL.cons rfl (op_load_p tyAgg23 rfl rfl rfl rfl) ?_
    obtain ⟨x_3, e3, h⟩ := bnd h
    refine OpsL.cons rfl (op_call0 (whole_signed_spec e3) goes46 rfl rfl) ?_
    refine OpsL.cons rfl (op_store_p tyAgg25 rfl rfl rfl rfl (Nat.le_of_ble_eq_true rfl) rfl) ?_
    refine OpsL.nilK [2] [102] (s' := ⟨[(2, .b (.ptr 102 0))], [(102, .box 25 (eBig x_3))]⟩) rfl ?_
    refine Tri.ret ?_
    obtain rfl := Option.some.inj h
    refine Fin.keep [2] [102] (s' := ⟨[(2, .b (.ptr 102 0))], [(102, .box 25 (eBig x_3))]⟩) rfl ?_
    refine Fin.result' [.agg (eBig x_3)] (.inl rfl) rfl (.cons (.agg tyAgg25 rfl rfl rfl rfl) .nil) ⟨rfl, rfl⟩

def whole_Gcd_R (F : Nat) : Nat → Big → Big → Option Big
 | 0, _, _ => none
 | n + 1, a0, b0 => Option.bind (whole_good_S F [a0, b0]) (fun x_1 => if (!x_1) = true then (Option.bind (whole_Bad_S F) (fun x_2 => some x_2)) else (Option.bind (Option.bind (whole_size_S F a0.W) (fun x_3 => Option.bind (gcall (decide (x_3 ≤ 2)) (whole_size_S F b0.W)) (fun x_4 => if ((decide (x_3 ≤ 2)) && (decide (x_4 ≤ 2))) = true then (Option.bind (iter F (un2 fun x_6 y_7 => if (decide (y_7 ≠ 0)) = true then (Option.bind (rem? x_6 y_7) (fun x_9 => some (.inl (y_7, x_9)))) else (some (.inr x_6))) (ior .u64 (IntKind.u64.wrap ((IntKind.u64.wrap a0.W.a1) * 4294967296)) (IntKind.u64.wrap a0.W.a0), ior .u64 (IntKind.u64.wrap ((IntKind.u64.wrap b0.W.a1) * 4294967296)) (IntKind.u64.wrap b0.W.a0))) (fun x_5 => letN (⟨IntKind.u32.wrap x_5, IntKind.u32.wrap (x_5 / 4294967296), 0, 0, 0, 0, 0, 0, 0, 0, 0, 0, 0, 0, 0, 0⟩ : A16) fun x_10 => Option.bind (whole_signed_S F false x_10) (fun x_11 => some (.inr x_11)))) else (some (.inl ()))))) (alt2 (fun _ => if (decide (b0.W ≠ A16.zero)) = true then (Option.bind (whole_quotient_S F a0.W b0.W) (un2 fun x_12 x_13 => Option.bind (whole_signed_S F false b0.W) (fun x_14 => Option.bind (whole_signed_S F false x_13) (fun x_15 => Option.bind (whole_Gcd_R F n x_14 x_15) (fun x_16 => some x_16))))) else (Option.bind (whole_Abs_S F a0) (fun x_17 => some x_17))) (fun y => some y))))
def whole_Gcd_S (F : Nat) (a0 : Big) (b0 : Big) : Option Big := whole_Gcd_R F F a0 b0
theorem whole_Gcd_specR {F : Nat} : ∀ (n : Nat) {a0 : Big} {b0 : Big} {r : Big} (h : whole_Gcd_R F n a0 b0 = some r), Meets Tryd.prog tabs 40 [] [.agg (eBig a0), .agg (eBig b0)] (Is [] (.b (.agg (eBig r)))) := by
  intro n
  induction n with
  | zero => intro a0 b0 r h; simp [whole_Gcd_R] at h
  | succ n ih =>
  intro a0 b0 r h
  unfold whole_Gcd_R at h
  refine Meets.intro 80 Tryd.func40 Tryd.ntmps40 rfl (by simp) fun E => ?_
  show Tri _ E ⟨80, [], []⟩ _ ⟨[(0, .b (.agg (eBig a0))), (1, .b (.agg (eBig b0)))], []⟩ _
  refine Tri.seq ?_
  refine Tri.regionL ?_
  refine OpsL.cons rfl (op_box (k := 101) rfl rfl) ?_
  refine OpsL.cons rfl (op_box (k := 102) rfl rfl) ?_
  refine OpsL.cons rfl (op_alloc (k := 103) tyZero25 rfl) ?_
  refine OpsL.nilK [2, 3, 4] [101, 102, 103] (s' := ⟨[(2, .b (.ptr 101 0)), (3, .b (.ptr 102 0)), (4, .b (.ptr 103 0))], [(101, .box 25 (eBig a0)), (102, .box 25 (eBig b0)), (103, .box 25 (.bool false :: .bool false :: ((eA16 .u32) A16.zero)))]⟩) rfl ?_
  refine Tri.seq ?_
  refine Tri.seq ?_
  refine Tri.regionL ?_
  refine OpsL.cons rfl (op_load_p tyAgg25 rfl rfl rfl rfl) ?_
  refine OpsL.cons rfl (op_load_p tyAgg25 rfl rfl rfl rfl) ?_
  refine OpsL.cons rfl (op_buildSlice (k := 104) (es := [a0, b0].map eBig) tySl85 rfl rfl (uni_map fun _ => rfl) rfl (by decide) (by decide) rfl) ?_
  obtain ⟨x_1, e1, h⟩ := bnd h
  refine OpsL.cons rfl (op_callB (whole_good_spec e1) goes43 rfl CP.flat_bool) ?_
  refine OpsL.cons rfl (op_not rfl) ?_
  refine OpsL.nilK [2, 3, 4, 15] [101, 102, 103] (s' := ⟨[(2, .b (.ptr 101 0)), (3, .b (.ptr 102 0)), (4, .b (.ptr 103 0)), (15, B (!x_1))], [(101, .box 25 (eBig a0)), (102, .box 25 (eBig b0)), (103, .box 25 (.bool false :: .bool false :: ((eA16 .u32) A16.zero)))]⟩) rfl ?_
  refine Tri.ite h rfl (fun _ h => ?_) (fun _ h => ?_)
  · refine Tri.seq ?_
    refine Tri.regionL ?_
    obtain ⟨x_2, e2, h⟩ := bnd h
    refine OpsL.cons rfl (op_call0 (whole_Bad_spec e2) goes44 rfl rfl) ?_
    refine OpsL.cons rfl (op_store_p tyAgg25 rfl rfl rfl rfl (Nat.le_of_ble_eq_true rfl) rfl) ?_
    refine OpsL.nilK [4] [103] (s' := ⟨[(4, .b (.ptr 103 0))], [(103, .box 25 (eBig x_2))]⟩) rfl ?_
    refine Tri.ret ?_
    refine Fin.then_ret ?_
    obtain rfl := Option.some.inj h
    refine Fin.keep [4] [103] (s' := ⟨[(4, .b (.ptr 103 0))], [(103, .box 25 (eBig x_2))]⟩) rfl ?_
    refine Fin.result' [.agg (eBig x_2)] (.inl rfl) rfl (.cons (.agg tyAgg25 rfl rfl rfl rfl) .nil) ⟨rfl, rfl⟩
  · refine Tri.skip ?_
    refine Fin.keep [2, 3, 4] [101, 102, 103] (s' := ⟨[(2, .b (.ptr 101 0)), (3, .b (.ptr 102 0)), (4, .b (.ptr 103 0))], [(101, .box 25 (eBig a0)), (102, .box 25 (eBig b0)), (103, .box 25 (.bool false :: .bool false :: ((eA16 .u32) A16.zero)))]⟩) rfl ?_
    refine Fin.then ?_
    obtain ⟨v3, h4, h⟩ := bnd h
    refine Tri.seqJ (v := v3) (fun (_ : Unit) => ⟨[(2, .b (.ptr 101 0)), (3, .b (.ptr 102 0)), (4, .b (.ptr 103 0))], [(101, .box 25 (eBig a0)), (102, .box 25 (eBig b0)), (103, .box 25 (.bool false :: .bool false :: ((eA16 .u32) A16.zero)))]⟩) (fun z => .inl z) ?_ ?_
    · refine Tri.seq ?_
      refine Tri.regionL ?_
      refine OpsL.cons rfl (op_field_p tyFld25_2 rfl rfl) ?_
      refine OpsL.cons rfl (op_load_p tyAgg23 rfl rfl rfl rfl) ?_
      obtain ⟨x_3, e5, h4⟩ := bnd h4
      refine OpsL.cons rfl (op_call0 (whole_size_spec e5) goes57 rfl rfl) ?_
      refine OpsL.cons rfl (op_leq rfl rfl) ?_
      refine OpsL.cons rfl (op_move rfl) ?_
      refine OpsL.keep [2, 3, 4, 21] [101, 102, 103] (s' := ⟨[(2, .b (.ptr 101 0)), (3, .b (.ptr 102 0)), (4, .b (.ptr 103 0)), (21, B (decide (x_3 ≤ 2)))], [(101, .box 25 (eBig a0)), (102, .box 25 (eBig b0)), (103, .box 25 (.bool false :: .bool false :: ((eA16 .u32) A16.zero)))]⟩) rfl ?_
      refine OpsL.consG (decide (x_3 ≤ 2)) 99 [] (.plain rfl) (eq_t _) rfl rfl (fun g6 => trivial) (fun g6 => op_field_p tyFld25_2 rfl rfl) ?_
      refine OpsL.consG (decide (x_3 ≤ 2)) 99 [22] (.plain rfl) (eq_t _) rfl rfl (fun g7 => ⟨g7, trivial⟩) (fun g7 => op_load_p tyAgg23 rfl rfl rfl rfl) ?_
      obtain ⟨x_4, e9, h4⟩ := bnd h4
      refine OpsL.consG (decide (x_3 ≤ 2)) 99 [23] (.plain rfl) (eq_t _) rfl rfl (fun g8 => ⟨g8, trivial⟩) (fun g8 => op_call0 (whole_size_spec (gc e9 g8)) goes57 rfl rfl) ?_
      refine OpsL.consG (decide (x_3 ≤ 2)) 99 [24] (.plain rfl) (eq_t _) rfl rfl (fun g10 => ⟨g10, trivial⟩) (fun g10 => op_leq rfl rfl) ?_
      refine OpsL.cons rfl (op_pick_and (fun e => e) rfl rfl rfl rfl) ?_
      refine OpsL.nilK [2, 3, 4, 26] [101, 102, 103] (s' := ⟨[(2, .b (.ptr 101 0)), (3, .b (.ptr 102 0)), (4, .b (.ptr 103 0)), (26, B ((decide (x_3 ≤ 2)) && (decide (x_4 ≤ 2))))], [(101, .box 25 (eBig a0)), (102, .box 25 (eBig b0)), (103, .box 25 (.bool false :: .bool false :: ((eA16 .u32) A16.zero)))]⟩) rfl ?_
      refine Tri.ite h4 rfl (fun _ h4 => ?_) (fun _ h4 => ?_)
      · refine Tri.seq ?_
        refine Tri.keep [2, 3, 4] [101, 102, 103] (s' := ⟨[(2, .b (.ptr 101 0)), (3, .b (.ptr 102 0)), (4, .b (.ptr 103 0))], [(101, .box 25 (eBig a0)), (102, .box 25 (eBig b0)), (103, .box 25 (.bool false :: .bool false :: ((eA16 .u32) A16.zero)))]⟩) rfl ?_
        refine Tri.regionY mixed 22 [.b (.ptr 101 2), .b (.ptr 101 3), .b (.one (.int .u32 a0.W.a1)), .b (.one (.int .u64 (IntKind.u64.wrap a0.W.a1))), .b (.one (.int .u64 (IntKind.u64.wrap ((IntKind.u64.wrap a0.W.a1) * 4294967296)))), .b (.ptr 101 2), .b (.ptr 101 2), .b (.one (.int .u32 a0.W.a0)), .b (.one (.int .u64 (IntKind.u64.wrap a0.W.a0))), .b (.one (.int .u64 (ior .u64 (IntKind.u64.wrap ((IntKind.u64.wrap a0.W.a1) * 4294967296)) (IntKind.u64.wrap a0.W.a0)))), .b (.ptr 102 2), .b (.ptr 102 3), .b (.one (.int .u32 b0.W.a1)), .b (.one (.int .u64 (IntKind.u64.wrap b0.W.a1))), .b (.one (.int .u64 (IntKind.u64.wrap ((IntKind.u64.wrap b0.W.a1) * 4294967296)))), .b (.ptr 102 2), .b (.ptr 102 2), .b (.one (.int .u32 b0.W.a0)), .b (.one (.int .u64 (IntKind.u64.wrap b0.W.a0))), .b (.one (.int .u64 (ior .u64 (IntKind.u64.wrap ((IntKind.u64.wrap b0.W.a1) * 4294967296)) (IntKind.u64.wrap b0.W.a0)))), .b (.one (.int .u64 (ior .u64 (IntKind.u64.wrap ((IntKind.u64.wrap a0.W.a1) * 4294967296)) (IntKind.u64.wrap a0.W.a0)))), .b (.one (.int .u64 (ior .u64 (IntKind.u64.wrap ((IntKind.u64.wrap b0.W.a1) * 4294967296)) (IntKind.u64.wrap b0.W.a0))))] [4, 5, 6] [103] (s' := ⟨[(4, .b (.ptr 103 0)), (5, .b (.one (.int .u64 (ior .u64 (IntKind.u64.wrap ((IntKind.u64.wrap a0.W.a1) * 4294967296)) (IntKind.u64.wrap a0.W.a0))))), (6, .b (.one (.int .u64 (ior .u64 (IntKind.u64.wrap ((IntKind.u64.wrap b0.W.a1) * 4294967296)) (IntKind.u64.wrap b0.W.a0)))))], [(103, .box 25 (.bool false :: .bool false :: ((eA16 .u32) A16.zero)))]⟩) rfl ⟨fun _ => .plain rfl (op_field_p tyFld25_2 rfl rfl), fun _ => .plain rfl (op_index_p tyArr23 (by decide) (by decide) rfl rfl rfl), fun _ => .plain rfl (op_load_p1 tyOne22 rfl rfl rfl), fun _ => .plain rfl (op_conv_wrap undi22 undi63 rfl), fun _ => .plain rfl (op_shl0 (m := 32) (q := 4294967296) (by decide) rfl rfl (by decide)), fun _ => .plain rfl (op_field_p tyFld25_2 rfl rfl), fun _ => .plain rfl (op_index_p tyArr23 (by decide) (by decide) rfl rfl rfl), fun _ => .plain rfl (op_load_p1 tyOne22 rfl rfl rfl), fun _ => .plain rfl (op_conv_wrap undi22 undi63 rfl), fun _ => .plain rfl (op_or rfl rfl), fun _ => .plain rfl (op_field_p tyFld25_2 rfl rfl), fun _ => .plain rfl (op_index_p tyArr23 (by decide) (by decide) rfl rfl rfl), fun _ => .plain rfl (op_load_p1 tyOne22 rfl rfl rfl), fun _ => .plain rfl (op_conv_wrap undi22 undi63 rfl), fun _ => .plain rfl (op_shl0 (m := 32) (q := 4294967296) (by decide) rfl rfl (by decide)), fun _ => .plain rfl (op_field_p tyFld25_2 rfl rfl), fun _ => .plain rfl (op_index_p tyArr23 (by decide) (by decide) rfl rfl rfl), fun _ => .plain rfl (op_load_p1 tyOne22 rfl rfl rfl), fun _ => .plain rfl (op_conv_wrap undi22 undi63 rfl), fun _ => .plain rfl (op_or rfl rfl), fun _ => .plain rfl (op_assign rfl), fun _ => .plain rfl (op_assign rfl), trivial⟩ rfl rfl ?_
        obtain ⟨v11, h12, h4⟩ := bnd h4
        refine Tri.seqJ (v := v11) (fun (x_5 : Int) => ⟨[(4, .b (.ptr 103 0)), (5, .b (.one (.int .u64 x_5)))], [(103, .box 25 (.bool false :: .bool false :: ((eA16 .u32) A16.zero)))]⟩) (fun z => z) ?_ ?_
        · refine Tri.block ?_
          refine Tri.loopJ h12 (un2 fun (x_6 : Int) (y_7 : Int) => ⟨[(4, .b (.ptr 103 0)), (5, .b (.one (.int .u64 x_6))), (6, .b (.one (.int .u64 y_7)))], [(103, .box 25 (.bool false :: .bool false :: ((eA16 .u32) A16.zero)))]⟩) [4, 5, 6] [103] rfl ?_
          rintro ⟨x_6, y_7⟩ o13 h14 hy15
          refine Tri.seq ?_
          refine Tri.seq ?_
          refine Tri.regionL ?_
          refine OpsL.cons rfl (op_move rfl) ?_
          refine OpsL.cons rfl (op_neq rfl rfl) ?_
          refine OpsL.nilK [4, 5, 6, 48] [103] (s' := ⟨[(4, .b (.ptr 103 0)), (5, .b (.one (.int .u64 x_6))), (6, .b (.one (.int .u64 y_7))), (48, B (decide (y_7 ≠ 0)))], [(103, .box 25 (.bool false :: .bool false :: ((eA16 .u32) A16.zero)))]⟩) rfl ?_
          refine Tri.ite h14 rfl (fun _ h14 => ?_) (fun _ h14 => ?_)
          · refine Tri.skip ?_
            refine Fin.keep [4, 5, 6] [103] (s' := ⟨[(4, .b (.ptr 103 0)), (5, .b (.one (.int .u64 x_6))), (6, .b (.one (.int .u64 y_7)))], [(103, .box 25 (.bool false :: .bool false :: ((eA16 .u32) A16.zero)))]⟩) rfl ?_
            refine Fin.then ?_
            refine Tri.block ?_
            refine Tri.keep [4, 5, 6] [103] (s' := ⟨[(4, .b (.ptr 103 0)), (5, .b (.one (.int .u64 x_6))), (6, .b (.one (.int .u64 y_7)))], [(103, .box 25 (.bool false :: .bool false :: ((eA16 .u32) A16.zero)))]⟩) rfl ?_
            obtain ⟨x_9, e16, h14⟩ := bnd h14
            refine Tri.regionYF mixed 5 [.b (.one (.int .u64 y_7)), .b (.one (.int .u64 x_6)), .b (.one (.int .u64 y_7)), .b (.one (.int .u64 x_9)), .b (.one (.int .u64 y_7))] [4, 5, 6] [103] (s' := ⟨[(4, .b (.ptr 103 0)), (5, .b (.one (.int .u64 y_7))), (6, .b (.one (.int .u64 x_9)))], [(103, .box 25 (.bool false :: .bool false :: ((eA16 .u32) A16.zero)))]⟩) rfl ⟨fun _ => .plain rfl (op_move rfl), fun _ => .plain rfl (op_move rfl), fun _ => .plain rfl (op_move rfl), fun _ => .plain rfl (op_rem2 e16 rfl rfl), fun _ => .plain rfl (op_assign rfl), trivial⟩ ⟨_, by exact .plain rfl (op_assign rfl), rfl⟩ rfl ?_
            refine Fin.block_normal ?_
            exact Fin.againJ [4, 5, 6] [103] (y_7, x_9) (Option.some.inj h14) rfl
          · refine Tri.exit ?_
            refine Fin.then_exit ?_
            obtain rfl := hy15 _ (Option.some.inj h14).symm
            refine Fin.then_exit ?_
            refine Fin.block_exit ?_
            exact Fin.join [4, 5] [103] x_6 rfl rfl
        · rintro x_5 hv
          subst v11
          refine Tri.seq ?_
          refine Tri.regionL ?_
          refine OpsL.cons rfl (op_move rfl) ?_
          refine OpsL.cons rfl (op_conv_wrap undi63 undi22 rfl) ?_
          refine OpsL.cons rfl (op_move rfl) ?_
          refine OpsL.cons rfl (op_shr2 (m := 32) (by decide) rfl rfl rfl) ?_
          refine OpsL.cons rfl (op_conv_wrap undi63 undi22 rfl) ?_
          refine OpsL.consA (eA16 .u32) h4 rfl (op_buildA tyBuild23 rfl rfl) (fun x_10 h4 => ?_)
          obtain ⟨x_11, e17, h4⟩ := bnd h4
          refine OpsL.cons rfl (op_call0 (whole_signed_spec e17) goes46 rfl rfl) ?_
          refine OpsL.cons rfl (op_store_p tyAgg25 rfl rfl rfl rfl (Nat.le_of_ble_eq_true rfl) rfl) ?_
          refine OpsL.nilK [4] [103] (s' := ⟨[(4, .b (.ptr 103 0))], [(103, .box 25 (eBig x_11))]⟩) rfl ?_
          refine Tri.ret ?_
          obtain rfl := Option.some.inj h4
          refine Fin.then_ret ?_
          obtain rfl := Option.some.inj h
          refine Fin.keep [4] [103] (s' := ⟨[(4, .b (.ptr 103 0))], [(103, .box 25 (eBig x_11))]⟩) rfl ?_
          refine Fin.result' [.agg (eBig x_11)] (.inl rfl) rfl (.cons (.agg tyAgg25 rfl rfl rfl rfl) .nil) ⟨rfl, rfl⟩
      · refine Tri.skip ?_
        exact Fin.join [2, 3, 4] [101, 102, 103] () (Option.some.inj h4) rfl
    · rintro _ hv
      subst v3
      refine Tri.seq ?_
      refine Tri.seq ?_
      refine Tri.keep [2, 3, 4] [101, 102, 103] (s' := ⟨[(2, .b (.ptr 101 0)), (3, .b (.ptr 102 0)), (4, .b (.ptr 103 0))], [(101, .box 25 (eBig a0)), (102, .box 25 (eBig b0)), (103, .box 25 (.bool false :: .bool false :: ((eA16 .u32) A16.zero)))]⟩) rfl ?_
      refine Tri.regionW mixed [false, false, false, false, true, true, true, true] [.b (.ptr 101 2), .b (.agg ((eA16 .u32) a0.W)), .b (.ptr 102 2), .b (.agg ((eA16 .u32) b0.W)), .b (.ptr 105 0), .b (.ptr 106 0), B true, B true] [⟨[false, false, false, false, false, false, false, false], [(2, .b (.ptr 101 0)), (3, .b (.ptr 102 0)), (4, .b (.ptr 103 0))], [(101, .box 25 (eBig a0)), (102, .box 25 (eBig b0)), (103, .box 25 (.bool false :: .bool false :: ((eA16 .u32) A16.zero)))], [true, true, true, true, true, true, true, true], []⟩, ⟨[false, false, false, false, true, false, false, false], [(2, .b (.ptr 101 0)), (3, .b (.ptr 102 0)), (4, .b (.ptr 103 0))], [(101, .box 25 (eBig a0)), (102, .box 25 (eBig b0)), (103, .box 25 (.bool false :: .bool false :: ((eA16 .u32) A16.zero))), (105, .box 23 ((eA16 .u32) A16.zero))], [true, true, true, true, true, true, true, true], [4]⟩, ⟨[false, false, false, false, false, true, false, false], [(2, .b (.ptr 101 0)), (3, .b (.ptr 102 0)), (4, .b (.ptr 103 0))], [(101, .box 25 (eBig a0)), (102, .box 25 (eBig b0)), (103, .box 25 (.bool false :: .bool false :: ((eA16 .u32) A16.zero))), (106, .box 23 ((eA16 .u32) A16.zero))], [true, true, true, true, true, true, true, true], [5]⟩, ⟨[false, false, false, false, true, true, false, false], [(2, .b (.ptr 101 0)), (3, .b (.ptr 102 0)), (4, .b (.ptr 103 0))], [(101, .box 25 (eBig a0)), (102, .box 25 (eBig b0)), (103, .box 25 (.bool false :: .bool false :: ((eA16 .u32) A16.zero))), (105, .box 23 ((eA16 .u32) A16.zero)), (106, .box 23 ((eA16 .u32) A16.zero))], [true, true, true, true, true, true, true, true], [4, 5]⟩, ⟨[false, false, false, false, true, true, true, false], [(2, .b (.ptr 101 0)), (3, .b (.ptr 102 0)), (4, .b (.ptr 103 0))], [(101, .box 25 (eBig a0)), (102, .box 25 (eBig b0)), (103, .box 25 (.bool false :: .bool false :: ((eA16 .u32) A16.zero))), (105, .box 23 ((eA16 .u32) a0.W)), (106, .box 23 ((eA16 .u32) A16.zero))], [true, true, true, true, true, true, true, true], [0, 1, 4, 5, 6]⟩, ⟨[false, false, false, false, true, true, true, true], [(2, .b (.ptr 101 0)), (3, .b (.ptr 102 0)), (4, .b (.ptr 103 0))], [(101, .box 25 (eBig a0)), (102, .box 25 (eBig b0)), (103, .box 25 (.bool false :: .bool false :: ((eA16 .u32) A16.zero))), (105, .box 23 ((eA16 .u32) a0.W)), (106, .box 23 ((eA16 .u32) b0.W))], [true, true, true, true, true, true, true, true], [0, 1, 2, 3, 4, 5, 6, 7]⟩] rfl (⟨by kernel_rfl, ⟨⟨.b (.ptr 101 2), fun _ => rfl, fun _ => .plain rfl (by exact op_field_p tyFld25_2 rfl rfl)⟩, ⟨.b (.agg ((eA16 .u32) a0.W)), fun _ => rfl, fun _ => .plain rfl (by exact op_load_p tyAgg23 rfl rfl rfl rfl)⟩, ⟨.b (.ptr 102 2), fun _ => rfl, fun _ => .plain rfl (by exact op_field_p tyFld25_2 rfl rfl)⟩, ⟨.b (.agg ((eA16 .u32) b0.W)), fun _ => rfl, fun _ => .plain rfl (by exact op_load_p tyAgg23 rfl rfl rfl rfl)⟩, ⟨_, some 105, .b (.ptr 105 0), rfl, fun _ => rfl, rfl, rfl, fun _ => .toO [101, 102, 103, 105] (by exact .plain rfl (by exact op_alloc (k := 105) tyZero23 rfl)) (by exact rfl)⟩, ⟨_, some 106, .b (.ptr 106 0), rfl, fun _ => rfl, rfl, rfl, fun _ => .toO [101, 102, 103, 106] (by exact .plain rfl (by exact op_alloc (k := 106) tyZero23 rfl)) (by exact rfl)⟩, trivial, trivial, trivial⟩, ⟨by kernel_rfl, ⟨⟨.b (.ptr 101 2), fun _ => rfl, fun _ => .plain rfl (by exact op_field_p tyFld25_2 rfl rfl)⟩, ⟨.b (.agg ((eA16 .u32) a0.W)), fun _ => rfl, fun _ => .plain rfl (by exact op_load_p tyAgg23 rfl rfl rfl rfl)⟩, ⟨.b (.ptr 102 2), fun _ => rfl, fun _ => .plain rfl (by exact op_field_p tyFld25_2 rfl rfl)⟩, ⟨.b (.agg ((eA16 .u32) b0.W)), fun _ => rfl, fun _ => .plain rfl (by exact op_load_p tyAgg23 rfl rfl rfl rfl)⟩, trivial, ⟨_, some 106, .b (.ptr 106 0), rfl, fun _ => rfl, rfl, rfl, fun _ => .toO [101, 102, 103, 105, 106] (by exact .plain rfl (by exact op_alloc (k := 106) tyZero23 rfl)) (by exact rfl)⟩, trivial, trivial, trivial⟩, ⟨by kernel_rfl, ⟨⟨.b (.ptr 101 2), fun _ => rfl, fun _ => .plain rfl (by exact op_field_p tyFld25_2 rfl rfl)⟩, ⟨.b (.agg ((eA16 .u32) a0.W)), fun _ => rfl, fun _ => .plain rfl (by exact op_load_p tyAgg23 rfl rfl rfl rfl)⟩, ⟨.b (.ptr 102 2), fun _ => rfl, fun _ => .plain rfl (by exact op_field_p tyFld25_2 rfl rfl)⟩, ⟨.b (.agg ((eA16 .u32) b0.W)), fun _ => rfl, fun _ => .plain rfl (by exact op_load_p tyAgg23 rfl rfl rfl rfl)⟩, ⟨_, some 105, .b (.ptr 105 0), rfl, fun _ => rfl, rfl, rfl, fun _ => .toO [101, 102, 103, 105, 106] (by exact .plain rfl (by exact op_alloc (k := 105) tyZero23 rfl)) (by exact rfl)⟩, trivial, trivial, trivial, trivial⟩, ⟨by kernel_rfl, ⟨⟨.b (.ptr 101 2), fun _ => rfl, fun _ => .plain rfl (by exact op_field_p tyFld25_2 rfl rfl)⟩, ⟨.b (.agg ((eA16 .u32) a0.W)), fun _ => rfl, fun _ => .plain rfl (by exact op_load_p tyAgg23 rfl rfl rfl rfl)⟩, ⟨.b (.ptr 102 2), fun _ => rfl, fun _ => .plain rfl (by exact op_field_p tyFld25_2 rfl rfl)⟩, ⟨.b (.agg ((eA16 .u32) b0.W)), fun _ => rfl, fun _ => .plain rfl (by exact op_load_p tyAgg23 rfl rfl rfl rfl)⟩, trivial, trivial, ⟨_, none, .b (.one .any), rfl, (fun e => by simp at e), rfl, rfl, fun _ => .toO [101, 102, 103, 105, 106] (by exact .plain rfl (by exact op_store_p tyAgg23 rfl rfl rfl rfl (Nat.le_of_ble_eq_true rfl) rfl)) (by exact rfl)⟩, trivial, trivial⟩, ⟨by kernel_rfl, ⟨trivial, trivial, ⟨.b (.ptr 102 2), fun _ => rfl, fun _ => .plain rfl (by exact op_field_p tyFld25_2 rfl rfl)⟩, ⟨.b (.agg ((eA16 .u32) b0.W)), fun _ => rfl, fun _ => .plain rfl (by exact op_load_p tyAgg23 rfl rfl rfl rfl)⟩, trivial, trivial, trivial, ⟨_, none, .b (.one .any), rfl, (fun e => by simp at e), rfl, rfl, fun _ => .toO [101, 102, 103, 105, 106] (by exact .plain rfl (by exact op_store_p tyAgg23 rfl rfl rfl rfl (Nat.le_of_ble_eq_true rfl) rfl)) (by exact rfl)⟩, trivial⟩, ⟨by kernel_rfl, ⟨trivial, trivial, trivial, trivial, trivial, trivial, trivial, trivial, trivial⟩, trivial⟩⟩⟩⟩⟩⟩) rfl rfl rfl [2, 4, 7, 8] [101, 103, 105, 106] (s' := ⟨[(2, .b (.ptr 101 0)), (4, .b (.ptr 103 0)), (7, .b (.ptr 105 0)), (8, .b (.ptr 106 0))], [(101, .box 25 (eBig a0)), (103, .box 25 (.bool false :: .bool false :: ((eA16 .u32) A16.zero))), (105, .box 23 ((eA16 .u32) a0.W)), (106, .box 23 ((eA16 .u32) b0.W))]⟩) rfl ?_
      refine Tri.seq ?_
      refine Tri.regionL ?_
      refine OpsL.cons rfl (op_load_p tyAgg23 rfl rfl rfl rfl) ?_
      refine OpsL.cons rfl (op_buildA tyBuild23 rfl rfl) ?_
      refine OpsL.cons rfl (op_neq_agg (eqAgg23 b0.W A16.zero) rfl rfl neg_dec) ?_
      refine OpsL.nilK [2, 4, 7, 8, 66] [101, 103, 105, 106] (s' := ⟨[(2, .b (.ptr 101 0)), (4, .b (.ptr 103 0)), (7, .b (.ptr 105 0)), (8, .b (.ptr 106 0)), (66, B (decide (b0.W ≠ A16.zero)))], [(101, .box 25 (eBig a0)), (103, .box 25 (.bool false :: .bool false :: ((eA16 .u32) A16.zero))), (105, .box 23 ((eA16 .u32) a0.W)), (106, .box 23 ((eA16 .u32) b0.W))]⟩) rfl ?_
      refine Tri.ite h rfl (fun _ h => ?_) (fun _ h => ?_)
      · refine Tri.seq ?_
        refine Tri.regionL ?_
        refine OpsL.cons rfl (op_load_p tyAgg23 rfl rfl rfl rfl) ?_
        refine OpsL.cons rfl (op_load_p tyAgg23 rfl rfl rfl rfl) ?_
        obtain ⟨⟨x_12, x_13⟩, e18, h⟩ := bnd h
        refine OpsL.cons rfl (op_call0 (whole_quotient_spec e18) goes71 rfl rfl) ?_
        refine OpsL.cons rfl (op_move rfl) ?_
        refine OpsL.cons rfl (op_extract rfl rfl) ?_
        refine OpsL.keep [4, 8, 67, 71] [103, 106] (s' := ⟨[(4, .b (.ptr 103 0)), (8, .b (.ptr 106 0)), (67, .tup [.agg ((eA16 .u32) x_12), .agg ((eA16 .u32) x_13)]), (71, .b (.agg ((eA16 .u32) x_12)))], [(103, .box 25 (.bool false :: .bool false :: ((eA16 .u32) A16.zero))), (106, .box 23 ((eA16 .u32) b0.W))]⟩) rfl ?_
        refine OpsL.cons rfl (op_extract rfl rfl) ?_
        refine OpsL.cons rfl (op_alloc (k := 107) tyZero23 rfl) ?_
        refine OpsL.cons rfl (op_alloc (k := 108) tyZero23 rfl) ?_
        refine OpsL.cons rfl (op_store_p tyAgg23 rfl rfl rfl rfl (Nat.le_of_ble_eq_true rfl) rfl) ?_
        refine OpsL.cons rfl (op_store_p tyAgg23 rfl rfl rfl rfl (Nat.le_of_ble_eq_true rfl) rfl) ?_
        refine OpsL.nilK [4, 8, 10] [103, 106, 108] (s' := ⟨[(4, .b (.ptr 103 0)), (8, .b (.ptr 106 0)), (10, .b (.ptr 108 0))], [(103, .box 25 (.bool false :: .bool false :: ((eA16 .u32) A16.zero))), (106, .box 23 ((eA16 .u32) b0.W)), (108, .box 23 ((eA16 .u32) x_13))]⟩) rfl ?_
        refine Tri.seq ?_
        refine Tri.keep [4, 8, 10] [103, 106, 108] (s' := ⟨[(4, .b (.ptr 103 0)), (8, .b (.ptr 106 0)), (10, .b (.ptr 108 0))], [(103, .box 25 (.bool false :: .bool false :: ((eA16 .u32) A16.zero))), (106, .box 23 ((eA16 .u32) b0.W)), (108, .box 23 ((eA16 .u32) x_13))]⟩) rfl ?_
        obtain ⟨x_14, e19, h⟩ := bnd h
        obtain ⟨x_15, e20, h⟩ := bnd h
        obtain ⟨x_16, e21, h⟩ := bnd h
        refine Tri.regionY mixed 5 [.b (.agg ((eA16 .u32) b0.W)), .b (.agg (eBig x_14)), .b (.agg ((eA16 .u32) x_13)), .b (.agg (eBig x_15)), .b (.agg (eBig x_16))] [4] [103] (s' := ⟨[(4, .b (.ptr 103 0))], [(103, .box 25 (eBig x_16))]⟩) rfl ⟨fun _ => .plain rfl (op_load_p tyAgg23 rfl rfl rfl rfl), fun _ => .plain rfl (op_call0 (whole_signed_spec e19) goes46 rfl rfl), fun _ => .plain rfl (op_load_p tyAgg23 rfl rfl rfl rfl), fun _ => .plain rfl (op_call0 (whole_signed_spec e20) goes46 rfl rfl), fun _ => .plain rfl (op_call0 (ih e21) goes40 rfl rfl), trivial⟩ ⟨_, by exact .plain rfl (op_store_p tyAgg25 rfl rfl rfl rfl (Nat.le_of_ble_eq_true rfl) rfl), rfl⟩ rfl ?_
        refine Tri.ret ?_
        refine Fin.then_ret ?_
        obtain rfl := Option.some.inj h
        refine Fin.keep [4] [103] (s' := ⟨[(4, .b (.ptr 103 0))], [(103, .box 25 (eBig x_16))]⟩) rfl ?_
        refine Fin.result' [.agg (eBig x_16)] (.inl rfl) rfl (.cons (.agg tyAgg25 rfl rfl rfl rfl) .nil) ⟨rfl, rfl⟩
      · refine Tri.skip ?_
        refine Fin.keep [2, 4] [101, 103] (s' := ⟨[(2, .b (.ptr 101 0)), (4, .b (.ptr 103 0))], [(101, .box 25 (eBig a0)), (103, .box 25 (.bool false :: .bool false :: ((eA16 .u32) A16.zero)))]⟩) rfl ?_
        refine Fin.then ?_
        refine Tri.seq ?_
        refine Tri.regionL ?_
        refine OpsL.cons rfl (op_load_p tyAgg25 rfl rfl rfl rfl) ?_
        obtain ⟨x_17, e22, h⟩ := bnd h
        refine OpsL.cons rfl (op_call0 (whole_Abs_spec e22) goes16 rfl rfl) ?_
        refine OpsL.cons rfl (op_store_p tyAgg25 rfl rfl rfl rfl (Nat.le_of_ble_eq_true rfl) rfl) ?_
        refine OpsL.nilK [4] [103] (s' := ⟨[(4, .b (.ptr 103 0))], [(103, .box 25 (eBig x_17))]⟩) rfl ?_
        refine Tri.ret ?_
        obtain rfl := Option.some.inj h
        refine Fin.keep [4] [103] (s' := ⟨[(4, .b (.ptr 103 0))], [(103, .box 25 (eBig x_17))]⟩) rfl ?_
        refine Fin.result' [.agg (eBig x_17)] (.inl rfl) rfl (.cons (.agg tyAgg25 rfl rfl rfl rfl) .nil) ⟨rfl, rfl⟩
theorem whole_Gcd_spec {F : Nat} {a0 : Big} {b0 : Big} {r : Big} (h : whole_Gcd_S F a0 b0 = some r) : Meets Tryd.prog tabs 40 [] [.agg (eBig a0), .agg (eBig b0)] (Is [] (.b (.agg (eBig r)))) := whole_Gcd_specR F h

def whole_trailing_S (F : Nat) (w0 : A16) : Option Int :=
 Option.bind (iter F (fun k_2 => Option.bind (idx? w0.l k_2) (fun x_4 => if (decide (x_4 = 0)) = true then (some (.inl (IntKind.i64.wrap (k_2 + 1)))) else (some (.inr k_2)))) 0) (fun k_1 => Option.bind (idx? w0.l k_1) (fun x_5 => Option.bind (bits_TZ32_S F x_5) (fun x_6 => letN (IntKind.i64.wrap ((IntKind.i64.wrap (32 * k_1)) + x_6)) fun x_7 => some x_7)))
theorem whole_trailing_spec {F : Nat} {w0 : A16} {r : Int} (h : whole_trailing_S F w0 = some r) : Meets Tryd.prog tabs 89 [] [.agg ((eA16 .u32) w0)] (Is [] (.b (.one (.i r)))) := by
  unfold whole_trailing_S at h
  refine Meets.intro 17 Tryd.func89 Tryd.ntmps89 rfl (by simp) fun E => ?_
  show Tri _ E ⟨17, [], []⟩ _ ⟨[(0, .b (.agg ((eA16 .u32) w0)))], []⟩ _
  refine Tri.seq ?_
  refine Tri.regionL ?_
  refine OpsL.cons rfl (op_box (k := 101) rfl rfl) ?_
  refine OpsL.cons rfl (op_assign rfl) ?_
  refine OpsL.nilK [1] [101] (s' := ⟨[(1, .b (.ptr 101 0))], [(101, .box 23 ((eA16 .u32) w0))]⟩) rfl ?_
  refine Tri.seq ?_
  refine Tri.regionL ?_
  refine OpsL.cons rfl (op_assign rfl) ?_
  refine OpsL.nilK [1, 3] [101] (s' := ⟨[(1, .b (.ptr 101 0)), (3, I 0)], [(101, .box 23 ((eA16 .u32) w0))]⟩) rfl ?_
  obtain ⟨v1, h2, h⟩ := bnd h
  refine Tri.seqJ (v := v1) (fun (k_1 : Int) => ⟨[(1, .b (.ptr 101 0)), (3, I k_1)], [(101, .box 23 ((eA16 .u32) w0))]⟩) (fun z => z) ?_ ?_
  · refine Tri.block ?_
    refine Tri.loopJ h2 (fun (k_2 : Int) => ⟨[(1, .b (.ptr 101 0)), (3, I k_2)], [(101, .box 23 ((eA16 .u32) w0))]⟩) [1, 3] [101] rfl ?_
    rintro k_2 o3 h4 hy5
    refine Tri.seq ?_
    refine Tri.seq ?_
    refine Tri.regionL ?_
    refine OpsL.cons rfl (op_move rfl) ?_
    obtain ⟨x_4, e6, h4⟩ := bnd h4
    refine OpsL.cons rfl (op_index_p tyArr23 (ix_lo e6) (ix_hi e6) rfl rfl rfl) ?_
    refine OpsL.cons rfl (op_load_p1 tyOne22 rfl rfl (arr_get (post := []) (k := .u32) [] e6 rfl rfl rfl)) ?_
    refine OpsL.cons rfl (op_eql rfl rfl) ?_
    refine OpsL.nilK [1, 3, 7] [101] (s' := ⟨[(1, .b (.ptr 101 0)), (3, I k_2), (7, B (decide (x_4 = 0)))], [(101, .box 23 ((eA16 .u32) w0))]⟩) rfl ?_
    refine Tri.ite h4 rfl (fun _ h4 => ?_) (fun _ h4 => ?_)
    · refine Tri.skip ?_
      refine Fin.keep [1, 3] [101] (s' := ⟨[(1, .b (.ptr 101 0)), (3, I k_2)], [(101, .box 23 ((eA16 .u32) w0))]⟩) rfl ?_
      refine Fin.then ?_
      refine Tri.block ?_
      refine Tri.regionL ?_
      refine OpsL.cons rfl (op_move rfl) ?_
      refine OpsL.cons rfl (op_add rfl rfl) ?_
      refine OpsL.cons rfl (op_assign rfl) ?_
      refine OpsL.nil ?_
      refine Fin.block_normal ?_
      exact Fin.againJ [1, 3] [101] (IntKind.i64.wrap (k_2 + 1)) (Option.some.inj h4) rfl
    · refine Tri.exit ?_
      refine Fin.then_exit ?_
      obtain rfl := hy5 _ (Option.some.inj h4).symm
      refine Fin.then_exit ?_
      refine Fin.block_exit ?_
      exact Fin.join [1, 3] [101] k_2 rfl rfl
  · rintro k_1 hv
    subst v1
    refine Tri.seq ?_
    refine Tri.regionL ?_
    refine OpsL.cons rfl (op_move rfl) ?_
    refine OpsL.cons rfl (op_mul rfl rfl) ?_
    refine OpsL.cons rfl (op_move rfl) ?_
    obtain ⟨x_5, e7, h⟩ := bnd h
    refine OpsL.cons rfl (op_index_p tyArr23 (ix_lo e7) (ix_hi e7) rfl rfl rfl) ?_
    refine OpsL.cons rfl (op_load_p1 tyOne22 rfl rfl (arr_get (post := []) (k := .u32) [] e7 rfl rfl rfl)) ?_
    refine OpsL.keep [11, 14] [] (s' := ⟨[(11, I (IntKind.i64.wrap (32 * k_1))), (14, .b (.one (.int .u32 x_5)))], []⟩) rfl ?_
    obtain ⟨x_6, e8, h⟩ := bnd h
    refine OpsL.cons rfl (op_call0 (bits_TZ32_spec e8) goes97 rfl rfl) ?_
    refine OpsL.consI .i64 h rfl (op_add rfl rfl) (fun x_7 h => ?_)
    refine OpsL.cons rfl (op_assign rfl) ?_
    refine OpsL.nilK [2] [] (s' := ⟨[(2, I x_7)], []⟩) rfl ?_
    refine Tri.ret ?_
    obtain rfl := Option.some.inj h
    refine Fin.keep [2] [] (s' := ⟨[(2, I x_7)], []⟩) rfl ?_
    refine Fin.result' [.one (.i x_7)] (.inl rfl) rfl (.cons (.tmp rfl) .nil) ⟨rfl, rfl⟩

def whole_lost_S (F : Nat) (x0 : Big) (w0 : A16) (n0 : List Int) : Option Big :=
 Option.bind (whole_signed_S F x0.Neg w0) (fun x_1 => Option.bind (gcall (x0.Neg && !(decide ((n0.length : Int) = 0))) (whole_trailing_S F x0.W)) (fun x_2 => Option.bind (gcall (x0.Neg && !(decide ((n0.length : Int) = 0))) (idx? n0 0)) (fun x_3 => if (x0.Neg && ((decide ((n0.length : Int) = 0)) || (decide (x_2 < x_3)))) = true then (Option.bind (whole_Of_S F 1) (fun x_4 => Option.bind (whole_Sub_S F x_1 x_4) (fun x_5 => some x_5))) else (some x_1))))
theorem whole_lost_spec {F : Nat} {x0 : Big} {w0 : A16} {n0 : List Int} {r : Big} (h : whole_lost_S F x0 w0 n0 = some r) : Meets Tryd.prog tabs 72 [] [.agg (eBig x0), .agg ((eA16 .u32) w0), .one (.sl 1 (n0.map eI))] (Is [] (.b (.agg (eBig r)))) := by
  unfold whole_lost_S at h
  refine Meets.intro 32 Tryd.func72 Tryd.ntmps72 rfl (by simp) fun E => ?_
  show Tri _ E ⟨32, [], []⟩ _ ⟨[(0, .b (.agg (eBig x0))), (1, .b (.agg ((eA16 .u32) w0))), (2, .b (.one (.sl 1 (n0.map eI))))], []⟩ _
  refine Tri.seq ?_
  refine Tri.regionL ?_
  refine OpsL.cons rfl (op_box (k := 101) rfl rfl) ?_
  refine OpsL.cons rfl (op_box (k := 102) rfl rfl) ?_
  refine OpsL.cons rfl (op_alloc (k := 103) tyZero25 rfl) ?_
  refine OpsL.nilK [2, 3, 4, 6] [101, 102, 103] (s' := ⟨[(2, .b (.one (.sl 1 (n0.map eI)))), (3, .b (.ptr 101 0)), (4, .b (.ptr 102 0)), (6, .b (.ptr 103 0))], [(101, .box 25 (eBig x0)), (102, .box 23 ((eA16 .u32) w0)), (103, .box 25 (.bool false :: .bool false :: ((eA16 .u32) A16.zero)))]⟩) rfl ?_
  refine Tri.seq ?_
  refine Tri.regionL ?_
  refine OpsL.cons rfl (op_field_p tyFld25_1 rfl rfl) ?_
  refine OpsL.cons rfl (op_load_p1 tyOne4 rfl rfl rfl) ?_
  refine OpsL.cons rfl (op_load_p tyAgg23 rfl rfl rfl rfl) ?_
  obtain ⟨x_1, e1, h⟩ := bnd h
  refine OpsL.cons rfl (op_call0 (whole_signed_spec e1) goes46 rfl rfl) ?_
  refine OpsL.cons rfl (op_alloc (k := 104) tyZero25 rfl) ?_
  refine OpsL.cons rfl (op_store_p tyAgg25 rfl rfl rfl rfl (Nat.le_of_ble_eq_true rfl) rfl) ?_
  refine OpsL.nilK [2, 3, 6, 7] [101, 103, 104] (s' := ⟨[(2, .b (.one (.sl 1 (n0.map eI)))), (3, .b (.ptr 101 0)), (6, .b (.ptr 103 0)), (7, .b (.ptr 104 0))], [(101, .box 25 (eBig x0)), (103, .box 25 (.bool false :: .bool false :: ((eA16 .u32) A16.zero))), (104, .box 25 (eBig x_1))]⟩) rfl ?_
  refine Tri.seq ?_
  refine Tri.seq ?_
  refine Tri.keep [2, 3, 6, 7] [101, 103, 104] (s' := ⟨[(2, .b (.one (.sl 1 (n0.map eI)))), (3, .b (.ptr 101 0)), (6, .b (.ptr 103 0)), (7, .b (.ptr 104 0))], [(101, .box 25 (eBig x0)), (103, .box 25 (.bool false :: .bool false :: ((eA16 .u32) A16.zero))), (104, .box 25 (eBig x_1))]⟩) rfl ?_
  obtain ⟨x_2, e9, h⟩ := bnd h
  obtain ⟨x_3, e12, h⟩ := bnd h
  refine Tri.regionY mixed 16 [.b (.ptr 101 1), B x0.Neg, B x0.Neg, .opt x0.Neg (.one (.sl 1 (n0.map eI))), .opt x0.Neg (.one (.i (n0.length : Int))), .opt x0.Neg (.one (.bool (decide ((n0.length : Int) = 0)))), .opt x0.Neg (.one (.bool (decide ((n0.length : Int) = 0)))), .opt (x0.Neg && !(decide ((n0.length : Int) = 0))) (.ptr 101 2), .opt (x0.Neg && !(decide ((n0.length : Int) = 0))) (.agg ((eA16 .u32) x0.W)), .opt (x0.Neg && !(decide ((n0.length : Int) = 0))) (.one (.i x_2)), .opt (x0.Neg && !(decide ((n0.length : Int) = 0))) (.one (.sl 1 (n0.map eI))), .opt (x0.Neg && !(decide ((n0.length : Int) = 0))) (.eptr [.i x_3]), .opt (x0.Neg && !(decide ((n0.length : Int) = 0))) (.one (.i x_3)), .opt (x0.Neg && !(decide ((n0.length : Int) = 0))) (.one (.bool (decide (x_2 < x_3)))), .opt x0.Neg (.one (.bool ((decide ((n0.length : Int) = 0)) || (decide (x_2 < x_3))))), B (x0.Neg && ((decide ((n0.length : Int) = 0)) || (decide (x_2 < x_3))))] [6, 7, 27] [103, 104] (s' := ⟨[(6, .b (.ptr 103 0)), (7, .b (.ptr 104 0)), (27, B (x0.Neg && ((decide ((n0.length : Int) = 0)) || (decide (x_2 < x_3)))))], [(103, .box 25 (.bool false :: .bool false :: ((eA16 .u32) A16.zero))), (104, .box 25 (eBig x_1))]⟩) rfl ⟨fun _ => .plain rfl (op_field_p tyFld25_1 rfl rfl), fun _ => .plain rfl (op_load_p1 tyOne4 rfl rfl rfl), fun _ => .plain rfl (op_move rfl), fun _ => by exact .guard x0.Neg 1 [] (.plain rfl) (eq_t _) rfl rfl (fun g2 => trivial) (fun g2 => op_move rfl), fun _ => by exact .guard x0.Neg 2 [15] (.plain rfl) (eq_t _) rfl rfl (fun g3 => ⟨g3, trivial⟩) (fun g3 => op_len_e' und54 rfl (List.length_map _)), fun _ => by exact .guard x0.Neg 2 [16] (.plain rfl) (eq_t _) rfl rfl (fun g4 => ⟨g4, trivial⟩) (fun g4 => op_eql rfl rfl), fun _ => by exact .guard x0.Neg 3 [17] (.plain rfl) (eq_t _) rfl rfl (fun g5 => ⟨g5, trivial⟩) (fun g5 => op_move rfl), fun _ => by exact .guard (x0.Neg && !(decide ((n0.length : Int) = 0))) 1 [] (.under rfl) (and_f _ _) rfl rfl (fun g6 => trivial) (fun g6 => op_field_p tyFld25_2 rfl rfl), fun _ => by exact .guard (x0.Neg && !(decide ((n0.length : Int) = 0))) 2 [19] (.under rfl) (and_f _ _) rfl rfl (fun g7 => ⟨g7, trivial⟩) (fun g7 => op_load_p tyAgg23 rfl rfl rfl rfl), fun _ => by exact .guard (x0.Neg && !(decide ((n0.length : Int) = 0))) 3 [20] (.under rfl) (and_f _ _) rfl rfl (fun g8 => ⟨g8, trivial⟩) (fun g8 => op_call0 (whole_trailing_spec (gc e9 g8)) goes89 rfl rfl), fun _ => by exact .guard (x0.Neg && !(decide ((n0.length : Int) = 0))) 1 [] (.under rfl) (and_f _ _) rfl rfl (fun g10 => trivial) (fun g10 => op_move rfl), fun _ => by exact .guard (x0.Neg && !(decide ((n0.length : Int) = 0))) 2 [22] (.under rfl) (and_f _ _) rfl rfl (fun g11 => ⟨g11, trivial⟩) (fun g11 => op_index_e tySl54 (ix_lo (gc e12 g11)) (ix_map (e := eI) (gc e12 g11)) rfl rfl), fun _ => by exact .guard (x0.Neg && !(decide ((n0.length : Int) = 0))) 2 [23] (.under rfl) (and_f _ _) rfl rfl (fun g13 => ⟨g13, trivial⟩) (fun g13 => op_load_e1 tyOne3 rfl rfl), fun _ => by exact .guard (x0.Neg && !(decide ((n0.length : Int) = 0))) 3 [21, 24] (.under rfl) (and_f _ _) rfl rfl (fun g14 => ⟨g14, g14, trivial⟩) (fun g14 => op_lss rfl rfl), fun _ => by exact .guard x0.Neg 3 [18] (.plain rfl) (eq_t _) rfl rfl (fun g15 => ⟨g15, trivial⟩) (fun g15 => op_pick_or (fun e => by rw [g15, e]; rfl) rfl rfl rfl rfl), fun _ => .plain rfl (op_pick_and (fun e => e) rfl rfl rfl rfl), trivial⟩ rfl rfl ?_
  refine Tri.ite h rfl (fun _ h => ?_) (fun _ h => ?_)
  · refine Tri.seq ?_
    refine Tri.keep [6, 7] [103, 104] (s' := ⟨[(6, .b (.ptr 103 0)), (7, .b (.ptr 104 0))], [(103, .box 25 (.bool false :: .bool false :: ((eA16 .u32) A16.zero))), (104, .box 25 (eBig x_1))]⟩) rfl ?_
    obtain ⟨x_4, e16, h⟩ := bnd h
    obtain ⟨x_5, e17, h⟩ := bnd h
    refine Tri.regionY mixed 3 [.b (.agg (eBig x_1)), .b (.agg (eBig x_4)), .b (.agg (eBig x_5))] [6] [103] (s' := ⟨[(6, .b (.ptr 103 0))], [(103, .box 25 (eBig x_5))]⟩) rfl ⟨fun _ => .plain rfl (op_load_p tyAgg25 rfl rfl rfl rfl), fun _ => .plain rfl (op_call0 (whole_Of_spec e16) goes38 rfl rfl), fun _ => .plain rfl (op_call0 (whole_Sub_spec e17) goes12 rfl rfl), trivial⟩ ⟨_, by exact .plain rfl (op_store_p tyAgg25 rfl rfl rfl rfl (Nat.le_of_ble_eq_true rfl) rfl), rfl⟩ rfl ?_
    refine Tri.ret ?_
    refine Fin.then_ret ?_
    obtain rfl := Option.some.inj h
    refine Fin.keep [6] [103] (s' := ⟨[(6, .b (.ptr 103 0))], [(103, .box 25 (eBig x_5))]⟩) rfl ?_
    refine Fin.result' [.agg (eBig x_5)] (.inl rfl) rfl (.cons (.agg tyAgg25 rfl rfl rfl rfl) .nil) ⟨rfl, rfl⟩
  · refine Tri.skip ?_
    refine Fin.keep [6, 7] [103, 104] (s' := ⟨[(6, .b (.ptr 103 0)), (7, .b (.ptr 104 0))], [(103, .box 25 (.bool false :: .bool false :: ((eA16 .u32) A16.zero))), (104, .box 25 (eBig x_1))]⟩) rfl ?_
    refine Fin.then ?_
    refine Tri.seq ?_
    refine Tri.regionL ?_
    refine OpsL.cons rfl (op_load_p tyAgg25 rfl rfl rfl rfl) ?_
    refine OpsL.cons rfl (op_store_p tyAgg25 rfl rfl rfl rfl (Nat.le_of_ble_eq_true rfl) rfl) ?_
    refine OpsL.nilK [6] [103] (s' := ⟨[(6, .b (.ptr 103 0))], [(103, .box 25 (eBig x_1))]⟩) rfl ?_
    refine Tri.ret ?_
    obtain rfl := Option.some.inj h
    refine Fin.keep [6] [103] (s' := ⟨[(6, .b (.ptr 103 0))], [(103, .box 25 (eBig x_1))]⟩) rfl ?_
    refine Fin.result' [.agg (eBig x_1)] (.inl rfl) rfl (.cons (.agg tyAgg25 rfl rfl rfl rfl) .nil) ⟨rfl, rfl⟩

def whole_Shift_S (F : Nat) (x0 : Big) (n0 : Int) : Option Big :=
 Option.bind (whole_good_S F [x0]) (fun x_1 => if (!x_1) = true then (Option.bind (whole_Bad_S F) (fun x_2 => some x_2)) else (Option.bind (whole_Sign_S F x0) (fun x_3 => if (decide (x_3 = 0)) = true then (some x0) else (Option.bind (gcall ((!(decide (512 ≤ n0))) && (decide (0 < n0))) (whole_Bits_S F x0)) (fun x_4 => letN ((decide (512 ≤ n0)) || ((decide (0 < n0)) && (decide (512 < (IntKind.i64.wrap (x_4 + n0)))))) fun x_5 => if x_5 = true then (Option.bind (whole_Bad_S F) (fun x_6 => some x_6)) else (if (decide (n0 ≤ (-512))) = true then (Option.bind (whole_lost_S F x0 A16.zero []) (fun x_7 => some x_7)) else (Option.bind (quo? .i64 n0 32) (fun x_8 => if (decide (0 ≤ n0)) = true then (Option.bind (slo? 16 x_8) (fun x_9 => letN (A16.of (spliceE A16.zero.l ((x_8 : Int).toNat) ((x0.W.l.drop 0).take (min 16 (16 - (x_8 : Int).toNat))))) fun x_10 => Option.bind (whole_up_S F x_10 (Int.tmod n0 32)) (un2 fun x_11 x_12 => Option.bind (whole_signed_S F x0.Neg x_11) (fun x_13 => some x_13)))) else (Option.bind (slo? 16 (IntKind.i64.wrap (-x_8))) (fun x_14 => Option.bind (whole_down_S F (A16.of (spliceE A16.zero.l 0 ((x0.W.l.drop ((IntKind.i64.wrap (-x_8) : Int).toNat)).take (min (16 - (IntKind.i64.wrap (-x_8) : Int).toNat) 16)))) (Int.tmod (IntKind.i64.wrap (-n0)) 32)) (fun x_15 => Option.bind (whole_lost_S F x0 x_15 [IntKind.i64.wrap (-n0)]) (fun x_16 => some x_16))))))))))))
theorem whole_Shift_spec {F : Nat} {x0 : Big} {n0 : Int} {r : Big} (h : whole_Shift_S F x0 n0 = some r) : Meets Tryd.prog tabs 42 [] [.agg (eBig x0), .one (.i n0)] (Is [] (.b (.agg (eBig r)))) := by
  unfold whole_Shift_S at h
  refine Meets.intro 75 Tryd.func42 Tryd.ntmps42 rfl (by simp) fun E => ?_
  show Tri _ E ⟨75, [], []⟩ _ ⟨[(0, .b (.agg (eBig x0))), (1, I n0)], []⟩ _
  refine Tri.seq ?_
  refine Tri.regionL ?_
  refine OpsL.cons rfl (op_box (k := 101) rfl rfl) ?_
  refine OpsL.cons rfl (op_alloc (k := 102) tyZero25 rfl) ?_
  refine OpsL.nilK [1, 2, 4] [101, 102] (s' := ⟨[(1, I n0), (2, .b (.ptr 101 0)), (4, .b (.ptr 102 0))], [(101, .box 25 (eBig x0)), (102, .box 25 (.bool false :: .bool false :: ((eA16 .u32) A16.zero)))]⟩) rfl ?_
  refine Tri.seq ?_
  refine Tri.block ?_
  refine Tri.seq ?_
  refine Tri.regionL ?_
  refine OpsL.cons rfl (op_load_p tyAgg25 rfl rfl rfl rfl) ?_
  refine OpsL.cons rfl (op_buildSlice (k := 103) (es := [x0].map eBig) tySl85 rfl rfl (uni_map fun _ => rfl) rfl (by decide) (by decide) rfl) ?_
  obtain ⟨x_1, e1, h⟩ := bnd h
  refine OpsL.cons rfl (op_callB (whole_good_spec e1) goes43 rfl CP.flat_bool) ?_
  refine OpsL.cons rfl (op_not rfl) ?_
  refine OpsL.cons rfl (op_assign rfl) ?_
  refine OpsL.nilK [1, 2, 4, 7] [101, 102] (s' := ⟨[(1, I n0), (2, .b (.ptr 101 0)), (4, .b (.ptr 102 0)), (7, B (!x_1))], [(101, .box 25 (eBig x0)), (102, .box 25 (.bool false :: .bool false :: ((eA16 .u32) A16.zero)))]⟩) rfl ?_
  refine Tri.ite h rfl (fun _ h => ?_) (fun _ h => ?_)
  · refine Tri.seq ?_
    refine Tri.regionL ?_
    obtain ⟨x_2, e2, h⟩ := bnd h
    refine OpsL.cons rfl (op_call0 (whole_Bad_spec e2) goes44 rfl rfl) ?_
    refine OpsL.cons rfl (op_store_p tyAgg25 rfl rfl rfl rfl (Nat.le_of_ble_eq_true rfl) rfl) ?_
    refine OpsL.nilK [4] [102] (s' := ⟨[(4, .b (.ptr 102 0))], [(102, .box 25 (eBig x_2))]⟩) rfl ?_
    refine Tri.ret ?_
    refine Fin.block_ret ?_
    refine Fin.then_ret ?_
    obtain rfl := Option.some.inj h
    refine Fin.keep [4] [102] (s' := ⟨[(4, .b (.ptr 102 0))], [(102, .box 25 (eBig x_2))]⟩) rfl ?_
    refine Fin.result' [.agg (eBig x_2)] (.inl rfl) rfl (.cons (.agg tyAgg25 rfl rfl rfl rfl) .nil) ⟨rfl, rfl⟩
  · refine Tri.seq ?_
    refine Tri.regionL ?_
    refine OpsL.cons rfl (op_load_p tyAgg25 rfl rfl rfl rfl) ?_
    obtain ⟨x_3, e3, h⟩ := bnd h
    refine OpsL.cons rfl (op_call0 (whole_Sign_spec e3) goes18 rfl rfl) ?_
    refine OpsL.cons rfl (op_eql rfl rfl) ?_
    refine OpsL.cons rfl (op_assign rfl) ?_
    refine OpsL.nilK [1, 2, 4, 13] [101, 102] (s' := ⟨[(1, I n0), (2, .b (.ptr 101 0)), (4, .b (.ptr 102 0)), (13, B (decide (x_3 = 0)))], [(101, .box 25 (eBig x0)), (102, .box 25 (.bool false :: .bool false :: ((eA16 .u32) A16.zero)))]⟩) rfl ?_
    refine Tri.ite h rfl (fun _ h => ?_) (fun _ h => ?_)
    · refine Tri.seq ?_
      refine Tri.regionL ?_
      refine OpsL.cons rfl (op_load_p tyAgg25 rfl rfl rfl rfl) ?_
      refine OpsL.cons rfl (op_store_p tyAgg25 rfl rfl rfl rfl (Nat.le_of_ble_eq_true rfl) rfl) ?_
      refine OpsL.nilK [4] [102] (s' := ⟨[(4, .b (.ptr 102 0))], [(102, .box 25 (eBig x0))]⟩) rfl ?_
      refine Tri.ret ?_
      refine Fin.block_ret ?_
      refine Fin.then_ret ?_
      obtain rfl := Option.some.inj h
      refine Fin.keep [4] [102] (s' := ⟨[(4, .b (.ptr 102 0))], [(102, .box 25 (eBig x0))]⟩) rfl ?_
      refine Fin.result' [.agg (eBig x0)] (.inl rfl) rfl (.cons (.agg tyAgg25 rfl rfl rfl rfl) .nil) ⟨rfl, rfl⟩
    · refine Tri.seq ?_
      refine Tri.regionL ?_
      refine OpsL.cons rfl (op_move rfl) ?_
      refine OpsL.cons rfl (op_geq rfl rfl) ?_
      refine OpsL.cons rfl (op_move rfl) ?_
      refine OpsL.consG (!(decide (512 ≤ n0))) 99 [] (.plain rfl) (eq_f _) rfl rfl (fun g4 => trivial) (fun g4 => op_move rfl) ?_
      refine OpsL.consG (!(decide (512 ≤ n0))) 99 [22] (.plain rfl) (eq_f _) rfl rfl (fun g5 => ⟨g5, trivial⟩) (fun g5 => op_gtr rfl rfl) ?_
      refine OpsL.consG (!(decide (512 ≤ n0))) 99 [23] (.plain rfl) (eq_f _) rfl rfl (fun g6 => ⟨g6, trivial⟩) (fun g6 => op_move rfl) ?_
      refine OpsL.consG ((!(decide (512 ≤ n0))) && (decide (0 < n0))) 99 [] (.under rfl) (and_t _ _) rfl rfl (fun g7 => trivial) (fun g7 => op_load_p tyAgg25 rfl rfl rfl rfl) ?_
      refine OpsL.keep [1, 2, 4, 21, 24, 25] [101, 102] (s' := ⟨[(1, I n0), (2, .b (.ptr 101 0)), (4, .b (.ptr 102 0)), (21, B (decide (512 ≤ n0))), (24, .opt (!(decide (512 ≤ n0))) (.one (.bool (decide (0 < n0))))), (25, .opt ((!(decide (512 ≤ n0))) && (decide (0 < n0))) (.agg (eBig x0)))], [(101, .box 25 (eBig x0)), (102, .box 25 (.bool false :: .bool false :: ((eA16 .u32) A16.zero)))]⟩) rfl ?_
      obtain ⟨x_4, e9, h⟩ := bnd h
      refine OpsL.consG ((!(decide (512 ≤ n0))) && (decide (0 < n0))) 99 [25] (.under rfl) (and_t _ _) rfl rfl (fun g8 => ⟨g8, trivial⟩) (fun g8 => op_call0 (whole_Bits_spec (gc e9 g8)) goes20 rfl rfl) ?_
      refine OpsL.consG ((!(decide (512 ≤ n0))) && (decide (0 < n0))) 99 [] (.under rfl) (and_t _ _) rfl rfl (fun g10 => trivial) (fun g10 => op_move rfl) ?_
      refine OpsL.consG ((!(decide (512 ≤ n0))) && (decide (0 < n0))) 99 [26, 27] (.under rfl) (and_t _ _) rfl rfl (fun g11 => ⟨g11, g11, trivial⟩) (fun g11 => op_add rfl rfl) ?_
      refine OpsL.consG ((!(decide (512 ≤ n0))) && (decide (0 < n0))) 99 [28] (.under rfl) (and_t _ _) rfl rfl (fun g12 => ⟨g12, trivial⟩) (fun g12 => op_gtr rfl rfl) ?_
      refine OpsL.consG (!(decide (512 ≤ n0))) 99 [24] (.plain rfl) (eq_f _) rfl rfl (fun g13 => ⟨g13, trivial⟩) (fun g13 => op_pick_and (fun e => by rw [g13, e]; rfl) rfl rfl rfl rfl) ?_
      refine OpsL.consB h rfl (op_pick_or (fun e => by rw [e]; rfl) rfl rfl rfl rfl) (fun x_5 h => ?_)
      refine OpsL.cons rfl (op_assign rfl) ?_
      refine OpsL.nilK [1, 2, 4, 18] [101, 102] (s' := ⟨[(1, I n0), (2, .b (.ptr 101 0)), (4, .b (.ptr 102 0)), (18, B x_5)], [(101, .box 25 (eBig x0)), (102, .box 25 (.bool false :: .bool false :: ((eA16 .u32) A16.zero)))]⟩) rfl ?_
      refine Tri.ite h rfl (fun _ h => ?_) (fun _ h => ?_)
      · refine Tri.seq ?_
        refine Tri.regionL ?_
        obtain ⟨x_6, e14, h⟩ := bnd h
        refine OpsL.cons rfl (op_call0 (whole_Bad_spec e14) goes44 rfl rfl) ?_
        refine OpsL.cons rfl (op_store_p tyAgg25 rfl rfl rfl rfl (Nat.le_of_ble_eq_true rfl) rfl) ?_
        refine OpsL.nilK [4] [102] (s' := ⟨[(4, .b (.ptr 102 0))], [(102, .box 25 (eBig x_6))]⟩) rfl ?_
        refine Tri.ret ?_
        refine Fin.block_ret ?_
        refine Fin.then_ret ?_
        obtain rfl := Option.some.inj h
        refine Fin.keep [4] [102] (s' := ⟨[(4, .b (.ptr 102 0))], [(102, .box 25 (eBig x_6))]⟩) rfl ?_
        refine Fin.result' [.agg (eBig x_6)] (.inl rfl) rfl (.cons (.agg tyAgg25 rfl rfl rfl rfl) .nil) ⟨rfl, rfl⟩
      · refine Tri.seq ?_
        refine Tri.regionL ?_
        refine OpsL.cons rfl (op_move rfl) ?_
        refine OpsL.cons rfl (op_leq rfl rfl) ?_
        refine OpsL.cons rfl (op_assign rfl) ?_
        refine OpsL.nilK [1, 2, 4, 33] [101, 102] (s' := ⟨[(1, I n0), (2, .b (.ptr 101 0)), (4, .b (.ptr 102 0)), (33, B (decide (n0 ≤ (-512))))], [(101, .box 25 (eBig x0)), (102, .box 25 (.bool false :: .bool false :: ((eA16 .u32) A16.zero)))]⟩) rfl ?_
        refine Tri.ite h rfl (fun _ h => ?_) (fun _ h => ?_)
        · refine Tri.seq ?_
          refine Tri.regionL ?_
          refine OpsL.cons rfl (op_load_p tyAgg25 rfl rfl rfl rfl) ?_
          refine OpsL.cons rfl (op_buildA tyBuild23 rfl rfl) ?_
          obtain ⟨x_7, e15, h⟩ := bnd h
          refine OpsL.cons rfl (op_call0 (Meets.nilA 2 (by decide) (whole_lost_spec e15) rfl) goes72 rfl rfl) ?_
          refine OpsL.cons rfl (op_store_p tyAgg25 rfl rfl rfl rfl (Nat.le_of_ble_eq_true rfl) rfl) ?_
          refine OpsL.nilK [4] [102] (s' := ⟨[(4, .b (.ptr 102 0))], [(102, .box 25 (eBig x_7))]⟩) rfl ?_
          refine Tri.ret ?_
          refine Fin.block_ret ?_
          refine Fin.then_ret ?_
          obtain rfl := Option.some.inj h
          refine Fin.keep [4] [102] (s' := ⟨[(4, .b (.ptr 102 0))], [(102, .box 25 (eBig x_7))]⟩) rfl ?_
          refine Fin.result' [.agg (eBig x_7)] (.inl rfl) rfl (.cons (.agg tyAgg25 rfl rfl rfl rfl) .nil) ⟨rfl, rfl⟩
        · refine Tri.skip ?_
          refine Fin.block_normal ?_
          refine Fin.keep [1, 2, 4] [101, 102] (s' := ⟨[(1, I n0), (2, .b (.ptr 101 0)), (4, .b (.ptr 102 0))], [(101, .box 25 (eBig x0)), (102, .box 25 (.bool false :: .bool false :: ((eA16 .u32) A16.zero)))]⟩) rfl ?_
          refine Fin.then ?_
          refine Tri.seq ?_
          refine Tri.regionL ?_
          refine OpsL.cons rfl (op_alloc (k := 104) tyZero23 rfl) ?_
          refine OpsL.nilK [1, 2, 4, 5] [101, 102, 104] (s' := ⟨[(1, I n0), (2, .b (.ptr 101 0)), (4, .b (.ptr 102 0)), (5, .b (.ptr 104 0))], [(101, .box 25 (eBig x0)), (102, .box 25 (.bool false :: .bool false :: ((eA16 .u32) A16.zero))), (104, .box 23 ((eA16 .u32) A16.zero))]⟩) rfl ?_
          refine Tri.seq ?_
          refine Tri.regionL ?_
          refine OpsL.cons rfl (op_move rfl) ?_
          obtain ⟨x_8, e16, h⟩ := bnd h
          refine OpsL.cons rfl (op_quo2 e16 rfl rfl) ?_
          refine OpsL.cons rfl (op_assign rfl) ?_
          refine OpsL.nilK [1, 2, 4, 5, 6] [101, 102, 104] (s' := ⟨[(1, I n0), (2, .b (.ptr 101 0)), (4, .b (.ptr 102 0)), (5, .b (.ptr 104 0)), (6, I x_8)], [(101, .box 25 (eBig x0)), (102, .box 25 (.bool false :: .bool false :: ((eA16 .u32) A16.zero))), (104, .box 23 ((eA16 .u32) A16.zero))]⟩) rfl ?_
          refine Tri.seq ?_
          refine Tri.seq ?_
          refine Tri.regionL ?_
          refine OpsL.cons rfl (op_move rfl) ?_
          refine OpsL.cons rfl (op_geq rfl rfl) ?_
          refine OpsL.nilK [1, 2, 4, 5, 6, 42] [101, 102, 104] (s' := ⟨[(1, I n0), (2, .b (.ptr 101 0)), (4, .b (.ptr 102 0)), (5, .b (.ptr 104 0)), (6, I x_8), (42, B (decide (0 ≤ n0)))], [(101, .box 25 (eBig x0)), (102, .box 25 (.bool false :: .bool false :: ((eA16 .u32) A16.zero))), (104, .box 23 ((eA16 .u32) A16.zero))]⟩) rfl ?_
          refine Tri.ite h rfl (fun _ h => ?_) (fun _ h => ?_)
          · refine Tri.seq ?_
            refine Tri.keep [1, 2, 4, 5, 6] [101, 102, 104] (s' := ⟨[(1, I n0), (2, .b (.ptr 101 0)), (4, .b (.ptr 102 0)), (5, .b (.ptr 104 0)), (6, I x_8)], [(101, .box 25 (eBig x0)), (102, .box 25 (.bool false :: .bool false :: ((eA16 .u32) A16.zero))), (104, .box 23 ((eA16 .u32) A16.zero))]⟩) rfl ?_
            obtain ⟨x_9, e17, h⟩ := bnd h
            refine Tri.regionY mixed 4 [I x_8, .b (.psl 104 (0 + (x_8 : Int).toNat) (16 - (x_8 : Int).toNat) (16 - (x_8 : Int).toNat)), .b (.ptr 101 2), .b (.psl 101 2 16 16)] [1, 2, 4, 5] [101, 102, 104] (s' := ⟨[(1, I n0), (2, .b (.ptr 101 0)), (4, .b (.ptr 102 0)), (5, .b (.ptr 104 0))], [(101, .box 25 (eBig x0)), (102, .box 25 (.bool false :: .bool false :: ((eA16 .u32) A16.zero))), (104, .box 23 ((eA16 .u32) (A16.of (spliceE A16.zero.l ((x_8 : Int).toNat) ((x0.W.l.drop 0).take (min 16 (16 - (x_8 : Int).toNat)))))))]⟩) rfl ⟨fun _ => .plain rfl (op_move rfl), fun _ => .plain rfl (op_slice_al tyArr23 (slo_lo e17) (slo_hi e17) rfl rfl), fun _ => .plain rfl (op_field_p tyFld25_2 rfl rfl), fun _ => .plain rfl (op_slice_a tyArr23 (by decide) rfl), trivial⟩ ⟨_, by exact .plain rfl (op_copy_psl (m := min 16 (16 - (x_8 : Int).toNat)) tySl64 (by rfl) (by have q0_ := slo_lo e17; have p0_ := slo_hi e17; first | decide | (show (min 16 (16 - (x_8 : Int).toNat)) ≤ 9223372036854775807; omega)) rfl rfl rfl rfl (by have q0_ := slo_lo e17; have p0_ := slo_hi e17; first | decide | (show (0 + (x_8 : Int).toNat) + (min 16 (16 - (x_8 : Int).toNat)) ≤ 16; omega)) (by have q0_ := slo_lo e17; have p0_ := slo_hi e17; first | decide | (show 2 + (min 16 (16 - (x_8 : Int).toNat)) ≤ 18; omega)) (splice_arr (a := 0) (a2 := 2) (off := 0 + (x_8 : Int).toNat) (off2 := 2) (post := []) (post2 := []) (l := A16.zero.l) (l2 := x0.W.l) (kd := .u32) (lo := (x_8 : Int).toNat) (lo2 := 0) [] [.bool x0.Bad, .bool x0.Neg] rfl rfl rfl rfl (by omega) (by omega) (by have q0_ := slo_lo e17; have p0_ := slo_hi e17; first | decide | (show ((x_8 : Int).toNat) + (min 16 (16 - (x_8 : Int).toNat)) ≤ 16; omega)) (by have q0_ := slo_lo e17; have p0_ := slo_hi e17; first | decide | (show 0 + (min 16 (16 - (x_8 : Int).toNat)) ≤ 16; omega)) (A16.l_of (spliceE_lenA rfl (by have q0_ := slo_lo e17; have p0_ := slo_hi e17; first | decide | (show ((x_8 : Int).toNat) + (min 16 (16 - (x_8 : Int).toNat)) ≤ 16; omega)) (by have q0_ := slo_lo e17; have p0_ := slo_hi e17; first | decide | (show 0 + (min 16 (16 - (x_8 : Int).toNat)) ≤ 16; omega)))) rfl)), rfl⟩ rfl ?_
            refine Tri.seq ?_
            refine Tri.regionL ?_
            refine OpsL.consA (eA16 .u32) h rfl (op_load_p tyAgg23 rfl rfl rfl rfl) (fun x_10 h => ?_)
            refine OpsL.cons rfl (op_move rfl) ?_
            refine OpsL.cons rfl (op_rem (by decide) rfl rfl) ?_
            obtain ⟨⟨x_11, x_12⟩, e18, h⟩ := bnd h
            refine OpsL.cons rfl (op_call0 (whole_up_spec e18) goes73 rfl rfl) ?_
            refine OpsL.cons rfl (op_move rfl) ?_
            refine OpsL.keep [2, 4, 5, 48] [101, 102, 104] (s' := ⟨[(2, .b (.ptr 101 0)), (4, .b (.ptr 102 0)), (5, .b (.ptr 104 0)), (48, .tup [.agg ((eA16 .u32) x_11), .one (.int .u32 x_12)])], [(101, .box 25 (eBig x0)), (102, .box 25 (.bool false :: .bool false :: ((eA16 .u32) A16.zero))), (104, .box 23 ((eA16 .u32) (A16.of (spliceE A16.zero.l ((x_8 : Int).toNat) ((x0.W.l.drop 0).take (min 16 (16 - (x_8 : Int).toNat)))))))]⟩) rfl ?_
            refine OpsL.cons rfl (op_extract rfl rfl) ?_
            refine OpsL.cons rfl (op_extract rfl rfl) ?_
            refine OpsL.cons rfl (op_store_p tyAgg23 rfl rfl rfl rfl (Nat.le_of_ble_eq_true rfl) rfl) ?_
            refine OpsL.nilK [2, 4, 5] [101, 102, 104] (s' := ⟨[(2, .b (.ptr 101 0)), (4, .b (.ptr 102 0)), (5, .b (.ptr 104 0))], [(101, .box 25 (eBig x0)), (102, .box 25 (.bool false :: .bool false :: ((eA16 .u32) A16.zero))), (104, .box 23 ((eA16 .u32) x_11))]⟩) rfl ?_
            refine Tri.seq ?_
            refine Tri.regionL ?_
            refine OpsL.cons rfl (op_field_p tyFld25_1 rfl rfl) ?_
            refine OpsL.cons rfl (op_load_p1 tyOne4 rfl rfl rfl) ?_
            refine OpsL.cons rfl (op_load_p tyAgg23 rfl rfl rfl rfl) ?_
            obtain ⟨x_13, e19, h⟩ := bnd h
            refine OpsL.cons rfl (op_call0 (whole_signed_spec e19) goes46 rfl rfl) ?_
            refine OpsL.cons rfl (op_store_p tyAgg25 rfl rfl rfl rfl (Nat.le_of_ble_eq_true rfl) rfl) ?_
            refine OpsL.nilK [4] [102] (s' := ⟨[(4, .b (.ptr 102 0))], [(102, .box 25 (eBig x_13))]⟩) rfl ?_
            refine Tri.ret ?_
            refine Fin.then_ret ?_
            obtain rfl := Option.some.inj h
            refine Fin.keep [4] [102] (s' := ⟨[(4, .b (.ptr 102 0))], [(102, .box 25 (eBig x_13))]⟩) rfl ?_
            refine Fin.result' [.agg (eBig x_13)] (.inl rfl) rfl (.cons (.agg tyAgg25 rfl rfl rfl rfl) .nil) ⟨rfl, rfl⟩
          · refine Tri.skip ?_
            refine Fin.keep [1, 2, 4, 5, 6] [101, 102, 104] (s' := ⟨[(1, I n0), (2, .b (.ptr 101 0)), (4, .b (.ptr 102 0)), (5, .b (.ptr 104 0)), (6, I x_8)], [(101, .box 25 (eBig x0)), (102, .box 25 (.bool false :: .bool false :: ((eA16 .u32) A16.zero))), (104, .box 23 ((eA16 .u32) A16.zero))]⟩) rfl ?_
            refine Fin.then ?_
            refine Tri.seq ?_
            refine Tri.keep [1, 2, 4, 5, 6] [101, 102, 104] (s' := ⟨[(1, I n0), (2, .b (.ptr 101 0)), (4, .b (.ptr 102 0)), (5, .b (.ptr 104 0)), (6, I x_8)], [(101, .box 25 (eBig x0)), (102, .box 25 (.bool false :: .bool false :: ((eA16 .u32) A16.zero))), (104, .box 23 ((eA16 .u32) A16.zero))]⟩) rfl ?_
            obtain ⟨x_14, e20, h⟩ := bnd h
            refine Tri.regionY mixed 5 [.b (.psl 104 0 16 16), .b (.ptr 101 2), I x_8, I (IntKind.i64.wrap (-x_8)), .b (.psl 101 (2 + (IntKind.i64.wrap (-x_8) : Int).toNat) (16 - (IntKind.i64.wrap (-x_8) : Int).toNat) (16 - (IntKind.i64.wrap (-x_8) : Int).toNat))] [1, 2, 4, 5] [101, 102, 104] (s' := ⟨[(1, I n0), (2, .b (.ptr 101 0)), (4, .b (.ptr 102 0)), (5, .b (.ptr 104 0))], [(101, .box 25 (eBig x0)), (102, .box 25 (.bool false :: .bool false :: ((eA16 .u32) A16.zero))), (104, .box 23 ((eA16 .u32) (A16.of (spliceE A16.zero.l 0 ((x0.W.l.drop ((IntKind.i64.wrap (-x_8) : Int).toNat)).take (min (16 - (IntKind.i64.wrap (-x_8) : Int).toNat) 16))))))]⟩) rfl ⟨fun _ => .plain rfl (op_slice_a tyArr23 (by decide) rfl), fun _ => .plain rfl (op_field_p tyFld25_2 rfl rfl), fun _ => .plain rfl (op_move rfl), fun _ => .plain rfl (op_neg rfl), fun _ => .plain rfl (op_slice_al tyArr23 (slo_lo e20) (slo_hi e20) rfl rfl), trivial⟩ ⟨_, by exact .plain rfl (op_copy_psl (m := min (16 - (IntKind.i64.wrap (-x_8) : Int).toNat) 16) tySl64 (by rfl) (by have q1_ := slo_lo e20; have p1_ := slo_hi e20; first | decide | (show (min (16 - (IntKind.i64.wrap (-x_8) : Int).toNat) 16) ≤ 9223372036854775807; omega)) rfl rfl rfl rfl (by have q1_ := slo_lo e20; have p1_ := slo_hi e20; first | decide | (show 0 + (min (16 - (IntKind.i64.wrap (-x_8) : Int).toNat) 16) ≤ 16; omega)) (by have q1_ := slo_lo e20; have p1_ := slo_hi e20; first | decide | (show (2 + (IntKind.i64.wrap (-x_8) : Int).toNat) + (min (16 - (IntKind.i64.wrap (-x_8) : Int).toNat) 16) ≤ 18; omega)) (splice_arr (a := 0) (a2 := 2) (off := 0) (off2 := 2 + (IntKind.i64.wrap (-x_8) : Int).toNat) (post := []) (post2 := []) (l := A16.zero.l) (l2 := x0.W.l) (kd := .u32) (lo := 0) (lo2 := (IntKind.i64.wrap (-x_8) : Int).toNat) [] [.bool x0.Bad, .bool x0.Neg] rfl rfl rfl rfl (by omega) (by omega) (by have q1_ := slo_lo e20; have p1_ := slo_hi e20; first | decide | (show 0 + (min (16 - (IntKind.i64.wrap (-x_8) : Int).toNat) 16) ≤ 16; omega)) (by have q1_ := slo_lo e20; have p1_ := slo_hi e20; first | decide | (show ((IntKind.i64.wrap (-x_8) : Int).toNat) + (min (16 - (IntKind.i64.wrap (-x_8) : Int).toNat) 16) ≤ 16; omega)) (A16.l_of (spliceE_lenA rfl (by have q1_ := slo_lo e20; have p1_ := slo_hi e20; first | decide | (show 0 + (min (16 - (IntKind.i64.wrap (-x_8) : Int).toNat) 16) ≤ 16; omega)) (by have q1_ := slo_lo e20; have p1_ := slo_hi e20; first | decide | (show ((IntKind.i64.wrap (-x_8) : Int).toNat) + (min (16 - (IntKind.i64.wrap (-x_8) : Int).toNat) 16) ≤ 16; omega)))) rfl)), rfl⟩ rfl ?_
            refine Tri.seq ?_
            refine Tri.keep [1, 2, 4, 5] [101, 102, 104] (s' := ⟨[(1, I n0), (2, .b (.ptr 101 0)), (4, .b (.ptr 102 0)), (5, .b (.ptr 104 0))], [(101, .box 25 (eBig x0)), (102, .box 25 (.bool false :: .bool false :: ((eA16 .u32) A16.zero))), (104, .box 23 ((eA16 .u32) (A16.of (spliceE A16.zero.l 0 ((x0.W.l.drop ((IntKind.i64.wrap (-x_8) : Int).toNat)).take (min (16 - (IntKind.i64.wrap (-x_8) : Int).toNat) 16))))))]⟩) rfl ?_
            obtain ⟨x_15, e21, h⟩ := bnd h
            obtain ⟨x_16, e22, h⟩ := bnd h
            refine Tri.regionY mixed 10 [.b (.agg (eBig x0)), .b (.agg ((eA16 .u32) (A16.of (spliceE A16.zero.l 0 ((x0.W.l.drop ((IntKind.i64.wrap (-x_8) : Int).toNat)).take (min (16 - (IntKind.i64.wrap (-x_8) : Int).toNat) 16)))))), I n0, I (IntKind.i64.wrap (-n0)), I (Int.tmod (IntKind.i64.wrap (-n0)) 32), .b (.agg ((eA16 .u32) x_15)), I n0, I (IntKind.i64.wrap (-n0)), .b (.one (.sl 1 ([IntKind.i64.wrap (-n0)].map eI))), .b (.agg (eBig x_16))] [4] [102] (s' := ⟨[(4, .b (.ptr 102 0))], [(102, .box 25 (eBig x_16))]⟩) rfl ⟨fun _ => .plain rfl (op_load_p tyAgg25 rfl rfl rfl rfl), fun _ => .plain rfl (op_load_p tyAgg23 rfl rfl rfl rfl), fun _ => .plain rfl (op_move rfl), fun _ => .plain rfl (op_neg rfl), fun _ => .plain rfl (op_rem (by decide) rfl rfl), fun _ => .plain rfl (op_call0 (whole_down_spec e21) goes74 rfl rfl), fun _ => .plain rfl (op_move rfl), fun _ => .plain rfl (op_neg rfl), fun _ => .plain rfl (op_buildSliceP (es := [IntKind.i64.wrap (-n0)].map eI) tySl54 rfl rfl (uni_map fun _ => rfl) rfl (by decide) (by decide)), fun _ => .plain rfl (op_call0 (whole_lost_spec e22) goes72 rfl rfl), trivial⟩ ⟨_, by exact .plain rfl (op_store_p tyAgg25 rfl rfl rfl rfl (Nat.le_of_ble_eq_true rfl) rfl), rfl⟩ rfl ?_
            refine Tri.ret ?_
            obtain rfl := Option.some.inj h
            refine Fin.keep [4] [102] (s' := ⟨[(4, .b (.ptr 102 0))], [(102, .box 25 (eBig x_16))]⟩) rfl ?_
            refine Fin.result' [.agg (eBig x_16)] (.inl rfl) rfl (.cons (.agg tyAgg25 rfl rfl rfl rfl) .nil) ⟨rfl, rfl⟩

end Go.Proofs.YtaigaoifloldcaaDoor
