/- printed walks -/
import Derived.Test.YtdjnlmmhbeeihaaGreatDoorW2
namespace Go.Proofs.YtdjnlmmhbeeihaaGreatDoor
open Go.Sk
set_option maxHeartbeats 1000000
set_option maxRecDepth 4000
set_option linter.unusedSimpArgs false
set_option linter.unusedVariables false
variable {mx : Int}
def ratio_Near_S (F : Nat) (x0 : Frc) : Option Big :=
 (ratio_Floor_S F x0).bind fun x_1 => if x_1.Bad = true then (some x_1) else ((whole_Rem_S F x0.N x0.D).bind fun x_2 => (whole_Sub_S F x0.D x_2).bind fun x_3 => (whole_Cmp_S F x_2 x_3).bind fun x_4 => if (decide (0 ≤ x_4)) = true then ((ratio_one_S F).bind fun x_5 => (whole_Add_S F x_1 x_5).bind fun x_6 => some x_6) else (some x_1))
theorem ratio_Near_spec {F : Nat} {x0 : Frc} {r : Big} (h : ratio_Near_S F x0 = some r) : Meets Tryz.prog (tabs mx) 35 [] [.agg (eFrc x0)] (Is [] (.b (.agg (eBig r)))) := by
 unfold ratio_Near_S at h
 refine Meets.intro 26 Tryz.func35 Tryz.ntmps35 rfl (by simp) fun E => ?_
 show Tri _ E ⟨26, [], []⟩ _ ⟨[(0, .b (.agg (eFrc x0)))], []⟩ _
 refine Tri.seq (Tri.regionL ?_)
 refine Oc rfl (op_box (k := 101) rfl rfl) (Oc rfl (op_alloc (k := 102) tyZero25 rfl) ?_)
 refine OpsL.nilS ⟨[(1, Pt 101 0), (2, Pt 102 0)], [(101, .box 27 (eFrc x0)), (102, .box 25 zBig)]⟩ rfl (Tri.seq (Tri.regionL ?_))
 refine Oc rfl (op_load_p tyAgg27 rfl rfl rfl rfl) ?_
 obtain ⟨x_1, e1, h⟩ := bnd h
 refine Oc rfl (op_call0 (ratio_Floor_spec e1) goes31 rfl rfl) (Oc rfl (op_alloc (k := 103) tyZero25 rfl) (Oc rfl (op_store_p tyAgg25 rfl rfl rfl rfl (Nat.le_of_ble_eq_true rfl) rfl) ?_))
 refine OpsL.nilS ⟨[(1, Pt 101 0), (2, Pt 102 0), (3, Pt 103 0)], [(101, .box 27 (eFrc x0)), (102, .box 25 zBig), (103, .box 25 (eBig x_1))]⟩ rfl (Tri.seq (Tri.seq (Tri.regionL ?_)))
 refine Oc rfl (op_field_p tyFld25_0 rfl rfl) (Oc rfl (op_load_p1 tyOne4 rfl rfl rfl) ?_)
 refine OpsL.nilS ⟨[(1, Pt 101 0), (2, Pt 102 0), (3, Pt 103 0), (8, B x_1.Bad)], [(101, .box 27 (eFrc x0)), (102, .box 25 zBig), (103, .box 25 (eBig x_1))]⟩ rfl (Tri.ite h rfl (fun _ h => ?_) (fun _ h => ?_))
 ·refine Tri.seq (Tri.regionL ?_)
  refine Oc rfl (op_load_p tyAgg25 rfl rfl rfl rfl) (Oc rfl (op_store_p tyAgg25 rfl rfl rfl rfl (Nat.le_of_ble_eq_true rfl) rfl) ?_)
  refine OpsL.nilS ⟨[(2, Pt 102 0)], [(102, .box 25 (eBig x_1))]⟩ rfl (Tri.ret (Fin.then_ret ?_))
  obtain rfl := Option.some.inj h
  refine Fin.keepS ⟨[(2, Pt 102 0)], [(102, .box 25 (eBig x_1))]⟩ rfl (Fin.result' [.agg (eBig x_1)] (.inl rfl) rfl (.cons (.agg tyAgg25 rfl rfl rfl rfl) .nil) ⟨rfl, rfl⟩)
 ·refine Tri.skip (Fin.keepS ⟨[(1, Pt 101 0), (2, Pt 102 0), (3, Pt 103 0)], [(101, .box 27 (eFrc x0)), (102, .box 25 zBig), (103, .box 25 (eBig x_1))]⟩ rfl (Fin.then (Tri.seq (Tri.seq (Tri.regionL ?_)))))
  refine Oc rfl (op_field_p tyFld27_0 rfl rfl) (Oc rfl (op_load_p tyAgg25 rfl rfl rfl rfl) (Oc rfl (op_field_p tyFld27_1 rfl rfl) (Oc rfl (op_load_p tyAgg25 rfl rfl rfl rfl) ?_)))
  obtain ⟨x_2, e2, h⟩ := bnd h
  refine Oc rfl (op_call0 (whole_Rem_spec e2) goes94 rfl rfl) (Oc rfl (op_alloc (k := 104) tyZero25 rfl) (Oc rfl (op_store_p tyAgg25 rfl rfl rfl rfl (Nat.le_of_ble_eq_true rfl) rfl) ?_))
  refine OpsL.nilS ⟨[(1, Pt 101 0), (2, Pt 102 0), (3, Pt 103 0), (4, Pt 104 0)], [(101, .box 27 (eFrc x0)), (102, .box 25 zBig), (103, .box 25 (eBig x_1)), (104, .box 25 (eBig x_2))]⟩ rfl (Tri.seq ?_)
  obtain ⟨x_3, e3, h⟩ := bnd h
  obtain ⟨x_4, e4, h⟩ := bnd h
  refine Tri.regionY mixed 7 [.b (.agg (eBig x_2)), Pt 101 18, .b (.agg (eBig x0.D)), .b (.agg (eBig x_2)), .b (.agg (eBig x_3)), I x_4, B (decide (0 ≤ x_4))] [2, 3, 21] [102, 103] (s' := ⟨[(2, Pt 102 0), (3, Pt 103 0), (21, B (decide (0 ≤ x_4)))], [(102, .box 25 zBig), (103, .box 25 (eBig x_1))]⟩) rfl ⟨fun _ => .plain rfl (op_load_p tyAgg25 rfl rfl rfl rfl), fun _ => .plain rfl (op_field_p tyFld27_1 rfl rfl), fun _ => .plain rfl (op_load_p tyAgg25 rfl rfl rfl rfl), fun _ => .plain rfl (op_load_p tyAgg25 rfl rfl rfl rfl), fun _ => .plain rfl (op_call0 (whole_Sub_spec e3) goes96 rfl rfl), fun _ => .plain rfl (op_call0 (whole_Cmp_spec e4) goes95 rfl rfl), fun _ => .plain rfl (op_geq rfl rfl), trivial⟩ rfl rfl (Tri.ite h rfl (fun _ h => ?_) (fun _ h => ?_))
  ·refine Tri.seq (Tri.keepS ⟨[(2, Pt 102 0), (3, Pt 103 0)], [(102, .box 25 zBig), (103, .box 25 (eBig x_1))]⟩ rfl ?_)
   obtain ⟨x_5, e5, h⟩ := bnd h
   obtain ⟨x_6, e6, h⟩ := bnd h
   refine Tri.regionY mixed 3 [.b (.agg (eBig x_1)), .b (.agg (eBig x_5)), .b (.agg (eBig x_6))] [2] [102] (s' := ⟨[(2, Pt 102 0)], [(102, .box 25 (eBig x_6))]⟩) rfl ⟨fun _ => .plain rfl (op_load_p tyAgg25 rfl rfl rfl rfl), fun _ => .plain rfl (op_call0 (ratio_one_spec e5) goes90 rfl rfl), fun _ => .plain rfl (op_call0 (whole_Add_spec e6) goes97 rfl rfl), trivial⟩ ⟨_, by exact .plain rfl (op_store_p tyAgg25 rfl rfl rfl rfl (Nat.le_of_ble_eq_true rfl) rfl), rfl⟩ rfl (Tri.ret (Fin.then_ret ?_))
   obtain rfl := Option.some.inj h
   refine Fin.keepS ⟨[(2, Pt 102 0)], [(102, .box 25 (eBig x_6))]⟩ rfl (Fin.result' [.agg (eBig x_6)] (.inl rfl) rfl (.cons (.agg tyAgg25 rfl rfl rfl rfl) .nil) ⟨rfl, rfl⟩)
  ·refine Tri.skip (Fin.keepS ⟨[(2, Pt 102 0), (3, Pt 103 0)], [(102, .box 25 zBig), (103, .box 25 (eBig x_1))]⟩ rfl (Fin.then (Tri.seq (Tri.regionL ?_))))
   refine Oc rfl (op_load_p tyAgg25 rfl rfl rfl rfl) (Oc rfl (op_store_p tyAgg25 rfl rfl rfl rfl (Nat.le_of_ble_eq_true rfl) rfl) ?_)
   refine OpsL.nilS ⟨[(2, Pt 102 0)], [(102, .box 25 (eBig x_1))]⟩ rfl (Tri.ret ?_)
   obtain rfl := Option.some.inj h
   refine Fin.keepS ⟨[(2, Pt 102 0)], [(102, .box 25 (eBig x_1))]⟩ rfl (Fin.result' [.agg (eBig x_1)] (.inl rfl) rfl (.cons (.agg tyAgg25 rfl rfl rfl rfl) .nil) ⟨rfl, rfl⟩)
def whole_trailing_S (F : Nat) (w0 : A16) : Option Int :=
 Option.bind (iter F (fun k_2 => (idx? w0.l k_2).bind fun x_4 => if (decide (x_4 = 0)) = true then (some (.inl (IntKind.i64.wrap (k_2 + 1)))) else (some (.inr k_2))) 0) (fun k_1 => (idx? w0.l k_1).bind fun x_5 => (bits_TZ32_S F x_5).bind fun x_6 => letN (IntKind.i64.wrap ((IntKind.i64.wrap (32 * k_1)) + x_6)) fun x_7 => some x_7)
theorem whole_trailing_spec {F : Nat} {w0 : A16} {r : Int} (h : whole_trailing_S F w0 = some r) : Meets Tryz.prog (tabs mx) 146 [] [.agg (eW w0)] (Is [] (.b (.one (.i r)))) := by
 unfold whole_trailing_S at h
 refine Meets.intro 17 Tryz.func146 Tryz.ntmps146 rfl (by simp) fun E => ?_
 show Tri _ E ⟨17, [], []⟩ _ ⟨[(0, .b (.agg (eW w0)))], []⟩ _
 refine Tri.seq (Tri.regionL ?_)
 refine Oc rfl (op_box (k := 101) rfl rfl) (Oc rfl (op_assign rfl) ?_)
 refine OpsL.nilS ⟨[(1, Pt 101 0)], [(101, .box 23 (eW w0))]⟩ rfl (Tri.seq (Tri.regionL ?_))
 refine Oc rfl (op_assign rfl) (OpsL.nilS ⟨[(1, Pt 101 0), (3, I 0)], [(101, .box 23 (eW w0))]⟩ rfl ?_)
 obtain ⟨v1, h2, h⟩ := bnd h
 refine Tri.seqJ (v := v1) (fun (k_1 : Int) => ⟨[(1, Pt 101 0), (3, I k_1)], [(101, .box 23 (eW w0))]⟩) (fun z => z) ?_ ?_
 ·refine Tri.block (Tri.loopJ h2 (fun (k_2 : Int) => ⟨[(1, Pt 101 0), (3, I k_2)], [(101, .box 23 (eW w0))]⟩) [1, 3] [101] rfl ?_)
  rintro k_2 o3 h4 hy5
  refine Tri.seq (Tri.seq (Tri.regionL ?_))
  refine Oc rfl (op_move rfl) ?_
  obtain ⟨x_4, e6, h4⟩ := bnd h4
  refine Oc rfl (op_index_p tyArr23 (ix_lo e6) (ix_hi e6) rfl rfl rfl) (Oc rfl (op_load_p1 tyOne22 rfl rfl (arr_get (post := []) (k := .u32) [] e6 rfl rfl rfl)) (Oc rfl (op_eql rfl rfl) ?_))
  refine OpsL.nilS ⟨[(1, Pt 101 0), (3, I k_2), (7, B (decide (x_4 = 0)))], [(101, .box 23 (eW w0))]⟩ rfl (Tri.ite h4 rfl (fun _ h4 => ?_) (fun _ h4 => ?_))
  ·refine Tri.skip (Fin.keepS ⟨[(1, Pt 101 0), (3, I k_2)], [(101, .box 23 (eW w0))]⟩ rfl (Fin.then (Tri.block (Tri.regionL ?_))))
   refine Oc rfl (op_move rfl) (Oc rfl (op_add rfl rfl) (Oc rfl (op_assign rfl) ?_))
   refine OpsL.nil (Fin.block_normal ?_)
   exact Fin.againJ [1, 3] [101] (IntKind.i64.wrap (k_2 + 1)) (Option.some.inj h4) rfl
  ·refine Tri.exit (Fin.then_exit ?_)
   obtain rfl := hy5 _ (Option.some.inj h4).symm
   refine Fin.then_exit (Fin.block_exit ?_)
   exact Fin.join [1, 3] [101] k_2 rfl rfl
 ·rintro k_1 hv
  subst v1
  refine Tri.seq (Tri.regionL ?_)
  refine Oc rfl (op_move rfl) (Oc rfl (op_mul rfl rfl) (Oc rfl (op_move rfl) ?_))
  obtain ⟨x_5, e7, h⟩ := bnd h
  refine Oc rfl (op_index_p tyArr23 (ix_lo e7) (ix_hi e7) rfl rfl rfl) (Oc rfl (op_load_p1 tyOne22 rfl rfl (arr_get (post := []) (k := .u32) [] e7 rfl rfl rfl)) ?_)
  refine OpsL.keepS ⟨[(11, I (IntKind.i64.wrap (32 * k_1))), (14, .b (.one (.int .u32 x_5)))], []⟩ rfl ?_
  obtain ⟨x_6, e8, h⟩ := bnd h
  refine Oc rfl (op_call0 (bits_TZ32_spec e8) goes155 rfl rfl) (OpsL.consI .i64 h rfl (op_add rfl rfl) (fun x_7 h => ?_))
  refine Oc rfl (op_assign rfl) (OpsL.nilS ⟨[(2, I x_7)], []⟩ rfl (Tri.ret ?_))
  obtain rfl := Option.some.inj h
  refine Fin.keepS ⟨[(2, I x_7)], []⟩ rfl (Fin.result' [.one (.i x_7)] (.inl rfl) rfl (.cons (.tmp rfl) .nil) ⟨rfl, rfl⟩)
def whole_lost_S (F : Nat) (x0 : Big) (w0 : A16) (n0 : List Int) : Option Big :=
 (whole_signed_S F x0.Neg w0).bind fun x_1 => (gcall (x0.Neg && !(decide ((n0.length : Int) = 0))) (whole_trailing_S F x0.W)).bind fun x_2 => (gcall (x0.Neg && !(decide ((n0.length : Int) = 0))) (idx? n0 0)).bind fun x_3 => if (x0.Neg && ((decide ((n0.length : Int) = 0)) || (decide (x_2 < x_3)))) = true then ((whole_Of_S F 1).bind fun x_4 => (whole_Sub_S F x_1 x_4).bind fun x_5 => some x_5) else (some x_1)
theorem whole_lost_spec {F : Nat} {x0 : Big} {w0 : A16} {n0 : List Int} {r : Big} (h : whole_lost_S F x0 w0 n0 = some r) : Meets Tryz.prog (tabs mx) 124 [] [.agg (eBig x0), .agg (eW w0), .one (.sl 1 (n0.map eI))] (Is [] (.b (.agg (eBig r)))) := by
 unfold whole_lost_S at h
 refine Meets.intro 32 Tryz.func124 Tryz.ntmps124 rfl (by simp) fun E => ?_
 show Tri _ E ⟨32, [], []⟩ _ ⟨[(0, .b (.agg (eBig x0))), (1, .b (.agg (eW w0))), (2, .b (.one (.sl 1 (n0.map eI))))], []⟩ _
 refine Tri.seq (Tri.regionL ?_)
 refine Oc rfl (op_box (k := 101) rfl rfl) (Oc rfl (op_box (k := 102) rfl rfl) (Oc rfl (op_alloc (k := 103) tyZero25 rfl) ?_))
 refine OpsL.nilS ⟨[(2, .b (.one (.sl 1 (n0.map eI)))), (3, Pt 101 0), (4, Pt 102 0), (6, Pt 103 0)], [(101, .box 25 (eBig x0)), (102, .box 23 (eW w0)), (103, .box 25 zBig)]⟩ rfl (Tri.seq (Tri.regionL ?_))
 refine Oc rfl (op_field_p tyFld25_1 rfl rfl) (Oc rfl (op_load_p1 tyOne4 rfl rfl rfl) (Oc rfl (op_load_p tyAgg23 rfl rfl rfl rfl) ?_))
 obtain ⟨x_1, e1, h⟩ := bnd h
 refine Oc rfl (op_call0 (whole_signed_spec e1) goes115 rfl rfl) (Oc rfl (op_alloc (k := 104) tyZero25 rfl) (Oc rfl (op_store_p tyAgg25 rfl rfl rfl rfl (Nat.le_of_ble_eq_true rfl) rfl) ?_))
 refine OpsL.nilS ⟨[(2, .b (.one (.sl 1 (n0.map eI)))), (3, Pt 101 0), (6, Pt 103 0), (7, Pt 104 0)], [(101, .box 25 (eBig x0)), (103, .box 25 zBig), (104, .box 25 (eBig x_1))]⟩ rfl (Tri.seq (Tri.seq ?_))
 refine Tri.keepS ⟨[(2, .b (.one (.sl 1 (n0.map eI)))), (3, Pt 101 0), (6, Pt 103 0), (7, Pt 104 0)], [(101, .box 25 (eBig x0)), (103, .box 25 zBig), (104, .box 25 (eBig x_1))]⟩ rfl ?_
 obtain ⟨x_2, e9, h⟩ := bnd h
 obtain ⟨x_3, e12, h⟩ := bnd h
 refine Tri.regionY mixed 16 [Pt 101 1, B x0.Neg, B x0.Neg, .opt x0.Neg (.one (.sl 1 (n0.map eI))), .opt x0.Neg (.one (.i (n0.length : Int))), .opt x0.Neg (.one (.bool (decide ((n0.length : Int) = 0)))), .opt x0.Neg (.one (.bool (decide ((n0.length : Int) = 0)))), .opt (x0.Neg && !(decide ((n0.length : Int) = 0))) (.ptr 101 2), .opt (x0.Neg && !(decide ((n0.length : Int) = 0))) (.agg (eW x0.W)), .opt (x0.Neg && !(decide ((n0.length : Int) = 0))) (.one (.i x_2)), .opt (x0.Neg && !(decide ((n0.length : Int) = 0))) (.one (.sl 1 (n0.map eI))), .opt (x0.Neg && !(decide ((n0.length : Int) = 0))) (.eptr [.i x_3]), .opt (x0.Neg && !(decide ((n0.length : Int) = 0))) (.one (.i x_3)), .opt (x0.Neg && !(decide ((n0.length : Int) = 0))) (.one (.bool (decide (x_2 < x_3)))), .opt x0.Neg (.one (.bool ((decide ((n0.length : Int) = 0)) || (decide (x_2 < x_3))))), B (x0.Neg && ((decide ((n0.length : Int) = 0)) || (decide (x_2 < x_3))))] [6, 7, 27] [103, 104] (s' := ⟨[(6, Pt 103 0), (7, Pt 104 0), (27, B (x0.Neg && ((decide ((n0.length : Int) = 0)) || (decide (x_2 < x_3)))))], [(103, .box 25 zBig), (104, .box 25 (eBig x_1))]⟩) rfl ⟨fun _ => .plain rfl (op_field_p tyFld25_1 rfl rfl), fun _ => .plain rfl (op_load_p1 tyOne4 rfl rfl rfl), fun _ => .plain rfl (op_move rfl), fun _ => by exact .guard x0.Neg 1 [] (.plain rfl) (eq_t _) rfl rfl (fun g2 => trivial) (fun g2 => op_move rfl), fun _ => by exact .guard x0.Neg 2 [15] (.plain rfl) (eq_t _) rfl rfl (fun g3 => ⟨g3, trivial⟩) (fun g3 => op_len_e' und70 rfl (List.length_map _)), fun _ => by exact .guard x0.Neg 2 [16] (.plain rfl) (eq_t _) rfl rfl (fun g4 => ⟨g4, trivial⟩) (fun g4 => op_eql rfl rfl), fun _ => by exact .guard x0.Neg 3 [17] (.plain rfl) (eq_t _) rfl rfl (fun g5 => ⟨g5, trivial⟩) (fun g5 => op_move rfl), fun _ => by exact .guard (x0.Neg && !(decide ((n0.length : Int) = 0))) 1 [] (.under rfl) (and_f _ _) rfl rfl (fun g6 => trivial) (fun g6 => op_field_p tyFld25_2 rfl rfl), fun _ => by exact .guard (x0.Neg && !(decide ((n0.length : Int) = 0))) 2 [19] (.under rfl) (and_f _ _) rfl rfl (fun g7 => ⟨g7, trivial⟩) (fun g7 => op_load_p tyAgg23 rfl rfl rfl rfl), fun _ => by exact .guard (x0.Neg && !(decide ((n0.length : Int) = 0))) 3 [20] (.under rfl) (and_f _ _) rfl rfl (fun g8 => ⟨g8, trivial⟩) (fun g8 => op_call0 (whole_trailing_spec (gc e9 g8)) goes146 rfl rfl), fun _ => by exact .guard (x0.Neg && !(decide ((n0.length : Int) = 0))) 1 [] (.under rfl) (and_f _ _) rfl rfl (fun g10 => trivial) (fun g10 => op_move rfl), fun _ => by exact .guard (x0.Neg && !(decide ((n0.length : Int) = 0))) 2 [22] (.under rfl) (and_f _ _) rfl rfl (fun g11 => ⟨g11, trivial⟩) (fun g11 => op_index_e tySl70 (ix_lo (gc e12 g11)) (ix_map (e := eI) (gc e12 g11)) rfl rfl), fun _ => by exact .guard (x0.Neg && !(decide ((n0.length : Int) = 0))) 2 [23] (.under rfl) (and_f _ _) rfl rfl (fun g13 => ⟨g13, trivial⟩) (fun g13 => op_load_e1 tyOne3 rfl rfl), fun _ => by exact .guard (x0.Neg && !(decide ((n0.length : Int) = 0))) 3 [21, 24] (.under rfl) (and_f _ _) rfl rfl (fun g14 => ⟨g14, g14, trivial⟩) (fun g14 => op_lss rfl rfl), fun _ => by exact .guard x0.Neg 3 [18] (.plain rfl) (eq_t _) rfl rfl (fun g15 => ⟨g15, trivial⟩) (fun g15 => op_pick_or (fun e => by rw [g15, e]; rfl) rfl rfl rfl rfl), fun _ => .plain rfl (op_pick_and (fun e => e) rfl rfl rfl rfl), trivial⟩ rfl rfl ?_
 refine Tri.ite h rfl (fun _ h => ?_) (fun _ h => ?_)
 ·refine Tri.seq (Tri.keepS ⟨[(6, Pt 103 0), (7, Pt 104 0)], [(103, .box 25 zBig), (104, .box 25 (eBig x_1))]⟩ rfl ?_)
  obtain ⟨x_4, e16, h⟩ := bnd h
  obtain ⟨x_5, e17, h⟩ := bnd h
  refine Tri.regionY mixed 3 [.b (.agg (eBig x_1)), .b (.agg (eBig x_4)), .b (.agg (eBig x_5))] [6] [103] (s' := ⟨[(6, Pt 103 0)], [(103, .box 25 (eBig x_5))]⟩) rfl ⟨fun _ => .plain rfl (op_load_p tyAgg25 rfl rfl rfl rfl), fun _ => .plain rfl (op_call0 (whole_Of_spec e16) goes91 rfl rfl), fun _ => .plain rfl (op_call0 (whole_Sub_spec e17) goes96 rfl rfl), trivial⟩ ⟨_, by exact .plain rfl (op_store_p tyAgg25 rfl rfl rfl rfl (Nat.le_of_ble_eq_true rfl) rfl), rfl⟩ rfl (Tri.ret (Fin.then_ret ?_))
  obtain rfl := Option.some.inj h
  refine Fin.keepS ⟨[(6, Pt 103 0)], [(103, .box 25 (eBig x_5))]⟩ rfl (Fin.result' [.agg (eBig x_5)] (.inl rfl) rfl (.cons (.agg tyAgg25 rfl rfl rfl rfl) .nil) ⟨rfl, rfl⟩)
 ·refine Tri.skip (Fin.keepS ⟨[(6, Pt 103 0), (7, Pt 104 0)], [(103, .box 25 zBig), (104, .box 25 (eBig x_1))]⟩ rfl (Fin.then (Tri.seq (Tri.regionL ?_))))
  refine Oc rfl (op_load_p tyAgg25 rfl rfl rfl rfl) (Oc rfl (op_store_p tyAgg25 rfl rfl rfl rfl (Nat.le_of_ble_eq_true rfl) rfl) ?_)
  refine OpsL.nilS ⟨[(6, Pt 103 0)], [(103, .box 25 (eBig x_1))]⟩ rfl (Tri.ret ?_)
  obtain rfl := Option.some.inj h
  refine Fin.keepS ⟨[(6, Pt 103 0)], [(103, .box 25 (eBig x_1))]⟩ rfl (Fin.result' [.agg (eBig x_1)] (.inl rfl) rfl (.cons (.agg tyAgg25 rfl rfl rfl rfl) .nil) ⟨rfl, rfl⟩)
def whole_Shift_S (F : Nat) (x0 : Big) (n0 : Int) : Option Big :=
 (whole_good_S F [x0]).bind fun x_1 => if (!x_1) = true then ((whole_Bad_S F).bind fun x_2 => some x_2) else ((whole_Sign_S F x0).bind fun x_3 => if (decide (x_3 = 0)) = true then (some x0) else ((gcall ((!(decide (512 ≤ n0))) && (decide (0 < n0))) (whole_Bits_S F x0)).bind fun x_4 => letN ((decide (512 ≤ n0)) || ((decide (0 < n0)) && (decide (512 < (IntKind.i64.wrap (x_4 + n0)))))) fun x_5 => if x_5 = true then ((whole_Bad_S F).bind fun x_6 => some x_6) else (if (decide (n0 ≤ (-512))) = true then ((whole_lost_S F x0 A16.zero []).bind fun x_7 => some x_7) else ((quo? .i64 n0 32).bind fun x_8 => if (decide (0 ≤ n0)) = true then (Option.bind (slo? 16 x_8) (fun x_9 => letN (A16.of (spliceE A16.zero.l ((x_8 : Int).toNat) ((x0.W.l.drop 0).take (min 16 (16 - (x_8 : Int).toNat))))) fun x_10 => Option.bind (whole_up_S F x_10 (Int.tmod n0 32)) (un2 fun x_11 x_12 => (whole_signed_S F x0.Neg x_11).bind fun x_13 => some x_13))) else (Option.bind (slo? 16 (IntKind.i64.wrap (-x_8))) (fun x_14 => (whole_down_S F (A16.of (spliceE A16.zero.l 0 ((x0.W.l.drop ((IntKind.i64.wrap (-x_8) : Int).toNat)).take (min (16 - (IntKind.i64.wrap (-x_8) : Int).toNat) 16)))) (Int.tmod (IntKind.i64.wrap (-n0)) 32)).bind fun x_15 => (whole_lost_S F x0 x_15 [IntKind.i64.wrap (-n0)]).bind fun x_16 => some x_16))))))
theorem whole_Shift_spec {F : Nat} {x0 : Big} {n0 : Int} {r : Big} (h : whole_Shift_S F x0 n0 = some r) : Meets Tryz.prog (tabs mx) 93 [] [.agg (eBig x0), .one (.i n0)] (Is [] (.b (.agg (eBig r)))) := by
 unfold whole_Shift_S at h
 refine Meets.intro 75 Tryz.func93 Tryz.ntmps93 rfl (by simp) fun E => ?_
 show Tri _ E ⟨75, [], []⟩ _ ⟨[(0, .b (.agg (eBig x0))), (1, I n0)], []⟩ _
 refine Tri.seq (Tri.regionL ?_)
 refine Oc rfl (op_box (k := 101) rfl rfl) (Oc rfl (op_alloc (k := 102) tyZero25 rfl) ?_)
 refine OpsL.nilS ⟨[(1, I n0), (2, Pt 101 0), (4, Pt 102 0)], [(101, .box 25 (eBig x0)), (102, .box 25 zBig)]⟩ rfl (Tri.seq (Tri.block (Tri.seq (Tri.regionL ?_))))
 refine Oc rfl (op_load_p tyAgg25 rfl rfl rfl rfl) (Oc rfl (op_buildSlice (k := 103) (es := [x0].map eBig) tySl117 rfl rfl (uni_map fun _ => rfl) rfl (by decide) (by decide) rfl) ?_)
 obtain ⟨x_1, e1, h⟩ := bnd h
 refine Oc rfl (op_callB (whole_good_spec e1) goes113 rfl CP.flat_bool) (Oc rfl (op_not rfl) (Oc rfl (op_assign rfl) ?_))
 refine OpsL.nilS ⟨[(1, I n0), (2, Pt 101 0), (4, Pt 102 0), (7, B (!x_1))], [(101, .box 25 (eBig x0)), (102, .box 25 zBig)]⟩ rfl (Tri.ite h rfl (fun _ h => ?_) (fun _ h => ?_))
 ·refine Tri.seq (Tri.regionL ?_)
  obtain ⟨x_2, e2, h⟩ := bnd h
  refine Oc rfl (op_call0 (whole_Bad_spec e2) goes92 rfl rfl) (Oc rfl (op_store_p tyAgg25 rfl rfl rfl rfl (Nat.le_of_ble_eq_true rfl) rfl) ?_)
  refine OpsL.nilS ⟨[(4, Pt 102 0)], [(102, .box 25 (eBig x_2))]⟩ rfl (Tri.ret (Fin.block_ret (Fin.then_ret ?_)))
  obtain rfl := Option.some.inj h
  refine Fin.keepS ⟨[(4, Pt 102 0)], [(102, .box 25 (eBig x_2))]⟩ rfl (Fin.result' [.agg (eBig x_2)] (.inl rfl) rfl (.cons (.agg tyAgg25 rfl rfl rfl rfl) .nil) ⟨rfl, rfl⟩)
 ·refine Tri.seq (Tri.regionL ?_)
  refine Oc rfl (op_load_p tyAgg25 rfl rfl rfl rfl) ?_
  obtain ⟨x_3, e3, h⟩ := bnd h
  refine Oc rfl (op_call0 (whole_Sign_spec e3) goes72 rfl rfl) (Oc rfl (op_eql rfl rfl) (Oc rfl (op_assign rfl) ?_))
  refine OpsL.nilS ⟨[(1, I n0), (2, Pt 101 0), (4, Pt 102 0), (13, B (decide (x_3 = 0)))], [(101, .box 25 (eBig x0)), (102, .box 25 zBig)]⟩ rfl (Tri.ite h rfl (fun _ h => ?_) (fun _ h => ?_))
  ·refine Tri.seq (Tri.regionL ?_)
   refine Oc rfl (op_load_p tyAgg25 rfl rfl rfl rfl) (Oc rfl (op_store_p tyAgg25 rfl rfl rfl rfl (Nat.le_of_ble_eq_true rfl) rfl) ?_)
   refine OpsL.nilS ⟨[(4, Pt 102 0)], [(102, .box 25 (eBig x0))]⟩ rfl (Tri.ret (Fin.block_ret (Fin.then_ret ?_)))
   obtain rfl := Option.some.inj h
   refine Fin.keepS ⟨[(4, Pt 102 0)], [(102, .box 25 (eBig x0))]⟩ rfl (Fin.result' [.agg (eBig x0)] (.inl rfl) rfl (.cons (.agg tyAgg25 rfl rfl rfl rfl) .nil) ⟨rfl, rfl⟩)
  ·refine Tri.seq (Tri.regionL ?_)
   refine Oc rfl (op_move rfl) (Oc rfl (op_geq rfl rfl) (Oc rfl (op_move rfl) ?_))
   refine OpsL.consG (!(decide (512 ≤ n0))) 99 [] (.plain rfl) (eq_f _) rfl rfl (fun g4 => trivial) (fun g4 => op_move rfl) (OpsL.consG (!(decide (512 ≤ n0))) 99 [22] (.plain rfl) (eq_f _) rfl rfl (fun g5 => ⟨g5, trivial⟩) (fun g5 => op_gtr rfl rfl) (OpsL.consG (!(decide (512 ≤ n0))) 99 [23] (.plain rfl) (eq_f _) rfl rfl (fun g6 => ⟨g6, trivial⟩) (fun g6 => op_move rfl) (OpsL.consG ((!(decide (512 ≤ n0))) && (decide (0 < n0))) 99 [] (.under rfl) (and_t _ _) rfl rfl (fun g7 => trivial) (fun g7 => op_load_p tyAgg25 rfl rfl rfl rfl) (OpsL.keepS ⟨[(1, I n0), (2, Pt 101 0), (4, Pt 102 0), (21, B (decide (512 ≤ n0))), (24, .opt (!(decide (512 ≤ n0))) (.one (.bool (decide (0 < n0))))), (25, .opt ((!(decide (512 ≤ n0))) && (decide (0 < n0))) (.agg (eBig x0)))], [(101, .box 25 (eBig x0)), (102, .box 25 zBig)]⟩ rfl ?_))))
   obtain ⟨x_4, e9, h⟩ := bnd h
   refine OpsL.consG ((!(decide (512 ≤ n0))) && (decide (0 < n0))) 99 [25] (.under rfl) (and_t _ _) rfl rfl (fun g8 => ⟨g8, trivial⟩) (fun g8 => op_call0 (whole_Bits_spec (gc e9 g8)) goes123 rfl rfl) (OpsL.consG ((!(decide (512 ≤ n0))) && (decide (0 < n0))) 99 [] (.under rfl) (and_t _ _) rfl rfl (fun g10 => trivial) (fun g10 => op_move rfl) (OpsL.consG ((!(decide (512 ≤ n0))) && (decide (0 < n0))) 99 [26, 27] (.under rfl) (and_t _ _) rfl rfl (fun g11 => ⟨g11, g11, trivial⟩) (fun g11 => op_add rfl rfl) (OpsL.consG ((!(decide (512 ≤ n0))) && (decide (0 < n0))) 99 [28] (.under rfl) (and_t _ _) rfl rfl (fun g12 => ⟨g12, trivial⟩) (fun g12 => op_gtr rfl rfl) (OpsL.consG (!(decide (512 ≤ n0))) 99 [24] (.plain rfl) (eq_f _) rfl rfl (fun g13 => ⟨g13, trivial⟩) (fun g13 => op_pick_and (fun e => by rw [g13, e]; rfl) rfl rfl rfl rfl) (OpsL.consB h rfl (op_pick_or (fun e => by rw [e]; rfl) rfl rfl rfl rfl) (fun x_5 h => ?_))))))
   refine Oc rfl (op_assign rfl) (OpsL.nilS ⟨[(1, I n0), (2, Pt 101 0), (4, Pt 102 0), (18, B x_5)], [(101, .box 25 (eBig x0)), (102, .box 25 zBig)]⟩ rfl (Tri.ite h rfl (fun _ h => ?_) (fun _ h => ?_)))
   ·refine Tri.seq (Tri.regionL ?_)
    obtain ⟨x_6, e14, h⟩ := bnd h
    refine Oc rfl (op_call0 (whole_Bad_spec e14) goes92 rfl rfl) (Oc rfl (op_store_p tyAgg25 rfl rfl rfl rfl (Nat.le_of_ble_eq_true rfl) rfl) ?_)
    refine OpsL.nilS ⟨[(4, Pt 102 0)], [(102, .box 25 (eBig x_6))]⟩ rfl (Tri.ret (Fin.block_ret (Fin.then_ret ?_)))
    obtain rfl := Option.some.inj h
    refine Fin.keepS ⟨[(4, Pt 102 0)], [(102, .box 25 (eBig x_6))]⟩ rfl (Fin.result' [.agg (eBig x_6)] (.inl rfl) rfl (.cons (.agg tyAgg25 rfl rfl rfl rfl) .nil) ⟨rfl, rfl⟩)
   ·refine Tri.seq (Tri.regionL ?_)
    refine Oc rfl (op_move rfl) (Oc rfl (op_leq rfl rfl) (Oc rfl (op_assign rfl) ?_))
    refine OpsL.nilS ⟨[(1, I n0), (2, Pt 101 0), (4, Pt 102 0), (33, B (decide (n0 ≤ (-512))))], [(101, .box 25 (eBig x0)), (102, .box 25 zBig)]⟩ rfl (Tri.ite h rfl (fun _ h => ?_) (fun _ h => ?_))
    ·refine Tri.seq (Tri.regionL ?_)
     refine Oc rfl (op_load_p tyAgg25 rfl rfl rfl rfl) (Oc rfl (op_buildA tyBuild23 rfl rfl) ?_)
     obtain ⟨x_7, e15, h⟩ := bnd h
     refine Oc rfl (op_call0 (Meets.nilA 2 (by decide) (whole_lost_spec e15) rfl) goes124 rfl rfl) (Oc rfl (op_store_p tyAgg25 rfl rfl rfl rfl (Nat.le_of_ble_eq_true rfl) rfl) ?_)
     refine OpsL.nilS ⟨[(4, Pt 102 0)], [(102, .box 25 (eBig x_7))]⟩ rfl (Tri.ret (Fin.block_ret (Fin.then_ret ?_)))
     obtain rfl := Option.some.inj h
     refine Fin.keepS ⟨[(4, Pt 102 0)], [(102, .box 25 (eBig x_7))]⟩ rfl (Fin.result' [.agg (eBig x_7)] (.inl rfl) rfl (.cons (.agg tyAgg25 rfl rfl rfl rfl) .nil) ⟨rfl, rfl⟩)
    ·refine Tri.skip (Fin.block_normal (Fin.keepS ⟨[(1, I n0), (2, Pt 101 0), (4, Pt 102 0)], [(101, .box 25 (eBig x0)), (102, .box 25 zBig)]⟩ rfl (Fin.then (Tri.seq (Tri.regionL ?_)))))
     refine Oc rfl (op_alloc (k := 104) tyZero23 rfl) (OpsL.nilS ⟨[(1, I n0), (2, Pt 101 0), (4, Pt 102 0), (5, Pt 104 0)], [(101, .box 25 (eBig x0)), (102, .box 25 zBig), (104, .box 23 (eW A16.zero))]⟩ rfl (Tri.seq (Tri.regionL ?_)))
     refine Oc rfl (op_move rfl) ?_
     obtain ⟨x_8, e16, h⟩ := bnd h
     refine Oc rfl (op_quo2 e16 rfl rfl) (Oc rfl (op_assign rfl) ?_)
     refine OpsL.nilS ⟨[(1, I n0), (2, Pt 101 0), (4, Pt 102 0), (5, Pt 104 0), (6, I x_8)], [(101, .box 25 (eBig x0)), (102, .box 25 zBig), (104, .box 23 (eW A16.zero))]⟩ rfl (Tri.seq (Tri.seq (Tri.regionL ?_)))
     refine Oc rfl (op_move rfl) (Oc rfl (op_geq rfl rfl) ?_)
     refine OpsL.nilS ⟨[(1, I n0), (2, Pt 101 0), (4, Pt 102 0), (5, Pt 104 0), (6, I x_8), (42, B (decide (0 ≤ n0)))], [(101, .box 25 (eBig x0)), (102, .box 25 zBig), (104, .box 23 (eW A16.zero))]⟩ rfl (Tri.ite h rfl (fun _ h => ?_) (fun _ h => ?_))
     ·refine Tri.seq (Tri.keepS ⟨[(1, I n0), (2, Pt 101 0), (4, Pt 102 0), (5, Pt 104 0), (6, I x_8)], [(101, .box 25 (eBig x0)), (102, .box 25 zBig), (104, .box 23 (eW A16.zero))]⟩ rfl ?_)
      obtain ⟨x_9, e17, h⟩ := bnd h
      refine Tri.regionY mixed 4 [I x_8, .b (.psl 104 (0 + (x_8 : Int).toNat) (16 - (x_8 : Int).toNat) (16 - (x_8 : Int).toNat)), Pt 101 2, .b (.psl 101 2 16 16)] [1, 2, 4, 5] [101, 102, 104] (s' := ⟨[(1, I n0), (2, Pt 101 0), (4, Pt 102 0), (5, Pt 104 0)], [(101, .box 25 (eBig x0)), (102, .box 25 zBig), (104, .box 23 (eW (A16.of (spliceE A16.zero.l ((x_8 : Int).toNat) ((x0.W.l.drop 0).take (min 16 (16 - (x_8 : Int).toNat)))))))]⟩) rfl ⟨fun _ => .plain rfl (op_move rfl), fun _ => .plain rfl (op_slice_al tyArr23 (slo_lo e17) (slo_hi e17) rfl rfl), fun _ => .plain rfl (op_field_p tyFld25_2 rfl rfl), fun _ => .plain rfl (op_slice_a tyArr23 (by decide) rfl), trivial⟩ ⟨_, by exact .plain rfl (op_copy_psl (m := min 16 (16 - (x_8 : Int).toNat)) tySl100 (by rfl) (by have q0_ := slo_lo e17; have p0_ := slo_hi e17; first | decide | (show (min 16 (16 - (x_8 : Int).toNat)) ≤ 9223372036854775807; omega)) rfl rfl rfl rfl (by have q0_ := slo_lo e17; have p0_ := slo_hi e17; first | decide | (show (0 + (x_8 : Int).toNat) + (min 16 (16 - (x_8 : Int).toNat)) ≤ 16; omega)) (by have q0_ := slo_lo e17; have p0_ := slo_hi e17; first | decide | (show 2 + (min 16 (16 - (x_8 : Int).toNat)) ≤ 18; omega)) (splice_arr (a := 0) (a2 := 2) (off := 0 + (x_8 : Int).toNat) (off2 := 2) (post := []) (post2 := []) (l := A16.zero.l) (l2 := x0.W.l) (kd := .u32) (lo := (x_8 : Int).toNat) (lo2 := 0) [] [.bool x0.Bad, .bool x0.Neg] rfl rfl rfl rfl (by omega) (by omega) (by have q0_ := slo_lo e17; have p0_ := slo_hi e17; first | decide | (show ((x_8 : Int).toNat) + (min 16 (16 - (x_8 : Int).toNat)) ≤ 16; omega)) (by have q0_ := slo_lo e17; have p0_ := slo_hi e17; first | decide | (show 0 + (min 16 (16 - (x_8 : Int).toNat)) ≤ 16; omega)) (A16.l_of (spliceE_lenA rfl (by have q0_ := slo_lo e17; have p0_ := slo_hi e17; first | decide | (show ((x_8 : Int).toNat) + (min 16 (16 - (x_8 : Int).toNat)) ≤ 16; omega)) (by have q0_ := slo_lo e17; have p0_ := slo_hi e17; first | decide | (show 0 + (min 16 (16 - (x_8 : Int).toNat)) ≤ 16; omega)))) rfl)), rfl⟩ rfl (Tri.seq (Tri.regionL ?_))
      refine OpsL.consA eW h rfl (op_load_p tyAgg23 rfl rfl rfl rfl) (fun x_10 h => ?_)
      refine Oc rfl (op_move rfl) (Oc rfl (op_rem (by decide) rfl rfl) ?_)
      obtain ⟨⟨x_11, x_12⟩, e18, h⟩ := bnd h
      refine Oc rfl (op_call0 (whole_up_spec e18) goes125 rfl rfl) (Oc rfl (op_move rfl) ?_)
      refine OpsL.keepS ⟨[(2, Pt 101 0), (4, Pt 102 0), (5, Pt 104 0), (48, .tup [.agg (eW x_11), .one (.int .u32 x_12)])], [(101, .box 25 (eBig x0)), (102, .box 25 zBig), (104, .box 23 (eW (A16.of (spliceE A16.zero.l ((x_8 : Int).toNat) ((x0.W.l.drop 0).take (min 16 (16 - (x_8 : Int).toNat)))))))]⟩ rfl (Oc rfl (op_extract rfl rfl) (Oc rfl (op_extract rfl rfl) (Oc rfl (op_store_p tyAgg23 rfl rfl rfl rfl (Nat.le_of_ble_eq_true rfl) rfl) ?_)))
      refine OpsL.nilS ⟨[(2, Pt 101 0), (4, Pt 102 0), (5, Pt 104 0)], [(101, .box 25 (eBig x0)), (102, .box 25 zBig), (104, .box 23 (eW x_11))]⟩ rfl (Tri.seq (Tri.regionL ?_))
      refine Oc rfl (op_field_p tyFld25_1 rfl rfl) (Oc rfl (op_load_p1 tyOne4 rfl rfl rfl) (Oc rfl (op_load_p tyAgg23 rfl rfl rfl rfl) ?_))
      obtain ⟨x_13, e19, h⟩ := bnd h
      refine Oc rfl (op_call0 (whole_signed_spec e19) goes115 rfl rfl) (Oc rfl (op_store_p tyAgg25 rfl rfl rfl rfl (Nat.le_of_ble_eq_true rfl) rfl) ?_)
      refine OpsL.nilS ⟨[(4, Pt 102 0)], [(102, .box 25 (eBig x_13))]⟩ rfl (Tri.ret (Fin.then_ret ?_))
      obtain rfl := Option.some.inj h
      refine Fin.keepS ⟨[(4, Pt 102 0)], [(102, .box 25 (eBig x_13))]⟩ rfl (Fin.result' [.agg (eBig x_13)] (.inl rfl) rfl (.cons (.agg tyAgg25 rfl rfl rfl rfl) .nil) ⟨rfl, rfl⟩)
     ·refine Tri.skip (Fin.keepS ⟨[(1, I n0), (2, Pt 101 0), (4, Pt 102 0), (5, Pt 104 0), (6, I x_8)], [(101, .box 25 (eBig x0)), (102, .box 25 zBig), (104, .box 23 (eW A16.zero))]⟩ rfl (Fin.then (Tri.seq ?_)))
      refine Tri.keepS ⟨[(1, I n0), (2, Pt 101 0), (4, Pt 102 0), (5, Pt 104 0), (6, I x_8)], [(101, .box 25 (eBig x0)), (102, .box 25 zBig), (104, .box 23 (eW A16.zero))]⟩ rfl ?_
      obtain ⟨x_14, e20, h⟩ := bnd h
      refine Tri.regionY mixed 5 [.b (.psl 104 0 16 16), Pt 101 2, I x_8, I (IntKind.i64.wrap (-x_8)), .b (.psl 101 (2 + (IntKind.i64.wrap (-x_8) : Int).toNat) (16 - (IntKind.i64.wrap (-x_8) : Int).toNat) (16 - (IntKind.i64.wrap (-x_8) : Int).toNat))] [1, 2, 4, 5] [101, 102, 104] (s' := ⟨[(1, I n0), (2, Pt 101 0), (4, Pt 102 0), (5, Pt 104 0)], [(101, .box 25 (eBig x0)), (102, .box 25 zBig), (104, .box 23 (eW (A16.of (spliceE A16.zero.l 0 ((x0.W.l.drop ((IntKind.i64.wrap (-x_8) : Int).toNat)).take (min (16 - (IntKind.i64.wrap (-x_8) : Int).toNat) 16))))))]⟩) rfl ⟨fun _ => .plain rfl (op_slice_a tyArr23 (by decide) rfl), fun _ => .plain rfl (op_field_p tyFld25_2 rfl rfl), fun _ => .plain rfl (op_move rfl), fun _ => .plain rfl (op_neg rfl), fun _ => .plain rfl (op_slice_al tyArr23 (slo_lo e20) (slo_hi e20) rfl rfl), trivial⟩ ⟨_, by exact .plain rfl (op_copy_psl (m := min (16 - (IntKind.i64.wrap (-x_8) : Int).toNat) 16) tySl100 (by rfl) (by have q1_ := slo_lo e20; have p1_ := slo_hi e20; first | decide | (show (min (16 - (IntKind.i64.wrap (-x_8) : Int).toNat) 16) ≤ 9223372036854775807; omega)) rfl rfl rfl rfl (by have q1_ := slo_lo e20; have p1_ := slo_hi e20; first | decide | (show 0 + (min (16 - (IntKind.i64.wrap (-x_8) : Int).toNat) 16) ≤ 16; omega)) (by have q1_ := slo_lo e20; have p1_ := slo_hi e20; first | decide | (show (2 + (IntKind.i64.wrap (-x_8) : Int).toNat) + (min (16 - (IntKind.i64.wrap (-x_8) : Int).toNat) 16) ≤ 18; omega)) (splice_arr (a := 0) (a2 := 2) (off := 0) (off2 := 2 + (IntKind.i64.wrap (-x_8) : Int).toNat) (post := []) (post2 := []) (l := A16.zero.l) (l2 := x0.W.l) (kd := .u32) (lo := 0) (lo2 := (IntKind.i64.wrap (-x_8) : Int).toNat) [] [.bool x0.Bad, .bool x0.Neg] rfl rfl rfl rfl (by omega) (by omega) (by have q1_ := slo_lo e20; have p1_ := slo_hi e20; first | decide | (show 0 + (min (16 - (IntKind.i64.wrap (-x_8) : Int).toNat) 16) ≤ 16; omega)) (by have q1_ := slo_lo e20; have p1_ := slo_hi e20; first | decide | (show ((IntKind.i64.wrap (-x_8) : Int).toNat) + (min (16 - (IntKind.i64.wrap (-x_8) : Int).toNat) 16) ≤ 16; omega)) (A16.l_of (spliceE_lenA rfl (by have q1_ := slo_lo e20; have p1_ := slo_hi e20; first | decide | (show 0 + (min (16 - (IntKind.i64.wrap (-x_8) : Int).toNat) 16) ≤ 16; omega)) (by have q1_ := slo_lo e20; have p1_ := slo_hi e20; first | decide | (show ((IntKind.i64.wrap (-x_8) : Int).toNat) + (min (16 - (IntKind.i64.wrap (-x_8) : Int).toNat) 16) ≤ 16; omega)))) rfl)), rfl⟩ rfl (Tri.seq (Tri.keepS ⟨[(1, I n0), (2, Pt 101 0), (4, Pt 102 0), (5, Pt 104 0)], [(101, .box 25 (eBig x0)), (102, .box 25 zBig), (104, .box 23 (eW (A16.of (spliceE A16.zero.l 0 ((x0.W.l.drop ((IntKind.i64.wrap (-x_8) : Int).toNat)).take (min (16 - (IntKind.i64.wrap (-x_8) : Int).toNat) 16))))))]⟩ rfl ?_))
      obtain ⟨x_15, e21, h⟩ := bnd h
      obtain ⟨x_16, e22, h⟩ := bnd h
      refine Tri.regionY mixed 10 [.b (.agg (eBig x0)), .b (.agg (eW (A16.of (spliceE A16.zero.l 0 ((x0.W.l.drop ((IntKind.i64.wrap (-x_8) : Int).toNat)).take (min (16 - (IntKind.i64.wrap (-x_8) : Int).toNat) 16)))))), I n0, I (IntKind.i64.wrap (-n0)), I (Int.tmod (IntKind.i64.wrap (-n0)) 32), .b (.agg (eW x_15)), I n0, I (IntKind.i64.wrap (-n0)), .b (.one (.sl 1 ([IntKind.i64.wrap (-n0)].map eI))), .b (.agg (eBig x_16))] [4] [102] (s' := ⟨[(4, Pt 102 0)], [(102, .box 25 (eBig x_16))]⟩) rfl ⟨fun _ => .plain rfl (op_load_p tyAgg25 rfl rfl rfl rfl), fun _ => .plain rfl (op_load_p tyAgg23 rfl rfl rfl rfl), fun _ => .plain rfl (op_move rfl), fun _ => .plain rfl (op_neg rfl), fun _ => .plain rfl (op_rem (by decide) rfl rfl), fun _ => .plain rfl (op_call0 (whole_down_spec e21) goes126 rfl rfl), fun _ => .plain rfl (op_move rfl), fun _ => .plain rfl (op_neg rfl), fun _ => .plain rfl (op_buildSliceP (es := [IntKind.i64.wrap (-n0)].map eI) tySl70 rfl rfl (uni_map fun _ => rfl) rfl (by decide) (by decide)), fun _ => .plain rfl (op_call0 (whole_lost_spec e22) goes124 rfl rfl), trivial⟩ ⟨_, by exact .plain rfl (op_store_p tyAgg25 rfl rfl rfl rfl (Nat.le_of_ble_eq_true rfl) rfl), rfl⟩ rfl (Tri.ret ?_)
      obtain rfl := Option.some.inj h
      refine Fin.keepS ⟨[(4, Pt 102 0)], [(102, .box 25 (eBig x_16))]⟩ rfl (Fin.result' [.agg (eBig x_16)] (.inl rfl) rfl (.cons (.agg tyAgg25 rfl rfl rfl rfl) .nil) ⟨rfl, rfl⟩)
def ratio_Dyadic_S (F : Nat) (x0 : Frc) (k0 : Int) : Option (Frc × Frc) :=
 (ratio_Good_S F x0).bind fun x_1 => if (((!x_1) || (decide (k0 < 0))) || (decide (256 < k0))) = true then ((ratio_Bad_S F).bind fun x_2 => (ratio_Bad_S F).bind fun x_3 => some (x_2, x_3)) else ((whole_Shift_S F x0.N k0).bind fun x_4 => (ratio_one_S F).bind fun x_5 => (whole_Shift_S F x_5 k0).bind fun x_6 => (whole_Quo_S F x_4 x0.D).bind fun x_7 => (ratio_Make_S F x_7 x_6).bind fun x_8 => (whole_Neg_S F x_4).bind fun x_9 => (whole_Quo_S F x_9 x0.D).bind fun x_10 => (whole_Neg_S F x_10).bind fun x_11 => (ratio_Make_S F x_11 x_6).bind fun x_12 => (ratio_Good_S F x_8).bind fun x_13 => (gcall (!(!x_13)) (ratio_Good_S F x_12)).bind fun x_14 => if ((!x_13) || (!x_14)) = true then ((ratio_Bad_S F).bind fun x_15 => (ratio_Bad_S F).bind fun x_16 => some (x_15, x_16)) else (some (x_8, x_12)))
theorem ratio_Dyadic_spec {F : Nat} {x0 : Frc} {k0 : Int} {r : Frc × Frc} (h : ratio_Dyadic_S F x0 k0 = some r) : Meets Tryz.prog (tabs mx) 29 [] [.agg (eFrc x0), .one (.i k0)] (Is [] (.tup [.agg (eFrc r.1), .agg (eFrc r.2)])) := by
 unfold ratio_Dyadic_S at h
 refine Meets.intro 54 Tryz.func29 Tryz.ntmps29 rfl (by simp) fun E => ?_
 show Tri _ E ⟨54, [], []⟩ _ ⟨[(0, .b (.agg (eFrc x0))), (1, I k0)], []⟩ _
 refine Tri.seq (Tri.regionL ?_)
 refine Oc rfl (op_box (k := 101) rfl rfl) (Oc rfl (op_alloc (k := 102) tyZero27 rfl) (Oc rfl (op_alloc (k := 103) tyZero27 rfl) ?_))
 refine OpsL.nilS ⟨[(1, I k0), (2, Pt 101 0), (4, Pt 102 0), (5, Pt 103 0)], [(101, .box 27 (eFrc x0)), (102, .box 27 zFrc), (103, .box 27 zFrc)]⟩ rfl (Tri.seq (Tri.seq (Tri.regionL ?_)))
 refine Oc rfl (op_load_p tyAgg27 rfl rfl rfl rfl) ?_
 obtain ⟨x_1, e1, h⟩ := bnd h
 refine Oc rfl (op_call0 (ratio_Good_spec e1) goes26 rfl rfl) (Oc rfl (op_not rfl) (Oc rfl (op_move rfl) ?_))
 refine OpsL.consG (!(!x_1)) 99 [] (.plain rfl) (eq_f _) rfl rfl (fun g2 => trivial) (fun g2 => op_move rfl) (OpsL.keepS ⟨[(1, I k0), (2, Pt 101 0), (4, Pt 102 0), (5, Pt 103 0), (11, B (!x_1)), (12, .opt (!(!x_1)) (.one (.i k0)))], [(101, .box 27 (eFrc x0)), (102, .box 27 zFrc), (103, .box 27 zFrc)]⟩ rfl (OpsL.consG (!(!x_1)) 99 [12] (.plain rfl) (eq_f _) rfl rfl (fun g3 => ⟨g3, trivial⟩) (fun g3 => op_lss rfl rfl) (Oc rfl (op_pick_or (fun e => by rw [e]; rfl) rfl rfl rfl rfl) (Oc rfl (op_move rfl) ?_))))
 refine OpsL.consG (!((!x_1) || (decide (k0 < 0)))) 99 [] (.plain rfl) (eq_f _) rfl rfl (fun g4 => trivial) (fun g4 => op_move rfl) (OpsL.consG (!((!x_1) || (decide (k0 < 0)))) 99 [16] (.plain rfl) (eq_f _) rfl rfl (fun g5 => ⟨g5, trivial⟩) (fun g5 => op_gtr rfl rfl) (Oc rfl (op_pick_or (fun e => by rw [e]; rfl) rfl rfl rfl rfl) (OpsL.nilS ⟨[(1, I k0), (2, Pt 101 0), (4, Pt 102 0), (5, Pt 103 0), (18, B (((!x_1) || (decide (k0 < 0))) || (decide (256 < k0))))], [(101, .box 27 (eFrc x0)), (102, .box 27 zFrc), (103, .box 27 zFrc)]⟩ rfl (Tri.ite h rfl (fun _ h => ?_) (fun _ h => ?_)))))
 ·refine Tri.seq (Tri.regionL ?_)
  obtain ⟨x_2, e6, h⟩ := bnd h
  refine Oc rfl (op_call0 (ratio_Bad_spec e6) goes27 rfl rfl) ?_
  obtain ⟨x_3, e7, h⟩ := bnd h
  refine Oc rfl (op_call0 (ratio_Bad_spec e7) goes27 rfl rfl) (Oc rfl (op_store_p tyAgg27 rfl rfl rfl rfl (Nat.le_of_ble_eq_true rfl) rfl) (Oc rfl (op_store_p tyAgg27 rfl rfl rfl rfl (Nat.le_of_ble_eq_true rfl) rfl) ?_))
  refine OpsL.nilS ⟨[(4, Pt 102 0), (5, Pt 103 0)], [(102, .box 27 (eFrc x_2)), (103, .box 27 (eFrc x_3))]⟩ rfl (Tri.ret (Fin.then_ret ?_))
  obtain rfl := Option.some.inj h
  refine Fin.keepS ⟨[(4, Pt 102 0), (5, Pt 103 0)], [(102, .box 27 (eFrc x_2)), (103, .box 27 (eFrc x_3))]⟩ rfl (Fin.result' [.agg (eFrc x_2), .agg (eFrc x_3)] (.inl rfl) rfl (.cons (.agg tyAgg27 rfl rfl rfl rfl) (.cons (.agg tyAgg27 rfl rfl rfl rfl) .nil)) ⟨rfl, rfl⟩)
 ·refine Tri.skip (Fin.keepS ⟨[(1, I k0), (2, Pt 101 0), (4, Pt 102 0), (5, Pt 103 0)], [(101, .box 27 (eFrc x0)), (102, .box 27 zFrc), (103, .box 27 zFrc)]⟩ rfl (Fin.then (Tri.seq (Tri.regionL ?_))))
  refine Oc rfl (op_field_p tyFld27_0 rfl rfl) (Oc rfl (op_load_p tyAgg25 rfl rfl rfl rfl) (Oc rfl (op_move rfl) ?_))
  obtain ⟨x_4, e8, h⟩ := bnd h
  refine Oc rfl (op_call0 (whole_Shift_spec e8) goes93 rfl rfl) (OpsL.keepS ⟨[(1, I k0), (2, Pt 101 0), (4, Pt 102 0), (5, Pt 103 0), (24, .b (.agg (eBig x_4)))], [(101, .box 27 (eFrc x0)), (102, .box 27 zFrc), (103, .box 27 zFrc)]⟩ rfl ?_)
  obtain ⟨x_5, e9, h⟩ := bnd h
  refine Oc rfl (op_call0 (ratio_one_spec e9) goes90 rfl rfl) (Oc rfl (op_move rfl) ?_)
  obtain ⟨x_6, e10, h⟩ := bnd h
  refine Oc rfl (op_call0 (whole_Shift_spec e10) goes93 rfl rfl) (Oc rfl (op_alloc (k := 104) tyZero25 rfl) ?_)
  refine OpsL.keepS ⟨[(2, Pt 101 0), (4, Pt 102 0), (5, Pt 103 0), (6, Pt 104 0), (24, .b (.agg (eBig x_4))), (27, .b (.agg (eBig x_6)))], [(101, .box 27 (eFrc x0)), (102, .box 27 zFrc), (103, .box 27 zFrc), (104, .box 25 zBig)]⟩ rfl (Oc rfl (op_alloc (k := 105) tyZero25 rfl) (Oc rfl (op_store_p tyAgg25 rfl rfl rfl rfl (Nat.le_of_ble_eq_true rfl) rfl) (Oc rfl (op_store_p tyAgg25 rfl rfl rfl rfl (Nat.le_of_ble_eq_true rfl) rfl) ?_)))
  refine OpsL.nilS ⟨[(2, Pt 101 0), (4, Pt 102 0), (5, Pt 103 0), (6, Pt 104 0), (7, Pt 105 0)], [(101, .box 27 (eFrc x0)), (102, .box 27 zFrc), (103, .box 27 zFrc), (104, .box 25 (eBig x_4)), (105, .box 25 (eBig x_6))]⟩ rfl (Tri.seq ?_)
  obtain ⟨x_7, e11, h⟩ := bnd h
  obtain ⟨x_8, e12, h⟩ := bnd h
  refine Tri.regionY mixed 6 [.b (.agg (eBig x_4)), Pt 101 18, .b (.agg (eBig x0.D)), .b (.agg (eBig x_7)), .b (.agg (eBig x_6)), .b (.agg (eFrc x_8))] [2, 4, 5, 6, 7] [101, 102, 103, 104, 105] (s' := ⟨[(2, Pt 101 0), (4, Pt 102 0), (5, Pt 103 0), (6, Pt 104 0), (7, Pt 105 0)], [(101, .box 27 (eFrc x0)), (102, .box 27 (eFrc x_8)), (103, .box 27 zFrc), (104, .box 25 (eBig x_4)), (105, .box 25 (eBig x_6))]⟩) rfl ⟨fun _ => .plain rfl (op_load_p tyAgg25 rfl rfl rfl rfl), fun _ => .plain rfl (op_field_p tyFld27_1 rfl rfl), fun _ => .plain rfl (op_load_p tyAgg25 rfl rfl rfl rfl), fun _ => .plain rfl (op_call0 (whole_Quo_spec e11) goes75 rfl rfl), fun _ => .plain rfl (op_load_p tyAgg25 rfl rfl rfl rfl), fun _ => .plain rfl (op_call0 (ratio_Make_spec e12) goes11 rfl rfl), trivial⟩ ⟨_, by exact .plain rfl (op_store_p tyAgg27 rfl rfl rfl rfl (Nat.le_of_ble_eq_true rfl) rfl), rfl⟩ rfl (Tri.seq (Tri.keepS ⟨[(2, Pt 101 0), (4, Pt 102 0), (5, Pt 103 0), (6, Pt 104 0), (7, Pt 105 0)], [(101, .box 27 (eFrc x0)), (102, .box 27 (eFrc x_8)), (103, .box 27 zFrc), (104, .box 25 (eBig x_4)), (105, .box 25 (eBig x_6))]⟩ rfl ?_))
  obtain ⟨x_9, e13, h⟩ := bnd h
  obtain ⟨x_10, e14, h⟩ := bnd h
  obtain ⟨x_11, e15, h⟩ := bnd h
  obtain ⟨x_12, e16, h⟩ := bnd h
  refine Tri.regionY mixed 8 [.b (.agg (eBig x_4)), .b (.agg (eBig x_9)), Pt 101 18, .b (.agg (eBig x0.D)), .b (.agg (eBig x_10)), .b (.agg (eBig x_11)), .b (.agg (eBig x_6)), .b (.agg (eFrc x_12))] [4, 5] [102, 103] (s' := ⟨[(4, Pt 102 0), (5, Pt 103 0)], [(102, .box 27 (eFrc x_8)), (103, .box 27 (eFrc x_12))]⟩) rfl ⟨fun _ => .plain rfl (op_load_p tyAgg25 rfl rfl rfl rfl), fun _ => .plain rfl (op_call0 (whole_Neg_spec e13) goes74 rfl rfl), fun _ => .plain rfl (op_field_p tyFld27_1 rfl rfl), fun _ => .plain rfl (op_load_p tyAgg25 rfl rfl rfl rfl), fun _ => .plain rfl (op_call0 (whole_Quo_spec e14) goes75 rfl rfl), fun _ => .plain rfl (op_call0 (whole_Neg_spec e15) goes74 rfl rfl), fun _ => .plain rfl (op_load_p tyAgg25 rfl rfl rfl rfl), fun _ => .plain rfl (op_call0 (ratio_Make_spec e16) goes11 rfl rfl), trivial⟩ ⟨_, by exact .plain rfl (op_store_p tyAgg27 rfl rfl rfl rfl (Nat.le_of_ble_eq_true rfl) rfl), rfl⟩ rfl (Tri.seq (Tri.seq (Tri.regionL ?_)))
  refine Oc rfl (op_load_p tyAgg27 rfl rfl rfl rfl) ?_
  obtain ⟨x_13, e17, h⟩ := bnd h
  refine Oc rfl (op_call0 (ratio_Good_spec e17) goes26 rfl rfl) (Oc rfl (op_not rfl) (Oc rfl (op_move rfl) ?_))
  refine OpsL.consG (!(!x_13)) 99 [] (.plain rfl) (eq_f _) rfl rfl (fun g18 => trivial) (fun g18 => op_load_p tyAgg27 rfl rfl rfl rfl) (OpsL.keepS ⟨[(4, Pt 102 0), (5, Pt 103 0), (45, B (!x_13)), (46, .opt (!(!x_13)) (.agg (eFrc x_12)))], [(102, .box 27 (eFrc x_8)), (103, .box 27 (eFrc x_12))]⟩ rfl ?_)
  obtain ⟨x_14, e20, h⟩ := bnd h
  refine OpsL.consG (!(!x_13)) 99 [46] (.plain rfl) (eq_f _) rfl rfl (fun g19 => ⟨g19, trivial⟩) (fun g19 => op_call0 (ratio_Good_spec (gc e20 g19)) goes26 rfl rfl) (OpsL.consG (!(!x_13)) 99 [47] (.plain rfl) (eq_f _) rfl rfl (fun g21 => ⟨g21, trivial⟩) (fun g21 => op_not rfl) (Oc rfl (op_pick_or (fun e => by rw [e]; rfl) rfl rfl rfl rfl) (OpsL.nilS ⟨[(4, Pt 102 0), (5, Pt 103 0), (49, B ((!x_13) || (!x_14)))], [(102, .box 27 (eFrc x_8)), (103, .box 27 (eFrc x_12))]⟩ rfl (Tri.ite h rfl (fun _ h => ?_) (fun _ h => ?_)))))
  ·refine Tri.seq (Tri.regionL ?_)
   obtain ⟨x_15, e22, h⟩ := bnd h
   refine Oc rfl (op_call0 (ratio_Bad_spec e22) goes27 rfl rfl) ?_
   obtain ⟨x_16, e23, h⟩ := bnd h
   refine Oc rfl (op_call0 (ratio_Bad_spec e23) goes27 rfl rfl) (Oc rfl (op_store_p tyAgg27 rfl rfl rfl rfl (Nat.le_of_ble_eq_true rfl) rfl) (Oc rfl (op_store_p tyAgg27 rfl rfl rfl rfl (Nat.le_of_ble_eq_true rfl) rfl) ?_))
   refine OpsL.nilS ⟨[(4, Pt 102 0), (5, Pt 103 0)], [(102, .box 27 (eFrc x_15)), (103, .box 27 (eFrc x_16))]⟩ rfl (Tri.ret (Fin.then_ret ?_))
   obtain rfl := Option.some.inj h
   refine Fin.keepS ⟨[(4, Pt 102 0), (5, Pt 103 0)], [(102, .box 27 (eFrc x_15)), (103, .box 27 (eFrc x_16))]⟩ rfl (Fin.result' [.agg (eFrc x_15), .agg (eFrc x_16)] (.inl rfl) rfl (.cons (.agg tyAgg27 rfl rfl rfl rfl) (.cons (.agg tyAgg27 rfl rfl rfl rfl) .nil)) ⟨rfl, rfl⟩)
  ·refine Tri.skip (Fin.keepS ⟨[(4, Pt 102 0), (5, Pt 103 0)], [(102, .box 27 (eFrc x_8)), (103, .box 27 (eFrc x_12))]⟩ rfl (Fin.then (Tri.seq ?_)))
   refine Tri.keepS ⟨[(4, Pt 102 0), (5, Pt 103 0)], [(102, .box 27 (eFrc x_8)), (103, .box 27 (eFrc x_12))]⟩ rfl (Tri.regionW mixed [false, false, true, true] [.b (.agg (eFrc x_8)), .b (.agg (eFrc x_12)), B true, B true] [⟨[false, false, false, false], [(4, Pt 102 0), (5, Pt 103 0)], [(102, .box 27 (eFrc x_8)), (103, .box 27 (eFrc x_12))], [true, true, true, true], []⟩, ⟨[false, false, true, false], [(4, Pt 102 0), (5, Pt 103 0)], [(102, .box 27 (eFrc x_8)), (103, .box 27 (eFrc x_12))], [true, true, true, true], [0, 2]⟩, ⟨[false, false, true, true], [(4, Pt 102 0), (5, Pt 103 0)], [(102, .box 27 (eFrc x_8)), (103, .box 27 (eFrc x_12))], [true, true, true, true], [0, 1, 2, 3]⟩] rfl (⟨by kernel_rfl, ⟨⟨.b (.agg (eFrc x_8)), fun _ => rfl, fun _ => .plain rfl (by exact op_load_p tyAgg27 rfl rfl rfl rfl)⟩, ⟨.b (.agg (eFrc x_12)), fun _ => rfl, fun _ => .plain rfl (by exact op_load_p tyAgg27 rfl rfl rfl rfl)⟩, ⟨_, none, .b (.one .any), rfl, (fun e => by simp at e), rfl, rfl, fun _ => .toO [102, 103] (by exact .plain rfl (by exact op_store_p tyAgg27 rfl rfl rfl rfl (Nat.le_of_ble_eq_true rfl) rfl)) (by exact rfl)⟩, trivial, trivial⟩, ⟨by kernel_rfl, ⟨trivial, ⟨.b (.agg (eFrc x_12)), fun _ => rfl, fun _ => .plain rfl (by exact op_load_p tyAgg27 rfl rfl rfl rfl)⟩, trivial, ⟨_, none, .b (.one .any), rfl, (fun e => by simp at e), rfl, rfl, fun _ => .toO [102, 103] (by exact .plain rfl (by exact op_store_p tyAgg27 rfl rfl rfl rfl (Nat.le_of_ble_eq_true rfl) rfl)) (by exact rfl)⟩, trivial⟩, ⟨by kernel_rfl, ⟨trivial, trivial, trivial, trivial, trivial⟩, trivial⟩⟩⟩) rfl rfl rfl [4, 5] [102, 103] (s' := ⟨[(4, Pt 102 0), (5, Pt 103 0)], [(102, .box 27 (eFrc x_8)), (103, .box 27 (eFrc x_12))]⟩) rfl (Tri.ret ?_))
   obtain rfl := Option.some.inj h
   refine Fin.keepS ⟨[(4, Pt 102 0), (5, Pt 103 0)], [(102, .box 27 (eFrc x_8)), (103, .box 27 (eFrc x_12))]⟩ rfl (Fin.result' [.agg (eFrc x_8), .agg (eFrc x_12)] (.inl rfl) rfl (.cons (.agg tyAgg27 rfl rfl rfl rfl) (.cons (.agg tyAgg27 rfl rfl rfl rfl) .nil)) ⟨rfl, rfl⟩)
def ratio_Cmp_S (F : Nat) (x0 : Frc) (y0 : Frc) : Option Int :=
 (ratio_Good_S F x0).bind fun x_1 => (ratio_Good_S F y0).bind fun x_2 => if ((!x_1) && (!x_2)) = true then (some 0) else (if (!x_1) = true then (some (-1)) else (if (!x_2) = true then (some 1) else (Option.bind (iter F (un3 fun x_4 y_5 out_6 => (whole_Quo_S F x_4.N x_4.D).bind fun x_8 => (whole_Quo_S F y_5.N y_5.D).bind fun x_9 => (whole_Cmp_S F x_8 x_9).bind fun x_10 => if (decide (x_10 ≠ 0)) = true then (some (.inr (IntKind.i64.wrap (out_6 * x_10)))) else ((whole_Rem_S F x_4.N x_4.D).bind fun x_11 => (whole_Rem_S F y_5.N y_5.D).bind fun x_12 => (whole_Sign_S F x_11).bind fun x_13 => (whole_Sign_S F x_12).bind fun x_14 => if ((decide (x_13 = 0)) || (decide (x_14 = 0))) = true then (letN (IntKind.i64.wrap (out_6 * (IntKind.i64.wrap (x_13 - x_14)))) fun x_15 => some (.inr x_15)) else (some (.inl ((⟨x_4.D, x_11⟩ : Frc), (⟨y_5.D, x_12⟩ : Frc), IntKind.i64.wrap (-out_6)))))) (x0, y0, 1)) (fun out_3 => some out_3))))
theorem ratio_Cmp_spec {F : Nat} {x0 : Frc} {y0 : Frc} {r : Int} (h : ratio_Cmp_S F x0 y0 = some r) : Meets Tryz.prog (tabs mx) 39 [] [.agg (eFrc x0), .agg (eFrc y0)] (Is [] (.b (.one (.i r)))) := by
 unfold ratio_Cmp_S at h
 refine Meets.intro 80 Tryz.func39 Tryz.ntmps39 rfl (by simp) fun E => ?_
 show Tri _ E ⟨80, [], []⟩ _ ⟨[(0, .b (.agg (eFrc x0))), (1, .b (.agg (eFrc y0)))], []⟩ _
 refine Tri.seq (Tri.regionL ?_)
 refine Oc rfl (op_box (k := 101) rfl rfl) (Oc rfl (op_box (k := 102) rfl rfl) (Oc rfl (op_assign rfl) ?_))
 refine OpsL.nilS ⟨[(2, Pt 101 0), (3, Pt 102 0)], [(101, .box 27 (eFrc x0)), (102, .box 27 (eFrc y0))]⟩ rfl (Tri.scope (Tri.seq ?_))
 obtain ⟨x_1, e1, h⟩ := bnd h
 obtain ⟨x_2, e2, h⟩ := bnd h
 refine Tri.regionY mixed 6 [.b (.agg (eFrc x0)), B x_1, .b (.agg (eFrc y0)), B x_2, B x_1, B x_2] [2, 3, 5, 6] [101, 102] (s' := ⟨[(2, Pt 101 0), (3, Pt 102 0), (5, B x_1), (6, B x_2)], [(101, .box 27 (eFrc x0)), (102, .box 27 (eFrc y0))]⟩) rfl ⟨fun _ => .plain rfl (op_load_p tyAgg27 rfl rfl rfl rfl), fun _ => .plain rfl (op_call0 (ratio_Good_spec e1) goes26 rfl rfl), fun _ => .plain rfl (op_load_p tyAgg27 rfl rfl rfl rfl), fun _ => .plain rfl (op_call0 (ratio_Good_spec e2) goes26 rfl rfl), fun _ => .plain rfl (op_assign rfl), fun _ => .plain rfl (op_assign rfl), trivial⟩ rfl rfl (Tri.seq (Tri.block (Tri.seq (Tri.regionL ?_))))
 refine Oc rfl (op_move rfl) (Oc rfl (op_not rfl) (Oc rfl (op_move rfl) ?_))
 refine OpsL.consG (!x_1) 99 [] (.plain rfl) (eq_t _) rfl rfl (fun g3 => trivial) (fun g3 => op_move rfl) (OpsL.consG (!x_1) 99 [19] (.plain rfl) (eq_t _) rfl rfl (fun g4 => ⟨g4, trivial⟩) (fun g4 => op_not rfl) (Oc rfl (op_pick_and (fun e => e) rfl rfl rfl rfl) (Oc rfl (op_assign rfl) ?_)))
 refine OpsL.nilS ⟨[(2, Pt 101 0), (3, Pt 102 0), (5, B x_1), (6, B x_2), (15, B ((!x_1) && (!x_2)))], [(101, .box 27 (eFrc x0)), (102, .box 27 (eFrc y0))]⟩ rfl (Tri.ite h rfl (fun _ h => ?_) (fun _ h => ?_))
 ·refine Tri.seq (Tri.regionL ?_)
  refine Oc rfl (op_assign rfl) (OpsL.nilS ⟨[(4, I 0)], []⟩ rfl (Tri.ret (Fin.block_ret (Fin.then_ret (Fin.scope_ret ?_)))))
  obtain rfl := Option.some.inj h
  refine Fin.keepS ⟨[(4, I 0)], []⟩ rfl (Fin.result' [.one (.i 0)] (.inl rfl) rfl (.cons (.tmp rfl) .nil) ⟨rfl, rfl⟩)
 ·refine Tri.seq (Tri.regionL ?_)
  refine Oc rfl (op_move rfl) (Oc rfl (op_not rfl) (Oc rfl (op_assign rfl) ?_))
  refine OpsL.nilS ⟨[(2, Pt 101 0), (3, Pt 102 0), (6, B x_2), (22, B (!x_1))], [(101, .box 27 (eFrc x0)), (102, .box 27 (eFrc y0))]⟩ rfl (Tri.ite h rfl (fun _ h => ?_) (fun _ h => ?_))
  ·refine Tri.seq (Tri.regionL ?_)
   refine Oc rfl (op_assign rfl) (OpsL.nilS ⟨[(4, I (-1))], []⟩ rfl (Tri.ret (Fin.block_ret (Fin.then_ret (Fin.scope_ret ?_)))))
   obtain rfl := Option.some.inj h
   refine Fin.keepS ⟨[(4, I (-1))], []⟩ rfl (Fin.result' [.one (.i (-1))] (.inl rfl) rfl (.cons (.tmp rfl) .nil) ⟨rfl, rfl⟩)
  ·refine Tri.seq (Tri.regionL ?_)
   refine Oc rfl (op_move rfl) (Oc rfl (op_not rfl) (Oc rfl (op_assign rfl) ?_))
   refine OpsL.nilS ⟨[(2, Pt 101 0), (3, Pt 102 0), (25, B (!x_2))], [(101, .box 27 (eFrc x0)), (102, .box 27 (eFrc y0))]⟩ rfl (Tri.ite h rfl (fun _ h => ?_) (fun _ h => ?_))
   ·refine Tri.seq (Tri.regionL ?_)
    refine Oc rfl (op_assign rfl) (OpsL.nilS ⟨[(4, I 1)], []⟩ rfl (Tri.ret (Fin.block_ret (Fin.then_ret (Fin.scope_ret ?_)))))
    obtain rfl := Option.some.inj h
    refine Fin.keepS ⟨[(4, I 1)], []⟩ rfl (Fin.result' [.one (.i 1)] (.inl rfl) rfl (.cons (.tmp rfl) .nil) ⟨rfl, rfl⟩)
   ·refine Tri.skip (Fin.block_normal (Fin.keepS ⟨[(2, Pt 101 0), (3, Pt 102 0)], [(101, .box 27 (eFrc x0)), (102, .box 27 (eFrc y0))]⟩ rfl (Fin.then (Tri.seq (Tri.regionL ?_)))))
    refine Oc rfl (op_assign rfl) (OpsL.nilS ⟨[(2, Pt 101 0), (3, Pt 102 0), (7, I 1)], [(101, .box 27 (eFrc x0)), (102, .box 27 (eFrc y0))]⟩ rfl (Tri.seq (Tri.label (Fin.then ?_))))
    obtain ⟨v5, h6, h⟩ := bnd h
    refine Tri.seqJ (v := v5) (fun (out_3 : Int) => ⟨[(7, I out_3)], []⟩) (fun z => z) ?_ ?_
    ·refine Tri.block (Tri.loopJ h6 (un3 fun (x_4 : Frc) (y_5 : Frc) (out_6 : Int) => ⟨[(2, Pt 101 0), (3, Pt 102 0), (7, I out_6)], [(101, .box 27 (eFrc x_4)), (102, .box 27 (eFrc y_5))]⟩) [2, 3, 7] [101, 102] rfl ?_)
     rintro ⟨x_4, y_5, out_6⟩ o7 h8 hy9
     refine Tri.block (Tri.seq (Tri.seq ?_))
     refine Tri.keepS ⟨[(2, Pt 101 0), (3, Pt 102 0), (7, I out_6)], [(101, .box 27 (eFrc x_4)), (102, .box 27 (eFrc y_5))]⟩ rfl ?_
     obtain ⟨x_8, e10, h8⟩ := bnd h8
     obtain ⟨x_9, e11, h8⟩ := bnd h8
     obtain ⟨x_10, e12, h8⟩ := bnd h8
     refine Tri.regionY mixed 12 [Pt 101 0, .b (.agg (eBig x_4.N)), Pt 101 18, .b (.agg (eBig x_4.D)), .b (.agg (eBig x_8)), Pt 102 0, .b (.agg (eBig y_5.N)), Pt 102 18, .b (.agg (eBig y_5.D)), .b (.agg (eBig x_9)), I x_10, I x_10] [2, 3, 7, 8] [101, 102] (s' := ⟨[(2, Pt 101 0), (3, Pt 102 0), (7, I out_6), (8, I x_10)], [(101, .box 27 (eFrc x_4)), (102, .box 27 (eFrc y_5))]⟩) rfl ⟨fun _ => .plain rfl (op_field_p tyFld27_0 rfl rfl), fun _ => .plain rfl (op_load_p tyAgg25 rfl rfl rfl rfl), fun _ => .plain rfl (op_field_p tyFld27_1 rfl rfl), fun _ => .plain rfl (op_load_p tyAgg25 rfl rfl rfl rfl), fun _ => .plain rfl (op_call0 (whole_Quo_spec e10) goes75 rfl rfl), fun _ => .plain rfl (op_field_p tyFld27_0 rfl rfl), fun _ => .plain rfl (op_load_p tyAgg25 rfl rfl rfl rfl), fun _ => .plain rfl (op_field_p tyFld27_1 rfl rfl), fun _ => .plain rfl (op_load_p tyAgg25 rfl rfl rfl rfl), fun _ => .plain rfl (op_call0 (whole_Quo_spec e11) goes75 rfl rfl), fun _ => .plain rfl (op_call0 (whole_Cmp_spec e12) goes95 rfl rfl), fun _ => .plain rfl (op_assign rfl), trivial⟩ rfl rfl (Tri.seq (Tri.regionL ?_))
     refine Oc rfl (op_move rfl) (Oc rfl (op_neq rfl rfl) ?_)
     refine OpsL.nilS ⟨[(2, Pt 101 0), (3, Pt 102 0), (7, I out_6), (8, I x_10), (40, B (decide (x_10 ≠ 0)))], [(101, .box 27 (eFrc x_4)), (102, .box 27 (eFrc y_5))]⟩ rfl (Tri.ite h8 rfl (fun _ h8 => ?_) (fun _ h8 => ?_))
     ·refine Tri.seq (Tri.regionL ?_)
      refine Oc rfl (op_move rfl) (Oc rfl (op_move rfl) (Oc rfl (op_mul rfl rfl) (Oc rfl (op_assign rfl) ?_)))
      refine OpsL.nilS ⟨[(7, I (IntKind.i64.wrap (out_6 * x_10)))], []⟩ rfl (Tri.exit (Fin.then_exit (Fin.block_exit_other (by decide) ?_)))
      obtain rfl := hy9 _ (Option.some.inj h8).symm
      refine Fin.then_exit (Fin.block_exit ?_)
      exact Fin.join [7] [] (IntKind.i64.wrap (out_6 * x_10)) rfl rfl
     ·refine Tri.skip (Fin.keepS ⟨[(2, Pt 101 0), (3, Pt 102 0), (7, I out_6)], [(101, .box 27 (eFrc x_4)), (102, .box 27 (eFrc y_5))]⟩ rfl (Fin.then (Tri.seq ?_)))
      refine Tri.keepS ⟨[(2, Pt 101 0), (3, Pt 102 0), (7, I out_6)], [(101, .box 27 (eFrc x_4)), (102, .box 27 (eFrc y_5))]⟩ rfl ?_
      obtain ⟨x_11, e13, h8⟩ := bnd h8
      obtain ⟨x_12, e14, h8⟩ := bnd h8
      refine Tri.regionW mixed [false, false, false, false, false, false, false, false, false, false, false, false, false, false, false, false, true, true] [Pt 101 18, .b (.agg (eBig x_4.D)), Pt 101 0, .b (.agg (eBig x_4.N)), Pt 101 18, .b (.agg (eBig x_4.D)), .b (.agg (eBig x_11)), .b (.agg (eBig x_4.D ++ (eBig x_11))), Pt 102 18, .b (.agg (eBig y_5.D)), Pt 102 0, .b (.agg (eBig y_5.N)), Pt 102 18, .b (.agg (eBig y_5.D)), .b (.agg (eBig x_12)), .b (.agg (eBig y_5.D ++ (eBig x_12))), B true, B true] [⟨[false, false, false, false, false, false, false, false, false, false, false, false, false, false, false, false, false, false], [(2, Pt 101 0), (3, Pt 102 0), (7, I out_6)], [(101, .box 27 (eFrc x_4)), (102, .box 27 (eFrc y_5))], [true, true, true, true, true, true, true, true, true, true, true, true, true, true, true, true, true, true], []⟩, ⟨[false, false, false, false, false, false, false, false, false, false, false, false, false, false, false, false, true, false], [(2, Pt 101 0), (3, Pt 102 0), (7, I out_6)], [(101, .box 27 (eBig x_4.D ++ (eBig x_11))), (102, .box 27 (eFrc y_5))], [true, true, true, true, true, true, true, true, true, true, true, true, true, true, true, true, true, true], [0, 1, 2, 3, 4, 5, 6, 7, 10, 11, 12, 13, 14, 16]⟩, ⟨[false, false, false, false, false, false, false, false, false, false, false, false, false, false, false, false, true, true], [(2, Pt 101 0), (3, Pt 102 0), (7, I out_6)], [(101, .box 27 (eBig x_4.D ++ (eBig x_11))), (102, .box 27 (eBig y_5.D ++ (eBig x_12)))], [true, true, true, true, true, true, true, true, true, true, true, true, true, true, true, true, true, true], [0, 1, 2, 3, 4, 5, 6, 7, 8, 9, 10, 11, 12, 13, 14, 15, 16, 17]⟩] rfl (⟨by kernel_rfl, ⟨⟨Pt 101 18, fun _ => rfl, fun _ => .plain rfl (by exact op_field_p tyFld27_1 rfl rfl)⟩, ⟨.b (.agg (eBig x_4.D)), fun _ => rfl, fun _ => .plain rfl (by exact op_load_p tyAgg25 rfl rfl rfl rfl)⟩, ⟨Pt 101 0, fun _ => rfl, fun _ => .plain rfl (by exact op_field_p tyFld27_0 rfl rfl)⟩, ⟨.b (.agg (eBig x_4.N)), fun _ => rfl, fun _ => .plain rfl (by exact op_load_p tyAgg25 rfl rfl rfl rfl)⟩, ⟨Pt 101 18, fun _ => rfl, fun _ => .plain rfl (by exact op_field_p tyFld27_1 rfl rfl)⟩, ⟨.b (.agg (eBig x_4.D)), fun _ => rfl, fun _ => .plain rfl (by exact op_load_p tyAgg25 rfl rfl rfl rfl)⟩, ⟨.b (.agg (eBig x_11)), fun _ => rfl, fun _ => .plain rfl (by exact op_call0 (whole_Rem_spec e13) goes94 rfl rfl)⟩, ⟨.b (.agg (eBig x_4.D ++ (eBig x_11))), fun _ => rfl, fun _ => .plain rfl (by exact op_build tyBuild27 rfl rfl)⟩, ⟨Pt 102 18, fun _ => rfl, fun _ => .plain rfl (by exact op_field_p tyFld27_1 rfl rfl)⟩, ⟨.b (.agg (eBig y_5.D)), fun _ => rfl, fun _ => .plain rfl (by exact op_load_p tyAgg25 rfl rfl rfl rfl)⟩, ⟨Pt 102 0, fun _ => rfl, fun _ => .plain rfl (by exact op_field_p tyFld27_0 rfl rfl)⟩, ⟨.b (.agg (eBig y_5.N)), fun _ => rfl, fun _ => .plain rfl (by exact op_load_p tyAgg25 rfl rfl rfl rfl)⟩, ⟨Pt 102 18, fun _ => rfl, fun _ => .plain rfl (by exact op_field_p tyFld27_1 rfl rfl)⟩, ⟨.b (.agg (eBig y_5.D)), fun _ => rfl, fun _ => .plain rfl (by exact op_load_p tyAgg25 rfl rfl rfl rfl)⟩, ⟨.b (.agg (eBig x_12)), fun _ => rfl, fun _ => .plain rfl (by exact op_call0 (whole_Rem_spec e14) goes94 rfl rfl)⟩, ⟨.b (.agg (eBig y_5.D ++ (eBig x_12))), fun _ => rfl, fun _ => .plain rfl (by exact op_build tyBuild27 rfl rfl)⟩, ⟨_, none, .b (.one .any), rfl, (fun e => by simp at e), rfl, rfl, fun _ => .toO [101, 102] (by exact .plain rfl (by exact op_store_p tyAgg27 rfl rfl rfl rfl (Nat.le_of_ble_eq_true rfl) rfl)) (by exact rfl)⟩, trivial, trivial⟩, ⟨by kernel_rfl, ⟨trivial, trivial, trivial, trivial, trivial, trivial, trivial, trivial, ⟨Pt 102 18, fun _ => rfl, fun _ => .plain rfl (by exact op_field_p tyFld27_1 rfl rfl)⟩, ⟨.b (.agg (eBig y_5.D)), fun _ => rfl, fun _ => .plain rfl (by exact op_load_p tyAgg25 rfl rfl rfl rfl)⟩, trivial, trivial, trivial, trivial, trivial, ⟨.b (.agg (eBig y_5.D ++ (eBig x_12))), fun _ => rfl, fun _ => .plain rfl (by exact op_build tyBuild27 rfl rfl)⟩, trivial, ⟨_, none, .b (.one .any), rfl, (fun e => by simp at e), rfl, rfl, fun _ => .toO [101, 102] (by exact .plain rfl (by exact op_store_p tyAgg27 rfl rfl rfl rfl (Nat.le_of_ble_eq_true rfl) rfl)) (by exact rfl)⟩, trivial⟩, ⟨by kernel_rfl, ⟨trivial, trivial, trivial, trivial, trivial, trivial, trivial, trivial, trivial, trivial, trivial, trivial, trivial, trivial, trivial, trivial, trivial, trivial, trivial⟩, trivial⟩⟩⟩) rfl rfl rfl [2, 3, 7] [101, 102] (s' := ⟨[(2, Pt 101 0), (3, Pt 102 0), (7, I out_6)], [(101, .box 27 (eBig x_4.D ++ (eBig x_11))), (102, .box 27 (eBig y_5.D ++ (eBig x_12)))]⟩) rfl ?_
      refine Tri.seq (Tri.keepS ⟨[(2, Pt 101 0), (3, Pt 102 0), (7, I out_6)], [(101, .box 27 (eBig x_4.D ++ (eBig x_11))), (102, .box 27 (eBig y_5.D ++ (eBig x_12)))]⟩ rfl ?_)
      obtain ⟨x_13, e15, h8⟩ := bnd h8
      obtain ⟨x_14, e16, h8⟩ := bnd h8
      refine Tri.regionY mixed 8 [Pt 101 18, .b (.agg (eBig x_11)), I x_13, Pt 102 18, .b (.agg (eBig x_12)), I x_14, I x_13, I x_14] [2, 3, 7, 9, 10] [101, 102] (s' := ⟨[(2, Pt 101 0), (3, Pt 102 0), (7, I out_6), (9, I x_13), (10, I x_14)], [(101, .box 27 (eBig x_4.D ++ (eBig x_11))), (102, .box 27 (eBig y_5.D ++ (eBig x_12)))]⟩) rfl ⟨fun _ => .plain rfl (op_field_p tyFld27_1 rfl rfl), fun _ => .plain rfl (op_load_p tyAgg25 rfl rfl rfl rfl), fun _ => .plain rfl (op_call0 (whole_Sign_spec e15) goes72 rfl rfl), fun _ => .plain rfl (op_field_p tyFld27_1 rfl rfl), fun _ => .plain rfl (op_load_p tyAgg25 rfl rfl rfl rfl), fun _ => .plain rfl (op_call0 (whole_Sign_spec e16) goes72 rfl rfl), fun _ => .plain rfl (op_assign rfl), fun _ => .plain rfl (op_assign rfl), trivial⟩ rfl rfl (Tri.seq (Tri.seq (Tri.regionL ?_)))
      refine Oc rfl (op_move rfl) (Oc rfl (op_eql rfl rfl) (Oc rfl (op_move rfl) ?_))
      refine OpsL.consG (!(decide (x_13 = 0))) 99 [] (.plain rfl) (eq_f _) rfl rfl (fun g17 => trivial) (fun g17 => op_move rfl) (OpsL.consG (!(decide (x_13 = 0))) 99 [69] (.plain rfl) (eq_f _) rfl rfl (fun g18 => ⟨g18, trivial⟩) (fun g18 => op_eql rfl rfl) (Oc rfl (op_pick_or (fun e => by rw [e]; rfl) rfl rfl rfl rfl) (OpsL.nilS ⟨[(2, Pt 101 0), (3, Pt 102 0), (7, I out_6), (9, I x_13), (10, I x_14), (71, B ((decide (x_13 = 0)) || (decide (x_14 = 0))))], [(101, .box 27 (eBig x_4.D ++ (eBig x_11))), (102, .box 27 (eBig y_5.D ++ (eBig x_12)))]⟩ rfl (Tri.ite h8 rfl (fun _ h8 => ?_) (fun _ h8 => ?_)))))
      ·refine Tri.seq (Tri.regionL ?_)
       refine Oc rfl (op_move rfl) (Oc rfl (op_move rfl) (Oc rfl (op_move rfl) (Oc rfl (op_sub rfl rfl) ?_)))
       refine OpsL.consI .i64 h8 rfl (op_mul rfl rfl) (fun x_15 h8 => ?_)
       refine Oc rfl (op_assign rfl) (OpsL.nilS ⟨[(7, I x_15)], []⟩ rfl (Tri.exit (Fin.then_exit (Fin.block_exit_other (by decide) ?_))))
       obtain rfl := hy9 _ (Option.some.inj h8).symm
       refine Fin.then_exit (Fin.block_exit ?_)
       exact Fin.join [7] [] x_15 rfl rfl
      ·refine Tri.skip (Fin.keepS ⟨[(2, Pt 101 0), (3, Pt 102 0), (7, I out_6)], [(101, .box 27 (eBig x_4.D ++ (eBig x_11))), (102, .box 27 (eBig y_5.D ++ (eBig x_12)))]⟩ rfl (Fin.then (Tri.regionL ?_)))
       refine Oc rfl (op_move rfl) (Oc rfl (op_neg rfl) (Oc rfl (op_assign rfl) ?_))
       refine OpsL.nil (Fin.block_normal ?_)
       exact Fin.againJ [2, 3, 7] [101, 102] ((⟨x_4.D, x_11⟩ : Frc), (⟨y_5.D, x_12⟩ : Frc), IntKind.i64.wrap (-out_6)) (Option.some.inj h8) rfl
    ·rintro out_3 hv
     subst v5
     refine Tri.seq (Tri.regionL ?_)
     refine Oc rfl (op_move rfl) (Oc rfl (op_assign rfl) ?_)
     refine OpsL.nilS ⟨[(4, I out_3)], []⟩ rfl (Tri.ret (Fin.scope_ret ?_))
     obtain rfl := Option.some.inj h
     refine Fin.keepS ⟨[(4, I out_3)], []⟩ rfl (Fin.result' [.one (.i out_3)] (.inl rfl) rfl (.cons (.tmp rfl) .nil) ⟨rfl, rfl⟩)
def ratio_Sign_S (F : Nat) (x0 : Frc) : Option Int :=
 (ratio_Good_S F x0).bind fun x_1 => if (!x_1) = true then (some 0) else ((whole_Sign_S F x0.N).bind fun x_2 => some x_2)
theorem ratio_Sign_spec {F : Nat} {x0 : Frc} {r : Int} (h : ratio_Sign_S F x0 = some r) : Meets Tryz.prog (tabs mx) 37 [] [.agg (eFrc x0)] (Is [] (.b (.one (.i r)))) := by
 unfold ratio_Sign_S at h
 refine Meets.intro 9 Tryz.func37 Tryz.ntmps37 rfl (by simp) fun E => ?_
 show Tri _ E ⟨9, [], []⟩ _ ⟨[(0, .b (.agg (eFrc x0)))], []⟩ _
 refine Tri.seq (Tri.regionL ?_)
 refine Oc rfl (op_box (k := 101) rfl rfl) (Oc rfl (op_assign rfl) ?_)
 refine OpsL.nilS ⟨[(1, Pt 101 0)], [(101, .box 27 (eFrc x0))]⟩ rfl (Tri.seq (Tri.seq (Tri.regionL ?_)))
 refine Oc rfl (op_load_p tyAgg27 rfl rfl rfl rfl) ?_
 obtain ⟨x_1, e1, h⟩ := bnd h
 refine Oc rfl (op_call0 (ratio_Good_spec e1) goes26 rfl rfl) (Oc rfl (op_not rfl) ?_)
 refine OpsL.nilS ⟨[(1, Pt 101 0), (5, B (!x_1))], [(101, .box 27 (eFrc x0))]⟩ rfl (Tri.ite h rfl (fun _ h => ?_) (fun _ h => ?_))
 ·refine Tri.seq (Tri.regionL ?_)
  refine Oc rfl (op_assign rfl) (OpsL.nilS ⟨[(2, I 0)], []⟩ rfl (Tri.ret (Fin.then_ret ?_)))
  obtain rfl := Option.some.inj h
  refine Fin.keepS ⟨[(2, I 0)], []⟩ rfl (Fin.result' [.one (.i 0)] (.inl rfl) rfl (.cons (.tmp rfl) .nil) ⟨rfl, rfl⟩)
 ·refine Tri.skip (Fin.keepS ⟨[(1, Pt 101 0)], [(101, .box 27 (eFrc x0))]⟩ rfl (Fin.then (Tri.seq (Tri.regionL ?_))))
  refine Oc rfl (op_field_p tyFld27_0 rfl rfl) (Oc rfl (op_load_p tyAgg25 rfl rfl rfl rfl) ?_)
  obtain ⟨x_2, e2, h⟩ := bnd h
  refine Oc rfl (op_call0 (whole_Sign_spec e2) goes72 rfl rfl) (Oc rfl (op_assign rfl) ?_)
  refine OpsL.nilS ⟨[(2, I x_2)], []⟩ rfl (Tri.ret ?_)
  obtain rfl := Option.some.inj h
  refine Fin.keepS ⟨[(2, I x_2)], []⟩ rfl (Fin.result' [.one (.i x_2)] (.inl rfl) rfl (.cons (.tmp rfl) .nil) ⟨rfl, rfl⟩)
def ratio_Whole_S (F : Nat) (n0 : Big) : Option Frc :=
 (ratio_one_S F).bind fun x_1 => (ratio_Make_S F n0 x_1).bind fun x_2 => some x_2
theorem ratio_Whole_spec {F : Nat} {n0 : Big} {r : Frc} (h : ratio_Whole_S F n0 = some r) : Meets Tryz.prog (tabs mx) 18 [] [.agg (eBig n0)] (Is [] (.b (.agg (eFrc r)))) := by
 unfold ratio_Whole_S at h
 refine Meets.intro 6 Tryz.func18 Tryz.ntmps18 rfl (by simp) fun E => ?_
 show Tri _ E ⟨6, [], []⟩ _ ⟨[(0, .b (.agg (eBig n0)))], []⟩ _
 refine Tri.seq (Tri.regionL ?_)
 refine Oc rfl (op_box (k := 101) rfl rfl) (Oc rfl (op_alloc (k := 102) tyZero27 rfl) ?_)
 refine OpsL.nilS ⟨[(1, Pt 101 0), (2, Pt 102 0)], [(101, .box 25 (eBig n0)), (102, .box 27 zFrc)]⟩ rfl (Tri.seq ?_)
 obtain ⟨x_1, e1, h⟩ := bnd h
 obtain ⟨x_2, e2, h⟩ := bnd h
 refine Tri.regionY mixed 3 [.b (.agg (eBig n0)), .b (.agg (eBig x_1)), .b (.agg (eFrc x_2))] [2] [102] (s' := ⟨[(2, Pt 102 0)], [(102, .box 27 (eFrc x_2))]⟩) rfl ⟨fun _ => .plain rfl (op_load_p tyAgg25 rfl rfl rfl rfl), fun _ => .plain rfl (op_call0 (ratio_one_spec e1) goes90 rfl rfl), fun _ => .plain rfl (op_call0 (ratio_Make_spec e2) goes11 rfl rfl), trivial⟩ ⟨_, by exact .plain rfl (op_store_p tyAgg27 rfl rfl rfl rfl (Nat.le_of_ble_eq_true rfl) rfl), rfl⟩ rfl (Tri.ret ?_)
 obtain rfl := Option.some.inj h
 refine Fin.keepS ⟨[(2, Pt 102 0)], [(102, .box 27 (eFrc x_2))]⟩ rfl (Fin.result' [.agg (eFrc x_2)] (.inl rfl) rfl (.cons (.agg tyAgg27 rfl rfl rfl rfl) .nil) ⟨rfl, rfl⟩)
def ratio_Of_S (F : Nat) (n0 : Int) : Option Frc :=
 (whole_Of_S F n0).bind fun x_1 => (ratio_Whole_S F x_1).bind fun x_2 => some x_2
theorem ratio_Of_spec {F : Nat} {n0 : Int} {r : Frc} (h : ratio_Of_S F n0 = some r) : Meets Tryz.prog (tabs mx) 20 [] [.one (.i n0)] (Is [] (.b (.agg (eFrc r)))) := by
 unfold ratio_Of_S at h
 refine Meets.intro 6 Tryz.func20 Tryz.ntmps20 rfl (by simp) fun E => ?_
 show Tri _ E ⟨6, [], []⟩ _ ⟨[(0, I n0)], []⟩ _
 refine Tri.seq (Tri.regionL ?_)
 refine Oc rfl (op_alloc (k := 101) tyZero27 rfl) (OpsL.nilS ⟨[(0, I n0), (2, Pt 101 0)], [(101, .box 27 zFrc)]⟩ rfl (Tri.seq (Tri.regionL ?_)))
 refine Oc rfl (op_move rfl) ?_
 obtain ⟨x_1, e1, h⟩ := bnd h
 refine Oc rfl (op_call0 (whole_Of_spec e1) goes91 rfl rfl) ?_
 obtain ⟨x_2, e2, h⟩ := bnd h
 refine Oc rfl (op_call0 (ratio_Whole_spec e2) goes18 rfl rfl) (Oc rfl (op_store_p tyAgg27 rfl rfl rfl rfl (Nat.le_of_ble_eq_true rfl) rfl) ?_)
 refine OpsL.nilS ⟨[(2, Pt 101 0)], [(101, .box 27 (eFrc x_2))]⟩ rfl (Tri.ret ?_)
 obtain rfl := Option.some.inj h
 refine Fin.keepS ⟨[(2, Pt 101 0)], [(101, .box 27 (eFrc x_2))]⟩ rfl (Fin.result' [.agg (eFrc x_2)] (.inl rfl) rfl (.cons (.agg tyAgg27 rfl rfl rfl rfl) .nil) ⟨rfl, rfl⟩)
def ratio_Sub_S (F : Nat) (x0 : Frc) (y0 : Frc) : Option Frc :=
 (ratio_Neg_S F y0).bind fun x_1 => (ratio_Add_S F x0 x_1).bind fun x_2 => some x_2
theorem ratio_Sub_spec {F : Nat} {x0 : Frc} {y0 : Frc} {r : Frc} (h : ratio_Sub_S F x0 y0 = some r) : Meets Tryz.prog (tabs mx) 41 [] [.agg (eFrc x0), .agg (eFrc y0)] (Is [] (.b (.agg (eFrc r)))) := by
 unfold ratio_Sub_S at h
 refine Meets.intro 9 Tryz.func41 Tryz.ntmps41 rfl (by simp) fun E => ?_
 show Tri _ E ⟨9, [], []⟩ _ ⟨[(0, .b (.agg (eFrc x0))), (1, .b (.agg (eFrc y0)))], []⟩ _
 refine Tri.seq (Tri.regionL ?_)
 refine Oc rfl (op_box (k := 101) rfl rfl) (Oc rfl (op_box (k := 102) rfl rfl) (Oc rfl (op_alloc (k := 103) tyZero27 rfl) ?_))
 refine OpsL.nilS ⟨[(2, Pt 101 0), (3, Pt 102 0), (4, Pt 103 0)], [(101, .box 27 (eFrc x0)), (102, .box 27 (eFrc y0)), (103, .box 27 zFrc)]⟩ rfl (Tri.seq ?_)
 obtain ⟨x_1, e1, h⟩ := bnd h
 obtain ⟨x_2, e2, h⟩ := bnd h
 refine Tri.regionY mixed 4 [.b (.agg (eFrc x0)), .b (.agg (eFrc y0)), .b (.agg (eFrc x_1)), .b (.agg (eFrc x_2))] [4] [103] (s' := ⟨[(4, Pt 103 0)], [(103, .box 27 (eFrc x_2))]⟩) rfl ⟨fun _ => .plain rfl (op_load_p tyAgg27 rfl rfl rfl rfl), fun _ => .plain rfl (op_load_p tyAgg27 rfl rfl rfl rfl), fun _ => .plain rfl (op_call0 (ratio_Neg_spec e1) goes43 rfl rfl), fun _ => .plain rfl (op_call0 (ratio_Add_spec e2) goes42 rfl rfl), trivial⟩ ⟨_, by exact .plain rfl (op_store_p tyAgg27 rfl rfl rfl rfl (Nat.le_of_ble_eq_true rfl) rfl), rfl⟩ rfl (Tri.ret ?_)
 obtain rfl := Option.some.inj h
 refine Fin.keepS ⟨[(4, Pt 103 0)], [(103, .box 27 (eFrc x_2))]⟩ rfl (Fin.result' [.agg (eFrc x_2)] (.inl rfl) rfl (.cons (.agg tyAgg27 rfl rfl rfl rfl) .nil) ⟨rfl, rfl⟩)
def ratio_Simplest_R (F : Nat) : Nat → Frc → Frc → Option Frc
 | 0, _, _ => none
 | n + 1, lo0, hi0 => (ratio_Good_S F lo0).bind fun x_1 => (gcall (!(!x_1)) (ratio_Good_S F hi0)).bind fun x_2 => (gcall (!((!x_1) || (!x_2))) (ratio_Cmp_S F lo0 hi0)).bind fun x_3 => if (((!x_1) || (!x_2)) || (decide (0 < x_3))) = true then ((ratio_Bad_S F).bind fun x_4 => some x_4) else ((ratio_Sign_S F lo0).bind fun x_5 => (gcall (decide (x_5 ≤ 0)) (ratio_Sign_S F hi0)).bind fun x_6 => if ((decide (x_5 ≤ 0)) && (decide (0 ≤ x_6))) = true then ((ratio_Of_S F 0).bind fun x_7 => some x_7) else ((ratio_Sign_S F hi0).bind fun x_8 => if (decide (x_8 < 0)) = true then ((ratio_Neg_S F hi0).bind fun x_9 => (ratio_Neg_S F lo0).bind fun x_10 => (ratio_Simplest_R F n x_9 x_10).bind fun x_11 => (ratio_Neg_S F x_11).bind fun x_12 => some x_12) else ((ratio_Ceil_S F lo0).bind fun x_13 => (ratio_Whole_S F x_13).bind fun x_14 => (ratio_Cmp_S F x_14 hi0).bind fun x_15 => if (decide (x_15 ≤ 0)) = true then (some x_14) else ((ratio_Floor_S F lo0).bind fun x_16 => (ratio_Whole_S F x_16).bind fun x_17 => (ratio_Of_S F 1).bind fun x_18 => (ratio_Of_S F 1).bind fun x_19 => (ratio_Sub_S F hi0 x_17).bind fun x_20 => (ratio_Div_S F x_19 x_20).bind fun x_21 => (ratio_Of_S F 1).bind fun x_22 => (ratio_Sub_S F lo0 x_17).bind fun x_23 => (ratio_Div_S F x_22 x_23).bind fun x_24 => (ratio_Simplest_R F n x_21 x_24).bind fun x_25 => (ratio_Div_S F x_18 x_25).bind fun x_26 => (ratio_Add_S F x_17 x_26).bind fun x_27 => some x_27))))
def ratio_Simplest_S (F : Nat) (lo0 : Frc) (hi0 : Frc) : Option Frc := ratio_Simplest_R F F lo0 hi0
theorem ratio_Simplest_specR {F : Nat} : ∀ (n : Nat) {lo0 : Frc} {hi0 : Frc} {r : Frc} (h : ratio_Simplest_R F n lo0 hi0 = some r), Meets Tryz.prog (tabs mx) 48 [] [.agg (eFrc lo0), .agg (eFrc hi0)] (Is [] (.b (.agg (eFrc r)))) := by
 intro n
 induction n with
 | zero => intro lo0 hi0 r h; simp [ratio_Simplest_R] at h
 | succ n ih =>
 intro lo0 hi0 r h
 unfold ratio_Simplest_R at h
 refine Meets.intro 69 Tryz.func48 Tryz.ntmps48 rfl (by simp) fun E => ?_
 show Tri _ E ⟨69, [], []⟩ _ ⟨[(0, .b (.agg (eFrc lo0))), (1, .b (.agg (eFrc hi0)))], []⟩ _
 refine Tri.seq (Tri.regionL ?_)
 refine Oc rfl (op_box (k := 101) rfl rfl) (Oc rfl (op_box (k := 102) rfl rfl) (Oc rfl (op_alloc (k := 103) tyZero27 rfl) ?_))
 refine OpsL.nilS ⟨[(2, Pt 101 0), (3, Pt 102 0), (4, Pt 103 0)], [(101, .box 27 (eFrc lo0)), (102, .box 27 (eFrc hi0)), (103, .box 27 zFrc)]⟩ rfl (Tri.seq (Tri.block (Tri.seq (Tri.regionL ?_))))
 refine Oc rfl (op_load_p tyAgg27 rfl rfl rfl rfl) ?_
 obtain ⟨x_1, e1, h⟩ := bnd h
 refine Oc rfl (op_call0 (ratio_Good_spec e1) goes26 rfl rfl) (Oc rfl (op_not rfl) (Oc rfl (op_move rfl) ?_))
 refine OpsL.consG (!(!x_1)) 99 [] (.plain rfl) (eq_f _) rfl rfl (fun g2 => trivial) (fun g2 => op_load_p tyAgg27 rfl rfl rfl rfl) (OpsL.keepS ⟨[(2, Pt 101 0), (3, Pt 102 0), (4, Pt 103 0), (11, B (!x_1)), (12, .opt (!(!x_1)) (.agg (eFrc hi0)))], [(101, .box 27 (eFrc lo0)), (102, .box 27 (eFrc hi0)), (103, .box 27 zFrc)]⟩ rfl ?_)
 obtain ⟨x_2, e4, h⟩ := bnd h
 refine OpsL.consG (!(!x_1)) 99 [12] (.plain rfl) (eq_f _) rfl rfl (fun g3 => ⟨g3, trivial⟩) (fun g3 => op_call0 (ratio_Good_spec (gc e4 g3)) goes26 rfl rfl) (OpsL.consG (!(!x_1)) 99 [13] (.plain rfl) (eq_f _) rfl rfl (fun g5 => ⟨g5, trivial⟩) (fun g5 => op_not rfl) (Oc rfl (op_pick_or (fun e => by rw [e]; rfl) rfl rfl rfl rfl) (Oc rfl (op_move rfl) ?_)))
 refine OpsL.consG (!((!x_1) || (!x_2))) 99 [] (.plain rfl) (eq_f _) rfl rfl (fun g6 => trivial) (fun g6 => op_load_p tyAgg27 rfl rfl rfl rfl) (OpsL.consG (!((!x_1) || (!x_2))) 99 [] (.plain rfl) (eq_f _) rfl rfl (fun g7 => trivial) (fun g7 => op_load_p tyAgg27 rfl rfl rfl rfl) (OpsL.keepS ⟨[(2, Pt 101 0), (3, Pt 102 0), (4, Pt 103 0), (16, B ((!x_1) || (!x_2))), (17, .opt (!((!x_1) || (!x_2))) (.agg (eFrc lo0))), (18, .opt (!((!x_1) || (!x_2))) (.agg (eFrc hi0)))], [(101, .box 27 (eFrc lo0)), (102, .box 27 (eFrc hi0)), (103, .box 27 zFrc)]⟩ rfl ?_))
 obtain ⟨x_3, e9, h⟩ := bnd h
 refine OpsL.consG (!((!x_1) || (!x_2))) 99 [17, 18] (.plain rfl) (eq_f _) rfl rfl (fun g8 => ⟨g8, g8, trivial⟩) (fun g8 => op_call0 (ratio_Cmp_spec (gc e9 g8)) goes39 rfl rfl) (OpsL.consG (!((!x_1) || (!x_2))) 99 [19] (.plain rfl) (eq_f _) rfl rfl (fun g10 => ⟨g10, trivial⟩) (fun g10 => op_gtr rfl rfl) (Oc rfl (op_pick_or (fun e => by rw [e]; rfl) rfl rfl rfl rfl) (Oc rfl (op_assign rfl) ?_)))
 refine OpsL.nilS ⟨[(2, Pt 101 0), (3, Pt 102 0), (4, Pt 103 0), (7, B (((!x_1) || (!x_2)) || (decide (0 < x_3))))], [(101, .box 27 (eFrc lo0)), (102, .box 27 (eFrc hi0)), (103, .box 27 zFrc)]⟩ rfl (Tri.ite h rfl (fun _ h => ?_) (fun _ h => ?_))
 ·refine Tri.seq (Tri.regionL ?_)
  obtain ⟨x_4, e11, h⟩ := bnd h
  refine Oc rfl (op_call0 (ratio_Bad_spec e11) goes27 rfl rfl) (Oc rfl (op_store_p tyAgg27 rfl rfl rfl rfl (Nat.le_of_ble_eq_true rfl) rfl) ?_)
  refine OpsL.nilS ⟨[(4, Pt 103 0)], [(103, .box 27 (eFrc x_4))]⟩ rfl (Tri.ret (Fin.block_ret (Fin.then_ret ?_)))
  obtain rfl := Option.some.inj h
  refine Fin.keepS ⟨[(4, Pt 103 0)], [(103, .box 27 (eFrc x_4))]⟩ rfl (Fin.result' [.agg (eFrc x_4)] (.inl rfl) rfl (.cons (.agg tyAgg27 rfl rfl rfl rfl) .nil) ⟨rfl, rfl⟩)
 ·refine Tri.seq (Tri.regionL ?_)
  refine Oc rfl (op_load_p tyAgg27 rfl rfl rfl rfl) ?_
  obtain ⟨x_5, e12, h⟩ := bnd h
  refine Oc rfl (op_call0 (ratio_Sign_spec e12) goes37 rfl rfl) (Oc rfl (op_leq rfl rfl) (Oc rfl (op_move rfl) ?_))
  refine OpsL.consG (decide (x_5 ≤ 0)) 99 [] (.plain rfl) (eq_t _) rfl rfl (fun g13 => trivial) (fun g13 => op_load_p tyAgg27 rfl rfl rfl rfl) (OpsL.keepS ⟨[(2, Pt 101 0), (3, Pt 102 0), (4, Pt 103 0), (27, B (decide (x_5 ≤ 0))), (28, .opt (decide (x_5 ≤ 0)) (.agg (eFrc hi0)))], [(101, .box 27 (eFrc lo0)), (102, .box 27 (eFrc hi0)), (103, .box 27 zFrc)]⟩ rfl ?_)
  obtain ⟨x_6, e15, h⟩ := bnd h
  refine OpsL.consG (decide (x_5 ≤ 0)) 99 [28] (.plain rfl) (eq_t _) rfl rfl (fun g14 => ⟨g14, trivial⟩) (fun g14 => op_call0 (ratio_Sign_spec (gc e15 g14)) goes37 rfl rfl) (OpsL.consG (decide (x_5 ≤ 0)) 99 [29] (.plain rfl) (eq_t _) rfl rfl (fun g16 => ⟨g16, trivial⟩) (fun g16 => op_geq rfl rfl) (Oc rfl (op_pick_and (fun e => e) rfl rfl rfl rfl) (Oc rfl (op_assign rfl) ?_)))
  refine OpsL.nilS ⟨[(2, Pt 101 0), (3, Pt 102 0), (4, Pt 103 0), (23, B ((decide (x_5 ≤ 0)) && (decide (0 ≤ x_6))))], [(101, .box 27 (eFrc lo0)), (102, .box 27 (eFrc hi0)), (103, .box 27 zFrc)]⟩ rfl (Tri.ite h rfl (fun _ h => ?_) (fun _ h => ?_))
  ·refine Tri.seq (Tri.regionL ?_)
   obtain ⟨x_7, e17, h⟩ := bnd h
   refine Oc rfl (op_call0 (ratio_Of_spec e17) goes20 rfl rfl) (Oc rfl (op_store_p tyAgg27 rfl rfl rfl rfl (Nat.le_of_ble_eq_true rfl) rfl) ?_)
   refine OpsL.nilS ⟨[(4, Pt 103 0)], [(103, .box 27 (eFrc x_7))]⟩ rfl (Tri.ret (Fin.block_ret (Fin.then_ret ?_)))
   obtain rfl := Option.some.inj h
   refine Fin.keepS ⟨[(4, Pt 103 0)], [(103, .box 27 (eFrc x_7))]⟩ rfl (Fin.result' [.agg (eFrc x_7)] (.inl rfl) rfl (.cons (.agg tyAgg27 rfl rfl rfl rfl) .nil) ⟨rfl, rfl⟩)
  ·refine Tri.seq (Tri.regionL ?_)
   refine Oc rfl (op_load_p tyAgg27 rfl rfl rfl rfl) ?_
   obtain ⟨x_8, e18, h⟩ := bnd h
   refine Oc rfl (op_call0 (ratio_Sign_spec e18) goes37 rfl rfl) (Oc rfl (op_lss rfl rfl) (Oc rfl (op_assign rfl) ?_))
   refine OpsL.nilS ⟨[(2, Pt 101 0), (3, Pt 102 0), (4, Pt 103 0), (33, B (decide (x_8 < 0)))], [(101, .box 27 (eFrc lo0)), (102, .box 27 (eFrc hi0)), (103, .box 27 zFrc)]⟩ rfl (Tri.ite h rfl (fun _ h => ?_) (fun _ h => ?_))
   ·refine Tri.seq (Tri.keepS ⟨[(2, Pt 101 0), (3, Pt 102 0), (4, Pt 103 0)], [(101, .box 27 (eFrc lo0)), (102, .box 27 (eFrc hi0)), (103, .box 27 zFrc)]⟩ rfl ?_)
    obtain ⟨x_9, e19, h⟩ := bnd h
    obtain ⟨x_10, e20, h⟩ := bnd h
    obtain ⟨x_11, e21, h⟩ := bnd h
    obtain ⟨x_12, e22, h⟩ := bnd h
    refine Tri.regionY mixed 6 [.b (.agg (eFrc hi0)), .b (.agg (eFrc x_9)), .b (.agg (eFrc lo0)), .b (.agg (eFrc x_10)), .b (.agg (eFrc x_11)), .b (.agg (eFrc x_12))] [4] [103] (s' := ⟨[(4, Pt 103 0)], [(103, .box 27 (eFrc x_12))]⟩) rfl ⟨fun _ => .plain rfl (op_load_p tyAgg27 rfl rfl rfl rfl), fun _ => .plain rfl (op_call0 (ratio_Neg_spec e19) goes43 rfl rfl), fun _ => .plain rfl (op_load_p tyAgg27 rfl rfl rfl rfl), fun _ => .plain rfl (op_call0 (ratio_Neg_spec e20) goes43 rfl rfl), fun _ => .plain rfl (op_call0 (ih e21) goes48 rfl rfl), fun _ => .plain rfl (op_call0 (ratio_Neg_spec e22) goes43 rfl rfl), trivial⟩ ⟨_, by exact .plain rfl (op_store_p tyAgg27 rfl rfl rfl rfl (Nat.le_of_ble_eq_true rfl) rfl), rfl⟩ rfl (Tri.ret (Fin.block_ret (Fin.then_ret ?_)))
    obtain rfl := Option.some.inj h
    refine Fin.keepS ⟨[(4, Pt 103 0)], [(103, .box 27 (eFrc x_12))]⟩ rfl (Fin.result' [.agg (eFrc x_12)] (.inl rfl) rfl (.cons (.agg tyAgg27 rfl rfl rfl rfl) .nil) ⟨rfl, rfl⟩)
   ·refine Tri.skip (Fin.block_normal (Fin.keepS ⟨[(2, Pt 101 0), (3, Pt 102 0), (4, Pt 103 0)], [(101, .box 27 (eFrc lo0)), (102, .box 27 (eFrc hi0)), (103, .box 27 zFrc)]⟩ rfl (Fin.then (Tri.seq (Tri.seq (Tri.regionL ?_))))))
    refine Oc rfl (op_load_p tyAgg27 rfl rfl rfl rfl) ?_
    obtain ⟨x_13, e23, h⟩ := bnd h
    refine Oc rfl (op_call0 (ratio_Ceil_spec e23) goes33 rfl rfl) ?_
    obtain ⟨x_14, e24, h⟩ := bnd h
    refine Oc rfl (op_call0 (ratio_Whole_spec e24) goes18 rfl rfl) (Oc rfl (op_alloc (k := 104) tyZero27 rfl) (Oc rfl (op_store_p tyAgg27 rfl rfl rfl rfl (Nat.le_of_ble_eq_true rfl) rfl) ?_))
    refine OpsL.nilS ⟨[(2, Pt 101 0), (3, Pt 102 0), (4, Pt 103 0), (5, Pt 104 0)], [(101, .box 27 (eFrc lo0)), (102, .box 27 (eFrc hi0)), (103, .box 27 zFrc), (104, .box 27 (eFrc x_14))]⟩ rfl (Tri.seq (Tri.regionL ?_))
    refine Oc rfl (op_load_p tyAgg27 rfl rfl rfl rfl) (Oc rfl (op_load_p tyAgg27 rfl rfl rfl rfl) ?_)
    obtain ⟨x_15, e25, h⟩ := bnd h
    refine Oc rfl (op_call0 (ratio_Cmp_spec e25) goes39 rfl rfl) (Oc rfl (op_leq rfl rfl) ?_)
    refine OpsL.nilS ⟨[(2, Pt 101 0), (3, Pt 102 0), (4, Pt 103 0), (5, Pt 104 0), (49, B (decide (x_15 ≤ 0)))], [(101, .box 27 (eFrc lo0)), (102, .box 27 (eFrc hi0)), (103, .box 27 zFrc), (104, .box 27 (eFrc x_14))]⟩ rfl (Tri.ite h rfl (fun _ h => ?_) (fun _ h => ?_))
    ·refine Tri.seq (Tri.regionL ?_)
     refine Oc rfl (op_load_p tyAgg27 rfl rfl rfl rfl) (Oc rfl (op_store_p tyAgg27 rfl rfl rfl rfl (Nat.le_of_ble_eq_true rfl) rfl) ?_)
     refine OpsL.nilS ⟨[(4, Pt 103 0)], [(103, .box 27 (eFrc x_14))]⟩ rfl (Tri.ret (Fin.then_ret ?_))
     obtain rfl := Option.some.inj h
     refine Fin.keepS ⟨[(4, Pt 103 0)], [(103, .box 27 (eFrc x_14))]⟩ rfl (Fin.result' [.agg (eFrc x_14)] (.inl rfl) rfl (.cons (.agg tyAgg27 rfl rfl rfl rfl) .nil) ⟨rfl, rfl⟩)
    ·refine Tri.skip (Fin.keepS ⟨[(2, Pt 101 0), (3, Pt 102 0), (4, Pt 103 0)], [(101, .box 27 (eFrc lo0)), (102, .box 27 (eFrc hi0)), (103, .box 27 zFrc)]⟩ rfl (Fin.then (Tri.seq (Tri.regionL ?_))))
     refine Oc rfl (op_load_p tyAgg27 rfl rfl rfl rfl) ?_
     obtain ⟨x_16, e26, h⟩ := bnd h
     refine Oc rfl (op_call0 (ratio_Floor_spec e26) goes31 rfl rfl) ?_
     obtain ⟨x_17, e27, h⟩ := bnd h
     refine Oc rfl (op_call0 (ratio_Whole_spec e27) goes18 rfl rfl) (Oc rfl (op_alloc (k := 105) tyZero27 rfl) (Oc rfl (op_store_p tyAgg27 rfl rfl rfl rfl (Nat.le_of_ble_eq_true rfl) rfl) ?_))
     refine OpsL.nilS ⟨[(2, Pt 101 0), (3, Pt 102 0), (4, Pt 103 0), (6, Pt 105 0)], [(101, .box 27 (eFrc lo0)), (102, .box 27 (eFrc hi0)), (103, .box 27 zFrc), (105, .box 27 (eFrc x_17))]⟩ rfl (Tri.seq ?_)
     obtain ⟨x_18, e28, h⟩ := bnd h
     obtain ⟨x_19, e29, h⟩ := bnd h
     obtain ⟨x_20, e30, h⟩ := bnd h
     obtain ⟨x_21, e31, h⟩ := bnd h
     obtain ⟨x_22, e32, h⟩ := bnd h
     obtain ⟨x_23, e33, h⟩ := bnd h
     obtain ⟨x_24, e34, h⟩ := bnd h
     obtain ⟨x_25, e35, h⟩ := bnd h
     obtain ⟨x_26, e36, h⟩ := bnd h
     obtain ⟨x_27, e37, h⟩ := bnd h
     refine Tri.regionY mixed 15 [.b (.agg (eFrc x_17)), .b (.agg (eFrc x_18)), .b (.agg (eFrc x_19)), .b (.agg (eFrc hi0)), .b (.agg (eFrc x_17)), .b (.agg (eFrc x_20)), .b (.agg (eFrc x_21)), .b (.agg (eFrc x_22)), .b (.agg (eFrc lo0)), .b (.agg (eFrc x_17)), .b (.agg (eFrc x_23)), .b (.agg (eFrc x_24)), .b (.agg (eFrc x_25)), .b (.agg (eFrc x_26)), .b (.agg (eFrc x_27))] [4] [103] (s' := ⟨[(4, Pt 103 0)], [(103, .box 27 (eFrc x_27))]⟩) rfl ⟨fun _ => .plain rfl (op_load_p tyAgg27 rfl rfl rfl rfl), fun _ => .plain rfl (op_call0 (ratio_Of_spec e28) goes20 rfl rfl), fun _ => .plain rfl (op_call0 (ratio_Of_spec e29) goes20 rfl rfl), fun _ => .plain rfl (op_load_p tyAgg27 rfl rfl rfl rfl), fun _ => .plain rfl (op_load_p tyAgg27 rfl rfl rfl rfl), fun _ => .plain rfl (op_call0 (ratio_Sub_spec e30) goes41 rfl rfl), fun _ => .plain rfl (op_call0 (ratio_Div_spec e31) goes46 rfl rfl), fun _ => .plain rfl (op_call0 (ratio_Of_spec e32) goes20 rfl rfl), fun _ => .plain rfl (op_load_p tyAgg27 rfl rfl rfl rfl), fun _ => .plain rfl (op_load_p tyAgg27 rfl rfl rfl rfl), fun _ => .plain rfl (op_call0 (ratio_Sub_spec e33) goes41 rfl rfl), fun _ => .plain rfl (op_call0 (ratio_Div_spec e34) goes46 rfl rfl), fun _ => .plain rfl (op_call0 (ih e35) goes48 rfl rfl), fun _ => .plain rfl (op_call0 (ratio_Div_spec e36) goes46 rfl rfl), fun _ => .plain rfl (op_call0 (ratio_Add_spec e37) goes42 rfl rfl), trivial⟩ ⟨_, by exact .plain rfl (op_store_p tyAgg27 rfl rfl rfl rfl (Nat.le_of_ble_eq_true rfl) rfl), rfl⟩ rfl (Tri.ret ?_)
     obtain rfl := Option.some.inj h
     refine Fin.keepS ⟨[(4, Pt 103 0)], [(103, .box 27 (eFrc x_27))]⟩ rfl (Fin.result' [.agg (eFrc x_27)] (.inl rfl) rfl (.cons (.agg tyAgg27 rfl rfl rfl rfl) .nil) ⟨rfl, rfl⟩)
theorem ratio_Simplest_spec {F : Nat} {lo0 : Frc} {hi0 : Frc} {r : Frc} (h : ratio_Simplest_S F lo0 hi0 = some r) : Meets Tryz.prog (tabs mx) 48 [] [.agg (eFrc lo0), .agg (eFrc hi0)] (Is [] (.b (.agg (eFrc r)))) := ratio_Simplest_specR F h
def whole_Parse_S (F : Nat) (s0 : Str) : Option (Big × Int) :=
 Option.bind ((gcall (decide (0 < (s0.length : Int))) (idx? s0 0)).bind fun x_2 => letN ((decide (0 < (s0.length : Int))) && (decide ((x_2.toNat : Int) = 45))) fun x_3 => if x_3 = true then ((drop? s0 1).bind fun x_4 => some x_4) else (some s0)) (fun digits_1 => (gcall (!(decide (digits_1 = []))) (idx? digits_1 0)).bind fun x_5 => letN ((decide (digits_1 = [])) || ((decide ((x_5.toNat : Int) = 48)) && (decide (s0 ≠ [48])))) fun x_6 => if x_6 = true then ((whole_Bad_S F).bind fun x_7 => some (x_7, 281)) else (Option.bind (iter F (fun x_8 => if (decide (x_8 < ((ofStr digits_1).length : Int))) = true then ((idx? (ofStr digits_1) x_8).bind fun x_9 => if ((decide (x_9 < 48)) || (decide (57 < x_9))) = true then ((whole_Bad_S F).bind fun x_10 => some (.inr (.inr (x_10, 281)))) else (some (.inl (IntKind.i64.wrap (x_8 + 1))))) else (some (.inr (.inl ())))) 0) (alt2 (fun _ => if (decide (512 < (digits_1.length : Int))) = true then ((whole_Bad_S F).bind fun x_11 => some (x_11, 30)) else ((whole_Of_S F 0).bind fun x_12 => (whole_Of_S F 10).bind fun x_13 => Option.bind (iter F (un2 fun x_15 x_16 => if (decide (x_16 < ((ofStr digits_1).length : Int))) = true then ((idx? (ofStr digits_1) x_16).bind fun x_18 => (whole_Mul_S F x_15 x_13).bind fun x_19 => letN (IntKind.i64.wrap (IntKind.u8.wrap (x_18 - 48))) fun x_20 => (whole_Of_S F x_20).bind fun x_21 => (whole_Add_S F x_19 x_21).bind fun x_22 => some (.inl (x_22, IntKind.i64.wrap (x_16 + 1)))) else (some (.inr x_15))) (x_12, 0)) (fun x_14 => if x_14.Bad = true then (some (x_14, 30)) else ((whole_signed_S F (decide (digits_1 ≠ s0)) x_14.W).bind fun x_23 => some (x_23, 0))))) (fun y => some y))))
theorem whole_Parse_spec {F : Nat} {s0 : Str} {r : Big × Int} (h : whole_Parse_S F s0 = some r) : Meets Tryz.prog (tabs mx) 106 [] [.one (.str s0)] (Is [] (.tup [.agg (eBig r.1), .one (.i r.2)])) := by
 unfold whole_Parse_S at h
 refine Meets.intro 80 Tryz.func106 Tryz.ntmps106 rfl (by simp) fun E => ?_
 show Tri _ E ⟨80, [], []⟩ _ ⟨[(0, .b (.one (.str s0)))], []⟩ _
 refine Tri.seq (Tri.regionL ?_)
 refine Oc rfl (op_alloc (k := 101) tyZero25 rfl) (Oc rfl (op_assign rfl) ?_)
 refine OpsL.nilS ⟨[(0, .b (.one (.str s0))), (2, Pt 101 0)], [(101, .box 25 zBig)]⟩ rfl (Tri.seq (Tri.regionL ?_))
 refine Oc rfl (op_move rfl) (Oc rfl (op_assign rfl) ?_)
 refine OpsL.nilS ⟨[(0, .b (.one (.str s0))), (2, Pt 101 0), (4, .b (.one (.str s0)))], [(101, .box 25 zBig)]⟩ rfl ?_
 obtain ⟨v1, h2, h⟩ := bnd h
 refine Tri.seqJ (v := v1) (fun (digits_1 : Str) => ⟨[(0, .b (.one (.str s0))), (2, Pt 101 0), (4, .b (.one (.str digits_1)))], [(101, .box 25 zBig)]⟩) (fun z => z) ?_ ?_
 ·refine Tri.seq (Tri.regionL ?_)
  refine Oc rfl (op_move rfl) (Oc rfl (op_len_str und9 rfl) (Oc rfl (op_gtr rfl rfl) (Oc rfl (op_move rfl) ?_)))
  refine OpsL.consG (decide (0 < (s0.length : Int))) 99 [] (.plain rfl) (eq_t _) rfl rfl (fun g3 => trivial) (fun g3 => op_move rfl) ?_
  obtain ⟨x_2, e5, h2⟩ := bnd h2
  refine OpsL.consG (decide (0 < (s0.length : Int))) 99 [16] (.plain rfl) (eq_t _) rfl rfl (fun g4 => ⟨g4, trivial⟩) (fun g4 => op_index_str und9 rfl rfl (ix_lo (gc e5 g4)) (ix_get (gc e5 g4))) (OpsL.consG (decide (0 < (s0.length : Int))) 99 [17] (.plain rfl) (eq_t _) rfl rfl (fun g6 => ⟨g6, trivial⟩) (fun g6 => op_eql rfl rfl) (OpsL.consB h2 rfl (op_pick_and (fun e => e) rfl rfl rfl rfl) (fun x_3 h2 => ?_)))
  refine OpsL.nilS ⟨[(0, .b (.one (.str s0))), (2, Pt 101 0), (4, .b (.one (.str s0))), (19, B x_3)], [(101, .box 25 zBig)]⟩ rfl (Tri.ite h2 rfl (fun _ h2 => ?_) (fun _ h2 => ?_))
  ·refine Tri.regionL (Oc rfl (op_move rfl) ?_)
   obtain ⟨x_4, e7, h2⟩ := bnd h2
   refine Oc rfl (op_slice_str_l und9 e7 rfl rfl) (Oc rfl (op_assign rfl) ?_)
   refine OpsL.nil ?_
   exact Fin.join [0, 2, 4] [101] x_4 (Option.some.inj h2) rfl
  ·refine Tri.skip ?_
   exact Fin.join [0, 2, 4] [101] s0 (Option.some.inj h2) rfl
 ·rintro digits_1 hv
  subst v1
  refine Tri.seq (Tri.seq (Tri.regionL ?_))
  refine Oc rfl (op_move rfl) (Oc rfl (op_eql_str rfl rfl) (Oc rfl (op_move rfl) ?_))
  refine OpsL.consG (!(decide (digits_1 = []))) 99 [] (.plain rfl) (eq_f _) rfl rfl (fun g8 => trivial) (fun g8 => op_move rfl) ?_
  obtain ⟨x_5, e10, h⟩ := bnd h
  refine OpsL.consG (!(decide (digits_1 = []))) 99 [25] (.plain rfl) (eq_f _) rfl rfl (fun g9 => ⟨g9, trivial⟩) (fun g9 => op_index_str und9 rfl rfl (ix_lo (gc e10 g9)) (ix_get (gc e10 g9))) (OpsL.consG (!(decide (digits_1 = []))) 99 [26] (.plain rfl) (eq_f _) rfl rfl (fun g11 => ⟨g11, trivial⟩) (fun g11 => op_eql rfl rfl) (OpsL.consG (!(decide (digits_1 = []))) 99 [27] (.plain rfl) (eq_f _) rfl rfl (fun g12 => ⟨g12, trivial⟩) (fun g12 => op_move rfl) (OpsL.keepS ⟨[(0, .b (.one (.str s0))), (2, Pt 101 0), (4, .b (.one (.str digits_1))), (24, B (decide (digits_1 = []))), (28, .opt (!(decide (digits_1 = []))) (.one (.bool (decide ((x_5.toNat : Int) = 48)))))], [(101, .box 25 zBig)]⟩ rfl (OpsL.consG ((!(decide (digits_1 = []))) && (decide ((x_5.toNat : Int) = 48))) 99 [] (.under rfl) (and_t _ _) rfl rfl (fun g13 => trivial) (fun g13 => op_move rfl) (OpsL.consG ((!(decide (digits_1 = []))) && (decide ((x_5.toNat : Int) = 48))) 99 [29] (.under rfl) (and_t _ _) rfl rfl (fun g14 => ⟨g14, trivial⟩) (fun g14 => op_neq_str rfl rfl) ?_)))))
  refine OpsL.consG (!(decide (digits_1 = []))) 99 [28] (.plain rfl) (eq_f _) rfl rfl (fun g15 => ⟨g15, trivial⟩) (fun g15 => op_pick_and (fun e => by rw [g15, e]; rfl) rfl rfl rfl rfl) (OpsL.consB h rfl (op_pick_or (fun e => by rw [e]; rfl) rfl rfl rfl rfl) (fun x_6 h => ?_))
  refine OpsL.nilS ⟨[(0, .b (.one (.str s0))), (2, Pt 101 0), (4, .b (.one (.str digits_1))), (32, B x_6)], [(101, .box 25 zBig)]⟩ rfl (Tri.ite h rfl (fun _ h => ?_) (fun _ h => ?_))
  ·refine Tri.seq (Tri.regionL ?_)
   obtain ⟨x_7, e16, h⟩ := bnd h
   refine Oc rfl (op_call0 (whole_Bad_spec e16) goes92 rfl rfl) (Oc rfl (op_store_p tyAgg25 rfl rfl rfl rfl (Nat.le_of_ble_eq_true rfl) rfl) (Oc rfl (op_assign rfl) ?_))
   refine OpsL.nilS ⟨[(2, Pt 101 0), (3, I 281)], [(101, .box 25 (eBig x_7))]⟩ rfl (Tri.ret (Fin.then_ret ?_))
   obtain rfl := Option.some.inj h
   refine Fin.keepS ⟨[(2, Pt 101 0), (3, I 281)], [(101, .box 25 (eBig x_7))]⟩ rfl (Fin.result' [.agg (eBig x_7), .one (.i 281)] (.inl rfl) rfl (.cons (.agg tyAgg25 rfl rfl rfl rfl) (.cons (.tmp rfl) .nil)) ⟨rfl, rfl⟩)
  ·refine Tri.skip (Fin.keepS ⟨[(0, .b (.one (.str s0))), (2, Pt 101 0), (4, .b (.one (.str digits_1)))], [(101, .box 25 zBig)]⟩ rfl (Fin.then ?_))
   obtain ⟨v17, h18, h⟩ := bnd h
   refine Tri.seqJ (v := v17) (fun (_ : Unit) => ⟨[(0, .b (.one (.str s0))), (2, Pt 101 0), (4, .b (.one (.str digits_1)))], [(101, .box 25 zBig)]⟩) (fun z => .inl z) ?_ ?_
   ·refine Tri.seq (Tri.regionL ?_)
    refine Oc rfl (op_move rfl) (Oc rfl (op_conv_str und9 und110 undi5 rfl) (Oc rfl (op_len_e' und110 rfl (List.length_map _)) (Oc rfl (op_move rfl) ?_)))
    refine OpsL.nilS ⟨[(0, .b (.one (.str s0))), (2, Pt 101 0), (4, .b (.one (.str digits_1))), (35, .b (.one (.sl 1 ((ofStr digits_1).map (eK .u8))))), (36, I ((ofStr digits_1).length : Int)), (37, I 0)], [(101, .box 25 zBig)]⟩ rfl (Tri.block (Tri.loopJ h18 (fun (x_8 : Int) => ⟨[(0, .b (.one (.str s0))), (2, Pt 101 0), (4, .b (.one (.str digits_1))), (35, .b (.one (.sl 1 ((ofStr digits_1).map (eK .u8))))), (36, I ((ofStr digits_1).length : Int)), (37, I x_8)], [(101, .box 25 zBig)]⟩) [0, 2, 4, 35, 36, 37] [101] rfl ?_))
    rintro x_8 o19 h20 hy21
    refine Tri.seq (Tri.regionL ?_)
    refine Oc rfl (op_lss rfl rfl) (OpsL.nilS ⟨[(0, .b (.one (.str s0))), (2, Pt 101 0), (4, .b (.one (.str digits_1))), (35, .b (.one (.sl 1 ((ofStr digits_1).map (eK .u8))))), (36, I ((ofStr digits_1).length : Int)), (37, I x_8), (38, B (decide (x_8 < ((ofStr digits_1).length : Int))))], [(101, .box 25 zBig)]⟩ rfl (Tri.seq (Tri.ite h20 rfl (fun _ h20 => ?_) (fun _ h20 => ?_))))
    ·refine Tri.skip (Fin.keepS ⟨[(0, .b (.one (.str s0))), (2, Pt 101 0), (4, .b (.one (.str digits_1))), (35, .b (.one (.sl 1 ((ofStr digits_1).map (eK .u8))))), (36, I ((ofStr digits_1).length : Int)), (37, I x_8)], [(101, .box 25 zBig)]⟩ rfl (Fin.then (Tri.seq (Tri.block (Tri.seq (Tri.regionL ?_))))))
     obtain ⟨x_9, e22, h20⟩ := bnd h20
     refine Oc rfl (op_index_e tySl110 (ix_lo e22) (ix_map (e := (eK .u8)) e22) rfl rfl) (Oc rfl (op_load_e1 tyOne5 rfl rfl) (Oc rfl (op_assign rfl) ?_))
     refine OpsL.nilS ⟨[(0, .b (.one (.str s0))), (2, Pt 101 0), (4, .b (.one (.str digits_1))), (6, .b (.one (.int .u8 x_9))), (35, .b (.one (.sl 1 ((ofStr digits_1).map (eK .u8))))), (36, I ((ofStr digits_1).length : Int)), (37, I x_8)], [(101, .box 25 zBig)]⟩ rfl (Tri.seq (Tri.regionL ?_))
     refine Oc rfl (op_move rfl) (Oc rfl (op_lss rfl rfl) (Oc rfl (op_move rfl) ?_))
     refine OpsL.consG (!(decide (x_9 < 48))) 99 [] (.plain rfl) (eq_f _) rfl rfl (fun g23 => trivial) (fun g23 => op_move rfl) (OpsL.consG (!(decide (x_9 < 48))) 99 [44] (.plain rfl) (eq_f _) rfl rfl (fun g24 => ⟨g24, trivial⟩) (fun g24 => op_gtr rfl rfl) (Oc rfl (op_pick_or (fun e => by rw [e]; rfl) rfl rfl rfl rfl) (OpsL.nilS ⟨[(0, .b (.one (.str s0))), (2, Pt 101 0), (4, .b (.one (.str digits_1))), (35, .b (.one (.sl 1 ((ofStr digits_1).map (eK .u8))))), (36, I ((ofStr digits_1).length : Int)), (37, I x_8), (46, B ((decide (x_9 < 48)) || (decide (57 < x_9))))], [(101, .box 25 zBig)]⟩ rfl (Tri.ite h20 rfl (fun _ h20 => ?_) (fun _ h20 => ?_)))))
     ·refine Tri.seq (Tri.regionL ?_)
      obtain ⟨x_10, e25, h20⟩ := bnd h20
      refine Oc rfl (op_call0 (whole_Bad_spec e25) goes92 rfl rfl) (Oc rfl (op_store_p tyAgg25 rfl rfl rfl rfl (Nat.le_of_ble_eq_true rfl) rfl) (Oc rfl (op_assign rfl) ?_))
      refine OpsL.nilS ⟨[(2, Pt 101 0), (3, I 281)], [(101, .box 25 (eBig x_10))]⟩ rfl (Tri.ret (Fin.block_ret (Fin.then_ret ?_)))
      obtain rfl := hy21 _ (Option.some.inj h20).symm
      refine Fin.then_ret (Fin.block_ret (Fin.then_ret ?_))
      obtain rfl := Option.some.inj h
      refine Fin.keepS ⟨[(2, Pt 101 0), (3, I 281)], [(101, .box 25 (eBig x_10))]⟩ rfl (Fin.result' [.agg (eBig x_10), .one (.i 281)] (.inl rfl) rfl (.cons (.agg tyAgg25 rfl rfl rfl rfl) (.cons (.tmp rfl) .nil)) ⟨rfl, rfl⟩)
     ·refine Tri.skip (Fin.block_normal (Fin.keepS ⟨[(0, .b (.one (.str s0))), (2, Pt 101 0), (4, .b (.one (.str digits_1))), (35, .b (.one (.sl 1 ((ofStr digits_1).map (eK .u8))))), (36, I ((ofStr digits_1).length : Int)), (37, I x_8)], [(101, .box 25 zBig)]⟩ rfl (Fin.then (Tri.regionL ?_))))
      refine Oc rfl (op_add rfl rfl) (Oc rfl (op_move rfl) ?_)
      refine OpsL.nil ?_
      exact Fin.againJ [0, 2, 4, 35, 36, 37] [101] (IntKind.i64.wrap (x_8 + 1)) (Option.some.inj h20) rfl
    ·refine Tri.exit (Fin.then_exit ?_)
     obtain rfl := hy21 _ (Option.some.inj h20).symm
     refine Fin.then_exit (Fin.block_exit ?_)
     exact Fin.join [0, 2, 4] [101] () rfl rfl
   ·rintro _ hv
    subst v17
    refine Tri.seq (Tri.seq (Tri.regionL ?_))
    refine Oc rfl (op_move rfl) (Oc rfl (op_len_str und9 rfl) (Oc rfl (op_gtr rfl rfl) ?_))
    refine OpsL.nilS ⟨[(0, .b (.one (.str s0))), (2, Pt 101 0), (4, .b (.one (.str digits_1))), (51, B (decide (512 < (digits_1.length : Int))))], [(101, .box 25 zBig)]⟩ rfl (Tri.ite h rfl (fun _ h => ?_) (fun _ h => ?_))
    ·refine Tri.seq (Tri.regionL ?_)
     obtain ⟨x_11, e26, h⟩ := bnd h
     refine Oc rfl (op_call0 (whole_Bad_spec e26) goes92 rfl rfl) (Oc rfl (op_store_p tyAgg25 rfl rfl rfl rfl (Nat.le_of_ble_eq_true rfl) rfl) (Oc rfl (op_assign rfl) ?_))
     refine OpsL.nilS ⟨[(2, Pt 101 0), (3, I 30)], [(101, .box 25 (eBig x_11))]⟩ rfl (Tri.ret (Fin.then_ret ?_))
     obtain rfl := Option.some.inj h
     refine Fin.keepS ⟨[(2, Pt 101 0), (3, I 30)], [(101, .box 25 (eBig x_11))]⟩ rfl (Fin.result' [.agg (eBig x_11), .one (.i 30)] (.inl rfl) rfl (.cons (.agg tyAgg25 rfl rfl rfl rfl) (.cons (.tmp rfl) .nil)) ⟨rfl, rfl⟩)
    ·refine Tri.skip (Fin.keepS ⟨[(0, .b (.one (.str s0))), (2, Pt 101 0), (4, .b (.one (.str digits_1)))], [(101, .box 25 zBig)]⟩ rfl (Fin.then (Tri.seq (Tri.regionL ?_))))
     obtain ⟨x_12, e27, h⟩ := bnd h
     refine Oc rfl (op_call0 (whole_Of_spec e27) goes91 rfl rfl) ?_
     obtain ⟨x_13, e28, h⟩ := bnd h
     refine Oc rfl (op_call0 (whole_Of_spec e28) goes91 rfl rfl) (OpsL.keepS ⟨[(0, .b (.one (.str s0))), (2, Pt 101 0), (4, .b (.one (.str digits_1))), (53, .b (.agg (eBig x_12))), (54, .b (.agg (eBig x_13)))], [(101, .box 25 zBig)]⟩ rfl (Oc rfl (op_alloc (k := 102) tyZero25 rfl) (Oc rfl (op_alloc (k := 103) tyZero25 rfl) (Oc rfl (op_store_p tyAgg25 rfl rfl rfl rfl (Nat.le_of_ble_eq_true rfl) rfl) (Oc rfl (op_store_p tyAgg25 rfl rfl rfl rfl (Nat.le_of_ble_eq_true rfl) rfl) ?_)))))
     refine OpsL.nilS ⟨[(0, .b (.one (.str s0))), (2, Pt 101 0), (4, .b (.one (.str digits_1))), (7, Pt 102 0), (8, Pt 103 0)], [(101, .box 25 zBig), (102, .box 25 (eBig x_12)), (103, .box 25 (eBig x_13))]⟩ rfl ?_
     obtain ⟨v29, h30, h⟩ := bnd h
     refine Tri.seqJ (v := v29) (fun (x_14 : Big) => ⟨[(0, .b (.one (.str s0))), (2, Pt 101 0), (4, .b (.one (.str digits_1))), (7, Pt 102 0)], [(101, .box 25 zBig), (102, .box 25 (eBig x_14))]⟩) (fun z => z) ?_ ?_
     ·refine Tri.seq (Tri.regionL ?_)
      refine Oc rfl (op_move rfl) (Oc rfl (op_conv_str und9 und110 undi5 rfl) (Oc rfl (op_len_e' und110 rfl (List.length_map _)) (Oc rfl (op_move rfl) ?_)))
      refine OpsL.nilS ⟨[(0, .b (.one (.str s0))), (2, Pt 101 0), (4, .b (.one (.str digits_1))), (7, Pt 102 0), (8, Pt 103 0), (56, .b (.one (.sl 1 ((ofStr digits_1).map (eK .u8))))), (57, I ((ofStr digits_1).length : Int)), (58, I 0)], [(101, .box 25 zBig), (102, .box 25 (eBig x_12)), (103, .box 25 (eBig x_13))]⟩ rfl (Tri.block (Tri.loopJ h30 (un2 fun (x_15 : Big) (x_16 : Int) => ⟨[(0, .b (.one (.str s0))), (2, Pt 101 0), (4, .b (.one (.str digits_1))), (7, Pt 102 0), (8, Pt 103 0), (56, .b (.one (.sl 1 ((ofStr digits_1).map (eK .u8))))), (57, I ((ofStr digits_1).length : Int)), (58, I x_16)], [(101, .box 25 zBig), (102, .box 25 (eBig x_15)), (103, .box 25 (eBig x_13))]⟩) [0, 2, 4, 7, 8, 56, 57, 58] [101, 102, 103] rfl ?_))
      rintro ⟨x_15, x_16⟩ o31 h32 hy33
      refine Tri.seq (Tri.regionL ?_)
      refine Oc rfl (op_lss rfl rfl) (OpsL.nilS ⟨[(0, .b (.one (.str s0))), (2, Pt 101 0), (4, .b (.one (.str digits_1))), (7, Pt 102 0), (8, Pt 103 0), (56, .b (.one (.sl 1 ((ofStr digits_1).map (eK .u8))))), (57, I ((ofStr digits_1).length : Int)), (58, I x_16), (59, B (decide (x_16 < ((ofStr digits_1).length : Int))))], [(101, .box 25 zBig), (102, .box 25 (eBig x_15)), (103, .box 25 (eBig x_13))]⟩ rfl (Tri.seq (Tri.ite h32 rfl (fun _ h32 => ?_) (fun _ h32 => ?_))))
      ·refine Tri.skip (Fin.keepS ⟨[(0, .b (.one (.str s0))), (2, Pt 101 0), (4, .b (.one (.str digits_1))), (7, Pt 102 0), (8, Pt 103 0), (56, .b (.one (.sl 1 ((ofStr digits_1).map (eK .u8))))), (57, I ((ofStr digits_1).length : Int)), (58, I x_16)], [(101, .box 25 zBig), (102, .box 25 (eBig x_15)), (103, .box 25 (eBig x_13))]⟩ rfl (Fin.then (Tri.seq (Tri.block (Tri.seq (Tri.regionL ?_))))))
       obtain ⟨x_18, e34, h32⟩ := bnd h32
       refine Oc rfl (op_index_e tySl110 (ix_lo e34) (ix_map (e := (eK .u8)) e34) rfl rfl) (Oc rfl (op_load_e1 tyOne5 rfl rfl) (Oc rfl (op_assign rfl) ?_))
       refine OpsL.nilS ⟨[(0, .b (.one (.str s0))), (2, Pt 101 0), (4, .b (.one (.str digits_1))), (7, Pt 102 0), (8, Pt 103 0), (10, .b (.one (.int .u8 x_18))), (56, .b (.one (.sl 1 ((ofStr digits_1).map (eK .u8))))), (57, I ((ofStr digits_1).length : Int)), (58, I x_16)], [(101, .box 25 zBig), (102, .box 25 (eBig x_15)), (103, .box 25 (eBig x_13))]⟩ rfl (Tri.regionL (Oc rfl (op_load_p tyAgg25 rfl rfl rfl rfl) (Oc rfl (op_load_p tyAgg25 rfl rfl rfl rfl) ?_)))
       obtain ⟨x_19, e35, h32⟩ := bnd h32
       refine Oc rfl (op_call0 (whole_Mul_spec e35) goes102 rfl rfl) (Oc rfl (op_move rfl) (Oc rfl (op_sub rfl rfl) ?_))
       refine OpsL.keepS ⟨[(0, .b (.one (.str s0))), (2, Pt 101 0), (4, .b (.one (.str digits_1))), (7, Pt 102 0), (8, Pt 103 0), (56, .b (.one (.sl 1 ((ofStr digits_1).map (eK .u8))))), (57, I ((ofStr digits_1).length : Int)), (58, I x_16), (64, .b (.agg (eBig x_19))), (66, .b (.one (.int .u8 (IntKind.u8.wrap (x_18 - 48)))))], [(101, .box 25 zBig), (102, .box 25 (eBig x_15)), (103, .box 25 (eBig x_13))]⟩ rfl (OpsL.consI .i64 h32 rfl (op_conv_wrap undi5 undi3 rfl) (fun x_20 h32 => ?_))
       obtain ⟨x_21, e36, h32⟩ := bnd h32
       refine Oc rfl (op_call0 (whole_Of_spec e36) goes91 rfl rfl) ?_
       obtain ⟨x_22, e37, h32⟩ := bnd h32
       refine Oc rfl (op_call0 (whole_Add_spec e37) goes97 rfl rfl) (Oc rfl (op_store_p tyAgg25 rfl rfl rfl rfl (Nat.le_of_ble_eq_true rfl) rfl) ?_)
       refine OpsL.nil (Fin.block_normal (Fin.keepS ⟨[(0, .b (.one (.str s0))), (2, Pt 101 0), (4, .b (.one (.str digits_1))), (7, Pt 102 0), (8, Pt 103 0), (56, .b (.one (.sl 1 ((ofStr digits_1).map (eK .u8))))), (57, I ((ofStr digits_1).length : Int)), (58, I x_16)], [(101, .box 25 zBig), (102, .box 25 (eBig x_22)), (103, .box 25 (eBig x_13))]⟩ rfl (Fin.then (Tri.regionL ?_))))
       refine Oc rfl (op_add rfl rfl) (Oc rfl (op_move rfl) ?_)
       refine OpsL.nil ?_
       exact Fin.againJ [0, 2, 4, 7, 8, 56, 57, 58] [101, 102, 103] (x_22, IntKind.i64.wrap (x_16 + 1)) (Option.some.inj h32) rfl
      ·refine Tri.exit (Fin.then_exit ?_)
       obtain rfl := hy33 _ (Option.some.inj h32).symm
       refine Fin.then_exit (Fin.block_exit ?_)
       exact Fin.join [0, 2, 4, 7] [101, 102] x_15 rfl rfl
     ·rintro x_14 hv
      subst v29
      refine Tri.seq (Tri.seq (Tri.regionL ?_))
      refine Oc rfl (op_field_p tyFld25_0 rfl rfl) (Oc rfl (op_load_p1 tyOne4 rfl rfl rfl) ?_)
      refine OpsL.nilS ⟨[(0, .b (.one (.str s0))), (2, Pt 101 0), (4, .b (.one (.str digits_1))), (7, Pt 102 0), (72, B x_14.Bad)], [(101, .box 25 zBig), (102, .box 25 (eBig x_14))]⟩ rfl (Tri.ite h rfl (fun _ h => ?_) (fun _ h => ?_))
      ·refine Tri.seq (Tri.regionL ?_)
       refine Oc rfl (op_load_p tyAgg25 rfl rfl rfl rfl) (Oc rfl (op_store_p tyAgg25 rfl rfl rfl rfl (Nat.le_of_ble_eq_true rfl) rfl) (Oc rfl (op_assign rfl) ?_))
       refine OpsL.nilS ⟨[(2, Pt 101 0), (3, I 30)], [(101, .box 25 (eBig x_14))]⟩ rfl (Tri.ret (Fin.then_ret ?_))
       obtain rfl := Option.some.inj h
       refine Fin.keepS ⟨[(2, Pt 101 0), (3, I 30)], [(101, .box 25 (eBig x_14))]⟩ rfl (Fin.result' [.agg (eBig x_14), .one (.i 30)] (.inl rfl) rfl (.cons (.agg tyAgg25 rfl rfl rfl rfl) (.cons (.tmp rfl) .nil)) ⟨rfl, rfl⟩)
      ·refine Tri.skip (Fin.keepS ⟨[(0, .b (.one (.str s0))), (2, Pt 101 0), (4, .b (.one (.str digits_1))), (7, Pt 102 0)], [(101, .box 25 zBig), (102, .box 25 (eBig x_14))]⟩ rfl (Fin.then (Tri.seq (Tri.regionL ?_))))
       refine Oc rfl (op_move rfl) (Oc rfl (op_move rfl) (Oc rfl (op_neq_str rfl rfl) (Oc rfl (op_field_p tyFld25_2 rfl rfl) (Oc rfl (op_load_p tyAgg23 rfl rfl rfl rfl) ?_))))
       refine OpsL.keepS ⟨[(2, Pt 101 0), (76, B (decide (digits_1 ≠ s0))), (78, .b (.agg (eW x_14.W)))], [(101, .box 25 zBig)]⟩ rfl ?_
       obtain ⟨x_23, e38, h⟩ := bnd h
       refine Oc rfl (op_call0 (whole_signed_spec e38) goes115 rfl rfl) (Oc rfl (op_store_p tyAgg25 rfl rfl rfl rfl (Nat.le_of_ble_eq_true rfl) rfl) (Oc rfl (op_assign rfl) ?_))
       refine OpsL.nilS ⟨[(2, Pt 101 0), (3, I 0)], [(101, .box 25 (eBig x_23))]⟩ rfl (Tri.ret ?_)
       obtain rfl := Option.some.inj h
       refine Fin.keepS ⟨[(2, Pt 101 0), (3, I 0)], [(101, .box 25 (eBig x_23))]⟩ rfl (Fin.result' [.agg (eBig x_23), .one (.i 0)] (.inl rfl) rfl (.cons (.agg tyAgg25 rfl rfl rfl rfl) (.cons (.tmp rfl) .nil)) ⟨rfl, rfl⟩)
def ratio_Parse_S (F : Nat) (s0 : Str) : Option (Frc × Int) :=
 Option.bind (strings_Cut_S F s0 [47]) (un3 fun x_1 x_2 x_3 => (ratio_one_S F).bind fun x_4 => letN (⟨(⟨false, false, A16.zero⟩ : Big), x_4⟩ : Frc) fun x_5 => Option.bind (whole_Parse_S F x_1) (un2 fun x_6 x_7 => Option.bind (if x_3 = true then (Option.bind (whole_Parse_S F x_2) (un2 fun x_10 x_11 => some ((⟨x_6, x_10⟩ : Frc), x_11))) else (some ((⟨x_6, x_5.D⟩ : Frc), 0))) (un2 fun x_8 f_9 => (gcall (((!((decide (x_7 = 281)) || (decide (f_9 = 281)))) && x_3) && !((decide (x_2 = [48])) || (decide (x_2 = [49])))) (strings_HasPrefix_S F x_2 [45])).bind fun x_12 => letN (((decide (x_7 = 281)) || (decide (f_9 = 281))) || (x_3 && (((decide (x_2 = [48])) || (decide (x_2 = [49]))) || x_12))) fun x_13 => if x_13 = true then ((ratio_Bad_S F).bind fun x_14 => some (x_14, 281)) else (if ((decide (x_7 ≠ 0)) || (decide (f_9 ≠ 0))) = true then ((ratio_Bad_S F).bind fun x_15 => some (x_15, 30)) else ((ratio_Good_S F x_8).bind fun x_16 => if (!x_16) = true then ((ratio_Bad_S F).bind fun x_17 => some (x_17, 281)) else (some (x_8, 0)))))))
theorem ratio_Parse_spec {F : Nat} {s0 : Str} {r : Frc × Int} (h : ratio_Parse_S F s0 = some r) : Meets Tryz.prog (tabs mx) 52 [] [.one (.str s0)] (Is [] (.tup [.agg (eFrc r.1), .one (.i r.2)])) := by
 unfold ratio_Parse_S at h
 refine Meets.intro 68 Tryz.func52 Tryz.ntmps52 rfl (by simp) fun E => ?_
 show Tri _ E ⟨68, [], []⟩ _ ⟨[(0, .b (.one (.str s0)))], []⟩ _
 refine Tri.seq (Tri.regionL ?_)
 refine Oc rfl (op_alloc (k := 101) tyZero27 rfl) (Oc rfl (op_assign rfl) ?_)
 refine OpsL.nilS ⟨[(0, .b (.one (.str s0))), (2, Pt 101 0)], [(101, .box 27 zFrc)]⟩ rfl (Tri.seq (Tri.regionL ?_))
 refine Oc rfl (op_move rfl) ?_
 obtain ⟨⟨x_1, x_2, x_3⟩, e1, h⟩ := bnd h
 refine Oc rfl (op_call0 (strings_Cut_spec e1) goes105 rfl rfl) (Oc rfl (op_move rfl) (Oc rfl (op_extract rfl rfl) (Oc rfl (op_extract rfl rfl) ?_)))
 refine OpsL.keepS ⟨[(2, Pt 101 0), (10, .tup [.one (.str x_1), .one (.str x_2), .one (.bool x_3)]), (13, .b (.one (.str x_1))), (14, .b (.one (.str x_2)))], [(101, .box 27 zFrc)]⟩ rfl (Oc rfl (op_extract rfl rfl) (Oc rfl (op_assign rfl) (Oc rfl (op_assign rfl) (Oc rfl (op_assign rfl) ?_))))
 refine OpsL.nilS ⟨[(2, Pt 101 0), (4, .b (.one (.str x_1))), (5, .b (.one (.str x_2))), (6, B x_3)], [(101, .box 27 zFrc)]⟩ rfl (Tri.seq (Tri.regionL ?_))
 obtain ⟨x_4, e2, h⟩ := bnd h
 refine Oc rfl (op_call0 (ratio_one_spec e2) goes90 rfl rfl) (OpsL.consA eFrc h rfl (op_build tyBuild27 rfl rfl) (fun x_5 h => ?_))
 refine Oc rfl (op_alloc (k := 102) tyZero27 rfl) (Oc rfl (op_store_p tyAgg27 rfl rfl rfl rfl (Nat.le_of_ble_eq_true rfl) rfl) ?_)
 refine OpsL.nilS ⟨[(2, Pt 101 0), (4, .b (.one (.str x_1))), (5, .b (.one (.str x_2))), (6, B x_3), (7, Pt 102 0)], [(101, .box 27 zFrc), (102, .box 27 (eFrc x_5))]⟩ rfl (Tri.seq (Tri.regionL ?_))
 refine Oc rfl (op_assign rfl) (Oc rfl (op_assign rfl) ?_)
 refine OpsL.nilS ⟨[(2, Pt 101 0), (4, .b (.one (.str x_1))), (5, .b (.one (.str x_2))), (6, B x_3), (7, Pt 102 0), (9, I 0)], [(101, .box 27 zFrc), (102, .box 27 (eFrc x_5))]⟩ rfl (Tri.seq (Tri.regionL ?_))
 refine Oc rfl (op_move rfl) ?_
 obtain ⟨⟨x_6, x_7⟩, e3, h⟩ := bnd h
 refine Oc rfl (op_call0 (whole_Parse_spec e3) goes106 rfl rfl) (Oc rfl (op_move rfl) (Oc rfl (op_extract rfl rfl) (Oc rfl (op_extract rfl rfl) ?_)))
 refine OpsL.keepS ⟨[(2, Pt 101 0), (5, .b (.one (.str x_2))), (6, B x_3), (7, Pt 102 0), (9, I 0), (21, .b (.agg (eBig x_6))), (22, I x_7)], [(101, .box 27 zFrc), (102, .box 27 (eFrc x_5))]⟩ rfl (Oc rfl (op_field_p tyFld27_0 rfl rfl) (Oc rfl (op_store_p tyAgg25 rfl rfl rfl rfl (Nat.le_of_ble_eq_true rfl) rfl) (Oc rfl (op_assign rfl) ?_)))
 refine OpsL.nilS ⟨[(2, Pt 101 0), (5, .b (.one (.str x_2))), (6, B x_3), (7, Pt 102 0), (8, I x_7), (9, I 0)], [(101, .box 27 zFrc), (102, .box 27 (eBig x_6 ++ (eBig x_5.D)))]⟩ rfl ?_
 obtain ⟨v4, h5, h⟩ := bnd h
 refine Tri.seqJ (v := v4) (un2 fun (x_8 : Frc) (f_9 : Int) => ⟨[(2, Pt 101 0), (5, .b (.one (.str x_2))), (6, B x_3), (7, Pt 102 0), (8, I x_7), (9, I f_9)], [(101, .box 27 zFrc), (102, .box 27 (eFrc x_8))]⟩) (fun z => z) ?_ ?_
 ·refine Tri.seq (Tri.regionL ?_)
  refine Oc rfl (op_move rfl) (OpsL.nilS ⟨[(2, Pt 101 0), (5, .b (.one (.str x_2))), (6, B x_3), (7, Pt 102 0), (8, I x_7), (9, I 0), (24, B x_3)], [(101, .box 27 zFrc), (102, .box 27 (eBig x_6 ++ (eBig x_5.D)))]⟩ rfl (Tri.ite h5 rfl (fun _ h5 => ?_) (fun _ h5 => ?_)))
  ·refine Tri.regionL (Oc rfl (op_move rfl) ?_)
   obtain ⟨⟨x_10, x_11⟩, e6, h5⟩ := bnd h5
   refine Oc rfl (op_call0 (whole_Parse_spec e6) goes106 rfl rfl) (Oc rfl (op_move rfl) (Oc rfl (op_extract rfl rfl) (Oc rfl (op_extract rfl rfl) ?_)))
   refine OpsL.keepS ⟨[(2, Pt 101 0), (5, .b (.one (.str x_2))), (6, B x_3), (7, Pt 102 0), (8, I x_7), (9, I 0), (28, .b (.agg (eBig x_10))), (29, I x_11)], [(101, .box 27 zFrc), (102, .box 27 (eBig x_6 ++ (eBig x_5.D)))]⟩ rfl (Oc rfl (op_field_p tyFld27_1 rfl rfl) (Oc rfl (op_store_p tyAgg25 rfl rfl rfl rfl (Nat.le_of_ble_eq_true rfl) rfl) (Oc rfl (op_assign rfl) ?_)))
   refine OpsL.nil ?_
   exact Fin.join [2, 5, 6, 7, 8, 9] [101, 102] ((⟨x_6, x_10⟩ : Frc), x_11) (Option.some.inj h5) rfl
  ·refine Tri.skip ?_
   exact Fin.join [2, 5, 6, 7, 8, 9] [101, 102] ((⟨x_6, x_5.D⟩ : Frc), 0) (Option.some.inj h5) rfl
 ·rintro ⟨x_8, f_9⟩ hv
  subst v4
  refine Tri.seq (Tri.block (Tri.seq (Tri.regionL ?_)))
  refine Oc rfl (op_move rfl) (Oc rfl (op_eql rfl rfl) (Oc rfl (op_move rfl) ?_))
  refine OpsL.consG (!(decide (x_7 = 281))) 99 [] (.plain rfl) (eq_f _) rfl rfl (fun g7 => trivial) (fun g7 => op_move rfl) (OpsL.consG (!(decide (x_7 = 281))) 99 [35] (.plain rfl) (eq_f _) rfl rfl (fun g8 => ⟨g8, trivial⟩) (fun g8 => op_eql rfl rfl) (Oc rfl (op_pick_or (fun e => by rw [e]; rfl) rfl rfl rfl rfl) (Oc rfl (op_move rfl) ?_)))
  refine OpsL.keepS ⟨[(2, Pt 101 0), (5, .b (.one (.str x_2))), (6, B x_3), (7, Pt 102 0), (8, I x_7), (9, I f_9), (38, B ((decide (x_7 = 281)) || (decide (f_9 = 281))))], [(101, .box 27 zFrc), (102, .box 27 (eFrc x_8))]⟩ rfl (OpsL.consG (!((decide (x_7 = 281)) || (decide (f_9 = 281)))) 99 [] (.plain rfl) (eq_f _) rfl rfl (fun g9 => trivial) (fun g9 => op_move rfl) (OpsL.consG (!((decide (x_7 = 281)) || (decide (f_9 = 281)))) 99 [39] (.plain rfl) (eq_f _) rfl rfl (fun g10 => ⟨g10, trivial⟩) (fun g10 => op_move rfl) (OpsL.consG ((!((decide (x_7 = 281)) || (decide (f_9 = 281)))) && x_3) 99 [] (.under rfl) (and_t _ _) rfl rfl (fun g11 => trivial) (fun g11 => op_move rfl) (OpsL.consG ((!((decide (x_7 = 281)) || (decide (f_9 = 281)))) && x_3) 99 [41] (.under rfl) (and_t _ _) rfl rfl (fun g12 => ⟨g12, trivial⟩) (fun g12 => op_eql_str rfl rfl) (OpsL.consG ((!((decide (x_7 = 281)) || (decide (f_9 = 281)))) && x_3) 99 [42] (.under rfl) (and_t _ _) rfl rfl (fun g13 => ⟨g13, trivial⟩) (fun g13 => op_move rfl) ?_)))))
  refine OpsL.consG (((!((decide (x_7 = 281)) || (decide (f_9 = 281)))) && x_3) && !(decide (x_2 = [48]))) 99 [] (.under rfl) (and_f _ _) rfl rfl (fun g14 => trivial) (fun g14 => op_move rfl) (OpsL.consG (((!((decide (x_7 = 281)) || (decide (f_9 = 281)))) && x_3) && !(decide (x_2 = [48]))) 99 [44] (.under rfl) (and_f _ _) rfl rfl (fun g15 => ⟨g15, trivial⟩) (fun g15 => op_eql_str rfl rfl) (OpsL.consG ((!((decide (x_7 = 281)) || (decide (f_9 = 281)))) && x_3) 99 [43] (.under rfl) (and_t _ _) rfl rfl (fun g16 => ⟨g16, trivial⟩) (fun g16 => op_pick_or (fun e => by rw [g16, e]; rfl) rfl rfl rfl rfl) (OpsL.keepS ⟨[(2, Pt 101 0), (5, .b (.one (.str x_2))), (7, Pt 102 0), (8, I x_7), (9, I f_9), (38, B ((decide (x_7 = 281)) || (decide (f_9 = 281)))), (40, .opt (!((decide (x_7 = 281)) || (decide (f_9 = 281)))) (.one (.bool x_3))), (46, .opt ((!((decide (x_7 = 281)) || (decide (f_9 = 281)))) && x_3) (.one (.bool ((decide (x_2 = [48])) || (decide (x_2 = [49]))))))], [(101, .box 27 zFrc), (102, .box 27 (eFrc x_8))]⟩ rfl (OpsL.consG ((!((decide (x_7 = 281)) || (decide (f_9 = 281)))) && x_3) 99 [46] (.under rfl) (and_t _ _) rfl rfl (fun g17 => ⟨g17, trivial⟩) (fun g17 => op_move rfl) (OpsL.consG (((!((decide (x_7 = 281)) || (decide (f_9 = 281)))) && x_3) && !((decide (x_2 = [48])) || (decide (x_2 = [49])))) 99 [] (.under rfl) (and_f _ _) rfl rfl (fun g18 => trivial) (fun g18 => op_move rfl) ?_)))))
  obtain ⟨x_12, e20, h⟩ := bnd h
  refine OpsL.consG (((!((decide (x_7 = 281)) || (decide (f_9 = 281)))) && x_3) && !((decide (x_2 = [48])) || (decide (x_2 = [49])))) 99 [48] (.under rfl) (and_f _ _) rfl rfl (fun g19 => ⟨g19, trivial⟩) (fun g19 => op_call0 (strings_HasPrefix_spec (gc e20 g19)) goes107 rfl rfl) (OpsL.consG ((!((decide (x_7 = 281)) || (decide (f_9 = 281)))) && x_3) 99 [47] (.under rfl) (and_t _ _) rfl rfl (fun g21 => ⟨g21, trivial⟩) (fun g21 => op_pick_or (fun e => by rw [g21, e]; rfl) rfl rfl rfl rfl) (OpsL.consG (!((decide (x_7 = 281)) || (decide (f_9 = 281)))) 99 [40] (.plain rfl) (eq_f _) rfl rfl (fun g22 => ⟨g22, trivial⟩) (fun g22 => op_pick_and (fun e => by rw [g22, e]; rfl) rfl rfl rfl rfl) (OpsL.consB h rfl (op_pick_or (fun e => by rw [e]; rfl) rfl rfl rfl rfl) (fun x_13 h => ?_))))
  refine Oc rfl (op_assign rfl) (OpsL.nilS ⟨[(2, Pt 101 0), (7, Pt 102 0), (8, I x_7), (9, I f_9), (31, B x_13)], [(101, .box 27 zFrc), (102, .box 27 (eFrc x_8))]⟩ rfl (Tri.ite h rfl (fun _ h => ?_) (fun _ h => ?_)))
  ·refine Tri.seq (Tri.regionL ?_)
   obtain ⟨x_14, e23, h⟩ := bnd h
   refine Oc rfl (op_call0 (ratio_Bad_spec e23) goes27 rfl rfl) (Oc rfl (op_store_p tyAgg27 rfl rfl rfl rfl (Nat.le_of_ble_eq_true rfl) rfl) (Oc rfl (op_assign rfl) ?_))
   refine OpsL.nilS ⟨[(2, Pt 101 0), (3, I 281)], [(101, .box 27 (eFrc x_14))]⟩ rfl (Tri.ret (Fin.block_ret (Fin.then_ret ?_)))
   obtain rfl := Option.some.inj h
   refine Fin.keepS ⟨[(2, Pt 101 0), (3, I 281)], [(101, .box 27 (eFrc x_14))]⟩ rfl (Fin.result' [.agg (eFrc x_14), .one (.i 281)] (.inl rfl) rfl (.cons (.agg tyAgg27 rfl rfl rfl rfl) (.cons (.tmp rfl) .nil)) ⟨rfl, rfl⟩)
  ·refine Tri.seq (Tri.regionL ?_)
   refine Oc rfl (op_move rfl) (Oc rfl (op_neq rfl rfl) (Oc rfl (op_move rfl) ?_))
   refine OpsL.consG (!(decide (x_7 ≠ 0))) 99 [] (.plain rfl) (eq_f _) rfl rfl (fun g24 => trivial) (fun g24 => op_move rfl) (OpsL.consG (!(decide (x_7 ≠ 0))) 99 [58] (.plain rfl) (eq_f _) rfl rfl (fun g25 => ⟨g25, trivial⟩) (fun g25 => op_neq rfl rfl) (Oc rfl (op_pick_or (fun e => by rw [e]; rfl) rfl rfl rfl rfl) (Oc rfl (op_assign rfl) ?_)))
   refine OpsL.nilS ⟨[(2, Pt 101 0), (7, Pt 102 0), (54, B ((decide (x_7 ≠ 0)) || (decide (f_9 ≠ 0))))], [(101, .box 27 zFrc), (102, .box 27 (eFrc x_8))]⟩ rfl (Tri.ite h rfl (fun _ h => ?_) (fun _ h => ?_))
   ·refine Tri.seq (Tri.regionL ?_)
    obtain ⟨x_15, e26, h⟩ := bnd h
    refine Oc rfl (op_call0 (ratio_Bad_spec e26) goes27 rfl rfl) (Oc rfl (op_store_p tyAgg27 rfl rfl rfl rfl (Nat.le_of_ble_eq_true rfl) rfl) (Oc rfl (op_assign rfl) ?_))
    refine OpsL.nilS ⟨[(2, Pt 101 0), (3, I 30)], [(101, .box 27 (eFrc x_15))]⟩ rfl (Tri.ret (Fin.block_ret (Fin.then_ret ?_)))
    obtain rfl := Option.some.inj h
    refine Fin.keepS ⟨[(2, Pt 101 0), (3, I 30)], [(101, .box 27 (eFrc x_15))]⟩ rfl (Fin.result' [.agg (eFrc x_15), .one (.i 30)] (.inl rfl) rfl (.cons (.agg tyAgg27 rfl rfl rfl rfl) (.cons (.tmp rfl) .nil)) ⟨rfl, rfl⟩)
   ·refine Tri.seq (Tri.regionL ?_)
    refine Oc rfl (op_load_p tyAgg27 rfl rfl rfl rfl) ?_
    obtain ⟨x_16, e27, h⟩ := bnd h
    refine Oc rfl (op_call0 (ratio_Good_spec e27) goes26 rfl rfl) (Oc rfl (op_not rfl) (Oc rfl (op_assign rfl) ?_))
    refine OpsL.nilS ⟨[(2, Pt 101 0), (7, Pt 102 0), (62, B (!x_16))], [(101, .box 27 zFrc), (102, .box 27 (eFrc x_8))]⟩ rfl (Tri.ite h rfl (fun _ h => ?_) (fun _ h => ?_))
    ·refine Tri.seq (Tri.regionL ?_)
     obtain ⟨x_17, e28, h⟩ := bnd h
     refine Oc rfl (op_call0 (ratio_Bad_spec e28) goes27 rfl rfl) (Oc rfl (op_store_p tyAgg27 rfl rfl rfl rfl (Nat.le_of_ble_eq_true rfl) rfl) (Oc rfl (op_assign rfl) ?_))
     refine OpsL.nilS ⟨[(2, Pt 101 0), (3, I 281)], [(101, .box 27 (eFrc x_17))]⟩ rfl (Tri.ret (Fin.block_ret (Fin.then_ret ?_)))
     obtain rfl := Option.some.inj h
     refine Fin.keepS ⟨[(2, Pt 101 0), (3, I 281)], [(101, .box 27 (eFrc x_17))]⟩ rfl (Fin.result' [.agg (eFrc x_17), .one (.i 281)] (.inl rfl) rfl (.cons (.agg tyAgg27 rfl rfl rfl rfl) (.cons (.tmp rfl) .nil)) ⟨rfl, rfl⟩)
    ·refine Tri.skip (Fin.block_normal (Fin.keepS ⟨[(2, Pt 101 0), (7, Pt 102 0)], [(101, .box 27 zFrc), (102, .box 27 (eFrc x_8))]⟩ rfl (Fin.then (Tri.seq (Tri.regionL ?_)))))
     refine Oc rfl (op_load_p tyAgg27 rfl rfl rfl rfl) (Oc rfl (op_store_p tyAgg27 rfl rfl rfl rfl (Nat.le_of_ble_eq_true rfl) rfl) (Oc rfl (op_assign rfl) ?_))
     refine OpsL.nilS ⟨[(2, Pt 101 0), (3, I 0)], [(101, .box 27 (eFrc x_8))]⟩ rfl (Tri.ret ?_)
     obtain rfl := Option.some.inj h
     refine Fin.keepS ⟨[(2, Pt 101 0), (3, I 0)], [(101, .box 27 (eFrc x_8))]⟩ rfl (Fin.result' [.agg (eFrc x_8), .one (.i 0)] (.inl rfl) rfl (.cons (.agg tyAgg27 rfl rfl rfl rfl) (.cons (.tmp rfl) .nil)) ⟨rfl, rfl⟩)
def ratio_Valid_S (F : Nat) (x0 : Frc) : Option Bool :=
 (ratio_Bad_S F).bind fun x_1 => (gcall (!(decide (x0 = x_1))) (ratio_Good_S F x0)).bind fun x_2 => some ((decide (x0 = x_1)) || x_2)
theorem ratio_Valid_spec {F : Nat} {x0 : Frc} {r : Bool} (h : ratio_Valid_S F x0 = some r) : Meets Tryz.prog (tabs mx) 24 [] [.agg (eFrc x0)] (Is [] (.b (.one (.bool r)))) := by
 unfold ratio_Valid_S at h
 refine Meets.intro 10 Tryz.func24 Tryz.ntmps24 rfl (by simp) fun E => ?_
 show Tri _ E ⟨10, [], []⟩ _ ⟨[(0, .b (.agg (eFrc x0)))], []⟩ _
 refine Tri.seq (Tri.regionL ?_)
 refine Oc rfl (op_box (k := 101) rfl rfl) (Oc rfl (op_assign rfl) ?_)
 refine OpsL.nilS ⟨[(1, Pt 101 0)], [(101, .box 27 (eFrc x0))]⟩ rfl (Tri.seq ?_)
 obtain ⟨x_1, e1, h⟩ := bnd h
 obtain ⟨x_2, e4, h⟩ := bnd h
 refine Tri.regionY mixed 8 [.b (.agg (eFrc x0)), .b (.agg (eFrc x_1)), B (decide (x0 = x_1)), B (decide (x0 = x_1)), .opt (!(decide (x0 = x_1))) (.agg (eFrc x0)), .opt (!(decide (x0 = x_1))) (.one (.bool x_2)), B ((decide (x0 = x_1)) || x_2), B ((decide (x0 = x_1)) || x_2)] [2] [] (s' := ⟨[(2, B ((decide (x0 = x_1)) || x_2))], []⟩) rfl ⟨fun _ => .plain rfl (op_load_p tyAgg27 rfl rfl rfl rfl), fun _ => .plain rfl (op_call0 (ratio_Bad_spec e1) goes27 rfl rfl), fun _ => .plain rfl (op_eql_agg (eqAgg27 x0 x_1) rfl rfl), fun _ => .plain rfl (op_move rfl), fun _ => by exact .guard (!(decide (x0 = x_1))) 1 [] (.plain rfl) (eq_f _) rfl rfl (fun g2 => trivial) (fun g2 => op_load_p tyAgg27 rfl rfl rfl rfl), fun _ => by exact .guard (!(decide (x0 = x_1))) 3 [7] (.plain rfl) (eq_f _) rfl rfl (fun g3 => ⟨g3, trivial⟩) (fun g3 => op_call0 (ratio_Good_spec (gc e4 g3)) goes26 rfl rfl), fun _ => .plain rfl (op_pick_or (fun e => by rw [e]; rfl) rfl rfl rfl rfl), fun _ => .plain rfl (op_assign rfl), trivial⟩ rfl rfl (Tri.ret ?_)
 obtain rfl := Option.some.inj h
 refine Fin.keepS ⟨[(2, B ((decide (x0 = x_1)) || x_2))], []⟩ rfl (Fin.result' [.one (.bool ((decide (x0 = x_1)) || x_2))] (.inl rfl) rfl (.cons (.tmp rfl) .nil) ⟨rfl, rfl⟩)
def l4_sanity_S (F : Nat) : Option Bool :=
 (ratio_Frac_S F 6 (-4)).bind fun x_1 => (l4_text_S F x_1 [45, 51, 47, 50]).bind fun x_2 => (gcall x_2 (ratio_Frac_S F 1 0)).bind fun x_3 => (gcall x_2 (ratio_Bad_S F)).bind fun x_4 => (gcall (x_2 && (decide (x_3 = x_4))) (ratio_Frac_S F 1 6)).bind fun x_5 => (gcall (x_2 && (decide (x_3 = x_4))) (ratio_Frac_S F 1 10)).bind fun x_6 => (gcall (x_2 && (decide (x_3 = x_4))) (ratio_Add_S F x_5 x_6)).bind fun x_7 => (gcall (x_2 && (decide (x_3 = x_4))) (l4_text_S F x_7 [52, 47, 49, 53])).bind fun x_8 => (gcall ((x_2 && (decide (x_3 = x_4))) && x_8) (ratio_Frac_S F 2 3)).bind fun x_9 => (gcall ((x_2 && (decide (x_3 = x_4))) && x_8) (ratio_Frac_S F 3 4)).bind fun x_10 => (gcall ((x_2 && (decide (x_3 = x_4))) && x_8) (ratio_Mul_S F x_9 x_10)).bind fun x_11 => (gcall ((x_2 && (decide (x_3 = x_4))) && x_8) (l4_text_S F x_11 [49, 47, 50])).bind fun x_12 => (gcall (((x_2 && (decide (x_3 = x_4))) && x_8) && x_12) (ratio_Frac_S F 1 1)).bind fun x_13 => (gcall (((x_2 && (decide (x_3 = x_4))) && x_8) && x_12) (ratio_Frac_S F 0 1)).bind fun x_14 => (gcall (((x_2 && (decide (x_3 = x_4))) && x_8) && x_12) (ratio_Div_S F x_13 x_14)).bind fun x_15 => (gcall (((x_2 && (decide (x_3 = x_4))) && x_8) && x_12) (ratio_Bad_S F)).bind fun x_16 => letN ((((x_2 && (decide (x_3 = x_4))) && x_8) && x_12) && (decide (x_15 = x_16))) fun x_17 => (ratio_Frac_S F (-7) 2).bind fun x_18 => (ratio_Floor_S F x_18).bind fun x_19 => (r3_Of_S F (-4)).bind fun x_20 => (gcall (decide (x_19 = x_20)) (ratio_Ceil_S F x_18)).bind fun x_21 => (gcall (decide (x_19 = x_20)) (r3_Of_S F (-3))).bind fun x_22 => (gcall ((decide (x_19 = x_20)) && (decide (x_21 = x_22))) (ratio_Near_S F x_18)).bind fun x_23 => (gcall ((decide (x_19 = x_20)) && (decide (x_21 = x_22))) (r3_Of_S F (-3))).bind fun x_24 => letN (((decide (x_19 = x_20)) && (decide (x_21 = x_22))) && (decide (x_23 = x_24))) fun x_25 => (gcall x_25 (ratio_Frac_S F 7 2)).bind fun x_26 => (gcall x_25 (ratio_Near_S F x_26)).bind fun x_27 => (gcall x_25 (r3_Of_S F 4)).bind fun x_28 => (ratio_Frac_S F 1 3).bind fun x_29 => Option.bind (ratio_Dyadic_S F x_29 2) (un2 fun x_30 x_31 => (l4_text_S F x_30 [49, 47, 52]).bind fun x_32 => (gcall x_32 (l4_text_S F x_31 [49, 47, 50])).bind fun x_33 => (gcall (x_32 && x_33) (ratio_Frac_S F 1 3)).bind fun x_34 => (gcall (x_32 && x_33) (ratio_Frac_S F 2 5)).bind fun x_35 => (gcall (x_32 && x_33) (ratio_Simplest_S F x_34 x_35)).bind fun x_36 => (gcall (x_32 && x_33) (l4_text_S F x_36 [49, 47, 51])).bind fun x_37 => (gcall ((x_32 && x_33) && x_37) (ratio_Frac_S F (-3) 1)).bind fun x_38 => (gcall ((x_32 && x_33) && x_37) (ratio_Frac_S F 5 2)).bind fun x_39 => (gcall ((x_32 && x_33) && x_37) (ratio_Simplest_S F x_38 x_39)).bind fun x_40 => (gcall ((x_32 && x_33) && x_37) (l4_text_S F x_40 [48])).bind fun x_41 => (gcall (((x_32 && x_33) && x_37) && x_41) (ratio_Frac_S F 7 5)).bind fun x_42 => (gcall (((x_32 && x_33) && x_37) && x_41) (ratio_Frac_S F 5 2)).bind fun x_43 => (gcall (((x_32 && x_33) && x_37) && x_41) (ratio_Simplest_S F x_42 x_43)).bind fun x_44 => (gcall (((x_32 && x_33) && x_37) && x_41) (l4_text_S F x_44 [50])).bind fun x_45 => (gcall ((((x_32 && x_33) && x_37) && x_41) && x_45) (ratio_Frac_S F 31 10)).bind fun x_46 => (gcall ((((x_32 && x_33) && x_37) && x_41) && x_45) (ratio_Frac_S F 32 10)).bind fun x_47 => (gcall ((((x_32 && x_33) && x_37) && x_41) && x_45) (ratio_Simplest_S F x_46 x_47)).bind fun x_48 => (gcall ((((x_32 && x_33) && x_37) && x_41) && x_45) (l4_text_S F x_48 [49, 54, 47, 53])).bind fun x_49 => Option.bind (ratio_Parse_S F [50, 47, 52]) (un2 fun x_50 x_51 => Option.bind (ratio_Parse_S F [45, 51, 47, 50]) (un2 fun x_52 x_53 => (gcall ((((x_17 && (x_25 && (decide (x_27 = x_28)))) && (((((x_32 && x_33) && x_37) && x_41) && x_45) && x_49)) && (decide (x_51 = 281))) && (decide (x_53 = 0))) (ratio_Frac_S F 6 (-4))).bind fun x_54 => (gcall (((((x_17 && (x_25 && (decide (x_27 = x_28)))) && (((((x_32 && x_33) && x_37) && x_41) && x_45) && x_49)) && (decide (x_51 = 281))) && (decide (x_53 = 0))) && (decide (x_52 = x_54))) (ratio_Frac_S F (-1) 1)).bind fun x_55 => (gcall (((((x_17 && (x_25 && (decide (x_27 = x_28)))) && (((((x_32 && x_33) && x_37) && x_41) && x_45) && x_49)) && (decide (x_51 = 281))) && (decide (x_53 = 0))) && (decide (x_52 = x_54))) (ratio_Cmp_S F x_52 x_55)).bind fun x_56 => (gcall ((((((x_17 && (x_25 && (decide (x_27 = x_28)))) && (((((x_32 && x_33) && x_37) && x_41) && x_45) && x_49)) && (decide (x_51 = 281))) && (decide (x_53 = 0))) && (decide (x_52 = x_54))) && (decide (x_56 = (-1)))) (ratio_Good_S F x_52)).bind fun x_57 => (gcall (((((((x_17 && (x_25 && (decide (x_27 = x_28)))) && (((((x_32 && x_33) && x_37) && x_41) && x_45) && x_49)) && (decide (x_51 = 281))) && (decide (x_53 = 0))) && (decide (x_52 = x_54))) && (decide (x_56 = (-1)))) && x_57) (ratio_Bad_S F)).bind fun x_58 => (gcall (((((((x_17 && (x_25 && (decide (x_27 = x_28)))) && (((((x_32 && x_33) && x_37) && x_41) && x_45) && x_49)) && (decide (x_51 = 281))) && (decide (x_53 = 0))) && (decide (x_52 = x_54))) && (decide (x_56 = (-1)))) && x_57) (ratio_Valid_S F x_58)).bind fun x_59 => (gcall ((((((((x_17 && (x_25 && (decide (x_27 = x_28)))) && (((((x_32 && x_33) && x_37) && x_41) && x_45) && x_49)) && (decide (x_51 = 281))) && (decide (x_53 = 0))) && (decide (x_52 = x_54))) && (decide (x_56 = (-1)))) && x_57) && x_59) (ratio_Bad_S F)).bind fun x_60 => (gcall ((((((((x_17 && (x_25 && (decide (x_27 = x_28)))) && (((((x_32 && x_33) && x_37) && x_41) && x_45) && x_49)) && (decide (x_51 = 281))) && (decide (x_53 = 0))) && (decide (x_52 = x_54))) && (decide (x_56 = (-1)))) && x_57) && x_59) (ratio_Good_S F x_60)).bind fun x_61 => some (((((((((x_17 && (x_25 && (decide (x_27 = x_28)))) && (((((x_32 && x_33) && x_37) && x_41) && x_45) && x_49)) && (decide (x_51 = 281))) && (decide (x_53 = 0))) && (decide (x_52 = x_54))) && (decide (x_56 = (-1)))) && x_57) && x_59) && (!x_61)))))
theorem l4_sanity_spec {F : Nat} {r : Bool} (h : l4_sanity_S F = some r) : Meets Tryz.prog (tabs mx) 16 [] [] (Is [] (.b (.one (.bool r)))) := by
 unfold l4_sanity_S at h
 refine Meets.intro 164 Tryz.func16 Tryz.ntmps16 rfl (by simp) fun E => ?_
 show Tri _ E ⟨164, [], []⟩ _ ⟨[], []⟩ _
 refine Tri.seq (Tri.regionL ?_)
 refine Oc rfl (op_assign rfl) (OpsL.nilS ⟨[], []⟩ rfl (Tri.seq (Tri.regionL ?_)))
 refine Oc rfl (op_assign rfl) (OpsL.nilS ⟨[(1, .b (.one (.raw (.func (.func 22) #[] #[]))))], []⟩ rfl (Tri.seq (Tri.regionL ?_)))
 refine Oc rfl (op_move rfl) ?_
 obtain ⟨x_1, e1, h⟩ := bnd h
 refine Oc rfl (op_callv0 (ratio_Frac_spec e1) goes22 rfl rfl rfl) ?_
 obtain ⟨x_2, e2, h⟩ := bnd h
 refine Oc rfl (op_call0 (l4_text_spec e2) goes87 rfl rfl) (OpsL.keepS ⟨[(1, .b (.one (.raw (.func (.func 22) #[] #[])))), (14, B x_2)], []⟩ rfl (Oc rfl (op_move rfl) (OpsL.consG x_2 99 [] (.plain rfl) (eq_t _) rfl rfl (fun g3 => trivial) (fun g3 => op_move rfl) ?_)))
 obtain ⟨x_3, e5, h⟩ := bnd h
 refine OpsL.consG x_2 99 [16] (.plain rfl) (eq_t _) rfl rfl (fun g4 => ⟨g4, trivial⟩) (fun g4 => op_callv0 (ratio_Frac_spec (gc e5 g4)) goes22 rfl rfl rfl) ?_
 obtain ⟨x_4, e7, h⟩ := bnd h
 refine OpsL.consG x_2 99 [] (.plain rfl) (eq_t _) rfl rfl (fun g6 => trivial) (fun g6 => op_call0 (ratio_Bad_spec (gc e7 g6)) goes27 rfl rfl) (OpsL.keepS ⟨[(1, .b (.one (.raw (.func (.func 22) #[] #[])))), (15, B x_2), (17, .opt x_2 (.agg (eFrc x_3))), (18, .opt x_2 (.agg (eFrc x_4)))], []⟩ rfl (OpsL.consG x_2 99 [17, 18] (.plain rfl) (eq_t _) rfl rfl (fun g8 => ⟨g8, g8, trivial⟩) (fun g8 => op_eql_agg (eqAgg27 x_3 x_4) rfl rfl) (Oc rfl (op_pick_and (fun e => e) rfl rfl rfl rfl) (Oc rfl (op_move rfl) ?_))))
 refine OpsL.consG (x_2 && (decide (x_3 = x_4))) 99 [] (.plain rfl) (eq_t _) rfl rfl (fun g9 => trivial) (fun g9 => op_move rfl) ?_
 obtain ⟨x_5, e11, h⟩ := bnd h
 refine OpsL.consG (x_2 && (decide (x_3 = x_4))) 99 [22] (.plain rfl) (eq_t _) rfl rfl (fun g10 => ⟨g10, trivial⟩) (fun g10 => op_callv0 (ratio_Frac_spec (gc e11 g10)) goes22 rfl rfl rfl) (OpsL.consG (x_2 && (decide (x_3 = x_4))) 99 [] (.plain rfl) (eq_t _) rfl rfl (fun g12 => trivial) (fun g12 => op_move rfl) (OpsL.keepS ⟨[(1, .b (.one (.raw (.func (.func 22) #[] #[])))), (21, B (x_2 && (decide (x_3 = x_4)))), (23, .opt (x_2 && (decide (x_3 = x_4))) (.agg (eFrc x_5))), (24, .opt (x_2 && (decide (x_3 = x_4))) (.one (.raw (.func (.func 22) #[] #[]))))], []⟩ rfl ?_))
 obtain ⟨x_6, e14, h⟩ := bnd h
 refine OpsL.consG (x_2 && (decide (x_3 = x_4))) 99 [24] (.plain rfl) (eq_t _) rfl rfl (fun g13 => ⟨g13, trivial⟩) (fun g13 => op_callv0 (ratio_Frac_spec (gc e14 g13)) goes22 rfl rfl rfl) ?_
 obtain ⟨x_7, e16, h⟩ := bnd h
 refine OpsL.consG (x_2 && (decide (x_3 = x_4))) 99 [23, 25] (.plain rfl) (eq_t _) rfl rfl (fun g15 => ⟨g15, g15, trivial⟩) (fun g15 => op_call0 (ratio_Add_spec (gc e16 g15)) goes42 rfl rfl) ?_
 obtain ⟨x_8, e18, h⟩ := bnd h
 refine OpsL.consG (x_2 && (decide (x_3 = x_4))) 99 [26] (.plain rfl) (eq_t _) rfl rfl (fun g17 => ⟨g17, trivial⟩) (fun g17 => op_call0 (l4_text_spec (gc e18 g17)) goes87 rfl rfl) (Oc rfl (op_pick_and (fun e => e) rfl rfl rfl rfl) (OpsL.keepS ⟨[(1, .b (.one (.raw (.func (.func 22) #[] #[])))), (28, B ((x_2 && (decide (x_3 = x_4))) && x_8))], []⟩ rfl (Oc rfl (op_move rfl) (OpsL.consG ((x_2 && (decide (x_3 = x_4))) && x_8) 99 [] (.plain rfl) (eq_t _) rfl rfl (fun g19 => trivial) (fun g19 => op_move rfl) ?_))))
 obtain ⟨x_9, e21, h⟩ := bnd h
 refine OpsL.consG ((x_2 && (decide (x_3 = x_4))) && x_8) 99 [30] (.plain rfl) (eq_t _) rfl rfl (fun g20 => ⟨g20, trivial⟩) (fun g20 => op_callv0 (ratio_Frac_spec (gc e21 g20)) goes22 rfl rfl rfl) (OpsL.consG ((x_2 && (decide (x_3 = x_4))) && x_8) 99 [] (.plain rfl) (eq_t _) rfl rfl (fun g22 => trivial) (fun g22 => op_move rfl) (OpsL.keepS ⟨[(1, .b (.one (.raw (.func (.func 22) #[] #[])))), (29, B ((x_2 && (decide (x_3 = x_4))) && x_8)), (31, .opt ((x_2 && (decide (x_3 = x_4))) && x_8) (.agg (eFrc x_9))), (32, .opt ((x_2 && (decide (x_3 = x_4))) && x_8) (.one (.raw (.func (.func 22) #[] #[]))))], []⟩ rfl ?_))
 obtain ⟨x_10, e24, h⟩ := bnd h
 refine OpsL.consG ((x_2 && (decide (x_3 = x_4))) && x_8) 99 [32] (.plain rfl) (eq_t _) rfl rfl (fun g23 => ⟨g23, trivial⟩) (fun g23 => op_callv0 (ratio_Frac_spec (gc e24 g23)) goes22 rfl rfl rfl) ?_
 obtain ⟨x_11, e26, h⟩ := bnd h
 refine OpsL.consG ((x_2 && (decide (x_3 = x_4))) && x_8) 99 [31, 33] (.plain rfl) (eq_t _) rfl rfl (fun g25 => ⟨g25, g25, trivial⟩) (fun g25 => op_call0 (ratio_Mul_spec (gc e26 g25)) goes45 rfl rfl) ?_
 obtain ⟨x_12, e28, h⟩ := bnd h
 refine OpsL.consG ((x_2 && (decide (x_3 = x_4))) && x_8) 99 [34] (.plain rfl) (eq_t _) rfl rfl (fun g27 => ⟨g27, trivial⟩) (fun g27 => op_call0 (l4_text_spec (gc e28 g27)) goes87 rfl rfl) (Oc rfl (op_pick_and (fun e => e) rfl rfl rfl rfl) (OpsL.keepS ⟨[(1, .b (.one (.raw (.func (.func 22) #[] #[])))), (36, B (((x_2 && (decide (x_3 = x_4))) && x_8) && x_12))], []⟩ rfl (Oc rfl (op_move rfl) (OpsL.consG (((x_2 && (decide (x_3 = x_4))) && x_8) && x_12) 99 [] (.plain rfl) (eq_t _) rfl rfl (fun g29 => trivial) (fun g29 => op_move rfl) ?_))))
 obtain ⟨x_13, e31, h⟩ := bnd h
 refine OpsL.consG (((x_2 && (decide (x_3 = x_4))) && x_8) && x_12) 99 [38] (.plain rfl) (eq_t _) rfl rfl (fun g30 => ⟨g30, trivial⟩) (fun g30 => op_callv0 (ratio_Frac_spec (gc e31 g30)) goes22 rfl rfl rfl) (OpsL.consG (((x_2 && (decide (x_3 = x_4))) && x_8) && x_12) 99 [] (.plain rfl) (eq_t _) rfl rfl (fun g32 => trivial) (fun g32 => op_move rfl) (OpsL.keepS ⟨[(1, .b (.one (.raw (.func (.func 22) #[] #[])))), (37, B (((x_2 && (decide (x_3 = x_4))) && x_8) && x_12)), (39, .opt (((x_2 && (decide (x_3 = x_4))) && x_8) && x_12) (.agg (eFrc x_13))), (40, .opt (((x_2 && (decide (x_3 = x_4))) && x_8) && x_12) (.one (.raw (.func (.func 22) #[] #[]))))], []⟩ rfl ?_))
 obtain ⟨x_14, e34, h⟩ := bnd h
 refine OpsL.consG (((x_2 && (decide (x_3 = x_4))) && x_8) && x_12) 99 [40] (.plain rfl) (eq_t _) rfl rfl (fun g33 => ⟨g33, trivial⟩) (fun g33 => op_callv0 (ratio_Frac_spec (gc e34 g33)) goes22 rfl rfl rfl) ?_
 obtain ⟨x_15, e36, h⟩ := bnd h
 refine OpsL.consG (((x_2 && (decide (x_3 = x_4))) && x_8) && x_12) 99 [39, 41] (.plain rfl) (eq_t _) rfl rfl (fun g35 => ⟨g35, g35, trivial⟩) (fun g35 => op_call0 (ratio_Div_spec (gc e36 g35)) goes46 rfl rfl) ?_
 obtain ⟨x_16, e38, h⟩ := bnd h
 refine OpsL.consG (((x_2 && (decide (x_3 = x_4))) && x_8) && x_12) 99 [] (.plain rfl) (eq_t _) rfl rfl (fun g37 => trivial) (fun g37 => op_call0 (ratio_Bad_spec (gc e38 g37)) goes27 rfl rfl) (OpsL.consG (((x_2 && (decide (x_3 = x_4))) && x_8) && x_12) 99 [42, 43] (.plain rfl) (eq_t _) rfl rfl (fun g39 => ⟨g39, g39, trivial⟩) (fun g39 => op_eql_agg (eqAgg27 x_15 x_16) rfl rfl) (OpsL.consB h rfl (op_pick_and (fun e => e) rfl rfl rfl rfl) (fun x_17 h => ?_)))
 refine Oc rfl (op_assign rfl) (OpsL.nilS ⟨[(1, .b (.one (.raw (.func (.func 22) #[] #[])))), (2, B x_17)], []⟩ rfl (Tri.seq (Tri.regionL ?_)))
 refine Oc rfl (op_move rfl) ?_
 obtain ⟨x_18, e40, h⟩ := bnd h
 refine Oc rfl (op_callv0 (ratio_Frac_spec e40) goes22 rfl rfl rfl) (Oc rfl (op_alloc (k := 101) tyZero27 rfl) (Oc rfl (op_store_p tyAgg27 rfl rfl rfl rfl (Nat.le_of_ble_eq_true rfl) rfl) ?_))
 refine OpsL.nilS ⟨[(1, .b (.one (.raw (.func (.func 22) #[] #[])))), (2, B x_17), (3, Pt 101 0)], [(101, .box 27 (eFrc x_18))]⟩ rfl (Tri.seq (Tri.regionL ?_))
 refine Oc rfl (op_load_p tyAgg27 rfl rfl rfl rfl) ?_
 obtain ⟨x_19, e41, h⟩ := bnd h
 refine Oc rfl (op_call0 (ratio_Floor_spec e41) goes31 rfl rfl) ?_
 obtain ⟨x_20, e42, h⟩ := bnd h
 refine Oc rfl (op_call0 (r3_Of_spec e42) goes12 rfl rfl) (OpsL.keepS ⟨[(1, .b (.one (.raw (.func (.func 22) #[] #[])))), (2, B x_17), (3, Pt 101 0), (49, .b (.agg (eBig x_19))), (50, .b (.agg (eBig x_20)))], [(101, .box 27 (eFrc x_18))]⟩ rfl (Oc rfl (op_eql_agg (eqAgg25 x_19 x_20) rfl rfl) (Oc rfl (op_move rfl) ?_)))
 refine OpsL.consG (decide (x_19 = x_20)) 99 [] (.plain rfl) (eq_t _) rfl rfl (fun g43 => trivial) (fun g43 => op_load_p tyAgg27 rfl rfl rfl rfl) ?_
 obtain ⟨x_21, e45, h⟩ := bnd h
 refine OpsL.consG (decide (x_19 = x_20)) 99 [53] (.plain rfl) (eq_t _) rfl rfl (fun g44 => ⟨g44, trivial⟩) (fun g44 => op_call0 (ratio_Ceil_spec (gc e45 g44)) goes33 rfl rfl) (OpsL.keepS ⟨[(1, .b (.one (.raw (.func (.func 22) #[] #[])))), (2, B x_17), (3, Pt 101 0), (52, B (decide (x_19 = x_20))), (54, .opt (decide (x_19 = x_20)) (.agg (eBig x_21)))], [(101, .box 27 (eFrc x_18))]⟩ rfl ?_)
 obtain ⟨x_22, e47, h⟩ := bnd h
 refine OpsL.consG (decide (x_19 = x_20)) 99 [] (.plain rfl) (eq_t _) rfl rfl (fun g46 => trivial) (fun g46 => op_call0 (r3_Of_spec (gc e47 g46)) goes12 rfl rfl) (OpsL.consG (decide (x_19 = x_20)) 99 [54, 55] (.plain rfl) (eq_t _) rfl rfl (fun g48 => ⟨g48, g48, trivial⟩) (fun g48 => op_eql_agg (eqAgg25 x_21 x_22) rfl rfl) (Oc rfl (op_pick_and (fun e => e) rfl rfl rfl rfl) (Oc rfl (op_move rfl) ?_)))
 refine OpsL.consG ((decide (x_19 = x_20)) && (decide (x_21 = x_22))) 99 [] (.plain rfl) (eq_t _) rfl rfl (fun g49 => trivial) (fun g49 => op_load_p tyAgg27 rfl rfl rfl rfl) ?_
 obtain ⟨x_23, e51, h⟩ := bnd h
 refine OpsL.consG ((decide (x_19 = x_20)) && (decide (x_21 = x_22))) 99 [59] (.plain rfl) (eq_t _) rfl rfl (fun g50 => ⟨g50, trivial⟩) (fun g50 => op_call0 (ratio_Near_spec (gc e51 g50)) goes35 rfl rfl) (OpsL.keepS ⟨[(1, .b (.one (.raw (.func (.func 22) #[] #[])))), (2, B x_17), (58, B ((decide (x_19 = x_20)) && (decide (x_21 = x_22)))), (60, .opt ((decide (x_19 = x_20)) && (decide (x_21 = x_22))) (.agg (eBig x_23)))], []⟩ rfl ?_)
 obtain ⟨x_24, e53, h⟩ := bnd h
 refine OpsL.consG ((decide (x_19 = x_20)) && (decide (x_21 = x_22))) 99 [] (.plain rfl) (eq_t _) rfl rfl (fun g52 => trivial) (fun g52 => op_call0 (r3_Of_spec (gc e53 g52)) goes12 rfl rfl) (OpsL.consG ((decide (x_19 = x_20)) && (decide (x_21 = x_22))) 99 [60, 61] (.plain rfl) (eq_t _) rfl rfl (fun g54 => ⟨g54, g54, trivial⟩) (fun g54 => op_eql_agg (eqAgg25 x_23 x_24) rfl rfl) (OpsL.consB h rfl (op_pick_and (fun e => e) rfl rfl rfl rfl) (fun x_25 h => ?_)))
 refine Oc rfl (op_move rfl) (OpsL.consG x_25 99 [] (.plain rfl) (eq_t _) rfl rfl (fun g55 => trivial) (fun g55 => op_move rfl) ?_)
 obtain ⟨x_26, e57, h⟩ := bnd h
 refine OpsL.consG x_25 99 [65] (.plain rfl) (eq_t _) rfl rfl (fun g56 => ⟨g56, trivial⟩) (fun g56 => op_callv0 (ratio_Frac_spec (gc e57 g56)) goes22 rfl rfl rfl) (OpsL.keepS ⟨[(1, .b (.one (.raw (.func (.func 22) #[] #[])))), (2, B x_17), (64, B x_25), (66, .opt x_25 (.agg (eFrc x_26)))], []⟩ rfl ?_)
 obtain ⟨x_27, e59, h⟩ := bnd h
 refine OpsL.consG x_25 99 [66] (.plain rfl) (eq_t _) rfl rfl (fun g58 => ⟨g58, trivial⟩) (fun g58 => op_call0 (ratio_Near_spec (gc e59 g58)) goes35 rfl rfl) ?_
 obtain ⟨x_28, e61, h⟩ := bnd h
 refine OpsL.consG x_25 99 [] (.plain rfl) (eq_t _) rfl rfl (fun g60 => trivial) (fun g60 => op_call0 (r3_Of_spec (gc e61 g60)) goes12 rfl rfl) (OpsL.consG x_25 99 [67, 68] (.plain rfl) (eq_t _) rfl rfl (fun g62 => ⟨g62, g62, trivial⟩) (fun g62 => op_eql_agg (eqAgg25 x_27 x_28) rfl rfl) (Oc rfl (op_pick_and (fun e => e) rfl rfl rfl rfl) (Oc rfl (op_assign rfl) ?_)))
 refine OpsL.nilS ⟨[(1, .b (.one (.raw (.func (.func 22) #[] #[])))), (2, B x_17), (4, B (x_25 && (decide (x_27 = x_28))))], []⟩ rfl (Tri.seq (Tri.regionL ?_))
 refine Oc rfl (op_move rfl) ?_
 obtain ⟨x_29, e63, h⟩ := bnd h
 refine Oc rfl (op_callv0 (ratio_Frac_spec e63) goes22 rfl rfl rfl) ?_
 obtain ⟨⟨x_30, x_31⟩, e64, h⟩ := bnd h
 refine Oc rfl (op_call0 (ratio_Dyadic_spec e64) goes29 rfl rfl) (OpsL.keepS ⟨[(1, .b (.one (.raw (.func (.func 22) #[] #[])))), (2, B x_17), (4, B (x_25 && (decide (x_27 = x_28)))), (74, .tup [.agg (eFrc x_30), .agg (eFrc x_31)])], []⟩ rfl (Oc rfl (op_move rfl) (Oc rfl (op_extract rfl rfl) (Oc rfl (op_extract rfl rfl) (Oc rfl (op_alloc (k := 102) tyZero27 rfl) (Oc rfl (op_alloc (k := 103) tyZero27 rfl) (Oc rfl (op_store_p tyAgg27 rfl rfl rfl rfl (Nat.le_of_ble_eq_true rfl) rfl) ?_)))))))
 refine Oc rfl (op_store_p tyAgg27 rfl rfl rfl rfl (Nat.le_of_ble_eq_true rfl) rfl) (OpsL.nilS ⟨[(1, .b (.one (.raw (.func (.func 22) #[] #[])))), (2, B x_17), (4, B (x_25 && (decide (x_27 = x_28)))), (5, Pt 102 0), (6, Pt 103 0)], [(102, .box 27 (eFrc x_30)), (103, .box 27 (eFrc x_31))]⟩ rfl (Tri.seq (Tri.regionL ?_)))
 refine Oc rfl (op_load_p tyAgg27 rfl rfl rfl rfl) ?_
 obtain ⟨x_32, e65, h⟩ := bnd h
 refine Oc rfl (op_call0 (l4_text_spec e65) goes87 rfl rfl) (Oc rfl (op_move rfl) ?_)
 refine OpsL.consG x_32 99 [] (.plain rfl) (eq_t _) rfl rfl (fun g66 => trivial) (fun g66 => op_load_p tyAgg27 rfl rfl rfl rfl) (OpsL.keepS ⟨[(1, .b (.one (.raw (.func (.func 22) #[] #[])))), (2, B x_17), (4, B (x_25 && (decide (x_27 = x_28)))), (79, B x_32), (80, .opt x_32 (.agg (eFrc x_31)))], []⟩ rfl ?_)
 obtain ⟨x_33, e68, h⟩ := bnd h
 refine OpsL.consG x_32 99 [80] (.plain rfl) (eq_t _) rfl rfl (fun g67 => ⟨g67, trivial⟩) (fun g67 => op_call0 (l4_text_spec (gc e68 g67)) goes87 rfl rfl) (Oc rfl (op_pick_and (fun e => e) rfl rfl rfl rfl) (Oc rfl (op_move rfl) ?_))
 refine OpsL.consG (x_32 && x_33) 99 [] (.plain rfl) (eq_t _) rfl rfl (fun g69 => trivial) (fun g69 => op_move rfl) ?_
 obtain ⟨x_34, e71, h⟩ := bnd h
 refine OpsL.consG (x_32 && x_33) 99 [84] (.plain rfl) (eq_t _) rfl rfl (fun g70 => ⟨g70, trivial⟩) (fun g70 => op_callv0 (ratio_Frac_spec (gc e71 g70)) goes22 rfl rfl rfl) (OpsL.consG (x_32 && x_33) 99 [] (.plain rfl) (eq_t _) rfl rfl (fun g72 => trivial) (fun g72 => op_move rfl) (OpsL.keepS ⟨[(1, .b (.one (.raw (.func (.func 22) #[] #[])))), (2, B x_17), (4, B (x_25 && (decide (x_27 = x_28)))), (83, B (x_32 && x_33)), (85, .opt (x_32 && x_33) (.agg (eFrc x_34))), (86, .opt (x_32 && x_33) (.one (.raw (.func (.func 22) #[] #[]))))], []⟩ rfl ?_))
 obtain ⟨x_35, e74, h⟩ := bnd h
 refine OpsL.consG (x_32 && x_33) 99 [86] (.plain rfl) (eq_t _) rfl rfl (fun g73 => ⟨g73, trivial⟩) (fun g73 => op_callv0 (ratio_Frac_spec (gc e74 g73)) goes22 rfl rfl rfl) ?_
 obtain ⟨x_36, e76, h⟩ := bnd h
 refine OpsL.consG (x_32 && x_33) 99 [85, 87] (.plain rfl) (eq_t _) rfl rfl (fun g75 => ⟨g75, g75, trivial⟩) (fun g75 => op_call0 (ratio_Simplest_spec (gc e76 g75)) goes48 rfl rfl) ?_
 obtain ⟨x_37, e78, h⟩ := bnd h
 refine OpsL.consG (x_32 && x_33) 99 [88] (.plain rfl) (eq_t _) rfl rfl (fun g77 => ⟨g77, trivial⟩) (fun g77 => op_call0 (l4_text_spec (gc e78 g77)) goes87 rfl rfl) (Oc rfl (op_pick_and (fun e => e) rfl rfl rfl rfl) (OpsL.keepS ⟨[(1, .b (.one (.raw (.func (.func 22) #[] #[])))), (2, B x_17), (4, B (x_25 && (decide (x_27 = x_28)))), (90, B ((x_32 && x_33) && x_37))], []⟩ rfl (Oc rfl (op_move rfl) (OpsL.consG ((x_32 && x_33) && x_37) 99 [] (.plain rfl) (eq_t _) rfl rfl (fun g79 => trivial) (fun g79 => op_move rfl) ?_))))
 obtain ⟨x_38, e81, h⟩ := bnd h
 refine OpsL.consG ((x_32 && x_33) && x_37) 99 [92] (.plain rfl) (eq_t _) rfl rfl (fun g80 => ⟨g80, trivial⟩) (fun g80 => op_callv0 (ratio_Frac_spec (gc e81 g80)) goes22 rfl rfl rfl) (OpsL.consG ((x_32 && x_33) && x_37) 99 [] (.plain rfl) (eq_t _) rfl rfl (fun g82 => trivial) (fun g82 => op_move rfl) (OpsL.keepS ⟨[(1, .b (.one (.raw (.func (.func 22) #[] #[])))), (2, B x_17), (4, B (x_25 && (decide (x_27 = x_28)))), (91, B ((x_32 && x_33) && x_37)), (93, .opt ((x_32 && x_33) && x_37) (.agg (eFrc x_38))), (94, .opt ((x_32 && x_33) && x_37) (.one (.raw (.func (.func 22) #[] #[]))))], []⟩ rfl ?_))
 obtain ⟨x_39, e84, h⟩ := bnd h
 refine OpsL.consG ((x_32 && x_33) && x_37) 99 [94] (.plain rfl) (eq_t _) rfl rfl (fun g83 => ⟨g83, trivial⟩) (fun g83 => op_callv0 (ratio_Frac_spec (gc e84 g83)) goes22 rfl rfl rfl) ?_
 obtain ⟨x_40, e86, h⟩ := bnd h
 refine OpsL.consG ((x_32 && x_33) && x_37) 99 [93, 95] (.plain rfl) (eq_t _) rfl rfl (fun g85 => ⟨g85, g85, trivial⟩) (fun g85 => op_call0 (ratio_Simplest_spec (gc e86 g85)) goes48 rfl rfl) ?_
 obtain ⟨x_41, e88, h⟩ := bnd h
 refine OpsL.consG ((x_32 && x_33) && x_37) 99 [96] (.plain rfl) (eq_t _) rfl rfl (fun g87 => ⟨g87, trivial⟩) (fun g87 => op_call0 (l4_text_spec (gc e88 g87)) goes87 rfl rfl) (Oc rfl (op_pick_and (fun e => e) rfl rfl rfl rfl) (OpsL.keepS ⟨[(1, .b (.one (.raw (.func (.func 22) #[] #[])))), (2, B x_17), (4, B (x_25 && (decide (x_27 = x_28)))), (98, B (((x_32 && x_33) && x_37) && x_41))], []⟩ rfl (Oc rfl (op_move rfl) (OpsL.consG (((x_32 && x_33) && x_37) && x_41) 99 [] (.plain rfl) (eq_t _) rfl rfl (fun g89 => trivial) (fun g89 => op_move rfl) ?_))))
 obtain ⟨x_42, e91, h⟩ := bnd h
 refine OpsL.consG (((x_32 && x_33) && x_37) && x_41) 99 [100] (.plain rfl) (eq_t _) rfl rfl (fun g90 => ⟨g90, trivial⟩) (fun g90 => op_callv0 (ratio_Frac_spec (gc e91 g90)) goes22 rfl rfl rfl) (OpsL.consG (((x_32 && x_33) && x_37) && x_41) 99 [] (.plain rfl) (eq_t _) rfl rfl (fun g92 => trivial) (fun g92 => op_move rfl) (OpsL.keepS ⟨[(1, .b (.one (.raw (.func (.func 22) #[] #[])))), (2, B x_17), (4, B (x_25 && (decide (x_27 = x_28)))), (99, B (((x_32 && x_33) && x_37) && x_41)), (101, .opt (((x_32 && x_33) && x_37) && x_41) (.agg (eFrc x_42))), (102, .opt (((x_32 && x_33) && x_37) && x_41) (.one (.raw (.func (.func 22) #[] #[]))))], []⟩ rfl ?_))
 obtain ⟨x_43, e94, h⟩ := bnd h
 refine OpsL.consG (((x_32 && x_33) && x_37) && x_41) 99 [102] (.plain rfl) (eq_t _) rfl rfl (fun g93 => ⟨g93, trivial⟩) (fun g93 => op_callv0 (ratio_Frac_spec (gc e94 g93)) goes22 rfl rfl rfl) ?_
 obtain ⟨x_44, e96, h⟩ := bnd h
 refine OpsL.consG (((x_32 && x_33) && x_37) && x_41) 99 [101, 103] (.plain rfl) (eq_t _) rfl rfl (fun g95 => ⟨g95, g95, trivial⟩) (fun g95 => op_call0 (ratio_Simplest_spec (gc e96 g95)) goes48 rfl rfl) ?_
 obtain ⟨x_45, e98, h⟩ := bnd h
 refine OpsL.consG (((x_32 && x_33) && x_37) && x_41) 99 [104] (.plain rfl) (eq_t _) rfl rfl (fun g97 => ⟨g97, trivial⟩) (fun g97 => op_call0 (l4_text_spec (gc e98 g97)) goes87 rfl rfl) (Oc rfl (op_pick_and (fun e => e) rfl rfl rfl rfl) (OpsL.keepS ⟨[(1, .b (.one (.raw (.func (.func 22) #[] #[])))), (2, B x_17), (4, B (x_25 && (decide (x_27 = x_28)))), (106, B ((((x_32 && x_33) && x_37) && x_41) && x_45))], []⟩ rfl (Oc rfl (op_move rfl) (OpsL.consG ((((x_32 && x_33) && x_37) && x_41) && x_45) 99 [] (.plain rfl) (eq_t _) rfl rfl (fun g99 => trivial) (fun g99 => op_move rfl) ?_))))
 obtain ⟨x_46, e101, h⟩ := bnd h
 refine OpsL.consG ((((x_32 && x_33) && x_37) && x_41) && x_45) 99 [108] (.plain rfl) (eq_t _) rfl rfl (fun g100 => ⟨g100, trivial⟩) (fun g100 => op_callv0 (ratio_Frac_spec (gc e101 g100)) goes22 rfl rfl rfl) (OpsL.consG ((((x_32 && x_33) && x_37) && x_41) && x_45) 99 [] (.plain rfl) (eq_t _) rfl rfl (fun g102 => trivial) (fun g102 => op_move rfl) (OpsL.keepS ⟨[(1, .b (.one (.raw (.func (.func 22) #[] #[])))), (2, B x_17), (4, B (x_25 && (decide (x_27 = x_28)))), (107, B ((((x_32 && x_33) && x_37) && x_41) && x_45)), (109, .opt ((((x_32 && x_33) && x_37) && x_41) && x_45) (.agg (eFrc x_46))), (110, .opt ((((x_32 && x_33) && x_37) && x_41) && x_45) (.one (.raw (.func (.func 22) #[] #[]))))], []⟩ rfl ?_))
 obtain ⟨x_47, e104, h⟩ := bnd h
 refine OpsL.consG ((((x_32 && x_33) && x_37) && x_41) && x_45) 99 [110] (.plain rfl) (eq_t _) rfl rfl (fun g103 => ⟨g103, trivial⟩) (fun g103 => op_callv0 (ratio_Frac_spec (gc e104 g103)) goes22 rfl rfl rfl) ?_
 obtain ⟨x_48, e106, h⟩ := bnd h
 refine OpsL.consG ((((x_32 && x_33) && x_37) && x_41) && x_45) 99 [109, 111] (.plain rfl) (eq_t _) rfl rfl (fun g105 => ⟨g105, g105, trivial⟩) (fun g105 => op_call0 (ratio_Simplest_spec (gc e106 g105)) goes48 rfl rfl) ?_
 obtain ⟨x_49, e108, h⟩ := bnd h
 refine OpsL.consG ((((x_32 && x_33) && x_37) && x_41) && x_45) 99 [112] (.plain rfl) (eq_t _) rfl rfl (fun g107 => ⟨g107, trivial⟩) (fun g107 => op_call0 (l4_text_spec (gc e108 g107)) goes87 rfl rfl) (Oc rfl (op_pick_and (fun e => e) rfl rfl rfl rfl) (Oc rfl (op_assign rfl) ?_))
 refine OpsL.nilS ⟨[(1, .b (.one (.raw (.func (.func 22) #[] #[])))), (2, B x_17), (4, B (x_25 && (decide (x_27 = x_28)))), (7, B (((((x_32 && x_33) && x_37) && x_41) && x_45) && x_49))], []⟩ rfl (Tri.seq (Tri.regionL ?_))
 obtain ⟨⟨x_50, x_51⟩, e109, h⟩ := bnd h
 refine Oc rfl (op_call0 (ratio_Parse_spec e109) goes52 rfl rfl) (Oc rfl (op_move rfl) (Oc rfl (op_extract rfl rfl) (Oc rfl (op_extract rfl rfl) ?_)))
 refine OpsL.keepS ⟨[(1, .b (.one (.raw (.func (.func 22) #[] #[])))), (2, B x_17), (4, B (x_25 && (decide (x_27 = x_28)))), (7, B (((((x_32 && x_33) && x_37) && x_41) && x_45) && x_49)), (117, .b (.agg (eFrc x_50))), (118, I x_51)], []⟩ rfl (Oc rfl (op_alloc (k := 104) tyZero27 rfl) (Oc rfl (op_store_p tyAgg27 rfl rfl rfl rfl (Nat.le_of_ble_eq_true rfl) rfl) (Oc rfl (op_assign rfl) ?_)))
 refine OpsL.nilS ⟨[(1, .b (.one (.raw (.func (.func 22) #[] #[])))), (2, B x_17), (4, B (x_25 && (decide (x_27 = x_28)))), (7, B (((((x_32 && x_33) && x_37) && x_41) && x_45) && x_49)), (9, I x_51)], []⟩ rfl (Tri.seq (Tri.regionL ?_))
 obtain ⟨⟨x_52, x_53⟩, e110, h⟩ := bnd h
 refine Oc rfl (op_call0 (ratio_Parse_spec e110) goes52 rfl rfl) (Oc rfl (op_move rfl) (Oc rfl (op_extract rfl rfl) (Oc rfl (op_extract rfl rfl) ?_)))
 refine OpsL.keepS ⟨[(1, .b (.one (.raw (.func (.func 22) #[] #[])))), (2, B x_17), (4, B (x_25 && (decide (x_27 = x_28)))), (7, B (((((x_32 && x_33) && x_37) && x_41) && x_45) && x_49)), (9, I x_51), (121, .b (.agg (eFrc x_52))), (122, I x_53)], []⟩ rfl (Oc rfl (op_alloc (k := 105) tyZero27 rfl) (Oc rfl (op_store_p tyAgg27 rfl rfl rfl rfl (Nat.le_of_ble_eq_true rfl) rfl) (Oc rfl (op_assign rfl) ?_)))
 refine OpsL.nilS ⟨[(1, .b (.one (.raw (.func (.func 22) #[] #[])))), (2, B x_17), (4, B (x_25 && (decide (x_27 = x_28)))), (7, B (((((x_32 && x_33) && x_37) && x_41) && x_45) && x_49)), (9, I x_51), (10, Pt 105 0), (11, I x_53)], [(105, .box 27 (eFrc x_52))]⟩ rfl (Tri.seq ?_)
 obtain ⟨x_54, e120, h⟩ := bnd h
 obtain ⟨x_55, e125, h⟩ := bnd h
 obtain ⟨x_56, e127, h⟩ := bnd h
 obtain ⟨x_57, e131, h⟩ := bnd h
 obtain ⟨x_58, e133, h⟩ := bnd h
 obtain ⟨x_59, e135, h⟩ := bnd h
 obtain ⟨x_60, e137, h⟩ := bnd h
 obtain ⟨x_61, e139, h⟩ := bnd h
 refine Tri.regionY mixed 42 [B x_17, B x_17, .opt x_17 (.one (.bool (x_25 && (decide (x_27 = x_28))))), B (x_17 && (x_25 && (decide (x_27 = x_28)))), B (x_17 && (x_25 && (decide (x_27 = x_28)))), .opt (x_17 && (x_25 && (decide (x_27 = x_28)))) (.one (.bool (((((x_32 && x_33) && x_37) && x_41) && x_45) && x_49))), B ((x_17 && (x_25 && (decide (x_27 = x_28)))) && (((((x_32 && x_33) && x_37) && x_41) && x_45) && x_49)), B ((x_17 && (x_25 && (decide (x_27 = x_28)))) && (((((x_32 && x_33) && x_37) && x_41) && x_45) && x_49)), .opt ((x_17 && (x_25 && (decide (x_27 = x_28)))) && (((((x_32 && x_33) && x_37) && x_41) && x_45) && x_49)) (.one (.i x_51)), .opt ((x_17 && (x_25 && (decide (x_27 = x_28)))) && (((((x_32 && x_33) && x_37) && x_41) && x_45) && x_49)) (.one (.bool (decide (x_51 = 281)))), B (((x_17 && (x_25 && (decide (x_27 = x_28)))) && (((((x_32 && x_33) && x_37) && x_41) && x_45) && x_49)) && (decide (x_51 = 281))), B (((x_17 && (x_25 && (decide (x_27 = x_28)))) && (((((x_32 && x_33) && x_37) && x_41) && x_45) && x_49)) && (decide (x_51 = 281))), .opt (((x_17 && (x_25 && (decide (x_27 = x_28)))) && (((((x_32 && x_33) && x_37) && x_41) && x_45) && x_49)) && (decide (x_51 = 281))) (.one (.i x_53)), .opt (((x_17 && (x_25 && (decide (x_27 = x_28)))) && (((((x_32 && x_33) && x_37) && x_41) && x_45) && x_49)) && (decide (x_51 = 281))) (.one (.bool (decide (x_53 = 0)))), B ((((x_17 && (x_25 && (decide (x_27 = x_28)))) && (((((x_32 && x_33) && x_37) && x_41) && x_45) && x_49)) && (decide (x_51 = 281))) && (decide (x_53 = 0))), B ((((x_17 && (x_25 && (decide (x_27 = x_28)))) && (((((x_32 && x_33) && x_37) && x_41) && x_45) && x_49)) && (decide (x_51 = 281))) && (decide (x_53 = 0))), .opt ((((x_17 && (x_25 && (decide (x_27 = x_28)))) && (((((x_32 && x_33) && x_37) && x_41) && x_45) && x_49)) && (decide (x_51 = 281))) && (decide (x_53 = 0))) (.agg (eFrc x_52)), .opt ((((x_17 && (x_25 && (decide (x_27 = x_28)))) && (((((x_32 && x_33) && x_37) && x_41) && x_45) && x_49)) && (decide (x_51 = 281))) && (decide (x_53 = 0))) (.one (.raw (.func (.func 22) #[] #[]))), .opt ((((x_17 && (x_25 && (decide (x_27 = x_28)))) && (((((x_32 && x_33) && x_37) && x_41) && x_45) && x_49)) && (decide (x_51 = 281))) && (decide (x_53 = 0))) (.agg (eFrc x_54)), .opt ((((x_17 && (x_25 && (decide (x_27 = x_28)))) && (((((x_32 && x_33) && x_37) && x_41) && x_45) && x_49)) && (decide (x_51 = 281))) && (decide (x_53 = 0))) (.one (.bool (decide (x_52 = x_54)))), B (((((x_17 && (x_25 && (decide (x_27 = x_28)))) && (((((x_32 && x_33) && x_37) && x_41) && x_45) && x_49)) && (decide (x_51 = 281))) && (decide (x_53 = 0))) && (decide (x_52 = x_54))), B (((((x_17 && (x_25 && (decide (x_27 = x_28)))) && (((((x_32 && x_33) && x_37) && x_41) && x_45) && x_49)) && (decide (x_51 = 281))) && (decide (x_53 = 0))) && (decide (x_52 = x_54))), .opt (((((x_17 && (x_25 && (decide (x_27 = x_28)))) && (((((x_32 && x_33) && x_37) && x_41) && x_45) && x_49)) && (decide (x_51 = 281))) && (decide (x_53 = 0))) && (decide (x_52 = x_54))) (.agg (eFrc x_52)), .opt (((((x_17 && (x_25 && (decide (x_27 = x_28)))) && (((((x_32 && x_33) && x_37) && x_41) && x_45) && x_49)) && (decide (x_51 = 281))) && (decide (x_53 = 0))) && (decide (x_52 = x_54))) (.one (.raw (.func (.func 22) #[] #[]))), .opt (((((x_17 && (x_25 && (decide (x_27 = x_28)))) && (((((x_32 && x_33) && x_37) && x_41) && x_45) && x_49)) && (decide (x_51 = 281))) && (decide (x_53 = 0))) && (decide (x_52 = x_54))) (.agg (eFrc x_55)), .opt (((((x_17 && (x_25 && (decide (x_27 = x_28)))) && (((((x_32 && x_33) && x_37) && x_41) && x_45) && x_49)) && (decide (x_51 = 281))) && (decide (x_53 = 0))) && (decide (x_52 = x_54))) (.one (.i x_56)), .opt (((((x_17 && (x_25 && (decide (x_27 = x_28)))) && (((((x_32 && x_33) && x_37) && x_41) && x_45) && x_49)) && (decide (x_51 = 281))) && (decide (x_53 = 0))) && (decide (x_52 = x_54))) (.one (.bool (decide (x_56 = (-1))))), B ((((((x_17 && (x_25 && (decide (x_27 = x_28)))) && (((((x_32 && x_33) && x_37) && x_41) && x_45) && x_49)) && (decide (x_51 = 281))) && (decide (x_53 = 0))) && (decide (x_52 = x_54))) && (decide (x_56 = (-1)))), B ((((((x_17 && (x_25 && (decide (x_27 = x_28)))) && (((((x_32 && x_33) && x_37) && x_41) && x_45) && x_49)) && (decide (x_51 = 281))) && (decide (x_53 = 0))) && (decide (x_52 = x_54))) && (decide (x_56 = (-1)))), .opt ((((((x_17 && (x_25 && (decide (x_27 = x_28)))) && (((((x_32 && x_33) && x_37) && x_41) && x_45) && x_49)) && (decide (x_51 = 281))) && (decide (x_53 = 0))) && (decide (x_52 = x_54))) && (decide (x_56 = (-1)))) (.agg (eFrc x_52)), .opt ((((((x_17 && (x_25 && (decide (x_27 = x_28)))) && (((((x_32 && x_33) && x_37) && x_41) && x_45) && x_49)) && (decide (x_51 = 281))) && (decide (x_53 = 0))) && (decide (x_52 = x_54))) && (decide (x_56 = (-1)))) (.one (.bool x_57)), B (((((((x_17 && (x_25 && (decide (x_27 = x_28)))) && (((((x_32 && x_33) && x_37) && x_41) && x_45) && x_49)) && (decide (x_51 = 281))) && (decide (x_53 = 0))) && (decide (x_52 = x_54))) && (decide (x_56 = (-1)))) && x_57), B (((((((x_17 && (x_25 && (decide (x_27 = x_28)))) && (((((x_32 && x_33) && x_37) && x_41) && x_45) && x_49)) && (decide (x_51 = 281))) && (decide (x_53 = 0))) && (decide (x_52 = x_54))) && (decide (x_56 = (-1)))) && x_57), .opt (((((((x_17 && (x_25 && (decide (x_27 = x_28)))) && (((((x_32 && x_33) && x_37) && x_41) && x_45) && x_49)) && (decide (x_51 = 281))) && (decide (x_53 = 0))) && (decide (x_52 = x_54))) && (decide (x_56 = (-1)))) && x_57) (.agg (eFrc x_58)), .opt (((((((x_17 && (x_25 && (decide (x_27 = x_28)))) && (((((x_32 && x_33) && x_37) && x_41) && x_45) && x_49)) && (decide (x_51 = 281))) && (decide (x_53 = 0))) && (decide (x_52 = x_54))) && (decide (x_56 = (-1)))) && x_57) (.one (.bool x_59)), B ((((((((x_17 && (x_25 && (decide (x_27 = x_28)))) && (((((x_32 && x_33) && x_37) && x_41) && x_45) && x_49)) && (decide (x_51 = 281))) && (decide (x_53 = 0))) && (decide (x_52 = x_54))) && (decide (x_56 = (-1)))) && x_57) && x_59), B ((((((((x_17 && (x_25 && (decide (x_27 = x_28)))) && (((((x_32 && x_33) && x_37) && x_41) && x_45) && x_49)) && (decide (x_51 = 281))) && (decide (x_53 = 0))) && (decide (x_52 = x_54))) && (decide (x_56 = (-1)))) && x_57) && x_59), .opt ((((((((x_17 && (x_25 && (decide (x_27 = x_28)))) && (((((x_32 && x_33) && x_37) && x_41) && x_45) && x_49)) && (decide (x_51 = 281))) && (decide (x_53 = 0))) && (decide (x_52 = x_54))) && (decide (x_56 = (-1)))) && x_57) && x_59) (.agg (eFrc x_60)), .opt ((((((((x_17 && (x_25 && (decide (x_27 = x_28)))) && (((((x_32 && x_33) && x_37) && x_41) && x_45) && x_49)) && (decide (x_51 = 281))) && (decide (x_53 = 0))) && (decide (x_52 = x_54))) && (decide (x_56 = (-1)))) && x_57) && x_59) (.one (.bool x_61)), .opt ((((((((x_17 && (x_25 && (decide (x_27 = x_28)))) && (((((x_32 && x_33) && x_37) && x_41) && x_45) && x_49)) && (decide (x_51 = 281))) && (decide (x_53 = 0))) && (decide (x_52 = x_54))) && (decide (x_56 = (-1)))) && x_57) && x_59) (.one (.bool (!x_61))), B (((((((((x_17 && (x_25 && (decide (x_27 = x_28)))) && (((((x_32 && x_33) && x_37) && x_41) && x_45) && x_49)) && (decide (x_51 = 281))) && (decide (x_53 = 0))) && (decide (x_52 = x_54))) && (decide (x_56 = (-1)))) && x_57) && x_59) && (!x_61)), B (((((((((x_17 && (x_25 && (decide (x_27 = x_28)))) && (((((x_32 && x_33) && x_37) && x_41) && x_45) && x_49)) && (decide (x_51 = 281))) && (decide (x_53 = 0))) && (decide (x_52 = x_54))) && (decide (x_56 = (-1)))) && x_57) && x_59) && (!x_61))] [0] [] (s' := ⟨[(0, B (((((((((x_17 && (x_25 && (decide (x_27 = x_28)))) && (((((x_32 && x_33) && x_37) && x_41) && x_45) && x_49)) && (decide (x_51 = 281))) && (decide (x_53 = 0))) && (decide (x_52 = x_54))) && (decide (x_56 = (-1)))) && x_57) && x_59) && (!x_61)))], []⟩) rfl ⟨fun _ => .plain rfl (op_move rfl), fun _ => .plain rfl (op_move rfl), fun _ => by exact .guard x_17 1 [] (.plain rfl) (eq_t _) rfl rfl (fun g111 => trivial) (fun g111 => op_move rfl), fun _ => .plain rfl (op_pick_and (fun e => e) rfl rfl rfl rfl), fun _ => .plain rfl (op_move rfl), fun _ => by exact .guard (x_17 && (x_25 && (decide (x_27 = x_28)))) 1 [] (.plain rfl) (eq_t _) rfl rfl (fun g112 => trivial) (fun g112 => op_move rfl), fun _ => .plain rfl (op_pick_and (fun e => e) rfl rfl rfl rfl), fun _ => .plain rfl (op_move rfl), fun _ => by exact .guard ((x_17 && (x_25 && (decide (x_27 = x_28)))) && (((((x_32 && x_33) && x_37) && x_41) && x_45) && x_49)) 1 [] (.plain rfl) (eq_t _) rfl rfl (fun g113 => trivial) (fun g113 => op_move rfl), fun _ => by exact .guard ((x_17 && (x_25 && (decide (x_27 = x_28)))) && (((((x_32 && x_33) && x_37) && x_41) && x_45) && x_49)) 2 [131] (.plain rfl) (eq_t _) rfl rfl (fun g114 => ⟨g114, trivial⟩) (fun g114 => op_eql rfl rfl), fun _ => .plain rfl (op_pick_and (fun e => e) rfl rfl rfl rfl), fun _ => .plain rfl (op_move rfl), fun _ => by exact .guard (((x_17 && (x_25 && (decide (x_27 = x_28)))) && (((((x_32 && x_33) && x_37) && x_41) && x_45) && x_49)) && (decide (x_51 = 281))) 1 [] (.plain rfl) (eq_t _) rfl rfl (fun g115 => trivial) (fun g115 => op_move rfl), fun _ => by exact .guard (((x_17 && (x_25 && (decide (x_27 = x_28)))) && (((((x_32 && x_33) && x_37) && x_41) && x_45) && x_49)) && (decide (x_51 = 281))) 2 [135] (.plain rfl) (eq_t _) rfl rfl (fun g116 => ⟨g116, trivial⟩) (fun g116 => op_eql rfl rfl), fun _ => .plain rfl (op_pick_and (fun e => e) rfl rfl rfl rfl), fun _ => .plain rfl (op_move rfl), fun _ => by exact .guard ((((x_17 && (x_25 && (decide (x_27 = x_28)))) && (((((x_32 && x_33) && x_37) && x_41) && x_45) && x_49)) && (decide (x_51 = 281))) && (decide (x_53 = 0))) 1 [] (.plain rfl) (eq_t _) rfl rfl (fun g117 => trivial) (fun g117 => op_load_p tyAgg27 rfl rfl rfl rfl), fun _ => by exact .guard ((((x_17 && (x_25 && (decide (x_27 = x_28)))) && (((((x_32 && x_33) && x_37) && x_41) && x_45) && x_49)) && (decide (x_51 = 281))) && (decide (x_53 = 0))) 1 [] (.plain rfl) (eq_t _) rfl rfl (fun g118 => trivial) (fun g118 => op_move rfl), fun _ => by exact .guard ((((x_17 && (x_25 && (decide (x_27 = x_28)))) && (((((x_32 && x_33) && x_37) && x_41) && x_45) && x_49)) && (decide (x_51 = 281))) && (decide (x_53 = 0))) 3 [140] (.plain rfl) (eq_t _) rfl rfl (fun g119 => ⟨g119, trivial⟩) (fun g119 => op_callv0 (ratio_Frac_spec (gc e120 g119)) goes22 rfl rfl rfl), fun _ => by exact .guard ((((x_17 && (x_25 && (decide (x_27 = x_28)))) && (((((x_32 && x_33) && x_37) && x_41) && x_45) && x_49)) && (decide (x_51 = 281))) && (decide (x_53 = 0))) 3 [139, 141] (.plain rfl) (eq_t _) rfl rfl (fun g121 => ⟨g121, g121, trivial⟩) (fun g121 => op_eql_agg (eqAgg27 x_52 x_54) rfl rfl), fun _ => .plain rfl (op_pick_and (fun e => e) rfl rfl rfl rfl), fun _ => .plain rfl (op_move rfl), fun _ => by exact .guard (((((x_17 && (x_25 && (decide (x_27 = x_28)))) && (((((x_32 && x_33) && x_37) && x_41) && x_45) && x_49)) && (decide (x_51 = 281))) && (decide (x_53 = 0))) && (decide (x_52 = x_54))) 1 [] (.plain rfl) (eq_t _) rfl rfl (fun g122 => trivial) (fun g122 => op_load_p tyAgg27 rfl rfl rfl rfl), fun _ => by exact .guard (((((x_17 && (x_25 && (decide (x_27 = x_28)))) && (((((x_32 && x_33) && x_37) && x_41) && x_45) && x_49)) && (decide (x_51 = 281))) && (decide (x_53 = 0))) && (decide (x_52 = x_54))) 1 [] (.plain rfl) (eq_t _) rfl rfl (fun g123 => trivial) (fun g123 => op_move rfl), fun _ => by exact .guard (((((x_17 && (x_25 && (decide (x_27 = x_28)))) && (((((x_32 && x_33) && x_37) && x_41) && x_45) && x_49)) && (decide (x_51 = 281))) && (decide (x_53 = 0))) && (decide (x_52 = x_54))) 3 [146] (.plain rfl) (eq_t _) rfl rfl (fun g124 => ⟨g124, trivial⟩) (fun g124 => op_callv0 (ratio_Frac_spec (gc e125 g124)) goes22 rfl rfl rfl), fun _ => by exact .guard (((((x_17 && (x_25 && (decide (x_27 = x_28)))) && (((((x_32 && x_33) && x_37) && x_41) && x_45) && x_49)) && (decide (x_51 = 281))) && (decide (x_53 = 0))) && (decide (x_52 = x_54))) 4 [145, 147] (.plain rfl) (eq_t _) rfl rfl (fun g126 => ⟨g126, g126, g126, trivial⟩) (fun g126 => op_call0 (ratio_Cmp_spec (gc e127 g126)) goes39 rfl rfl), fun _ => by exact .guard (((((x_17 && (x_25 && (decide (x_27 = x_28)))) && (((((x_32 && x_33) && x_37) && x_41) && x_45) && x_49)) && (decide (x_51 = 281))) && (decide (x_53 = 0))) && (decide (x_52 = x_54))) 2 [148] (.plain rfl) (eq_t _) rfl rfl (fun g128 => ⟨g128, trivial⟩) (fun g128 => op_eql rfl rfl), fun _ => .plain rfl (op_pick_and (fun e => e) rfl rfl rfl rfl), fun _ => .plain rfl (op_move rfl), fun _ => by exact .guard ((((((x_17 && (x_25 && (decide (x_27 = x_28)))) && (((((x_32 && x_33) && x_37) && x_41) && x_45) && x_49)) && (decide (x_51 = 281))) && (decide (x_53 = 0))) && (decide (x_52 = x_54))) && (decide (x_56 = (-1)))) 1 [] (.plain rfl) (eq_t _) rfl rfl (fun g129 => trivial) (fun g129 => op_load_p tyAgg27 rfl rfl rfl rfl), fun _ => by exact .guard ((((((x_17 && (x_25 && (decide (x_27 = x_28)))) && (((((x_32 && x_33) && x_37) && x_41) && x_45) && x_49)) && (decide (x_51 = 281))) && (decide (x_53 = 0))) && (decide (x_52 = x_54))) && (decide (x_56 = (-1)))) 3 [152] (.plain rfl) (eq_t _) rfl rfl (fun g130 => ⟨g130, trivial⟩) (fun g130 => op_call0 (ratio_Good_spec (gc e131 g130)) goes26 rfl rfl), fun _ => .plain rfl (op_pick_and (fun e => e) rfl rfl rfl rfl), fun _ => .plain rfl (op_move rfl), fun _ => by exact .guard (((((((x_17 && (x_25 && (decide (x_27 = x_28)))) && (((((x_32 && x_33) && x_37) && x_41) && x_45) && x_49)) && (decide (x_51 = 281))) && (decide (x_53 = 0))) && (decide (x_52 = x_54))) && (decide (x_56 = (-1)))) && x_57) 2 [] (.plain rfl) (eq_t _) rfl rfl (fun g132 => trivial) (fun g132 => op_call0 (ratio_Bad_spec (gc e133 g132)) goes27 rfl rfl), fun _ => by exact .guard (((((((x_17 && (x_25 && (decide (x_27 = x_28)))) && (((((x_32 && x_33) && x_37) && x_41) && x_45) && x_49)) && (decide (x_51 = 281))) && (decide (x_53 = 0))) && (decide (x_52 = x_54))) && (decide (x_56 = (-1)))) && x_57) 3 [156] (.plain rfl) (eq_t _) rfl rfl (fun g134 => ⟨g134, g134, trivial⟩) (fun g134 => op_call0 (ratio_Valid_spec (gc e135 g134)) goes24 rfl rfl), fun _ => .plain rfl (op_pick_and (fun e => e) rfl rfl rfl rfl), fun _ => .plain rfl (op_move rfl), fun _ => by exact .guard ((((((((x_17 && (x_25 && (decide (x_27 = x_28)))) && (((((x_32 && x_33) && x_37) && x_41) && x_45) && x_49)) && (decide (x_51 = 281))) && (decide (x_53 = 0))) && (decide (x_52 = x_54))) && (decide (x_56 = (-1)))) && x_57) && x_59) 2 [] (.plain rfl) (eq_t _) rfl rfl (fun g136 => trivial) (fun g136 => op_call0 (ratio_Bad_spec (gc e137 g136)) goes27 rfl rfl), fun _ => by exact .guard ((((((((x_17 && (x_25 && (decide (x_27 = x_28)))) && (((((x_32 && x_33) && x_37) && x_41) && x_45) && x_49)) && (decide (x_51 = 281))) && (decide (x_53 = 0))) && (decide (x_52 = x_54))) && (decide (x_56 = (-1)))) && x_57) && x_59) 3 [160] (.plain rfl) (eq_t _) rfl rfl (fun g138 => ⟨g138, g138, trivial⟩) (fun g138 => op_call0 (ratio_Good_spec (gc e139 g138)) goes26 rfl rfl), fun _ => by exact .guard ((((((((x_17 && (x_25 && (decide (x_27 = x_28)))) && (((((x_32 && x_33) && x_37) && x_41) && x_45) && x_49)) && (decide (x_51 = 281))) && (decide (x_53 = 0))) && (decide (x_52 = x_54))) && (decide (x_56 = (-1)))) && x_57) && x_59) 2 [161] (.plain rfl) (eq_t _) rfl rfl (fun g140 => ⟨g140, trivial⟩) (fun g140 => op_not rfl), fun _ => .plain rfl (op_pick_and (fun e => e) rfl rfl rfl rfl), fun _ => .plain rfl (op_assign rfl), trivial⟩ rfl rfl ?_
 refine Tri.ret ?_
 obtain rfl := Option.some.inj h
 refine Fin.keepS ⟨[(0, B (((((((((x_17 && (x_25 && (decide (x_27 = x_28)))) && (((((x_32 && x_33) && x_37) && x_41) && x_45) && x_49)) && (decide (x_51 = 281))) && (decide (x_53 = 0))) && (decide (x_52 = x_54))) && (decide (x_56 = (-1)))) && x_57) && x_59) && (!x_61)))], []⟩ rfl (Fin.result' [.one (.bool (((((((((x_17 && (x_25 && (decide (x_27 = x_28)))) && (((((x_32 && x_33) && x_37) && x_41) && x_45) && x_49)) && (decide (x_51 = 281))) && (decide (x_53 = 0))) && (decide (x_52 = x_54))) && (decide (x_56 = (-1)))) && x_57) && x_59) && (!x_61)))] (.inl rfl) rfl (.cons (.tmp rfl) .nil) ⟨rfl, rfl⟩)
def r3_power_S (F : Nat) (k0 : Int) : Option (List Int) :=
 (quo? .i64 k0 16).bind fun x_1 => Option.bind (mk? (0 : Int) (IntKind.i64.wrap (x_1 + 1)) (IntKind.i64.wrap (x_1 + 1))) (fun x_2 => (quo? .i64 k0 16).bind fun x_3 => Option.bind (shl? .i64 1 (Int.tmod k0 16)) (fun x_4 => (idx? x_2 x_3).bind fun x_5 => some (x_2.set (x_3 : Int).toNat x_4)))
theorem r3_power_spec (kr0 : Nat) {F : Nat} {k0 : Int} {r : (List Int)} (h : r3_power_S F k0 = some r) : Meets Tryz.prog (tabs mx) 103 [] [.one (.i k0)] (Is [(kr0, .row 3 1 (r.map eI))] (.b (.row kr0))) := by
 unfold r3_power_S at h
 refine Meets.intro 16 Tryz.func103 Tryz.ntmps103 rfl (by simp) fun E => ?_
 show Tri _ E ⟨16, [], []⟩ _ ⟨[(0, I k0)], []⟩ _
 refine Tri.seq (Tri.regionL ?_)
 refine Oc rfl (op_assign rfl) (OpsL.nilS ⟨[(0, I k0)], []⟩ rfl (Tri.seq (Tri.regionL ?_)))
 refine Oc rfl (op_move rfl) ?_
 obtain ⟨x_1, e1, h⟩ := bnd h
 refine Oc rfl (op_quo2 e1 rfl rfl) (Oc rfl (op_add rfl rfl) ?_)
 obtain ⟨x_2, e2, h⟩ := bnd h
 refine Oc rfl (op_makeSlice (k := 101) (enc := eI) tySl70 e2 (by decide) (.cons .refl .nil) rfl rfl rfl) (Oc rfl (op_assign rfl) ?_)
 refine OpsL.nilS ⟨[(0, I k0), (3, .b (.row 101))], [(101, .row 3 1 (x_2.map eI))]⟩ rfl (Tri.seq (Tri.regionL ?_))
 refine Oc rfl (op_move rfl) (Oc rfl (op_move rfl) ?_)
 obtain ⟨x_3, e3, h⟩ := bnd h
 refine Oc rfl (op_quo2 e3 rfl rfl) (Oc rfl (op_move rfl) (Oc rfl (op_rem (by decide) rfl rfl) ?_))
 obtain ⟨x_4, e4, h⟩ := bnd h
 refine Oc rfl (op_shl e4 rfl rfl) ?_
 obtain ⟨x_5, e5, h⟩ := bnd h
 refine Oc rfl (op_index_r tySl70 (ix_lo e5) (ix_lt' e5) rfl rfl rfl rfl) (Oc rfl (op_store_r1 (i := (x_3 : Int).toNat) tyOne3 rfl rfl rfl rfl (ix_lt e5) (map_set _ _ _ _)) ?_)
 refine OpsL.nilS ⟨[(3, .b (.row 101))], [(101, .row 3 1 ((x_2.set (x_3 : Int).toNat x_4).map eI))]⟩ rfl (Tri.seq (Tri.regionL ?_))
 refine Oc rfl (op_move rfl) (Oc rfl (op_assign rfl) ?_)
 refine OpsL.nilS ⟨[(2, .b (.row 101))], [(101, .row 3 1 ((x_2.set (x_3 : Int).toNat x_4).map eI))]⟩ rfl (Tri.ret ?_)
 obtain rfl := Option.some.inj h
 refine Fin.keepS ⟨[(2, .b (.row 101))], [(101, .row 3 1 ((x_2.set (x_3 : Int).toNat x_4).map eI))]⟩ rfl (Fin.resultK 101 kr0 [.row 101] (.inl rfl) rfl (.cons (.tmp rfl) .nil) rfl rfl rfl rfl ⟨rfl, rfl⟩)
def r3_floor_S (F : Nat) (n0 : Int) (m0 : Int) : Option Int :=
 (quo? .i64 n0 m0).bind fun x_1 => Option.bind ((rem? n0 m0).bind fun x_3 => letN ((decide (x_3 ≠ 0)) && ((decide (n0 < 0)) != (decide (m0 < 0)))) fun x_4 => if x_4 = true then (some (IntKind.i64.wrap (x_1 - 1))) else (some x_1)) (fun q_2 => some q_2)
theorem r3_floor_spec {F : Nat} {n0 : Int} {m0 : Int} {r : Int} (h : r3_floor_S F n0 m0 = some r) : Meets Tryz.prog (tabs mx) 122 [] [.one (.i n0), .one (.i m0)] (Is [] (.b (.one (.i r)))) := by
 unfold r3_floor_S at h
 refine Meets.intro 23 Tryz.func122 Tryz.ntmps122 rfl (by simp) fun E => ?_
 show Tri _ E ⟨23, [], []⟩ _ ⟨[(0, I n0), (1, I m0)], []⟩ _
 refine Tri.seq (Tri.regionL ?_)
 refine Oc rfl (op_assign rfl) (OpsL.nilS ⟨[(0, I n0), (1, I m0)], []⟩ rfl (Tri.seq (Tri.regionL ?_)))
 refine Oc rfl (op_move rfl) (Oc rfl (op_move rfl) ?_)
 obtain ⟨x_1, e1, h⟩ := bnd h
 refine Oc rfl (op_quo2 e1 rfl rfl) (Oc rfl (op_assign rfl) ?_)
 refine OpsL.nilS ⟨[(0, I n0), (1, I m0), (5, I x_1)], []⟩ rfl ?_
 obtain ⟨v2, h3, h⟩ := bnd h
 refine Tri.seqJ (v := v2) (fun (q_2 : Int) => ⟨[(5, I q_2)], []⟩) (fun z => z) ?_ ?_
 ·refine Tri.seq (Tri.regionL ?_)
  refine Oc rfl (op_move rfl) (Oc rfl (op_move rfl) ?_)
  obtain ⟨x_3, e4, h3⟩ := bnd h3
  refine Oc rfl (op_rem2 e4 rfl rfl) (Oc rfl (op_neq rfl rfl) (Oc rfl (op_move rfl) ?_))
  refine OpsL.consG (decide (x_3 ≠ 0)) 99 [] (.plain rfl) (eq_t _) rfl rfl (fun g5 => trivial) (fun g5 => op_move rfl) (OpsL.consG (decide (x_3 ≠ 0)) 99 [14] (.plain rfl) (eq_t _) rfl rfl (fun g6 => ⟨g6, trivial⟩) (fun g6 => op_lss rfl rfl) (OpsL.keepS ⟨[(1, I m0), (5, I x_1), (13, B (decide (x_3 ≠ 0))), (15, .opt (decide (x_3 ≠ 0)) (.one (.bool (decide (n0 < 0)))))], []⟩ rfl (OpsL.consG (decide (x_3 ≠ 0)) 99 [] (.plain rfl) (eq_t _) rfl rfl (fun g7 => trivial) (fun g7 => op_move rfl) (OpsL.consG (decide (x_3 ≠ 0)) 99 [16] (.plain rfl) (eq_t _) rfl rfl (fun g8 => ⟨g8, trivial⟩) (fun g8 => op_lss rfl rfl) (OpsL.consG (decide (x_3 ≠ 0)) 99 [15, 17] (.plain rfl) (eq_t _) rfl rfl (fun g9 => ⟨g9, g9, trivial⟩) (fun g9 => op_neq_bool und4 rfl rfl) ?_)))))
  refine OpsL.consB h3 rfl (op_pick_and (fun e => e) rfl rfl rfl rfl) (fun x_4 h3 => ?_)
  refine OpsL.nilS ⟨[(5, I x_1), (19, B x_4)], []⟩ rfl (Tri.ite h3 rfl (fun _ h3 => ?_) (fun _ h3 => ?_))
  ·refine Tri.regionL (Oc rfl (op_move rfl) (Oc rfl (op_sub rfl rfl) (Oc rfl (op_assign rfl) ?_)))
   refine OpsL.nil ?_
   exact Fin.join [5] [] (IntKind.i64.wrap (x_1 - 1)) (Option.some.inj h3) rfl
  ·refine Tri.skip ?_
   exact Fin.join [5] [] x_1 (Option.some.inj h3) rfl
 ·rintro q_2 hv
  subst v2
  refine Tri.seq (Tri.regionL ?_)
  refine Oc rfl (op_move rfl) (Oc rfl (op_assign rfl) ?_)
  refine OpsL.nilS ⟨[(4, I q_2)], []⟩ rfl (Tri.ret ?_)
  obtain rfl := Option.some.inj h
  refine Fin.keepS ⟨[(4, I q_2)], []⟩ rfl (Fin.result' [.one (.i q_2)] (.inl rfl) rfl (.cons (.tmp rfl) .nil) ⟨rfl, rfl⟩)
def r3_Quo_S (F : Nat) (a0 : Big) (b0 : Big) : Option Big :=
 Option.bind (r3_word_S F a0) (un2 fun x_1 x_2 => Option.bind (r3_word_S F b0) (un2 fun x_3 x_4 => if ((x_2 && x_4) && (decide (x_3 ≠ 0))) = true then ((r3_floor_S F x_1 x_3).bind fun x_5 => (r3_Of_S F x_5).bind fun x_6 => some x_6) else ((r3_Good_S F a0).bind fun x_7 => (gcall (!(!x_7)) (r3_Good_S F b0)).bind fun x_8 => (gcall (!((!x_7) || (!x_8))) (r3_digits_S F b0)).bind fun x_9 => if (((!x_7) || (!x_8)) || (decide ((x_9.length : Int) = 0))) = true then ((r3_Bad_S F).bind fun x_10 => some x_10) else ((r3_digits_S F a0).bind fun x_11 => (r3_digits_S F b0).bind fun x_12 => Option.bind (r3_divide_S F x_11 x_12) (un2 fun x_13 x_14 => Option.bind (if ((a0.Neg != b0.Neg) && (decide (0 < (x_14.length : Int)))) = true then ((r3_plus_S F x_13 [1]).bind fun x_16 => some x_16) else (some x_13)) (fun q_15 => (r3_number_S F (a0.Neg != b0.Neg) q_15).bind fun x_17 => some x_17))))))
theorem r3_Quo_spec {F : Nat} {a0 : Big} {b0 : Big} {r : Big} (h : r3_Quo_S F a0 b0 = some r) : Meets Tryz.prog (tabs mx) 89 [] [.agg (eBig a0), .agg (eBig b0)] (Is [] (.b (.agg (eBig r)))) := by
 unfold r3_Quo_S at h
 refine Meets.intro 76 Tryz.func89 Tryz.ntmps89 rfl (by simp) fun E => ?_
 show Tri _ E ⟨76, [], []⟩ _ ⟨[(0, .b (.agg (eBig a0))), (1, .b (.agg (eBig b0)))], []⟩ _
 refine Tri.seq (Tri.regionL ?_)
 refine Oc rfl (op_box (k := 101) rfl rfl) (Oc rfl (op_box (k := 102) rfl rfl) (Oc rfl (op_alloc (k := 103) tyZero25 rfl) ?_))
 refine OpsL.nilS ⟨[(2, Pt 101 0), (3, Pt 102 0), (4, Pt 103 0)], [(101, .box 25 (eBig a0)), (102, .box 25 (eBig b0)), (103, .box 25 zBig)]⟩ rfl (Tri.seq (Tri.regionL ?_))
 refine Oc rfl (op_load_p tyAgg25 rfl rfl rfl rfl) ?_
 obtain ⟨⟨x_1, x_2⟩, e1, h⟩ := bnd h
 refine Oc rfl (op_call0 (r3_word_spec e1) goes81 rfl rfl) (Oc rfl (op_move rfl) (Oc rfl (op_extract rfl rfl) (Oc rfl (op_extract rfl rfl) (Oc rfl (op_assign rfl) (Oc rfl (op_assign rfl) ?_)))))
 refine OpsL.nilS ⟨[(2, Pt 101 0), (3, Pt 102 0), (4, Pt 103 0), (5, I x_1), (6, B x_2)], [(101, .box 25 (eBig a0)), (102, .box 25 (eBig b0)), (103, .box 25 zBig)]⟩ rfl (Tri.seq (Tri.regionL ?_))
 refine Oc rfl (op_load_p tyAgg25 rfl rfl rfl rfl) ?_
 obtain ⟨⟨x_3, x_4⟩, e2, h⟩ := bnd h
 refine Oc rfl (op_call0 (r3_word_spec e2) goes81 rfl rfl) (Oc rfl (op_move rfl) (Oc rfl (op_extract rfl rfl) (Oc rfl (op_extract rfl rfl) (Oc rfl (op_assign rfl) (Oc rfl (op_assign rfl) ?_)))))
 refine OpsL.nilS ⟨[(2, Pt 101 0), (3, Pt 102 0), (4, Pt 103 0), (5, I x_1), (6, B x_2), (7, I x_3), (8, B x_4)], [(101, .box 25 (eBig a0)), (102, .box 25 (eBig b0)), (103, .box 25 zBig)]⟩ rfl (Tri.seq (Tri.seq (Tri.regionL ?_)))
 refine Oc rfl (op_move rfl) (Oc rfl (op_move rfl) ?_)
 refine OpsL.consG x_2 99 [] (.plain rfl) (eq_t _) rfl rfl (fun g3 => trivial) (fun g3 => op_move rfl) (Oc rfl (op_pick_and (fun e => e) rfl rfl rfl rfl) (Oc rfl (op_move rfl) ?_))
 refine OpsL.consG (x_2 && x_4) 99 [] (.plain rfl) (eq_t _) rfl rfl (fun g4 => trivial) (fun g4 => op_move rfl) (OpsL.consG (x_2 && x_4) 99 [26] (.plain rfl) (eq_t _) rfl rfl (fun g5 => ⟨g5, trivial⟩) (fun g5 => op_neq rfl rfl) (Oc rfl (op_pick_and (fun e => e) rfl rfl rfl rfl) (OpsL.nilS ⟨[(2, Pt 101 0), (3, Pt 102 0), (4, Pt 103 0), (5, I x_1), (7, I x_3), (28, B ((x_2 && x_4) && (decide (x_3 ≠ 0))))], [(101, .box 25 (eBig a0)), (102, .box 25 (eBig b0)), (103, .box 25 zBig)]⟩ rfl (Tri.ite h rfl (fun _ h => ?_) (fun _ h => ?_)))))
 ·refine Tri.seq (Tri.regionL ?_)
  refine Oc rfl (op_move rfl) (Oc rfl (op_move rfl) ?_)
  obtain ⟨x_5, e6, h⟩ := bnd h
  refine Oc rfl (op_call0 (r3_floor_spec e6) goes122 rfl rfl) ?_
  obtain ⟨x_6, e7, h⟩ := bnd h
  refine Oc rfl (op_call0 (r3_Of_spec e7) goes12 rfl rfl) (Oc rfl (op_store_p tyAgg25 rfl rfl rfl rfl (Nat.le_of_ble_eq_true rfl) rfl) ?_)
  refine OpsL.nilS ⟨[(4, Pt 103 0)], [(103, .box 25 (eBig x_6))]⟩ rfl (Tri.ret (Fin.then_ret ?_))
  obtain rfl := Option.some.inj h
  refine Fin.keepS ⟨[(4, Pt 103 0)], [(103, .box 25 (eBig x_6))]⟩ rfl (Fin.result' [.agg (eBig x_6)] (.inl rfl) rfl (.cons (.agg tyAgg25 rfl rfl rfl rfl) .nil) ⟨rfl, rfl⟩)
 ·refine Tri.skip (Fin.keepS ⟨[(2, Pt 101 0), (3, Pt 102 0), (4, Pt 103 0)], [(101, .box 25 (eBig a0)), (102, .box 25 (eBig b0)), (103, .box 25 zBig)]⟩ rfl (Fin.then (Tri.seq (Tri.seq (Tri.regionL ?_)))))
  refine Oc rfl (op_load_p tyAgg25 rfl rfl rfl rfl) ?_
  obtain ⟨x_7, e8, h⟩ := bnd h
  refine Oc rfl (op_call0 (r3_Good_spec e8) goes15 rfl rfl) (Oc rfl (op_not rfl) (Oc rfl (op_move rfl) ?_))
  refine OpsL.consG (!(!x_7)) 99 [] (.plain rfl) (eq_f _) rfl rfl (fun g9 => trivial) (fun g9 => op_load_p tyAgg25 rfl rfl rfl rfl) (OpsL.keepS ⟨[(2, Pt 101 0), (3, Pt 102 0), (4, Pt 103 0), (36, B (!x_7)), (37, .opt (!(!x_7)) (.agg (eBig b0)))], [(101, .box 25 (eBig a0)), (102, .box 25 (eBig b0)), (103, .box 25 zBig)]⟩ rfl ?_)
  obtain ⟨x_8, e11, h⟩ := bnd h
  refine OpsL.consG (!(!x_7)) 99 [37] (.plain rfl) (eq_f _) rfl rfl (fun g10 => ⟨g10, trivial⟩) (fun g10 => op_call0 (r3_Good_spec (gc e11 g10)) goes15 rfl rfl) (OpsL.consG (!(!x_7)) 99 [38] (.plain rfl) (eq_f _) rfl rfl (fun g12 => ⟨g12, trivial⟩) (fun g12 => op_not rfl) (Oc rfl (op_pick_or (fun e => by rw [e]; rfl) rfl rfl rfl rfl) (Oc rfl (op_move rfl) ?_)))
  refine OpsL.consG (!((!x_7) || (!x_8))) 99 [] (.plain rfl) (eq_f _) rfl rfl (fun g13 => trivial) (fun g13 => op_load_p tyAgg25 rfl rfl rfl rfl) ?_
  obtain ⟨x_9, e15, h⟩ := bnd h
  refine OpsL.consG (!((!x_7) || (!x_8))) 99 [42] (.plain rfl) (eq_f _) rfl rfl (fun g14 => ⟨g14, trivial⟩) (fun g14 => op_call0 (r3_digits_spec (gc e15 g14)) goes85 rfl rfl) (OpsL.keepS ⟨[(2, Pt 101 0), (3, Pt 102 0), (4, Pt 103 0), (41, B ((!x_7) || (!x_8))), (43, .opt (!((!x_7) || (!x_8))) (.one (.sl 1 (x_9.map eI))))], [(101, .box 25 (eBig a0)), (102, .box 25 (eBig b0)), (103, .box 25 zBig)]⟩ rfl (OpsL.consG (!((!x_7) || (!x_8))) 99 [43] (.plain rfl) (eq_f _) rfl rfl (fun g16 => ⟨g16, trivial⟩) (fun g16 => op_len_e' und70 rfl (List.length_map _)) (OpsL.consG (!((!x_7) || (!x_8))) 99 [44] (.plain rfl) (eq_f _) rfl rfl (fun g17 => ⟨g17, trivial⟩) (fun g17 => op_eql rfl rfl) (Oc rfl (op_pick_or (fun e => by rw [e]; rfl) rfl rfl rfl rfl) (OpsL.nilS ⟨[(2, Pt 101 0), (3, Pt 102 0), (4, Pt 103 0), (46, B (((!x_7) || (!x_8)) || (decide ((x_9.length : Int) = 0))))], [(101, .box 25 (eBig a0)), (102, .box 25 (eBig b0)), (103, .box 25 zBig)]⟩ rfl ?_)))))
  refine Tri.ite h rfl (fun _ h => ?_) (fun _ h => ?_)
  ·refine Tri.seq (Tri.regionL ?_)
   obtain ⟨x_10, e18, h⟩ := bnd h
   refine Oc rfl (op_call0 (r3_Bad_spec e18) goes83 rfl rfl) (Oc rfl (op_store_p tyAgg25 rfl rfl rfl rfl (Nat.le_of_ble_eq_true rfl) rfl) ?_)
   refine OpsL.nilS ⟨[(4, Pt 103 0)], [(103, .box 25 (eBig x_10))]⟩ rfl (Tri.ret (Fin.then_ret ?_))
   obtain rfl := Option.some.inj h
   refine Fin.keepS ⟨[(4, Pt 103 0)], [(103, .box 25 (eBig x_10))]⟩ rfl (Fin.result' [.agg (eBig x_10)] (.inl rfl) rfl (.cons (.agg tyAgg25 rfl rfl rfl rfl) .nil) ⟨rfl, rfl⟩)
  ·refine Tri.skip (Fin.keepS ⟨[(2, Pt 101 0), (3, Pt 102 0), (4, Pt 103 0)], [(101, .box 25 (eBig a0)), (102, .box 25 (eBig b0)), (103, .box 25 zBig)]⟩ rfl (Fin.then (Tri.seq ?_)))
   refine Tri.keepS ⟨[(2, Pt 101 0), (3, Pt 102 0), (4, Pt 103 0)], [(101, .box 25 (eBig a0)), (102, .box 25 (eBig b0)), (103, .box 25 zBig)]⟩ rfl ?_
   obtain ⟨x_11, e19, h⟩ := bnd h
   obtain ⟨x_12, e20, h⟩ := bnd h
   obtain ⟨⟨x_13, x_14⟩, e21, h⟩ := bnd h
   refine Tri.regionY mixed 10 [.b (.agg (eBig a0)), .b (.one (.sl 1 (x_11.map eI))), .b (.agg (eBig b0)), .b (.one (.sl 1 (x_12.map eI))), .tup [.one (.sl 1 (x_13.map eI)), .one (.sl 1 (x_14.map eI))], .tup [.one (.sl 1 (x_13.map eI)), .one (.sl 1 (x_14.map eI))], .b (.one (.sl 1 (x_13.map eI))), .b (.one (.sl 1 (x_14.map eI))), .b (.one (.sl 1 (x_13.map eI))), .b (.one (.sl 1 (x_14.map eI)))] [2, 3, 4, 9, 10] [101, 102, 103] (s' := ⟨[(2, Pt 101 0), (3, Pt 102 0), (4, Pt 103 0), (9, .b (.one (.sl 1 (x_13.map eI)))), (10, .b (.one (.sl 1 (x_14.map eI))))], [(101, .box 25 (eBig a0)), (102, .box 25 (eBig b0)), (103, .box 25 zBig)]⟩) rfl ⟨fun _ => .plain rfl (op_load_p tyAgg25 rfl rfl rfl rfl), fun _ => .plain rfl (op_call0 (r3_digits_spec e19) goes85 rfl rfl), fun _ => .plain rfl (op_load_p tyAgg25 rfl rfl rfl rfl), fun _ => .plain rfl (op_call0 (r3_digits_spec e20) goes85 rfl rfl), fun _ => .plain rfl (op_call0 (r3_divide_spec e21) goes121 rfl rfl), fun _ => .plain rfl (op_move rfl), fun _ => .plain rfl (op_extract rfl rfl), fun _ => .plain rfl (op_extract rfl rfl), fun _ => .plain rfl (op_assign rfl), fun _ => .plain rfl (op_assign rfl), trivial⟩ rfl rfl ?_
   obtain ⟨v22, h23, h⟩ := bnd h
   refine Tri.seqJ (v := v22) (fun (q_15 : List Int) => ⟨[(2, Pt 101 0), (3, Pt 102 0), (4, Pt 103 0), (9, .b (.one (.sl 1 (q_15.map eI))))], [(101, .box 25 (eBig a0)), (102, .box 25 (eBig b0)), (103, .box 25 zBig)]⟩) (fun z => z) ?_ ?_
   ·refine Tri.seq (Tri.regionL ?_)
    refine Oc rfl (op_field_p tyFld25_1 rfl rfl) (Oc rfl (op_load_p1 tyOne4 rfl rfl rfl) (Oc rfl (op_field_p tyFld25_1 rfl rfl) (Oc rfl (op_load_p1 tyOne4 rfl rfl rfl) (Oc rfl (op_neq_bool und4 rfl rfl) (Oc rfl (op_move rfl) ?_)))))
    refine OpsL.consG (a0.Neg != b0.Neg) 99 [] (.plain rfl) (eq_t _) rfl rfl (fun g24 => trivial) (fun g24 => op_move rfl) (OpsL.keepS ⟨[(2, Pt 101 0), (3, Pt 102 0), (4, Pt 103 0), (9, .b (.one (.sl 1 (x_13.map eI)))), (61, B (a0.Neg != b0.Neg)), (62, .opt (a0.Neg != b0.Neg) (.one (.sl 1 (x_14.map eI))))], [(101, .box 25 (eBig a0)), (102, .box 25 (eBig b0)), (103, .box 25 zBig)]⟩ rfl (OpsL.consG (a0.Neg != b0.Neg) 99 [62] (.plain rfl) (eq_t _) rfl rfl (fun g25 => ⟨g25, trivial⟩) (fun g25 => op_len_e' und70 rfl (List.length_map _)) (OpsL.consG (a0.Neg != b0.Neg) 99 [63] (.plain rfl) (eq_t _) rfl rfl (fun g26 => ⟨g26, trivial⟩) (fun g26 => op_gtr rfl rfl) (Oc rfl (op_pick_and (fun e => e) rfl rfl rfl rfl) (OpsL.nilS ⟨[(2, Pt 101 0), (3, Pt 102 0), (4, Pt 103 0), (9, .b (.one (.sl 1 (x_13.map eI)))), (65, B ((a0.Neg != b0.Neg) && (decide (0 < (x_14.length : Int)))))], [(101, .box 25 (eBig a0)), (102, .box 25 (eBig b0)), (103, .box 25 zBig)]⟩ rfl ?_)))))
    refine Tri.ite h23 rfl (fun _ h23 => ?_) (fun _ h23 => ?_)
    ·refine Tri.regionL (Oc rfl (op_move rfl) (Oc rfl (op_buildSlice (k := 104) (es := [1].map eI) tySl70 rfl rfl (uni_map fun _ => rfl) rfl (by decide) (by decide) rfl) ?_))
     refine OpsL.persist 104 rfl ?_
     obtain ⟨x_16, e27, h23⟩ := bnd h23
     refine Oc rfl (op_call0 (r3_plus_spec e27) goes77 rfl rfl) (Oc rfl (op_assign rfl) ?_)
     refine OpsL.nil ?_
     exact Fin.join [2, 3, 4, 9] [101, 102, 103] x_16 (Option.some.inj h23) rfl
    ·refine Tri.skip ?_
     exact Fin.join [2, 3, 4, 9] [101, 102, 103] x_13 (Option.some.inj h23) rfl
   ·rintro q_15 hv
    subst v22
    refine Tri.seq (Tri.regionL ?_)
    refine Oc rfl (op_field_p tyFld25_1 rfl rfl) (Oc rfl (op_load_p1 tyOne4 rfl rfl rfl) (Oc rfl (op_field_p tyFld25_1 rfl rfl) (Oc rfl (op_load_p1 tyOne4 rfl rfl rfl) (Oc rfl (op_neq_bool und4 rfl rfl) (Oc rfl (op_move rfl) ?_)))))
    obtain ⟨x_17, e28, h⟩ := bnd h
    refine Oc rfl (op_call0 (r3_number_spec e28) goes76 rfl rfl) (Oc rfl (op_store_p tyAgg25 rfl rfl rfl rfl (Nat.le_of_ble_eq_true rfl) rfl) ?_)
    refine OpsL.nilS ⟨[(4, Pt 103 0)], [(103, .box 25 (eBig x_17))]⟩ rfl (Tri.ret ?_)
    obtain rfl := Option.some.inj h
    refine Fin.keepS ⟨[(4, Pt 103 0)], [(103, .box 25 (eBig x_17))]⟩ rfl (Fin.result' [.agg (eBig x_17)] (.inl rfl) rfl (.cons (.agg tyAgg25 rfl rfl rfl rfl) .nil) ⟨rfl, rfl⟩)
def r3_Shift_S (F : Nat) (x0 : Big) (n0 : Int) : Option Big :=
 (r3_Good_S F x0).bind fun x_1 => if (!x_1) = true then ((r3_Bad_S F).bind fun x_2 => some x_2) else ((r3_digits_S F x0).bind fun x_3 => if (decide ((x_3.length : Int) = 0)) = true then (some x0) else (if (decide (512 < n0)) = true then ((r3_Bad_S F).bind fun x_4 => some x_4) else (if (decide (0 ≤ n0)) = true then ((r3_digits_S F x0).bind fun x_5 => (r3_power_S F n0).bind fun x_6 => (r3_times_S F x_5 x_6).bind fun x_7 => (r3_number_S F x0.Neg x_7).bind fun x_8 => some x_8) else (if (decide (n0 < (-511))) = true then (if x0.Neg = true then ((r3_Of_S F (-1)).bind fun x_9 => some x_9) else ((r3_Of_S F 0).bind fun x_10 => some x_10)) else ((r3_power_S F (IntKind.i64.wrap (-n0))).bind fun x_11 => (r3_number_S F false x_11).bind fun x_12 => (r3_Quo_S F x0 x_12).bind fun x_13 => some x_13)))))
theorem r3_Shift_spec {F : Nat} {x0 : Big} {n0 : Int} {r : Big} (h : r3_Shift_S F x0 n0 = some r) : Meets Tryz.prog (tabs mx) 47 [] [.agg (eBig x0), .one (.i n0)] (Is [] (.b (.agg (eBig r)))) := by
 unfold r3_Shift_S at h
 refine Meets.intro 39 Tryz.func47 Tryz.ntmps47 rfl (by simp) fun E => ?_
 show Tri _ E ⟨39, [], []⟩ _ ⟨[(0, .b (.agg (eBig x0))), (1, I n0)], []⟩ _
 refine Tri.seq (Tri.regionL ?_)
 refine Oc rfl (op_box (k := 101) rfl rfl) (Oc rfl (op_alloc (k := 102) tyZero25 rfl) ?_)
 refine OpsL.nilS ⟨[(1, I n0), (2, Pt 101 0), (4, Pt 102 0)], [(101, .box 25 (eBig x0)), (102, .box 25 zBig)]⟩ rfl (Tri.seq (Tri.seq (Tri.regionL ?_)))
 refine Oc rfl (op_load_p tyAgg25 rfl rfl rfl rfl) ?_
 obtain ⟨x_1, e1, h⟩ := bnd h
 refine Oc rfl (op_call0 (r3_Good_spec e1) goes15 rfl rfl) (Oc rfl (op_not rfl) ?_)
 refine OpsL.nilS ⟨[(1, I n0), (2, Pt 101 0), (4, Pt 102 0), (7, B (!x_1))], [(101, .box 25 (eBig x0)), (102, .box 25 zBig)]⟩ rfl (Tri.ite h rfl (fun _ h => ?_) (fun _ h => ?_))
 ·refine Tri.seq (Tri.regionL ?_)
  obtain ⟨x_2, e2, h⟩ := bnd h
  refine Oc rfl (op_call0 (r3_Bad_spec e2) goes83 rfl rfl) (Oc rfl (op_store_p tyAgg25 rfl rfl rfl rfl (Nat.le_of_ble_eq_true rfl) rfl) ?_)
  refine OpsL.nilS ⟨[(4, Pt 102 0)], [(102, .box 25 (eBig x_2))]⟩ rfl (Tri.ret (Fin.then_ret ?_))
  obtain rfl := Option.some.inj h
  refine Fin.keepS ⟨[(4, Pt 102 0)], [(102, .box 25 (eBig x_2))]⟩ rfl (Fin.result' [.agg (eBig x_2)] (.inl rfl) rfl (.cons (.agg tyAgg25 rfl rfl rfl rfl) .nil) ⟨rfl, rfl⟩)
 ·refine Tri.skip (Fin.keepS ⟨[(1, I n0), (2, Pt 101 0), (4, Pt 102 0)], [(101, .box 25 (eBig x0)), (102, .box 25 zBig)]⟩ rfl (Fin.then (Tri.seq (Tri.seq (Tri.regionL ?_)))))
  refine Oc rfl (op_load_p tyAgg25 rfl rfl rfl rfl) ?_
  obtain ⟨x_3, e3, h⟩ := bnd h
  refine Oc rfl (op_call0 (r3_digits_spec e3) goes85 rfl rfl) (Oc rfl (op_len_e' und70 rfl (List.length_map _)) (Oc rfl (op_eql rfl rfl) ?_))
  refine OpsL.nilS ⟨[(1, I n0), (2, Pt 101 0), (4, Pt 102 0), (12, B (decide ((x_3.length : Int) = 0)))], [(101, .box 25 (eBig x0)), (102, .box 25 zBig)]⟩ rfl (Tri.ite h rfl (fun _ h => ?_) (fun _ h => ?_))
  ·refine Tri.seq (Tri.regionL ?_)
   refine Oc rfl (op_load_p tyAgg25 rfl rfl rfl rfl) (Oc rfl (op_store_p tyAgg25 rfl rfl rfl rfl (Nat.le_of_ble_eq_true rfl) rfl) ?_)
   refine OpsL.nilS ⟨[(4, Pt 102 0)], [(102, .box 25 (eBig x0))]⟩ rfl (Tri.ret (Fin.then_ret ?_))
   obtain rfl := Option.some.inj h
   refine Fin.keepS ⟨[(4, Pt 102 0)], [(102, .box 25 (eBig x0))]⟩ rfl (Fin.result' [.agg (eBig x0)] (.inl rfl) rfl (.cons (.agg tyAgg25 rfl rfl rfl rfl) .nil) ⟨rfl, rfl⟩)
  ·refine Tri.skip (Fin.keepS ⟨[(1, I n0), (2, Pt 101 0), (4, Pt 102 0)], [(101, .box 25 (eBig x0)), (102, .box 25 zBig)]⟩ rfl (Fin.then (Tri.seq (Tri.seq (Tri.regionL ?_)))))
   refine Oc rfl (op_move rfl) (Oc rfl (op_gtr rfl rfl) ?_)
   refine OpsL.nilS ⟨[(1, I n0), (2, Pt 101 0), (4, Pt 102 0), (15, B (decide (512 < n0)))], [(101, .box 25 (eBig x0)), (102, .box 25 zBig)]⟩ rfl (Tri.ite h rfl (fun _ h => ?_) (fun _ h => ?_))
   ·refine Tri.seq (Tri.regionL ?_)
    obtain ⟨x_4, e4, h⟩ := bnd h
    refine Oc rfl (op_call0 (r3_Bad_spec e4) goes83 rfl rfl) (Oc rfl (op_store_p tyAgg25 rfl rfl rfl rfl (Nat.le_of_ble_eq_true rfl) rfl) ?_)
    refine OpsL.nilS ⟨[(4, Pt 102 0)], [(102, .box 25 (eBig x_4))]⟩ rfl (Tri.ret (Fin.then_ret ?_))
    obtain rfl := Option.some.inj h
    refine Fin.keepS ⟨[(4, Pt 102 0)], [(102, .box 25 (eBig x_4))]⟩ rfl (Fin.result' [.agg (eBig x_4)] (.inl rfl) rfl (.cons (.agg tyAgg25 rfl rfl rfl rfl) .nil) ⟨rfl, rfl⟩)
   ·refine Tri.skip (Fin.keepS ⟨[(1, I n0), (2, Pt 101 0), (4, Pt 102 0)], [(101, .box 25 (eBig x0)), (102, .box 25 zBig)]⟩ rfl (Fin.then (Tri.seq (Tri.seq (Tri.regionL ?_)))))
    refine Oc rfl (op_move rfl) (Oc rfl (op_geq rfl rfl) ?_)
    refine OpsL.nilS ⟨[(1, I n0), (2, Pt 101 0), (4, Pt 102 0), (18, B (decide (0 ≤ n0)))], [(101, .box 25 (eBig x0)), (102, .box 25 zBig)]⟩ rfl (Tri.ite h rfl (fun _ h => ?_) (fun _ h => ?_))
    ·refine Tri.seq (Tri.keepS ⟨[(1, I n0), (2, Pt 101 0), (4, Pt 102 0)], [(101, .box 25 (eBig x0)), (102, .box 25 zBig)]⟩ rfl ?_)
     obtain ⟨x_5, e5, h⟩ := bnd h
     obtain ⟨x_6, e6, h⟩ := bnd h
     obtain ⟨x_7, e7, h⟩ := bnd h
     obtain ⟨x_8, e8, h⟩ := bnd h
     refine Tri.regionY mixed 8 [Pt 101 1, B x0.Neg, .b (.agg (eBig x0)), .b (.one (.sl 1 (x_5.map eI))), I n0, .b (.one (.sl 1 (x_6.map eI))), .b (.one (.sl 1 (x_7.map eI))), .b (.agg (eBig x_8))] [4] [102] (s' := ⟨[(4, Pt 102 0)], [(102, .box 25 (eBig x_8))]⟩) rfl ⟨fun _ => .plain rfl (op_field_p tyFld25_1 rfl rfl), fun _ => .plain rfl (op_load_p1 tyOne4 rfl rfl rfl), fun _ => .plain rfl (op_load_p tyAgg25 rfl rfl rfl rfl), fun _ => .plain rfl (op_call0 (r3_digits_spec e5) goes85 rfl rfl), fun _ => .plain rfl (op_move rfl), fun _ => .plain rfl (op_call0 (r3_power_spec 0 e6).persG goes103 rfl rfl), fun _ => .plain rfl (op_call0 (r3_times_spec e7) goes84 rfl rfl), fun _ => .plain rfl (op_call0 (r3_number_spec e8) goes76 rfl rfl), trivial⟩ ⟨_, by exact .plain rfl (op_store_p tyAgg25 rfl rfl rfl rfl (Nat.le_of_ble_eq_true rfl) rfl), rfl⟩ rfl (Tri.ret (Fin.then_ret ?_))
     obtain rfl := Option.some.inj h
     refine Fin.keepS ⟨[(4, Pt 102 0)], [(102, .box 25 (eBig x_8))]⟩ rfl (Fin.result' [.agg (eBig x_8)] (.inl rfl) rfl (.cons (.agg tyAgg25 rfl rfl rfl rfl) .nil) ⟨rfl, rfl⟩)
    ·refine Tri.skip (Fin.keepS ⟨[(1, I n0), (2, Pt 101 0), (4, Pt 102 0)], [(101, .box 25 (eBig x0)), (102, .box 25 zBig)]⟩ rfl (Fin.then (Tri.seq (Tri.seq (Tri.regionL ?_)))))
     refine Oc rfl (op_move rfl) (Oc rfl (op_lss rfl rfl) ?_)
     refine OpsL.nilS ⟨[(1, I n0), (2, Pt 101 0), (4, Pt 102 0), (28, B (decide (n0 < (-511))))], [(101, .box 25 (eBig x0)), (102, .box 25 zBig)]⟩ rfl (Tri.ite h rfl (fun _ h => ?_) (fun _ h => ?_))
     ·refine Tri.seq (Tri.seq (Tri.regionL ?_))
      refine Oc rfl (op_field_p tyFld25_1 rfl rfl) (Oc rfl (op_load_p1 tyOne4 rfl rfl rfl) ?_)
      refine OpsL.nilS ⟨[(4, Pt 102 0), (30, B x0.Neg)], [(102, .box 25 zBig)]⟩ rfl (Tri.ite h rfl (fun _ h => ?_) (fun _ h => ?_))
      ·refine Tri.seq (Tri.regionL ?_)
       obtain ⟨x_9, e9, h⟩ := bnd h
       refine Oc rfl (op_call0 (r3_Of_spec e9) goes12 rfl rfl) (Oc rfl (op_store_p tyAgg25 rfl rfl rfl rfl (Nat.le_of_ble_eq_true rfl) rfl) ?_)
       refine OpsL.nilS ⟨[(4, Pt 102 0)], [(102, .box 25 (eBig x_9))]⟩ rfl (Tri.ret (Fin.then_ret (Fin.then_ret ?_)))
       obtain rfl := Option.some.inj h
       refine Fin.keepS ⟨[(4, Pt 102 0)], [(102, .box 25 (eBig x_9))]⟩ rfl (Fin.result' [.agg (eBig x_9)] (.inl rfl) rfl (.cons (.agg tyAgg25 rfl rfl rfl rfl) .nil) ⟨rfl, rfl⟩)
      ·refine Tri.skip (Fin.keepS ⟨[(4, Pt 102 0)], [(102, .box 25 zBig)]⟩ rfl (Fin.then (Tri.seq (Tri.regionL ?_))))
       obtain ⟨x_10, e10, h⟩ := bnd h
       refine Oc rfl (op_call0 (r3_Of_spec e10) goes12 rfl rfl) (Oc rfl (op_store_p tyAgg25 rfl rfl rfl rfl (Nat.le_of_ble_eq_true rfl) rfl) ?_)
       refine OpsL.nilS ⟨[(4, Pt 102 0)], [(102, .box 25 (eBig x_10))]⟩ rfl (Tri.ret (Fin.then_ret ?_))
       obtain rfl := Option.some.inj h
       refine Fin.keepS ⟨[(4, Pt 102 0)], [(102, .box 25 (eBig x_10))]⟩ rfl (Fin.result' [.agg (eBig x_10)] (.inl rfl) rfl (.cons (.agg tyAgg25 rfl rfl rfl rfl) .nil) ⟨rfl, rfl⟩)
     ·refine Tri.skip (Fin.keepS ⟨[(1, I n0), (2, Pt 101 0), (4, Pt 102 0)], [(101, .box 25 (eBig x0)), (102, .box 25 zBig)]⟩ rfl (Fin.then (Tri.seq ?_)))
      refine Tri.keepS ⟨[(1, I n0), (2, Pt 101 0), (4, Pt 102 0)], [(101, .box 25 (eBig x0)), (102, .box 25 zBig)]⟩ rfl ?_
      obtain ⟨x_11, e11, h⟩ := bnd h
      obtain ⟨x_12, e12, h⟩ := bnd h
      obtain ⟨x_13, e13, h⟩ := bnd h
      refine Tri.regionY mixed 6 [.b (.agg (eBig x0)), I n0, I (IntKind.i64.wrap (-n0)), .b (.one (.sl 1 (x_11.map eI))), .b (.agg (eBig x_12)), .b (.agg (eBig x_13))] [4] [102] (s' := ⟨[(4, Pt 102 0)], [(102, .box 25 (eBig x_13))]⟩) rfl ⟨fun _ => .plain rfl (op_load_p tyAgg25 rfl rfl rfl rfl), fun _ => .plain rfl (op_move rfl), fun _ => .plain rfl (op_neg rfl), fun _ => .plain rfl (op_call0 (r3_power_spec 0 e11).persG goes103 rfl rfl), fun _ => .plain rfl (op_call0 (r3_number_spec e12) goes76 rfl rfl), fun _ => .plain rfl (op_call0 (r3_Quo_spec e13) goes89 rfl rfl), trivial⟩ ⟨_, by exact .plain rfl (op_store_p tyAgg25 rfl rfl rfl rfl (Nat.le_of_ble_eq_true rfl) rfl), rfl⟩ rfl (Tri.ret ?_)
      obtain rfl := Option.some.inj h
      refine Fin.keepS ⟨[(4, Pt 102 0)], [(102, .box 25 (eBig x_13))]⟩ rfl (Fin.result' [.agg (eBig x_13)] (.inl rfl) rfl (.cons (.agg tyAgg25 rfl rfl rfl rfl) .nil) ⟨rfl, rfl⟩)
end Go.Proofs.YtdjnlmmhbeeihaaGreatDoor

