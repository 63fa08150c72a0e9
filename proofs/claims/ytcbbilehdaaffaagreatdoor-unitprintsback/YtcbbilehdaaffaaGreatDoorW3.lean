/- printed walks -/
import Derived.Test.YtcbbilehdaaffaaGreatDoorW2
namespace Go.Proofs.YtcbbilehdaaffaaGreatDoor
open Go.Sk
set_option maxHeartbeats 1000000
set_option maxRecDepth 4000
set_option linter.unusedSimpArgs false
set_option linter.unusedVariables false
variable {mx : Int}
def unit_reader_factor_S (F : Nat) (r0s : Str) (r0q : Quantity) (r0sign : Int) : Option (Int × Str × Quantity × Int) :=
 Option.bind (unit_reader_name_S F r0s r0q r0sign) (un2 fun x_1 x_2 => if (decide (x_1 = [])) = true then (some (280, x_2, r0q, r0sign)) else (Option.bind (iter F (fun x_3 => if (decide (x_3 < 23)) = true then (Option.bind ((idx? unitNames x_3).bind fun x_4 => if (decide (x_4.name ≠ x_1)) = true then (some (.inl ())) else (Option.bind (unit_reader_exponent_S F x_2 r0q r0sign) (un3 fun x_5 x_6 x_7 => if (decide (x_6 ≠ 0)) = true then (some (.inr (x_6, x_7, r0q, r0sign))) else (Option.bind (unit_combine_S F r0q.U x_4.unit (IntKind.i64.wrap (r0sign * x_5))) (un2 fun x_8 x_9 => if (decide (x_9 ≠ 0)) = true then (some (.inr (x_9, x_7, (⟨r0q.V, x_8⟩ : Quantity), r0sign))) else (Option.bind (if (decide ((IntKind.i64.wrap (r0sign * x_5)) < 0)) = true then (some 21) else (some 25)) (fun combineNumbers_10 => Option.bind (iter F (un2 fun r_12 x_13 => if (decide (x_13 < (max x_5 (IntKind.i64.wrap (-x_5))))) = true then ((q_Frac_S F x_4.n x_4.d).bind fun x_15 => (numberFn_S F combineNumbers_10 r_12.q.V x_15).bind fun x_16 => some (.inl ((⟨r_12.s, (⟨x_16, r_12.q.U⟩ : Quantity), r_12.sign⟩ : Reader), IntKind.i64.wrap (x_13 + 1)))) else (some (.inr r_12))) ((⟨x_7, (⟨r0q.V, x_8⟩ : Quantity), r0sign⟩ : Reader), 0)) (fun r_11 => (q_Good_S F r_11.q.V).bind fun x_17 => if (!x_17) = true then (some (.inr (30, r_11.s, r_11.q, r_11.sign))) else (some (.inr (0, r_11.s, r_11.q, r_11.sign))))))))))) (alt2 (fun _ => some (.inl (IntKind.i64.wrap (x_3 + 1)))) (fun y => some (.inr (.inr y))))) else (some (.inr (.inl ())))) 0) (alt2 (fun _ => some (5, x_2, r0q, r0sign)) (fun y => some y))))
theorem unit_reader_factor_spec {F : Nat} {r0s : Str} {r0q : Quantity} {r0sign : Int} {r : Int × Str × Quantity × Int} (h : unit_reader_factor_S F r0s r0q r0sign = some r) : Meets Tryz.prog (tabs mx) 70 [(1, .box 94 (.str r0s :: (eQuantity r0q ++ ([.i r0sign]))))] [.ptr 1 0] (Is [(1, .box 94 (.str r.2.1 :: (eQuantity r.2.2.1 ++ ([.i r.2.2.2]))))] (.b (.one (.i r.1)))) := by
 unfold unit_reader_factor_S at h
 refine Meets.intro 91 Tryz.func70 Tryz.ntmps70 rfl (by simp) fun E => ?_
 show Tri _ E ⟨91, [1], [1]⟩ _ ⟨[(0, Pt 1 0)], [(1, .box 94 (.str r0s :: (eQuantity r0q ++ ([.i r0sign]))))]⟩ _
 refine Tri.seq (Tri.regionL ?_)
 refine Oc oa (OpsL.nilS ⟨[(0, Pt 1 0)], [(1, .box 94 (.str r0s :: (eQuantity r0q ++ ([.i r0sign]))))]⟩ rfl (Tri.seq (Tri.regionL ?_)))
 refine Oc om ?_
 obtain ⟨⟨x_1, x_2⟩, e1, h⟩ := bnd h
 refine Oc (op_call (own_a := [(1, _)]) (unit_reader_name_spec e1) goes132 rfl ⟨rfl, trivial⟩ rfl rfl) (Oc oa ?_)
 refine OpsL.nilS ⟨[(0, _), (3, .b (.one (.str x_1)))], [(1, .box 94 (.str x_2 :: (eQuantity r0q ++ ([.i r0sign]))))]⟩ rfl (Tri.seq (Tri.seq (Tri.regionL ?_)))
 refine Oc om (Oc (op_eql_str rfl rfl) ?_)
 refine OpsL.nilS ⟨[(0, _), (3, _), (12, B (decide (x_1 = [])))], [(1, _)]⟩ rfl (Tri.ite h rfl (fun _ h => ?_) (fun _ h => ?_))
 ·refine Tri.seq (Tri.regionL ?_)
  refine Oc oa (OpsL.nilS ⟨[(2, I 280)], [(1, _)]⟩ rfl (Tri.ret (Fin.then_ret ?_)))
  obtain rfl := Option.some.inj h
  refine Fin.keepS ⟨[(2, _)], [(1, _)]⟩ rfl ?_
  exact Fin.result [.one (.i 280)] (.inl rfl) rfl (.cons (.tmp rfl) .nil) ⟨rfl, rfl⟩
 ·refine Tri.skip (Fin.keepS ⟨[(0, _), (3, _)], [(1, _)]⟩ rfl (Fin.then ?_))
  obtain ⟨v2, h3, h⟩ := bnd h
  refine Tri.seqJ (v := v2) (fun (_ : Unit) => ⟨[], [(1, .box 94 (.str x_2 :: (eQuantity r0q ++ ([.i r0sign]))))]⟩) (fun z => .inl z) ?_ ?_
  ·refine Tri.seq (Tri.regionL ?_)
   refine Oc (op_load_gt tyAgg143 names_mem names_rel rfl) (Oc om ?_)
   refine OpsL.nilS ⟨[(0, _), (3, _), (13, .b (.agg (unitNames.map eNamed).flatten)), (14, I 0)], [(1, _)]⟩ rfl (Tri.block (Tri.loopJ h3 (fun (x_3 : Int) => ⟨[(0, Pt 1 0), (3, .b (.one (.str x_1))), (13, .b (.agg (unitNames.map eNamed).flatten)), (14, I x_3)], [(1, .box 94 (.str x_2 :: (eQuantity r0q ++ ([.i r0sign]))))]⟩) [0, 3, 13, 14] [1] rfl ?_))
   rintro x_3 o4 h5 hy6
   refine Tri.seq (Tri.regionL ?_)
   refine Oc (op_lss rfl rfl) (OpsL.nilS ⟨[(0, _), (3, _), (13, _), (14, _), (15, B (decide (x_3 < 23)))], [(1, _)]⟩ rfl (Tri.seq (Tri.ite h5 rfl (fun _ h5 => ?_) (fun _ h5 => ?_))))
   ·refine Tri.skip (Fin.keepS ⟨[(0, _), (3, _), (13, _), (14, _)], [(1, _)]⟩ rfl (Fin.then ?_))
    obtain ⟨v7, h8, h5⟩ := bnd h5
    refine Tri.seqJ (v := v7) (fun (_ : Unit) => ⟨[(0, Pt 1 0), (3, .b (.one (.str x_1))), (13, .b (.agg (unitNames.map eNamed).flatten)), (14, I x_3)], [(1, .box 94 (.str x_2 :: (eQuantity r0q ++ ([.i r0sign]))))]⟩) (fun z => .inl z) ?_ ?_
    ·refine Tri.block (Tri.seq (Tri.regionL ?_))
     obtain ⟨x_4, e9, h8⟩ := bnd h8
     refine Oc (op_index_am (m := 23) tyArr143 tyAgg142 rfl rfl (ix_lo e9) (ix_hi e9) (ix_flat (e := eNamed) (sz := 6) (fun _ => rfl) e9)) (Oc (op_alloc (k := 101) tyZero142 rfl) (Oc (op_store_p tyAgg142 rfl rfl rfl rfl (Nat.le_of_ble_eq_true rfl) rfl) ?_))
     refine OpsL.nilS ⟨[(0, _), (3, _), (5, Pt 101 0), (13, _), (14, _)], [(1, _), (101, .box 142 (eNamed x_4))]⟩ rfl (Tri.seq (Tri.seq (Tri.regionL ?_)))
     refine Oc (op_field_p tyFld142_0 rfl rfl) (Oc (op_load_p1 tyOne9 rfl rfl rfl) (Oc om (Oc (op_neq_str rfl rfl) ?_)))
     refine OpsL.nilS ⟨[(0, _), (3, _), (5, _), (13, _), (14, _), (20, B (decide (x_4.name ≠ x_1)))], [(1, _), (101, _)]⟩ rfl (Tri.ite h8 rfl (fun _ h8 => ?_) (fun _ h8 => ?_))
     ·refine Tri.exit (Fin.then_exit (Fin.block_exit ?_))
      exact Fin.join [0, 3, 13, 14] [1] () (Option.some.inj h8) rfl
     ·refine Tri.skip (Fin.keepS ⟨[(0, _), (5, _)], [(1, _), (101, _)]⟩ rfl (Fin.then (Tri.seq (Tri.regionL ?_))))
      refine Oc om ?_
      obtain ⟨⟨x_5, x_6, x_7⟩, e10, h8⟩ := bnd h8
      refine Oc (op_call (own_a := [(1, _)]) (unit_reader_exponent_spec e10) goes133 rfl ⟨rfl, trivial⟩ rfl rfl) (Oc om (Oc (op_extract rfl rfl) (Oc (op_extract rfl rfl) (Oc oa (Oc oa ?_)))))
      refine OpsL.nilS ⟨[(0, _), (5, _), (6, I x_5), (7, I x_6)], [(1, .box 94 (.str x_7 :: (eQuantity r0q ++ ([.i r0sign])))), (101, _)]⟩ rfl (Tri.seq (Tri.seq (Tri.regionL ?_)))
      refine Oc om (Oc (op_neq rfl rfl) ?_)
      refine OpsL.nilS ⟨[(0, _), (5, _), (6, _), (7, _), (27, B (decide (x_6 ≠ 0)))], [(1, _), (101, _)]⟩ rfl (Tri.ite h8 rfl (fun _ h8 => ?_) (fun _ h8 => ?_))
      ·refine Tri.seq (Tri.regionL ?_)
       refine Oc om (Oc oa ?_)
       refine OpsL.nilS ⟨[(2, I x_6)], [(1, _)]⟩ rfl (Tri.ret (Fin.then_ret (Fin.block_ret ?_)))
       obtain rfl := Option.some.inj h8
       refine Fin.then_ret ?_
       obtain rfl := hy6 _ (Option.some.inj h5).symm
       refine Fin.then_ret (Fin.block_ret (Fin.then_ret ?_))
       obtain rfl := Option.some.inj h
       refine Fin.keepS ⟨[(2, _)], [(1, _)]⟩ rfl ?_
       exact Fin.result [.one (.i x_6)] (.inl rfl) rfl (.cons (.tmp rfl) .nil) ⟨rfl, rfl⟩
      ·refine Tri.skip (Fin.keepS ⟨[(0, _), (5, _), (6, _)], [(1, _), (101, _)]⟩ rfl (Fin.then (Tri.seq ?_)))
       refine Tri.keepS ⟨[(0, _), (5, _), (6, _)], [(1, _), (101, _)]⟩ rfl ?_
       obtain ⟨⟨x_8, x_9⟩, e11, h8⟩ := bnd h8
       refine Tri.regionW mixed [false, false, false, false, false, false, false, false, false, false, false, false, false, false, false, false, false, false, false, false, false, true, false] [Pt 1 0, Pt 1 0, Pt 1 0, Pt 1 1, Pt 1 37, .b (.agg (eMUnit r0q.U)), Pt 101 3, .b (.agg (eMUnit x_4.unit)), Pt 1 0, Pt 1 0, Pt 1 40, I r0sign, I x_5, I (IntKind.i64.wrap (r0sign * x_5)), .tup [.agg (eMUnit x_8), .one (.i x_9)], .tup [.agg (eMUnit x_8), .one (.i x_9)], .b (.agg (eMUnit x_8)), I x_9, Pt 1 0, Pt 1 1, Pt 1 37, B true, I x_9] [⟨[false, false, false, false, false, false, false, false, false, false, false, false, false, false, false, false, false, false, false, false, false, false, false], [(0, Pt 1 0), (5, Pt 101 0), (6, I x_5)], [(1, .box 94 (.str x_7 :: (eQuantity r0q ++ ([.i r0sign])))), (101, .box 142 (eNamed x_4))], [true, true, true, true, true, true, true, true, true, true, true, true, true, true, true, true, true, true, true, true, true, true, true], []⟩, ⟨[false, false, false, false, false, false, false, false, false, false, false, false, false, false, false, false, false, false, false, false, false, true, false], [(0, Pt 1 0), (5, Pt 101 0), (6, I x_5)], [(1, .box 94 (.str x_7 :: (eFrc r0q.V ++ (eMUnit x_8 ++ ([.i r0sign]))))), (101, .box 142 (eNamed x_4))], [true, true, true, true, true, true, true, true, true, true, true, true, true, true, true, true, true, true, true, true, true, true, true], [0, 1, 2, 3, 4, 5, 6, 7, 8, 9, 10, 11, 12, 13, 14, 15, 16, 18, 19, 20, 21]⟩] rfl (⟨by kernel_rfl, ⟨⟨Pt 1 0, fun _ => rfl, fun _ => .p (by exact op_move rfl)⟩, ⟨Pt 1 0, fun _ => rfl, fun _ => .p (by exact op_move rfl)⟩, ⟨Pt 1 0, fun _ => rfl, fun _ => .p (by exact op_nilCheck_p rfl)⟩, ⟨Pt 1 1, fun _ => rfl, fun _ => .p (by exact op_field_p tyFld94_1 rfl rfl)⟩, ⟨Pt 1 37, fun _ => rfl, fun _ => .p (by exact op_field_p tyFld31_1 rfl rfl)⟩, ⟨.b (.agg (eMUnit r0q.U)), fun _ => rfl, fun _ => .p (by exact op_load_p tyAgg29 rfl rfl rfl rfl)⟩, ⟨Pt 101 3, fun _ => rfl, fun _ => .p (by exact op_field_p tyFld142_3 rfl rfl)⟩, ⟨.b (.agg (eMUnit x_4.unit)), fun _ => rfl, fun _ => .p (by exact op_load_p tyAgg29 rfl rfl rfl rfl)⟩, ⟨Pt 1 0, fun _ => rfl, fun _ => .p (by exact op_move rfl)⟩, ⟨Pt 1 0, fun _ => rfl, fun _ => .p (by exact op_nilCheck_p rfl)⟩, ⟨Pt 1 40, fun _ => rfl, fun _ => .p (by exact op_field_p tyFld94_2 rfl rfl)⟩, ⟨I r0sign, fun _ => rfl, fun _ => .p (by exact op_load_p1 tyOne3 rfl rfl rfl)⟩, ⟨I x_5, fun _ => rfl, fun _ => .p (by exact op_move rfl)⟩, ⟨I (IntKind.i64.wrap (r0sign * x_5)), fun _ => rfl, fun _ => .p (by exact op_mul rfl rfl)⟩, ⟨.tup [.agg (eMUnit x_8), .one (.i x_9)], fun _ => rfl, fun _ => .p (by exact op_call0 (unit_combine_spec e11) goes82 rfl rfl)⟩, ⟨.tup [.agg (eMUnit x_8), .one (.i x_9)], fun _ => rfl, fun _ => .p (by exact op_move rfl)⟩, ⟨.b (.agg (eMUnit x_8)), fun _ => rfl, fun _ => .p (by exact op_extract rfl rfl)⟩, ⟨I x_9, fun _ => rfl, fun _ => .p (by exact op_extract rfl rfl)⟩, ⟨Pt 1 0, fun _ => rfl, fun _ => .p (by exact op_nilCheck_p rfl)⟩, ⟨Pt 1 1, fun _ => rfl, fun _ => .p (by exact op_field_p tyFld94_1 rfl rfl)⟩, ⟨Pt 1 37, fun _ => rfl, fun _ => .p (by exact op_field_p tyFld31_1 rfl rfl)⟩, ⟨_, none, .b (.one .any), rfl, (fun e => by simp at e), rfl, rfl, fun _ => .toO [1, 101] (by exact .p (by exact op_store_p tyAgg29 rfl rfl rfl rfl (Nat.le_of_ble_eq_true rfl) rfl)) (by exact rfl)⟩, trivial, trivial⟩, ⟨by kernel_rfl, ⟨trivial, trivial, trivial, trivial, trivial, trivial, trivial, trivial, trivial, trivial, trivial, trivial, trivial, trivial, trivial, trivial, trivial, ⟨I x_9, fun _ => rfl, fun _ => .p (by exact op_extract rfl rfl)⟩, trivial, trivial, trivial, trivial, ⟨I x_9, fun _ => rfl, fun _ => .p (by exact op_assign rfl)⟩, trivial⟩, trivial⟩⟩) rfl rfl rfl [0, 5, 6, 7] [1, 101] (s' := ⟨[(0, _), (5, _), (6, _), (7, I x_9)], [(1, .box 94 (.str x_7 :: (eFrc r0q.V ++ (eMUnit x_8 ++ ([.i r0sign]))))), (101, _)]⟩) rfl ?_
       refine Tri.seq (Tri.seq (Tri.regionL ?_))
       refine Oc om (Oc (op_neq rfl rfl) ?_)
       refine OpsL.nilS ⟨[(0, _), (5, _), (6, _), (7, _), (51, B (decide (x_9 ≠ 0)))], [(1, _), (101, _)]⟩ rfl (Tri.ite h8 rfl (fun _ h8 => ?_) (fun _ h8 => ?_))
       ·refine Tri.seq (Tri.regionL ?_)
        refine Oc om (Oc oa ?_)
        refine OpsL.nilS ⟨[(2, I x_9)], [(1, _)]⟩ rfl (Tri.ret (Fin.then_ret (Fin.block_ret ?_)))
        obtain rfl := Option.some.inj h8
        refine Fin.then_ret ?_
        obtain rfl := hy6 _ (Option.some.inj h5).symm
        refine Fin.then_ret (Fin.block_ret (Fin.then_ret ?_))
        obtain rfl := Option.some.inj h
        refine Fin.keepS ⟨[(2, _)], [(1, _)]⟩ rfl ?_
        exact Fin.result [.one (.i x_9)] (.inl rfl) rfl (.cons (.tmp rfl) .nil) ⟨rfl, rfl⟩
       ·refine Tri.skip (Fin.keepS ⟨[(0, _), (5, _), (6, _)], [(1, _), (101, _)]⟩ rfl (Fin.then (Tri.seq (Tri.regionL ?_))))
        refine Oc oa (OpsL.nilS ⟨[(0, _), (5, _), (6, _), (8, .b (.one (.raw (.func (.func 25) #[] #[]))))], [(1, _), (101, _)]⟩ rfl ?_)
        obtain ⟨v12, h13, h8⟩ := bnd h8
        refine Tri.seqJ (v := v12) (fun (combineNumbers_10 : Nat) => ⟨[(0, Pt 1 0), (5, Pt 101 0), (6, I x_5), (8, .b (.one (.raw (.func (.func combineNumbers_10) #[] #[]))))], [(1, .box 94 (.str x_7 :: (eFrc r0q.V ++ (eMUnit x_8 ++ ([.i r0sign]))))), (101, .box 142 (eNamed x_4))]⟩) (fun z => z) ?_ ?_
        ·refine Tri.seq (Tri.regionL ?_)
         refine Oc om (Oc (op_nilCheck_p rfl) (Oc (op_field_p tyFld94_2 rfl rfl) (Oc (op_load_p1 tyOne3 rfl rfl rfl) (Oc om (Oc (op_mul rfl rfl) ?_)))))
         refine Oc (op_lss rfl rfl) (OpsL.nilS ⟨[(0, _), (5, _), (6, _), (8, _), (59, B (decide ((IntKind.i64.wrap (r0sign * x_5)) < 0)))], [(1, _), (101, _)]⟩ rfl (Tri.ite h13 rfl (fun _ h13 => ?_) (fun _ h13 => ?_)))
         ·refine Tri.regionL (Oc oa (OpsL.nil ?_))
          exact Fin.join [0, 5, 6, 8] [1, 101] 21 (Option.some.inj h13) rfl
         ·refine Tri.skip ?_
          exact Fin.join [0, 5, 6, 8] [1, 101] 25 (Option.some.inj h13) rfl
        ·rintro combineNumbers_10 hv
         subst v12
         obtain ⟨v14, h15, h8⟩ := bnd h8
         refine Tri.seqJ (v := v14) (fun (r_11 : Reader) => ⟨[(0, Pt 1 0)], [(1, .box 94 (eReader r_11))]⟩) (fun z => z) ?_ ?_
         ·refine Tri.seq (Tri.regionL ?_)
          refine Oc om (Oc om (Oc (op_neg rfl) (Oc (op_max rfl rfl) (Oc om ?_))))
          refine OpsL.nilS ⟨[(0, _), (5, _), (8, _), (63, I (max x_5 (IntKind.i64.wrap (-x_5)))), (64, I 0)], [(1, _), (101, _)]⟩ rfl (Tri.block (Tri.loopJ h15 (un2 fun (r_12 : Reader) (x_13 : Int) => ⟨[(0, Pt 1 0), (5, Pt 101 0), (8, .b (.one (.raw (.func (.func combineNumbers_10) #[] #[])))), (63, I (max x_5 (IntKind.i64.wrap (-x_5)))), (64, I x_13)], [(1, .box 94 (eReader r_12)), (101, .box 142 (eNamed x_4))]⟩) [0, 5, 8, 63, 64] [1, 101] rfl ?_))
          rintro ⟨r_12, x_13⟩ o16 h17 hy18
          refine Tri.seq (Tri.regionL ?_)
          refine Oc (op_lss rfl rfl) (OpsL.nilS ⟨[(0, _), (5, _), (8, _), (63, _), (64, _), (65, B (decide (x_13 < (max x_5 (IntKind.i64.wrap (-x_5))))))], [(1, _), (101, _)]⟩ rfl (Tri.seq (Tri.ite h17 rfl (fun _ h17 => ?_) (fun _ h17 => ?_))))
          ·refine Tri.skip (Fin.keepS ⟨[(0, _), (5, _), (8, _), (63, _), (64, _)], [(1, _), (101, _)]⟩ rfl (Fin.then (Tri.seq (Tri.block ?_))))
           refine Tri.keepS ⟨[(0, _), (5, _), (8, _), (63, _), (64, _)], [(1, _), (101, _)]⟩ rfl ?_
           obtain ⟨x_15, e19, h17⟩ := bnd h17
           obtain ⟨x_16, e20, h17⟩ := bnd h17
           refine Tri.regionYF mixed 16 [Pt 1 0, .b (.one (.raw (.func (.func combineNumbers_10) #[] #[]))), Pt 1 0, Pt 1 0, Pt 1 1, Pt 1 1, .b (.agg (eFrc r_12.q.V)), Pt 101 1, I x_4.n, Pt 101 2, I x_4.d, .b (.agg (eFrc x_15)), .b (.agg (eFrc x_16)), Pt 1 0, Pt 1 1, Pt 1 1] [0, 5, 8, 63, 64] [1, 101] (s' := ⟨[(0, _), (5, _), (8, _), (63, _), (64, _)], [(1, .box 94 (.str r_12.s :: (eFrc x_16 ++ (eMUnit r_12.q.U ++ ([.i r_12.sign]))))), (101, _)]⟩) rfl ⟨fun _ => .p om, fun _ => .p om, fun _ => .p om, fun _ => .p (op_nilCheck_p rfl), fun _ => .p (op_field_p tyFld94_1 rfl rfl), fun _ => .p (op_field_p tyFld31_0 rfl rfl), fun _ => .p (lp tyAgg27), fun _ => .p (op_field_p tyFld142_1 rfl rfl), fun _ => .p (op_load_p1 tyOne3 rfl rfl rfl), fun _ => .p (op_field_p tyFld142_2 rfl rfl), fun _ => .p (op_load_p1 tyOne3 rfl rfl rfl), fun _ => .p (op_call0 (q_Frac_spec e19) goes23 rfl rfl), fun _ => .p (op_callv0 (numberFn_spec e20) (numberFn_goes e20) rfl rfl rfl), fun _ => .p (op_nilCheck_p rfl), fun _ => .p (op_field_p tyFld94_1 rfl rfl), fun _ => .p (op_field_p tyFld31_0 rfl rfl), trivial⟩ ⟨_, by exact .p (op_store_p tyAgg27 rfl rfl rfl rfl (Nat.le_of_ble_eq_true rfl) rfl), rfl⟩ rfl (Fin.block_normal (Fin.keepS ⟨[(0, _), (5, _), (8, _), (63, _), (64, _)], [(1, _), (101, _)]⟩ rfl (Fin.then (Tri.regionL ?_))))
           refine Oc (op_add rfl rfl) (Oc om ?_)
           refine OpsL.nil ?_
           exact Fin.againJ [0, 5, 8, 63, 64] [1, 101] ((⟨r_12.s, (⟨x_16, r_12.q.U⟩ : Quantity), r_12.sign⟩ : Reader), IntKind.i64.wrap (x_13 + 1)) (Option.some.inj h17) rfl
          ·refine Tri.exit (Fin.then_exit ?_)
           obtain rfl := hy18 _ (Option.some.inj h17).symm
           refine Fin.then_exit (Fin.block_exit ?_)
           exact Fin.join [0] [1] r_12 rfl rfl
         ·rintro r_11 hv
          subst v14
          refine Tri.seq (Tri.seq (Tri.regionL ?_))
          refine Oc om (Oc (op_nilCheck_p rfl) (Oc (op_field_p tyFld94_1 rfl rfl) (Oc (op_field_p tyFld31_0 rfl rfl) (Oc (lp tyAgg27) ?_))))
          obtain ⟨x_17, e21, h8⟩ := bnd h8
          refine Oc (op_call0 (q_Good_spec e21) goes62 rfl rfl) (Oc (op_not rfl) ?_)
          refine OpsL.nilS ⟨[(89, B (!x_17))], [(1, _)]⟩ rfl (Tri.ite h8 rfl (fun _ h8 => ?_) (fun _ h8 => ?_))
          ·refine Tri.seq (Tri.regionL ?_)
           refine Oc oa (OpsL.nilS ⟨[(2, I 30)], [(1, _)]⟩ rfl (Tri.ret (Fin.then_ret (Fin.block_ret ?_))))
           obtain rfl := Option.some.inj h8
           refine Fin.then_ret ?_
           obtain rfl := hy6 _ (Option.some.inj h5).symm
           refine Fin.then_ret (Fin.block_ret (Fin.then_ret ?_))
           obtain rfl := Option.some.inj h
           refine Fin.keepS ⟨[(2, _)], [(1, _)]⟩ rfl ?_
           exact Fin.result [.one (.i 30)] (.inl rfl) rfl (.cons (.tmp rfl) .nil) ⟨rfl, rfl⟩
          ·refine Tri.skip (Fin.keepS ⟨[], [(1, _)]⟩ rfl (Fin.then (Tri.seq (Tri.regionL ?_))))
           refine Oc oa (OpsL.nilS ⟨[(2, I 0)], [(1, _)]⟩ rfl (Tri.ret (Fin.block_ret ?_)))
           obtain rfl := Option.some.inj h8
           refine Fin.then_ret ?_
           obtain rfl := hy6 _ (Option.some.inj h5).symm
           refine Fin.then_ret (Fin.block_ret (Fin.then_ret ?_))
           obtain rfl := Option.some.inj h
           refine Fin.keepS ⟨[(2, _)], [(1, _)]⟩ rfl ?_
           exact Fin.result [.one (.i 0)] (.inl rfl) rfl (.cons (.tmp rfl) .nil) ⟨rfl, rfl⟩
    ·rintro _ hv
     subst v7
     refine Tri.regionL (Oc (op_add rfl rfl) (Oc om ?_))
     refine OpsL.nil ?_
     exact Fin.againJ [0, 3, 13, 14] [1] (IntKind.i64.wrap (x_3 + 1)) (Option.some.inj h5) rfl
   ·refine Tri.exit (Fin.then_exit ?_)
    obtain rfl := hy6 _ (Option.some.inj h5).symm
    refine Fin.then_exit (Fin.block_exit ?_)
    exact Fin.join [] [1] () rfl rfl
  ·rintro _ hv
   subst v2
   refine Tri.seq (Tri.regionL ?_)
   refine Oc oa (OpsL.nilS ⟨[(2, I 5)], [(1, _)]⟩ rfl (Tri.ret ?_))
   obtain rfl := Option.some.inj h
   refine Fin.keepS ⟨[(2, _)], [(1, _)]⟩ rfl ?_
   exact Fin.result [.one (.i 5)] (.inl rfl) rfl (.cons (.tmp rfl) .nil) ⟨rfl, rfl⟩
def unit_Parse_S (F : Nat) (s0 : Str) : Option (Quantity × Int) :=
 if (decide (100 < (s0.length : Int))) = true then (letN (⟨(⟨(⟨false, false, A16.zero⟩ : Big), (⟨false, false, A16.zero⟩ : Big)⟩ : Frc), (⟨0, 0, 0⟩ : MUnit)⟩ : Quantity) fun x_1 => some (x_1, 2)) else ((q_Of_S F 1).bind fun x_2 => letN (⟨s0, (⟨x_2, (⟨0, 0, 0⟩ : MUnit)⟩ : Quantity), 1⟩ : Reader) fun x_3 => Option.bind (iter F (fun r_4 => Option.bind (unit_reader_factor_S F r_4.s r_4.q r_4.sign) (un4 fun x_5 x_6 x_7 x_8 => if (decide (x_5 ≠ 0)) = true then (letN (⟨(⟨(⟨false, false, A16.zero⟩ : Big), (⟨false, false, A16.zero⟩ : Big)⟩ : Frc), (⟨0, 0, 0⟩ : MUnit)⟩ : Quantity) fun x_9 => some (.inr (x_9, x_5))) else (if (decide (x_6 = [])) = true then (some (.inr (x_7, 0))) else ((idx? x_6 0).bind fun x_10 => if decide ((x_10.toNat : Int) = 42) = true then ((unit_reader_times_S F x_6 x_7 x_8).bind fun x_11 => (drop? x_6 1).bind fun x_12 => some (.inl (⟨x_12, x_7, x_11⟩ : Reader))) else (if decide ((x_10.toNat : Int) = 47) = true then ((unit_reader_over_S F x_6 x_7 x_8).bind fun x_13 => (drop? x_6 1).bind fun x_14 => some (.inl (⟨x_14, x_7, x_13⟩ : Reader))) else (letN (⟨(⟨(⟨false, false, A16.zero⟩ : Big), (⟨false, false, A16.zero⟩ : Big)⟩ : Frc), (⟨0, 0, 0⟩ : MUnit)⟩ : Quantity) fun x_15 => some (.inr (x_15, 280)))))))) x_3) (fun y => some y))
theorem unit_Parse_spec {F : Nat} {s0 : Str} {r : Quantity × Int} (h : unit_Parse_S F s0 = some r) : Meets Tryz.prog (tabs mx) 17 [] [.one (.str s0)] (Is [] (.tup [.agg (eQuantity r.1), .one (.i r.2)])) := by
 unfold unit_Parse_S at h
 refine Meets.intro 58 Tryz.func17 Tryz.ntmps17 rfl (by simp) fun E => ?_
 show Tri _ E ⟨58, [], []⟩ _ ⟨[(0, .b (.one (.str s0)))], []⟩ _
 refine Tri.seq (Tri.regionL ?_)
 refine Oc (op_alloc (k := 101) tyZero31 rfl) (Oc oa ?_)
 refine OpsL.nilS ⟨[(0, .b (.one (.str s0))), (2, Pt 101 0)], [(101, .box 31 (.bool false :: .bool false :: (eW A16.zero ++ (.bool false :: .bool false :: (eW A16.zero ++ ([.i 0, .i 0, .i 0]))))))]⟩ rfl (Tri.seq (Tri.seq (Tri.regionL ?_)))
 refine Oc om (Oc (op_len_str und9 rfl) (Oc (op_gtr rfl rfl) ?_))
 refine OpsL.nilS ⟨[(0, _), (2, _), (10, B (decide (100 < (s0.length : Int))))], [(101, _)]⟩ rfl (Tri.ite h rfl (fun _ h => ?_) (fun _ h => ?_))
 ·refine Tri.seq (Tri.regionL ?_)
  refine OpsL.consA eQuantity h rfl (op_build tyBuild31 rfl rfl) (fun x_1 h => ?_)
  refine Oc (op_store_p tyAgg31 rfl rfl rfl rfl (Nat.le_of_ble_eq_true rfl) rfl) (Oc oa ?_)
  refine OpsL.nilS ⟨[(2, _), (3, I 2)], [(101, .box 31 (eQuantity x_1))]⟩ rfl (Tri.ret (Fin.then_ret ?_))
  obtain rfl := Option.some.inj h
  refine Fin.keepS ⟨[(2, _), (3, _)], [(101, _)]⟩ rfl (Fin.result' [.agg (eQuantity x_1), .one (.i 2)] (.inl rfl) rfl (.cons (.agg tyAgg31 rfl rfl rfl rfl) (.cons (.tmp rfl) .nil)) ⟨rfl, rfl⟩)
 ·refine Tri.skip (Fin.keepS ⟨[(0, _), (2, _)], [(101, _)]⟩ rfl (Fin.then (Tri.seq (Tri.regionL ?_))))
  refine Oc om ?_
  obtain ⟨x_2, e1, h⟩ := bnd h
  refine Oc (op_call0 (q_Of_spec e1) goes20 rfl rfl) (Oc (op_build tyBuild31 rfl rfl) ?_)
  refine OpsL.consA eReader h rfl (op_build tyBuild94 rfl rfl) (fun x_3 h => ?_)
  refine Oc (op_box (k := 102) rfl rfl) (Oc oa ?_)
  refine OpsL.nilS ⟨[(2, _), (4, Pt 102 0)], [(101, _), (102, .box 94 (eReader x_3))]⟩ rfl (Tri.seq (Tri.regionL ?_))
  refine Oc (op_makeMap (k := 103) undm95 rfl) (Oc om (Oc (op_makeFunc rfl rfl) (Oc (op_mins (l := []) tyMap95 rfl rfl rfl rfl) (Oc om (Oc (op_makeFunc rfl rfl) ?_)))))
  refine Oc (op_mins (l := [(42, .clo 68 [.ptr 102 0] [])]) tyMap95 rfl rfl rfl rfl) (Oc om (Oc oa ?_))
  refine OpsL.nilS ⟨[(2, _), (4, _), (5, .b (.row 103))], [(101, _), (102, _), (103, .mp (eM .u8 [(42, .clo 68 [.ptr 102 0] []), (47, .clo 69 [.ptr 102 0] [])]))]⟩ rfl (Tri.block ?_)
  obtain ⟨v2, h3, h⟩ := bnd h
  refine Tri.loopJ h3 (fun (r_4 : Reader) => ⟨[(2, Pt 101 0), (4, Pt 102 0), (5, .b (.row 103))], [(101, .box 31 (.bool false :: .bool false :: (eW A16.zero ++ (.bool false :: .bool false :: (eW A16.zero ++ ([.i 0, .i 0, .i 0])))))), (102, .box 94 (eReader r_4)), (103, .mp (eM .u8 [(42, .clo 68 [.ptr 102 0] []), (47, .clo 69 [.ptr 102 0] [])]))]⟩) [2, 4, 5] [101, 102, 103] rfl ?_
  rintro r_4 o4 h5 hy6
  refine Tri.block (Tri.seq (Tri.seq (Tri.regionL ?_)))
  refine Oc om ?_
  obtain ⟨⟨x_5, x_6, x_7, x_8⟩, e7, h5⟩ := bnd h5
  refine Oc (op_call (own_a := [(102, _)]) ((unit_reader_factor_spec e7).sw 1 102) goes70 rfl ⟨rfl, trivial⟩ rfl rfl) (Oc oa ?_)
  refine OpsL.nilS ⟨[(2, _), (4, _), (5, _), (6, I x_5)], [(101, _), (102, .box 94 (.str x_6 :: (eQuantity x_7 ++ ([.i x_8])))), (103, _)]⟩ rfl (Tri.seq (Tri.regionL ?_))
  refine Oc om (Oc (op_neq rfl rfl) ?_)
  refine OpsL.nilS ⟨[(2, _), (4, _), (5, _), (6, _), (26, B (decide (x_5 ≠ 0)))], [(101, _), (102, _), (103, _)]⟩ rfl (Tri.ite h5 rfl (fun _ h5 => ?_) (fun _ h5 => ?_))
  ·refine Tri.seq (Tri.regionL ?_)
   refine OpsL.consA eQuantity h5 rfl (op_build tyBuild31 rfl rfl) (fun x_9 h5 => ?_)
   refine Oc om (Oc (op_store_p tyAgg31 rfl rfl rfl rfl (Nat.le_of_ble_eq_true rfl) rfl) (Oc oa ?_))
   refine OpsL.nilS ⟨[(2, _), (3, I x_5)], [(101, .box 31 (eQuantity x_9))]⟩ rfl (Tri.ret (Fin.then_ret (Fin.block_ret ?_)))
   obtain rfl := hy6 _ (Option.some.inj h5).symm
   refine Fin.then_ret (Fin.block_ret ?_)
   obtain rfl := Option.some.inj h
   refine Fin.keepS ⟨[(2, _), (3, _)], [(101, _)]⟩ rfl (Fin.result' [.agg (eQuantity x_9), .one (.i x_5)] (.inl rfl) rfl (.cons (.agg tyAgg31 rfl rfl rfl rfl) (.cons (.tmp rfl) .nil)) ⟨rfl, rfl⟩)
  ·refine Tri.skip (Fin.keepS ⟨[(2, _), (4, _), (5, _)], [(101, _), (102, _), (103, _)]⟩ rfl (Fin.then (Tri.seq (Tri.seq (Tri.regionL ?_)))))
   refine Oc om (Oc (op_nilCheck_p rfl) (Oc (op_field_p tyFld94_0 rfl rfl) (Oc (op_load_p1 tyOne9 rfl rfl rfl) (Oc (op_eql_str rfl rfl) ?_))))
   refine OpsL.nilS ⟨[(2, _), (4, _), (5, _), (33, B (decide (x_6 = [])))], [(101, _), (102, _), (103, _)]⟩ rfl (Tri.ite h5 rfl (fun _ h5 => ?_) (fun _ h5 => ?_))
   ·refine Tri.seq (Tri.regionL ?_)
    refine Oc om (Oc (op_nilCheck_p rfl) (Oc (op_field_p tyFld94_1 rfl rfl) (Oc (lp tyAgg31) (Oc (op_store_p tyAgg31 rfl rfl rfl rfl (Nat.le_of_ble_eq_true rfl) rfl) (Oc oa ?_)))))
    refine OpsL.nilS ⟨[(2, _), (3, I 0)], [(101, .box 31 (eQuantity x_7))]⟩ rfl (Tri.ret (Fin.then_ret (Fin.block_ret ?_)))
    obtain rfl := hy6 _ (Option.some.inj h5).symm
    refine Fin.then_ret (Fin.block_ret ?_)
    obtain rfl := Option.some.inj h
    refine Fin.keepS ⟨[(2, _), (3, _)], [(101, _)]⟩ rfl (Fin.result' [.agg (eQuantity x_7), .one (.i 0)] (.inl rfl) rfl (.cons (.agg tyAgg31 rfl rfl rfl rfl) (.cons (.tmp rfl) .nil)) ⟨rfl, rfl⟩)
   ·refine Tri.skip (Fin.keepS ⟨[(2, _), (4, _), (5, _)], [(101, _), (102, _), (103, _)]⟩ rfl (Fin.then (Tri.seq (Tri.regionL ?_))))
    refine Oc om (Oc om (Oc (op_nilCheck_p rfl) (Oc (op_field_p tyFld94_0 rfl rfl) (Oc (op_load_p1 tyOne9 rfl rfl rfl) ?_))))
    obtain ⟨x_10, e8, h5⟩ := bnd h5
    refine Oc (op_index_str und9 rfl rfl (ix_lo e8) (ix_get e8)) (OpsL.ite h5 (fun hc9 h5 => ?_) (fun hc9 h5 => ?_))
    ·refine Oc (op_mget1 (l := [(42, .clo 68 [.ptr 102 0] []), (47, .clo 69 [.ptr 102 0] [])]) tyMap95 rfl rfl rfl (mget_hit hc9)) (Oc oa ?_)
     refine OpsL.nilS ⟨[(2, _), (4, _), (5, _), (7, .b (.clo 68 [.ptr 102 0] []))], [(101, _), (102, _), (103, _)]⟩ rfl (Tri.seq (Tri.seq (Tri.regionL ?_)))
     refine Oc om (Oc (op_eql_fn und1 rfl) ?_)
     refine OpsL.nilS ⟨[(2, _), (4, _), (5, _), (7, _), (46, B false)], [(101, _), (102, _), (103, _)]⟩ rfl (Tri.condF rfl (Tri.skip (Fin.keepS ⟨[(2, _), (4, _), (5, _), (7, _)], [(101, _), (102, _), (103, _)]⟩ rfl (Fin.then (Tri.seq (Tri.regionL ?_))))))
     refine Oc om ?_
     obtain ⟨x_11, e10, h5⟩ := bnd h5
     refine Oc (op_callc (own_a := [(102, _)]) ((unit_reader_times_spec e10).sw 1 102) goes68 rfl rfl rfl ⟨rfl, trivial⟩ rfl rfl) (OpsL.nilS ⟨[(2, _), (4, _), (5, _)], [(101, _), (102, .box 94 (.str x_6 :: (eQuantity x_7 ++ ([.i x_11])))), (103, _)]⟩ rfl (Tri.regionL (Oc om (Oc om (Oc (op_nilCheck_p rfl) (Oc (op_field_p tyFld94_0 rfl rfl) (Oc (op_load_p1 tyOne9 rfl rfl rfl) ?_)))))))
     obtain ⟨x_12, e11, h5⟩ := bnd h5
     refine Oc (op_slice_str_l und9 e11 rfl rfl) (Oc (op_nilCheck_p rfl) (Oc (op_field_p tyFld94_0 rfl rfl) (Oc (op_store_p1 tyOne9 rfl rfl rfl (Nat.le_of_ble_eq_true rfl) rfl) ?_)))
     refine OpsL.nil (Fin.block_normal ?_)
     exact Fin.againJ [2, 4, 5] [101, 102, 103] (⟨x_12, x_7, x_11⟩ : Reader) (Option.some.inj h5) rfl
    ·refine OpsL.ite h5 (fun hc12 h5 => ?_) (fun hc12 h5 => ?_)
     ·refine Oc (op_mget1 (l := [(42, .clo 68 [.ptr 102 0] []), (47, .clo 69 [.ptr 102 0] [])]) tyMap95 rfl rfl rfl (mget_miss hc9 (mget_hit hc12))) (Oc oa ?_)
      refine OpsL.nilS ⟨[(2, _), (4, _), (5, _), (7, .b (.clo 69 [.ptr 102 0] []))], [(101, _), (102, _), (103, _)]⟩ rfl (Tri.seq (Tri.seq (Tri.regionL ?_)))
      refine Oc om (Oc (op_eql_fn und1 rfl) ?_)
      refine OpsL.nilS ⟨[(2, _), (4, _), (5, _), (7, _), (46, B false)], [(101, _), (102, _), (103, _)]⟩ rfl (Tri.condF rfl (Tri.skip (Fin.keepS ⟨[(2, _), (4, _), (5, _), (7, _)], [(101, _), (102, _), (103, _)]⟩ rfl (Fin.then (Tri.seq (Tri.regionL ?_))))))
      refine Oc om ?_
      obtain ⟨x_13, e13, h5⟩ := bnd h5
      refine Oc (op_callc (own_a := [(102, _)]) ((unit_reader_over_spec e13).sw 1 102) goes69 rfl rfl rfl ⟨rfl, trivial⟩ rfl rfl) (OpsL.nilS ⟨[(2, _), (4, _), (5, _)], [(101, _), (102, .box 94 (.str x_6 :: (eQuantity x_7 ++ ([.i x_13])))), (103, _)]⟩ rfl (Tri.regionL (Oc om (Oc om (Oc (op_nilCheck_p rfl) (Oc (op_field_p tyFld94_0 rfl rfl) (Oc (op_load_p1 tyOne9 rfl rfl rfl) ?_)))))))
      obtain ⟨x_14, e14, h5⟩ := bnd h5
      refine Oc (op_slice_str_l und9 e14 rfl rfl) (Oc (op_nilCheck_p rfl) (Oc (op_field_p tyFld94_0 rfl rfl) (Oc (op_store_p1 tyOne9 rfl rfl rfl (Nat.le_of_ble_eq_true rfl) rfl) ?_)))
      refine OpsL.nil (Fin.block_normal ?_)
      exact Fin.againJ [2, 4, 5] [101, 102, 103] (⟨x_14, x_7, x_13⟩ : Reader) (Option.some.inj h5) rfl
     ·refine Oc (op_mget1 (l := [(42, .clo 68 [.ptr 102 0] []), (47, .clo 69 [.ptr 102 0] [])]) tyMap95 rfl rfl rfl (mget_miss hc9 (mget_miss hc12 rfl))) (Oc oa ?_)
      refine OpsL.nilS ⟨[(2, _), (4, _), (5, _), (7, .b (.one (.raw .nilFunc)))], [(101, _), (102, _), (103, _)]⟩ rfl (Tri.seq (Tri.seq (Tri.regionL ?_)))
      refine Oc om (Oc (op_eql_fnil und1 rfl) ?_)
      refine OpsL.nilS ⟨[(2, _), (4, _), (5, _), (7, _), (46, B true)], [(101, _), (102, _), (103, _)]⟩ rfl (Tri.condT rfl (Tri.seq (Tri.regionL ?_)))
      refine OpsL.consA eQuantity h5 rfl (op_build tyBuild31 rfl rfl) (fun x_15 h5 => ?_)
      refine Oc (op_store_p tyAgg31 rfl rfl rfl rfl (Nat.le_of_ble_eq_true rfl) rfl) (Oc oa ?_)
      refine OpsL.nilS ⟨[(2, _), (3, I 280)], [(101, .box 31 (eQuantity x_15))]⟩ rfl (Tri.ret (Fin.then_ret (Fin.block_ret ?_)))
      obtain rfl := hy6 _ (Option.some.inj h5).symm
      refine Fin.then_ret (Fin.block_ret ?_)
      obtain rfl := Option.some.inj h
      refine Fin.keepS ⟨[(2, _), (3, _)], [(101, _)]⟩ rfl (Fin.result' [.agg (eQuantity x_15), .one (.i 280)] (.inl rfl) rfl (.cons (.agg tyAgg31 rfl rfl rfl rfl) (.cons (.tmp rfl) .nil)) ⟨rfl, rfl⟩)
def r4_Bad_S (F : Nat) : Option Frc :=
 (r3_Bad_S F).bind fun x_1 => (r4_one_S F).bind fun x_2 => some (⟨x_1, x_2⟩ : Frc)
theorem r4_Bad_spec {F : Nat} {r : Frc} (h : r4_Bad_S F = some r) : Meets Tryz.prog (tabs mx) 114 [] [] (Is [] (.b (.agg (eFrc r)))) := by
 unfold r4_Bad_S at h
 refine Meets.intro 4 Tryz.func114 Tryz.ntmps114 rfl (by simp) fun E => ?_
 show Tri _ E ⟨4, [], []⟩ _ ⟨[], []⟩ _
 refine Tri.seq (Tri.regionL ?_)
 refine Oc (op_alloc (k := 101) tyZero27 rfl) (OpsL.nilS ⟨[(0, Pt 101 0)], [(101, .box 27 zFrc)]⟩ rfl (Tri.seq (Tri.regionL ?_)))
 obtain ⟨x_1, e1, h⟩ := bnd h
 refine Oc (op_call0 (r3_Bad_spec e1) goes151 rfl rfl) ?_
 obtain ⟨x_2, e2, h⟩ := bnd h
 refine Oc (op_call0 (r4_one_spec e2) goes108 rfl rfl) (Oc (op_build tyBuild27 rfl rfl) (Oc (op_store_p tyAgg27 rfl rfl rfl rfl (Nat.le_of_ble_eq_true rfl) rfl) ?_))
 refine OpsL.nilS ⟨[(0, _)], [(101, .box 27 (eBig x_1 ++ (eBig x_2)))]⟩ rfl (Tri.ret ?_)
 obtain rfl := Option.some.inj h
 refine Fin.keepS ⟨[(0, _)], [(101, _)]⟩ rfl (Fin.result' [.agg (eBig x_1 ++ (eBig x_2))] (.inl rfl) rfl (.cons (.agg tyAgg27 rfl rfl rfl rfl) .nil) ⟨rfl, rfl⟩)
def r3_Neg_S (F : Nat) (x0 : Big) : Option Big :=
 (r3_Good_S F x0).bind fun x_1 => if (!x_1) = true then ((r3_Bad_S F).bind fun x_2 => some x_2) else ((r3_digits_S F x0).bind fun x_3 => (r3_number_S F (!x0.Neg) x_3).bind fun x_4 => some x_4)
theorem r3_Neg_spec {F : Nat} {x0 : Big} {r : Big} (h : r3_Neg_S F x0 = some r) : Meets Tryz.prog (tabs mx) 159 [] [.agg (eBig x0)] (Is [] (.b (.agg (eBig r)))) := by
 unfold r3_Neg_S at h
 refine Meets.intro 13 Tryz.func159 Tryz.ntmps159 rfl (by simp) fun E => ?_
 show Tri _ E ⟨13, [], []⟩ _ ⟨[(0, .b (.agg (eBig x0)))], []⟩ _
 refine Tri.seq (Tri.regionL ?_)
 refine Oc (op_box (k := 101) rfl rfl) (Oc (op_alloc (k := 102) tyZero25 rfl) ?_)
 refine OpsL.nilS ⟨[(1, Pt 101 0), (2, Pt 102 0)], [(101, .box 25 (eBig x0)), (102, .box 25 zBig)]⟩ rfl (Tri.seq (Tri.seq (Tri.regionL ?_)))
 refine Oc (lp tyAgg25) ?_
 obtain ⟨x_1, e1, h⟩ := bnd h
 refine Oc (op_call0 (r3_Good_spec e1) goes65 rfl rfl) (Oc (op_not rfl) ?_)
 refine OpsL.nilS ⟨[(1, _), (2, _), (5, B (!x_1))], [(101, _), (102, _)]⟩ rfl (Tri.ite h rfl (fun _ h => ?_) (fun _ h => ?_))
 ·refine Tri.seq (Tri.regionL ?_)
  obtain ⟨x_2, e2, h⟩ := bnd h
  refine Oc (op_call0 (r3_Bad_spec e2) goes151 rfl rfl) (Oc (op_store_p tyAgg25 rfl rfl rfl rfl (Nat.le_of_ble_eq_true rfl) rfl) ?_)
  refine OpsL.nilS ⟨[(2, _)], [(102, .box 25 (eBig x_2))]⟩ rfl (Tri.ret (Fin.then_ret ?_))
  obtain rfl := Option.some.inj h
  refine Fin.keepS ⟨[(2, _)], [(102, _)]⟩ rfl (Fin.result' [.agg (eBig x_2)] (.inl rfl) rfl (.cons (.agg tyAgg25 rfl rfl rfl rfl) .nil) ⟨rfl, rfl⟩)
 ·refine Tri.skip (Fin.keepS ⟨[(1, _), (2, _)], [(101, _), (102, _)]⟩ rfl (Fin.then (Tri.seq ?_)))
  refine Tri.keepS ⟨[(1, _), (2, _)], [(101, _), (102, _)]⟩ rfl ?_
  obtain ⟨x_3, e3, h⟩ := bnd h
  obtain ⟨x_4, e4, h⟩ := bnd h
  refine Tri.regionY mixed 6 [Pt 101 1, B x0.Neg, B (!x0.Neg), .b (.agg (eBig x0)), .b (.one (.sl 1 (x_3.map eI))), .b (.agg (eBig x_4))] [2] [102] (s' := ⟨[(2, _)], [(102, .box 25 (eBig x_4))]⟩) rfl ⟨fun _ => .p (op_field_p tyFld25_1 rfl rfl), fun _ => .p (op_load_p1 tyOne4 rfl rfl rfl), fun _ => .p (op_not rfl), fun _ => .p (lp tyAgg25), fun _ => .p (op_call0 (r3_digits_spec e3) goes66 rfl rfl), fun _ => .p (op_call0 (r3_number_spec e4) goes156 rfl rfl), trivial⟩ ⟨_, by exact .p (op_store_p tyAgg25 rfl rfl rfl rfl (Nat.le_of_ble_eq_true rfl) rfl), rfl⟩ rfl (Tri.ret ?_)
  obtain rfl := Option.some.inj h
  refine Fin.keepS ⟨[(2, _)], [(102, _)]⟩ rfl (Fin.result' [.agg (eBig x_4)] (.inl rfl) rfl (.cons (.agg tyAgg25 rfl rfl rfl rfl) .nil) ⟨rfl, rfl⟩)
def r3_floor_S (F : Nat) (n0 : Int) (m0 : Int) : Option Int :=
 (quo? .i64 n0 m0).bind fun x_1 => Option.bind ((rem? n0 m0).bind fun x_3 => letN ((decide (x_3 ≠ 0)) && ((decide (n0 < 0)) != (decide (m0 < 0)))) fun x_4 => if x_4 = true then (some (IntKind.i64.wrap (x_1 - 1))) else (some x_1)) (fun q_2 => some q_2)
theorem r3_floor_spec {F : Nat} {n0 : Int} {m0 : Int} {r : Int} (h : r3_floor_S F n0 m0 = some r) : Meets Tryz.prog (tabs mx) 153 [] [.one (.i n0), .one (.i m0)] (Is [] (.b (.one (.i r)))) := by
 unfold r3_floor_S at h
 refine Meets.intro 23 Tryz.func153 Tryz.ntmps153 rfl (by simp) fun E => ?_
 show Tri _ E ⟨23, [], []⟩ _ ⟨[(0, I n0), (1, I m0)], []⟩ _
 refine Tri.seq (Tri.regionL ?_)
 refine Oc oa (OpsL.nilS ⟨[(0, I n0), (1, I m0)], []⟩ rfl (Tri.seq (Tri.regionL ?_)))
 refine Oc om (Oc om ?_)
 obtain ⟨x_1, e1, h⟩ := bnd h
 refine Oc (op_quo2 e1 rfl rfl) (Oc oa ?_)
 refine OpsL.nilS ⟨[(0, _), (1, _), (5, I x_1)], []⟩ rfl ?_
 obtain ⟨v2, h3, h⟩ := bnd h
 refine Tri.seqJ (v := v2) (fun (q_2 : Int) => ⟨[(5, I q_2)], []⟩) (fun z => z) ?_ ?_
 ·refine Tri.seq (Tri.regionL ?_)
  refine Oc om (Oc om ?_)
  obtain ⟨x_3, e4, h3⟩ := bnd h3
  refine Oc (op_rem2 e4 rfl rfl) (Oc (op_neq rfl rfl) (Oc om ?_))
  refine CgT (decide (x_3 ≠ 0)) [] (fun g5 => trivial) (fun g5 => om) (CgT (decide (x_3 ≠ 0)) [14] (fun g6 => by exact ⟨g6, trivial⟩) (fun g6 => op_lss rfl rfl) (OpsL.keepS ⟨[(1, _), (5, _), (13, B (decide (x_3 ≠ 0))), (15, .opt (decide (x_3 ≠ 0)) (.one (.bool (decide (n0 < 0)))))], []⟩ rfl (CgT (decide (x_3 ≠ 0)) [] (fun g7 => by exact trivial) (fun g7 => om) (CgT (decide (x_3 ≠ 0)) [16] (fun g8 => by exact ⟨g8, trivial⟩) (fun g8 => op_lss rfl rfl) (CgT (decide (x_3 ≠ 0)) [15, 17] (fun g9 => by exact ⟨g9, g9, trivial⟩) (fun g9 => op_neq_bool und4 rfl rfl) ?_)))))
  refine OpsL.consB h3 rfl (op_pick_and (fun e => e) rfl rfl rfl rfl) (fun x_4 h3 => ?_)
  refine OpsL.nilS ⟨[(5, _), (19, B x_4)], []⟩ rfl (Tri.ite h3 rfl (fun _ h3 => ?_) (fun _ h3 => ?_))
  ·refine Tri.regionL (Oc om (Oc (op_sub rfl rfl) (Oc oa ?_)))
   refine OpsL.nil ?_
   exact Fin.join [5] [] (IntKind.i64.wrap (x_1 - 1)) (Option.some.inj h3) rfl
  ·refine Tri.skip ?_
   exact Fin.join [5] [] x_1 (Option.some.inj h3) rfl
 ·rintro q_2 hv
  subst v2
  refine Tri.seq (Tri.regionL ?_)
  refine Oc om (Oc oa ?_)
  refine OpsL.nilS ⟨[(4, I q_2)], []⟩ rfl (Tri.ret ?_)
  obtain rfl := Option.some.inj h
  refine Fin.keepS ⟨[(4, _)], []⟩ rfl (Fin.result' [.one (.i q_2)] (.inl rfl) rfl (.cons (.tmp rfl) .nil) ⟨rfl, rfl⟩)
def r3_Quo_S (F : Nat) (a0 : Big) (b0 : Big) : Option Big :=
 Option.bind (r3_word_S F a0) (un2 fun x_1 x_2 => Option.bind (r3_word_S F b0) (un2 fun x_3 x_4 => if ((x_2 && x_4) && (decide (x_3 ≠ 0))) = true then ((r3_floor_S F x_1 x_3).bind fun x_5 => (r3_Of_S F x_5).bind fun x_6 => some x_6) else ((r3_Good_S F a0).bind fun x_7 => (gcall (!(!x_7)) (r3_Good_S F b0)).bind fun x_8 => (gcall (!((!x_7) || (!x_8))) (r3_digits_S F b0)).bind fun x_9 => if (((!x_7) || (!x_8)) || (decide ((x_9.length : Int) = 0))) = true then ((r3_Bad_S F).bind fun x_10 => some x_10) else ((r3_digits_S F a0).bind fun x_11 => (r3_digits_S F b0).bind fun x_12 => Option.bind (r3_divide_S F x_11 x_12) (un2 fun x_13 x_14 => Option.bind (if ((a0.Neg != b0.Neg) && (decide (0 < (x_14.length : Int)))) = true then ((r3_plus_S F x_13 [1]).bind fun x_16 => some x_16) else (some x_13)) (fun q_15 => (r3_number_S F (a0.Neg != b0.Neg) q_15).bind fun x_17 => some x_17))))))
theorem r3_Quo_spec {F : Nat} {a0 : Big} {b0 : Big} {r : Big} (h : r3_Quo_S F a0 b0 = some r) : Meets Tryz.prog (tabs mx) 101 [] [.agg (eBig a0), .agg (eBig b0)] (Is [] (.b (.agg (eBig r)))) := by
 unfold r3_Quo_S at h
 refine Meets.intro 76 Tryz.func101 Tryz.ntmps101 rfl (by simp) fun E => ?_
 show Tri _ E ⟨76, [], []⟩ _ ⟨[(0, .b (.agg (eBig a0))), (1, .b (.agg (eBig b0)))], []⟩ _
 refine Tri.seq (Tri.regionL ?_)
 refine Oc (op_box (k := 101) rfl rfl) (Oc (op_box (k := 102) rfl rfl) (Oc (op_alloc (k := 103) tyZero25 rfl) ?_))
 refine OpsL.nilS ⟨[(2, Pt 101 0), (3, Pt 102 0), (4, Pt 103 0)], [(101, .box 25 (eBig a0)), (102, .box 25 (eBig b0)), (103, .box 25 zBig)]⟩ rfl (Tri.seq (Tri.regionL ?_))
 refine Oc (lp tyAgg25) ?_
 obtain ⟨⟨x_1, x_2⟩, e1, h⟩ := bnd h
 refine Oc (op_call0 (r3_word_spec e1) goes152 rfl rfl) (Oc om (Oc (op_extract rfl rfl) (Oc (op_extract rfl rfl) (Oc oa (Oc oa ?_)))))
 refine OpsL.nilS ⟨[(2, _), (3, _), (4, _), (5, I x_1), (6, B x_2)], [(101, _), (102, _), (103, _)]⟩ rfl (Tri.seq (Tri.regionL ?_))
 refine Oc (lp tyAgg25) ?_
 obtain ⟨⟨x_3, x_4⟩, e2, h⟩ := bnd h
 refine Oc (op_call0 (r3_word_spec e2) goes152 rfl rfl) (Oc om (Oc (op_extract rfl rfl) (Oc (op_extract rfl rfl) (Oc oa (Oc oa ?_)))))
 refine OpsL.nilS ⟨[(2, _), (3, _), (4, _), (5, _), (6, _), (7, I x_3), (8, B x_4)], [(101, _), (102, _), (103, _)]⟩ rfl (Tri.seq (Tri.seq (Tri.regionL ?_)))
 refine Oc om (Oc om ?_)
 refine CgT x_2 [] (fun g3 => trivial) (fun g3 => om) (Oc (op_pick_and (fun e => e) rfl rfl rfl rfl) (Oc om ?_))
 refine CgT (x_2 && x_4) [] (fun g4 => trivial) (fun g4 => om) (CgT (x_2 && x_4) [26] (fun g5 => by exact ⟨g5, trivial⟩) (fun g5 => op_neq rfl rfl) (Oc (op_pick_and (fun e => e) rfl rfl rfl rfl) (OpsL.nilS ⟨[(2, _), (3, _), (4, _), (5, _), (7, _), (28, B ((x_2 && x_4) && (decide (x_3 ≠ 0))))], [(101, _), (102, _), (103, _)]⟩ rfl (Tri.ite h rfl (fun _ h => ?_) (fun _ h => ?_)))))
 ·refine Tri.seq (Tri.regionL ?_)
  refine Oc om (Oc om ?_)
  obtain ⟨x_5, e6, h⟩ := bnd h
  refine Oc (op_call0 (r3_floor_spec e6) goes153 rfl rfl) ?_
  obtain ⟨x_6, e7, h⟩ := bnd h
  refine Oc (op_call0 (r3_Of_spec e7) goes107 rfl rfl) (Oc (op_store_p tyAgg25 rfl rfl rfl rfl (Nat.le_of_ble_eq_true rfl) rfl) ?_)
  refine OpsL.nilS ⟨[(4, _)], [(103, .box 25 (eBig x_6))]⟩ rfl (Tri.ret (Fin.then_ret ?_))
  obtain rfl := Option.some.inj h
  refine Fin.keepS ⟨[(4, _)], [(103, _)]⟩ rfl (Fin.result' [.agg (eBig x_6)] (.inl rfl) rfl (.cons (.agg tyAgg25 rfl rfl rfl rfl) .nil) ⟨rfl, rfl⟩)
 ·refine Tri.skip (Fin.keepS ⟨[(2, _), (3, _), (4, _)], [(101, _), (102, _), (103, _)]⟩ rfl (Fin.then (Tri.seq (Tri.seq (Tri.regionL ?_)))))
  refine Oc (lp tyAgg25) ?_
  obtain ⟨x_7, e8, h⟩ := bnd h
  refine Oc (op_call0 (r3_Good_spec e8) goes65 rfl rfl) (Oc (op_not rfl) (Oc om ?_))
  refine CgF (!(!x_7)) [] (fun g9 => trivial) (fun g9 => lp tyAgg25) (OpsL.keepS ⟨[(2, _), (3, _), (4, _), (36, B (!x_7)), (37, .opt (!(!x_7)) (.agg (eBig b0)))], [(101, _), (102, _), (103, _)]⟩ rfl ?_)
  obtain ⟨x_8, e11, h⟩ := bnd h
  refine CgF (!(!x_7)) [37] (fun g10 => ⟨g10, trivial⟩) (fun g10 => op_call0 (r3_Good_spec (gc e11 g10)) goes65 rfl rfl) (CgF (!(!x_7)) [38] (fun g12 => ⟨g12, trivial⟩) (fun g12 => op_not rfl) (Oc (op_pick_or (fun e => by rw [e]; rfl) rfl rfl rfl rfl) (Oc om ?_)))
  refine CgF (!((!x_7) || (!x_8))) [] (fun g13 => trivial) (fun g13 => lp tyAgg25) ?_
  obtain ⟨x_9, e15, h⟩ := bnd h
  refine CgF (!((!x_7) || (!x_8))) [42] (fun g14 => ⟨g14, trivial⟩) (fun g14 => op_call0 (r3_digits_spec (gc e15 g14)) goes66 rfl rfl) (OpsL.keepS ⟨[(2, _), (3, _), (4, _), (41, B ((!x_7) || (!x_8))), (43, .opt (!((!x_7) || (!x_8))) (.one (.sl 1 (x_9.map eI))))], [(101, _), (102, _), (103, _)]⟩ rfl (CgF (!((!x_7) || (!x_8))) [43] (fun g16 => ⟨g16, trivial⟩) (fun g16 => op_len_e' und89 rfl (List.length_map _)) (CgF (!((!x_7) || (!x_8))) [44] (fun g17 => ⟨g17, trivial⟩) (fun g17 => op_eql rfl rfl) (Oc (op_pick_or (fun e => by rw [e]; rfl) rfl rfl rfl rfl) (OpsL.nilS ⟨[(2, _), (3, _), (4, _), (46, B (((!x_7) || (!x_8)) || (decide ((x_9.length : Int) = 0))))], [(101, _), (102, _), (103, _)]⟩ rfl ?_)))))
  refine Tri.ite h rfl (fun _ h => ?_) (fun _ h => ?_)
  ·refine Tri.seq (Tri.regionL ?_)
   obtain ⟨x_10, e18, h⟩ := bnd h
   refine Oc (op_call0 (r3_Bad_spec e18) goes151 rfl rfl) (Oc (op_store_p tyAgg25 rfl rfl rfl rfl (Nat.le_of_ble_eq_true rfl) rfl) ?_)
   refine OpsL.nilS ⟨[(4, _)], [(103, .box 25 (eBig x_10))]⟩ rfl (Tri.ret (Fin.then_ret ?_))
   obtain rfl := Option.some.inj h
   refine Fin.keepS ⟨[(4, _)], [(103, _)]⟩ rfl (Fin.result' [.agg (eBig x_10)] (.inl rfl) rfl (.cons (.agg tyAgg25 rfl rfl rfl rfl) .nil) ⟨rfl, rfl⟩)
  ·refine Tri.skip (Fin.keepS ⟨[(2, _), (3, _), (4, _)], [(101, _), (102, _), (103, _)]⟩ rfl (Fin.then (Tri.seq ?_)))
   refine Tri.keepS ⟨[(2, _), (3, _), (4, _)], [(101, _), (102, _), (103, _)]⟩ rfl ?_
   obtain ⟨x_11, e19, h⟩ := bnd h
   obtain ⟨x_12, e20, h⟩ := bnd h
   obtain ⟨⟨x_13, x_14⟩, e21, h⟩ := bnd h
   refine Tri.regionY mixed 10 [.b (.agg (eBig a0)), .b (.one (.sl 1 (x_11.map eI))), .b (.agg (eBig b0)), .b (.one (.sl 1 (x_12.map eI))), .tup [.one (.sl 1 (x_13.map eI)), .one (.sl 1 (x_14.map eI))], .tup [.one (.sl 1 (x_13.map eI)), .one (.sl 1 (x_14.map eI))], .b (.one (.sl 1 (x_13.map eI))), .b (.one (.sl 1 (x_14.map eI))), .b (.one (.sl 1 (x_13.map eI))), .b (.one (.sl 1 (x_14.map eI)))] [2, 3, 4, 9, 10] [101, 102, 103] (s' := ⟨[(2, _), (3, _), (4, _), (9, .b (.one (.sl 1 (x_13.map eI)))), (10, .b (.one (.sl 1 (x_14.map eI))))], [(101, _), (102, _), (103, _)]⟩) rfl ⟨fun _ => .p (lp tyAgg25), fun _ => .p (op_call0 (r3_digits_spec e19) goes66 rfl rfl), fun _ => .p (lp tyAgg25), fun _ => .p (op_call0 (r3_digits_spec e20) goes66 rfl rfl), fun _ => .p (op_call0 (r3_divide_spec e21) goes154 rfl rfl), fun _ => .p om, fun _ => .p (op_extract rfl rfl), fun _ => .p (op_extract rfl rfl), fun _ => .p oa, fun _ => .p oa, trivial⟩ rfl rfl ?_
   obtain ⟨v22, h23, h⟩ := bnd h
   refine Tri.seqJ (v := v22) (fun (q_15 : List Int) => ⟨[(2, Pt 101 0), (3, Pt 102 0), (4, Pt 103 0), (9, .b (.one (.sl 1 (q_15.map eI))))], [(101, .box 25 (eBig a0)), (102, .box 25 (eBig b0)), (103, .box 25 zBig)]⟩) (fun z => z) ?_ ?_
   ·refine Tri.seq (Tri.regionL ?_)
    refine Oc (op_field_p tyFld25_1 rfl rfl) (Oc (op_load_p1 tyOne4 rfl rfl rfl) (Oc (op_field_p tyFld25_1 rfl rfl) (Oc (op_load_p1 tyOne4 rfl rfl rfl) (Oc (op_neq_bool und4 rfl rfl) (Oc om ?_)))))
    refine CgT (a0.Neg != b0.Neg) [] (fun g24 => trivial) (fun g24 => om) (OpsL.keepS ⟨[(2, _), (3, _), (4, _), (9, _), (61, B (a0.Neg != b0.Neg)), (62, .opt (a0.Neg != b0.Neg) (.one (.sl 1 (x_14.map eI))))], [(101, _), (102, _), (103, _)]⟩ rfl (CgT (a0.Neg != b0.Neg) [62] (fun g25 => by exact ⟨g25, trivial⟩) (fun g25 => op_len_e' und89 rfl (List.length_map _)) (CgT (a0.Neg != b0.Neg) [63] (fun g26 => by exact ⟨g26, trivial⟩) (fun g26 => op_gtr rfl rfl) (Oc (op_pick_and (fun e => e) rfl rfl rfl rfl) (OpsL.nilS ⟨[(2, _), (3, _), (4, _), (9, _), (65, B ((a0.Neg != b0.Neg) && (decide (0 < (x_14.length : Int)))))], [(101, _), (102, _), (103, _)]⟩ rfl ?_)))))
    refine Tri.ite h23 rfl (fun _ h23 => ?_) (fun _ h23 => ?_)
    ·refine Tri.regionL (Oc om (Oc (op_buildSlice (k := 104) (es := [1].map eI) tySl89 rfl rfl (uni_map fun _ => rfl) rfl (by decide) (by decide) rfl) ?_))
     refine OpsL.persist 104 rfl ?_
     obtain ⟨x_16, e27, h23⟩ := bnd h23
     refine Oc (op_call0 (r3_plus_spec e27) goes155 rfl rfl) (Oc oa ?_)
     refine OpsL.nil ?_
     exact Fin.join [2, 3, 4, 9] [101, 102, 103] x_16 (Option.some.inj h23) rfl
    ·refine Tri.skip ?_
     exact Fin.join [2, 3, 4, 9] [101, 102, 103] x_13 (Option.some.inj h23) rfl
   ·rintro q_15 hv
    subst v22
    refine Tri.seq (Tri.regionL ?_)
    refine Oc (op_field_p tyFld25_1 rfl rfl) (Oc (op_load_p1 tyOne4 rfl rfl rfl) (Oc (op_field_p tyFld25_1 rfl rfl) (Oc (op_load_p1 tyOne4 rfl rfl rfl) (Oc (op_neq_bool und4 rfl rfl) (Oc om ?_)))))
    obtain ⟨x_17, e28, h⟩ := bnd h
    refine Oc (op_call0 (r3_number_spec e28) goes156 rfl rfl) (Oc (op_store_p tyAgg25 rfl rfl rfl rfl (Nat.le_of_ble_eq_true rfl) rfl) ?_)
    refine OpsL.nilS ⟨[(4, _)], [(103, .box 25 (eBig x_17))]⟩ rfl (Tri.ret ?_)
    obtain rfl := Option.some.inj h
    refine Fin.keepS ⟨[(4, _)], [(103, _)]⟩ rfl (Fin.result' [.agg (eBig x_17)] (.inl rfl) rfl (.cons (.agg tyAgg25 rfl rfl rfl rfl) .nil) ⟨rfl, rfl⟩)
def r4_Make_S (F : Nat) (n0 : Big) (d0 : Big) : Option Frc :=
 (r3_Good_S F n0).bind fun x_1 => (gcall (!(!x_1)) (r3_Good_S F d0)).bind fun x_2 => (gcall (!((!x_1) || (!x_2))) (r3_Sign_S F d0)).bind fun x_3 => if (((!x_1) || (!x_2)) || (decide (x_3 = 0))) = true then ((r4_Bad_S F).bind fun x_4 => some x_4) else ((r3_Gcd_S F n0 d0).bind fun x_5 => Option.bind ((r3_Sign_S F d0).bind fun x_7 => if (decide (x_7 < 0)) = true then ((r3_Neg_S F x_5).bind fun x_8 => some x_8) else (some x_5)) (fun g_6 => (r3_Quo_S F n0 g_6).bind fun x_9 => (r3_Quo_S F d0 g_6).bind fun x_10 => some (⟨x_9, x_10⟩ : Frc)))
theorem r4_Make_spec {F : Nat} {n0 : Big} {d0 : Big} {r : Frc} (h : r4_Make_S F n0 d0 = some r) : Meets Tryz.prog (tabs mx) 106 [] [.agg (eBig n0), .agg (eBig d0)] (Is [] (.b (.agg (eFrc r)))) := by
 unfold r4_Make_S at h
 refine Meets.intro 35 Tryz.func106 Tryz.ntmps106 rfl (by simp) fun E => ?_
 show Tri _ E ⟨35, [], []⟩ _ ⟨[(0, .b (.agg (eBig n0))), (1, .b (.agg (eBig d0)))], []⟩ _
 refine Tri.seq (Tri.regionL ?_)
 refine Oc (op_box (k := 101) rfl rfl) (Oc (op_box (k := 102) rfl rfl) (Oc (op_alloc (k := 103) tyZero27 rfl) ?_))
 refine OpsL.nilS ⟨[(2, Pt 101 0), (3, Pt 102 0), (4, Pt 103 0)], [(101, .box 25 (eBig n0)), (102, .box 25 (eBig d0)), (103, .box 27 zFrc)]⟩ rfl (Tri.seq (Tri.seq (Tri.regionL ?_)))
 refine Oc (lp tyAgg25) ?_
 obtain ⟨x_1, e1, h⟩ := bnd h
 refine Oc (op_call0 (r3_Good_spec e1) goes65 rfl rfl) (Oc (op_not rfl) (Oc om ?_))
 refine CgF (!(!x_1)) [] (fun g2 => trivial) (fun g2 => lp tyAgg25) (OpsL.keepS ⟨[(2, _), (3, _), (4, _), (9, B (!x_1)), (10, .opt (!(!x_1)) (.agg (eBig d0)))], [(101, _), (102, _), (103, _)]⟩ rfl ?_)
 obtain ⟨x_2, e4, h⟩ := bnd h
 refine CgF (!(!x_1)) [10] (fun g3 => ⟨g3, trivial⟩) (fun g3 => op_call0 (r3_Good_spec (gc e4 g3)) goes65 rfl rfl) (CgF (!(!x_1)) [11] (fun g5 => ⟨g5, trivial⟩) (fun g5 => op_not rfl) (Oc (op_pick_or (fun e => by rw [e]; rfl) rfl rfl rfl rfl) (Oc om ?_)))
 refine CgF (!((!x_1) || (!x_2))) [] (fun g6 => trivial) (fun g6 => lp tyAgg25) ?_
 obtain ⟨x_3, e8, h⟩ := bnd h
 refine CgF (!((!x_1) || (!x_2))) [15] (fun g7 => ⟨g7, trivial⟩) (fun g7 => op_call0 (r3_Sign_spec (gc e8 g7)) goes103 rfl rfl) (CgF (!((!x_1) || (!x_2))) [16] (fun g9 => ⟨g9, trivial⟩) (fun g9 => op_eql rfl rfl) (Oc (op_pick_or (fun e => by rw [e]; rfl) rfl rfl rfl rfl) (OpsL.nilS ⟨[(2, _), (3, _), (4, _), (18, B (((!x_1) || (!x_2)) || (decide (x_3 = 0))))], [(101, _), (102, _), (103, _)]⟩ rfl (Tri.ite h rfl (fun _ h => ?_) (fun _ h => ?_)))))
 ·refine Tri.seq (Tri.regionL ?_)
  obtain ⟨x_4, e10, h⟩ := bnd h
  refine Oc (op_call0 (r4_Bad_spec e10) goes114 rfl rfl) (Oc (op_store_p tyAgg27 rfl rfl rfl rfl (Nat.le_of_ble_eq_true rfl) rfl) ?_)
  refine OpsL.nilS ⟨[(4, _)], [(103, .box 27 (eFrc x_4))]⟩ rfl (Tri.ret (Fin.then_ret ?_))
  obtain rfl := Option.some.inj h
  refine Fin.keepS ⟨[(4, _)], [(103, _)]⟩ rfl (Fin.result' [.agg (eFrc x_4)] (.inl rfl) rfl (.cons (.agg tyAgg27 rfl rfl rfl rfl) .nil) ⟨rfl, rfl⟩)
 ·refine Tri.skip (Fin.keepS ⟨[(2, _), (3, _), (4, _)], [(101, _), (102, _), (103, _)]⟩ rfl (Fin.then (Tri.seq (Tri.regionL ?_))))
  refine Oc (lp tyAgg25) (Oc (lp tyAgg25) ?_)
  obtain ⟨x_5, e11, h⟩ := bnd h
  refine Oc (op_call0 (r3_Gcd_spec e11) goes115 rfl rfl) (Oc (op_alloc (k := 104) tyZero25 rfl) (Oc (op_store_p tyAgg25 rfl rfl rfl rfl (Nat.le_of_ble_eq_true rfl) rfl) ?_))
  refine OpsL.nilS ⟨[(2, _), (3, _), (4, _), (5, Pt 104 0)], [(101, _), (102, _), (103, _), (104, .box 25 (eBig x_5))]⟩ rfl ?_
  obtain ⟨v12, h13, h⟩ := bnd h
  refine Tri.seqJ (v := v12) (fun (g_6 : Big) => ⟨[(2, Pt 101 0), (3, Pt 102 0), (4, Pt 103 0), (5, Pt 104 0)], [(101, .box 25 (eBig n0)), (102, .box 25 (eBig d0)), (103, .box 27 zFrc), (104, .box 25 (eBig g_6))]⟩) (fun z => z) ?_ ?_
  ·refine Tri.seq (Tri.regionL ?_)
   refine Oc (lp tyAgg25) ?_
   obtain ⟨x_7, e14, h13⟩ := bnd h13
   refine Oc (op_call0 (r3_Sign_spec e14) goes103 rfl rfl) (Oc (op_lss rfl rfl) ?_)
   refine OpsL.nilS ⟨[(2, _), (3, _), (4, _), (5, _), (25, B (decide (x_7 < 0)))], [(101, _), (102, _), (103, _), (104, _)]⟩ rfl (Tri.ite h13 rfl (fun _ h13 => ?_) (fun _ h13 => ?_))
   ·refine Tri.regionL (Oc (lp tyAgg25) ?_)
    obtain ⟨x_8, e15, h13⟩ := bnd h13
    refine Oc (op_call0 (r3_Neg_spec e15) goes159 rfl rfl) (Oc (op_store_p tyAgg25 rfl rfl rfl rfl (Nat.le_of_ble_eq_true rfl) rfl) ?_)
    refine OpsL.nil ?_
    exact Fin.join [2, 3, 4, 5] [101, 102, 103, 104] x_8 (Option.some.inj h13) rfl
   ·refine Tri.skip ?_
    exact Fin.join [2, 3, 4, 5] [101, 102, 103, 104] x_5 (Option.some.inj h13) rfl
  ·rintro g_6 hv
   subst v12
   refine Tri.seq (Tri.keepS ⟨[(2, _), (3, _), (4, _), (5, _)], [(101, _), (102, _), (103, _), (104, _)]⟩ rfl ?_)
   obtain ⟨x_9, e16, h⟩ := bnd h
   obtain ⟨x_10, e17, h⟩ := bnd h
   refine Tri.regionY mixed 7 [.b (.agg (eBig n0)), .b (.agg (eBig g_6)), .b (.agg (eBig x_9)), .b (.agg (eBig d0)), .b (.agg (eBig g_6)), .b (.agg (eBig x_10)), .b (.agg (eBig x_9 ++ (eBig x_10)))] [4] [103] (s' := ⟨[(4, _)], [(103, .box 27 (eBig x_9 ++ (eBig x_10)))]⟩) rfl ⟨fun _ => .p (lp tyAgg25), fun _ => .p (lp tyAgg25), fun _ => .p (op_call0 (r3_Quo_spec e16) goes101 rfl rfl), fun _ => .p (lp tyAgg25), fun _ => .p (lp tyAgg25), fun _ => .p (op_call0 (r3_Quo_spec e17) goes101 rfl rfl), fun _ => .p (op_build tyBuild27 rfl rfl), trivial⟩ ⟨_, by exact .p (op_store_p tyAgg27 rfl rfl rfl rfl (Nat.le_of_ble_eq_true rfl) rfl), rfl⟩ rfl (Tri.ret ?_)
   obtain rfl := Option.some.inj h
   refine Fin.keepS ⟨[(4, _)], [(103, _)]⟩ rfl (Fin.result' [.agg (eBig x_9 ++ (eBig x_10))] (.inl rfl) rfl (.cons (.agg tyAgg27 rfl rfl rfl rfl) .nil) ⟨rfl, rfl⟩)
def r4_Frac_S (F : Nat) (a0 : Int) (b0 : Int) : Option Frc :=
 (r3_Of_S F a0).bind fun x_1 => (r3_Of_S F b0).bind fun x_2 => (r4_Make_S F x_1 x_2).bind fun x_3 => some x_3
theorem r4_Frac_spec {F : Nat} {a0 : Int} {b0 : Int} {r : Frc} (h : r4_Frac_S F a0 b0 = some r) : Meets Tryz.prog (tabs mx) 105 [] [.one (.i a0), .one (.i b0)] (Is [] (.b (.agg (eFrc r)))) := by
 unfold r4_Frac_S at h
 refine Meets.intro 10 Tryz.func105 Tryz.ntmps105 rfl (by simp) fun E => ?_
 show Tri _ E ⟨10, [], []⟩ _ ⟨[(0, I a0), (1, I b0)], []⟩ _
 refine Tri.seq (Tri.regionL ?_)
 refine Oc (op_alloc (k := 101) tyZero27 rfl) (OpsL.nilS ⟨[(0, I a0), (1, I b0), (4, Pt 101 0)], [(101, .box 27 zFrc)]⟩ rfl (Tri.seq (Tri.regionL ?_)))
 refine Oc om ?_
 obtain ⟨x_1, e1, h⟩ := bnd h
 refine Oc (op_call0 (r3_Of_spec e1) goes107 rfl rfl) (Oc om ?_)
 refine OpsL.keepS ⟨[(4, _), (6, .b (.agg (eBig x_1))), (7, I b0)], [(101, _)]⟩ rfl ?_
 obtain ⟨x_2, e2, h⟩ := bnd h
 refine Oc (op_call0 (r3_Of_spec e2) goes107 rfl rfl) ?_
 obtain ⟨x_3, e3, h⟩ := bnd h
 refine Oc (op_call0 (r4_Make_spec e3) goes106 rfl rfl) (Oc (op_store_p tyAgg27 rfl rfl rfl rfl (Nat.le_of_ble_eq_true rfl) rfl) ?_)
 refine OpsL.nilS ⟨[(4, _)], [(101, .box 27 (eFrc x_3))]⟩ rfl (Tri.ret ?_)
 obtain rfl := Option.some.inj h
 refine Fin.keepS ⟨[(4, _)], [(101, _)]⟩ rfl (Fin.result' [.agg (eFrc x_3)] (.inl rfl) rfl (.cons (.agg tyAgg27 rfl rfl rfl rfl) .nil) ⟨rfl, rfl⟩)
def skewbacklaw11_of_S (F : Nat) (n0 : Int) (d0 : Int) (m0 : Int) (kg0 : Int) (s0 : Int) : Option Quantity :=
 (r4_Frac_S F n0 d0).bind fun x_1 => letN (⟨x_1, (⟨m0, kg0, s0⟩ : MUnit)⟩ : Quantity) fun x_2 => some x_2
theorem skewbacklaw11_of_spec {F : Nat} {n0 : Int} {d0 : Int} {m0 : Int} {kg0 : Int} {s0 : Int} {r : Quantity} (h : skewbacklaw11_of_S F n0 d0 m0 kg0 s0 = some r) : Meets Tryz.prog (tabs mx) 50 [] [.one (.i n0), .one (.i d0), .one (.i m0), .one (.i kg0), .one (.i s0)] (Is [] (.b (.agg (eQuantity r)))) := by
 unfold skewbacklaw11_of_S at h
 refine Meets.intro 19 Tryz.func50 Tryz.ntmps50 rfl (by simp) fun E => ?_
 show Tri _ E ⟨19, [], []⟩ _ ⟨[(0, I n0), (1, I d0), (2, I m0), (3, I kg0), (4, I s0)], []⟩ _
 refine Tri.seq (Tri.regionL ?_)
 refine Oc (op_alloc (k := 101) tyZero31 rfl) (OpsL.nilS ⟨[(0, I n0), (1, I d0), (2, I m0), (3, I kg0), (4, I s0), (10, Pt 101 0)], [(101, .box 31 (.bool false :: .bool false :: (eW A16.zero ++ (.bool false :: .bool false :: (eW A16.zero ++ ([.i 0, .i 0, .i 0]))))))]⟩ rfl (Tri.seq (Tri.regionL ?_)))
 refine Oc om (Oc om ?_)
 obtain ⟨x_1, e1, h⟩ := bnd h
 refine Oc (op_call0 (r4_Frac_spec e1) goes105 rfl rfl) (Oc om (Oc om ?_))
 refine OpsL.keepS ⟨[(4, _), (10, _), (13, .b (.agg (eFrc x_1))), (14, I m0), (15, I kg0)], [(101, _)]⟩ rfl (Oc om (Oc (op_build tyBuild29 rfl rfl) ?_))
 refine OpsL.consA eQuantity h rfl (op_build tyBuild31 rfl rfl) (fun x_2 h => ?_)
 refine Oc (op_store_p tyAgg31 rfl rfl rfl rfl (Nat.le_of_ble_eq_true rfl) rfl) (OpsL.nilS ⟨[(10, _)], [(101, .box 31 (eQuantity x_2))]⟩ rfl (Tri.ret ?_))
 obtain rfl := Option.some.inj h
 refine Fin.keepS ⟨[(10, _)], [(101, _)]⟩ rfl (Fin.result' [.agg (eQuantity x_2)] (.inl rfl) rfl (.cons (.agg tyAgg31 rfl rfl rfl rfl) .nil) ⟨rfl, rfl⟩)
def unit_Print_S (F : Nat) (u0 : MUnit) : Option Str :=
 (unit_Valid_S F u0).bind fun x_1 => if (!x_1) = true then (some []) else (Option.bind ((unit_exponents_S F u0).bind fun x_4 => iter F (un3 fun above_5 below_6 x_7 => if (decide (x_7 < 3)) = true then (Option.bind ((idx? x_4.l x_7).bind fun x_12 => (idx? ([[109], [107, 103], [115]] : List Str) x_7).bind fun x_13 => Option.bind (if ((decide (1 < x_12)) || (decide (x_12 < (-1)))) = true then ((strconv_Itoa_S F (max x_12 (IntKind.i64.wrap (-x_12)))).bind fun x_15 => (app? [94] x_15).bind fun x_16 => (app? x_13 x_16).bind fun x_17 => some x_17) else (some x_13)) (fun p_14 => if ((decide (0 < x_12)) && (decide (above_5 = []))) = true then (some (p_14, below_6)) else (if (decide (0 < x_12)) = true then ((app? [42] p_14).bind fun x_18 => (app? above_5 x_18).bind fun x_19 => some (x_19, below_6)) else (if (decide (x_12 < 0)) = true then ((app? [47] p_14).bind fun x_20 => (app? below_6 x_20).bind fun x_21 => some (above_5, x_21)) else (some (above_5, below_6)))))) (un2 fun above_10 below_11 => some (.inl (above_10, below_11, IntKind.i64.wrap (x_7 + 1))))) else (some (.inr (above_5, below_6)))) ([], [], 0)) (un2 fun above_2 below_3 => Option.bind (if (decide (above_2 = [])) = true then (some [49]) else (some above_2)) (fun above_22 => (app? above_22 below_3).bind fun x_23 => some x_23)))
theorem unit_Print_spec {F : Nat} {u0 : MUnit} {r : Str} (h : unit_Print_S F u0 = some r) : Meets Tryz.prog (tabs mx) 18 [] [.agg (eMUnit u0)] (Is [] (.b (.one (.str r)))) := by
 unfold unit_Print_S at h
 refine Meets.intro 62 Tryz.func18 Tryz.ntmps18 rfl (by simp) fun E => ?_
 show Tri _ E ⟨62, [], []⟩ _ ⟨[(0, .b (.agg (eMUnit u0)))], []⟩ _
 refine Tri.seq (Tri.regionL ?_)
 refine Oc (op_box (k := 101) rfl rfl) (Oc oa ?_)
 refine OpsL.nilS ⟨[(1, Pt 101 0)], [(101, .box 29 (eMUnit u0))]⟩ rfl (Tri.seq (Tri.seq (Tri.regionL ?_)))
 refine Oc (lp tyAgg29) ?_
 obtain ⟨x_1, e1, h⟩ := bnd h
 refine Oc (op_call0 (unit_Valid_spec e1) goes32 rfl rfl) (Oc (op_not rfl) ?_)
 refine OpsL.nilS ⟨[(1, _), (10, B (!x_1))], [(101, _)]⟩ rfl (Tri.ite h rfl (fun _ h => ?_) (fun _ h => ?_))
 ·refine Tri.seq (Tri.regionL ?_)
  refine Oc oa (OpsL.nilS ⟨[(2, .b (.one (.str [])))], []⟩ rfl (Tri.ret (Fin.then_ret ?_)))
  obtain rfl := Option.some.inj h
  refine Fin.keepS ⟨[(2, _)], []⟩ rfl (Fin.result' [.one (.str [])] (.inl rfl) rfl (.cons (.tmp rfl) .nil) ⟨rfl, rfl⟩)
 ·refine Tri.skip (Fin.keepS ⟨[(1, _)], [(101, _)]⟩ rfl (Fin.then (Tri.seq (Tri.regionL ?_))))
  refine Oc oa (Oc oa ?_)
  refine OpsL.nilS ⟨[(1, _), (3, .b (.one (.str []))), (4, .b (.one (.str [])))], [(101, _)]⟩ rfl ?_
  obtain ⟨v2, h3, h⟩ := bnd h
  refine Tri.seqJ (v := v2) (un2 fun (above_2 : Str) (below_3 : Str) => ⟨[(3, .b (.one (.str above_2))), (4, .b (.one (.str below_3)))], []⟩) (fun z => z) ?_ ?_
  ·refine Tri.seq (Tri.regionL ?_)
   refine Oc (lp tyAgg29) ?_
   obtain ⟨x_4, e4, h3⟩ := bnd h3
   refine Oc (op_call0 (unit_exponents_spec e4) goes71 rfl rfl) (Oc om ?_)
   refine OpsL.nilS ⟨[(3, _), (4, _), (12, .b (.agg ((eA3 .i64) x_4))), (13, I 0)], []⟩ rfl (Tri.block (Tri.loopJ h3 (un3 fun (above_5 : Str) (below_6 : Str) (x_7 : Int) => ⟨[(3, .b (.one (.str above_5))), (4, .b (.one (.str below_6))), (12, .b (.agg ((eA3 .i64) x_4))), (13, I x_7)], []⟩) [3, 4, 12, 13] [] rfl ?_))
   rintro ⟨above_5, below_6, x_7⟩ o5 h6 hy7
   refine Tri.seq (Tri.regionL ?_)
   refine Oc (op_lss rfl rfl) (OpsL.nilS ⟨[(3, _), (4, _), (12, _), (13, _), (14, B (decide (x_7 < 3)))], []⟩ rfl (Tri.seq (Tri.ite h6 rfl (fun _ h6 => ?_) (fun _ h6 => ?_))))
   ·refine Tri.skip (Fin.keepS ⟨[(3, _), (4, _), (12, _), (13, _)], []⟩ rfl (Fin.then ?_))
    obtain ⟨v8, h9, h6⟩ := bnd h6
    refine Tri.seqJ (v := v8) (un2 fun (above_10 : Str) (below_11 : Str) => ⟨[(3, .b (.one (.str above_10))), (4, .b (.one (.str below_11))), (12, .b (.agg ((eA3 .i64) x_4))), (13, I x_7)], []⟩) (fun z => z) ?_ ?_
    ·refine Tri.block (Tri.seq (Tri.regionL ?_))
     refine Oc om ?_
     obtain ⟨x_12, e10, h9⟩ := bnd h9
     refine Oc (op_index_a1 (m := 3) tyArr97 tyOne3 rfl rfl (ix_lo e10) (ix_hi e10) (ix_map (e := CP.int .i64) e10)) (Oc oa (Oc oa ?_))
     refine OpsL.nilS ⟨[(3, _), (4, _), (5, I x_7), (6, I x_12), (12, _), (13, _)], []⟩ rfl (Tri.seq (Tri.regionL ?_))
     refine Oc (op_buildA tyBuild99 rfl rfl) (Oc om ?_)
     obtain ⟨x_13, e11, h9⟩ := bnd h9
     refine Oc (op_index_a1 (m := 3) tyArr99 tyOne9 rfl rfl (ix_lo e11) (ix_hi e11) (ix_map (e := CP.str) e11)) (Oc oa ?_)
     refine OpsL.nilS ⟨[(3, _), (4, _), (6, _), (7, .b (.one (.str x_13))), (12, _), (13, _)], []⟩ rfl ?_
     obtain ⟨v12, h13, h9⟩ := bnd h9
     refine Tri.seqJ (v := v12) (fun (p_14 : Str) => ⟨[(3, .b (.one (.str above_5))), (4, .b (.one (.str below_6))), (6, I x_12), (7, .b (.one (.str p_14))), (12, .b (.agg ((eA3 .i64) x_4))), (13, I x_7)], []⟩) (fun z => z) ?_ ?_
     ·refine Tri.seq (Tri.regionL ?_)
      refine Oc om (Oc (op_gtr rfl rfl) (Oc om ?_))
      refine CgF (!(decide (1 < x_12))) [] (fun g14 => trivial) (fun g14 => om) (CgF (!(decide (1 < x_12))) [23] (fun g15 => by exact ⟨g15, trivial⟩) (fun g15 => op_lss rfl rfl) (Oc (op_pick_or (fun e => by rw [e]; rfl) rfl rfl rfl rfl) (OpsL.nilS ⟨[(3, _), (4, _), (6, _), (7, _), (12, _), (13, _), (25, B ((decide (1 < x_12)) || (decide (x_12 < (-1)))))], []⟩ rfl (Tri.ite h13 rfl (fun _ h13 => ?_) (fun _ h13 => ?_)))))
      ·refine Tri.regionL (Oc om (Oc om (Oc om (Oc (op_neg rfl) (Oc (op_max rfl rfl) ?_)))))
       refine OpsL.keepS ⟨[(3, _), (4, _), (6, _), (7, _), (12, _), (13, _), (26, .b (.one (.str x_13))), (30, I (max x_12 (IntKind.i64.wrap (-x_12))))], []⟩ rfl ?_
       obtain ⟨x_15, e16, h13⟩ := bnd h13
       refine Oc (op_call0 (strconv_Itoa_spec e16) goes72 rfl rfl) ?_
       obtain ⟨x_16, e17, h13⟩ := bnd h13
       refine Oc (op_add_str2 e17 rfl rfl) ?_
       obtain ⟨x_17, e18, h13⟩ := bnd h13
       refine Oc (op_add_str2 e18 rfl rfl) (Oc oa ?_)
       refine OpsL.nil ?_
       exact Fin.join [3, 4, 6, 7, 12, 13] [] x_17 (Option.some.inj h13) rfl
      ·refine Tri.skip ?_
       exact Fin.join [3, 4, 6, 7, 12, 13] [] x_13 (Option.some.inj h13) rfl
     ·rintro p_14 hv
      subst v12
      refine Tri.block (Tri.seq (Tri.regionL ?_))
      refine Oc om (Oc (op_gtr rfl rfl) (Oc om ?_))
      refine CgT (decide (0 < x_12)) [] (fun g19 => trivial) (fun g19 => om) (CgT (decide (0 < x_12)) [38] (fun g20 => by exact ⟨g20, trivial⟩) (fun g20 => op_eql_str rfl rfl) (Oc (op_pick_and (fun e => e) rfl rfl rfl rfl) (Oc oa ?_)))
      refine OpsL.nilS ⟨[(3, _), (4, _), (6, _), (7, _), (12, _), (13, _), (34, B ((decide (0 < x_12)) && (decide (above_5 = []))))], []⟩ rfl (Tri.ite h9 rfl (fun _ h9 => ?_) (fun _ h9 => ?_))
      ·refine Tri.regionL (Oc om (Oc oa ?_))
       refine OpsL.nil (Fin.block_normal (Fin.block_normal ?_))
       exact Fin.join [3, 4, 12, 13] [] (p_14, below_6) (Option.some.inj h9) rfl
      ·refine Tri.seq (Tri.regionL ?_)
       refine Oc om (Oc (op_gtr rfl rfl) (Oc oa ?_))
       refine OpsL.nilS ⟨[(3, _), (4, _), (6, _), (7, _), (12, _), (13, _), (42, B (decide (0 < x_12)))], []⟩ rfl (Tri.ite h9 rfl (fun _ h9 => ?_) (fun _ h9 => ?_))
       ·refine Tri.regionL (Oc om (Oc om ?_))
        obtain ⟨x_18, e21, h9⟩ := bnd h9
        refine Oc (op_add_str2 e21 rfl rfl) ?_
        obtain ⟨x_19, e22, h9⟩ := bnd h9
        refine Oc (op_add_str2 e22 rfl rfl) (Oc oa ?_)
        refine OpsL.nil (Fin.block_normal (Fin.block_normal ?_))
        exact Fin.join [3, 4, 12, 13] [] (x_19, below_6) (Option.some.inj h9) rfl
       ·refine Tri.seq (Tri.regionL ?_)
        refine Oc om (Oc (op_lss rfl rfl) (Oc oa ?_))
        refine OpsL.nilS ⟨[(3, _), (4, _), (7, _), (12, _), (13, _), (49, B (decide (x_12 < 0)))], []⟩ rfl (Tri.ite h9 rfl (fun _ h9 => ?_) (fun _ h9 => ?_))
        ·refine Tri.regionL (Oc om (Oc om ?_))
         obtain ⟨x_20, e23, h9⟩ := bnd h9
         refine Oc (op_add_str2 e23 rfl rfl) ?_
         obtain ⟨x_21, e24, h9⟩ := bnd h9
         refine Oc (op_add_str2 e24 rfl rfl) (Oc oa ?_)
         refine OpsL.nil (Fin.block_normal (Fin.block_normal ?_))
         exact Fin.join [3, 4, 12, 13] [] (above_5, x_21) (Option.some.inj h9) rfl
        ·refine Tri.skip (Fin.block_normal (Fin.block_normal ?_))
         exact Fin.join [3, 4, 12, 13] [] (above_5, below_6) (Option.some.inj h9) rfl
    ·rintro ⟨above_10, below_11⟩ hv
     subst v8
     refine Tri.regionL (Oc (op_add rfl rfl) (Oc om ?_))
     refine OpsL.nil ?_
     exact Fin.againJ [3, 4, 12, 13] [] (above_10, below_11, IntKind.i64.wrap (x_7 + 1)) (Option.some.inj h6) rfl
   ·refine Tri.exit (Fin.then_exit ?_)
    obtain rfl := hy7 _ (Option.some.inj h6).symm
    refine Fin.then_exit (Fin.block_exit ?_)
    exact Fin.join [3, 4] [] (above_5, below_6) rfl rfl
  ·rintro ⟨above_2, below_3⟩ hv
   subst v2
   obtain ⟨v25, h26, h⟩ := bnd h
   refine Tri.seqJ (v := v25) (fun (above_22 : Str) => ⟨[(3, .b (.one (.str above_22))), (4, .b (.one (.str below_3)))], []⟩) (fun z => z) ?_ ?_
   ·refine Tri.seq (Tri.regionL ?_)
    refine Oc om (Oc (op_eql_str rfl rfl) ?_)
    refine OpsL.nilS ⟨[(3, _), (4, _), (58, B (decide (above_2 = [])))], []⟩ rfl (Tri.ite h26 rfl (fun _ h26 => ?_) (fun _ h26 => ?_))
    ·refine Tri.regionL (Oc oa (OpsL.nil ?_))
     exact Fin.join [3, 4] [] [49] (Option.some.inj h26) rfl
    ·refine Tri.skip ?_
     exact Fin.join [3, 4] [] above_2 (Option.some.inj h26) rfl
   ·rintro above_22 hv
    subst v25
    refine Tri.seq (Tri.regionL ?_)
    refine Oc om (Oc om ?_)
    obtain ⟨x_23, e27, h⟩ := bnd h
    refine Oc (op_add_str2 e27 rfl rfl) (Oc oa ?_)
    refine OpsL.nilS ⟨[(2, .b (.one (.str x_23)))], []⟩ rfl (Tri.ret ?_)
    obtain rfl := Option.some.inj h
    refine Fin.keepS ⟨[(2, _)], []⟩ rfl (Fin.result' [.one (.str x_23)] (.inl rfl) rfl (.cons (.tmp rfl) .nil) ⟨rfl, rfl⟩)
def strings_IndexFunc_S (F : Nat) (s0 : Str) (f0 : Nat) : Option Int :=
 (strings_indexFunc_S F s0 f0 true).bind fun x_1 => some x_1
theorem strings_IndexFunc_spec {F : Nat} {s0 : Str} {f0 : Nat} {r : Int} (h : strings_IndexFunc_S F s0 f0 = some r) : Meets Tryz.prog (tabs mx) 164 [] [.one (.str s0), .one (.raw (.func (.func f0) #[] #[]))] (Is [] (.b (.one (.i r)))) := by
 unfold strings_IndexFunc_S at h
 refine Meets.intro 8 Tryz.func164 Tryz.ntmps164 rfl (by simp) fun E => ?_
 show Tri _ E ⟨8, [], []⟩ _ ⟨[(0, .b (.one (.str s0))), (1, .b (.one (.raw (.func (.func f0) #[] #[]))))], []⟩ _
 refine Tri.seq (Tri.regionL ?_)
 refine Oc oa (OpsL.nilS ⟨[(0, .b (.one (.str s0))), (1, .b (.one (.raw (.func (.func f0) #[] #[]))))], []⟩ rfl (Tri.seq (Tri.regionL ?_)))
 refine Oc om (Oc om ?_)
 obtain ⟨x_1, e1, h⟩ := bnd h
 refine Oc (op_call0 (strings_indexFunc_spec e1) goes191 rfl rfl) (Oc oa ?_)
 refine OpsL.nilS ⟨[(4, I x_1)], []⟩ rfl (Tri.ret ?_)
 obtain rfl := Option.some.inj h
 refine Fin.keepS ⟨[(4, _)], []⟩ rfl (Fin.result' [.one (.i x_1)] (.inl rfl) rfl (.cons (.tmp rfl) .nil) ⟨rfl, rfl⟩)
def strings_ContainsFunc_S (F : Nat) (s0 : Str) (f0 : Nat) : Option Bool :=
 (strings_IndexFunc_S F s0 f0).bind fun x_1 => some (decide (0 ≤ x_1))
theorem strings_ContainsFunc_spec {F : Nat} {s0 : Str} {f0 : Nat} {r : Bool} (h : strings_ContainsFunc_S F s0 f0 = some r) : Meets Tryz.prog (tabs mx) 118 [] [.one (.str s0), .one (.raw (.func (.func f0) #[] #[]))] (Is [] (.b (.one (.bool r)))) := by
 unfold strings_ContainsFunc_S at h
 refine Meets.intro 9 Tryz.func118 Tryz.ntmps118 rfl (by simp) fun E => ?_
 show Tri _ E ⟨9, [], []⟩ _ ⟨[(0, .b (.one (.str s0))), (1, .b (.one (.raw (.func (.func f0) #[] #[]))))], []⟩ _
 refine Tri.seq (Tri.regionL ?_)
 refine Oc oa (OpsL.nilS ⟨[(0, .b (.one (.str s0))), (1, .b (.one (.raw (.func (.func f0) #[] #[]))))], []⟩ rfl (Tri.seq (Tri.regionL ?_)))
 refine Oc om (Oc om ?_)
 obtain ⟨x_1, e1, h⟩ := bnd h
 refine Oc (op_call0 (strings_IndexFunc_spec e1) goes164 rfl rfl) (Oc (op_geq rfl rfl) (Oc oa ?_))
 refine OpsL.nilS ⟨[(4, B (decide (0 ≤ x_1)))], []⟩ rfl (Tri.ret ?_)
 obtain rfl := Option.some.inj h
 refine Fin.keepS ⟨[(4, _)], []⟩ rfl (Fin.result' [.one (.bool (decide (0 ≤ x_1)))] (.inl rfl) rfl (.cons (.tmp rfl) .nil) ⟨rfl, rfl⟩)
def unit_decimal_S (F : Nat) (front0 : Str) (behind0 : Str) : Option (Frc × Int) :=
 Option.bind (strings_CutPrefix_S F front0 [45]) (un2 fun x_1 x_2 => (gcall (!((decide (x_1 = [])) || (decide (behind0 = [])))) (app? x_1 behind0)).bind fun x_3 => (gcall (!((decide (x_1 = [])) || (decide (behind0 = [])))) (strings_ContainsFunc_S F x_3 119)).bind fun x_4 => letN ((((decide (x_1 = [])) || (decide (behind0 = []))) || x_4) || (decide (40 < (IntKind.i64.wrap ((x_1.length : Int) + (behind0.length : Int)))))) fun x_5 => if x_5 = true then (letN (⟨(⟨false, false, A16.zero⟩ : Big), (⟨false, false, A16.zero⟩ : Big)⟩ : Frc) fun x_6 => some (x_6, 281)) else ((q_Of_S F 0).bind fun x_7 => (q_Of_S F 1).bind fun x_8 => (q_Of_S F 10).bind fun x_9 => Option.bind ((app? x_1 behind0).bind fun x_12 => iter F (un3 fun x_13 scale_14 xp_15 => if decide (xp_15 < x_12.length) = true then ((q_Mul_S F x_13 x_9).bind fun x_18 => letN (IntKind.i32.wrap ((runeAt x_12 xp_15) - 48)) fun x_19 => (q_Of_S F (IntKind.i64.wrap x_19)).bind fun x_20 => (q_Add_S F x_18 x_20).bind fun x_21 => if (decide ((x_1.length : Int) ≤ (xp_15 : Nat))) = true then ((q_Mul_S F scale_14 x_9).bind fun x_22 => some (.inl (x_21, x_22, runeTo x_12 xp_15))) else (some (.inl (x_21, scale_14, runeTo x_12 xp_15)))) else (some (.inr (x_13, scale_14)))) (x_7, x_8, 0)) (un2 fun x_10 scale_11 => Option.bind (if x_2 = true then ((q_Neg_S F x_10).bind fun x_24 => some x_24) else (some x_10)) (fun x_23 => (q_Div_S F x_23 scale_11).bind fun x_25 => some (x_25, 0)))))
theorem unit_decimal_spec {F : Nat} {front0 : Str} {behind0 : Str} {r : Frc × Int} (h : unit_decimal_S F front0 behind0 = some r) : Meets Tryz.prog (tabs mx) 60 [] [.one (.str front0), .one (.str behind0)] (Is [] (.tup [.agg (eFrc r.1), .one (.i r.2)])) := by
 unfold unit_decimal_S at h
 refine Meets.intro 70 Tryz.func60 Tryz.ntmps60 rfl (by simp) fun E => ?_
 show Tri _ E ⟨70, [], []⟩ _ ⟨[(0, .b (.one (.str front0))), (1, .b (.one (.str behind0)))], []⟩ _
 refine Tri.seq (Tri.regionL ?_)
 refine Oc (op_alloc (k := 101) tyZero27 rfl) (Oc oa ?_)
 refine OpsL.nilS ⟨[(0, .b (.one (.str front0))), (1, .b (.one (.str behind0))), (4, Pt 101 0)], [(101, .box 27 zFrc)]⟩ rfl (Tri.seq (Tri.regionL ?_))
 refine Oc om ?_
 obtain ⟨⟨x_1, x_2⟩, e1, h⟩ := bnd h
 refine Oc (op_call0 (strings_CutPrefix_spec e1) goes117 rfl rfl) (Oc om (Oc (op_extract rfl rfl) (Oc (op_extract rfl rfl) (Oc oa (Oc oa ?_)))))
 refine OpsL.nilS ⟨[(0, .b (.one (.str x_1))), (1, _), (4, _), (6, B x_2)], [(101, _)]⟩ rfl (Tri.seq (Tri.seq (Tri.regionL ?_)))
 refine Oc om (Oc (op_eql_str rfl rfl) (Oc om ?_))
 refine CgF (!(decide (x_1 = []))) [] (fun g2 => trivial) (fun g2 => om) (CgF (!(decide (x_1 = []))) [20] (fun g3 => by exact ⟨g3, trivial⟩) (fun g3 => op_eql_str rfl rfl) (Oc (op_pick_or (fun e => by rw [e]; rfl) rfl rfl rfl rfl) (Oc om ?_)))
 refine OpsL.keepS ⟨[(0, _), (1, _), (4, _), (6, _), (23, B ((decide (x_1 = [])) || (decide (behind0 = []))))], [(101, _)]⟩ rfl (CgF (!((decide (x_1 = [])) || (decide (behind0 = [])))) [] (fun g4 => trivial) (fun g4 => om) (CgF (!((decide (x_1 = [])) || (decide (behind0 = [])))) [] (fun g5 => by exact trivial) (fun g5 => om) ?_))
 obtain ⟨x_3, e7, h⟩ := bnd h
 refine CgF (!((decide (x_1 = [])) || (decide (behind0 = [])))) [24, 25] (fun g6 => ⟨g6, g6, trivial⟩) (fun g6 => op_add_str2 (gc e7 g6) rfl rfl) ?_
 obtain ⟨x_4, e9, h⟩ := bnd h
 refine CgF (!((decide (x_1 = [])) || (decide (behind0 = [])))) [26] (fun g8 => ⟨g8, trivial⟩) (fun g8 => op_call0 (strings_ContainsFunc_spec (gc e9 g8)) goes118 rfl rfl) (Oc (op_pick_or (fun e => by rw [e]; rfl) rfl rfl rfl rfl) (Oc om ?_))
 refine OpsL.keepS ⟨[(0, _), (1, _), (4, _), (6, _), (29, B (((decide (x_1 = [])) || (decide (behind0 = []))) || x_4))], [(101, _)]⟩ rfl (CgF (!(((decide (x_1 = [])) || (decide (behind0 = []))) || x_4)) [] (fun g10 => trivial) (fun g10 => om) (CgF (!(((decide (x_1 = [])) || (decide (behind0 = []))) || x_4)) [30] (fun g11 => by exact ⟨g11, trivial⟩) (fun g11 => op_len_str und9 rfl) (CgF (!(((decide (x_1 = [])) || (decide (behind0 = []))) || x_4)) [] (fun g12 => by exact trivial) (fun g12 => om) (CgF (!(((decide (x_1 = [])) || (decide (behind0 = []))) || x_4)) [32] (fun g13 => by exact ⟨g13, trivial⟩) (fun g13 => op_len_str und9 rfl) (CgF (!(((decide (x_1 = [])) || (decide (behind0 = []))) || x_4)) [31, 33] (fun g14 => by exact ⟨g14, g14, trivial⟩) (fun g14 => op_add rfl rfl) ?_)))))
 refine CgF (!(((decide (x_1 = [])) || (decide (behind0 = []))) || x_4)) [34] (fun g15 => ⟨g15, trivial⟩) (fun g15 => op_gtr rfl rfl) (OpsL.consB h rfl (op_pick_or (fun e => by rw [e]; rfl) rfl rfl rfl rfl) (fun x_5 h => ?_))
 refine OpsL.nilS ⟨[(0, _), (1, _), (4, _), (6, _), (36, B x_5)], [(101, _)]⟩ rfl (Tri.ite h rfl (fun _ h => ?_) (fun _ h => ?_))
 ·refine Tri.seq (Tri.regionL ?_)
  refine OpsL.consA eFrc h rfl (op_build tyBuild27 rfl rfl) (fun x_6 h => ?_)
  refine Oc (op_store_p tyAgg27 rfl rfl rfl rfl (Nat.le_of_ble_eq_true rfl) rfl) (Oc oa ?_)
  refine OpsL.nilS ⟨[(4, _), (5, I 281)], [(101, .box 27 (eFrc x_6))]⟩ rfl (Tri.ret (Fin.then_ret ?_))
  obtain rfl := Option.some.inj h
  refine Fin.keepS ⟨[(4, _), (5, _)], [(101, _)]⟩ rfl (Fin.result' [.agg (eFrc x_6), .one (.i 281)] (.inl rfl) rfl (.cons (.agg tyAgg27 rfl rfl rfl rfl) (.cons (.tmp rfl) .nil)) ⟨rfl, rfl⟩)
 ·refine Tri.skip (Fin.keepS ⟨[(0, _), (1, _), (4, _), (6, _)], [(101, _)]⟩ rfl (Fin.then (Tri.seq (Tri.regionL ?_))))
  obtain ⟨x_7, e16, h⟩ := bnd h
  refine Oc (op_call0 (q_Of_spec e16) goes20 rfl rfl) ?_
  obtain ⟨x_8, e17, h⟩ := bnd h
  refine Oc (op_call0 (q_Of_spec e17) goes20 rfl rfl) (OpsL.keepS ⟨[(0, _), (1, _), (4, _), (6, _), (38, .b (.agg (eFrc x_7))), (39, .b (.agg (eFrc x_8)))], [(101, _)]⟩ rfl ?_)
  obtain ⟨x_9, e18, h⟩ := bnd h
  refine Oc (op_call0 (q_Of_spec e18) goes20 rfl rfl) (Oc (op_alloc (k := 102) tyZero27 rfl) (Oc (op_alloc (k := 103) tyZero27 rfl) (Oc (op_alloc (k := 104) tyZero27 rfl) ?_)))
  refine OpsL.keepS ⟨[(0, _), (1, _), (4, _), (6, _), (7, Pt 102 0), (8, Pt 103 0), (9, Pt 104 0), (38, _), (39, _), (40, .b (.agg (eFrc x_9)))], [(101, _), (102, .box 27 zFrc), (103, .box 27 zFrc), (104, .box 27 zFrc)]⟩ rfl (Oc (op_store_p tyAgg27 rfl rfl rfl rfl (Nat.le_of_ble_eq_true rfl) rfl) (Oc (op_store_p tyAgg27 rfl rfl rfl rfl (Nat.le_of_ble_eq_true rfl) rfl) (Oc (op_store_p tyAgg27 rfl rfl rfl rfl (Nat.le_of_ble_eq_true rfl) rfl) ?_)))
  refine OpsL.nilS ⟨[(0, _), (1, _), (4, _), (6, _), (7, _), (8, _), (9, _)], [(101, _), (102, .box 27 (eFrc x_7)), (103, .box 27 (eFrc x_8)), (104, .box 27 (eFrc x_9))]⟩ rfl ?_
  obtain ⟨v19, h20, h⟩ := bnd h
  refine Tri.seqJ (v := v19) (un2 fun (x_10 : Frc) (scale_11 : Frc) => ⟨[(4, Pt 101 0), (6, B x_2), (7, Pt 102 0), (8, Pt 103 0)], [(101, .box 27 zFrc), (102, .box 27 (eFrc x_10)), (103, .box 27 (eFrc scale_11))]⟩) (fun z => z) ?_ ?_
  ·refine Tri.seq (Tri.regionL ?_)
   refine Oc om (Oc om ?_)
   obtain ⟨x_12, e21, h20⟩ := bnd h20
   refine Oc (op_add_str2 e21 rfl rfl) (Oc (op_range_str (k := 105) und9 rfl rfl) ?_)
   refine OpsL.nilS ⟨[(0, _), (4, _), (6, _), (7, _), (8, _), (9, _), (44, Pt 105 0)], [(101, _), (102, _), (103, _), (104, _), (105, .sit x_12 0)]⟩ rfl (Tri.block (Tri.loopJ h20 (un3 fun (x_13 : Frc) (scale_14 : Frc) (xp_15 : Nat) => ⟨[(0, .b (.one (.str x_1))), (4, Pt 101 0), (6, B x_2), (7, Pt 102 0), (8, Pt 103 0), (9, Pt 104 0), (44, Pt 105 0)], [(101, .box 27 zFrc), (102, .box 27 (eFrc x_13)), (103, .box 27 (eFrc scale_14)), (104, .box 27 (eFrc x_9)), (105, .sit x_12 xp_15)]⟩) [0, 4, 6, 7, 8, 9, 44] [101, 102, 103, 104, 105] rfl ?_))
   rintro ⟨x_13, scale_14, xp_15⟩ o22 h23 hy24
   refine Tri.seq (Tri.regionL ?_)
   refine OpsL.ite h23 (fun hc25 h23 => ?_) (fun hc25 h23 => ?_)
   ·refine Oc (op_next_str rfl rfl (of_decide_eq_true hc25)) (Oc (op_extract rfl rfl) ?_)
    refine OpsL.nilS ⟨[(0, _), (4, _), (6, _), (7, _), (8, _), (9, _), (44, _), (45, .tup [.one (.bool true), .one (.i (xp_15 : Nat)), .one (.int .i32 (runeAt x_12 xp_15))]), (46, B true)], [(101, _), (102, _), (103, _), (104, _), (105, .sit x_12 (runeTo x_12 xp_15))]⟩ rfl (Tri.seq (Tri.condT rfl (Tri.skip (Fin.keepS ⟨[(0, _), (4, _), (6, _), (7, _), (8, _), (9, _), (44, _), (45, _)], [(101, _), (102, _), (103, _), (104, _), (105, _)]⟩ rfl (Fin.then (Tri.block (Tri.seq (Tri.regionL ?_))))))))
    refine Oc (op_extract rfl rfl) (Oc (op_extract rfl rfl) (Oc oa (Oc oa ?_)))
    refine OpsL.nilS ⟨[(0, _), (4, _), (6, _), (7, _), (8, _), (9, _), (10, I (xp_15 : Nat)), (11, .b (.one (.int .i32 (runeAt x_12 xp_15)))), (44, _)], [(101, _), (102, _), (103, _), (104, _), (105, _)]⟩ rfl (Tri.seq (Tri.regionL ?_))
    refine Oc (lp tyAgg27) (Oc (lp tyAgg27) ?_)
    obtain ⟨x_18, e26, h23⟩ := bnd h23
    refine Oc (op_call0 (q_Mul_spec e26) goes25 rfl rfl) (Oc om ?_)
    refine OpsL.consI .i32 h23 rfl (op_sub rfl rfl) (fun x_19 h23 => ?_)
    refine OpsL.keepS ⟨[(0, _), (4, _), (6, _), (7, _), (8, _), (9, _), (10, _), (44, _), (51, .b (.agg (eFrc x_18))), (53, .b (.one (.int .i32 x_19)))], [(101, _), (102, _), (103, _), (104, _), (105, _)]⟩ rfl (Oc (op_conv_wrap undi21 undi3 rfl) ?_)
    obtain ⟨x_20, e27, h23⟩ := bnd h23
    refine Oc (op_call0 (q_Of_spec e27) goes20 rfl rfl) ?_
    obtain ⟨x_21, e28, h23⟩ := bnd h23
    refine Oc (op_call0 (q_Add_spec e28) goes22 rfl rfl) (Oc (op_store_p tyAgg27 rfl rfl rfl rfl (Nat.le_of_ble_eq_true rfl) rfl) ?_)
    refine OpsL.nilS ⟨[(0, _), (4, _), (6, _), (7, _), (8, _), (9, _), (10, _), (44, _)], [(101, _), (102, .box 27 (eFrc x_21)), (103, _), (104, _), (105, _)]⟩ rfl (Tri.seq (Tri.regionL ?_))
    refine Oc om (Oc om (Oc (op_len_str und9 rfl) (Oc (op_geq rfl rfl) ?_)))
    refine OpsL.nilS ⟨[(0, _), (4, _), (6, _), (7, _), (8, _), (9, _), (44, _), (60, B (decide ((x_1.length : Int) ≤ (xp_15 : Nat))))], [(101, _), (102, _), (103, _), (104, _), (105, _)]⟩ rfl (Tri.ite h23 rfl (fun _ h23 => ?_) (fun _ h23 => ?_))
    ·refine Tri.regionL (Oc (lp tyAgg27) (Oc (lp tyAgg27) ?_))
     obtain ⟨x_22, e29, h23⟩ := bnd h23
     refine Oc (op_call0 (q_Mul_spec e29) goes25 rfl rfl) (Oc (op_store_p tyAgg27 rfl rfl rfl rfl (Nat.le_of_ble_eq_true rfl) rfl) ?_)
     refine OpsL.nil (Fin.block_normal ?_)
     exact Fin.againJ [0, 4, 6, 7, 8, 9, 44] [101, 102, 103, 104, 105] (x_21, x_22, runeTo x_12 xp_15) (Option.some.inj h23) rfl
    ·refine Tri.skip (Fin.block_normal ?_)
     exact Fin.againJ [0, 4, 6, 7, 8, 9, 44] [101, 102, 103, 104, 105] (x_21, scale_14, runeTo x_12 xp_15) (Option.some.inj h23) rfl
   ·refine Oc (op_over_str rfl rfl (Nat.not_lt.1 (of_decide_eq_false hc25))) (Oc (op_extract rfl rfl) ?_)
    refine OpsL.nilS ⟨[(0, _), (4, _), (6, _), (7, _), (8, _), (9, _), (44, _), (45, .tup [.one (.bool false)]), (46, B false)], [(101, _), (102, _), (103, _), (104, _), (105, _)]⟩ rfl (Tri.seq (Tri.condF rfl (Tri.exit (Fin.then_exit ?_))))
    obtain rfl := hy24 _ (Option.some.inj h23).symm
    refine Fin.then_exit (Fin.block_exit ?_)
    exact Fin.join [4, 6, 7, 8] [101, 102, 103] (x_13, scale_14) rfl rfl
  ·rintro ⟨x_10, scale_11⟩ hv
   subst v19
   obtain ⟨v30, h31, h⟩ := bnd h
   refine Tri.seqJ (v := v30) (fun (x_23 : Frc) => ⟨[(4, Pt 101 0), (7, Pt 102 0), (8, Pt 103 0)], [(101, .box 27 zFrc), (102, .box 27 (eFrc x_23)), (103, .box 27 (eFrc scale_11))]⟩) (fun z => z) ?_ ?_
   ·refine Tri.seq (Tri.regionL ?_)
    refine Oc om (OpsL.nilS ⟨[(4, _), (7, _), (8, _), (64, B x_2)], [(101, _), (102, _), (103, _)]⟩ rfl (Tri.ite h31 rfl (fun _ h31 => ?_) (fun _ h31 => ?_)))
    ·refine Tri.regionL (Oc (lp tyAgg27) ?_)
     obtain ⟨x_24, e32, h31⟩ := bnd h31
     refine Oc (op_call0 (q_Neg_spec e32) goes24 rfl rfl) (Oc (op_store_p tyAgg27 rfl rfl rfl rfl (Nat.le_of_ble_eq_true rfl) rfl) ?_)
     refine OpsL.nil ?_
     exact Fin.join [4, 7, 8] [101, 102, 103] x_24 (Option.some.inj h31) rfl
    ·refine Tri.skip ?_
     exact Fin.join [4, 7, 8] [101, 102, 103] x_10 (Option.some.inj h31) rfl
   ·rintro x_23 hv
    subst v30
    refine Tri.seq (Tri.regionL ?_)
    refine Oc (lp tyAgg27) (Oc (lp tyAgg27) ?_)
    obtain ⟨x_25, e33, h⟩ := bnd h
    refine Oc (op_call0 (q_Div_spec e33) goes21 rfl rfl) (Oc (op_store_p tyAgg27 rfl rfl rfl rfl (Nat.le_of_ble_eq_true rfl) rfl) (Oc oa ?_))
    refine OpsL.nilS ⟨[(4, _), (5, I 0)], [(101, .box 27 (eFrc x_25))]⟩ rfl (Tri.ret ?_)
    obtain rfl := Option.some.inj h
    refine Fin.keepS ⟨[(4, _), (5, _)], [(101, _)]⟩ rfl (Fin.result' [.agg (eFrc x_25), .one (.i 0)] (.inl rfl) rfl (.cons (.agg tyAgg27 rfl rfl rfl rfl) (.cons (.tmp rfl) .nil)) ⟨rfl, rfl⟩)
def w_Parse_S (F : Nat) (s0 : Str) : Option (Big × Int) :=
 Option.bind ((gcall (decide (0 < (s0.length : Int))) (idx? s0 0)).bind fun x_2 => letN ((decide (0 < (s0.length : Int))) && (decide ((x_2.toNat : Int) = 45))) fun x_3 => if x_3 = true then ((drop? s0 1).bind fun x_4 => some x_4) else (some s0)) (fun digits_1 => (gcall (!(decide (digits_1 = []))) (idx? digits_1 0)).bind fun x_5 => letN ((decide (digits_1 = [])) || ((decide ((x_5.toNat : Int) = 48)) && (decide (s0 ≠ [48])))) fun x_6 => if x_6 = true then ((w_Bad_S F).bind fun x_7 => some (x_7, 281)) else (Option.bind (iter F (fun x_8 => if (decide (x_8 < ((ofStr digits_1).length : Int))) = true then ((idx? (ofStr digits_1) x_8).bind fun x_9 => if ((decide (x_9 < 48)) || (decide (57 < x_9))) = true then ((w_Bad_S F).bind fun x_10 => some (.inr (.inr (x_10, 281)))) else (some (.inl (IntKind.i64.wrap (x_8 + 1))))) else (some (.inr (.inl ())))) 0) (alt2 (fun _ => if (decide (512 < (digits_1.length : Int))) = true then ((w_Bad_S F).bind fun x_11 => some (x_11, 30)) else ((w_Of_S F 0).bind fun x_12 => (w_Of_S F 10).bind fun x_13 => Option.bind (iter F (un2 fun x_15 x_16 => if (decide (x_16 < ((ofStr digits_1).length : Int))) = true then ((idx? (ofStr digits_1) x_16).bind fun x_18 => (w_Mul_S F x_15 x_13).bind fun x_19 => letN (IntKind.i64.wrap (IntKind.u8.wrap (x_18 - 48))) fun x_20 => (w_Of_S F x_20).bind fun x_21 => (w_Add_S F x_19 x_21).bind fun x_22 => some (.inl (x_22, IntKind.i64.wrap (x_16 + 1)))) else (some (.inr x_15))) (x_12, 0)) (fun x_14 => if x_14.Bad = true then (some (x_14, 30)) else ((w_signed_S F (decide (digits_1 ≠ s0)) x_14.W).bind fun x_23 => some (x_23, 0))))) (fun y => some y))))
theorem w_Parse_spec {F : Nat} {s0 : Str} {r : Big × Int} (h : w_Parse_S F s0 = some r) : Meets Tryz.prog (tabs mx) 121 [] [.one (.str s0)] (Is [] (.tup [.agg (eBig r.1), .one (.i r.2)])) := by
 unfold w_Parse_S at h
 refine Meets.intro 80 Tryz.func121 Tryz.ntmps121 rfl (by simp) fun E => ?_
 show Tri _ E ⟨80, [], []⟩ _ ⟨[(0, .b (.one (.str s0)))], []⟩ _
 refine Tri.seq (Tri.regionL ?_)
 refine Oc (op_alloc (k := 101) tyZero25 rfl) (Oc oa ?_)
 refine OpsL.nilS ⟨[(0, .b (.one (.str s0))), (2, Pt 101 0)], [(101, .box 25 zBig)]⟩ rfl (Tri.seq (Tri.regionL ?_))
 refine Oc om (Oc oa ?_)
 refine OpsL.nilS ⟨[(0, _), (2, _), (4, .b (.one (.str s0)))], [(101, _)]⟩ rfl ?_
 obtain ⟨v1, h2, h⟩ := bnd h
 refine Tri.seqJ (v := v1) (fun (digits_1 : Str) => ⟨[(0, .b (.one (.str s0))), (2, Pt 101 0), (4, .b (.one (.str digits_1)))], [(101, .box 25 zBig)]⟩) (fun z => z) ?_ ?_
 ·refine Tri.seq (Tri.regionL ?_)
  refine Oc om (Oc (op_len_str und9 rfl) (Oc (op_gtr rfl rfl) (Oc om ?_)))
  refine CgT (decide (0 < (s0.length : Int))) [] (fun g3 => trivial) (fun g3 => om) ?_
  obtain ⟨x_2, e5, h2⟩ := bnd h2
  refine CgT (decide (0 < (s0.length : Int))) [16] (fun g4 => ⟨g4, trivial⟩) (fun g4 => op_index_str und9 rfl rfl (ix_lo (gc e5 g4)) (ix_get (gc e5 g4))) (CgT (decide (0 < (s0.length : Int))) [17] (fun g6 => ⟨g6, trivial⟩) (fun g6 => op_eql rfl rfl) (OpsL.consB h2 rfl (op_pick_and (fun e => e) rfl rfl rfl rfl) (fun x_3 h2 => ?_)))
  refine OpsL.nilS ⟨[(0, _), (2, _), (4, _), (19, B x_3)], [(101, _)]⟩ rfl (Tri.ite h2 rfl (fun _ h2 => ?_) (fun _ h2 => ?_))
  ·refine Tri.regionL (Oc om ?_)
   obtain ⟨x_4, e7, h2⟩ := bnd h2
   refine Oc (op_slice_str_l und9 e7 rfl rfl) (Oc oa ?_)
   refine OpsL.nil ?_
   exact Fin.join [0, 2, 4] [101] x_4 (Option.some.inj h2) rfl
  ·refine Tri.skip ?_
   exact Fin.join [0, 2, 4] [101] s0 (Option.some.inj h2) rfl
 ·rintro digits_1 hv
  subst v1
  refine Tri.seq (Tri.seq (Tri.regionL ?_))
  refine Oc om (Oc (op_eql_str rfl rfl) (Oc om ?_))
  refine CgF (!(decide (digits_1 = []))) [] (fun g8 => trivial) (fun g8 => om) ?_
  obtain ⟨x_5, e10, h⟩ := bnd h
  refine CgF (!(decide (digits_1 = []))) [25] (fun g9 => ⟨g9, trivial⟩) (fun g9 => op_index_str und9 rfl rfl (ix_lo (gc e10 g9)) (ix_get (gc e10 g9))) (CgF (!(decide (digits_1 = []))) [26] (fun g11 => ⟨g11, trivial⟩) (fun g11 => op_eql rfl rfl) (CgF (!(decide (digits_1 = []))) [27] (fun g12 => ⟨g12, trivial⟩) (fun g12 => om) (OpsL.keepS ⟨[(0, _), (2, _), (4, _), (24, B (decide (digits_1 = []))), (28, .opt (!(decide (digits_1 = []))) (.one (.bool (decide ((x_5.toNat : Int) = 48)))))], [(101, _)]⟩ rfl (OpsL.consG ((!(decide (digits_1 = []))) && (decide ((x_5.toNat : Int) = 48))) 99 [] (.under rfl) (and_t _ _) rfl rfl (fun g13 => by exact trivial) (fun g13 => om) (OpsL.consG ((!(decide (digits_1 = []))) && (decide ((x_5.toNat : Int) = 48))) 99 [29] (.under rfl) (and_t _ _) rfl rfl (fun g14 => by exact ⟨g14, trivial⟩) (fun g14 => op_neq_str rfl rfl) ?_)))))
  refine CgF (!(decide (digits_1 = []))) [28] (fun g15 => ⟨g15, trivial⟩) (fun g15 => op_pick_and (fun e => by rw [g15, e]; rfl) rfl rfl rfl rfl) (OpsL.consB h rfl (op_pick_or (fun e => by rw [e]; rfl) rfl rfl rfl rfl) (fun x_6 h => ?_))
  refine OpsL.nilS ⟨[(0, _), (2, _), (4, _), (32, B x_6)], [(101, _)]⟩ rfl (Tri.ite h rfl (fun _ h => ?_) (fun _ h => ?_))
  ·refine Tri.seq (Tri.regionL ?_)
   obtain ⟨x_7, e16, h⟩ := bnd h
   refine Oc (op_call0 (w_Bad_spec e16) goes136 rfl rfl) (Oc (op_store_p tyAgg25 rfl rfl rfl rfl (Nat.le_of_ble_eq_true rfl) rfl) (Oc oa ?_))
   refine OpsL.nilS ⟨[(2, _), (3, I 281)], [(101, .box 25 (eBig x_7))]⟩ rfl (Tri.ret (Fin.then_ret ?_))
   obtain rfl := Option.some.inj h
   refine Fin.keepS ⟨[(2, _), (3, _)], [(101, _)]⟩ rfl (Fin.result' [.agg (eBig x_7), .one (.i 281)] (.inl rfl) rfl (.cons (.agg tyAgg25 rfl rfl rfl rfl) (.cons (.tmp rfl) .nil)) ⟨rfl, rfl⟩)
  ·refine Tri.skip (Fin.keepS ⟨[(0, _), (2, _), (4, _)], [(101, _)]⟩ rfl (Fin.then ?_))
   obtain ⟨v17, h18, h⟩ := bnd h
   refine Tri.seqJ (v := v17) (fun (_ : Unit) => ⟨[(0, .b (.one (.str s0))), (2, Pt 101 0), (4, .b (.one (.str digits_1)))], [(101, .box 25 zBig)]⟩) (fun z => .inl z) ?_ ?_
   ·refine Tri.seq (Tri.regionL ?_)
    refine Oc om (Oc (op_conv_str und9 und48 undi5 rfl) (Oc (op_len_e' und48 rfl (List.length_map _)) (Oc om ?_)))
    refine OpsL.nilS ⟨[(0, _), (2, _), (4, _), (35, .b (.one (.sl 1 ((ofStr digits_1).map (eK .u8))))), (36, I ((ofStr digits_1).length : Int)), (37, I 0)], [(101, _)]⟩ rfl (Tri.block (Tri.loopJ h18 (fun (x_8 : Int) => ⟨[(0, .b (.one (.str s0))), (2, Pt 101 0), (4, .b (.one (.str digits_1))), (35, .b (.one (.sl 1 ((ofStr digits_1).map (eK .u8))))), (36, I ((ofStr digits_1).length : Int)), (37, I x_8)], [(101, .box 25 zBig)]⟩) [0, 2, 4, 35, 36, 37] [101] rfl ?_))
    rintro x_8 o19 h20 hy21
    refine Tri.seq (Tri.regionL ?_)
    refine Oc (op_lss rfl rfl) (OpsL.nilS ⟨[(0, _), (2, _), (4, _), (35, _), (36, _), (37, _), (38, B (decide (x_8 < ((ofStr digits_1).length : Int))))], [(101, _)]⟩ rfl (Tri.seq (Tri.ite h20 rfl (fun _ h20 => ?_) (fun _ h20 => ?_))))
    ·refine Tri.skip (Fin.keepS ⟨[(0, _), (2, _), (4, _), (35, _), (36, _), (37, _)], [(101, _)]⟩ rfl (Fin.then (Tri.seq (Tri.block (Tri.seq (Tri.regionL ?_))))))
     obtain ⟨x_9, e22, h20⟩ := bnd h20
     refine Oc (op_index_e tySl48 (ix_lo e22) (ix_map (e := (eK .u8)) e22) rfl rfl) (Oc (op_load_e1 tyOne5 rfl rfl) (Oc oa ?_))
     refine OpsL.nilS ⟨[(0, _), (2, _), (4, _), (6, .b (.one (.int .u8 x_9))), (35, _), (36, _), (37, _)], [(101, _)]⟩ rfl (Tri.seq (Tri.regionL ?_))
     refine Oc om (Oc (op_lss rfl rfl) (Oc om ?_))
     refine CgF (!(decide (x_9 < 48))) [] (fun g23 => trivial) (fun g23 => om) (CgF (!(decide (x_9 < 48))) [44] (fun g24 => by exact ⟨g24, trivial⟩) (fun g24 => op_gtr rfl rfl) (Oc (op_pick_or (fun e => by rw [e]; rfl) rfl rfl rfl rfl) (OpsL.nilS ⟨[(0, _), (2, _), (4, _), (35, _), (36, _), (37, _), (46, B ((decide (x_9 < 48)) || (decide (57 < x_9))))], [(101, _)]⟩ rfl (Tri.ite h20 rfl (fun _ h20 => ?_) (fun _ h20 => ?_)))))
     ·refine Tri.seq (Tri.regionL ?_)
      obtain ⟨x_10, e25, h20⟩ := bnd h20
      refine Oc (op_call0 (w_Bad_spec e25) goes136 rfl rfl) (Oc (op_store_p tyAgg25 rfl rfl rfl rfl (Nat.le_of_ble_eq_true rfl) rfl) (Oc oa ?_))
      refine OpsL.nilS ⟨[(2, _), (3, I 281)], [(101, .box 25 (eBig x_10))]⟩ rfl (Tri.ret (Fin.block_ret (Fin.then_ret ?_)))
      obtain rfl := hy21 _ (Option.some.inj h20).symm
      refine Fin.then_ret (Fin.block_ret (Fin.then_ret ?_))
      obtain rfl := Option.some.inj h
      refine Fin.keepS ⟨[(2, _), (3, _)], [(101, _)]⟩ rfl (Fin.result' [.agg (eBig x_10), .one (.i 281)] (.inl rfl) rfl (.cons (.agg tyAgg25 rfl rfl rfl rfl) (.cons (.tmp rfl) .nil)) ⟨rfl, rfl⟩)
     ·refine Tri.skip (Fin.block_normal (Fin.keepS ⟨[(0, _), (2, _), (4, _), (35, _), (36, _), (37, _)], [(101, _)]⟩ rfl (Fin.then (Tri.regionL ?_))))
      refine Oc (op_add rfl rfl) (Oc om ?_)
      refine OpsL.nil ?_
      exact Fin.againJ [0, 2, 4, 35, 36, 37] [101] (IntKind.i64.wrap (x_8 + 1)) (Option.some.inj h20) rfl
    ·refine Tri.exit (Fin.then_exit ?_)
     obtain rfl := hy21 _ (Option.some.inj h20).symm
     refine Fin.then_exit (Fin.block_exit ?_)
     exact Fin.join [0, 2, 4] [101] () rfl rfl
   ·rintro _ hv
    subst v17
    refine Tri.seq (Tri.seq (Tri.regionL ?_))
    refine Oc om (Oc (op_len_str und9 rfl) (Oc (op_gtr rfl rfl) ?_))
    refine OpsL.nilS ⟨[(0, _), (2, _), (4, _), (51, B (decide (512 < (digits_1.length : Int))))], [(101, _)]⟩ rfl (Tri.ite h rfl (fun _ h => ?_) (fun _ h => ?_))
    ·refine Tri.seq (Tri.regionL ?_)
     obtain ⟨x_11, e26, h⟩ := bnd h
     refine Oc (op_call0 (w_Bad_spec e26) goes136 rfl rfl) (Oc (op_store_p tyAgg25 rfl rfl rfl rfl (Nat.le_of_ble_eq_true rfl) rfl) (Oc oa ?_))
     refine OpsL.nilS ⟨[(2, _), (3, I 30)], [(101, .box 25 (eBig x_11))]⟩ rfl (Tri.ret (Fin.then_ret ?_))
     obtain rfl := Option.some.inj h
     refine Fin.keepS ⟨[(2, _), (3, _)], [(101, _)]⟩ rfl (Fin.result' [.agg (eBig x_11), .one (.i 30)] (.inl rfl) rfl (.cons (.agg tyAgg25 rfl rfl rfl rfl) (.cons (.tmp rfl) .nil)) ⟨rfl, rfl⟩)
    ·refine Tri.skip (Fin.keepS ⟨[(0, _), (2, _), (4, _)], [(101, _)]⟩ rfl (Fin.then (Tri.seq (Tri.regionL ?_))))
     obtain ⟨x_12, e27, h⟩ := bnd h
     refine Oc (op_call0 (w_Of_spec e27) goes74 rfl rfl) ?_
     obtain ⟨x_13, e28, h⟩ := bnd h
     refine Oc (op_call0 (w_Of_spec e28) goes74 rfl rfl) (OpsL.keepS ⟨[(0, _), (2, _), (4, _), (53, .b (.agg (eBig x_12))), (54, .b (.agg (eBig x_13)))], [(101, _)]⟩ rfl (Oc (op_alloc (k := 102) tyZero25 rfl) (Oc (op_alloc (k := 103) tyZero25 rfl) (Oc (op_store_p tyAgg25 rfl rfl rfl rfl (Nat.le_of_ble_eq_true rfl) rfl) (Oc (op_store_p tyAgg25 rfl rfl rfl rfl (Nat.le_of_ble_eq_true rfl) rfl) ?_)))))
     refine OpsL.nilS ⟨[(0, _), (2, _), (4, _), (7, Pt 102 0), (8, Pt 103 0)], [(101, _), (102, .box 25 (eBig x_12)), (103, .box 25 (eBig x_13))]⟩ rfl ?_
     obtain ⟨v29, h30, h⟩ := bnd h
     refine Tri.seqJ (v := v29) (fun (x_14 : Big) => ⟨[(0, .b (.one (.str s0))), (2, Pt 101 0), (4, .b (.one (.str digits_1))), (7, Pt 102 0)], [(101, .box 25 zBig), (102, .box 25 (eBig x_14))]⟩) (fun z => z) ?_ ?_
     ·refine Tri.seq (Tri.regionL ?_)
      refine Oc om (Oc (op_conv_str und9 und48 undi5 rfl) (Oc (op_len_e' und48 rfl (List.length_map _)) (Oc om ?_)))
      refine OpsL.nilS ⟨[(0, _), (2, _), (4, _), (7, _), (8, _), (56, .b (.one (.sl 1 ((ofStr digits_1).map (eK .u8))))), (57, I ((ofStr digits_1).length : Int)), (58, I 0)], [(101, _), (102, _), (103, _)]⟩ rfl (Tri.block (Tri.loopJ h30 (un2 fun (x_15 : Big) (x_16 : Int) => ⟨[(0, .b (.one (.str s0))), (2, Pt 101 0), (4, .b (.one (.str digits_1))), (7, Pt 102 0), (8, Pt 103 0), (56, .b (.one (.sl 1 ((ofStr digits_1).map (eK .u8))))), (57, I ((ofStr digits_1).length : Int)), (58, I x_16)], [(101, .box 25 zBig), (102, .box 25 (eBig x_15)), (103, .box 25 (eBig x_13))]⟩) [0, 2, 4, 7, 8, 56, 57, 58] [101, 102, 103] rfl ?_))
      rintro ⟨x_15, x_16⟩ o31 h32 hy33
      refine Tri.seq (Tri.regionL ?_)
      refine Oc (op_lss rfl rfl) (OpsL.nilS ⟨[(0, _), (2, _), (4, _), (7, _), (8, _), (56, _), (57, _), (58, _), (59, B (decide (x_16 < ((ofStr digits_1).length : Int))))], [(101, _), (102, _), (103, _)]⟩ rfl (Tri.seq (Tri.ite h32 rfl (fun _ h32 => ?_) (fun _ h32 => ?_))))
      ·refine Tri.skip (Fin.keepS ⟨[(0, _), (2, _), (4, _), (7, _), (8, _), (56, _), (57, _), (58, _)], [(101, _), (102, _), (103, _)]⟩ rfl (Fin.then (Tri.seq (Tri.block (Tri.seq (Tri.regionL ?_))))))
       obtain ⟨x_18, e34, h32⟩ := bnd h32
       refine Oc (op_index_e tySl48 (ix_lo e34) (ix_map (e := (eK .u8)) e34) rfl rfl) (Oc (op_load_e1 tyOne5 rfl rfl) (Oc oa ?_))
       refine OpsL.nilS ⟨[(0, _), (2, _), (4, _), (7, _), (8, _), (10, .b (.one (.int .u8 x_18))), (56, _), (57, _), (58, _)], [(101, _), (102, _), (103, _)]⟩ rfl (Tri.regionL (Oc (lp tyAgg25) (Oc (lp tyAgg25) ?_)))
       obtain ⟨x_19, e35, h32⟩ := bnd h32
       refine Oc (op_call0 (w_Mul_spec e35) goes80 rfl rfl) (Oc om (Oc (op_sub rfl rfl) ?_))
       refine OpsL.keepS ⟨[(0, _), (2, _), (4, _), (7, _), (8, _), (56, _), (57, _), (58, _), (64, .b (.agg (eBig x_19))), (66, .b (.one (.int .u8 (IntKind.u8.wrap (x_18 - 48)))))], [(101, _), (102, _), (103, _)]⟩ rfl (OpsL.consI .i64 h32 rfl (op_conv_wrap undi5 undi3 rfl) (fun x_20 h32 => ?_))
       obtain ⟨x_21, e36, h32⟩ := bnd h32
       refine Oc (op_call0 (w_Of_spec e36) goes74 rfl rfl) ?_
       obtain ⟨x_22, e37, h32⟩ := bnd h32
       refine Oc (op_call0 (w_Add_spec e37) goes79 rfl rfl) (Oc (op_store_p tyAgg25 rfl rfl rfl rfl (Nat.le_of_ble_eq_true rfl) rfl) ?_)
       refine OpsL.nil (Fin.block_normal (Fin.keepS ⟨[(0, _), (2, _), (4, _), (7, _), (8, _), (56, _), (57, _), (58, _)], [(101, _), (102, .box 25 (eBig x_22)), (103, _)]⟩ rfl (Fin.then (Tri.regionL ?_))))
       refine Oc (op_add rfl rfl) (Oc om ?_)
       refine OpsL.nil ?_
       exact Fin.againJ [0, 2, 4, 7, 8, 56, 57, 58] [101, 102, 103] (x_22, IntKind.i64.wrap (x_16 + 1)) (Option.some.inj h32) rfl
      ·refine Tri.exit (Fin.then_exit ?_)
       obtain rfl := hy33 _ (Option.some.inj h32).symm
       refine Fin.then_exit (Fin.block_exit ?_)
       exact Fin.join [0, 2, 4, 7] [101, 102] x_15 rfl rfl
     ·rintro x_14 hv
      subst v29
      refine Tri.seq (Tri.seq (Tri.regionL ?_))
      refine Oc (op_field_p tyFld25_0 rfl rfl) (Oc (op_load_p1 tyOne4 rfl rfl rfl) ?_)
      refine OpsL.nilS ⟨[(0, _), (2, _), (4, _), (7, _), (72, B x_14.Bad)], [(101, _), (102, _)]⟩ rfl (Tri.ite h rfl (fun _ h => ?_) (fun _ h => ?_))
      ·refine Tri.seq (Tri.regionL ?_)
       refine Oc (lp tyAgg25) (Oc (op_store_p tyAgg25 rfl rfl rfl rfl (Nat.le_of_ble_eq_true rfl) rfl) (Oc oa ?_))
       refine OpsL.nilS ⟨[(2, _), (3, I 30)], [(101, .box 25 (eBig x_14))]⟩ rfl (Tri.ret (Fin.then_ret ?_))
       obtain rfl := Option.some.inj h
       refine Fin.keepS ⟨[(2, _), (3, _)], [(101, _)]⟩ rfl (Fin.result' [.agg (eBig x_14), .one (.i 30)] (.inl rfl) rfl (.cons (.agg tyAgg25 rfl rfl rfl rfl) (.cons (.tmp rfl) .nil)) ⟨rfl, rfl⟩)
      ·refine Tri.skip (Fin.keepS ⟨[(0, _), (2, _), (4, _), (7, _)], [(101, _), (102, _)]⟩ rfl (Fin.then (Tri.seq (Tri.regionL ?_))))
       refine Oc om (Oc om (Oc (op_neq_str rfl rfl) (Oc (op_field_p tyFld25_2 rfl rfl) (Oc (lp tyAgg23) ?_))))
       refine OpsL.keepS ⟨[(2, _), (76, B (decide (digits_1 ≠ s0))), (78, .b (.agg (eW x_14.W)))], [(101, _)]⟩ rfl ?_
       obtain ⟨x_23, e38, h⟩ := bnd h
       refine Oc (op_call0 (w_signed_spec e38) goes135 rfl rfl) (Oc (op_store_p tyAgg25 rfl rfl rfl rfl (Nat.le_of_ble_eq_true rfl) rfl) (Oc oa ?_))
       refine OpsL.nilS ⟨[(2, _), (3, I 0)], [(101, .box 25 (eBig x_23))]⟩ rfl (Tri.ret ?_)
       obtain rfl := Option.some.inj h
       refine Fin.keepS ⟨[(2, _), (3, _)], [(101, _)]⟩ rfl (Fin.result' [.agg (eBig x_23), .one (.i 0)] (.inl rfl) rfl (.cons (.agg tyAgg25 rfl rfl rfl rfl) (.cons (.tmp rfl) .nil)) ⟨rfl, rfl⟩)
def q_Parse_S (F : Nat) (s0 : Str) : Option (Frc × Int) :=
 Option.bind (strings_Cut_S F s0 [47]) (un3 fun x_1 x_2 x_3 => (q_one_S F).bind fun x_4 => letN (⟨(⟨false, false, A16.zero⟩ : Big), x_4⟩ : Frc) fun x_5 => Option.bind (w_Parse_S F x_1) (un2 fun x_6 x_7 => Option.bind (if x_3 = true then (Option.bind (w_Parse_S F x_2) (un2 fun x_10 x_11 => some ((⟨x_6, x_10⟩ : Frc), x_11))) else (some ((⟨x_6, x_5.D⟩ : Frc), 0))) (un2 fun x_8 f_9 => (gcall (((!((decide (x_7 = 281)) || (decide (f_9 = 281)))) && x_3) && !((decide (x_2 = [48])) || (decide (x_2 = [49])))) (strings_HasPrefix_S F x_2 [45])).bind fun x_12 => letN (((decide (x_7 = 281)) || (decide (f_9 = 281))) || (x_3 && (((decide (x_2 = [48])) || (decide (x_2 = [49]))) || x_12))) fun x_13 => if x_13 = true then ((q_Bad_S F).bind fun x_14 => some (x_14, 281)) else (if ((decide (x_7 ≠ 0)) || (decide (f_9 ≠ 0))) = true then ((q_Bad_S F).bind fun x_15 => some (x_15, 30)) else ((q_Good_S F x_8).bind fun x_16 => if (!x_16) = true then ((q_Bad_S F).bind fun x_17 => some (x_17, 281)) else (some (x_8, 0)))))))
theorem q_Parse_spec {F : Nat} {s0 : Str} {r : Frc × Int} (h : q_Parse_S F s0 = some r) : Meets Tryz.prog (tabs mx) 61 [] [.one (.str s0)] (Is [] (.tup [.agg (eFrc r.1), .one (.i r.2)])) := by
 unfold q_Parse_S at h
 refine Meets.intro 68 Tryz.func61 Tryz.ntmps61 rfl (by simp) fun E => ?_
 show Tri _ E ⟨68, [], []⟩ _ ⟨[(0, .b (.one (.str s0)))], []⟩ _
 refine Tri.seq (Tri.regionL ?_)
 refine Oc (op_alloc (k := 101) tyZero27 rfl) (Oc oa ?_)
 refine OpsL.nilS ⟨[(0, .b (.one (.str s0))), (2, Pt 101 0)], [(101, .box 27 zFrc)]⟩ rfl (Tri.seq (Tri.regionL ?_))
 refine Oc om ?_
 obtain ⟨⟨x_1, x_2, x_3⟩, e1, h⟩ := bnd h
 refine Oc (op_call0 (strings_Cut_spec e1) goes59 rfl rfl) (Oc om (Oc (op_extract rfl rfl) (Oc (op_extract rfl rfl) ?_)))
 refine OpsL.keepS ⟨[(2, _), (10, .tup [.one (.str x_1), .one (.str x_2), .one (.bool x_3)]), (13, .b (.one (.str x_1))), (14, .b (.one (.str x_2)))], [(101, _)]⟩ rfl (Oc (op_extract rfl rfl) (Oc oa (Oc oa (Oc oa ?_))))
 refine OpsL.nilS ⟨[(2, _), (4, .b (.one (.str x_1))), (5, .b (.one (.str x_2))), (6, B x_3)], [(101, _)]⟩ rfl (Tri.seq (Tri.regionL ?_))
 obtain ⟨x_4, e2, h⟩ := bnd h
 refine Oc (op_call0 (q_one_spec e2) goes63 rfl rfl) (OpsL.consA eFrc h rfl (op_build tyBuild27 rfl rfl) (fun x_5 h => ?_))
 refine Oc (op_alloc (k := 102) tyZero27 rfl) (Oc (op_store_p tyAgg27 rfl rfl rfl rfl (Nat.le_of_ble_eq_true rfl) rfl) ?_)
 refine OpsL.nilS ⟨[(2, _), (4, _), (5, _), (6, _), (7, Pt 102 0)], [(101, _), (102, .box 27 (eFrc x_5))]⟩ rfl (Tri.seq (Tri.regionL ?_))
 refine Oc oa (Oc oa ?_)
 refine OpsL.nilS ⟨[(2, _), (4, _), (5, _), (6, _), (7, _), (9, I 0)], [(101, _), (102, _)]⟩ rfl (Tri.seq (Tri.regionL ?_))
 refine Oc om ?_
 obtain ⟨⟨x_6, x_7⟩, e3, h⟩ := bnd h
 refine Oc (op_call0 (w_Parse_spec e3) goes121 rfl rfl) (Oc om (Oc (op_extract rfl rfl) (Oc (op_extract rfl rfl) ?_)))
 refine OpsL.keepS ⟨[(2, _), (5, _), (6, _), (7, _), (9, _), (21, .b (.agg (eBig x_6))), (22, I x_7)], [(101, _), (102, _)]⟩ rfl (Oc (op_field_p tyFld27_0 rfl rfl) (Oc (op_store_p tyAgg25 rfl rfl rfl rfl (Nat.le_of_ble_eq_true rfl) rfl) (Oc oa ?_)))
 refine OpsL.nilS ⟨[(2, _), (5, _), (6, _), (7, _), (8, I x_7), (9, _)], [(101, _), (102, .box 27 (eBig x_6 ++ (eBig x_5.D)))]⟩ rfl ?_
 obtain ⟨v4, h5, h⟩ := bnd h
 refine Tri.seqJ (v := v4) (un2 fun (x_8 : Frc) (f_9 : Int) => ⟨[(2, Pt 101 0), (5, .b (.one (.str x_2))), (6, B x_3), (7, Pt 102 0), (8, I x_7), (9, I f_9)], [(101, .box 27 zFrc), (102, .box 27 (eFrc x_8))]⟩) (fun z => z) ?_ ?_
 ·refine Tri.seq (Tri.regionL ?_)
  refine Oc om (OpsL.nilS ⟨[(2, _), (5, _), (6, _), (7, _), (8, _), (9, _), (24, B x_3)], [(101, _), (102, _)]⟩ rfl (Tri.ite h5 rfl (fun _ h5 => ?_) (fun _ h5 => ?_)))
  ·refine Tri.regionL (Oc om ?_)
   obtain ⟨⟨x_10, x_11⟩, e6, h5⟩ := bnd h5
   refine Oc (op_call0 (w_Parse_spec e6) goes121 rfl rfl) (Oc om (Oc (op_extract rfl rfl) (Oc (op_extract rfl rfl) ?_)))
   refine OpsL.keepS ⟨[(2, _), (5, _), (6, _), (7, _), (8, _), (9, _), (28, .b (.agg (eBig x_10))), (29, I x_11)], [(101, _), (102, _)]⟩ rfl (Oc (op_field_p tyFld27_1 rfl rfl) (Oc (op_store_p tyAgg25 rfl rfl rfl rfl (Nat.le_of_ble_eq_true rfl) rfl) (Oc oa ?_)))
   refine OpsL.nil ?_
   exact Fin.join [2, 5, 6, 7, 8, 9] [101, 102] ((⟨x_6, x_10⟩ : Frc), x_11) (Option.some.inj h5) rfl
  ·refine Tri.skip ?_
   exact Fin.join [2, 5, 6, 7, 8, 9] [101, 102] ((⟨x_6, x_5.D⟩ : Frc), 0) (Option.some.inj h5) rfl
 ·rintro ⟨x_8, f_9⟩ hv
  subst v4
  refine Tri.seq (Tri.block (Tri.seq (Tri.regionL ?_)))
  refine Oc om (Oc (op_eql rfl rfl) (Oc om ?_))
  refine CgF (!(decide (x_7 = 281))) [] (fun g7 => trivial) (fun g7 => om) (CgF (!(decide (x_7 = 281))) [35] (fun g8 => by exact ⟨g8, trivial⟩) (fun g8 => op_eql rfl rfl) (Oc (op_pick_or (fun e => by rw [e]; rfl) rfl rfl rfl rfl) (Oc om ?_)))
  refine OpsL.keepS ⟨[(2, _), (5, _), (6, _), (7, _), (8, _), (9, _), (38, B ((decide (x_7 = 281)) || (decide (f_9 = 281))))], [(101, _), (102, _)]⟩ rfl (CgF (!((decide (x_7 = 281)) || (decide (f_9 = 281)))) [] (fun g9 => trivial) (fun g9 => om) (CgF (!((decide (x_7 = 281)) || (decide (f_9 = 281)))) [39] (fun g10 => by exact ⟨g10, trivial⟩) (fun g10 => om) (OpsL.consG ((!((decide (x_7 = 281)) || (decide (f_9 = 281)))) && x_3) 99 [] (.under rfl) (and_t _ _) rfl rfl (fun g11 => by exact trivial) (fun g11 => om) (OpsL.consG ((!((decide (x_7 = 281)) || (decide (f_9 = 281)))) && x_3) 99 [41] (.under rfl) (and_t _ _) rfl rfl (fun g12 => by exact ⟨g12, trivial⟩) (fun g12 => op_eql_str rfl rfl) (OpsL.consG ((!((decide (x_7 = 281)) || (decide (f_9 = 281)))) && x_3) 99 [42] (.under rfl) (and_t _ _) rfl rfl (fun g13 => by exact ⟨g13, trivial⟩) (fun g13 => om) ?_)))))
  refine OpsL.consG (((!((decide (x_7 = 281)) || (decide (f_9 = 281)))) && x_3) && !(decide (x_2 = [48]))) 99 [] (.under rfl) (and_f _ _) rfl rfl (fun g14 => trivial) (fun g14 => om) (OpsL.consG (((!((decide (x_7 = 281)) || (decide (f_9 = 281)))) && x_3) && !(decide (x_2 = [48]))) 99 [44] (.under rfl) (and_f _ _) rfl rfl (fun g15 => ⟨g15, trivial⟩) (fun g15 => op_eql_str rfl rfl) (OpsL.consG ((!((decide (x_7 = 281)) || (decide (f_9 = 281)))) && x_3) 99 [43] (.under rfl) (and_t _ _) rfl rfl (fun g16 => ⟨g16, trivial⟩) (fun g16 => op_pick_or (fun e => by rw [g16, e]; rfl) rfl rfl rfl rfl) (OpsL.keepS ⟨[(2, _), (5, _), (7, _), (8, _), (9, _), (38, _), (40, .opt (!((decide (x_7 = 281)) || (decide (f_9 = 281)))) (.one (.bool x_3))), (46, .opt ((!((decide (x_7 = 281)) || (decide (f_9 = 281)))) && x_3) (.one (.bool ((decide (x_2 = [48])) || (decide (x_2 = [49]))))))], [(101, _), (102, _)]⟩ rfl (OpsL.consG ((!((decide (x_7 = 281)) || (decide (f_9 = 281)))) && x_3) 99 [46] (.under rfl) (and_t _ _) rfl rfl (fun g17 => ⟨g17, trivial⟩) (fun g17 => om) (OpsL.consG (((!((decide (x_7 = 281)) || (decide (f_9 = 281)))) && x_3) && !((decide (x_2 = [48])) || (decide (x_2 = [49])))) 99 [] (.under rfl) (and_f _ _) rfl rfl (fun g18 => trivial) (fun g18 => om) ?_)))))
  obtain ⟨x_12, e20, h⟩ := bnd h
  refine OpsL.consG (((!((decide (x_7 = 281)) || (decide (f_9 = 281)))) && x_3) && !((decide (x_2 = [48])) || (decide (x_2 = [49])))) 99 [48] (.under rfl) (and_f _ _) rfl rfl (fun g19 => ⟨g19, trivial⟩) (fun g19 => op_call0 (strings_HasPrefix_spec (gc e20 g19)) goes122 rfl rfl) (OpsL.consG ((!((decide (x_7 = 281)) || (decide (f_9 = 281)))) && x_3) 99 [47] (.under rfl) (and_t _ _) rfl rfl (fun g21 => ⟨g21, trivial⟩) (fun g21 => op_pick_or (fun e => by rw [g21, e]; rfl) rfl rfl rfl rfl) (CgF (!((decide (x_7 = 281)) || (decide (f_9 = 281)))) [40] (fun g22 => ⟨g22, trivial⟩) (fun g22 => op_pick_and (fun e => by rw [g22, e]; rfl) rfl rfl rfl rfl) (OpsL.consB h rfl (op_pick_or (fun e => by rw [e]; rfl) rfl rfl rfl rfl) (fun x_13 h => ?_))))
  refine Oc oa (OpsL.nilS ⟨[(2, _), (7, _), (8, _), (9, _), (31, B x_13)], [(101, _), (102, _)]⟩ rfl (Tri.ite h rfl (fun _ h => ?_) (fun _ h => ?_)))
  ·refine Tri.seq (Tri.regionL ?_)
   obtain ⟨x_14, e23, h⟩ := bnd h
   refine Oc (op_call0 (q_Bad_spec e23) goes75 rfl rfl) (Oc (op_store_p tyAgg27 rfl rfl rfl rfl (Nat.le_of_ble_eq_true rfl) rfl) (Oc oa ?_))
   refine OpsL.nilS ⟨[(2, _), (3, I 281)], [(101, .box 27 (eFrc x_14))]⟩ rfl (Tri.ret (Fin.block_ret (Fin.then_ret ?_)))
   obtain rfl := Option.some.inj h
   refine Fin.keepS ⟨[(2, _), (3, _)], [(101, _)]⟩ rfl (Fin.result' [.agg (eFrc x_14), .one (.i 281)] (.inl rfl) rfl (.cons (.agg tyAgg27 rfl rfl rfl rfl) (.cons (.tmp rfl) .nil)) ⟨rfl, rfl⟩)
  ·refine Tri.seq (Tri.regionL ?_)
   refine Oc om (Oc (op_neq rfl rfl) (Oc om ?_))
   refine CgF (!(decide (x_7 ≠ 0))) [] (fun g24 => trivial) (fun g24 => om) (CgF (!(decide (x_7 ≠ 0))) [58] (fun g25 => by exact ⟨g25, trivial⟩) (fun g25 => op_neq rfl rfl) (Oc (op_pick_or (fun e => by rw [e]; rfl) rfl rfl rfl rfl) (Oc oa ?_)))
   refine OpsL.nilS ⟨[(2, _), (7, _), (54, B ((decide (x_7 ≠ 0)) || (decide (f_9 ≠ 0))))], [(101, _), (102, _)]⟩ rfl (Tri.ite h rfl (fun _ h => ?_) (fun _ h => ?_))
   ·refine Tri.seq (Tri.regionL ?_)
    obtain ⟨x_15, e26, h⟩ := bnd h
    refine Oc (op_call0 (q_Bad_spec e26) goes75 rfl rfl) (Oc (op_store_p tyAgg27 rfl rfl rfl rfl (Nat.le_of_ble_eq_true rfl) rfl) (Oc oa ?_))
    refine OpsL.nilS ⟨[(2, _), (3, I 30)], [(101, .box 27 (eFrc x_15))]⟩ rfl (Tri.ret (Fin.block_ret (Fin.then_ret ?_)))
    obtain rfl := Option.some.inj h
    refine Fin.keepS ⟨[(2, _), (3, _)], [(101, _)]⟩ rfl (Fin.result' [.agg (eFrc x_15), .one (.i 30)] (.inl rfl) rfl (.cons (.agg tyAgg27 rfl rfl rfl rfl) (.cons (.tmp rfl) .nil)) ⟨rfl, rfl⟩)
   ·refine Tri.seq (Tri.regionL ?_)
    refine Oc (lp tyAgg27) ?_
    obtain ⟨x_16, e27, h⟩ := bnd h
    refine Oc (op_call0 (q_Good_spec e27) goes62 rfl rfl) (Oc (op_not rfl) (Oc oa ?_))
    refine OpsL.nilS ⟨[(2, _), (7, _), (62, B (!x_16))], [(101, _), (102, _)]⟩ rfl (Tri.ite h rfl (fun _ h => ?_) (fun _ h => ?_))
    ·refine Tri.seq (Tri.regionL ?_)
     obtain ⟨x_17, e28, h⟩ := bnd h
     refine Oc (op_call0 (q_Bad_spec e28) goes75 rfl rfl) (Oc (op_store_p tyAgg27 rfl rfl rfl rfl (Nat.le_of_ble_eq_true rfl) rfl) (Oc oa ?_))
     refine OpsL.nilS ⟨[(2, _), (3, I 281)], [(101, .box 27 (eFrc x_17))]⟩ rfl (Tri.ret (Fin.block_ret (Fin.then_ret ?_)))
     obtain rfl := Option.some.inj h
     refine Fin.keepS ⟨[(2, _), (3, _)], [(101, _)]⟩ rfl (Fin.result' [.agg (eFrc x_17), .one (.i 281)] (.inl rfl) rfl (.cons (.agg tyAgg27 rfl rfl rfl rfl) (.cons (.tmp rfl) .nil)) ⟨rfl, rfl⟩)
    ·refine Tri.skip (Fin.block_normal (Fin.keepS ⟨[(2, _), (7, _)], [(101, _), (102, _)]⟩ rfl (Fin.then (Tri.seq (Tri.regionL ?_)))))
     refine Oc (lp tyAgg27) (Oc (op_store_p tyAgg27 rfl rfl rfl rfl (Nat.le_of_ble_eq_true rfl) rfl) (Oc oa ?_))
     refine OpsL.nilS ⟨[(2, _), (3, I 0)], [(101, .box 27 (eFrc x_8))]⟩ rfl (Tri.ret ?_)
     obtain rfl := Option.some.inj h
     refine Fin.keepS ⟨[(2, _), (3, _)], [(101, _)]⟩ rfl (Fin.result' [.agg (eFrc x_8), .one (.i 0)] (.inl rfl) rfl (.cons (.agg tyAgg27 rfl rfl rfl rfl) (.cons (.tmp rfl) .nil)) ⟨rfl, rfl⟩)
def unit_isRight_S (F : Nat) (l0 : List Quantity) : Option Bool :=
 Option.bind (iter F (fun x_1 => if (decide (x_1 < (l0.length : Int))) = true then ((idx? l0 x_1).bind fun x_2 => (q_Good_S F x_2.V).bind fun x_3 => (gcall (!(!x_3)) (unit_Valid_S F x_2.U)).bind fun x_4 => if ((!x_3) || (!x_4)) = true then (some (.inr (.inr false))) else (some (.inl (IntKind.i64.wrap (x_1 + 1))))) else (some (.inr (.inl ())))) 0) (alt2 (fun _ => some true) (fun y => some y))
theorem unit_isRight_spec {F : Nat} {l0 : List Quantity} {r : Bool} (h : unit_isRight_S F l0 = some r) : Meets Tryz.prog (tabs mx) 54 [] [.one (.sl 39 (l0.map eQuantity))] (Is [] (.b (.one (.bool r)))) := by
 unfold unit_isRight_S at h
 refine Meets.intro 22 Tryz.func54 Tryz.ntmps54 rfl (by simp) fun E => ?_
 show Tri _ E ⟨22, [], []⟩ _ ⟨[(0, .b (.one (.sl 39 (l0.map eQuantity))))], []⟩ _
 refine Tri.seq (Tri.regionL ?_)
 refine Oc oa (OpsL.nilS ⟨[(0, .b (.one (.sl 39 (l0.map eQuantity))))], []⟩ rfl ?_)
 obtain ⟨v1, h2, h⟩ := bnd h
 refine Tri.seqJ (v := v1) (fun (_ : Unit) => ⟨[], []⟩) (fun z => .inl z) ?_ ?_
 ·refine Tri.seq (Tri.regionL ?_)
  refine Oc om (Oc (op_len_e' und120 rfl (List.length_map _)) (Oc om ?_))
  refine OpsL.nilS ⟨[(5, .b (.one (.sl 39 (l0.map eQuantity)))), (6, I (l0.length : Int)), (7, I 0)], []⟩ rfl (Tri.block (Tri.loopJ h2 (fun (x_1 : Int) => ⟨[(5, .b (.one (.sl 39 (l0.map eQuantity)))), (6, I (l0.length : Int)), (7, I x_1)], []⟩) [5, 6, 7] [] rfl ?_))
  rintro x_1 o3 h4 hy5
  refine Tri.seq (Tri.regionL ?_)
  refine Oc (op_lss rfl rfl) (OpsL.nilS ⟨[(5, _), (6, _), (7, _), (8, B (decide (x_1 < (l0.length : Int))))], []⟩ rfl (Tri.seq (Tri.ite h4 rfl (fun _ h4 => ?_) (fun _ h4 => ?_))))
  ·refine Tri.skip (Fin.keepS ⟨[(5, _), (6, _), (7, _)], []⟩ rfl (Fin.then (Tri.seq (Tri.block (Tri.seq (Tri.regionL ?_))))))
   obtain ⟨x_2, e6, h4⟩ := bnd h4
   refine Oc (op_index_e tySl120 (ix_lo e6) (ix_map (e := eQuantity) e6) rfl rfl) (Oc (op_load_e tyAgg31 rfl rfl rfl) (Oc (op_alloc (k := 101) tyZero31 rfl) (Oc (op_store_p tyAgg31 rfl rfl rfl rfl (Nat.le_of_ble_eq_true rfl) rfl) ?_)))
   refine OpsL.nilS ⟨[(4, Pt 101 0), (5, _), (6, _), (7, _)], [(101, .box 31 (eQuantity x_2))]⟩ rfl (Tri.seq (Tri.regionL ?_))
   refine Oc (op_field_p tyFld31_0 rfl rfl) (Oc (lp tyAgg27) ?_)
   obtain ⟨x_3, e7, h4⟩ := bnd h4
   refine Oc (op_call0 (q_Good_spec e7) goes62 rfl rfl) (Oc (op_not rfl) (Oc om ?_))
   refine OpsL.keepS ⟨[(4, _), (5, _), (6, _), (7, _), (15, B (!x_3))], [(101, _)]⟩ rfl (CgF (!(!x_3)) [] (fun g8 => trivial) (fun g8 => op_field_p tyFld31_1 rfl rfl) (CgF (!(!x_3)) [16] (fun g9 => ⟨g9, trivial⟩) (fun g9 => lp tyAgg29) ?_))
   obtain ⟨x_4, e11, h4⟩ := bnd h4
   refine CgF (!(!x_3)) [17] (fun g10 => ⟨g10, trivial⟩) (fun g10 => op_call0 (unit_Valid_spec (gc e11 g10)) goes32 rfl rfl) (CgF (!(!x_3)) [18] (fun g12 => ⟨g12, trivial⟩) (fun g12 => op_not rfl) (Oc (op_pick_or (fun e => by rw [e]; rfl) rfl rfl rfl rfl) (OpsL.nilS ⟨[(5, _), (6, _), (7, _), (20, B ((!x_3) || (!x_4)))], []⟩ rfl (Tri.ite h4 rfl (fun _ h4 => ?_) (fun _ h4 => ?_)))))
   ·refine Tri.seq (Tri.regionL ?_)
    refine Oc oa (OpsL.nilS ⟨[(2, B false)], []⟩ rfl (Tri.ret (Fin.block_ret (Fin.then_ret ?_))))
    obtain rfl := hy5 _ (Option.some.inj h4).symm
    refine Fin.then_ret (Fin.block_ret (Fin.then_ret ?_))
    obtain rfl := Option.some.inj h
    refine Fin.keepS ⟨[(2, _)], []⟩ rfl (Fin.result' [.one (.bool false)] (.inl rfl) rfl (.cons (.tmp rfl) .nil) ⟨rfl, rfl⟩)
   ·refine Tri.skip (Fin.block_normal (Fin.keepS ⟨[(5, _), (6, _), (7, _)], []⟩ rfl (Fin.then (Tri.regionL ?_))))
    refine Oc (op_add rfl rfl) (Oc om ?_)
    refine OpsL.nil ?_
    exact Fin.againJ [5, 6, 7] [] (IntKind.i64.wrap (x_1 + 1)) (Option.some.inj h4) rfl
  ·refine Tri.exit (Fin.then_exit ?_)
   obtain rfl := hy5 _ (Option.some.inj h4).symm
   refine Fin.then_exit (Fin.block_exit ?_)
   exact Fin.join [] [] () rfl rfl
 ·rintro _ hv
  subst v1
  refine Tri.seq (Tri.regionL ?_)
  refine Oc oa (OpsL.nilS ⟨[(2, B true)], []⟩ rfl (Tri.ret ?_))
  obtain rfl := Option.some.inj h
  refine Fin.keepS ⟨[(2, _)], []⟩ rfl (Fin.result' [.one (.bool true)] (.inl rfl) rfl (.cons (.tmp rfl) .nil) ⟨rfl, rfl⟩)
def unit_quantity_S (F : Nat) (v0 : Frc) (u0 : MUnit) : Option (Quantity × Int) :=
 (q_Good_S F v0).bind fun x_1 => if (!x_1) = true then (letN (⟨(⟨(⟨false, false, A16.zero⟩ : Big), (⟨false, false, A16.zero⟩ : Big)⟩ : Frc), (⟨0, 0, 0⟩ : MUnit)⟩ : Quantity) fun x_2 => some (x_2, 30)) else (some ((⟨v0, u0⟩ : Quantity), 0))
theorem unit_quantity_spec {F : Nat} {v0 : Frc} {u0 : MUnit} {r : Quantity × Int} (h : unit_quantity_S F v0 u0 = some r) : Meets Tryz.prog (tabs mx) 55 [] [.agg (eFrc v0), .agg (eMUnit u0)] (Is [] (.tup [.agg (eQuantity r.1), .one (.i r.2)])) := by
 unfold unit_quantity_S at h
 refine Meets.intro 13 Tryz.func55 Tryz.ntmps55 rfl (by simp) fun E => ?_
 show Tri _ E ⟨13, [], []⟩ _ ⟨[(0, .b (.agg (eFrc v0))), (1, .b (.agg (eMUnit u0)))], []⟩ _
 refine Tri.seq (Tri.regionL ?_)
 refine Oc (op_box (k := 101) rfl rfl) (Oc (op_box (k := 102) rfl rfl) (Oc (op_alloc (k := 103) tyZero31 rfl) (Oc oa ?_)))
 refine OpsL.nilS ⟨[(2, Pt 101 0), (3, Pt 102 0), (4, Pt 103 0)], [(101, .box 27 (eFrc v0)), (102, .box 29 (eMUnit u0)), (103, .box 31 (.bool false :: .bool false :: (eW A16.zero ++ (.bool false :: .bool false :: (eW A16.zero ++ ([.i 0, .i 0, .i 0]))))))]⟩ rfl (Tri.seq (Tri.seq (Tri.regionL ?_)))
 refine Oc (lp tyAgg27) ?_
 obtain ⟨x_1, e1, h⟩ := bnd h
 refine Oc (op_call0 (q_Good_spec e1) goes62 rfl rfl) (Oc (op_not rfl) ?_)
 refine OpsL.nilS ⟨[(2, _), (3, _), (4, _), (8, B (!x_1))], [(101, _), (102, _), (103, _)]⟩ rfl (Tri.ite h rfl (fun _ h => ?_) (fun _ h => ?_))
 ·refine Tri.seq (Tri.regionL ?_)
  refine OpsL.consA eQuantity h rfl (op_build tyBuild31 rfl rfl) (fun x_2 h => ?_)
  refine Oc (op_store_p tyAgg31 rfl rfl rfl rfl (Nat.le_of_ble_eq_true rfl) rfl) (Oc oa ?_)
  refine OpsL.nilS ⟨[(4, _), (5, I 30)], [(103, .box 31 (eQuantity x_2))]⟩ rfl (Tri.ret (Fin.then_ret ?_))
  obtain rfl := Option.some.inj h
  refine Fin.keepS ⟨[(4, _), (5, _)], [(103, _)]⟩ rfl (Fin.result' [.agg (eQuantity x_2), .one (.i 30)] (.inl rfl) rfl (.cons (.agg tyAgg31 rfl rfl rfl rfl) (.cons (.tmp rfl) .nil)) ⟨rfl, rfl⟩)
 ·refine Tri.skip (Fin.keepS ⟨[(2, _), (3, _), (4, _)], [(101, _), (102, _), (103, _)]⟩ rfl (Fin.then (Tri.seq (Tri.regionL ?_))))
  refine Oc (lp tyAgg27) (Oc (lp tyAgg29) (Oc (op_build tyBuild31 rfl rfl) (Oc (op_store_p tyAgg31 rfl rfl rfl rfl (Nat.le_of_ble_eq_true rfl) rfl) (Oc oa ?_))))
  refine OpsL.nilS ⟨[(4, _), (5, I 0)], [(103, .box 31 (eFrc v0 ++ (eMUnit u0)))]⟩ rfl (Tri.ret ?_)
  obtain rfl := Option.some.inj h
  refine Fin.keepS ⟨[(4, _), (5, _)], [(103, _)]⟩ rfl (Fin.result' [.agg (eFrc v0 ++ (eMUnit u0)), .one (.i 0)] (.inl rfl) rfl (.cons (.agg tyAgg31 rfl rfl rfl rfl) (.cons (.tmp rfl) .nil)) ⟨rfl, rfl⟩)
def unit_operation_do_S (F : Nat) (o0 : Oprn) (a0 : Quantity) (b0 : Quantity) : Option (Quantity × Int) :=
 (unit_isRight_S F [a0, b0]).bind fun x_1 => if (!x_1) = true then (letN (⟨(⟨(⟨false, false, A16.zero⟩ : Big), (⟨false, false, A16.zero⟩ : Big)⟩ : Frc), (⟨0, 0, 0⟩ : MUnit)⟩ : Quantity) fun x_2 => some (x_2, 1)) else (Option.bind (unitFn_S F o0.units a0.U b0.U) (un2 fun x_3 x_4 => if (decide (x_4 ≠ 0)) = true then (letN (⟨(⟨(⟨false, false, A16.zero⟩ : Big), (⟨false, false, A16.zero⟩ : Big)⟩ : Frc), (⟨0, 0, 0⟩ : MUnit)⟩ : Quantity) fun x_5 => some (x_5, x_4)) else ((numberFn_S F o0.numbers a0.V b0.V).bind fun x_6 => Option.bind (unit_quantity_S F x_6 x_3) (un2 fun x_7 x_8 => some (x_7, x_8)))))
theorem unit_operation_do_spec {F : Nat} {o0 : Oprn} {a0 : Quantity} {b0 : Quantity} {r : Quantity × Int} (h : unit_operation_do_S F o0 a0 b0 = some r) : Meets Tryz.prog (tabs mx) 88 [] [.agg (eOprn o0), .agg (eQuantity a0), .agg (eQuantity b0)] (Is [] (.tup [.agg (eQuantity r.1), .one (.i r.2)])) := by
 unfold unit_operation_do_S at h
 refine Meets.intro 41 Tryz.func88 Tryz.ntmps88 rfl (by simp) fun E => ?_
 show Tri _ E ⟨41, [], []⟩ _ ⟨[(0, .b (.agg (eOprn o0))), (1, .b (.agg (eQuantity a0))), (2, .b (.agg (eQuantity b0)))], []⟩ _
 refine Tri.seq (Tri.regionL ?_)
 refine Oc (op_box (k := 101) rfl rfl) (Oc (op_box (k := 102) rfl rfl) (Oc (op_box (k := 103) rfl rfl) (Oc (op_alloc (k := 104) tyZero31 rfl) (Oc oa ?_))))
 refine OpsL.nilS ⟨[(3, Pt 101 0), (4, Pt 102 0), (5, Pt 103 0), (6, Pt 104 0)], [(101, .box 113 (eOprn o0)), (102, .box 31 (eQuantity a0)), (103, .box 31 (eQuantity b0)), (104, .box 31 (.bool false :: .bool false :: (eW A16.zero ++ (.bool false :: .bool false :: (eW A16.zero ++ ([.i 0, .i 0, .i 0]))))))]⟩ rfl (Tri.seq (Tri.seq (Tri.regionL ?_)))
 refine Oc (lp tyAgg31) (Oc (lp tyAgg31) (Oc (op_buildSlice (k := 105) (es := [a0, b0].map eQuantity) tySl120 rfl rfl (uni_map fun _ => rfl) rfl (by decide) (by decide) rfl) ?_))
 obtain ⟨x_1, e1, h⟩ := bnd h
 refine Oc (op_callB (unit_isRight_spec e1) goes54 rfl CP.flat_bool) (Oc (op_not rfl) ?_)
 refine OpsL.nilS ⟨[(3, _), (4, _), (5, _), (6, _), (14, B (!x_1))], [(101, _), (102, _), (103, _), (104, _)]⟩ rfl (Tri.ite h rfl (fun _ h => ?_) (fun _ h => ?_))
 ·refine Tri.seq (Tri.regionL ?_)
  refine OpsL.consA eQuantity h rfl (op_build tyBuild31 rfl rfl) (fun x_2 h => ?_)
  refine Oc (op_store_p tyAgg31 rfl rfl rfl rfl (Nat.le_of_ble_eq_true rfl) rfl) (Oc oa ?_)
  refine OpsL.nilS ⟨[(6, _), (7, I 1)], [(104, .box 31 (eQuantity x_2))]⟩ rfl (Tri.ret (Fin.then_ret ?_))
  obtain rfl := Option.some.inj h
  refine Fin.keepS ⟨[(6, _), (7, _)], [(104, _)]⟩ rfl (Fin.result' [.agg (eQuantity x_2), .one (.i 1)] (.inl rfl) rfl (.cons (.agg tyAgg31 rfl rfl rfl rfl) (.cons (.tmp rfl) .nil)) ⟨rfl, rfl⟩)
 ·refine Tri.skip (Fin.keepS ⟨[(3, _), (4, _), (5, _), (6, _)], [(101, _), (102, _), (103, _), (104, _)]⟩ rfl (Fin.then (Tri.seq (Tri.regionL ?_))))
  refine Oc (op_field_p tyFld113_1 rfl rfl) (Oc (op_load_p1 tyOne54 rfl rfl rfl) (Oc (op_field_p tyFld31_1 rfl rfl) (Oc (lp tyAgg29) (Oc (op_field_p tyFld31_1 rfl rfl) (Oc (lp tyAgg29) ?_)))))
  refine OpsL.keepS ⟨[(3, _), (4, _), (5, _), (6, _), (18, .b (.one (.raw (.func (.func o0.units) #[] #[])))), (20, .b (.agg (eMUnit a0.U))), (22, .b (.agg (eMUnit b0.U)))], [(101, _), (102, _), (103, _), (104, _)]⟩ rfl ?_
  obtain ⟨⟨x_3, x_4⟩, e2, h⟩ := bnd h
  refine Oc (op_callv0 (unitFn_spec e2) (unitFn_goes e2) rfl rfl rfl) (Oc om (Oc (op_extract rfl rfl) (Oc (op_extract rfl rfl) (Oc (op_alloc (k := 106) tyZero29 rfl) (Oc (op_store_p tyAgg29 rfl rfl rfl rfl (Nat.le_of_ble_eq_true rfl) rfl) ?_)))))
  refine Oc oa (OpsL.nilS ⟨[(3, _), (4, _), (5, _), (6, _), (8, Pt 106 0), (9, I x_4)], [(101, _), (102, _), (103, _), (104, _), (106, .box 29 (eMUnit x_3))]⟩ rfl (Tri.seq (Tri.seq (Tri.regionL ?_))))
  refine Oc om (Oc (op_neq rfl rfl) ?_)
  refine OpsL.nilS ⟨[(3, _), (4, _), (5, _), (6, _), (8, _), (9, _), (27, B (decide (x_4 ≠ 0)))], [(101, _), (102, _), (103, _), (104, _), (106, _)]⟩ rfl (Tri.ite h rfl (fun _ h => ?_) (fun _ h => ?_))
  ·refine Tri.seq (Tri.regionL ?_)
   refine OpsL.consA eQuantity h rfl (op_build tyBuild31 rfl rfl) (fun x_5 h => ?_)
   refine Oc om (Oc (op_store_p tyAgg31 rfl rfl rfl rfl (Nat.le_of_ble_eq_true rfl) rfl) (Oc oa ?_))
   refine OpsL.nilS ⟨[(6, _), (7, I x_4)], [(104, .box 31 (eQuantity x_5))]⟩ rfl (Tri.ret (Fin.then_ret ?_))
   obtain rfl := Option.some.inj h
   refine Fin.keepS ⟨[(6, _), (7, _)], [(104, _)]⟩ rfl (Fin.result' [.agg (eQuantity x_5), .one (.i x_4)] (.inl rfl) rfl (.cons (.agg tyAgg31 rfl rfl rfl rfl) (.cons (.tmp rfl) .nil)) ⟨rfl, rfl⟩)
  ·refine Tri.skip (Fin.keepS ⟨[(3, _), (4, _), (5, _), (6, _), (8, _)], [(101, _), (102, _), (103, _), (104, _), (106, _)]⟩ rfl (Fin.then (Tri.seq ?_)))
   refine Tri.keepS ⟨[(3, _), (4, _), (5, _), (6, _), (8, _)], [(101, _), (102, _), (103, _), (104, _), (106, _)]⟩ rfl ?_
   obtain ⟨x_6, e3, h⟩ := bnd h
   obtain ⟨⟨x_7, x_8⟩, e4, h⟩ := bnd h
   refine Tri.regionY mixed 11 [Pt 101 0, .b (.one (.raw (.func (.func o0.numbers) #[] #[]))), Pt 102 0, .b (.agg (eFrc a0.V)), Pt 103 0, .b (.agg (eFrc b0.V)), .b (.agg (eFrc x_6)), .b (.agg (eMUnit x_3)), .tup [.agg (eQuantity x_7), .one (.i x_8)], .b (.agg (eQuantity x_7)), I x_8] [6, 7] [104] (s' := ⟨[(6, _), (7, I x_8)], [(104, .box 31 (eQuantity x_7))]⟩) rfl ⟨fun _ => .p (op_field_p tyFld113_0 rfl rfl), fun _ => .p (op_load_p1 tyOne49 rfl rfl rfl), fun _ => .p (op_field_p tyFld31_0 rfl rfl), fun _ => .p (lp tyAgg27), fun _ => .p (op_field_p tyFld31_0 rfl rfl), fun _ => .p (lp tyAgg27), fun _ => .p (op_callv0 (numberFn_spec e3) (numberFn_goes e3) rfl rfl rfl), fun _ => .p (lp tyAgg29), fun _ => .p (op_call0 (unit_quantity_spec e4) goes55 rfl rfl), fun _ => .p (op_extract rfl rfl), fun _ => .p (op_extract rfl rfl), trivial⟩ ⟨_, by exact .p (op_store_p tyAgg31 rfl rfl rfl rfl (Nat.le_of_ble_eq_true rfl) rfl), ⟨_, by exact .p oa, rfl⟩⟩ rfl (Tri.ret ?_)
   obtain rfl := Option.some.inj h
   refine Fin.keepS ⟨[(6, _), (7, _)], [(104, _)]⟩ rfl (Fin.result' [.agg (eQuantity x_7), .one (.i x_8)] (.inl rfl) rfl (.cons (.agg tyAgg31 rfl rfl rfl rfl) (.cons (.tmp rfl) .nil)) ⟨rfl, rfl⟩)
def unit_Times_S (F : Nat) (a0 : Quantity) (b0 : Quantity) : Option (Quantity × Int) :=
 Option.bind (unit_operation_do_S F (⟨25, 26⟩ : Oprn) a0 b0) (un2 fun x_1 x_2 => some (x_1, x_2))
theorem unit_Times_spec {F : Nat} {a0 : Quantity} {b0 : Quantity} {r : Quantity × Int} (h : unit_Times_S F a0 b0 = some r) : Meets Tryz.prog (tabs mx) 38 [] [.agg (eQuantity a0), .agg (eQuantity b0)] (Is [] (.tup [.agg (eQuantity r.1), .one (.i r.2)])) := by
 unfold unit_Times_S at h
 refine Meets.intro 12 Tryz.func38 Tryz.ntmps38 rfl (by simp) fun E => ?_
 show Tri _ E ⟨12, [], []⟩ _ ⟨[(0, .b (.agg (eQuantity a0))), (1, .b (.agg (eQuantity b0)))], []⟩ _
 refine Tri.seq (Tri.regionL ?_)
 refine Oc (op_box (k := 101) rfl rfl) (Oc (op_box (k := 102) rfl rfl) (Oc (op_alloc (k := 103) tyZero31 rfl) (Oc oa ?_)))
 refine OpsL.nilS ⟨[(2, Pt 101 0), (3, Pt 102 0), (4, Pt 103 0)], [(101, .box 31 (eQuantity a0)), (102, .box 31 (eQuantity b0)), (103, .box 31 (.bool false :: .bool false :: (eW A16.zero ++ (.bool false :: .bool false :: (eW A16.zero ++ ([.i 0, .i 0, .i 0]))))))]⟩ rfl (Tri.seq (Tri.regionL ?_))
 refine Oc (op_build tyBuild113 rfl rfl) (Oc (lp tyAgg31) (Oc (lp tyAgg31) ?_))
 obtain ⟨⟨x_1, x_2⟩, e1, h⟩ := bnd h
 refine Oc (op_call0 (unit_operation_do_spec e1) goes88 rfl rfl) (Oc (op_extract rfl rfl) ?_)
 refine OpsL.keepS ⟨[(4, _), (9, .tup [.agg (eQuantity x_1), .one (.i x_2)]), (10, .b (.agg (eQuantity x_1)))], [(103, _)]⟩ rfl (Oc (op_extract rfl rfl) (Oc (op_store_p tyAgg31 rfl rfl rfl rfl (Nat.le_of_ble_eq_true rfl) rfl) (Oc oa ?_)))
 refine OpsL.nilS ⟨[(4, _), (5, I x_2)], [(103, .box 31 (eQuantity x_1))]⟩ rfl (Tri.ret ?_)
 obtain rfl := Option.some.inj h
 refine Fin.keepS ⟨[(4, _), (5, _)], [(103, _)]⟩ rfl (Fin.result' [.agg (eQuantity x_1), .one (.i x_2)] (.inl rfl) rfl (.cons (.agg tyAgg31 rfl rfl rfl rfl) (.cons (.tmp rfl) .nil)) ⟨rfl, rfl⟩)
def unit_Read_S (F : Nat) (s0 : Str) : Option (Quantity × Int) :=
 Option.bind (strings_Cut_S F s0 [32]) (un3 fun x_1 x_2 x_3 => letN (⟨(⟨false, false, A16.zero⟩ : Big), (⟨false, false, A16.zero⟩ : Big)⟩ : Frc) fun x_4 => Option.bind (Option.bind (strings_Cut_S F x_1 [46]) (un3 fun x_7 x_8 x_9 => if x_9 = true then (Option.bind (unit_decimal_S F x_7 x_8) (un2 fun x_10 x_11 => some (x_10, x_11))) else (Option.bind (q_Parse_S F x_1) (un2 fun x_12 x_13 => some (x_12, x_13))))) (un2 fun x_5 e_6 => if (decide (e_6 ≠ 0)) = true then (letN (⟨(⟨(⟨false, false, A16.zero⟩ : Big), (⟨false, false, A16.zero⟩ : Big)⟩ : Frc), (⟨0, 0, 0⟩ : MUnit)⟩ : Quantity) fun x_14 => some (x_14, e_6)) else (if (!x_3) = true then (some ((⟨x_5, (⟨0, 0, 0⟩ : MUnit)⟩ : Quantity), 0)) else (Option.bind (unit_Parse_S F x_2) (un2 fun x_15 x_16 => if (decide (x_16 ≠ 0)) = true then (letN (⟨(⟨(⟨false, false, A16.zero⟩ : Big), (⟨false, false, A16.zero⟩ : Big)⟩ : Frc), (⟨0, 0, 0⟩ : MUnit)⟩ : Quantity) fun x_17 => some (x_17, x_16)) else (Option.bind (unit_Times_S F (⟨x_5, (⟨0, 0, 0⟩ : MUnit)⟩ : Quantity) x_15) (un2 fun x_18 x_19 => some (x_18, x_19))))))))
theorem unit_Read_spec {F : Nat} {s0 : Str} {r : Quantity × Int} (h : unit_Read_S F s0 = some r) : Meets Tryz.prog (tabs mx) 13 [] [.one (.str s0)] (Is [] (.tup [.agg (eQuantity r.1), .one (.i r.2)])) := by
 unfold unit_Read_S at h
 refine Meets.intro 62 Tryz.func13 Tryz.ntmps13 rfl (by simp) fun E => ?_
 show Tri _ E ⟨62, [], []⟩ _ ⟨[(0, .b (.one (.str s0)))], []⟩ _
 refine Tri.seq (Tri.regionL ?_)
 refine Oc (op_alloc (k := 101) tyZero31 rfl) (Oc oa ?_)
 refine OpsL.nilS ⟨[(0, .b (.one (.str s0))), (2, Pt 101 0)], [(101, .box 31 (.bool false :: .bool false :: (eW A16.zero ++ (.bool false :: .bool false :: (eW A16.zero ++ ([.i 0, .i 0, .i 0]))))))]⟩ rfl (Tri.seq (Tri.regionL ?_))
 refine Oc om ?_
 obtain ⟨⟨x_1, x_2, x_3⟩, e1, h⟩ := bnd h
 refine Oc (op_call0 (strings_Cut_spec e1) goes59 rfl rfl) (Oc om (Oc (op_extract rfl rfl) (Oc (op_extract rfl rfl) ?_)))
 refine OpsL.keepS ⟨[(2, _), (14, .tup [.one (.str x_1), .one (.str x_2), .one (.bool x_3)]), (17, .b (.one (.str x_1))), (18, .b (.one (.str x_2)))], [(101, _)]⟩ rfl (Oc (op_extract rfl rfl) (Oc oa (Oc oa (Oc oa ?_))))
 refine OpsL.nilS ⟨[(2, _), (4, .b (.one (.str x_1))), (5, .b (.one (.str x_2))), (6, B x_3)], [(101, _)]⟩ rfl (Tri.seq (Tri.regionL ?_))
 refine OpsL.consA eFrc h rfl (op_build tyBuild27 rfl rfl) (fun x_4 h => ?_)
 refine Oc (op_alloc (k := 102) tyZero27 rfl) (Oc (op_store_p tyAgg27 rfl rfl rfl rfl (Nat.le_of_ble_eq_true rfl) rfl) (Oc oa ?_))
 refine OpsL.nilS ⟨[(2, _), (4, _), (5, _), (6, _), (7, Pt 102 0)], [(101, _), (102, .box 27 (eFrc x_4))]⟩ rfl ?_
 obtain ⟨v2, h3, h⟩ := bnd h
 refine Tri.seqJ (v := v2) (un2 fun (x_5 : Frc) (e_6 : Int) => ⟨[(2, Pt 101 0), (5, .b (.one (.str x_2))), (6, B x_3), (7, Pt 102 0), (8, I e_6)], [(101, .box 31 (.bool false :: .bool false :: (eW A16.zero ++ (.bool false :: .bool false :: (eW A16.zero ++ ([.i 0, .i 0, .i 0])))))), (102, .box 27 (eFrc x_5))]⟩) (fun z => z) ?_ ?_
 ·refine Tri.seq (Tri.regionL ?_)
  refine Oc om ?_
  obtain ⟨⟨x_7, x_8, x_9⟩, e4, h3⟩ := bnd h3
  refine Oc (op_call0 (strings_Cut_spec e4) goes59 rfl rfl) (Oc om (Oc (op_extract rfl rfl) (Oc (op_extract rfl rfl) ?_)))
  refine OpsL.keepS ⟨[(2, _), (4, _), (5, _), (6, _), (7, _), (21, .tup [.one (.str x_7), .one (.str x_8), .one (.bool x_9)]), (24, .b (.one (.str x_7))), (25, .b (.one (.str x_8)))], [(101, _), (102, _)]⟩ rfl (Oc (op_extract rfl rfl) (Oc oa (Oc oa (Oc oa ?_))))
  refine OpsL.nilS ⟨[(2, _), (4, _), (5, _), (6, _), (7, _), (9, .b (.one (.str x_7))), (10, .b (.one (.str x_8))), (11, B x_9)], [(101, _), (102, _)]⟩ rfl (Tri.seq (Tri.regionL ?_))
  refine Oc om (OpsL.nilS ⟨[(2, _), (4, _), (5, _), (6, _), (7, _), (9, _), (10, _), (27, B x_9)], [(101, _), (102, _)]⟩ rfl (Tri.ite h3 rfl (fun _ h3 => ?_) (fun _ h3 => ?_)))
  ·refine Tri.regionL (Oc om (Oc om ?_))
   obtain ⟨⟨x_10, x_11⟩, e5, h3⟩ := bnd h3
   refine Oc (op_call0 (unit_decimal_spec e5) goes60 rfl rfl) (Oc om (Oc (op_extract rfl rfl) ?_))
   refine OpsL.keepS ⟨[(2, _), (5, _), (6, _), (7, _), (28, .tup [.agg (eFrc x_10), .one (.i x_11)]), (32, .b (.agg (eFrc x_10)))], [(101, _), (102, _)]⟩ rfl (Oc (op_extract rfl rfl) (Oc (op_store_p tyAgg27 rfl rfl rfl rfl (Nat.le_of_ble_eq_true rfl) rfl) (Oc oa ?_)))
   refine OpsL.nil ?_
   exact Fin.join [2, 5, 6, 7, 8] [101, 102] (x_10, x_11) (Option.some.inj h3) rfl
  ·refine Tri.regionL (Oc om ?_)
   obtain ⟨⟨x_12, x_13⟩, e6, h3⟩ := bnd h3
   refine Oc (op_call0 (q_Parse_spec e6) goes61 rfl rfl) (Oc om (Oc (op_extract rfl rfl) (Oc (op_extract rfl rfl) (Oc (op_store_p tyAgg27 rfl rfl rfl rfl (Nat.le_of_ble_eq_true rfl) rfl) (Oc oa ?_)))))
   refine OpsL.nil ?_
   exact Fin.join [2, 5, 6, 7, 8] [101, 102] (x_12, x_13) (Option.some.inj h3) rfl
 ·rintro ⟨x_5, e_6⟩ hv
  subst v2
  refine Tri.seq (Tri.regionL ?_)
  refine Oc (lp tyAgg27) (Oc (op_build tyBuild31 rfl rfl) (Oc (op_alloc (k := 103) tyZero31 rfl) (Oc (op_store_p tyAgg31 rfl rfl rfl rfl (Nat.le_of_ble_eq_true rfl) rfl) ?_)))
  refine OpsL.nilS ⟨[(2, _), (5, _), (6, _), (8, _), (12, Pt 103 0)], [(101, _), (103, .box 31 (eFrc x_5 ++ ([.i 0, .i 0, .i 0])))]⟩ rfl (Tri.seq (Tri.seq (Tri.regionL ?_)))
  refine Oc om (Oc (op_neq rfl rfl) ?_)
  refine OpsL.nilS ⟨[(2, _), (5, _), (6, _), (8, _), (12, _), (42, B (decide (e_6 ≠ 0)))], [(101, _), (103, _)]⟩ rfl (Tri.ite h rfl (fun _ h => ?_) (fun _ h => ?_))
  ·refine Tri.seq (Tri.regionL ?_)
   refine OpsL.consA eQuantity h rfl (op_build tyBuild31 rfl rfl) (fun x_14 h => ?_)
   refine Oc om (Oc (op_store_p tyAgg31 rfl rfl rfl rfl (Nat.le_of_ble_eq_true rfl) rfl) (Oc oa ?_))
   refine OpsL.nilS ⟨[(2, _), (3, I e_6)], [(101, .box 31 (eQuantity x_14))]⟩ rfl (Tri.ret (Fin.then_ret ?_))
   obtain rfl := Option.some.inj h
   refine Fin.keepS ⟨[(2, _), (3, _)], [(101, _)]⟩ rfl (Fin.result' [.agg (eQuantity x_14), .one (.i e_6)] (.inl rfl) rfl (.cons (.agg tyAgg31 rfl rfl rfl rfl) (.cons (.tmp rfl) .nil)) ⟨rfl, rfl⟩)
  ·refine Tri.skip (Fin.keepS ⟨[(2, _), (5, _), (6, _), (12, _)], [(101, _), (103, _)]⟩ rfl (Fin.then (Tri.seq (Tri.seq (Tri.regionL ?_)))))
   refine Oc om (Oc (op_not rfl) ?_)
   refine OpsL.nilS ⟨[(2, _), (5, _), (12, _), (46, B (!x_3))], [(101, _), (103, _)]⟩ rfl (Tri.ite h rfl (fun _ h => ?_) (fun _ h => ?_))
   ·refine Tri.seq (Tri.regionL ?_)
    refine Oc (lp tyAgg31) (Oc (op_store_p tyAgg31 rfl rfl rfl rfl (Nat.le_of_ble_eq_true rfl) rfl) (Oc oa ?_))
    refine OpsL.nilS ⟨[(2, _), (3, I 0)], [(101, .box 31 (eFrc x_5 ++ ([.i 0, .i 0, .i 0])))]⟩ rfl (Tri.ret (Fin.then_ret ?_))
    obtain rfl := Option.some.inj h
    refine Fin.keepS ⟨[(2, _), (3, _)], [(101, _)]⟩ rfl (Fin.result' [.agg (eFrc x_5 ++ ([.i 0, .i 0, .i 0])), .one (.i 0)] (.inl rfl) rfl (.cons (.agg tyAgg31 rfl rfl rfl rfl) (.cons (.tmp rfl) .nil)) ⟨rfl, rfl⟩)
   ·refine Tri.skip (Fin.keepS ⟨[(2, _), (5, _), (12, _)], [(101, _), (103, _)]⟩ rfl (Fin.then (Tri.seq (Tri.regionL ?_))))
    refine Oc om ?_
    obtain ⟨⟨x_15, x_16⟩, e7, h⟩ := bnd h
    refine Oc (op_call0 (unit_Parse_spec e7) goes17 rfl rfl) (Oc om (Oc (op_extract rfl rfl) (Oc (op_extract rfl rfl) ?_)))
    refine OpsL.keepS ⟨[(2, _), (12, _), (51, .b (.agg (eQuantity x_15))), (52, I x_16)], [(101, _), (103, _)]⟩ rfl (Oc (op_alloc (k := 104) tyZero31 rfl) (Oc (op_store_p tyAgg31 rfl rfl rfl rfl (Nat.le_of_ble_eq_true rfl) rfl) (Oc oa ?_)))
    refine OpsL.nilS ⟨[(2, _), (8, I x_16), (12, _), (13, Pt 104 0)], [(101, _), (103, _), (104, .box 31 (eQuantity x_15))]⟩ rfl (Tri.seq (Tri.seq (Tri.regionL ?_)))
    refine Oc om (Oc (op_neq rfl rfl) ?_)
    refine OpsL.nilS ⟨[(2, _), (8, _), (12, _), (13, _), (54, B (decide (x_16 ≠ 0)))], [(101, _), (103, _), (104, _)]⟩ rfl (Tri.ite h rfl (fun _ h => ?_) (fun _ h => ?_))
    ·refine Tri.seq (Tri.regionL ?_)
     refine OpsL.consA eQuantity h rfl (op_build tyBuild31 rfl rfl) (fun x_17 h => ?_)
     refine Oc om (Oc (op_store_p tyAgg31 rfl rfl rfl rfl (Nat.le_of_ble_eq_true rfl) rfl) (Oc oa ?_))
     refine OpsL.nilS ⟨[(2, _), (3, I x_16)], [(101, .box 31 (eQuantity x_17))]⟩ rfl (Tri.ret (Fin.then_ret ?_))
     obtain rfl := Option.some.inj h
     refine Fin.keepS ⟨[(2, _), (3, _)], [(101, _)]⟩ rfl (Fin.result' [.agg (eQuantity x_17), .one (.i x_16)] (.inl rfl) rfl (.cons (.agg tyAgg31 rfl rfl rfl rfl) (.cons (.tmp rfl) .nil)) ⟨rfl, rfl⟩)
    ·refine Tri.skip (Fin.keepS ⟨[(2, _), (12, _), (13, _)], [(101, _), (103, _), (104, _)]⟩ rfl (Fin.then (Tri.seq (Tri.regionL ?_))))
     refine Oc (lp tyAgg31) (Oc (lp tyAgg31) ?_)
     obtain ⟨⟨x_18, x_19⟩, e8, h⟩ := bnd h
     refine Oc (op_call0 (unit_Times_spec e8) goes38 rfl rfl) (Oc (op_extract rfl rfl) (Oc (op_extract rfl rfl) (Oc (op_store_p tyAgg31 rfl rfl rfl rfl (Nat.le_of_ble_eq_true rfl) rfl) (Oc oa ?_))))
     refine OpsL.nilS ⟨[(2, _), (3, I x_19)], [(101, .box 31 (eQuantity x_18))]⟩ rfl (Tri.ret ?_)
     obtain rfl := Option.some.inj h
     refine Fin.keepS ⟨[(2, _), (3, _)], [(101, _)]⟩ rfl (Fin.result' [.agg (eQuantity x_18), .one (.i x_19)] (.inl rfl) rfl (.cons (.agg tyAgg31 rfl rfl rfl rfl) (.cons (.tmp rfl) .nil)) ⟨rfl, rfl⟩)
def skewbacklaw11_reads_S (F : Nat) (s0 : Str) (want0 : Quantity) : Option Bool :=
 Option.bind (unit_Read_S F s0) (un2 fun x_1 x_2 => some ((decide (x_1 = want0)) && (decide (x_2 = 0))))
theorem skewbacklaw11_reads_spec {F : Nat} {s0 : Str} {want0 : Quantity} {r : Bool} (h : skewbacklaw11_reads_S F s0 want0 = some r) : Meets Tryz.prog (tabs mx) 51 [] [.one (.str s0), .agg (eQuantity want0)] (Is [] (.b (.one (.bool r)))) := by
 unfold skewbacklaw11_reads_S at h
 refine Meets.intro 19 Tryz.func51 Tryz.ntmps51 rfl (by simp) fun E => ?_
 show Tri _ E ⟨19, [], []⟩ _ ⟨[(0, .b (.one (.str s0))), (1, .b (.agg (eQuantity want0)))], []⟩ _
 refine Tri.seq (Tri.regionL ?_)
 refine Oc (op_box (k := 101) rfl rfl) (Oc oa ?_)
 refine OpsL.nilS ⟨[(0, .b (.one (.str s0))), (3, Pt 101 0)], [(101, .box 31 (eQuantity want0))]⟩ rfl (Tri.seq (Tri.regionL ?_))
 refine Oc om ?_
 obtain ⟨⟨x_1, x_2⟩, e1, h⟩ := bnd h
 refine Oc (op_call0 (unit_Read_spec e1) goes13 rfl rfl) (Oc om (Oc (op_extract rfl rfl) (Oc (op_extract rfl rfl) ?_)))
 refine OpsL.keepS ⟨[(3, _), (10, .b (.agg (eQuantity x_1))), (11, I x_2)], [(101, _)]⟩ rfl (Oc (op_alloc (k := 102) tyZero31 rfl) (Oc (op_store_p tyAgg31 rfl rfl rfl rfl (Nat.le_of_ble_eq_true rfl) rfl) (Oc oa ?_)))
 refine OpsL.nilS ⟨[(3, _), (5, Pt 102 0), (6, I x_2)], [(101, _), (102, .box 31 (eQuantity x_1))]⟩ rfl (Tri.seq (Tri.regionL ?_))
 refine Oc (lp tyAgg31) (Oc (lp tyAgg31) (Oc (op_eql_agg (eqAgg31 x_1 want0) rfl rfl) (Oc om ?_)))
 refine CgT (decide (x_1 = want0)) [] (fun g2 => trivial) (fun g2 => om) (CgT (decide (x_1 = want0)) [16] (fun g3 => by exact ⟨g3, trivial⟩) (fun g3 => op_eql rfl rfl) (Oc (op_pick_and (fun e => e) rfl rfl rfl rfl) (Oc oa ?_)))
 refine OpsL.nilS ⟨[(4, B ((decide (x_1 = want0)) && (decide (x_2 = 0))))], []⟩ rfl (Tri.ret ?_)
 obtain rfl := Option.some.inj h
 refine Fin.keepS ⟨[(4, _)], []⟩ rfl (Fin.result' [.one (.bool ((decide (x_1 = want0)) && (decide (x_2 = 0))))] (.inl rfl) rfl (.cons (.tmp rfl) .nil) ⟨rfl, rfl⟩)
def slices_Reverse_S (F : Nat) (s0 : List Str) : Option (List Str) :=
 letN (IntKind.i64.wrap ((s0.length : Int) - 1)) fun x_1 => Option.bind (iter F (un3 fun s_2 i_3 j_4 => if (decide (i_3 < j_4)) = true then ((idx? s_2 j_4).bind fun x_6 => (idx? s_2 i_3).bind fun x_7 => (idx? s_2 i_3).bind fun x_8 => (idx? (s_2.set (i_3 : Int).toNat x_6) j_4).bind fun x_9 => some (.inl ((s_2.set (i_3 : Int).toNat x_6).set (j_4 : Int).toNat x_7, IntKind.i64.wrap (i_3 + 1), IntKind.i64.wrap (j_4 - 1)))) else (some (.inr s_2))) (s0, 0, x_1)) (fun y_5 => some y_5)
theorem slices_Reverse_spec {F : Nat} {s0 : List Str} {r : (List Str)} (h : slices_Reverse_S F s0 = some r) : Meets Tryz.prog (tabs mx) 127 [(1, .frow 9 1 (s0.map eS))] [.row 1] (Is [(1, .frow 9 1 (r.map eS))] (.tup [])) := by
 unfold slices_Reverse_S at h
 refine Meets.intro 28 Tryz.func127 Tryz.ntmps127 rfl (by simp) fun E => ?_
 show Tri _ E ⟨28, [1], [1]⟩ _ ⟨[(0, .b (.row 1))], [(1, .frow 9 1 (s0.map eS))]⟩ _
 refine Tri.unF 1 rfl (Tri.seq (Tri.regionL ?_))
 refine Oc om (Oc (op_len_r' und110 rfl rfl (List.length_map _)) ?_)
 refine OpsL.consI .i64 h rfl (op_sub rfl rfl) (fun x_1 h => ?_)
 refine Oc oa (Oc oa ?_)
 refine OpsL.nilS ⟨[(0, .b (.row 1)), (2, I 0), (3, I x_1)], [(1, .row 9 1 (s0.map eS))]⟩ rfl (Tri.block ?_)
 obtain ⟨v1, h2, h⟩ := bnd h
 refine Tri.loopJ h2 (un3 fun (s_2 : List Str) (i_3 : Int) (j_4 : Int) => ⟨[(0, .b (.row 1)), (2, I i_3), (3, I j_4)], [(1, .row 9 1 (s_2.map eS))]⟩) [0, 2, 3] [1] rfl ?_
 rintro ⟨s_2, i_3, j_4⟩ o3 h4 hy5
 refine Tri.seq (Tri.seq (Tri.regionL ?_))
 refine Oc om (Oc om (Oc (op_lss rfl rfl) ?_))
 refine OpsL.nilS ⟨[(0, _), (2, _), (3, _), (9, B (decide (i_3 < j_4)))], [(1, _)]⟩ rfl (Tri.ite h4 rfl (fun _ h4 => ?_) (fun _ h4 => ?_))
 ·refine Tri.skip (Fin.keepS ⟨[(0, _), (2, _), (3, _)], [(1, _)]⟩ rfl (Fin.then (Tri.seq (Tri.block ?_))))
  refine Tri.keepS ⟨[(0, _), (2, _), (3, _)], [(1, _)]⟩ rfl ?_
  obtain ⟨x_6, e6, h4⟩ := bnd h4
  obtain ⟨x_7, e7, h4⟩ := bnd h4
  obtain ⟨x_8, e8, h4⟩ := bnd h4
  obtain ⟨x_9, e9, h4⟩ := bnd h4
  refine Tri.regionWF mixed [false, false, false, false, false, false, false, false, false, false, false, false, false, true, false, true] [.b (.row 1), I i_3, .b (.row 1), I j_4, .b (.row 1), I j_4, .b (.rptr 1 ((j_4 : Int).toNat * 1)), .b (.one (.str x_6)), .b (.row 1), I i_3, .b (.rptr 1 ((i_3 : Int).toNat * 1)), .b (.one (.str x_7)), .b (.rptr 1 ((i_3 : Int).toNat * 1)), B true, .b (.rptr 1 ((j_4 : Int).toNat * 1)), B true] [⟨[false, false, false, false, false, false, false, false, false, false, false, false, false, false, false, false], [(0, .b (.row 1)), (2, I i_3), (3, I j_4)], [(1, .row 9 1 (s_2.map eS))], [true, true, true, true, true, true, true, true, true, true, true, true, true, true, true, true], []⟩, ⟨[false, false, false, false, false, false, false, false, false, false, false, false, false, true, false, false], [(0, .b (.row 1)), (2, I i_3), (3, I j_4)], [(1, .row 9 1 ((s_2.set (i_3 : Int).toNat x_6).map eS))], [true, true, true, true, true, true, true, true, true, true, true, true, true, true, true, true], [0, 1, 4, 5, 6, 7, 8, 9, 10, 11, 12, 13]⟩, ⟨[false, false, false, false, false, false, false, false, false, false, false, false, false, true, false, true], [(0, .b (.row 1)), (2, I i_3), (3, I j_4)], [(1, .row 9 1 (((s_2.set (i_3 : Int).toNat x_6).set (j_4 : Int).toNat x_7).map eS))], [true, true, true, true, true, true, true, true, true, true, true, true, true, true, true, true], [0, 1, 2, 3, 4, 5, 6, 7, 8, 9, 10, 11, 12, 13, 14, 15]⟩] rfl (⟨by kernel_rfl, ⟨⟨.b (.row 1), fun _ => rfl, fun _ => .p (by exact op_move rfl)⟩, ⟨I i_3, fun _ => rfl, fun _ => .p (by exact op_move rfl)⟩, ⟨.b (.row 1), fun _ => rfl, fun _ => .p (by exact op_move rfl)⟩, ⟨I j_4, fun _ => rfl, fun _ => .p (by exact op_move rfl)⟩, ⟨.b (.row 1), fun _ => rfl, fun _ => .p (by exact op_move rfl)⟩, ⟨I j_4, fun _ => rfl, fun _ => .p (by exact op_move rfl)⟩, ⟨.b (.rptr 1 ((j_4 : Int).toNat * 1)), fun _ => rfl, fun _ => .p (by exact op_index_r tySl110 (ix_lo e6) (ix_lt' e6) rfl rfl rfl rfl)⟩, ⟨.b (.one (.str x_6)), fun _ => rfl, fun _ => .p (by exact op_load_r1 (i := (j_4 : Int).toNat) (f := 0) tyOne9 rfl rfl rfl (ix_map (e := eS) e6) rfl)⟩, ⟨.b (.row 1), fun _ => rfl, fun _ => .p (by exact op_move rfl)⟩, ⟨I i_3, fun _ => rfl, fun _ => .p (by exact op_move rfl)⟩, ⟨.b (.rptr 1 ((i_3 : Int).toNat * 1)), fun _ => rfl, fun _ => .p (by exact op_index_r tySl110 (ix_lo e7) (ix_lt' e7) rfl rfl rfl rfl)⟩, ⟨.b (.one (.str x_7)), fun _ => rfl, fun _ => .p (by exact op_load_r1 (i := (i_3 : Int).toNat) (f := 0) tyOne9 rfl rfl rfl (ix_map (e := eS) e7) rfl)⟩, ⟨.b (.rptr 1 ((i_3 : Int).toNat * 1)), fun _ => rfl, fun _ => .p (by exact op_index_r tySl110 (ix_lo e8) (ix_lt' e8) rfl rfl rfl rfl)⟩, ⟨_, none, .b (.one .any), rfl, (fun e => by simp at e), rfl, rfl, fun _ => .toO [1] (by exact .p (by exact op_store_r1 (i := (i_3 : Int).toNat) tyOne9 rfl rfl rfl rfl (ix_lt e8) (map_set _ _ _ _))) (by exact rfl)⟩, trivial, trivial, trivial⟩, ⟨by kernel_rfl, ⟨trivial, trivial, ⟨.b (.row 1), fun _ => rfl, fun _ => .p (by exact op_move rfl)⟩, ⟨I j_4, fun _ => rfl, fun _ => .p (by exact op_move rfl)⟩, trivial, trivial, trivial, trivial, trivial, trivial, trivial, trivial, trivial, trivial, ⟨.b (.rptr 1 ((j_4 : Int).toNat * 1)), fun _ => rfl, fun _ => .p (by exact op_index_r tySl110 (ix_lo e9) (ix_lt' e9) rfl rfl rfl rfl)⟩, ⟨_, none, .b (.one .any), rfl, (fun e => by simp at e), rfl, rfl, fun _ => .toO [1] (by exact .p (by exact op_store_r1 (i := (j_4 : Int).toNat) tyOne9 rfl rfl rfl rfl (ix_lt e9) (map_set _ _ _ _))) (by exact rfl)⟩, trivial⟩, ⟨by kernel_rfl, ⟨trivial, trivial, trivial, trivial, trivial, trivial, trivial, trivial, trivial, trivial, trivial, trivial, trivial, trivial, trivial, trivial, trivial⟩, trivial⟩⟩⟩) rfl rfl rfl [0, 2, 3] [1] (s' := ⟨[(0, _), (2, _), (3, _)], [(1, .row 9 1 (((s_2.set (i_3 : Int).toNat x_6).set (j_4 : Int).toNat x_7).map eS))]⟩) rfl ?_
  refine Fin.block_normal (Fin.keepS ⟨[(0, _), (2, _), (3, _)], [(1, _)]⟩ rfl (Fin.then (Tri.regionL ?_)))
  refine Oc om (Oc (op_add rfl rfl) (Oc om (Oc (op_sub rfl rfl) (Oc oa (Oc oa ?_)))))
  refine OpsL.nil ?_
  exact Fin.againJ [0, 2, 3] [1] ((s_2.set (i_3 : Int).toNat x_6).set (j_4 : Int).toNat x_7, IntKind.i64.wrap (i_3 + 1), IntKind.i64.wrap (j_4 - 1)) (Option.some.inj h4) rfl
 ·refine Tri.exit (Fin.then_exit ?_)
  obtain rfl := hy5 _ (Option.some.inj h4).symm
  refine Fin.then_exit (Fin.block_exit ?_)
  obtain rfl := Option.some.inj h
  refine Fin.keepS ⟨[], [(1, _)]⟩ rfl (Fin.toF 1 rfl (Fin.keepS ⟨[], [(1, .frow 9 1 (s_2.map eS))]⟩ rfl ?_))
  exact Fin.result [] (.inr rfl) rfl (.nil) ⟨rfl, rfl⟩
def w_Text_S (F : Nat) (x0 : Big) : Option Str :=
 (w_good_S F [x0]).bind fun x_1 => if (!x_1) = true then (some []) else (Option.bind (iter F (un2 fun parts_3 w_4 => Option.bind (w_short_S F w_4 1000000000) (un2 fun x_6 x_7 => (strconv_Itoa_S F (IntKind.i64.wrap x_7)).bind fun x_8 => if (decide (x_6 = A16.zero)) = true then ((app? parts_3 [x_8]).bind fun x_9 => some (.inr x_9)) else (letN (IntKind.i64.wrap (9 - (x_8.length : Int))) fun x_10 => (strings_Repeat_S F [48] x_10).bind fun x_11 => (app? x_11 x_8).bind fun x_12 => (app? parts_3 [x_12]).bind fun x_13 => some (.inl (x_13, x_6))))) ([], x0.W)) (fun parts_2 => Option.bind (if x0.Neg = true then ((app? parts_2 [[45]]).bind fun x_15 => some x_15) else (some parts_2)) (fun parts_14 => (slices_Reverse_S F parts_14).bind fun x_16 => (strings_Join_S F x_16 []).bind fun x_17 => some x_17)))
theorem w_Text_spec {F : Nat} {x0 : Big} {r : Str} (h : w_Text_S F x0 = some r) : Meets Tryz.prog (tabs mx) 64 [] [.agg (eBig x0)] (Is [] (.b (.one (.str r)))) := by
 unfold w_Text_S at h
 refine Meets.intro 49 Tryz.func64 Tryz.ntmps64 rfl (by simp) fun E => ?_
 show Tri _ E ⟨49, [], []⟩ _ ⟨[(0, .b (.agg (eBig x0)))], []⟩ _
 refine Tri.seq (Tri.regionL ?_)
 refine Oc (op_box (k := 101) rfl rfl) (Oc oa ?_)
 refine OpsL.nilS ⟨[(1, Pt 101 0)], [(101, .box 25 (eBig x0))]⟩ rfl (Tri.seq (Tri.seq (Tri.regionL ?_)))
 refine Oc (lp tyAgg25) (Oc (op_buildSlice (k := 102) (es := [x0].map eBig) tySl170 rfl rfl (uni_map fun _ => rfl) rfl (by decide) (by decide) rfl) ?_)
 obtain ⟨x_1, e1, h⟩ := bnd h
 refine Oc (op_callB (w_good_spec e1) goes124 rfl CP.flat_bool) (Oc (op_not rfl) ?_)
 refine OpsL.nilS ⟨[(1, _), (11, B (!x_1))], [(101, _)]⟩ rfl (Tri.ite h rfl (fun _ h => ?_) (fun _ h => ?_))
 ·refine Tri.seq (Tri.regionL ?_)
  refine Oc oa (OpsL.nilS ⟨[(2, .b (.one (.str [])))], []⟩ rfl (Tri.ret (Fin.then_ret ?_)))
  obtain rfl := Option.some.inj h
  refine Fin.keepS ⟨[(2, _)], []⟩ rfl (Fin.result' [.one (.str [])] (.inl rfl) rfl (.cons (.tmp rfl) .nil) ⟨rfl, rfl⟩)
 ·refine Tri.skip (Fin.keepS ⟨[(1, _)], [(101, _)]⟩ rfl (Fin.then (Tri.seq (Tri.regionL ?_))))
  refine Oc oa (OpsL.nilS ⟨[(1, _), (3, .b (.one (.nil)))], [(101, _)]⟩ rfl ?_)
  obtain ⟨v2, h3, h⟩ := bnd h
  refine Tri.seqJ (v := v2) (fun (parts_2 : List Str) => ⟨[(1, Pt 101 0), (3, .b (.row 108))], [(101, .box 25 (eBig x0)), (108, .row 9 1 (parts_2.map eS))]⟩) (fun z => z) ?_ ?_
  ·refine Tri.seq (Tri.regionL ?_)
   refine Oc (op_field_p tyFld25_2 rfl rfl) (Oc (lp tyAgg23) (Oc (op_alloc (k := 103) tyZero23 rfl) (Oc (op_store_p tyAgg23 rfl rfl rfl rfl (Nat.le_of_ble_eq_true rfl) rfl) ?_)))
   refine OpsL.nilS ⟨[(1, _), (3, _), (4, Pt 103 0)], [(101, _), (103, .box 23 (eW x0.W))]⟩ rfl (Tri.block (Tri.nilrow 3 108 1 9 rfl (by decide) rfl (Tri.loopJ h3 (un2 fun (parts_3 : List Str) (w_4 : A16) => ⟨[(1, Pt 101 0), (3, .b (.row 108)), (4, Pt 103 0)], [(101, .box 25 (eBig x0)), (103, .box 23 (eW w_4)), (108, .row 9 1 (parts_3.map eS))]⟩) [1, 3, 4] [101, 103, 108] rfl ?_)))
   rintro ⟨parts_3, w_4⟩ o4 h5 hy6
   refine Tri.seq (Tri.block (Tri.seq (Tri.regionL ?_)))
   refine Oc (lp tyAgg23) ?_
   obtain ⟨⟨x_6, x_7⟩, e7, h5⟩ := bnd h5
   refine Oc (op_call0 (w_short_spec e7) goes125 rfl rfl) (Oc om (Oc (op_extract rfl rfl) (Oc (op_extract rfl rfl) ?_)))
   refine OpsL.keepS ⟨[(1, _), (3, _), (4, _), (17, .b (.agg (eW x_6))), (18, .b (.one (.int .u32 x_7)))], [(101, _), (103, _), (108, _)]⟩ rfl (Oc (op_alloc (k := 109) tyZero23 rfl) (Oc (op_store_p tyAgg23 rfl rfl rfl rfl (Nat.le_of_ble_eq_true rfl) rfl) (Oc oa ?_)))
   refine OpsL.nilS ⟨[(1, _), (3, _), (4, _), (5, Pt 109 0), (6, .b (.one (.int .u32 x_7)))], [(101, _), (103, _), (108, _), (109, .box 23 (eW x_6))]⟩ rfl (Tri.seq (Tri.regionL ?_))
   refine Oc om (Oc (op_conv_wrap undi22 undi3 rfl) ?_)
   obtain ⟨x_8, e8, h5⟩ := bnd h5
   refine Oc (op_call0 (strconv_Itoa_spec e8) goes72 rfl rfl) (Oc oa ?_)
   refine OpsL.nilS ⟨[(1, _), (3, _), (4, _), (5, _), (7, .b (.one (.str x_8)))], [(101, _), (103, _), (108, _), (109, _)]⟩ rfl (Tri.seq (Tri.seq (Tri.regionL ?_)))
   refine Oc (lp tyAgg23) (Oc (op_buildA tyBuild23 rfl rfl) (Oc (op_eql_agg (eqAgg23 x_6 A16.zero) rfl rfl) ?_))
   refine OpsL.nilS ⟨[(1, _), (3, _), (4, _), (5, _), (7, _), (24, B (decide (x_6 = A16.zero)))], [(101, _), (103, _), (108, _), (109, _)]⟩ rfl (Tri.ite h5 rfl (fun _ h5 => ?_) (fun _ h5 => ?_))
   ·refine Tri.seq (Tri.regionL ?_)
    refine Oc om (Oc om (Oc (op_buildSlice (k := 110) (es := [x_8].map eS) tySl110 rfl rfl (uni_map fun _ => rfl) rfl (by decide) (by decide) rfl) ?_))
    obtain ⟨x_9, e9, h5⟩ := bnd h5
    refine Oc (op_append_r tySl110 (app_b e9) (app_m e9) rfl rfl rfl rfl (app_map e9) rfl) (Oc oa ?_)
    refine OpsL.nilS ⟨[(1, _), (3, _)], [(101, _), (108, .row 9 1 (x_9.map eS))]⟩ rfl (Tri.exit (Fin.then_exit (Fin.block_exit_other (by decide) (Fin.then_exit ?_))))
    obtain rfl := hy6 _ (Option.some.inj h5).symm
    refine Fin.then_exit (Fin.block_exit ?_)
    exact Fin.join [1, 3] [101, 108] x_9 rfl rfl
   ·refine Tri.skip (Fin.keepS ⟨[(1, _), (3, _), (4, _), (5, _), (7, _)], [(101, _), (103, _), (108, _), (109, _)]⟩ rfl (Fin.then (Tri.seq (Tri.regionL ?_))))
    refine Oc om (Oc om (Oc (op_len_str und9 rfl) ?_))
    refine OpsL.consI .i64 h5 rfl (op_sub rfl rfl) (fun x_10 h5 => ?_)
    refine OpsL.keepS ⟨[(1, _), (3, _), (4, _), (5, _), (7, _), (29, .b (.row 108)), (32, I x_10)], [(101, _), (103, _), (108, _), (109, _)]⟩ rfl ?_
    obtain ⟨x_11, e10, h5⟩ := bnd h5
    refine Oc (op_call0 (strings_Repeat_spec e10) goes126 rfl rfl) (Oc om ?_)
    obtain ⟨x_12, e11, h5⟩ := bnd h5
    refine Oc (op_add_str2 e11 rfl rfl) (Oc (op_buildSlice (k := 111) (es := [x_12].map eS) tySl110 rfl rfl (uni_map fun _ => rfl) rfl (by decide) (by decide) rfl) ?_)
    obtain ⟨x_13, e12, h5⟩ := bnd h5
    refine Oc (op_append_r tySl110 (app_b e12) (app_m e12) rfl rfl rfl rfl (app_map e12) rfl) (Oc oa ?_)
    refine OpsL.nilS ⟨[(1, _), (3, _), (4, _), (5, _)], [(101, _), (103, _), (108, .row 9 1 (x_13.map eS)), (109, _)]⟩ rfl (Tri.regionL (Oc (lp tyAgg23) (Oc (op_store_p tyAgg23 rfl rfl rfl rfl (Nat.le_of_ble_eq_true rfl) rfl) ?_)))
    refine OpsL.nil (Fin.block_normal (Fin.keepS ⟨[(1, _), (3, _), (4, _)], [(101, _), (103, .box 23 (eW x_6)), (108, _)]⟩ rfl (Fin.then (Tri.seq (Tri.regionL ?_)))))
    refine Oc (lp tyAgg23) (OpsL.nilS ⟨[(1, _), (3, _), (39, .b (.agg (eW x_6)))], [(101, _), (108, _)]⟩ rfl (Tri.regionL (Oc (op_alloc (k := 112) tyZero23 rfl) (Oc (op_store_p tyAgg23 rfl rfl rfl rfl (Nat.le_of_ble_eq_true rfl) rfl) ?_))))
    refine OpsL.nil (Fin.keepS ⟨[(1, Pt 101 0), (3, .b (.row 108)), (4, Pt 112 0)], [(101, .box 25 (eBig x0)), (108, .row 9 1 (x_13.map eS)), (112, .box 23 (eW x_6))]⟩ rfl (Fin.rename 112 103 rfl (by decide) rfl ?_))
    exact Fin.againJ [1, 3, 4] [101, 103, 108] (x_13, x_6) (Option.some.inj h5) rfl
  ·rintro parts_2 hv
   subst v2
   obtain ⟨v13, h14, h⟩ := bnd h
   refine Tri.seqJ (v := v13) (fun (parts_14 : List Str) => ⟨[(3, .b (.row 108))], [(108, .row 9 1 (parts_14.map eS))]⟩) (fun z => z) ?_ ?_
   ·refine Tri.seq (Tri.regionL ?_)
    refine Oc (op_field_p tyFld25_1 rfl rfl) (Oc (op_load_p1 tyOne4 rfl rfl rfl) ?_)
    refine OpsL.nilS ⟨[(3, _), (41, B x0.Neg)], [(108, _)]⟩ rfl (Tri.ite h14 rfl (fun _ h14 => ?_) (fun _ h14 => ?_))
    ·refine Tri.regionL (Oc om (Oc (op_buildSlice (k := 113) (es := [[45]].map eS) tySl110 rfl rfl (uni_map fun _ => rfl) rfl (by decide) (by decide) rfl) ?_))
     obtain ⟨x_15, e15, h14⟩ := bnd h14
     refine Oc (op_append_r tySl110 (app_b e15) (app_m e15) rfl rfl rfl rfl (app_map e15) rfl) (Oc oa ?_)
     refine OpsL.nil ?_
     exact Fin.join [3] [108] x_15 (Option.some.inj h14) rfl
    ·refine Tri.skip ?_
     exact Fin.join [3] [108] parts_2 (Option.some.inj h14) rfl
   ·rintro parts_14 hv
    subst v13
    refine Tri.seq (Tri.regionL ?_)
    refine Oc om (OpsL.toF 108 rfl ?_)
    obtain ⟨x_16, e16, h⟩ := bnd h
    refine Oc (op_call (own_a := [(108, _)]) ((slices_Reverse_spec e16).sw 1 108) goes127 rfl ⟨rfl, trivial⟩ rfl rfl) (OpsL.unF 108 rfl (OpsL.nilS ⟨[(3, _)], [(108, .row 9 1 (x_16.map eS))]⟩ rfl (Tri.seq (Tri.regionL ?_))))
    refine Oc om ?_
    obtain ⟨x_17, e17, h⟩ := bnd h
    refine Oc (op_callB (strings_Join_spec e17) goes128 rfl CP.flat_str) (Oc oa ?_)
    refine OpsL.nilS ⟨[(2, .b (.one (.str x_17)))], []⟩ rfl (Tri.ret ?_)
    obtain rfl := Option.some.inj h
    refine Fin.keepS ⟨[(2, _)], []⟩ rfl (Fin.result' [.one (.str x_17)] (.inl rfl) rfl (.cons (.tmp rfl) .nil) ⟨rfl, rfl⟩)
def q_Text_S (F : Nat) (x0 : Frc) : Option Str :=
 (q_Good_S F x0).bind fun x_1 => if (!x_1) = true then (some []) else ((q_one_S F).bind fun x_2 => if (decide (x0.D = x_2)) = true then ((w_Text_S F x0.N).bind fun x_3 => some x_3) else ((w_Text_S F x0.N).bind fun x_4 => (app? x_4 [47]).bind fun x_5 => (w_Text_S F x0.D).bind fun x_6 => (app? x_5 x_6).bind fun x_7 => some x_7))
theorem q_Text_spec {F : Nat} {x0 : Frc} {r : Str} (h : q_Text_S F x0 = some r) : Meets Tryz.prog (tabs mx) 14 [] [.agg (eFrc x0)] (Is [] (.b (.one (.str r)))) := by
 unfold q_Text_S at h
 refine Meets.intro 23 Tryz.func14 Tryz.ntmps14 rfl (by simp) fun E => ?_
 show Tri _ E ⟨23, [], []⟩ _ ⟨[(0, .b (.agg (eFrc x0)))], []⟩ _
 refine Tri.seq (Tri.regionL ?_)
 refine Oc (op_box (k := 101) rfl rfl) (Oc oa ?_)
 refine OpsL.nilS ⟨[(1, Pt 101 0)], [(101, .box 27 (eFrc x0))]⟩ rfl (Tri.seq (Tri.block (Tri.seq (Tri.regionL ?_))))
 refine Oc (lp tyAgg27) ?_
 obtain ⟨x_1, e1, h⟩ := bnd h
 refine Oc (op_call0 (q_Good_spec e1) goes62 rfl rfl) (Oc (op_not rfl) (Oc oa ?_))
 refine OpsL.nilS ⟨[(1, _), (3, B (!x_1))], [(101, _)]⟩ rfl (Tri.ite h rfl (fun _ h => ?_) (fun _ h => ?_))
 ·refine Tri.seq (Tri.regionL ?_)
  refine Oc oa (OpsL.nilS ⟨[(2, .b (.one (.str [])))], []⟩ rfl (Tri.ret (Fin.block_ret (Fin.then_ret ?_))))
  obtain rfl := Option.some.inj h
  refine Fin.keepS ⟨[(2, _)], []⟩ rfl (Fin.result' [.one (.str [])] (.inl rfl) rfl (.cons (.tmp rfl) .nil) ⟨rfl, rfl⟩)
 ·refine Tri.seq (Tri.keepS ⟨[(1, _)], [(101, _)]⟩ rfl ?_)
  obtain ⟨x_2, e2, h⟩ := bnd h
  refine Tri.regionY mixed 5 [Pt 101 18, .b (.agg (eBig x0.D)), .b (.agg (eBig x_2)), B (decide (x0.D = x_2)), B (decide (x0.D = x_2))] [1, 7] [101] (s' := ⟨[(1, _), (7, B (decide (x0.D = x_2)))], [(101, _)]⟩) rfl ⟨fun _ => .p (op_field_p tyFld27_1 rfl rfl), fun _ => .p (lp tyAgg25), fun _ => .p (op_call0 (q_one_spec e2) goes63 rfl rfl), fun _ => .p (op_eql_agg (eqAgg25 x0.D x_2) rfl rfl), fun _ => .p oa, trivial⟩ rfl rfl (Tri.ite h rfl (fun _ h => ?_) (fun _ h => ?_))
  ·refine Tri.seq (Tri.regionL ?_)
   refine Oc (op_field_p tyFld27_0 rfl rfl) (Oc (lp tyAgg25) ?_)
   obtain ⟨x_3, e3, h⟩ := bnd h
   refine Oc (op_call0 (w_Text_spec e3) goes64 rfl rfl) (Oc oa ?_)
   refine OpsL.nilS ⟨[(2, .b (.one (.str x_3)))], []⟩ rfl (Tri.ret (Fin.block_ret (Fin.then_ret ?_)))
   obtain rfl := Option.some.inj h
   refine Fin.keepS ⟨[(2, _)], []⟩ rfl (Fin.result' [.one (.str x_3)] (.inl rfl) rfl (.cons (.tmp rfl) .nil) ⟨rfl, rfl⟩)
  ·refine Tri.skip (Fin.block_normal (Fin.keepS ⟨[(1, _)], [(101, _)]⟩ rfl (Fin.then (Tri.seq ?_))))
   refine Tri.keepS ⟨[(1, _)], [(101, _)]⟩ rfl ?_
   obtain ⟨x_4, e4, h⟩ := bnd h
   obtain ⟨x_5, e5, h⟩ := bnd h
   obtain ⟨x_6, e6, h⟩ := bnd h
   obtain ⟨x_7, e7, h⟩ := bnd h
   refine Tri.regionY mixed 9 [Pt 101 0, .b (.agg (eBig x0.N)), .b (.one (.str x_4)), .b (.one (.str x_5)), Pt 101 18, .b (.agg (eBig x0.D)), .b (.one (.str x_6)), .b (.one (.str x_7)), .b (.one (.str x_7))] [2] [] (s' := ⟨[(2, .b (.one (.str x_7)))], []⟩) rfl ⟨fun _ => .p (op_field_p tyFld27_0 rfl rfl), fun _ => .p (lp tyAgg25), fun _ => .p (op_call0 (w_Text_spec e4) goes64 rfl rfl), fun _ => .p (op_add_str2 e5 rfl rfl), fun _ => .p (op_field_p tyFld27_1 rfl rfl), fun _ => .p (lp tyAgg25), fun _ => .p (op_call0 (w_Text_spec e6) goes64 rfl rfl), fun _ => .p (op_add_str2 e7 rfl rfl), fun _ => .p oa, trivial⟩ rfl rfl (Tri.ret ?_)
   obtain rfl := Option.some.inj h
   refine Fin.keepS ⟨[(2, _)], []⟩ rfl (Fin.result' [.one (.str x_7)] (.inl rfl) rfl (.cons (.tmp rfl) .nil) ⟨rfl, rfl⟩)
def unit_Write_S (F : Nat) (a0 : Quantity) : Option Str :=
 (unit_isRight_S F [a0]).bind fun x_1 => if (!x_1) = true then (some []) else (if (decide (a0.U = (⟨0, 0, 0⟩ : MUnit))) = true then ((q_Text_S F a0.V).bind fun x_2 => some x_2) else ((q_Text_S F a0.V).bind fun x_3 => (app? x_3 [32]).bind fun x_4 => (unit_Print_S F a0.U).bind fun x_5 => (app? x_4 x_5).bind fun x_6 => some x_6))
theorem unit_Write_spec {F : Nat} {a0 : Quantity} {r : Str} (h : unit_Write_S F a0 = some r) : Meets Tryz.prog (tabs mx) 19 [] [.agg (eQuantity a0)] (Is [] (.b (.one (.str r)))) := by
 unfold unit_Write_S at h
 refine Meets.intro 22 Tryz.func19 Tryz.ntmps19 rfl (by simp) fun E => ?_
 show Tri _ E ⟨22, [], []⟩ _ ⟨[(0, .b (.agg (eQuantity a0)))], []⟩ _
 refine Tri.seq (Tri.regionL ?_)
 refine Oc (op_box (k := 101) rfl rfl) (Oc oa ?_)
 refine OpsL.nilS ⟨[(1, Pt 101 0)], [(101, .box 31 (eQuantity a0))]⟩ rfl (Tri.seq (Tri.seq (Tri.regionL ?_)))
 refine Oc (lp tyAgg31) (Oc (op_buildSlice (k := 102) (es := [a0].map eQuantity) tySl120 rfl rfl (uni_map fun _ => rfl) rfl (by decide) (by decide) rfl) ?_)
 obtain ⟨x_1, e1, h⟩ := bnd h
 refine Oc (op_callB (unit_isRight_spec e1) goes54 rfl CP.flat_bool) (Oc (op_not rfl) ?_)
 refine OpsL.nilS ⟨[(1, _), (6, B (!x_1))], [(101, _)]⟩ rfl (Tri.ite h rfl (fun _ h => ?_) (fun _ h => ?_))
 ·refine Tri.seq (Tri.regionL ?_)
  refine Oc oa (OpsL.nilS ⟨[(2, .b (.one (.str [])))], []⟩ rfl (Tri.ret (Fin.then_ret ?_)))
  obtain rfl := Option.some.inj h
  refine Fin.keepS ⟨[(2, _)], []⟩ rfl (Fin.result' [.one (.str [])] (.inl rfl) rfl (.cons (.tmp rfl) .nil) ⟨rfl, rfl⟩)
 ·refine Tri.skip (Fin.keepS ⟨[(1, _)], [(101, _)]⟩ rfl (Fin.then (Tri.seq (Tri.seq (Tri.regionL ?_)))))
  refine Oc (op_field_p tyFld31_1 rfl rfl) (Oc (lp tyAgg29) (Oc (op_build tyBuild29 rfl rfl) (Oc (op_eql_agg (eqAgg29 a0.U (⟨0, 0, 0⟩ : MUnit)) rfl rfl) ?_)))
  refine OpsL.nilS ⟨[(1, _), (10, B (decide (a0.U = (⟨0, 0, 0⟩ : MUnit))))], [(101, _)]⟩ rfl (Tri.ite h rfl (fun _ h => ?_) (fun _ h => ?_))
  ·refine Tri.seq (Tri.regionL ?_)
   refine Oc (op_field_p tyFld31_0 rfl rfl) (Oc (lp tyAgg27) ?_)
   obtain ⟨x_2, e2, h⟩ := bnd h
   refine Oc (op_call0 (q_Text_spec e2) goes14 rfl rfl) (Oc oa ?_)
   refine OpsL.nilS ⟨[(2, .b (.one (.str x_2)))], []⟩ rfl (Tri.ret (Fin.then_ret ?_))
   obtain rfl := Option.some.inj h
   refine Fin.keepS ⟨[(2, _)], []⟩ rfl (Fin.result' [.one (.str x_2)] (.inl rfl) rfl (.cons (.tmp rfl) .nil) ⟨rfl, rfl⟩)
  ·refine Tri.skip (Fin.keepS ⟨[(1, _)], [(101, _)]⟩ rfl (Fin.then (Tri.seq ?_)))
   refine Tri.keepS ⟨[(1, _)], [(101, _)]⟩ rfl ?_
   obtain ⟨x_3, e3, h⟩ := bnd h
   obtain ⟨x_4, e4, h⟩ := bnd h
   obtain ⟨x_5, e5, h⟩ := bnd h
   obtain ⟨x_6, e6, h⟩ := bnd h
   refine Tri.regionY mixed 9 [Pt 101 0, .b (.agg (eFrc a0.V)), .b (.one (.str x_3)), .b (.one (.str x_4)), Pt 101 36, .b (.agg (eMUnit a0.U)), .b (.one (.str x_5)), .b (.one (.str x_6)), .b (.one (.str x_6))] [2] [] (s' := ⟨[(2, .b (.one (.str x_6)))], []⟩) rfl ⟨fun _ => .p (op_field_p tyFld31_0 rfl rfl), fun _ => .p (lp tyAgg27), fun _ => .p (op_call0 (q_Text_spec e3) goes14 rfl rfl), fun _ => .p (op_add_str2 e4 rfl rfl), fun _ => .p (op_field_p tyFld31_1 rfl rfl), fun _ => .p (lp tyAgg29), fun _ => .p (op_call0 (unit_Print_spec e5) goes18 rfl rfl), fun _ => .p (op_add_str2 e6 rfl rfl), fun _ => .p oa, trivial⟩ rfl rfl (Tri.ret ?_)
   obtain rfl := Option.some.inj h
   refine Fin.keepS ⟨[(2, _)], []⟩ rfl (Fin.result' [.one (.str x_6)] (.inl rfl) rfl (.cons (.tmp rfl) .nil) ⟨rfl, rfl⟩)
def unit_In_S (F : Nat) (a0 : Quantity) (s0 : Str) : Option (Frc × Int) :=
 (unit_isRight_S F [a0]).bind fun x_1 => if (!x_1) = true then (letN (⟨(⟨false, false, A16.zero⟩ : Big), (⟨false, false, A16.zero⟩ : Big)⟩ : Frc) fun x_2 => some (x_2, 1)) else (Option.bind (unit_Parse_S F s0) (un2 fun x_3 x_4 => if (decide (x_4 ≠ 0)) = true then (letN (⟨(⟨false, false, A16.zero⟩ : Big), (⟨false, false, A16.zero⟩ : Big)⟩ : Frc) fun x_5 => some (x_5, x_4)) else (if (decide (x_3.U ≠ a0.U)) = true then (letN (⟨(⟨false, false, A16.zero⟩ : Big), (⟨false, false, A16.zero⟩ : Big)⟩ : Frc) fun x_6 => some (x_6, 110)) else ((q_Div_S F a0.V x_3.V).bind fun x_7 => Option.bind (unit_quantity_S F x_7 (⟨0, 0, 0⟩ : MUnit)) (un2 fun x_8 x_9 => some (x_8.V, x_9))))))
theorem unit_In_spec {F : Nat} {a0 : Quantity} {s0 : Str} {r : Frc × Int} (h : unit_In_S F a0 s0 = some r) : Meets Tryz.prog (tabs mx) 11 [] [.agg (eQuantity a0), .one (.str s0)] (Is [] (.tup [.agg (eFrc r.1), .one (.i r.2)])) := by
 unfold unit_In_S at h
 refine Meets.intro 42 Tryz.func11 Tryz.ntmps11 rfl (by simp) fun E => ?_
 show Tri _ E ⟨42, [], []⟩ _ ⟨[(0, .b (.agg (eQuantity a0))), (1, .b (.one (.str s0)))], []⟩ _
 refine Tri.seq (Tri.regionL ?_)
 refine Oc (op_box (k := 101) rfl rfl) (Oc (op_alloc (k := 102) tyZero27 rfl) (Oc oa ?_))
 refine OpsL.nilS ⟨[(1, .b (.one (.str s0))), (2, Pt 101 0), (4, Pt 102 0)], [(101, .box 31 (eQuantity a0)), (102, .box 27 zFrc)]⟩ rfl (Tri.seq (Tri.seq (Tri.regionL ?_)))
 refine Oc (lp tyAgg31) (Oc (op_buildSlice (k := 103) (es := [a0].map eQuantity) tySl120 rfl rfl (uni_map fun _ => rfl) rfl (by decide) (by decide) rfl) ?_)
 obtain ⟨x_1, e1, h⟩ := bnd h
 refine Oc (op_callB (unit_isRight_spec e1) goes54 rfl CP.flat_bool) (Oc (op_not rfl) ?_)
 refine OpsL.nilS ⟨[(1, _), (2, _), (4, _), (12, B (!x_1))], [(101, _), (102, _)]⟩ rfl (Tri.ite h rfl (fun _ h => ?_) (fun _ h => ?_))
 ·refine Tri.seq (Tri.regionL ?_)
  refine OpsL.consA eFrc h rfl (op_build tyBuild27 rfl rfl) (fun x_2 h => ?_)
  refine Oc (op_store_p tyAgg27 rfl rfl rfl rfl (Nat.le_of_ble_eq_true rfl) rfl) (Oc oa ?_)
  refine OpsL.nilS ⟨[(4, _), (5, I 1)], [(102, .box 27 (eFrc x_2))]⟩ rfl (Tri.ret (Fin.then_ret ?_))
  obtain rfl := Option.some.inj h
  refine Fin.keepS ⟨[(4, _), (5, _)], [(102, _)]⟩ rfl (Fin.result' [.agg (eFrc x_2), .one (.i 1)] (.inl rfl) rfl (.cons (.agg tyAgg27 rfl rfl rfl rfl) (.cons (.tmp rfl) .nil)) ⟨rfl, rfl⟩)
 ·refine Tri.skip (Fin.keepS ⟨[(1, _), (2, _), (4, _)], [(101, _), (102, _)]⟩ rfl (Fin.then (Tri.seq (Tri.regionL ?_))))
  refine Oc om ?_
  obtain ⟨⟨x_3, x_4⟩, e2, h⟩ := bnd h
  refine Oc (op_call0 (unit_Parse_spec e2) goes17 rfl rfl) (Oc om (Oc (op_extract rfl rfl) (Oc (op_extract rfl rfl) ?_)))
  refine OpsL.keepS ⟨[(2, _), (4, _), (17, .b (.agg (eQuantity x_3))), (18, I x_4)], [(101, _), (102, _)]⟩ rfl (Oc (op_alloc (k := 104) tyZero31 rfl) (Oc (op_store_p tyAgg31 rfl rfl rfl rfl (Nat.le_of_ble_eq_true rfl) rfl) (Oc oa ?_)))
  refine OpsL.nilS ⟨[(2, _), (4, _), (6, Pt 104 0), (7, I x_4)], [(101, _), (102, _), (104, .box 31 (eQuantity x_3))]⟩ rfl (Tri.seq (Tri.seq (Tri.regionL ?_)))
  refine Oc om (Oc (op_neq rfl rfl) ?_)
  refine OpsL.nilS ⟨[(2, _), (4, _), (6, _), (7, _), (20, B (decide (x_4 ≠ 0)))], [(101, _), (102, _), (104, _)]⟩ rfl (Tri.ite h rfl (fun _ h => ?_) (fun _ h => ?_))
  ·refine Tri.seq (Tri.regionL ?_)
   refine OpsL.consA eFrc h rfl (op_build tyBuild27 rfl rfl) (fun x_5 h => ?_)
   refine Oc om (Oc (op_store_p tyAgg27 rfl rfl rfl rfl (Nat.le_of_ble_eq_true rfl) rfl) (Oc oa ?_))
   refine OpsL.nilS ⟨[(4, _), (5, I x_4)], [(102, .box 27 (eFrc x_5))]⟩ rfl (Tri.ret (Fin.then_ret ?_))
   obtain rfl := Option.some.inj h
   refine Fin.keepS ⟨[(4, _), (5, _)], [(102, _)]⟩ rfl (Fin.result' [.agg (eFrc x_5), .one (.i x_4)] (.inl rfl) rfl (.cons (.agg tyAgg27 rfl rfl rfl rfl) (.cons (.tmp rfl) .nil)) ⟨rfl, rfl⟩)
  ·refine Tri.skip (Fin.keepS ⟨[(2, _), (4, _), (6, _)], [(101, _), (102, _), (104, _)]⟩ rfl (Fin.then (Tri.seq (Tri.seq (Tri.regionL ?_)))))
   refine Oc (op_field_p tyFld31_1 rfl rfl) (Oc (lp tyAgg29) (Oc (op_field_p tyFld31_1 rfl rfl) (Oc (lp tyAgg29) (Oc (op_neq_agg (eqAgg29 x_3.U a0.U) rfl rfl neg_dec) ?_))))
   refine OpsL.nilS ⟨[(2, _), (4, _), (6, _), (27, B (decide (x_3.U ≠ a0.U)))], [(101, _), (102, _), (104, _)]⟩ rfl (Tri.ite h rfl (fun _ h => ?_) (fun _ h => ?_))
   ·refine Tri.seq (Tri.regionL ?_)
    refine OpsL.consA eFrc h rfl (op_build tyBuild27 rfl rfl) (fun x_6 h => ?_)
    refine Oc (op_store_p tyAgg27 rfl rfl rfl rfl (Nat.le_of_ble_eq_true rfl) rfl) (Oc oa ?_)
    refine OpsL.nilS ⟨[(4, _), (5, I 110)], [(102, .box 27 (eFrc x_6))]⟩ rfl (Tri.ret (Fin.then_ret ?_))
    obtain rfl := Option.some.inj h
    refine Fin.keepS ⟨[(4, _), (5, _)], [(102, _)]⟩ rfl (Fin.result' [.agg (eFrc x_6), .one (.i 110)] (.inl rfl) rfl (.cons (.agg tyAgg27 rfl rfl rfl rfl) (.cons (.tmp rfl) .nil)) ⟨rfl, rfl⟩)
   ·refine Tri.skip (Fin.keepS ⟨[(2, _), (4, _), (6, _)], [(101, _), (102, _), (104, _)]⟩ rfl (Fin.then (Tri.seq (Tri.regionL ?_))))
    refine Oc (op_field_p tyFld31_0 rfl rfl) (Oc (lp tyAgg27) (Oc (op_field_p tyFld31_0 rfl rfl) (Oc (lp tyAgg27) ?_)))
    obtain ⟨x_7, e3, h⟩ := bnd h
    refine Oc (op_call0 (q_Div_spec e3) goes21 rfl rfl) (OpsL.keepS ⟨[(4, _), (34, .b (.agg (eFrc x_7)))], [(102, _)]⟩ rfl (Oc (op_build tyBuild29 rfl rfl) ?_))
    obtain ⟨⟨x_8, x_9⟩, e4, h⟩ := bnd h
    refine Oc (op_call0 (unit_quantity_spec e4) goes55 rfl rfl) (Oc om (Oc (op_extract rfl rfl) (Oc (op_extract rfl rfl) ?_)))
    refine OpsL.keepS ⟨[(4, _), (37, .b (.agg (eQuantity x_8))), (38, I x_9)], [(102, _)]⟩ rfl (Oc (op_alloc (k := 105) tyZero31 rfl) (Oc (op_store_p tyAgg31 rfl rfl rfl rfl (Nat.le_of_ble_eq_true rfl) rfl) (Oc oa ?_)))
    refine OpsL.nilS ⟨[(4, _), (7, I x_9), (8, Pt 105 0)], [(102, _), (105, .box 31 (eQuantity x_8))]⟩ rfl (Tri.seq (Tri.regionL ?_))
    refine Oc (op_field_p tyFld31_0 rfl rfl) (Oc (lp tyAgg27) (Oc om (Oc (op_store_p tyAgg27 rfl rfl rfl rfl (Nat.le_of_ble_eq_true rfl) rfl) (Oc oa ?_))))
    refine OpsL.nilS ⟨[(4, _), (5, I x_9)], [(102, .box 27 (eFrc x_8.V))]⟩ rfl (Tri.ret ?_)
    obtain rfl := Option.some.inj h
    refine Fin.keepS ⟨[(4, _), (5, _)], [(102, _)]⟩ rfl (Fin.result' [.agg (eFrc x_8.V), .one (.i x_9)] (.inl rfl) rfl (.cons (.agg tyAgg27 rfl rfl rfl rfl) (.cons (.tmp rfl) .nil)) ⟨rfl, rfl⟩)
def unit_Add_S (F : Nat) (a0 : Quantity) (b0 : Quantity) : Option (Quantity × Int) :=
 Option.bind (unit_operation_do_S F (⟨22, 87⟩ : Oprn) a0 b0) (un2 fun x_1 x_2 => some (x_1, x_2))
theorem unit_Add_spec {F : Nat} {a0 : Quantity} {b0 : Quantity} {r : Quantity × Int} (h : unit_Add_S F a0 b0 = some r) : Meets Tryz.prog (tabs mx) 36 [] [.agg (eQuantity a0), .agg (eQuantity b0)] (Is [] (.tup [.agg (eQuantity r.1), .one (.i r.2)])) := by
 unfold unit_Add_S at h
 refine Meets.intro 12 Tryz.func36 Tryz.ntmps36 rfl (by simp) fun E => ?_
 show Tri _ E ⟨12, [], []⟩ _ ⟨[(0, .b (.agg (eQuantity a0))), (1, .b (.agg (eQuantity b0)))], []⟩ _
 refine Tri.seq (Tri.regionL ?_)
 refine Oc (op_box (k := 101) rfl rfl) (Oc (op_box (k := 102) rfl rfl) (Oc (op_alloc (k := 103) tyZero31 rfl) (Oc oa ?_)))
 refine OpsL.nilS ⟨[(2, Pt 101 0), (3, Pt 102 0), (4, Pt 103 0)], [(101, .box 31 (eQuantity a0)), (102, .box 31 (eQuantity b0)), (103, .box 31 (.bool false :: .bool false :: (eW A16.zero ++ (.bool false :: .bool false :: (eW A16.zero ++ ([.i 0, .i 0, .i 0]))))))]⟩ rfl (Tri.seq (Tri.regionL ?_))
 refine Oc (op_build tyBuild113 rfl rfl) (Oc (lp tyAgg31) (Oc (lp tyAgg31) ?_))
 obtain ⟨⟨x_1, x_2⟩, e1, h⟩ := bnd h
 refine Oc (op_call0 (unit_operation_do_spec e1) goes88 rfl rfl) (Oc (op_extract rfl rfl) ?_)
 refine OpsL.keepS ⟨[(4, _), (9, .tup [.agg (eQuantity x_1), .one (.i x_2)]), (10, .b (.agg (eQuantity x_1)))], [(103, _)]⟩ rfl (Oc (op_extract rfl rfl) (Oc (op_store_p tyAgg31 rfl rfl rfl rfl (Nat.le_of_ble_eq_true rfl) rfl) (Oc oa ?_)))
 refine OpsL.nilS ⟨[(4, _), (5, I x_2)], [(103, .box 31 (eQuantity x_1))]⟩ rfl (Tri.ret ?_)
 obtain rfl := Option.some.inj h
 refine Fin.keepS ⟨[(4, _), (5, _)], [(103, _)]⟩ rfl (Fin.result' [.agg (eQuantity x_1), .one (.i x_2)] (.inl rfl) rfl (.cons (.agg tyAgg31 rfl rfl rfl rfl) (.cons (.tmp rfl) .nil)) ⟨rfl, rfl⟩)
def q_Sign_S (F : Nat) (x0 : Frc) : Option Int :=
 (q_Good_S F x0).bind fun x_1 => if (!x_1) = true then (some 0) else ((w_Sign_S F x0.N).bind fun x_2 => some x_2)
theorem q_Sign_spec {F : Nat} {x0 : Frc} {r : Int} (h : q_Sign_S F x0 = some r) : Meets Tryz.prog (tabs mx) 39 [] [.agg (eFrc x0)] (Is [] (.b (.one (.i r)))) := by
 unfold q_Sign_S at h
 refine Meets.intro 9 Tryz.func39 Tryz.ntmps39 rfl (by simp) fun E => ?_
 show Tri _ E ⟨9, [], []⟩ _ ⟨[(0, .b (.agg (eFrc x0)))], []⟩ _
 refine Tri.seq (Tri.regionL ?_)
 refine Oc (op_box (k := 101) rfl rfl) (Oc oa ?_)
 refine OpsL.nilS ⟨[(1, Pt 101 0)], [(101, .box 27 (eFrc x0))]⟩ rfl (Tri.seq (Tri.seq (Tri.regionL ?_)))
 refine Oc (lp tyAgg27) ?_
 obtain ⟨x_1, e1, h⟩ := bnd h
 refine Oc (op_call0 (q_Good_spec e1) goes62 rfl rfl) (Oc (op_not rfl) ?_)
 refine OpsL.nilS ⟨[(1, _), (5, B (!x_1))], [(101, _)]⟩ rfl (Tri.ite h rfl (fun _ h => ?_) (fun _ h => ?_))
 ·refine Tri.seq (Tri.regionL ?_)
  refine Oc oa (OpsL.nilS ⟨[(2, I 0)], []⟩ rfl (Tri.ret (Fin.then_ret ?_)))
  obtain rfl := Option.some.inj h
  refine Fin.keepS ⟨[(2, _)], []⟩ rfl (Fin.result' [.one (.i 0)] (.inl rfl) rfl (.cons (.tmp rfl) .nil) ⟨rfl, rfl⟩)
 ·refine Tri.skip (Fin.keepS ⟨[(1, _)], [(101, _)]⟩ rfl (Fin.then (Tri.seq (Tri.regionL ?_))))
  refine Oc (op_field_p tyFld27_0 rfl rfl) (Oc (lp tyAgg25) ?_)
  obtain ⟨x_2, e2, h⟩ := bnd h
  refine Oc (op_call0 (w_Sign_spec e2) goes90 rfl rfl) (Oc oa ?_)
  refine OpsL.nilS ⟨[(2, I x_2)], []⟩ rfl (Tri.ret ?_)
  obtain rfl := Option.some.inj h
  refine Fin.keepS ⟨[(2, _)], []⟩ rfl (Fin.result' [.one (.i x_2)] (.inl rfl) rfl (.cons (.tmp rfl) .nil) ⟨rfl, rfl⟩)
def unit_Over_S (F : Nat) (a0 : Quantity) (b0 : Quantity) : Option (Quantity × Int) :=
 (unit_isRight_S F [a0, b0]).bind fun x_1 => (gcall x_1 (q_Sign_S F b0.V)).bind fun x_2 => if (x_1 && (decide (x_2 = 0))) = true then (letN (⟨(⟨(⟨false, false, A16.zero⟩ : Big), (⟨false, false, A16.zero⟩ : Big)⟩ : Frc), (⟨0, 0, 0⟩ : MUnit)⟩ : Quantity) fun x_3 => some (x_3, 31)) else (Option.bind (unit_operation_do_S F (⟨21, 27⟩ : Oprn) a0 b0) (un2 fun x_4 x_5 => some (x_4, x_5)))
theorem unit_Over_spec {F : Nat} {a0 : Quantity} {b0 : Quantity} {r : Quantity × Int} (h : unit_Over_S F a0 b0 = some r) : Meets Tryz.prog (tabs mx) 40 [] [.agg (eQuantity a0), .agg (eQuantity b0)] (Is [] (.tup [.agg (eQuantity r.1), .one (.i r.2)])) := by
 unfold unit_Over_S at h
 refine Meets.intro 23 Tryz.func40 Tryz.ntmps40 rfl (by simp) fun E => ?_
 show Tri _ E ⟨23, [], []⟩ _ ⟨[(0, .b (.agg (eQuantity a0))), (1, .b (.agg (eQuantity b0)))], []⟩ _
 refine Tri.seq (Tri.regionL ?_)
 refine Oc (op_box (k := 101) rfl rfl) (Oc (op_box (k := 102) rfl rfl) (Oc (op_alloc (k := 103) tyZero31 rfl) (Oc oa ?_)))
 refine OpsL.nilS ⟨[(2, Pt 101 0), (3, Pt 102 0), (4, Pt 103 0)], [(101, .box 31 (eQuantity a0)), (102, .box 31 (eQuantity b0)), (103, .box 31 (.bool false :: .bool false :: (eW A16.zero ++ (.bool false :: .bool false :: (eW A16.zero ++ ([.i 0, .i 0, .i 0]))))))]⟩ rfl (Tri.seq (Tri.seq (Tri.regionL ?_)))
 refine Oc (lp tyAgg31) (Oc (lp tyAgg31) (Oc (op_buildSlice (k := 104) (es := [a0, b0].map eQuantity) tySl120 rfl rfl (uni_map fun _ => rfl) rfl (by decide) (by decide) rfl) ?_))
 obtain ⟨x_1, e1, h⟩ := bnd h
 refine Oc (op_callB (unit_isRight_spec e1) goes54 rfl CP.flat_bool) (OpsL.keepS ⟨[(2, _), (3, _), (4, _), (9, B x_1)], [(101, _), (102, _), (103, _)]⟩ rfl (Oc om (CgT x_1 [] (fun g2 => by exact trivial) (fun g2 => op_field_p tyFld31_0 rfl rfl) (CgT x_1 [11] (fun g3 => by exact ⟨g3, trivial⟩) (fun g3 => lp tyAgg27) ?_))))
 obtain ⟨x_2, e5, h⟩ := bnd h
 refine CgT x_1 [12] (fun g4 => ⟨g4, trivial⟩) (fun g4 => op_call0 (q_Sign_spec (gc e5 g4)) goes39 rfl rfl) (CgT x_1 [13] (fun g6 => ⟨g6, trivial⟩) (fun g6 => op_eql rfl rfl) (Oc (op_pick_and (fun e => e) rfl rfl rfl rfl) (OpsL.nilS ⟨[(2, _), (3, _), (4, _), (15, B (x_1 && (decide (x_2 = 0))))], [(101, _), (102, _), (103, _)]⟩ rfl (Tri.ite h rfl (fun _ h => ?_) (fun _ h => ?_)))))
 ·refine Tri.seq (Tri.regionL ?_)
  refine OpsL.consA eQuantity h rfl (op_build tyBuild31 rfl rfl) (fun x_3 h => ?_)
  refine Oc (op_store_p tyAgg31 rfl rfl rfl rfl (Nat.le_of_ble_eq_true rfl) rfl) (Oc oa ?_)
  refine OpsL.nilS ⟨[(4, _), (5, I 31)], [(103, .box 31 (eQuantity x_3))]⟩ rfl (Tri.ret (Fin.then_ret ?_))
  obtain rfl := Option.some.inj h
  refine Fin.keepS ⟨[(4, _), (5, _)], [(103, _)]⟩ rfl (Fin.result' [.agg (eQuantity x_3), .one (.i 31)] (.inl rfl) rfl (.cons (.agg tyAgg31 rfl rfl rfl rfl) (.cons (.tmp rfl) .nil)) ⟨rfl, rfl⟩)
 ·refine Tri.skip (Fin.keepS ⟨[(2, _), (3, _), (4, _)], [(101, _), (102, _), (103, _)]⟩ rfl (Fin.then (Tri.seq (Tri.regionL ?_))))
  refine Oc (op_build tyBuild113 rfl rfl) (Oc (lp tyAgg31) (Oc (lp tyAgg31) ?_))
  obtain ⟨⟨x_4, x_5⟩, e7, h⟩ := bnd h
  refine Oc (op_call0 (unit_operation_do_spec e7) goes88 rfl rfl) (Oc (op_extract rfl rfl) ?_)
  refine OpsL.keepS ⟨[(4, _), (20, .tup [.agg (eQuantity x_4), .one (.i x_5)]), (21, .b (.agg (eQuantity x_4)))], [(103, _)]⟩ rfl (Oc (op_extract rfl rfl) (Oc (op_store_p tyAgg31 rfl rfl rfl rfl (Nat.le_of_ble_eq_true rfl) rfl) (Oc oa ?_)))
  refine OpsL.nilS ⟨[(4, _), (5, I x_5)], [(103, .box 31 (eQuantity x_4))]⟩ rfl (Tri.ret ?_)
  obtain rfl := Option.some.inj h
  refine Fin.keepS ⟨[(4, _), (5, _)], [(103, _)]⟩ rfl (Fin.result' [.agg (eQuantity x_4), .one (.i x_5)] (.inl rfl) rfl (.cons (.agg tyAgg31 rfl rfl rfl rfl) (.cons (.tmp rfl) .nil)) ⟨rfl, rfl⟩)
def r4_Of_S (F : Nat) (n0 : Int) : Option Frc :=
 (r3_Of_S F n0).bind fun x_1 => (r4_one_S F).bind fun x_2 => (r4_Make_S F x_1 x_2).bind fun x_3 => some x_3
theorem r4_Of_spec {F : Nat} {n0 : Int} {r : Frc} (h : r4_Of_S F n0 = some r) : Meets Tryz.prog (tabs mx) 52 [] [.one (.i n0)] (Is [] (.b (.agg (eFrc r)))) := by
 unfold r4_Of_S at h
 refine Meets.intro 7 Tryz.func52 Tryz.ntmps52 rfl (by simp) fun E => ?_
 show Tri _ E ⟨7, [], []⟩ _ ⟨[(0, I n0)], []⟩ _
 refine Tri.seq (Tri.regionL ?_)
 refine Oc (op_alloc (k := 101) tyZero27 rfl) (OpsL.nilS ⟨[(0, I n0), (2, Pt 101 0)], [(101, .box 27 zFrc)]⟩ rfl (Tri.seq (Tri.regionL ?_)))
 refine Oc om ?_
 obtain ⟨x_1, e1, h⟩ := bnd h
 refine Oc (op_call0 (r3_Of_spec e1) goes107 rfl rfl) ?_
 obtain ⟨x_2, e2, h⟩ := bnd h
 refine Oc (op_call0 (r4_one_spec e2) goes108 rfl rfl) ?_
 obtain ⟨x_3, e3, h⟩ := bnd h
 refine Oc (op_call0 (r4_Make_spec e3) goes106 rfl rfl) (Oc (op_store_p tyAgg27 rfl rfl rfl rfl (Nat.le_of_ble_eq_true rfl) rfl) ?_)
 refine OpsL.nilS ⟨[(2, _)], [(101, .box 27 (eFrc x_3))]⟩ rfl (Tri.ret ?_)
 obtain rfl := Option.some.inj h
 refine Fin.keepS ⟨[(2, _)], [(101, _)]⟩ rfl (Fin.result' [.agg (eFrc x_3)] (.inl rfl) rfl (.cons (.agg tyAgg27 rfl rfl rfl rfl) .nil) ⟨rfl, rfl⟩)
def skewbacklaw11_refuses_S (F : Nat) (s0 : Str) (want0 : Int) : Option Bool :=
 Option.bind (unit_Parse_S F s0) (un2 fun x_1 x_2 => letN (⟨(⟨(⟨false, false, A16.zero⟩ : Big), (⟨false, false, A16.zero⟩ : Big)⟩ : Frc), (⟨0, 0, 0⟩ : MUnit)⟩ : Quantity) fun x_3 => some ((decide (x_1 = x_3)) && (decide (x_2 = want0))))
theorem skewbacklaw11_refuses_spec {F : Nat} {s0 : Str} {want0 : Int} {r : Bool} (h : skewbacklaw11_refuses_S F s0 want0 = some r) : Meets Tryz.prog (tabs mx) 53 [] [.one (.str s0), .one (.i want0)] (Is [] (.b (.one (.bool r)))) := by
 unfold skewbacklaw11_refuses_S at h
 refine Meets.intro 20 Tryz.func53 Tryz.ntmps53 rfl (by simp) fun E => ?_
 show Tri _ E ⟨20, [], []⟩ _ ⟨[(0, .b (.one (.str s0))), (1, I want0)], []⟩ _
 refine Tri.seq (Tri.regionL ?_)
 refine Oc oa (OpsL.nilS ⟨[(0, .b (.one (.str s0))), (1, I want0)], []⟩ rfl (Tri.seq (Tri.regionL ?_)))
 refine Oc om ?_
 obtain ⟨⟨x_1, x_2⟩, e1, h⟩ := bnd h
 refine Oc (op_call0 (unit_Parse_spec e1) goes17 rfl rfl) (Oc om (Oc (op_extract rfl rfl) (Oc (op_extract rfl rfl) ?_)))
 refine OpsL.keepS ⟨[(1, _), (10, .b (.agg (eQuantity x_1))), (11, I x_2)], []⟩ rfl (Oc (op_alloc (k := 101) tyZero31 rfl) (Oc (op_store_p tyAgg31 rfl rfl rfl rfl (Nat.le_of_ble_eq_true rfl) rfl) (Oc oa ?_)))
 refine OpsL.nilS ⟨[(1, _), (5, Pt 101 0), (6, I x_2)], [(101, .box 31 (eQuantity x_1))]⟩ rfl (Tri.seq (Tri.regionL ?_))
 refine Oc (lp tyAgg31) (OpsL.consA eQuantity h rfl (op_build tyBuild31 rfl rfl) (fun x_3 h => ?_))
 refine Oc (op_eql_agg (eqAgg31 x_1 x_3) rfl rfl) (Oc om ?_)
 refine CgT (decide (x_1 = x_3)) [] (fun g2 => trivial) (fun g2 => om) (CgT (decide (x_1 = x_3)) [] (fun g3 => by exact trivial) (fun g3 => om) (CgT (decide (x_1 = x_3)) [16, 17] (fun g4 => by exact ⟨g4, g4, trivial⟩) (fun g4 => op_eql rfl rfl) (Oc (op_pick_and (fun e => e) rfl rfl rfl rfl) (Oc oa ?_))))
 refine OpsL.nilS ⟨[(4, B ((decide (x_1 = x_3)) && (decide (x_2 = want0))))], []⟩ rfl (Tri.ret ?_)
 obtain rfl := Option.some.inj h
 refine Fin.keepS ⟨[(4, _)], []⟩ rfl (Fin.result' [.one (.bool ((decide (x_1 = x_3)) && (decide (x_2 = want0))))] (.inl rfl) rfl (.cons (.tmp rfl) .nil) ⟨rfl, rfl⟩)
def skewbacklaw11_sanity_S (F : Nat) : Option Bool :=
 Option.bind (unit_Parse_S F [107, 78, 47, 109, 109, 94, 50]) (un2 fun x_1 x_2 => (skewbacklaw11_of_S F 1000000000 1 (-1) 1 (-2)).bind fun x_3 => (unit_Print_S F (⟨1, 1, (-2)⟩ : MUnit)).bind fun x_4 => (gcall (decide (x_4 = [109, 42, 107, 103, 47, 115, 94, 50])) (unit_Print_S F (⟨(-1), 1, (-2)⟩ : MUnit))).bind fun x_5 => letN ((decide (x_4 = [109, 42, 107, 103, 47, 115, 94, 50])) && (decide (x_5 = [107, 103, 47, 109, 47, 115, 94, 50]))) fun x_6 => (gcall x_6 (unit_Print_S F (⟨0, 0, 0⟩ : MUnit))).bind fun x_7 => (gcall (x_6 && (decide (x_7 = [49]))) (unit_Print_S F (⟨(-2), 0, 0⟩ : MUnit))).bind fun x_8 => letN ((x_6 && (decide (x_7 = [49]))) && (decide (x_8 = [49, 47, 109, 94, 50]))) fun x_9 => (skewbacklaw11_of_S F 5 2 1 0 0).bind fun x_10 => (skewbacklaw11_reads_S F [50, 46, 53, 48, 32, 109] x_10).bind fun x_11 => (gcall x_11 (skewbacklaw11_of_S F 2500 1 1 1 (-2))).bind fun x_12 => (gcall x_11 (skewbacklaw11_reads_S F [53, 47, 50, 32, 107, 78] x_12)).bind fun x_13 => (gcall (x_11 && x_13) (skewbacklaw11_of_S F (-3) 1 0 0 0)).bind fun x_14 => (gcall (x_11 && x_13) (skewbacklaw11_reads_S F [45, 51] x_14)).bind fun x_15 => (gcall ((x_11 && x_13) && x_15) (skewbacklaw11_of_S F 1 40 1 0 0)).bind fun x_16 => (gcall ((x_11 && x_13) && x_15) (unit_Write_S F x_16)).bind fun x_17 => letN (((x_11 && x_13) && x_15) && (decide (x_17 = [49, 47, 52, 48, 32, 109]))) fun x_18 => (skewbacklaw11_of_S F 7200 1 0 0 1).bind fun x_19 => Option.bind (unit_In_S F x_19 [109, 105, 110]) (un2 fun x_20 x_21 => (skewbacklaw11_of_S F 7200 1 0 0 1).bind fun x_22 => Option.bind (unit_In_S F x_22 [109]) (un2 fun x_23 x_24 => (skewbacklaw11_of_S F 1 1 1 0 0).bind fun x_25 => (skewbacklaw11_of_S F 1 1 0 0 1).bind fun x_26 => Option.bind (unit_Add_S F x_25 x_26) (un2 fun x_27 x_28 => (skewbacklaw11_of_S F 1 1 1 0 0).bind fun x_29 => (skewbacklaw11_of_S F 0 1 0 0 1).bind fun x_30 => Option.bind (unit_Over_S F x_29 x_30) (un2 fun x_31 x_32 => (r4_Of_S F 120).bind fun x_33 => letN ((((decide (x_1 = x_3)) && (decide (x_2 = 0))) && x_9) && x_18) fun x_34 => letN (x_34 && (((((decide (x_20 = x_33)) && (decide (x_21 = 0))) && (decide (x_24 = 110))) && (decide (x_28 = 110))) && (decide (x_32 = 31)))) fun x_35 => (gcall x_35 (skewbacklaw11_refuses_S F [109, 94, 49, 55] 280)).bind fun x_36 => (gcall (x_35 && x_36) (skewbacklaw11_refuses_S F [109, 94, 49, 54, 42, 109] 2)).bind fun x_37 => (gcall ((x_35 && x_36) && x_37) (skewbacklaw11_refuses_S F [120] 5)).bind fun x_38 => (gcall (((x_35 && x_36) && x_37) && x_38) (skewbacklaw11_refuses_S F [109, 42, 42, 115] 280)).bind fun x_39 => (gcall ((((x_35 && x_36) && x_37) && x_38) && x_39) (skewbacklaw11_refuses_S F [109, 94, 45, 48] 280)).bind fun x_40 => some (((((x_35 && x_36) && x_37) && x_38) && x_39) && x_40))))))
theorem skewbacklaw11_sanity_spec {F : Nat} {r : Bool} (h : skewbacklaw11_sanity_S F = some r) : Meets Tryz.prog (tabs mx) 10 [] [] (Is [] (.b (.one (.bool r)))) := by
 unfold skewbacklaw11_sanity_S at h
 refine Meets.intro 125 Tryz.func10 Tryz.ntmps10 rfl (by simp) fun E => ?_
 show Tri _ E ⟨125, [], []⟩ _ ⟨[], []⟩ _
 refine Tri.seq (Tri.regionL ?_)
 refine Oc oa (OpsL.nilS ⟨[], []⟩ rfl (Tri.seq (Tri.regionL ?_)))
 obtain ⟨⟨x_1, x_2⟩, e1, h⟩ := bnd h
 refine Oc (op_call0 (unit_Parse_spec e1) goes17 rfl rfl) (Oc om (Oc (op_extract rfl rfl) (Oc (op_extract rfl rfl) ?_)))
 refine OpsL.keepS ⟨[(17, .b (.agg (eQuantity x_1))), (18, I x_2)], []⟩ rfl (Oc (op_alloc (k := 101) tyZero31 rfl) (Oc (op_store_p tyAgg31 rfl rfl rfl rfl (Nat.le_of_ble_eq_true rfl) rfl) (Oc oa ?_)))
 refine OpsL.nilS ⟨[(1, Pt 101 0), (2, I x_2)], [(101, .box 31 (eQuantity x_1))]⟩ rfl (Tri.seq ?_)
 obtain ⟨x_3, e2, h⟩ := bnd h
 refine Tri.regionY mixed 8 [.b (.agg (eQuantity x_1)), .b (.agg (eQuantity x_3)), B (decide (x_1 = x_3)), B (decide (x_1 = x_3)), .opt (decide (x_1 = x_3)) (.one (.i x_2)), .opt (decide (x_1 = x_3)) (.one (.bool (decide (x_2 = 0)))), B ((decide (x_1 = x_3)) && (decide (x_2 = 0))), B ((decide (x_1 = x_3)) && (decide (x_2 = 0)))] [3] [] (s' := ⟨[(3, B ((decide (x_1 = x_3)) && (decide (x_2 = 0))))], []⟩) rfl ⟨fun _ => .p (lp tyAgg31), fun _ => .p (op_call0 (skewbacklaw11_of_spec e2) goes50 rfl rfl), fun _ => .p (op_eql_agg (eqAgg31 x_1 x_3) rfl rfl), fun _ => .p om, fun _ => by exact .guard (decide (x_1 = x_3)) 1 [] (.plain rfl) (eq_t _) rfl rfl (fun g3 => trivial) (fun g3 => om), fun _ => by exact .guard (decide (x_1 = x_3)) 2 [23] (.plain rfl) (eq_t _) rfl rfl (fun g4 => ⟨g4, trivial⟩) (fun g4 => op_eql rfl rfl), fun _ => .p (op_pick_and (fun e => e) rfl rfl rfl rfl), fun _ => .p oa, trivial⟩ rfl rfl (Tri.seq (Tri.regionL ?_))
 refine Oc (op_build tyBuild29 rfl rfl) ?_
 obtain ⟨x_4, e5, h⟩ := bnd h
 refine Oc (op_call0 (unit_Print_spec e5) goes18 rfl rfl) (Oc (op_eql_str rfl rfl) (Oc om ?_))
 refine CgT (decide (x_4 = [109, 42, 107, 103, 47, 115, 94, 50])) [] (fun g6 => trivial) (fun g6 => op_build tyBuild29 rfl rfl) (OpsL.keepS ⟨[(3, _), (29, B (decide (x_4 = [109, 42, 107, 103, 47, 115, 94, 50]))), (30, .opt (decide (x_4 = [109, 42, 107, 103, 47, 115, 94, 50])) (.agg [.i (-1), .i 1, .i (-2)]))], []⟩ rfl ?_)
 obtain ⟨x_5, e8, h⟩ := bnd h
 refine CgT (decide (x_4 = [109, 42, 107, 103, 47, 115, 94, 50])) [30] (fun g7 => ⟨g7, trivial⟩) (fun g7 => op_call0 (unit_Print_spec (gc e8 g7)) goes18 rfl rfl) (CgT (decide (x_4 = [109, 42, 107, 103, 47, 115, 94, 50])) [31] (fun g9 => ⟨g9, trivial⟩) (fun g9 => op_eql_str rfl rfl) (OpsL.consB h rfl (op_pick_and (fun e => e) rfl rfl rfl rfl) (fun x_6 h => ?_)))
 refine Oc om (CgT x_6 [] (fun g10 => by exact trivial) (fun g10 => op_build tyBuild29 rfl rfl) ?_)
 obtain ⟨x_7, e12, h⟩ := bnd h
 refine CgT x_6 [35] (fun g11 => ⟨g11, trivial⟩) (fun g11 => op_call0 (unit_Print_spec (gc e12 g11)) goes18 rfl rfl) (OpsL.keepS ⟨[(3, _), (34, B x_6), (36, .opt x_6 (.one (.str x_7)))], []⟩ rfl (CgT x_6 [36] (fun g13 => ⟨g13, trivial⟩) (fun g13 => op_eql_str rfl rfl) (Oc (op_pick_and (fun e => e) rfl rfl rfl rfl) (Oc om ?_))))
 refine CgT (x_6 && (decide (x_7 = [49]))) [] (fun g14 => trivial) (fun g14 => op_build tyBuild29 rfl rfl) ?_
 obtain ⟨x_8, e16, h⟩ := bnd h
 refine CgT (x_6 && (decide (x_7 = [49]))) [40] (fun g15 => ⟨g15, trivial⟩) (fun g15 => op_call0 (unit_Print_spec (gc e16 g15)) goes18 rfl rfl) (CgT (x_6 && (decide (x_7 = [49]))) [41] (fun g17 => ⟨g17, trivial⟩) (fun g17 => op_eql_str rfl rfl) (OpsL.consB h rfl (op_pick_and (fun e => e) rfl rfl rfl rfl) (fun x_9 h => ?_)))
 refine Oc oa (OpsL.nilS ⟨[(3, _), (4, B x_9)], []⟩ rfl (Tri.seq (Tri.regionL ?_)))
 obtain ⟨x_10, e18, h⟩ := bnd h
 refine Oc (op_call0 (skewbacklaw11_of_spec e18) goes50 rfl rfl) ?_
 obtain ⟨x_11, e19, h⟩ := bnd h
 refine Oc (op_call0 (skewbacklaw11_reads_spec e19) goes51 rfl rfl) (Oc om ?_)
 refine OpsL.keepS ⟨[(3, _), (4, _), (46, B x_11)], []⟩ rfl ?_
 obtain ⟨x_12, e21, h⟩ := bnd h
 refine CgT x_11 [] (fun g20 => trivial) (fun g20 => op_call0 (skewbacklaw11_of_spec (gc e21 g20)) goes50 rfl rfl) ?_
 obtain ⟨x_13, e23, h⟩ := bnd h
 refine CgT x_11 [47] (fun g22 => ⟨g22, trivial⟩) (fun g22 => op_call0 (skewbacklaw11_reads_spec (gc e23 g22)) goes51 rfl rfl) (Oc (op_pick_and (fun e => e) rfl rfl rfl rfl) (Oc om ?_))
 refine OpsL.keepS ⟨[(3, _), (4, _), (50, B (x_11 && x_13))], []⟩ rfl ?_
 obtain ⟨x_14, e25, h⟩ := bnd h
 refine CgT (x_11 && x_13) [] (fun g24 => trivial) (fun g24 => op_call0 (skewbacklaw11_of_spec (gc e25 g24)) goes50 rfl rfl) ?_
 obtain ⟨x_15, e27, h⟩ := bnd h
 refine CgT (x_11 && x_13) [51] (fun g26 => ⟨g26, trivial⟩) (fun g26 => op_call0 (skewbacklaw11_reads_spec (gc e27 g26)) goes51 rfl rfl) (Oc (op_pick_and (fun e => e) rfl rfl rfl rfl) (Oc om ?_))
 refine OpsL.keepS ⟨[(3, _), (4, _), (54, B ((x_11 && x_13) && x_15))], []⟩ rfl ?_
 obtain ⟨x_16, e29, h⟩ := bnd h
 refine CgT ((x_11 && x_13) && x_15) [] (fun g28 => trivial) (fun g28 => op_call0 (skewbacklaw11_of_spec (gc e29 g28)) goes50 rfl rfl) ?_
 obtain ⟨x_17, e31, h⟩ := bnd h
 refine CgT ((x_11 && x_13) && x_15) [55] (fun g30 => ⟨g30, trivial⟩) (fun g30 => op_call0 (unit_Write_spec (gc e31 g30)) goes19 rfl rfl) (CgT ((x_11 && x_13) && x_15) [56] (fun g32 => ⟨g32, trivial⟩) (fun g32 => op_eql_str rfl rfl) (OpsL.consB h rfl (op_pick_and (fun e => e) rfl rfl rfl rfl) (fun x_18 h => ?_)))
 refine Oc oa (OpsL.nilS ⟨[(3, _), (4, _), (5, B x_18)], []⟩ rfl (Tri.seq (Tri.regionL ?_)))
 obtain ⟨x_19, e33, h⟩ := bnd h
 refine Oc (op_call0 (skewbacklaw11_of_spec e33) goes50 rfl rfl) ?_
 obtain ⟨⟨x_20, x_21⟩, e34, h⟩ := bnd h
 refine Oc (op_call0 (unit_In_spec e34) goes11 rfl rfl) (Oc om ?_)
 refine OpsL.keepS ⟨[(3, _), (4, _), (5, _), (59, .tup [.agg (eFrc x_20), .one (.i x_21)])], []⟩ rfl (Oc (op_extract rfl rfl) (Oc (op_extract rfl rfl) (Oc (op_alloc (k := 102) tyZero27 rfl) (Oc (op_store_p tyAgg27 rfl rfl rfl rfl (Nat.le_of_ble_eq_true rfl) rfl) (Oc oa ?_)))))
 refine OpsL.nilS ⟨[(3, _), (4, _), (5, _), (6, Pt 102 0), (7, I x_21)], [(102, .box 27 (eFrc x_20))]⟩ rfl (Tri.seq (Tri.regionL ?_))
 obtain ⟨x_22, e35, h⟩ := bnd h
 refine Oc (op_call0 (skewbacklaw11_of_spec e35) goes50 rfl rfl) ?_
 obtain ⟨⟨x_23, x_24⟩, e36, h⟩ := bnd h
 refine Oc (op_call0 (unit_In_spec e36) goes11 rfl rfl) (Oc om ?_)
 refine OpsL.keepS ⟨[(3, _), (4, _), (5, _), (6, _), (7, _), (64, .tup [.agg (eFrc x_23), .one (.i x_24)])], [(102, _)]⟩ rfl (Oc (op_extract rfl rfl) (Oc (op_extract rfl rfl) (Oc (op_alloc (k := 103) tyZero27 rfl) (Oc (op_store_p tyAgg27 rfl rfl rfl rfl (Nat.le_of_ble_eq_true rfl) rfl) (Oc oa ?_)))))
 refine OpsL.nilS ⟨[(3, _), (4, _), (5, _), (6, _), (7, _), (9, I x_24)], [(102, _)]⟩ rfl (Tri.seq (Tri.regionL ?_))
 obtain ⟨x_25, e37, h⟩ := bnd h
 refine Oc (op_call0 (skewbacklaw11_of_spec e37) goes50 rfl rfl) ?_
 obtain ⟨x_26, e38, h⟩ := bnd h
 refine Oc (op_call0 (skewbacklaw11_of_spec e38) goes50 rfl rfl) (OpsL.keepS ⟨[(3, _), (4, _), (5, _), (6, _), (7, _), (9, _), (70, .b (.agg (eQuantity x_25))), (71, .b (.agg (eQuantity x_26)))], [(102, _)]⟩ rfl ?_)
 obtain ⟨⟨x_27, x_28⟩, e39, h⟩ := bnd h
 refine Oc (op_call0 (unit_Add_spec e39) goes36 rfl rfl) (Oc om (Oc (op_extract rfl rfl) (Oc (op_extract rfl rfl) (Oc (op_alloc (k := 104) tyZero31 rfl) (Oc (op_store_p tyAgg31 rfl rfl rfl rfl (Nat.le_of_ble_eq_true rfl) rfl) ?_)))))
 refine Oc oa (OpsL.nilS ⟨[(3, _), (4, _), (5, _), (6, _), (7, _), (9, _), (11, I x_28)], [(102, _)]⟩ rfl (Tri.seq (Tri.regionL ?_)))
 obtain ⟨x_29, e40, h⟩ := bnd h
 refine Oc (op_call0 (skewbacklaw11_of_spec e40) goes50 rfl rfl) ?_
 obtain ⟨x_30, e41, h⟩ := bnd h
 refine Oc (op_call0 (skewbacklaw11_of_spec e41) goes50 rfl rfl) (OpsL.keepS ⟨[(3, _), (4, _), (5, _), (6, _), (7, _), (9, _), (11, _), (76, .b (.agg (eQuantity x_29))), (77, .b (.agg (eQuantity x_30)))], [(102, _)]⟩ rfl ?_)
 obtain ⟨⟨x_31, x_32⟩, e42, h⟩ := bnd h
 refine Oc (op_call0 (unit_Over_spec e42) goes40 rfl rfl) (Oc om (Oc (op_extract rfl rfl) (Oc (op_extract rfl rfl) (Oc (op_alloc (k := 105) tyZero31 rfl) (Oc (op_store_p tyAgg31 rfl rfl rfl rfl (Nat.le_of_ble_eq_true rfl) rfl) ?_)))))
 refine Oc oa (OpsL.nilS ⟨[(3, _), (4, _), (5, _), (6, _), (7, _), (9, _), (11, _), (13, I x_32)], [(102, _)]⟩ rfl (Tri.seq ?_))
 obtain ⟨x_33, e43, h⟩ := bnd h
 refine Tri.regionY mixed 20 [.b (.agg (eFrc x_20)), .b (.agg (eFrc x_33)), B (decide (x_20 = x_33)), B (decide (x_20 = x_33)), .opt (decide (x_20 = x_33)) (.one (.i x_21)), .opt (decide (x_20 = x_33)) (.one (.bool (decide (x_21 = 0)))), B ((decide (x_20 = x_33)) && (decide (x_21 = 0))), B ((decide (x_20 = x_33)) && (decide (x_21 = 0))), .opt ((decide (x_20 = x_33)) && (decide (x_21 = 0))) (.one (.i x_24)), .opt ((decide (x_20 = x_33)) && (decide (x_21 = 0))) (.one (.bool (decide (x_24 = 110)))), B (((decide (x_20 = x_33)) && (decide (x_21 = 0))) && (decide (x_24 = 110))), B (((decide (x_20 = x_33)) && (decide (x_21 = 0))) && (decide (x_24 = 110))), .opt (((decide (x_20 = x_33)) && (decide (x_21 = 0))) && (decide (x_24 = 110))) (.one (.i x_28)), .opt (((decide (x_20 = x_33)) && (decide (x_21 = 0))) && (decide (x_24 = 110))) (.one (.bool (decide (x_28 = 110)))), B ((((decide (x_20 = x_33)) && (decide (x_21 = 0))) && (decide (x_24 = 110))) && (decide (x_28 = 110))), B ((((decide (x_20 = x_33)) && (decide (x_21 = 0))) && (decide (x_24 = 110))) && (decide (x_28 = 110))), .opt ((((decide (x_20 = x_33)) && (decide (x_21 = 0))) && (decide (x_24 = 110))) && (decide (x_28 = 110))) (.one (.i x_32)), .opt ((((decide (x_20 = x_33)) && (decide (x_21 = 0))) && (decide (x_24 = 110))) && (decide (x_28 = 110))) (.one (.bool (decide (x_32 = 31)))), B (((((decide (x_20 = x_33)) && (decide (x_21 = 0))) && (decide (x_24 = 110))) && (decide (x_28 = 110))) && (decide (x_32 = 31))), B (((((decide (x_20 = x_33)) && (decide (x_21 = 0))) && (decide (x_24 = 110))) && (decide (x_28 = 110))) && (decide (x_32 = 31)))] [3, 4, 5, 14] [] (s' := ⟨[(3, _), (4, _), (5, _), (14, B (((((decide (x_20 = x_33)) && (decide (x_21 = 0))) && (decide (x_24 = 110))) && (decide (x_28 = 110))) && (decide (x_32 = 31))))], []⟩) rfl ⟨fun _ => .p (lp tyAgg27), fun _ => .p (op_call0 (r4_Of_spec e43) goes52 rfl rfl), fun _ => .p (op_eql_agg (eqAgg27 x_20 x_33) rfl rfl), fun _ => .p om, fun _ => by exact .guard (decide (x_20 = x_33)) 1 [] (.plain rfl) (eq_t _) rfl rfl (fun g44 => trivial) (fun g44 => om), fun _ => by exact .guard (decide (x_20 = x_33)) 2 [85] (.plain rfl) (eq_t _) rfl rfl (fun g45 => ⟨g45, trivial⟩) (fun g45 => op_eql rfl rfl), fun _ => .p (op_pick_and (fun e => e) rfl rfl rfl rfl), fun _ => .p om, fun _ => by exact .guard ((decide (x_20 = x_33)) && (decide (x_21 = 0))) 1 [] (.plain rfl) (eq_t _) rfl rfl (fun g46 => trivial) (fun g46 => om), fun _ => by exact .guard ((decide (x_20 = x_33)) && (decide (x_21 = 0))) 2 [89] (.plain rfl) (eq_t _) rfl rfl (fun g47 => ⟨g47, trivial⟩) (fun g47 => op_eql rfl rfl), fun _ => .p (op_pick_and (fun e => e) rfl rfl rfl rfl), fun _ => .p om, fun _ => by exact .guard (((decide (x_20 = x_33)) && (decide (x_21 = 0))) && (decide (x_24 = 110))) 1 [] (.plain rfl) (eq_t _) rfl rfl (fun g48 => trivial) (fun g48 => om), fun _ => by exact .guard (((decide (x_20 = x_33)) && (decide (x_21 = 0))) && (decide (x_24 = 110))) 2 [93] (.plain rfl) (eq_t _) rfl rfl (fun g49 => ⟨g49, trivial⟩) (fun g49 => op_eql rfl rfl), fun _ => .p (op_pick_and (fun e => e) rfl rfl rfl rfl), fun _ => .p om, fun _ => by exact .guard ((((decide (x_20 = x_33)) && (decide (x_21 = 0))) && (decide (x_24 = 110))) && (decide (x_28 = 110))) 1 [] (.plain rfl) (eq_t _) rfl rfl (fun g50 => trivial) (fun g50 => om), fun _ => by exact .guard ((((decide (x_20 = x_33)) && (decide (x_21 = 0))) && (decide (x_24 = 110))) && (decide (x_28 = 110))) 2 [97] (.plain rfl) (eq_t _) rfl rfl (fun g51 => ⟨g51, trivial⟩) (fun g51 => op_eql rfl rfl), fun _ => .p (op_pick_and (fun e => e) rfl rfl rfl rfl), fun _ => .p oa, trivial⟩ rfl rfl ?_
 refine Tri.seq (Tri.regionL ?_)
 refine Oc om (Oc om ?_)
 refine CgT ((decide (x_1 = x_3)) && (decide (x_2 = 0))) [] (fun g52 => trivial) (fun g52 => om) (Oc (op_pick_and (fun e => e) rfl rfl rfl rfl) (Oc om ?_))
 refine CgT (((decide (x_1 = x_3)) && (decide (x_2 = 0))) && x_9) [] (fun g53 => trivial) (fun g53 => om) (OpsL.consB h rfl (op_pick_and (fun e => e) rfl rfl rfl rfl) (fun x_34 h => ?_))
 refine OpsL.keepS ⟨[(14, _), (106, B x_34)], []⟩ rfl (Oc om (CgT x_34 [] (fun g54 => by exact trivial) (fun g54 => om) (OpsL.consB h rfl (op_pick_and (fun e => e) rfl rfl rfl rfl) (fun x_35 h => ?_))))
 refine Oc om ?_
 obtain ⟨x_36, e56, h⟩ := bnd h
 refine CgT x_35 [] (fun g55 => trivial) (fun g55 => op_call0 (skewbacklaw11_refuses_spec (gc e56 g55)) goes53 rfl rfl) (Oc (op_pick_and (fun e => e) rfl rfl rfl rfl) (OpsL.keepS ⟨[(112, B (x_35 && x_36))], []⟩ rfl (Oc om ?_)))
 obtain ⟨x_37, e58, h⟩ := bnd h
 refine CgT (x_35 && x_36) [] (fun g57 => trivial) (fun g57 => op_call0 (skewbacklaw11_refuses_spec (gc e58 g57)) goes53 rfl rfl) (Oc (op_pick_and (fun e => e) rfl rfl rfl rfl) (Oc om ?_))
 refine OpsL.keepS ⟨[(116, B ((x_35 && x_36) && x_37))], []⟩ rfl ?_
 obtain ⟨x_38, e60, h⟩ := bnd h
 refine CgT ((x_35 && x_36) && x_37) [] (fun g59 => trivial) (fun g59 => op_call0 (skewbacklaw11_refuses_spec (gc e60 g59)) goes53 rfl rfl) (Oc (op_pick_and (fun e => e) rfl rfl rfl rfl) (Oc om ?_))
 obtain ⟨x_39, e62, h⟩ := bnd h
 refine CgT (((x_35 && x_36) && x_37) && x_38) [] (fun g61 => trivial) (fun g61 => op_call0 (skewbacklaw11_refuses_spec (gc e62 g61)) goes53 rfl rfl) (Oc (op_pick_and (fun e => e) rfl rfl rfl rfl) (Oc om ?_))
 refine OpsL.keepS ⟨[(122, B ((((x_35 && x_36) && x_37) && x_38) && x_39))], []⟩ rfl ?_
 obtain ⟨x_40, e64, h⟩ := bnd h
 refine CgT ((((x_35 && x_36) && x_37) && x_38) && x_39) [] (fun g63 => trivial) (fun g63 => op_call0 (skewbacklaw11_refuses_spec (gc e64 g63)) goes53 rfl rfl) (Oc (op_pick_and (fun e => e) rfl rfl rfl rfl) (Oc oa ?_))
 refine OpsL.nilS ⟨[(0, B (((((x_35 && x_36) && x_37) && x_38) && x_39) && x_40))], []⟩ rfl (Tri.ret ?_)
 obtain rfl := Option.some.inj h
 refine Fin.keepS ⟨[(0, _)], []⟩ rfl (Fin.result' [.one (.bool (((((x_35 && x_36) && x_37) && x_38) && x_39) && x_40))] (.inl rfl) rfl (.cons (.tmp rfl) .nil) ⟨rfl, rfl⟩)
def skewbacklaw11_UnitPrintsBack_S (F : Nat) (a0 : Quantity) : Option Bool :=
 (skewbackref11_Right_S F a0).bind fun x_1 => (gcall (!(!x_1)) (r3_Bits_S F a0.V.N)).bind fun x_2 => (gcall (!((!x_1) || (decide (400 < x_2)))) (r3_Bits_S F a0.V.D)).bind fun x_3 => if (((!x_1) || (decide (400 < x_2))) || (decide (400 < x_3))) = true then ((skewbacklaw11_sanity_S F).bind fun x_4 => some x_4) else ((unit_Print_S F a0.U).bind fun x_5 => Option.bind (unit_Parse_S F x_5) (un2 fun x_6 x_7 => (unit_Write_S F a0).bind fun x_8 => Option.bind (unit_Read_S F x_8) (un2 fun x_9 x_10 => (skewbacklaw11_sanity_S F).bind fun x_11 => (gcall (x_11 && (decide (x_7 = 0))) (q_Of_S F 1)).bind fun x_12 => some ((((x_11 && (decide (x_7 = 0))) && (decide (x_6 = (⟨x_12, a0.U⟩ : Quantity)))) && (decide (x_10 = 0))) && (decide (x_9 = a0))))))
theorem skewbacklaw11_UnitPrintsBack_spec {F : Nat} {a0 : Quantity} {r : Bool} (h : skewbacklaw11_UnitPrintsBack_S F a0 = some r) : Meets Tryz.prog (tabs mx) 4 [] [.agg (eQuantity a0)] (Is [] (.b (.one (.bool r)))) := by
 unfold skewbacklaw11_UnitPrintsBack_S at h
 refine Meets.intro 60 Tryz.func4 Tryz.ntmps4 rfl (by simp) fun E => ?_
 show Tri _ E ⟨60, [], []⟩ _ ⟨[(0, .b (.agg (eQuantity a0)))], []⟩ _
 refine Tri.seq (Tri.regionL ?_)
 refine Oc (op_box (k := 101) rfl rfl) (Oc oa ?_)
 refine OpsL.nilS ⟨[(1, Pt 101 0)], [(101, .box 31 (eQuantity a0))]⟩ rfl (Tri.seq (Tri.seq (Tri.regionL ?_)))
 refine Oc (lp tyAgg31) ?_
 obtain ⟨x_1, e1, h⟩ := bnd h
 refine Oc (op_call0 (skewbackref11_Right_spec e1) goes15 rfl rfl) (Oc (op_not rfl) (Oc om ?_))
 refine CgF (!(!x_1)) [] (fun g2 => trivial) (fun g2 => op_field_p tyFld31_0 rfl rfl) (OpsL.keepS ⟨[(1, _), (10, B (!x_1)), (11, .opt (!(!x_1)) (.ptr 101 0))], [(101, _)]⟩ rfl (CgF (!(!x_1)) [11] (fun g3 => ⟨g3, trivial⟩) (fun g3 => op_field_p tyFld27_0 rfl rfl) (CgF (!(!x_1)) [12] (fun g4 => ⟨g4, trivial⟩) (fun g4 => lp tyAgg25) ?_)))
 obtain ⟨x_2, e6, h⟩ := bnd h
 refine CgF (!(!x_1)) [13] (fun g5 => ⟨g5, trivial⟩) (fun g5 => op_call0 (r3_Bits_spec (gc e6 g5)) goes16 rfl rfl) (CgF (!(!x_1)) [14] (fun g7 => ⟨g7, trivial⟩) (fun g7 => op_gtr rfl rfl) (Oc (op_pick_or (fun e => by rw [e]; rfl) rfl rfl rfl rfl) (Oc om ?_)))
 refine OpsL.keepS ⟨[(1, _), (17, B ((!x_1) || (decide (400 < x_2))))], [(101, _)]⟩ rfl (CgF (!((!x_1) || (decide (400 < x_2)))) [] (fun g8 => trivial) (fun g8 => op_field_p tyFld31_0 rfl rfl) (CgF (!((!x_1) || (decide (400 < x_2)))) [18] (fun g9 => ⟨g9, trivial⟩) (fun g9 => op_field_p tyFld27_1 rfl rfl) (CgF (!((!x_1) || (decide (400 < x_2)))) [19] (fun g10 => ⟨g10, trivial⟩) (fun g10 => lp tyAgg25) ?_)))
 obtain ⟨x_3, e12, h⟩ := bnd h
 refine CgF (!((!x_1) || (decide (400 < x_2)))) [20] (fun g11 => ⟨g11, trivial⟩) (fun g11 => op_call0 (r3_Bits_spec (gc e12 g11)) goes16 rfl rfl) (CgF (!((!x_1) || (decide (400 < x_2)))) [21] (fun g13 => ⟨g13, trivial⟩) (fun g13 => op_gtr rfl rfl) (Oc (op_pick_or (fun e => by rw [e]; rfl) rfl rfl rfl rfl) (OpsL.nilS ⟨[(1, _), (23, B (((!x_1) || (decide (400 < x_2))) || (decide (400 < x_3))))], [(101, _)]⟩ rfl (Tri.ite h rfl (fun _ h => ?_) (fun _ h => ?_)))))
 ·refine Tri.seq (Tri.regionL ?_)
  obtain ⟨x_4, e14, h⟩ := bnd h
  refine Oc (op_call0 (skewbacklaw11_sanity_spec e14) goes10 rfl rfl) (Oc oa ?_)
  refine OpsL.nilS ⟨[(2, B x_4)], []⟩ rfl (Tri.ret (Fin.then_ret ?_))
  obtain rfl := Option.some.inj h
  refine Fin.keepS ⟨[(2, _)], []⟩ rfl (Fin.result' [.one (.bool x_4)] (.inl rfl) rfl (.cons (.tmp rfl) .nil) ⟨rfl, rfl⟩)
 ·refine Tri.skip (Fin.keepS ⟨[(1, _)], [(101, _)]⟩ rfl (Fin.then (Tri.seq (Tri.regionL ?_))))
  refine Oc (op_field_p tyFld31_1 rfl rfl) (Oc (lp tyAgg29) ?_)
  obtain ⟨x_5, e15, h⟩ := bnd h
  refine Oc (op_call0 (unit_Print_spec e15) goes18 rfl rfl) (OpsL.keepS ⟨[(1, _), (28, .b (.one (.str x_5)))], [(101, _)]⟩ rfl ?_)
  obtain ⟨⟨x_6, x_7⟩, e16, h⟩ := bnd h
  refine Oc (op_call0 (unit_Parse_spec e16) goes17 rfl rfl) (Oc om (Oc (op_extract rfl rfl) (Oc (op_extract rfl rfl) (Oc (op_alloc (k := 102) tyZero31 rfl) (Oc (op_store_p tyAgg31 rfl rfl rfl rfl (Nat.le_of_ble_eq_true rfl) rfl) ?_)))))
  refine Oc oa (OpsL.nilS ⟨[(1, _), (3, Pt 102 0), (4, I x_7)], [(101, _), (102, .box 31 (eQuantity x_6))]⟩ rfl (Tri.seq (Tri.regionL ?_)))
  refine Oc (lp tyAgg31) ?_
  obtain ⟨x_8, e17, h⟩ := bnd h
  refine Oc (op_call0 (unit_Write_spec e17) goes19 rfl rfl) ?_
  obtain ⟨⟨x_9, x_10⟩, e18, h⟩ := bnd h
  refine Oc (op_call0 (unit_Read_spec e18) goes13 rfl rfl) (OpsL.keepS ⟨[(1, _), (3, _), (4, _), (35, .tup [.agg (eQuantity x_9), .one (.i x_10)])], [(101, _), (102, _)]⟩ rfl (Oc om (Oc (op_extract rfl rfl) (Oc (op_extract rfl rfl) (Oc (op_alloc (k := 103) tyZero31 rfl) (Oc (op_store_p tyAgg31 rfl rfl rfl rfl (Nat.le_of_ble_eq_true rfl) rfl) (Oc oa ?_)))))))
  refine OpsL.nilS ⟨[(1, _), (3, _), (4, _), (5, Pt 103 0), (6, I x_10)], [(101, _), (102, _), (103, .box 31 (eQuantity x_9))]⟩ rfl (Tri.seq ?_)
  obtain ⟨x_11, e19, h⟩ := bnd h
  obtain ⟨x_12, e24, h⟩ := bnd h
  refine Tri.regionY mixed 23 [B x_11, B x_11, .opt x_11 (.one (.i x_7)), .opt x_11 (.one (.bool (decide (x_7 = 0)))), B (x_11 && (decide (x_7 = 0))), B (x_11 && (decide (x_7 = 0))), .opt (x_11 && (decide (x_7 = 0))) (.agg (eQuantity x_6)), .opt (x_11 && (decide (x_7 = 0))) (.agg (eFrc x_12)), .opt (x_11 && (decide (x_7 = 0))) (.ptr 101 36), .opt (x_11 && (decide (x_7 = 0))) (.agg (eMUnit a0.U)), .opt (x_11 && (decide (x_7 = 0))) (.agg (eFrc x_12 ++ (eMUnit a0.U))), .opt (x_11 && (decide (x_7 = 0))) (.one (.bool (decide (x_6 = (⟨x_12, a0.U⟩ : Quantity))))), B ((x_11 && (decide (x_7 = 0))) && (decide (x_6 = (⟨x_12, a0.U⟩ : Quantity)))), B ((x_11 && (decide (x_7 = 0))) && (decide (x_6 = (⟨x_12, a0.U⟩ : Quantity)))), .opt ((x_11 && (decide (x_7 = 0))) && (decide (x_6 = (⟨x_12, a0.U⟩ : Quantity)))) (.one (.i x_10)), .opt ((x_11 && (decide (x_7 = 0))) && (decide (x_6 = (⟨x_12, a0.U⟩ : Quantity)))) (.one (.bool (decide (x_10 = 0)))), B (((x_11 && (decide (x_7 = 0))) && (decide (x_6 = (⟨x_12, a0.U⟩ : Quantity)))) && (decide (x_10 = 0))), B (((x_11 && (decide (x_7 = 0))) && (decide (x_6 = (⟨x_12, a0.U⟩ : Quantity)))) && (decide (x_10 = 0))), .opt (((x_11 && (decide (x_7 = 0))) && (decide (x_6 = (⟨x_12, a0.U⟩ : Quantity)))) && (decide (x_10 = 0))) (.agg (eQuantity x_9)), .opt (((x_11 && (decide (x_7 = 0))) && (decide (x_6 = (⟨x_12, a0.U⟩ : Quantity)))) && (decide (x_10 = 0))) (.agg (eQuantity a0)), .opt (((x_11 && (decide (x_7 = 0))) && (decide (x_6 = (⟨x_12, a0.U⟩ : Quantity)))) && (decide (x_10 = 0))) (.one (.bool (decide (x_9 = a0)))), B ((((x_11 && (decide (x_7 = 0))) && (decide (x_6 = (⟨x_12, a0.U⟩ : Quantity)))) && (decide (x_10 = 0))) && (decide (x_9 = a0))), B ((((x_11 && (decide (x_7 = 0))) && (decide (x_6 = (⟨x_12, a0.U⟩ : Quantity)))) && (decide (x_10 = 0))) && (decide (x_9 = a0)))] [2] [] (s' := ⟨[(2, B ((((x_11 && (decide (x_7 = 0))) && (decide (x_6 = (⟨x_12, a0.U⟩ : Quantity)))) && (decide (x_10 = 0))) && (decide (x_9 = a0))))], []⟩) rfl ⟨fun _ => .p (op_call0 (skewbacklaw11_sanity_spec e19) goes10 rfl rfl), fun _ => .p om, fun _ => by exact .guard x_11 1 [] (.plain rfl) (eq_t _) rfl rfl (fun g20 => trivial) (fun g20 => om), fun _ => by exact .guard x_11 2 [40] (.plain rfl) (eq_t _) rfl rfl (fun g21 => ⟨g21, trivial⟩) (fun g21 => op_eql rfl rfl), fun _ => .p (op_pick_and (fun e => e) rfl rfl rfl rfl), fun _ => .p om, fun _ => by exact .guard (x_11 && (decide (x_7 = 0))) 1 [] (.plain rfl) (eq_t _) rfl rfl (fun g22 => trivial) (fun g22 => lp tyAgg31), fun _ => by exact .guard (x_11 && (decide (x_7 = 0))) 2 [] (.plain rfl) (eq_t _) rfl rfl (fun g23 => trivial) (fun g23 => op_call0 (q_Of_spec (gc e24 g23)) goes20 rfl rfl), fun _ => by exact .guard (x_11 && (decide (x_7 = 0))) 1 [] (.plain rfl) (eq_t _) rfl rfl (fun g25 => trivial) (fun g25 => op_field_p tyFld31_1 rfl rfl), fun _ => by exact .guard (x_11 && (decide (x_7 = 0))) 2 [46] (.plain rfl) (eq_t _) rfl rfl (fun g26 => ⟨g26, trivial⟩) (fun g26 => lp tyAgg29), fun _ => by exact .guard (x_11 && (decide (x_7 = 0))) 3 [45, 47] (.plain rfl) (eq_t _) rfl rfl (fun g27 => ⟨g27, g27, trivial⟩) (fun g27 => op_build tyBuild31 rfl rfl), fun _ => by exact .guard (x_11 && (decide (x_7 = 0))) 3 [44, 48] (.plain rfl) (eq_t _) rfl rfl (fun g28 => ⟨g28, g28, trivial⟩) (fun g28 => op_eql_agg (eqAgg31 x_6 (⟨x_12, a0.U⟩ : Quantity)) rfl rfl), fun _ => .p (op_pick_and (fun e => e) rfl rfl rfl rfl), fun _ => .p om, fun _ => by exact .guard ((x_11 && (decide (x_7 = 0))) && (decide (x_6 = (⟨x_12, a0.U⟩ : Quantity)))) 1 [] (.plain rfl) (eq_t _) rfl rfl (fun g29 => trivial) (fun g29 => om), fun _ => by exact .guard ((x_11 && (decide (x_7 = 0))) && (decide (x_6 = (⟨x_12, a0.U⟩ : Quantity)))) 2 [52] (.plain rfl) (eq_t _) rfl rfl (fun g30 => ⟨g30, trivial⟩) (fun g30 => op_eql rfl rfl), fun _ => .p (op_pick_and (fun e => e) rfl rfl rfl rfl), fun _ => .p om, fun _ => by exact .guard (((x_11 && (decide (x_7 = 0))) && (decide (x_6 = (⟨x_12, a0.U⟩ : Quantity)))) && (decide (x_10 = 0))) 1 [] (.plain rfl) (eq_t _) rfl rfl (fun g31 => trivial) (fun g31 => lp tyAgg31), fun _ => by exact .guard (((x_11 && (decide (x_7 = 0))) && (decide (x_6 = (⟨x_12, a0.U⟩ : Quantity)))) && (decide (x_10 = 0))) 1 [] (.plain rfl) (eq_t _) rfl rfl (fun g32 => trivial) (fun g32 => lp tyAgg31), fun _ => by exact .guard (((x_11 && (decide (x_7 = 0))) && (decide (x_6 = (⟨x_12, a0.U⟩ : Quantity)))) && (decide (x_10 = 0))) 3 [56, 57] (.plain rfl) (eq_t _) rfl rfl (fun g33 => ⟨g33, g33, trivial⟩) (fun g33 => op_eql_agg (eqAgg31 x_9 a0) rfl rfl), fun _ => .p (op_pick_and (fun e => e) rfl rfl rfl rfl), fun _ => .p oa, trivial⟩ rfl rfl ?_
  refine Tri.ret ?_
  obtain rfl := Option.some.inj h
  refine Fin.keepS ⟨[(2, _)], []⟩ rfl (Fin.result' [.one (.bool ((((x_11 && (decide (x_7 = 0))) && (decide (x_6 = (⟨x_12, a0.U⟩ : Quantity)))) && (decide (x_10 = 0))) && (decide (x_9 = a0))))] (.inl rfl) rfl (.cons (.tmp rfl) .nil) ⟨rfl, rfl⟩)
end Go.Proofs.YtcbbilehdaaffaaGreatDoor

