/- printed walks -/
import Derived.Test.YtipepglcceogiaaW2
namespace Go.Proofs.Ytipepglcceogiaa
open Go.Sk
set_option maxHeartbeats 1000000
set_option maxRecDepth 4000
set_option linter.unusedSimpArgs false
set_option linter.unusedVariables false
def skewbacklaw41_RegionStepsAsSpecified_S (F : Nat) (l0 : List Holding) (node0 : Int) (body0 : Int) (to0 : Int) (data0 : Str) (x0 : Parcel) : Option Bool :=
 Option.bind (skewbacklaw41_short_S F l0) (fun x_1 => letN (((!x_1) || (decide (100 < (data0.length : Int)))) || (decide (100 < (x0.Data.length : Int)))) fun x_2 => if x_2 = true then (Option.bind (skewbacklaw41_sanity_S F) (fun x_3 => some x_3)) else (Option.bind (region_Valid_S F l0) (fun x_4 => Option.bind (skewbackref41_Valid_S F l0) (fun x_5 => if (x_4 != x_5) = true then (some false) else (Option.bind (skewbackref41_Valid_S F l0) (fun x_6 => if (!x_6) = true then (Option.bind (skewbacklaw41_sanity_S F) (fun x_7 => some x_7)) else (Option.bind (region_Begin_S F l0 body0 data0) (un2 fun x_8 x_9 => Option.bind (region_Put_S F l0 body0 data0) (un2 fun x_10 x_11 => Option.bind (region_Offer_S F l0 node0 body0 to0) (un2 fun x_12 x_13 => Option.bind (region_Cancel_S F l0 body0) (un2 fun x_14 x_15 => Option.bind (skewbackref41_Begin_S F l0 body0 data0) (fun x_16 => Option.bind (skewbacklaw41_same_S F x_8 x_9 x_16) (fun x_17 => Option.bind (gcall (!(!x_17)) (skewbackref41_Put_S F l0 body0 data0)) (fun x_18 => Option.bind (gcall (!(!x_17)) (skewbacklaw41_same_S F x_10 x_11 x_18)) (fun x_19 => Option.bind (gcall (!((!x_17) || (!x_19))) (skewbackref41_Offer_S F l0 node0 body0 to0)) (fun x_20 => Option.bind (gcall (!((!x_17) || (!x_19))) (skewbacklaw41_same_S F x_12 x_13 x_20)) (fun x_21 => Option.bind (gcall (!(((!x_17) || (!x_19)) || (!x_21))) (skewbackref41_Cancel_S F l0 body0)) (fun x_22 => Option.bind (gcall (!(((!x_17) || (!x_19)) || (!x_21))) (skewbacklaw41_same_S F x_14 x_15 x_22)) (fun x_23 => Option.bind (gcall (!((((!x_17) || (!x_19)) || (!x_21)) || (!x_23))) (region_Get_S F l0 body0)) (fun x_24 => Option.bind (gcall (!((((!x_17) || (!x_19)) || (!x_21)) || (!x_23))) (skewbackref41_Get_S F l0 body0)) (fun x_25 => letN (((((!x_17) || (!x_19)) || (!x_21)) || (!x_23)) || (decide (x_24 ≠ x_25))) fun x_26 => if x_26 = true then (some false) else (Option.bind (region_Receive_S F l0 node0 x0) (un2 fun x_27 x_28 => Option.bind (skewbackref41_Receive_S F l0 node0 x0) (fun x_29 => Option.bind (skewbackref41_Same_S F x_27 x_29.L) (fun x_30 => Option.bind (gcall (!(!x_30)) (skewbackref41_SameLetters_S F x_28 x_29.Sent)) (fun x_31 => Option.bind (gcall (!((!x_30) || (!x_31))) (region_Letters_S F l0 node0)) (fun x_32 => Option.bind (gcall (!((!x_30) || (!x_31))) (skewbackref41_Letters_S F l0 node0)) (fun x_33 => Option.bind (gcall (!((!x_30) || (!x_31))) (skewbackref41_SameLetters_S F x_32 x_33)) (fun x_34 => if (((!x_30) || (!x_31)) || (!x_34)) = true then (some false) else (Option.bind (letN ([x_8, x_10, x_12, x_14, x_27].length : Int) fun x_35 => iter F (fun x_36 => if (decide (x_36 < x_35)) = true then (Option.bind (idx? [x_8, x_10, x_12, x_14, x_27] x_36) (fun x_37 => Option.bind (region_Valid_S F x_37) (fun x_38 => if (!x_38) = true then (some (.inr (.inr false))) else (some (.inl (IntKind.i64.wrap (x_36 + 1))))))) else (some (.inr (.inl ())))) 0) (alt2 (fun _ => Option.bind (region_Active_S F l0) (fun x_39 => Option.bind (skewbackref41_Active_S F l0) (fun x_40 => if (decide ((x_39.length : Int) ≠ (x_40.length : Int))) = true then (some false) else (Option.bind (iter F (fun x_41 => if (decide (x_41 < (x_39.length : Int))) = true then (Option.bind (idx? x_39 x_41) (fun x_42 => Option.bind (idx? x_40 x_41) (fun x_43 => if (decide (x_42 ≠ x_43)) = true then (some (.inr (.inr false))) else (some (.inl (IntKind.i64.wrap (x_41 + 1))))))) else (some (.inr (.inl ())))) 0) (alt2 (fun _ => Option.bind (region_Receive_S F x_27 node0 x0) (un2 fun x_44 x_45 => Option.bind (skewbacklaw41_sanity_S F) (fun x_46 => Option.bind (gcall x_46 (skewbackref41_Same_S F x_44 x_27)) (fun x_47 => Option.bind (gcall ((x_46 && x_47) && !(decide (x0.Kind ≠ 3))) (skewbackref41_SameLetters_S F x_28 x_45)) (fun x_48 => some ((x_46 && x_47) && ((decide (x0.Kind ≠ 3)) || x_48))))))) (fun y => some y)))))) (fun y => some y))))))))))))))))))))))))))))))))
theorem skewbacklaw41_RegionStepsAsSpecified_spec {F : Nat} {l0 : List Holding} {node0 : Int} {body0 : Int} {to0 : Int} {data0 : Str} {x0 : Parcel} {r : Bool} (h : skewbacklaw41_RegionStepsAsSpecified_S F l0 node0 body0 to0 data0 x0 = some r) : Meets Try.prog 6 [] [.one (.sl 5 (l0.map eHolding)), .one (.i node0), .one (.i body0), .one (.i to0), .one (.str data0), .agg (eParcel x0)] (Is [] (.b (.one (.bool r)))) := by
  unfold skewbacklaw41_RegionStepsAsSpecified_S at h
  refine Meets.intro 225 Try.func6 Try.ntmps6 rfl (by simp) fun E => ?_
  show Tri _ E ⟨225, [], []⟩ _ ⟨[(0, .b (.one (.sl 5 (l0.map eHolding)))), (1, I node0), (2, I body0), (3, I to0), (4, .b (.one (.str data0))), (5, .b (.agg [.i x0.From, .i x0.To, .i x0.Kind, .i x0.Body, .i x0.Epoch, .str x0.Data]))], []⟩ _
  refine Tri.seq ?_
  refine Tri.regionL ?_
  refine OpsL.cons rfl (op_box (k := 101) rfl rfl) ?_
  refine OpsL.cons rfl (op_assign rfl) ?_
  refine OpsL.nilK [0, 1, 2, 3, 4, 11] [101] (s' := ⟨[(0, .b (.one (.sl 5 (l0.map eHolding)))), (1, I node0), (2, I body0), (3, I to0), (4, .b (.one (.str data0))), (11, .b (.ptr 101 0))], [(101, .box 45 [.i x0.From, .i x0.To, .i x0.Kind, .i x0.Body, .i x0.Epoch, .str x0.Data])]⟩) rfl ?_
  refine Tri.seq ?_
  refine Tri.seq ?_
  refine Tri.regionL ?_
  refine OpsL.cons rfl (op_move rfl) ?_
  obtain ⟨x_1, e1, h⟩ := bnd h
  refine OpsL.cons rfl (op_call0 (skewbacklaw41_short_spec e1) goes18 rfl rfl) ?_
  refine OpsL.cons rfl (op_not rfl) ?_
  refine OpsL.cons rfl (op_move rfl) ?_
  refine OpsL.consG (!(!x_1)) 99 [] (.plain rfl) (eq_f _) rfl rfl (fun g2 => trivial) (fun g2 => op_move rfl) ?_
  refine OpsL.keep [0, 1, 2, 3, 4, 11, 34, 35] [101] (s' := ⟨[(0, .b (.one (.sl 5 (l0.map eHolding)))), (1, I node0), (2, I body0), (3, I to0), (4, .b (.one (.str data0))), (11, .b (.ptr 101 0)), (34, B (!x_1)), (35, .opt (!(!x_1)) (.one (.str data0)))], [(101, .box 45 [.i x0.From, .i x0.To, .i x0.Kind, .i x0.Body, .i x0.Epoch, .str x0.Data])]⟩) rfl ?_
  refine OpsL.consG (!(!x_1)) 99 [35] (.plain rfl) (eq_f _) rfl rfl (fun g3 => ⟨g3, trivial⟩) (fun g3 => op_len_str und9 rfl) ?_
  refine OpsL.consG (!(!x_1)) 99 [36] (.plain rfl) (eq_f _) rfl rfl (fun g4 => ⟨g4, trivial⟩) (fun g4 => op_gtr rfl rfl) ?_
  refine OpsL.cons rfl (op_pick_or (fun e => by rw [e]; rfl) rfl rfl rfl rfl) ?_
  refine OpsL.cons rfl (op_move rfl) ?_
  refine OpsL.consG (!((!x_1) || (decide (100 < (data0.length : Int))))) 99 [] (.plain rfl) (eq_f _) rfl rfl (fun g5 => trivial) (fun g5 => op_field_p tyFld45_5 rfl rfl) ?_
  refine OpsL.consG (!((!x_1) || (decide (100 < (data0.length : Int))))) 99 [40] (.plain rfl) (eq_f _) rfl rfl (fun g6 => ⟨g6, trivial⟩) (fun g6 => op_load_p1 tyOne9 rfl rfl rfl) ?_
  refine OpsL.consG (!((!x_1) || (decide (100 < (data0.length : Int))))) 99 [41] (.plain rfl) (eq_f _) rfl rfl (fun g7 => ⟨g7, trivial⟩) (fun g7 => op_len_str und9 rfl) ?_
  refine OpsL.consG (!((!x_1) || (decide (100 < (data0.length : Int))))) 99 [42] (.plain rfl) (eq_f _) rfl rfl (fun g8 => ⟨g8, trivial⟩) (fun g8 => op_gtr rfl rfl) ?_
  refine OpsL.consB h rfl (op_pick_or (fun e => by rw [e]; rfl) rfl rfl rfl rfl) (fun x_2 h => ?_)
  refine OpsL.nilK [0, 1, 2, 3, 4, 11, 44] [101] (s' := ⟨[(0, .b (.one (.sl 5 (l0.map eHolding)))), (1, I node0), (2, I body0), (3, I to0), (4, .b (.one (.str data0))), (11, .b (.ptr 101 0)), (44, B x_2)], [(101, .box 45 [.i x0.From, .i x0.To, .i x0.Kind, .i x0.Body, .i x0.Epoch, .str x0.Data])]⟩) rfl ?_
  refine Tri.ite h rfl (fun _ h => ?_) (fun _ h => ?_)
  · refine Tri.seq ?_
    refine Tri.regionL ?_
    obtain ⟨x_3, e9, h⟩ := bnd h
    refine OpsL.cons rfl (op_call0 (skewbacklaw41_sanity_spec e9) goes7 rfl rfl) ?_
    refine OpsL.cons rfl (op_assign rfl) ?_
    refine OpsL.nilK [12] [] (s' := ⟨[(12, B x_3)], []⟩) rfl ?_
    refine Tri.ret ?_
    refine Fin.then_ret ?_
    obtain rfl := Option.some.inj h
    refine Fin.keep [12] [] (s' := ⟨[(12, B x_3)], []⟩) rfl ?_
    refine Fin.result' [.one (.bool x_3)] (.inl rfl) rfl (.cons (.tmp rfl) .nil) ⟨rfl, rfl⟩
  · refine Tri.skip ?_
    refine Fin.keep [0, 1, 2, 3, 4, 11] [101] (s' := ⟨[(0, .b (.one (.sl 5 (l0.map eHolding)))), (1, I node0), (2, I body0), (3, I to0), (4, .b (.one (.str data0))), (11, .b (.ptr 101 0))], [(101, .box 45 [.i x0.From, .i x0.To, .i x0.Kind, .i x0.Body, .i x0.Epoch, .str x0.Data])]⟩) rfl ?_
    refine Fin.then ?_
    refine Tri.seq ?_
    refine Tri.seq ?_
    refine Tri.regionL ?_
    refine OpsL.cons rfl (op_move rfl) ?_
    obtain ⟨x_4, e10, h⟩ := bnd h
    refine OpsL.cons rfl (op_call0 (region_Valid_spec e10) goes19 rfl rfl) ?_
    refine OpsL.cons rfl (op_move rfl) ?_
    obtain ⟨x_5, e11, h⟩ := bnd h
    refine OpsL.cons rfl (op_call0 (skewbackref41_Valid_spec e11) goes20 rfl rfl) ?_
    refine OpsL.cons rfl (op_neq_bool und4 rfl rfl) ?_
    refine OpsL.nilK [0, 1, 2, 3, 4, 11, 50] [101] (s' := ⟨[(0, .b (.one (.sl 5 (l0.map eHolding)))), (1, I node0), (2, I body0), (3, I to0), (4, .b (.one (.str data0))), (11, .b (.ptr 101 0)), (50, B (x_4 != x_5))], [(101, .box 45 [.i x0.From, .i x0.To, .i x0.Kind, .i x0.Body, .i x0.Epoch, .str x0.Data])]⟩) rfl ?_
    refine Tri.ite h rfl (fun _ h => ?_) (fun _ h => ?_)
    · refine Tri.seq ?_
      refine Tri.regionL ?_
      refine OpsL.cons rfl (op_assign rfl) ?_
      refine OpsL.nilK [12] [] (s' := ⟨[(12, B false)], []⟩) rfl ?_
      refine Tri.ret ?_
      refine Fin.then_ret ?_
      obtain rfl := Option.some.inj h
      refine Fin.keep [12] [] (s' := ⟨[(12, B false)], []⟩) rfl ?_
      refine Fin.result' [.one (.bool false)] (.inl rfl) rfl (.cons (.tmp rfl) .nil) ⟨rfl, rfl⟩
    · refine Tri.skip ?_
      refine Fin.keep [0, 1, 2, 3, 4, 11] [101] (s' := ⟨[(0, .b (.one (.sl 5 (l0.map eHolding)))), (1, I node0), (2, I body0), (3, I to0), (4, .b (.one (.str data0))), (11, .b (.ptr 101 0))], [(101, .box 45 [.i x0.From, .i x0.To, .i x0.Kind, .i x0.Body, .i x0.Epoch, .str x0.Data])]⟩) rfl ?_
      refine Fin.then ?_
      refine Tri.seq ?_
      refine Tri.seq ?_
      refine Tri.regionL ?_
      refine OpsL.cons rfl (op_move rfl) ?_
      obtain ⟨x_6, e12, h⟩ := bnd h
      refine OpsL.cons rfl (op_call0 (skewbackref41_Valid_spec e12) goes20 rfl rfl) ?_
      refine OpsL.cons rfl (op_not rfl) ?_
      refine OpsL.nilK [0, 1, 2, 3, 4, 11, 53] [101] (s' := ⟨[(0, .b (.one (.sl 5 (l0.map eHolding)))), (1, I node0), (2, I body0), (3, I to0), (4, .b (.one (.str data0))), (11, .b (.ptr 101 0)), (53, B (!x_6))], [(101, .box 45 [.i x0.From, .i x0.To, .i x0.Kind, .i x0.Body, .i x0.Epoch, .str x0.Data])]⟩) rfl ?_
      refine Tri.ite h rfl (fun _ h => ?_) (fun _ h => ?_)
      · refine Tri.seq ?_
        refine Tri.regionL ?_
        obtain ⟨x_7, e13, h⟩ := bnd h
        refine OpsL.cons rfl (op_call0 (skewbacklaw41_sanity_spec e13) goes7 rfl rfl) ?_
        refine OpsL.cons rfl (op_assign rfl) ?_
        refine OpsL.nilK [12] [] (s' := ⟨[(12, B x_7)], []⟩) rfl ?_
        refine Tri.ret ?_
        refine Fin.then_ret ?_
        obtain rfl := Option.some.inj h
        refine Fin.keep [12] [] (s' := ⟨[(12, B x_7)], []⟩) rfl ?_
        refine Fin.result' [.one (.bool x_7)] (.inl rfl) rfl (.cons (.tmp rfl) .nil) ⟨rfl, rfl⟩
      · refine Tri.skip ?_
        refine Fin.keep [0, 1, 2, 3, 4, 11] [101] (s' := ⟨[(0, .b (.one (.sl 5 (l0.map eHolding)))), (1, I node0), (2, I body0), (3, I to0), (4, .b (.one (.str data0))), (11, .b (.ptr 101 0))], [(101, .box 45 [.i x0.From, .i x0.To, .i x0.Kind, .i x0.Body, .i x0.Epoch, .str x0.Data])]⟩) rfl ?_
        refine Fin.then ?_
        refine Tri.seq ?_
        refine Tri.regionL ?_
        refine OpsL.cons rfl (op_move rfl) ?_
        refine OpsL.cons rfl (op_move rfl) ?_
        refine OpsL.cons rfl (op_move rfl) ?_
        obtain ⟨⟨x_8, x_9⟩, e14, h⟩ := bnd h
        refine OpsL.cons rfl (op_call (region_Begin_spec 102 e14) goes21 rfl trivial rfl rfl) ?_
        refine OpsL.cons rfl (op_move rfl) ?_
        refine OpsL.keep [0, 1, 2, 3, 4, 11, 55] [101, 102] (s' := ⟨[(0, .b (.one (.sl 5 (l0.map eHolding)))), (1, I node0), (2, I body0), (3, I to0), (4, .b (.one (.str data0))), (11, .b (.ptr 101 0)), (55, .tup [.row 102, .one (.i x_9)])], [(101, .box 45 [.i x0.From, .i x0.To, .i x0.Kind, .i x0.Body, .i x0.Epoch, .str x0.Data]), (102, .row 59 5 (x_8.map eHolding))]⟩) rfl ?_
        refine OpsL.cons rfl (op_extract rfl rfl) ?_
        refine OpsL.cons rfl (op_extract rfl rfl) ?_
        refine OpsL.cons rfl (op_assign rfl) ?_
        refine OpsL.cons rfl (op_assign rfl) ?_
        refine OpsL.nilK [0, 1, 2, 3, 4, 11, 13, 14] [101, 102] (s' := ⟨[(0, .b (.one (.sl 5 (l0.map eHolding)))), (1, I node0), (2, I body0), (3, I to0), (4, .b (.one (.str data0))), (11, .b (.ptr 101 0)), (13, .b (.row 102)), (14, I x_9)], [(101, .box 45 [.i x0.From, .i x0.To, .i x0.Kind, .i x0.Body, .i x0.Epoch, .str x0.Data]), (102, .row 59 5 (x_8.map eHolding))]⟩) rfl ?_
        refine Tri.seq ?_
        refine Tri.regionL ?_
        refine OpsL.cons rfl (op_move rfl) ?_
        refine OpsL.cons rfl (op_move rfl) ?_
        refine OpsL.cons rfl (op_move rfl) ?_
        obtain ⟨⟨x_10, x_11⟩, e15, h⟩ := bnd h
        refine OpsL.cons rfl (op_call (region_Put_spec 103 e15) goes22 rfl trivial rfl rfl) ?_
        refine OpsL.cons rfl (op_move rfl) ?_
        refine OpsL.keep [0, 1, 2, 3, 4, 11, 13, 14, 62] [101, 102, 103] (s' := ⟨[(0, .b (.one (.sl 5 (l0.map eHolding)))), (1, I node0), (2, I body0), (3, I to0), (4, .b (.one (.str data0))), (11, .b (.ptr 101 0)), (13, .b (.row 102)), (14, I x_9), (62, .tup [.row 103, .one (.i x_11)])], [(101, .box 45 [.i x0.From, .i x0.To, .i x0.Kind, .i x0.Body, .i x0.Epoch, .str x0.Data]), (102, .row 59 5 (x_8.map eHolding)), (103, .row 59 5 (x_10.map eHolding))]⟩) rfl ?_
        refine OpsL.cons rfl (op_extract rfl rfl) ?_
        refine OpsL.cons rfl (op_extract rfl rfl) ?_
        refine OpsL.cons rfl (op_assign rfl) ?_
        refine OpsL.cons rfl (op_assign rfl) ?_
        refine OpsL.nilK [0, 1, 2, 3, 4, 11, 13, 14, 15, 16] [101, 102, 103] (s' := ⟨[(0, .b (.one (.sl 5 (l0.map eHolding)))), (1, I node0), (2, I body0), (3, I to0), (4, .b (.one (.str data0))), (11, .b (.ptr 101 0)), (13, .b (.row 102)), (14, I x_9), (15, .b (.row 103)), (16, I x_11)], [(101, .box 45 [.i x0.From, .i x0.To, .i x0.Kind, .i x0.Body, .i x0.Epoch, .str x0.Data]), (102, .row 59 5 (x_8.map eHolding)), (103, .row 59 5 (x_10.map eHolding))]⟩) rfl ?_
        refine Tri.seq ?_
        refine Tri.regionL ?_
        refine OpsL.cons rfl (op_move rfl) ?_
        refine OpsL.cons rfl (op_move rfl) ?_
        refine OpsL.cons rfl (op_move rfl) ?_
        refine OpsL.cons rfl (op_move rfl) ?_
        obtain ⟨⟨x_12, x_13⟩, e16, h⟩ := bnd h
        refine OpsL.cons rfl (op_call (region_Offer_spec 104 e16) goes23 rfl trivial rfl rfl) ?_
        refine OpsL.keep [0, 1, 2, 3, 4, 11, 13, 14, 15, 16, 74] [101, 102, 103, 104] (s' := ⟨[(0, .b (.one (.sl 5 (l0.map eHolding)))), (1, I node0), (2, I body0), (3, I to0), (4, .b (.one (.str data0))), (11, .b (.ptr 101 0)), (13, .b (.row 102)), (14, I x_9), (15, .b (.row 103)), (16, I x_11), (74, .tup [.row 104, .one (.i x_13)])], [(101, .box 45 [.i x0.From, .i x0.To, .i x0.Kind, .i x0.Body, .i x0.Epoch, .str x0.Data]), (102, .row 59 5 (x_8.map eHolding)), (103, .row 59 5 (x_10.map eHolding)), (104, .row 59 5 (x_12.map eHolding))]⟩) rfl ?_
        refine OpsL.cons rfl (op_move rfl) ?_
        refine OpsL.cons rfl (op_extract rfl rfl) ?_
        refine OpsL.cons rfl (op_extract rfl rfl) ?_
        refine OpsL.cons rfl (op_assign rfl) ?_
        refine OpsL.cons rfl (op_assign rfl) ?_
        refine OpsL.nilK [0, 1, 2, 3, 4, 11, 13, 14, 15, 16, 17, 18] [101, 102, 103, 104] (s' := ⟨[(0, .b (.one (.sl 5 (l0.map eHolding)))), (1, I node0), (2, I body0), (3, I to0), (4, .b (.one (.str data0))), (11, .b (.ptr 101 0)), (13, .b (.row 102)), (14, I x_9), (15, .b (.row 103)), (16, I x_11), (17, .b (.row 104)), (18, I x_13)], [(101, .box 45 [.i x0.From, .i x0.To, .i x0.Kind, .i x0.Body, .i x0.Epoch, .str x0.Data]), (102, .row 59 5 (x_8.map eHolding)), (103, .row 59 5 (x_10.map eHolding)), (104, .row 59 5 (x_12.map eHolding))]⟩) rfl ?_
        refine Tri.seq ?_
        refine Tri.regionL ?_
        refine OpsL.cons rfl (op_move rfl) ?_
        refine OpsL.cons rfl (op_move rfl) ?_
        obtain ⟨⟨x_14, x_15⟩, e17, h⟩ := bnd h
        refine OpsL.cons rfl (op_call (region_Cancel_spec 105 e17) goes24 rfl trivial rfl rfl) ?_
        refine OpsL.cons rfl (op_move rfl) ?_
        refine OpsL.cons rfl (op_extract rfl rfl) ?_
        refine OpsL.keep [0, 1, 2, 3, 4, 11, 13, 14, 15, 16, 17, 18, 77, 81] [101, 102, 103, 104, 105] (s' := ⟨[(0, .b (.one (.sl 5 (l0.map eHolding)))), (1, I node0), (2, I body0), (3, I to0), (4, .b (.one (.str data0))), (11, .b (.ptr 101 0)), (13, .b (.row 102)), (14, I x_9), (15, .b (.row 103)), (16, I x_11), (17, .b (.row 104)), (18, I x_13), (77, .tup [.row 105, .one (.i x_15)]), (81, .b (.row 105))], [(101, .box 45 [.i x0.From, .i x0.To, .i x0.Kind, .i x0.Body, .i x0.Epoch, .str x0.Data]), (102, .row 59 5 (x_8.map eHolding)), (103, .row 59 5 (x_10.map eHolding)), (104, .row 59 5 (x_12.map eHolding)), (105, .row 59 5 (x_14.map eHolding))]⟩) rfl ?_
        refine OpsL.cons rfl (op_extract rfl rfl) ?_
        refine OpsL.cons rfl (op_assign rfl) ?_
        refine OpsL.cons rfl (op_assign rfl) ?_
        refine OpsL.nilK [0, 1, 2, 3, 4, 11, 13, 14, 15, 16, 17, 18, 19, 20] [101, 102, 103, 104, 105] (s' := ⟨[(0, .b (.one (.sl 5 (l0.map eHolding)))), (1, I node0), (2, I body0), (3, I to0), (4, .b (.one (.str data0))), (11, .b (.ptr 101 0)), (13, .b (.row 102)), (14, I x_9), (15, .b (.row 103)), (16, I x_11), (17, .b (.row 104)), (18, I x_13), (19, .b (.row 105)), (20, I x_15)], [(101, .box 45 [.i x0.From, .i x0.To, .i x0.Kind, .i x0.Body, .i x0.Epoch, .str x0.Data]), (102, .row 59 5 (x_8.map eHolding)), (103, .row 59 5 (x_10.map eHolding)), (104, .row 59 5 (x_12.map eHolding)), (105, .row 59 5 (x_14.map eHolding))]⟩) rfl ?_
        refine Tri.seq ?_
        refine Tri.seq ?_
        refine Tri.regionL ?_
        refine OpsL.cons rfl (op_move rfl) ?_
        refine OpsL.cons rfl (op_move rfl) ?_
        refine OpsL.cons rfl (op_move rfl) ?_
        refine OpsL.cons rfl (op_move rfl) ?_
        refine OpsL.cons rfl (op_move rfl) ?_
        refine OpsL.keep [0, 1, 2, 3, 4, 11, 13, 15, 16, 17, 18, 19, 20, 83, 84, 85, 86, 87] [101, 102, 103, 104, 105] (s' := ⟨[(0, .b (.one (.sl 5 (l0.map eHolding)))), (1, I node0), (2, I body0), (3, I to0), (4, .b (.one (.str data0))), (11, .b (.ptr 101 0)), (13, .b (.row 102)), (15, .b (.row 103)), (16, I x_11), (17, .b (.row 104)), (18, I x_13), (19, .b (.row 105)), (20, I x_15), (83, .b (.row 102)), (84, I x_9), (85, .b (.one (.sl 5 (l0.map eHolding)))), (86, I body0), (87, .b (.one (.str data0)))], [(101, .box 45 [.i x0.From, .i x0.To, .i x0.Kind, .i x0.Body, .i x0.Epoch, .str x0.Data]), (102, .row 59 5 (x_8.map eHolding)), (103, .row 59 5 (x_10.map eHolding)), (104, .row 59 5 (x_12.map eHolding)), (105, .row 59 5 (x_14.map eHolding))]⟩) rfl ?_
        obtain ⟨x_16, e18, h⟩ := bnd h
        refine OpsL.cons rfl (op_call0 (skewbackref41_Begin_spec e18) goes26 rfl rfl) ?_
        obtain ⟨x_17, e19, h⟩ := bnd h
        refine OpsL.cons rfl (op_callB (skewbacklaw41_same_spec e19) goes25 rfl CP.flat_bool) ?_
        refine OpsL.cons rfl (op_not rfl) ?_
        refine OpsL.cons rfl (op_move rfl) ?_
        refine OpsL.consG (!(!x_17)) 99 [] (.plain rfl) (eq_f _) rfl rfl (fun g20 => trivial) (fun g20 => op_move rfl) ?_
        refine OpsL.consG (!(!x_17)) 99 [] (.plain rfl) (eq_f _) rfl rfl (fun g21 => trivial) (fun g21 => op_move rfl) ?_
        refine OpsL.keep [0, 1, 2, 3, 4, 11, 13, 15, 17, 18, 19, 20, 91, 92, 93] [101, 102, 103, 104, 105] (s' := ⟨[(0, .b (.one (.sl 5 (l0.map eHolding)))), (1, I node0), (2, I body0), (3, I to0), (4, .b (.one (.str data0))), (11, .b (.ptr 101 0)), (13, .b (.row 102)), (15, .b (.row 103)), (17, .b (.row 104)), (18, I x_13), (19, .b (.row 105)), (20, I x_15), (91, B (!x_17)), (92, .opt (!(!x_17)) (.row 103)), (93, .opt (!(!x_17)) (.one (.i x_11)))], [(101, .box 45 [.i x0.From, .i x0.To, .i x0.Kind, .i x0.Body, .i x0.Epoch, .str x0.Data]), (102, .row 59 5 (x_8.map eHolding)), (103, .row 59 5 (x_10.map eHolding)), (104, .row 59 5 (x_12.map eHolding)), (105, .row 59 5 (x_14.map eHolding))]⟩) rfl ?_
        refine OpsL.consG (!(!x_17)) 99 [] (.plain rfl) (eq_f _) rfl rfl (fun g22 => trivial) (fun g22 => op_move rfl) ?_
        refine OpsL.consG (!(!x_17)) 99 [] (.plain rfl) (eq_f _) rfl rfl (fun g23 => trivial) (fun g23 => op_move rfl) ?_
        refine OpsL.consG (!(!x_17)) 99 [] (.plain rfl) (eq_f _) rfl rfl (fun g24 => trivial) (fun g24 => op_move rfl) ?_
        obtain ⟨x_18, e26, h⟩ := bnd h
        refine OpsL.consG (!(!x_17)) 99 [94, 95, 96] (.plain rfl) (eq_f _) rfl rfl (fun g25 => ⟨g25, g25, g25, trivial⟩) (fun g25 => op_call0 (skewbackref41_Put_spec (gc e26 g25)) goes27 rfl rfl) ?_
        refine OpsL.keep [0, 1, 2, 3, 11, 13, 15, 17, 18, 19, 20, 91, 92, 93, 97] [101, 102, 103, 104, 105] (s' := ⟨[(0, .b (.one (.sl 5 (l0.map eHolding)))), (1, I node0), (2, I body0), (3, I to0), (11, .b (.ptr 101 0)), (13, .b (.row 102)), (15, .b (.row 103)), (17, .b (.row 104)), (18, I x_13), (19, .b (.row 105)), (20, I x_15), (91, B (!x_17)), (92, .opt (!(!x_17)) (.row 103)), (93, .opt (!(!x_17)) (.one (.i x_11))), (97, .opt (!(!x_17)) (.agg [.sl 5 (x_18.L.map eHolding), .sl 6 (x_18.Sent.map eParcel), .i x_18.E]))], [(101, .box 45 [.i x0.From, .i x0.To, .i x0.Kind, .i x0.Body, .i x0.Epoch, .str x0.Data]), (102, .row 59 5 (x_8.map eHolding)), (103, .row 59 5 (x_10.map eHolding)), (104, .row 59 5 (x_12.map eHolding)), (105, .row 59 5 (x_14.map eHolding))]⟩) rfl ?_
        obtain ⟨x_19, e28, h⟩ := bnd h
        refine OpsL.consG (!(!x_17)) 99 [92, 93, 97] (.plain rfl) (eq_f _) rfl rfl (fun g27 => ⟨g27, g27, g27, trivial⟩) (fun g27 => op_callB (skewbacklaw41_same_spec (gc e28 g27)) goes25 rfl CP.flat_bool) ?_
        refine OpsL.consG (!(!x_17)) 99 [98] (.plain rfl) (eq_f _) rfl rfl (fun g29 => ⟨g29, trivial⟩) (fun g29 => op_not rfl) ?_
        refine OpsL.cons rfl (op_pick_or (fun e => by rw [e]; rfl) rfl rfl rfl rfl) ?_
        refine OpsL.cons rfl (op_move rfl) ?_
        refine OpsL.consG (!((!x_17) || (!x_19))) 99 [] (.plain rfl) (eq_f _) rfl rfl (fun g30 => trivial) (fun g30 => op_move rfl) ?_
        refine OpsL.consG (!((!x_17) || (!x_19))) 99 [] (.plain rfl) (eq_f _) rfl rfl (fun g31 => trivial) (fun g31 => op_move rfl) ?_
        refine OpsL.consG (!((!x_17) || (!x_19))) 99 [] (.plain rfl) (eq_f _) rfl rfl (fun g32 => trivial) (fun g32 => op_move rfl) ?_
        refine OpsL.consG (!((!x_17) || (!x_19))) 99 [] (.plain rfl) (eq_f _) rfl rfl (fun g33 => trivial) (fun g33 => op_move rfl) ?_
        refine OpsL.keep [0, 1, 2, 3, 11, 13, 15, 17, 19, 20, 101, 102, 103, 104, 105] [101, 102, 103, 104, 105] (s' := ⟨[(0, .b (.one (.sl 5 (l0.map eHolding)))), (1, I node0), (2, I body0), (3, I to0), (11, .b (.ptr 101 0)), (13, .b (.row 102)), (15, .b (.row 103)), (17, .b (.row 104)), (19, .b (.row 105)), (20, I x_15), (101, B ((!x_17) || (!x_19))), (102, .opt (!((!x_17) || (!x_19))) (.row 104)), (103, .opt (!((!x_17) || (!x_19))) (.one (.i x_13))), (104, .opt (!((!x_17) || (!x_19))) (.one (.sl 5 (l0.map eHolding)))), (105, .opt (!((!x_17) || (!x_19))) (.one (.i node0)))], [(101, .box 45 [.i x0.From, .i x0.To, .i x0.Kind, .i x0.Body, .i x0.Epoch, .str x0.Data]), (102, .row 59 5 (x_8.map eHolding)), (103, .row 59 5 (x_10.map eHolding)), (104, .row 59 5 (x_12.map eHolding)), (105, .row 59 5 (x_14.map eHolding))]⟩) rfl ?_
        refine OpsL.consG (!((!x_17) || (!x_19))) 99 [] (.plain rfl) (eq_f _) rfl rfl (fun g34 => trivial) (fun g34 => op_move rfl) ?_
        refine OpsL.consG (!((!x_17) || (!x_19))) 99 [] (.plain rfl) (eq_f _) rfl rfl (fun g35 => trivial) (fun g35 => op_move rfl) ?_
        obtain ⟨x_20, e37, h⟩ := bnd h
        refine OpsL.consG (!((!x_17) || (!x_19))) 99 [104, 105, 106, 107] (.plain rfl) (eq_f _) rfl rfl (fun g36 => ⟨g36, g36, g36, g36, trivial⟩) (fun g36 => op_call0 (skewbackref41_Offer_spec (gc e37 g36)) goes28 rfl rfl) ?_
        obtain ⟨x_21, e39, h⟩ := bnd h
        refine OpsL.consG (!((!x_17) || (!x_19))) 99 [102, 103, 108] (.plain rfl) (eq_f _) rfl rfl (fun g38 => ⟨g38, g38, g38, trivial⟩) (fun g38 => op_callB (skewbacklaw41_same_spec (gc e39 g38)) goes25 rfl CP.flat_bool) ?_
        refine OpsL.keep [0, 1, 2, 11, 13, 15, 17, 19, 20, 101, 109] [101, 102, 103, 104, 105] (s' := ⟨[(0, .b (.one (.sl 5 (l0.map eHolding)))), (1, I node0), (2, I body0), (11, .b (.ptr 101 0)), (13, .b (.row 102)), (15, .b (.row 103)), (17, .b (.row 104)), (19, .b (.row 105)), (20, I x_15), (101, B ((!x_17) || (!x_19))), (109, .opt (!((!x_17) || (!x_19))) (.one (.bool x_21)))], [(101, .box 45 [.i x0.From, .i x0.To, .i x0.Kind, .i x0.Body, .i x0.Epoch, .str x0.Data]), (102, .row 59 5 (x_8.map eHolding)), (103, .row 59 5 (x_10.map eHolding)), (104, .row 59 5 (x_12.map eHolding)), (105, .row 59 5 (x_14.map eHolding))]⟩) rfl ?_
        refine OpsL.consG (!((!x_17) || (!x_19))) 99 [109] (.plain rfl) (eq_f _) rfl rfl (fun g40 => ⟨g40, trivial⟩) (fun g40 => op_not rfl) ?_
        refine OpsL.cons rfl (op_pick_or (fun e => by rw [e]; rfl) rfl rfl rfl rfl) ?_
        refine OpsL.cons rfl (op_move rfl) ?_
        refine OpsL.consG (!(((!x_17) || (!x_19)) || (!x_21))) 99 [] (.plain rfl) (eq_f _) rfl rfl (fun g41 => trivial) (fun g41 => op_move rfl) ?_
        refine OpsL.consG (!(((!x_17) || (!x_19)) || (!x_21))) 99 [] (.plain rfl) (eq_f _) rfl rfl (fun g42 => trivial) (fun g42 => op_move rfl) ?_
        refine OpsL.consG (!(((!x_17) || (!x_19)) || (!x_21))) 99 [] (.plain rfl) (eq_f _) rfl rfl (fun g43 => trivial) (fun g43 => op_move rfl) ?_
        refine OpsL.consG (!(((!x_17) || (!x_19)) || (!x_21))) 99 [] (.plain rfl) (eq_f _) rfl rfl (fun g44 => trivial) (fun g44 => op_move rfl) ?_
        refine OpsL.keep [0, 1, 2, 11, 13, 15, 17, 19, 112, 113, 114, 115, 116] [101, 102, 103, 104, 105] (s' := ⟨[(0, .b (.one (.sl 5 (l0.map eHolding)))), (1, I node0), (2, I body0), (11, .b (.ptr 101 0)), (13, .b (.row 102)), (15, .b (.row 103)), (17, .b (.row 104)), (19, .b (.row 105)), (112, B (((!x_17) || (!x_19)) || (!x_21))), (113, .opt (!(((!x_17) || (!x_19)) || (!x_21))) (.row 105)), (114, .opt (!(((!x_17) || (!x_19)) || (!x_21))) (.one (.i x_15))), (115, .opt (!(((!x_17) || (!x_19)) || (!x_21))) (.one (.sl 5 (l0.map eHolding)))), (116, .opt (!(((!x_17) || (!x_19)) || (!x_21))) (.one (.i body0)))], [(101, .box 45 [.i x0.From, .i x0.To, .i x0.Kind, .i x0.Body, .i x0.Epoch, .str x0.Data]), (102, .row 59 5 (x_8.map eHolding)), (103, .row 59 5 (x_10.map eHolding)), (104, .row 59 5 (x_12.map eHolding)), (105, .row 59 5 (x_14.map eHolding))]⟩) rfl ?_
        obtain ⟨x_22, e46, h⟩ := bnd h
        refine OpsL.consG (!(((!x_17) || (!x_19)) || (!x_21))) 99 [115, 116] (.plain rfl) (eq_f _) rfl rfl (fun g45 => ⟨g45, g45, trivial⟩) (fun g45 => op_call0 (skewbackref41_Cancel_spec (gc e46 g45)) goes29 rfl rfl) ?_
        obtain ⟨x_23, e48, h⟩ := bnd h
        refine OpsL.consG (!(((!x_17) || (!x_19)) || (!x_21))) 99 [113, 114, 117] (.plain rfl) (eq_f _) rfl rfl (fun g47 => ⟨g47, g47, g47, trivial⟩) (fun g47 => op_callB (skewbacklaw41_same_spec (gc e48 g47)) goes25 rfl CP.flat_bool) ?_
        refine OpsL.consG (!(((!x_17) || (!x_19)) || (!x_21))) 99 [118] (.plain rfl) (eq_f _) rfl rfl (fun g49 => ⟨g49, trivial⟩) (fun g49 => op_not rfl) ?_
        refine OpsL.cons rfl (op_pick_or (fun e => by rw [e]; rfl) rfl rfl rfl rfl) ?_
        refine OpsL.cons rfl (op_move rfl) ?_
        refine OpsL.consG (!((((!x_17) || (!x_19)) || (!x_21)) || (!x_23))) 99 [] (.plain rfl) (eq_f _) rfl rfl (fun g50 => trivial) (fun g50 => op_move rfl) ?_
        refine OpsL.keep [0, 1, 2, 11, 13, 15, 17, 19, 121, 122] [101, 102, 103, 104, 105] (s' := ⟨[(0, .b (.one (.sl 5 (l0.map eHolding)))), (1, I node0), (2, I body0), (11, .b (.ptr 101 0)), (13, .b (.row 102)), (15, .b (.row 103)), (17, .b (.row 104)), (19, .b (.row 105)), (121, B ((((!x_17) || (!x_19)) || (!x_21)) || (!x_23))), (122, .opt (!((((!x_17) || (!x_19)) || (!x_21)) || (!x_23))) (.one (.sl 5 (l0.map eHolding))))], [(101, .box 45 [.i x0.From, .i x0.To, .i x0.Kind, .i x0.Body, .i x0.Epoch, .str x0.Data]), (102, .row 59 5 (x_8.map eHolding)), (103, .row 59 5 (x_10.map eHolding)), (104, .row 59 5 (x_12.map eHolding)), (105, .row 59 5 (x_14.map eHolding))]⟩) rfl ?_
        refine OpsL.consG (!((((!x_17) || (!x_19)) || (!x_21)) || (!x_23))) 99 [] (.plain rfl) (eq_f _) rfl rfl (fun g51 => trivial) (fun g51 => op_move rfl) ?_
        obtain ⟨x_24, e53, h⟩ := bnd h
        refine OpsL.consG (!((((!x_17) || (!x_19)) || (!x_21)) || (!x_23))) 99 [122, 123] (.plain rfl) (eq_f _) rfl rfl (fun g52 => ⟨g52, g52, trivial⟩) (fun g52 => op_call0 (region_Get_spec (gc e53 g52)) goes30 rfl rfl) ?_
        refine OpsL.consG (!((((!x_17) || (!x_19)) || (!x_21)) || (!x_23))) 99 [] (.plain rfl) (eq_f _) rfl rfl (fun g54 => trivial) (fun g54 => op_move rfl) ?_
        refine OpsL.consG (!((((!x_17) || (!x_19)) || (!x_21)) || (!x_23))) 99 [] (.plain rfl) (eq_f _) rfl rfl (fun g55 => trivial) (fun g55 => op_move rfl) ?_
        refine OpsL.keep [0, 1, 11, 13, 15, 17, 19, 121, 124, 125, 126] [101, 102, 103, 104, 105] (s' := ⟨[(0, .b (.one (.sl 5 (l0.map eHolding)))), (1, I node0), (11, .b (.ptr 101 0)), (13, .b (.row 102)), (15, .b (.row 103)), (17, .b (.row 104)), (19, .b (.row 105)), (121, B ((((!x_17) || (!x_19)) || (!x_21)) || (!x_23))), (124, .opt (!((((!x_17) || (!x_19)) || (!x_21)) || (!x_23))) (.agg [.i x_24.Body, .i x_24.Epoch, .i x_24.Phase, .i x_24.Peer, .str x_24.Data])), (125, .opt (!((((!x_17) || (!x_19)) || (!x_21)) || (!x_23))) (.one (.sl 5 (l0.map eHolding)))), (126, .opt (!((((!x_17) || (!x_19)) || (!x_21)) || (!x_23))) (.one (.i body0)))], [(101, .box 45 [.i x0.From, .i x0.To, .i x0.Kind, .i x0.Body, .i x0.Epoch, .str x0.Data]), (102, .row 59 5 (x_8.map eHolding)), (103, .row 59 5 (x_10.map eHolding)), (104, .row 59 5 (x_12.map eHolding)), (105, .row 59 5 (x_14.map eHolding))]⟩) rfl ?_
        obtain ⟨x_25, e57, h⟩ := bnd h
        refine OpsL.consG (!((((!x_17) || (!x_19)) || (!x_21)) || (!x_23))) 99 [125, 126] (.plain rfl) (eq_f _) rfl rfl (fun g56 => ⟨g56, g56, trivial⟩) (fun g56 => op_call0 (skewbackref41_Get_spec (gc e57 g56)) goes31 rfl rfl) ?_
        refine OpsL.consG (!((((!x_17) || (!x_19)) || (!x_21)) || (!x_23))) 99 [124, 127] (.plain rfl) (eq_f _) rfl rfl (fun g58 => ⟨g58, g58, trivial⟩) (fun g58 => op_neq_agg (eqAgg59 x_24 x_25) rfl rfl neg_dec) ?_
        refine OpsL.consB h rfl (op_pick_or (fun e => by rw [e]; rfl) rfl rfl rfl rfl) (fun x_26 h => ?_)
        refine OpsL.nilK [0, 1, 11, 13, 15, 17, 19, 129] [101, 102, 103, 104, 105] (s' := ⟨[(0, .b (.one (.sl 5 (l0.map eHolding)))), (1, I node0), (11, .b (.ptr 101 0)), (13, .b (.row 102)), (15, .b (.row 103)), (17, .b (.row 104)), (19, .b (.row 105)), (129, B x_26)], [(101, .box 45 [.i x0.From, .i x0.To, .i x0.Kind, .i x0.Body, .i x0.Epoch, .str x0.Data]), (102, .row 59 5 (x_8.map eHolding)), (103, .row 59 5 (x_10.map eHolding)), (104, .row 59 5 (x_12.map eHolding)), (105, .row 59 5 (x_14.map eHolding))]⟩) rfl ?_
        refine Tri.ite h rfl (fun _ h => ?_) (fun _ h => ?_)
        · refine Tri.seq ?_
          refine Tri.regionL ?_
          refine OpsL.cons rfl (op_assign rfl) ?_
          refine OpsL.nilK [12] [] (s' := ⟨[(12, B false)], []⟩) rfl ?_
          refine Tri.ret ?_
          refine Fin.then_ret ?_
          obtain rfl := Option.some.inj h
          refine Fin.keep [12] [] (s' := ⟨[(12, B false)], []⟩) rfl ?_
          refine Fin.result' [.one (.bool false)] (.inl rfl) rfl (.cons (.tmp rfl) .nil) ⟨rfl, rfl⟩
        · refine Tri.skip ?_
          refine Fin.keep [0, 1, 11, 13, 15, 17, 19] [101, 102, 103, 104, 105] (s' := ⟨[(0, .b (.one (.sl 5 (l0.map eHolding)))), (1, I node0), (11, .b (.ptr 101 0)), (13, .b (.row 102)), (15, .b (.row 103)), (17, .b (.row 104)), (19, .b (.row 105))], [(101, .box 45 [.i x0.From, .i x0.To, .i x0.Kind, .i x0.Body, .i x0.Epoch, .str x0.Data]), (102, .row 59 5 (x_8.map eHolding)), (103, .row 59 5 (x_10.map eHolding)), (104, .row 59 5 (x_12.map eHolding)), (105, .row 59 5 (x_14.map eHolding))]⟩) rfl ?_
          refine Fin.then ?_
          refine Tri.seq ?_
          refine Tri.regionL ?_
          refine OpsL.cons rfl (op_move rfl) ?_
          refine OpsL.cons rfl (op_move rfl) ?_
          refine OpsL.cons rfl (op_load_p tyAgg45 rfl rfl rfl rfl) ?_
          obtain ⟨⟨x_27, x_28⟩, e59, h⟩ := bnd h
          refine OpsL.cons rfl (op_call (region_Receive_spec 106 e59) goes32 rfl trivial rfl rfl) ?_
          refine OpsL.cons rfl (op_move rfl) ?_
          refine OpsL.keep [0, 1, 11, 13, 15, 17, 19, 130] [101, 102, 103, 104, 105, 106] (s' := ⟨[(0, .b (.one (.sl 5 (l0.map eHolding)))), (1, I node0), (11, .b (.ptr 101 0)), (13, .b (.row 102)), (15, .b (.row 103)), (17, .b (.row 104)), (19, .b (.row 105)), (130, .tup [.row 106, .one (.sl 6 (x_28.map eParcel))])], [(101, .box 45 [.i x0.From, .i x0.To, .i x0.Kind, .i x0.Body, .i x0.Epoch, .str x0.Data]), (102, .row 59 5 (x_8.map eHolding)), (103, .row 59 5 (x_10.map eHolding)), (104, .row 59 5 (x_12.map eHolding)), (105, .row 59 5 (x_14.map eHolding)), (106, .row 59 5 (x_27.map eHolding))]⟩) rfl ?_
          refine OpsL.cons rfl (op_extract rfl rfl) ?_
          refine OpsL.cons rfl (op_extract rfl rfl) ?_
          refine OpsL.cons rfl (op_assign rfl) ?_
          refine OpsL.cons rfl (op_assign rfl) ?_
          refine OpsL.nilK [0, 1, 11, 13, 15, 17, 19, 21, 22] [101, 102, 103, 104, 105, 106] (s' := ⟨[(0, .b (.one (.sl 5 (l0.map eHolding)))), (1, I node0), (11, .b (.ptr 101 0)), (13, .b (.row 102)), (15, .b (.row 103)), (17, .b (.row 104)), (19, .b (.row 105)), (21, .b (.row 106)), (22, .b (.one (.sl 6 (x_28.map eParcel))))], [(101, .box 45 [.i x0.From, .i x0.To, .i x0.Kind, .i x0.Body, .i x0.Epoch, .str x0.Data]), (102, .row 59 5 (x_8.map eHolding)), (103, .row 59 5 (x_10.map eHolding)), (104, .row 59 5 (x_12.map eHolding)), (105, .row 59 5 (x_14.map eHolding)), (106, .row 59 5 (x_27.map eHolding))]⟩) rfl ?_
          refine Tri.seq ?_
          refine Tri.regionL ?_
          refine OpsL.cons rfl (op_move rfl) ?_
          refine OpsL.cons rfl (op_move rfl) ?_
          refine OpsL.cons rfl (op_load_p tyAgg45 rfl rfl rfl rfl) ?_
          obtain ⟨x_29, e60, h⟩ := bnd h
          refine OpsL.cons rfl (op_call0 (skewbackref41_Receive_spec e60) goes33 rfl rfl) ?_
          refine OpsL.cons rfl (op_alloc (k := 107) tyZero54 rfl) ?_
          refine OpsL.cons rfl (op_store_p tyAgg54 rfl rfl rfl rfl (Nat.le_of_ble_eq_true rfl) rfl) ?_
          refine OpsL.nilK [0, 1, 11, 13, 15, 17, 19, 21, 22, 23] [101, 102, 103, 104, 105, 106, 107] (s' := ⟨[(0, .b (.one (.sl 5 (l0.map eHolding)))), (1, I node0), (11, .b (.ptr 101 0)), (13, .b (.row 102)), (15, .b (.row 103)), (17, .b (.row 104)), (19, .b (.row 105)), (21, .b (.row 106)), (22, .b (.one (.sl 6 (x_28.map eParcel)))), (23, .b (.ptr 107 0))], [(101, .box 45 [.i x0.From, .i x0.To, .i x0.Kind, .i x0.Body, .i x0.Epoch, .str x0.Data]), (102, .row 59 5 (x_8.map eHolding)), (103, .row 59 5 (x_10.map eHolding)), (104, .row 59 5 (x_12.map eHolding)), (105, .row 59 5 (x_14.map eHolding)), (106, .row 59 5 (x_27.map eHolding)), (107, .box 54 [.sl 5 (x_29.L.map eHolding), .sl 6 (x_29.Sent.map eParcel), .i x_29.E])]⟩) rfl ?_
          refine Tri.seq ?_
          refine Tri.seq ?_
          refine Tri.regionL ?_
          refine OpsL.cons rfl (op_move rfl) ?_
          refine OpsL.cons rfl (op_field_p tyFld54_0 rfl rfl) ?_
          refine OpsL.cons rfl (op_load_p1 tyOne42 rfl rfl rfl) ?_
          obtain ⟨x_30, e61, h⟩ := bnd h
          refine OpsL.cons rfl (op_callB (skewbackref41_Same_spec e61) goes34 rfl CP.flat_bool) ?_
          refine OpsL.cons rfl (op_not rfl) ?_
          refine OpsL.keep [0, 1, 11, 13, 15, 17, 19, 21, 22, 23, 145] [101, 102, 103, 104, 105, 106, 107] (s' := ⟨[(0, .b (.one (.sl 5 (l0.map eHolding)))), (1, I node0), (11, .b (.ptr 101 0)), (13, .b (.row 102)), (15, .b (.row 103)), (17, .b (.row 104)), (19, .b (.row 105)), (21, .b (.row 106)), (22, .b (.one (.sl 6 (x_28.map eParcel)))), (23, .b (.ptr 107 0)), (145, B (!x_30))], [(101, .box 45 [.i x0.From, .i x0.To, .i x0.Kind, .i x0.Body, .i x0.Epoch, .str x0.Data]), (102, .row 59 5 (x_8.map eHolding)), (103, .row 59 5 (x_10.map eHolding)), (104, .row 59 5 (x_12.map eHolding)), (105, .row 59 5 (x_14.map eHolding)), (106, .row 59 5 (x_27.map eHolding)), (107, .box 54 [.sl 5 (x_29.L.map eHolding), .sl 6 (x_29.Sent.map eParcel), .i x_29.E])]⟩) rfl ?_
          refine OpsL.cons rfl (op_move rfl) ?_
          refine OpsL.consG (!(!x_30)) 99 [] (.plain rfl) (eq_f _) rfl rfl (fun g62 => trivial) (fun g62 => op_move rfl) ?_
          refine OpsL.consG (!(!x_30)) 99 [] (.plain rfl) (eq_f _) rfl rfl (fun g63 => trivial) (fun g63 => op_field_p tyFld54_1 rfl rfl) ?_
          refine OpsL.consG (!(!x_30)) 99 [148] (.plain rfl) (eq_f _) rfl rfl (fun g64 => ⟨g64, trivial⟩) (fun g64 => op_load_p1 tyOne38 rfl rfl rfl) ?_
          obtain ⟨x_31, e66, h⟩ := bnd h
          refine OpsL.consG (!(!x_30)) 99 [147, 149] (.plain rfl) (eq_f _) rfl rfl (fun g65 => ⟨g65, g65, trivial⟩) (fun g65 => op_call0 (skewbackref41_SameLetters_spec (gc e66 g65)) goes35 rfl rfl) ?_
          refine OpsL.consG (!(!x_30)) 99 [150] (.plain rfl) (eq_f _) rfl rfl (fun g67 => ⟨g67, trivial⟩) (fun g67 => op_not rfl) ?_
          refine OpsL.keep [0, 1, 11, 13, 15, 17, 19, 21, 22, 146, 151] [101, 102, 103, 104, 105, 106] (s' := ⟨[(0, .b (.one (.sl 5 (l0.map eHolding)))), (1, I node0), (11, .b (.ptr 101 0)), (13, .b (.row 102)), (15, .b (.row 103)), (17, .b (.row 104)), (19, .b (.row 105)), (21, .b (.row 106)), (22, .b (.one (.sl 6 (x_28.map eParcel)))), (146, B (!x_30)), (151, .opt (!(!x_30)) (.one (.bool (!x_31))))], [(101, .box 45 [.i x0.From, .i x0.To, .i x0.Kind, .i x0.Body, .i x0.Epoch, .str x0.Data]), (102, .row 59 5 (x_8.map eHolding)), (103, .row 59 5 (x_10.map eHolding)), (104, .row 59 5 (x_12.map eHolding)), (105, .row 59 5 (x_14.map eHolding)), (106, .row 59 5 (x_27.map eHolding))]⟩) rfl ?_
          refine OpsL.cons rfl (op_pick_or (fun e => by rw [e]; rfl) rfl rfl rfl rfl) ?_
          refine OpsL.cons rfl (op_move rfl) ?_
          refine OpsL.consG (!((!x_30) || (!x_31))) 99 [] (.plain rfl) (eq_f _) rfl rfl (fun g68 => trivial) (fun g68 => op_move rfl) ?_
          refine OpsL.consG (!((!x_30) || (!x_31))) 99 [] (.plain rfl) (eq_f _) rfl rfl (fun g69 => trivial) (fun g69 => op_move rfl) ?_
          obtain ⟨x_32, e71, h⟩ := bnd h
          refine OpsL.consG (!((!x_30) || (!x_31))) 99 [154, 155] (.plain rfl) (eq_f _) rfl rfl (fun g70 => ⟨g70, g70, trivial⟩) (fun g70 => op_call0 (region_Letters_spec 0 (gc e71 g70)).persG goes15 rfl rfl) ?_
          refine OpsL.consG (!((!x_30) || (!x_31))) 99 [] (.plain rfl) (eq_f _) rfl rfl (fun g72 => trivial) (fun g72 => op_move rfl) ?_
          refine OpsL.keep [0, 1, 11, 13, 15, 17, 19, 21, 22, 153, 156, 157] [101, 102, 103, 104, 105, 106] (s' := ⟨[(0, .b (.one (.sl 5 (l0.map eHolding)))), (1, I node0), (11, .b (.ptr 101 0)), (13, .b (.row 102)), (15, .b (.row 103)), (17, .b (.row 104)), (19, .b (.row 105)), (21, .b (.row 106)), (22, .b (.one (.sl 6 (x_28.map eParcel)))), (153, B ((!x_30) || (!x_31))), (156, .opt (!((!x_30) || (!x_31))) (.one (.sl 6 (x_32.map eParcel)))), (157, .opt (!((!x_30) || (!x_31))) (.one (.sl 5 (l0.map eHolding))))], [(101, .box 45 [.i x0.From, .i x0.To, .i x0.Kind, .i x0.Body, .i x0.Epoch, .str x0.Data]), (102, .row 59 5 (x_8.map eHolding)), (103, .row 59 5 (x_10.map eHolding)), (104, .row 59 5 (x_12.map eHolding)), (105, .row 59 5 (x_14.map eHolding)), (106, .row 59 5 (x_27.map eHolding))]⟩) rfl ?_
          refine OpsL.consG (!((!x_30) || (!x_31))) 99 [] (.plain rfl) (eq_f _) rfl rfl (fun g73 => trivial) (fun g73 => op_move rfl) ?_
          obtain ⟨x_33, e75, h⟩ := bnd h
          refine OpsL.consG (!((!x_30) || (!x_31))) 99 [157, 158] (.plain rfl) (eq_f _) rfl rfl (fun g74 => ⟨g74, g74, trivial⟩) (fun g74 => op_call0 (skewbackref41_Letters_spec 0 (gc e75 g74)).persG goes36 rfl rfl) ?_
          obtain ⟨x_34, e77, h⟩ := bnd h
          refine OpsL.consG (!((!x_30) || (!x_31))) 99 [156, 159] (.plain rfl) (eq_f _) rfl rfl (fun g76 => ⟨g76, g76, trivial⟩) (fun g76 => op_call0 (skewbackref41_SameLetters_spec (gc e77 g76)) goes35 rfl rfl) ?_
          refine OpsL.consG (!((!x_30) || (!x_31))) 99 [160] (.plain rfl) (eq_f _) rfl rfl (fun g78 => ⟨g78, trivial⟩) (fun g78 => op_not rfl) ?_
          refine OpsL.cons rfl (op_pick_or (fun e => by rw [e]; rfl) rfl rfl rfl rfl) ?_
          refine OpsL.nilK [0, 1, 11, 13, 15, 17, 19, 21, 22, 162] [101, 102, 103, 104, 105, 106] (s' := ⟨[(0, .b (.one (.sl 5 (l0.map eHolding)))), (1, I node0), (11, .b (.ptr 101 0)), (13, .b (.row 102)), (15, .b (.row 103)), (17, .b (.row 104)), (19, .b (.row 105)), (21, .b (.row 106)), (22, .b (.one (.sl 6 (x_28.map eParcel)))), (162, B (((!x_30) || (!x_31)) || (!x_34)))], [(101, .box 45 [.i x0.From, .i x0.To, .i x0.Kind, .i x0.Body, .i x0.Epoch, .str x0.Data]), (102, .row 59 5 (x_8.map eHolding)), (103, .row 59 5 (x_10.map eHolding)), (104, .row 59 5 (x_12.map eHolding)), (105, .row 59 5 (x_14.map eHolding)), (106, .row 59 5 (x_27.map eHolding))]⟩) rfl ?_
          refine Tri.ite h rfl (fun _ h => ?_) (fun _ h => ?_)
          · refine Tri.seq ?_
            refine Tri.regionL ?_
            refine OpsL.cons rfl (op_assign rfl) ?_
            refine OpsL.nilK [12] [] (s' := ⟨[(12, B false)], []⟩) rfl ?_
            refine Tri.ret ?_
            refine Fin.then_ret ?_
            obtain rfl := Option.some.inj h
            refine Fin.keep [12] [] (s' := ⟨[(12, B false)], []⟩) rfl ?_
            refine Fin.result' [.one (.bool false)] (.inl rfl) rfl (.cons (.tmp rfl) .nil) ⟨rfl, rfl⟩
          · refine Tri.skip ?_
            refine Fin.keep [0, 1, 11, 13, 15, 17, 19, 21, 22] [101, 102, 103, 104, 105, 106] (s' := ⟨[(0, .b (.one (.sl 5 (l0.map eHolding)))), (1, I node0), (11, .b (.ptr 101 0)), (13, .b (.row 102)), (15, .b (.row 103)), (17, .b (.row 104)), (19, .b (.row 105)), (21, .b (.row 106)), (22, .b (.one (.sl 6 (x_28.map eParcel))))], [(101, .box 45 [.i x0.From, .i x0.To, .i x0.Kind, .i x0.Body, .i x0.Epoch, .str x0.Data]), (102, .row 59 5 (x_8.map eHolding)), (103, .row 59 5 (x_10.map eHolding)), (104, .row 59 5 (x_12.map eHolding)), (105, .row 59 5 (x_14.map eHolding)), (106, .row 59 5 (x_27.map eHolding))]⟩) rfl ?_
            refine Fin.then ?_
            obtain ⟨v79, h80, h⟩ := bnd h
            refine Tri.seqJ (v := v79) (fun (_ : Unit) => ⟨[(0, .b (.one (.sl 5 (l0.map eHolding)))), (1, I node0), (11, .b (.ptr 101 0)), (21, .b (.one (.sl 5 (x_27.map eHolding)))), (22, .b (.one (.sl 6 (x_28.map eParcel))))], [(101, .box 45 [.i x0.From, .i x0.To, .i x0.Kind, .i x0.Body, .i x0.Epoch, .str x0.Data])]⟩) (fun z => .inl z) ?_ ?_
            · refine Tri.seq ?_
              refine Tri.regionL ?_
              refine OpsL.cons rfl (op_move rfl) ?_
              refine OpsL.cons rfl (op_move rfl) ?_
              refine OpsL.cons rfl (op_move rfl) ?_
              refine OpsL.cons rfl (op_move rfl) ?_
              refine OpsL.cons rfl (op_move rfl) ?_
              refine OpsL.persist 102 rfl ?_
              refine OpsL.persist 103 rfl ?_
              refine OpsL.persist 104 rfl ?_
              refine OpsL.persist 105 rfl ?_
              refine OpsL.persist 106 rfl ?_
              refine OpsL.keep [0, 1, 11, 21, 22, 163, 164, 165, 166, 167] [101] (s' := ⟨[(0, .b (.one (.sl 5 (l0.map eHolding)))), (1, I node0), (11, .b (.ptr 101 0)), (21, .b (.one (.sl 5 (x_27.map eHolding)))), (22, .b (.one (.sl 6 (x_28.map eParcel)))), (163, .b (.one (.sl 5 (x_8.map eHolding)))), (164, .b (.one (.sl 5 (x_10.map eHolding)))), (165, .b (.one (.sl 5 (x_12.map eHolding)))), (166, .b (.one (.sl 5 (x_14.map eHolding)))), (167, .b (.one (.sl 5 (x_27.map eHolding))))], [(101, .box 45 [.i x0.From, .i x0.To, .i x0.Kind, .i x0.Body, .i x0.Epoch, .str x0.Data])]⟩) rfl ?_
              refine OpsL.cons rfl (op_buildSlice (k := 110) (es := [x_8, x_10, x_12, x_14, x_27].map (eL 5 eHolding)) tySl37 rfl rfl (uni_map fun _ => rfl) rfl (by decide) (by decide) rfl) ?_
              refine OpsL.consI .i64 h80 rfl (op_len_r' und37 rfl rfl (List.length_map _)) (fun x_35 h80 => ?_)
              refine OpsL.cons rfl (op_move rfl) ?_
              refine OpsL.nilK [0, 1, 11, 21, 22, 168, 169, 170] [101, 110] (s' := ⟨[(0, .b (.one (.sl 5 (l0.map eHolding)))), (1, I node0), (11, .b (.ptr 101 0)), (21, .b (.one (.sl 5 (x_27.map eHolding)))), (22, .b (.one (.sl 6 (x_28.map eParcel)))), (168, .b (.row 110)), (169, I x_35), (170, I 0)], [(101, .box 45 [.i x0.From, .i x0.To, .i x0.Kind, .i x0.Body, .i x0.Epoch, .str x0.Data]), (110, .row 42 1 ([x_8, x_10, x_12, x_14, x_27].map (eL 5 eHolding)))]⟩) rfl ?_
              refine Tri.block ?_
              refine Tri.loopJ h80 (fun (x_36 : Int) => ⟨[(0, .b (.one (.sl 5 (l0.map eHolding)))), (1, I node0), (11, .b (.ptr 101 0)), (21, .b (.one (.sl 5 (x_27.map eHolding)))), (22, .b (.one (.sl 6 (x_28.map eParcel)))), (168, .b (.row 110)), (169, I x_35), (170, I x_36)], [(101, .box 45 [.i x0.From, .i x0.To, .i x0.Kind, .i x0.Body, .i x0.Epoch, .str x0.Data]), (110, .row 42 1 ([x_8, x_10, x_12, x_14, x_27].map (eL 5 eHolding)))]⟩) [0, 1, 11, 21, 22, 168, 169, 170] [101, 110] rfl ?_
              rintro x_36 o81 h82 hy83
              refine Tri.seq ?_
              refine Tri.regionL ?_
              refine OpsL.cons rfl (op_lss rfl rfl) ?_
              refine OpsL.nilK [0, 1, 11, 21, 22, 168, 169, 170, 171] [101, 110] (s' := ⟨[(0, .b (.one (.sl 5 (l0.map eHolding)))), (1, I node0), (11, .b (.ptr 101 0)), (21, .b (.one (.sl 5 (x_27.map eHolding)))), (22, .b (.one (.sl 6 (x_28.map eParcel)))), (168, .b (.row 110)), (169, I x_35), (170, I x_36), (171, B (decide (x_36 < x_35)))], [(101, .box 45 [.i x0.From, .i x0.To, .i x0.Kind, .i x0.Body, .i x0.Epoch, .str x0.Data]), (110, .row 42 1 ([x_8, x_10, x_12, x_14, x_27].map (eL 5 eHolding)))]⟩) rfl ?_
              refine Tri.seq ?_
              refine Tri.ite h82 rfl (fun _ h82 => ?_) (fun _ h82 => ?_)
              · refine Tri.skip ?_
                refine Fin.keep [0, 1, 11, 21, 22, 168, 169, 170] [101, 110] (s' := ⟨[(0, .b (.one (.sl 5 (l0.map eHolding)))), (1, I node0), (11, .b (.ptr 101 0)), (21, .b (.one (.sl 5 (x_27.map eHolding)))), (22, .b (.one (.sl 6 (x_28.map eParcel)))), (168, .b (.row 110)), (169, I x_35), (170, I x_36)], [(101, .box 45 [.i x0.From, .i x0.To, .i x0.Kind, .i x0.Body, .i x0.Epoch, .str x0.Data]), (110, .row 42 1 ([x_8, x_10, x_12, x_14, x_27].map (eL 5 eHolding)))]⟩) rfl ?_
                refine Fin.then ?_
                refine Tri.seq ?_
                refine Tri.block ?_
                refine Tri.seq ?_
                refine Tri.regionL ?_
                obtain ⟨x_37, e84, h82⟩ := bnd h82
                refine OpsL.cons rfl (op_index_r tySl37 (ix_lo e84) (ix_lt' e84) rfl rfl rfl rfl) ?_
                refine OpsL.cons rfl (op_load_r1 (i := (x_36 : Int).toNat) (f := 0) tyOne42 rfl rfl rfl (ix_map (e := (eL 5 eHolding)) e84) rfl) ?_
                refine OpsL.cons rfl (op_assign rfl) ?_
                refine OpsL.nilK [0, 1, 11, 21, 22, 25, 168, 169, 170] [101, 110] (s' := ⟨[(0, .b (.one (.sl 5 (l0.map eHolding)))), (1, I node0), (11, .b (.ptr 101 0)), (21, .b (.one (.sl 5 (x_27.map eHolding)))), (22, .b (.one (.sl 6 (x_28.map eParcel)))), (25, .b (.one (.sl 5 (x_37.map eHolding)))), (168, .b (.row 110)), (169, I x_35), (170, I x_36)], [(101, .box 45 [.i x0.From, .i x0.To, .i x0.Kind, .i x0.Body, .i x0.Epoch, .str x0.Data]), (110, .row 42 1 ([x_8, x_10, x_12, x_14, x_27].map (eL 5 eHolding)))]⟩) rfl ?_
                refine Tri.seq ?_
                refine Tri.regionL ?_
                refine OpsL.cons rfl (op_move rfl) ?_
                obtain ⟨x_38, e85, h82⟩ := bnd h82
                refine OpsL.cons rfl (op_call0 (region_Valid_spec e85) goes19 rfl rfl) ?_
                refine OpsL.cons rfl (op_not rfl) ?_
                refine OpsL.nilK [0, 1, 11, 21, 22, 168, 169, 170, 176] [101, 110] (s' := ⟨[(0, .b (.one (.sl 5 (l0.map eHolding)))), (1, I node0), (11, .b (.ptr 101 0)), (21, .b (.one (.sl 5 (x_27.map eHolding)))), (22, .b (.one (.sl 6 (x_28.map eParcel)))), (168, .b (.row 110)), (169, I x_35), (170, I x_36), (176, B (!x_38))], [(101, .box 45 [.i x0.From, .i x0.To, .i x0.Kind, .i x0.Body, .i x0.Epoch, .str x0.Data]), (110, .row 42 1 ([x_8, x_10, x_12, x_14, x_27].map (eL 5 eHolding)))]⟩) rfl ?_
                refine Tri.ite h82 rfl (fun _ h82 => ?_) (fun _ h82 => ?_)
                · refine Tri.seq ?_
                  refine Tri.regionL ?_
                  refine OpsL.cons rfl (op_assign rfl) ?_
                  refine OpsL.nilK [12] [] (s' := ⟨[(12, B false)], []⟩) rfl ?_
                  refine Tri.ret ?_
                  refine Fin.block_ret ?_
                  refine Fin.then_ret ?_
                  obtain rfl := hy83 _ (Option.some.inj h82).symm
                  refine Fin.then_ret ?_
                  refine Fin.block_ret ?_
                  refine Fin.then_ret ?_
                  obtain rfl := Option.some.inj h
                  refine Fin.keep [12] [] (s' := ⟨[(12, B false)], []⟩) rfl ?_
                  refine Fin.result' [.one (.bool false)] (.inl rfl) rfl (.cons (.tmp rfl) .nil) ⟨rfl, rfl⟩
                · refine Tri.skip ?_
                  refine Fin.block_normal ?_
                  refine Fin.keep [0, 1, 11, 21, 22, 168, 169, 170] [101, 110] (s' := ⟨[(0, .b (.one (.sl 5 (l0.map eHolding)))), (1, I node0), (11, .b (.ptr 101 0)), (21, .b (.one (.sl 5 (x_27.map eHolding)))), (22, .b (.one (.sl 6 (x_28.map eParcel)))), (168, .b (.row 110)), (169, I x_35), (170, I x_36)], [(101, .box 45 [.i x0.From, .i x0.To, .i x0.Kind, .i x0.Body, .i x0.Epoch, .str x0.Data]), (110, .row 42 1 ([x_8, x_10, x_12, x_14, x_27].map (eL 5 eHolding)))]⟩) rfl ?_
                  refine Fin.then ?_
                  refine Tri.regionL ?_
                  refine OpsL.cons rfl (op_add rfl rfl) ?_
                  refine OpsL.cons rfl (op_move rfl) ?_
                  refine OpsL.nil ?_
                  exact Fin.againJ [0, 1, 11, 21, 22, 168, 169, 170] [101, 110] (IntKind.i64.wrap (x_36 + 1)) (Option.some.inj h82) rfl
              · refine Tri.exit ?_
                refine Fin.then_exit ?_
                obtain rfl := hy83 _ (Option.some.inj h82).symm
                refine Fin.then_exit ?_
                refine Fin.block_exit ?_
                exact Fin.join [0, 1, 11, 21, 22] [101] () rfl rfl
            · rintro _ hv
              subst v79
              refine Tri.seq ?_
              refine Tri.regionL ?_
              refine OpsL.cons rfl (op_move rfl) ?_
              obtain ⟨x_39, e86, h⟩ := bnd h
              refine OpsL.cons rfl (op_call (region_Active_spec 111 e86) goes37 rfl trivial rfl rfl) ?_
              refine OpsL.cons rfl (op_move rfl) ?_
              refine OpsL.keep [1, 11, 21, 22, 179, 180] [101, 111] (s' := ⟨[(1, I node0), (11, .b (.ptr 101 0)), (21, .b (.one (.sl 5 (x_27.map eHolding)))), (22, .b (.one (.sl 6 (x_28.map eParcel)))), (179, .b (.row 111)), (180, .b (.one (.sl 5 (l0.map eHolding))))], [(101, .box 45 [.i x0.From, .i x0.To, .i x0.Kind, .i x0.Body, .i x0.Epoch, .str x0.Data]), (111, .row 3 1 (x_39.map eI))]⟩) rfl ?_
              obtain ⟨x_40, e87, h⟩ := bnd h
              refine OpsL.cons rfl (op_call (skewbackref41_Active_spec 112 e87) goes38 rfl trivial rfl rfl) ?_
              refine OpsL.cons rfl (op_assign rfl) ?_
              refine OpsL.cons rfl (op_assign rfl) ?_
              refine OpsL.nilK [1, 11, 21, 22, 26, 27] [101, 111, 112] (s' := ⟨[(1, I node0), (11, .b (.ptr 101 0)), (21, .b (.one (.sl 5 (x_27.map eHolding)))), (22, .b (.one (.sl 6 (x_28.map eParcel)))), (26, .b (.row 111)), (27, .b (.row 112))], [(101, .box 45 [.i x0.From, .i x0.To, .i x0.Kind, .i x0.Body, .i x0.Epoch, .str x0.Data]), (111, .row 3 1 (x_39.map eI)), (112, .row 3 1 (x_40.map eI))]⟩) rfl ?_
              refine Tri.seq ?_
              refine Tri.seq ?_
              refine Tri.regionL ?_
              refine OpsL.cons rfl (op_move rfl) ?_
              refine OpsL.cons rfl (op_len_r' und22 rfl rfl (List.length_map _)) ?_
              refine OpsL.cons rfl (op_move rfl) ?_
              refine OpsL.cons rfl (op_len_r' und22 rfl rfl (List.length_map _)) ?_
              refine OpsL.cons rfl (op_neq rfl rfl) ?_
              refine OpsL.nilK [1, 11, 21, 22, 26, 27, 186] [101, 111, 112] (s' := ⟨[(1, I node0), (11, .b (.ptr 101 0)), (21, .b (.one (.sl 5 (x_27.map eHolding)))), (22, .b (.one (.sl 6 (x_28.map eParcel)))), (26, .b (.row 111)), (27, .b (.row 112)), (186, B (decide ((x_39.length : Int) ≠ (x_40.length : Int))))], [(101, .box 45 [.i x0.From, .i x0.To, .i x0.Kind, .i x0.Body, .i x0.Epoch, .str x0.Data]), (111, .row 3 1 (x_39.map eI)), (112, .row 3 1 (x_40.map eI))]⟩) rfl ?_
              refine Tri.ite h rfl (fun _ h => ?_) (fun _ h => ?_)
              · refine Tri.seq ?_
                refine Tri.regionL ?_
                refine OpsL.cons rfl (op_assign rfl) ?_
                refine OpsL.nilK [12] [] (s' := ⟨[(12, B false)], []⟩) rfl ?_
                refine Tri.ret ?_
                refine Fin.then_ret ?_
                obtain rfl := Option.some.inj h
                refine Fin.keep [12] [] (s' := ⟨[(12, B false)], []⟩) rfl ?_
                refine Fin.result' [.one (.bool false)] (.inl rfl) rfl (.cons (.tmp rfl) .nil) ⟨rfl, rfl⟩
              · refine Tri.skip ?_
                refine Fin.keep [1, 11, 21, 22, 26, 27] [101, 111, 112] (s' := ⟨[(1, I node0), (11, .b (.ptr 101 0)), (21, .b (.one (.sl 5 (x_27.map eHolding)))), (22, .b (.one (.sl 6 (x_28.map eParcel)))), (26, .b (.row 111)), (27, .b (.row 112))], [(101, .box 45 [.i x0.From, .i x0.To, .i x0.Kind, .i x0.Body, .i x0.Epoch, .str x0.Data]), (111, .row 3 1 (x_39.map eI)), (112, .row 3 1 (x_40.map eI))]⟩) rfl ?_
                refine Fin.then ?_
                obtain ⟨v88, h89, h⟩ := bnd h
                refine Tri.seqJ (v := v88) (fun (_ : Unit) => ⟨[(1, I node0), (11, .b (.ptr 101 0)), (21, .b (.one (.sl 5 (x_27.map eHolding)))), (22, .b (.one (.sl 6 (x_28.map eParcel))))], [(101, .box 45 [.i x0.From, .i x0.To, .i x0.Kind, .i x0.Body, .i x0.Epoch, .str x0.Data])]⟩) (fun z => .inl z) ?_ ?_
                · refine Tri.seq ?_
                  refine Tri.regionL ?_
                  refine OpsL.cons rfl (op_move rfl) ?_
                  refine OpsL.cons rfl (op_len_r' und22 rfl rfl (List.length_map _)) ?_
                  refine OpsL.cons rfl (op_move rfl) ?_
                  refine OpsL.nilK [1, 11, 21, 22, 26, 27, 188, 189] [101, 111, 112] (s' := ⟨[(1, I node0), (11, .b (.ptr 101 0)), (21, .b (.one (.sl 5 (x_27.map eHolding)))), (22, .b (.one (.sl 6 (x_28.map eParcel)))), (26, .b (.row 111)), (27, .b (.row 112)), (188, I (x_39.length : Int)), (189, I 0)], [(101, .box 45 [.i x0.From, .i x0.To, .i x0.Kind, .i x0.Body, .i x0.Epoch, .str x0.Data]), (111, .row 3 1 (x_39.map eI)), (112, .row 3 1 (x_40.map eI))]⟩) rfl ?_
                  refine Tri.block ?_
                  refine Tri.loopJ h89 (fun (x_41 : Int) => ⟨[(1, I node0), (11, .b (.ptr 101 0)), (21, .b (.one (.sl 5 (x_27.map eHolding)))), (22, .b (.one (.sl 6 (x_28.map eParcel)))), (26, .b (.row 111)), (27, .b (.row 112)), (188, I (x_39.length : Int)), (189, I x_41)], [(101, .box 45 [.i x0.From, .i x0.To, .i x0.Kind, .i x0.Body, .i x0.Epoch, .str x0.Data]), (111, .row 3 1 (x_39.map eI)), (112, .row 3 1 (x_40.map eI))]⟩) [1, 11, 21, 22, 26, 27, 188, 189] [101, 111, 112] rfl ?_
                  rintro x_41 o90 h91 hy92
                  refine Tri.seq ?_
                  refine Tri.regionL ?_
                  refine OpsL.cons rfl (op_lss rfl rfl) ?_
                  refine OpsL.nilK [1, 11, 21, 22, 26, 27, 188, 189, 190] [101, 111, 112] (s' := ⟨[(1, I node0), (11, .b (.ptr 101 0)), (21, .b (.one (.sl 5 (x_27.map eHolding)))), (22, .b (.one (.sl 6 (x_28.map eParcel)))), (26, .b (.row 111)), (27, .b (.row 112)), (188, I (x_39.length : Int)), (189, I x_41), (190, B (decide (x_41 < (x_39.length : Int))))], [(101, .box 45 [.i x0.From, .i x0.To, .i x0.Kind, .i x0.Body, .i x0.Epoch, .str x0.Data]), (111, .row 3 1 (x_39.map eI)), (112, .row 3 1 (x_40.map eI))]⟩) rfl ?_
                  refine Tri.seq ?_
                  refine Tri.ite h91 rfl (fun _ h91 => ?_) (fun _ h91 => ?_)
                  · refine Tri.skip ?_
                    refine Fin.keep [1, 11, 21, 22, 26, 27, 188, 189] [101, 111, 112] (s' := ⟨[(1, I node0), (11, .b (.ptr 101 0)), (21, .b (.one (.sl 5 (x_27.map eHolding)))), (22, .b (.one (.sl 6 (x_28.map eParcel)))), (26, .b (.row 111)), (27, .b (.row 112)), (188, I (x_39.length : Int)), (189, I x_41)], [(101, .box 45 [.i x0.From, .i x0.To, .i x0.Kind, .i x0.Body, .i x0.Epoch, .str x0.Data]), (111, .row 3 1 (x_39.map eI)), (112, .row 3 1 (x_40.map eI))]⟩) rfl ?_
                    refine Fin.then ?_
                    refine Tri.seq ?_
                    refine Tri.block ?_
                    refine Tri.seq ?_
                    refine Tri.regionL ?_
                    refine OpsL.cons rfl (op_move rfl) ?_
                    refine OpsL.cons rfl (op_assign rfl) ?_
                    refine OpsL.nilK [1, 11, 21, 22, 26, 27, 28, 188, 189] [101, 111, 112] (s' := ⟨[(1, I node0), (11, .b (.ptr 101 0)), (21, .b (.one (.sl 5 (x_27.map eHolding)))), (22, .b (.one (.sl 6 (x_28.map eParcel)))), (26, .b (.row 111)), (27, .b (.row 112)), (28, I x_41), (188, I (x_39.length : Int)), (189, I x_41)], [(101, .box 45 [.i x0.From, .i x0.To, .i x0.Kind, .i x0.Body, .i x0.Epoch, .str x0.Data]), (111, .row 3 1 (x_39.map eI)), (112, .row 3 1 (x_40.map eI))]⟩) rfl ?_
                    refine Tri.seq ?_
                    refine Tri.keep [1, 11, 21, 22, 26, 27, 28, 188, 189] [101, 111, 112] (s' := ⟨[(1, I node0), (11, .b (.ptr 101 0)), (21, .b (.one (.sl 5 (x_27.map eHolding)))), (22, .b (.one (.sl 6 (x_28.map eParcel)))), (26, .b (.row 111)), (27, .b (.row 112)), (28, I x_41), (188, I (x_39.length : Int)), (189, I x_41)], [(101, .box 45 [.i x0.From, .i x0.To, .i x0.Kind, .i x0.Body, .i x0.Epoch, .str x0.Data]), (111, .row 3 1 (x_39.map eI)), (112, .row 3 1 (x_40.map eI))]⟩) rfl ?_
                    obtain ⟨x_42, e93, h91⟩ := bnd h91
                    obtain ⟨x_43, e94, h91⟩ := bnd h91
                    refine Tri.regionD mixed [.b (.row 111), I x_41, .b (.rptr 111 ((x_41 : Int).toNat * 1)), I x_42, .b (.row 112), I x_41, .b (.rptr 112 ((x_41 : Int).toNat * 1)), I x_43, B (decide (x_42 ≠ x_43))] [1, 11, 21, 22, 26, 27, 188, 189, 200] [101, 111, 112] (s' := ⟨[(1, I node0), (11, .b (.ptr 101 0)), (21, .b (.one (.sl 5 (x_27.map eHolding)))), (22, .b (.one (.sl 6 (x_28.map eParcel)))), (26, .b (.row 111)), (27, .b (.row 112)), (188, I (x_39.length : Int)), (189, I x_41), (200, B (decide (x_42 ≠ x_43)))], [(101, .box 45 [.i x0.From, .i x0.To, .i x0.Kind, .i x0.Body, .i x0.Epoch, .str x0.Data]), (111, .row 3 1 (x_39.map eI)), (112, .row 3 1 (x_40.map eI))]⟩) rfl ⟨fun _ => .plain rfl (op_move rfl), fun _ => .plain rfl (op_move rfl), fun _ => .plain rfl (op_index_r tySl22 (ix_lo e93) (ix_lt' e93) rfl rfl rfl rfl), fun _ => .plain rfl (op_load_r1 (i := (x_41 : Int).toNat) (f := 0) tyOne3 rfl rfl rfl (ix_map (e := eI) e93) rfl), fun _ => .plain rfl (op_move rfl), fun _ => .plain rfl (op_move rfl), fun _ => .plain rfl (op_index_r tySl22 (ix_lo e94) (ix_lt' e94) rfl rfl rfl rfl), fun _ => .plain rfl (op_load_r1 (i := (x_41 : Int).toNat) (f := 0) tyOne3 rfl rfl rfl (ix_map (e := eI) e94) rfl), fun _ => .plain rfl (op_neq rfl rfl), trivial⟩ rfl ?_
                    refine Tri.ite h91 rfl (fun _ h91 => ?_) (fun _ h91 => ?_)
                    · refine Tri.seq ?_
                      refine Tri.regionL ?_
                      refine OpsL.cons rfl (op_assign rfl) ?_
                      refine OpsL.nilK [12] [] (s' := ⟨[(12, B false)], []⟩) rfl ?_
                      refine Tri.ret ?_
                      refine Fin.block_ret ?_
                      refine Fin.then_ret ?_
                      obtain rfl := hy92 _ (Option.some.inj h91).symm
                      refine Fin.then_ret ?_
                      refine Fin.block_ret ?_
                      refine Fin.then_ret ?_
                      obtain rfl := Option.some.inj h
                      refine Fin.keep [12] [] (s' := ⟨[(12, B false)], []⟩) rfl ?_
                      refine Fin.result' [.one (.bool false)] (.inl rfl) rfl (.cons (.tmp rfl) .nil) ⟨rfl, rfl⟩
                    · refine Tri.skip ?_
                      refine Fin.block_normal ?_
                      refine Fin.keep [1, 11, 21, 22, 26, 27, 188, 189] [101, 111, 112] (s' := ⟨[(1, I node0), (11, .b (.ptr 101 0)), (21, .b (.one (.sl 5 (x_27.map eHolding)))), (22, .b (.one (.sl 6 (x_28.map eParcel)))), (26, .b (.row 111)), (27, .b (.row 112)), (188, I (x_39.length : Int)), (189, I x_41)], [(101, .box 45 [.i x0.From, .i x0.To, .i x0.Kind, .i x0.Body, .i x0.Epoch, .str x0.Data]), (111, .row 3 1 (x_39.map eI)), (112, .row 3 1 (x_40.map eI))]⟩) rfl ?_
                      refine Fin.then ?_
                      refine Tri.regionL ?_
                      refine OpsL.cons rfl (op_add rfl rfl) ?_
                      refine OpsL.cons rfl (op_move rfl) ?_
                      refine OpsL.nil ?_
                      exact Fin.againJ [1, 11, 21, 22, 26, 27, 188, 189] [101, 111, 112] (IntKind.i64.wrap (x_41 + 1)) (Option.some.inj h91) rfl
                  · refine Tri.exit ?_
                    refine Fin.then_exit ?_
                    obtain rfl := hy92 _ (Option.some.inj h91).symm
                    refine Fin.then_exit ?_
                    refine Fin.block_exit ?_
                    exact Fin.join [1, 11, 21, 22] [101] () rfl rfl
                · rintro _ hv
                  subst v88
                  refine Tri.seq ?_
                  refine Tri.regionL ?_
                  refine OpsL.cons rfl (op_move rfl) ?_
                  refine OpsL.cons rfl (op_move rfl) ?_
                  refine OpsL.cons rfl (op_load_p tyAgg45 rfl rfl rfl rfl) ?_
                  obtain ⟨⟨x_44, x_45⟩, e95, h⟩ := bnd h
                  refine OpsL.cons rfl (op_call (region_Receive_spec 113 e95) goes32 rfl trivial rfl rfl) ?_
                  refine OpsL.cons rfl (op_move rfl) ?_
                  refine OpsL.keep [11, 21, 22, 202] [101, 113] (s' := ⟨[(11, .b (.ptr 101 0)), (21, .b (.one (.sl 5 (x_27.map eHolding)))), (22, .b (.one (.sl 6 (x_28.map eParcel)))), (202, .tup [.row 113, .one (.sl 6 (x_45.map eParcel))])], [(101, .box 45 [.i x0.From, .i x0.To, .i x0.Kind, .i x0.Body, .i x0.Epoch, .str x0.Data]), (113, .row 59 5 (x_44.map eHolding))]⟩) rfl ?_
                  refine OpsL.cons rfl (op_extract rfl rfl) ?_
                  refine OpsL.cons rfl (op_extract rfl rfl) ?_
                  refine OpsL.cons rfl (op_assign rfl) ?_
                  refine OpsL.cons rfl (op_assign rfl) ?_
                  refine OpsL.nilK [11, 21, 22, 29, 30] [101, 113] (s' := ⟨[(11, .b (.ptr 101 0)), (21, .b (.one (.sl 5 (x_27.map eHolding)))), (22, .b (.one (.sl 6 (x_28.map eParcel)))), (29, .b (.row 113)), (30, .b (.one (.sl 6 (x_45.map eParcel))))], [(101, .box 45 [.i x0.From, .i x0.To, .i x0.Kind, .i x0.Body, .i x0.Epoch, .str x0.Data]), (113, .row 59 5 (x_44.map eHolding))]⟩) rfl ?_
                  refine Tri.seq ?_
                  refine Tri.regionL ?_
                  obtain ⟨x_46, e96, h⟩ := bnd h
                  refine OpsL.cons rfl (op_call0 (skewbacklaw41_sanity_spec e96) goes7 rfl rfl) ?_
                  refine OpsL.cons rfl (op_move rfl) ?_
                  refine OpsL.consG x_46 99 [] (.plain rfl) (eq_t _) rfl rfl (fun g97 => trivial) (fun g97 => op_move rfl) ?_
                  refine OpsL.consG x_46 99 [] (.plain rfl) (eq_t _) rfl rfl (fun g98 => trivial) (fun g98 => op_move rfl) ?_
                  refine OpsL.keep [11, 22, 30, 210, 211, 212] [101, 113] (s' := ⟨[(11, .b (.ptr 101 0)), (22, .b (.one (.sl 6 (x_28.map eParcel)))), (30, .b (.one (.sl 6 (x_45.map eParcel)))), (210, B x_46), (211, .opt x_46 (.row 113)), (212, .opt x_46 (.one (.sl 5 (x_27.map eHolding))))], [(101, .box 45 [.i x0.From, .i x0.To, .i x0.Kind, .i x0.Body, .i x0.Epoch, .str x0.Data]), (113, .row 59 5 (x_44.map eHolding))]⟩) rfl ?_
                  obtain ⟨x_47, e100, h⟩ := bnd h
                  refine OpsL.consG x_46 99 [211, 212] (.plain rfl) (eq_t _) rfl rfl (fun g99 => ⟨g99, g99, trivial⟩) (fun g99 => op_callB (skewbackref41_Same_spec (gc e100 g99)) goes34 rfl CP.flat_bool) ?_
                  refine OpsL.cons rfl (op_pick_and (fun e => e) rfl rfl rfl rfl) ?_
                  refine OpsL.cons rfl (op_move rfl) ?_
                  refine OpsL.consG (x_46 && x_47) 99 [] (.plain rfl) (eq_t _) rfl rfl (fun g101 => trivial) (fun g101 => op_field_p tyFld45_2 rfl rfl) ?_
                  refine OpsL.consG (x_46 && x_47) 99 [216] (.plain rfl) (eq_t _) rfl rfl (fun g102 => ⟨g102, trivial⟩) (fun g102 => op_load_p1 tyOne3 rfl rfl rfl) ?_
                  refine OpsL.consG (x_46 && x_47) 99 [217] (.plain rfl) (eq_t _) rfl rfl (fun g103 => ⟨g103, trivial⟩) (fun g103 => op_neq rfl rfl) ?_
                  refine OpsL.consG (x_46 && x_47) 99 [218] (.plain rfl) (eq_t _) rfl rfl (fun g104 => ⟨g104, trivial⟩) (fun g104 => op_move rfl) ?_
                  refine OpsL.consG ((x_46 && x_47) && !(decide (x0.Kind ≠ 3))) 99 [] (.under rfl) (and_f _ _) rfl rfl (fun g105 => trivial) (fun g105 => op_move rfl) ?_
                  refine OpsL.keep [30, 215, 219, 220] [] (s' := ⟨[(30, .b (.one (.sl 6 (x_45.map eParcel)))), (215, B (x_46 && x_47)), (219, .opt (x_46 && x_47) (.one (.bool (decide (x0.Kind ≠ 3))))), (220, .opt ((x_46 && x_47) && !(decide (x0.Kind ≠ 3))) (.one (.sl 6 (x_28.map eParcel))))], []⟩) rfl ?_
                  refine OpsL.consG ((x_46 && x_47) && !(decide (x0.Kind ≠ 3))) 99 [] (.under rfl) (and_f _ _) rfl rfl (fun g106 => trivial) (fun g106 => op_move rfl) ?_
                  obtain ⟨x_48, e108, h⟩ := bnd h
                  refine OpsL.consG ((x_46 && x_47) && !(decide (x0.Kind ≠ 3))) 99 [220, 221] (.under rfl) (and_f _ _) rfl rfl (fun g107 => ⟨g107, g107, trivial⟩) (fun g107 => op_call0 (skewbackref41_SameLetters_spec (gc e108 g107)) goes35 rfl rfl) ?_
                  refine OpsL.consG (x_46 && x_47) 99 [219] (.plain rfl) (eq_t _) rfl rfl (fun g109 => ⟨g109, trivial⟩) (fun g109 => op_pick_or (fun e => by rw [g109, e]; rfl) rfl rfl rfl rfl) ?_
                  refine OpsL.cons rfl (op_pick_and (fun e => e) rfl rfl rfl rfl) ?_
                  refine OpsL.cons rfl (op_assign rfl) ?_
                  refine OpsL.nilK [12] [] (s' := ⟨[(12, B ((x_46 && x_47) && ((decide (x0.Kind ≠ 3)) || x_48)))], []⟩) rfl ?_
                  refine Tri.ret ?_
                  obtain rfl := Option.some.inj h
                  refine Fin.keep [12] [] (s' := ⟨[(12, B ((x_46 && x_47) && ((decide (x0.Kind ≠ 3)) || x_48)))], []⟩) rfl ?_
                  refine Fin.result' [.one (.bool ((x_46 && x_47) && ((decide (x0.Kind ≠ 3)) || x_48)))] (.inl rfl) rfl (.cons (.tmp rfl) .nil) ⟨rfl, rfl⟩

def skewbacklaw41_began_S (F : Nat) (n0 : Int) : Option (Bool × Str × (List (List Holding)) × (List Parcel)) :=
 Option.bind (mk? ([] : List Holding) n0 n0) (fun x_1 => Option.bind (region_Begin_S F [] 1 [48]) (un2 fun x_2 x_3 => Option.bind (idx? x_1 0) (fun x_4 => some (decide (x_3 = 0), [48], x_1.set (0 : Int).toNat x_2, []))))
theorem skewbacklaw41_began_spec {F : Nat} {n0 : Int} {r : Bool × Str × (List (List Holding)) × (List Parcel)} (h : skewbacklaw41_began_S F n0 = some r) : Meets Try.prog 12 [] [.one (.i n0)] (Is [(60, .xbox 40 [.row 61, .row 62, .one (.str r.2.1)]), (61, .row 42 1 (r.2.2.1.map (eL 5 eHolding))), (62, .row 45 6 (r.2.2.2.map eParcel))] (.tup [.ptr 60 0, .one (.bool r.1)])) := by
  unfold skewbacklaw41_began_S at h
  refine Meets.intro 24 Try.func12 Try.ntmps12 rfl (by simp) fun E => ?_
  show Tri _ E ⟨24, [], []⟩ _ ⟨[(0, I n0)], []⟩ _
  refine Tri.seq ?_
  refine Tri.regionL ?_
  refine OpsL.cons rfl (op_assign rfl) ?_
  refine OpsL.cons rfl (op_assign rfl) ?_
  refine OpsL.nilK [0] [] (s' := ⟨[(0, I n0)], []⟩) rfl ?_
  refine Tri.seq ?_
  refine Tri.regionL ?_
  refine OpsL.cons rfl (op_move rfl) ?_
  obtain ⟨x_1, e1, h⟩ := bnd h
  refine OpsL.cons rfl (op_makeSlice (k := 101) (enc := (eL 5 eHolding)) tySl37 e1 (by decide) (.cons (.nilsl (by decide)) .nil) rfl rfl rfl) ?_
  refine OpsL.cons rfl (op_build_x tyBuild40 rfl rfl) ?_
  refine OpsL.cons rfl (op_box_x (k := 102) rfl rfl rfl) ?_
  refine OpsL.cons rfl (op_assign rfl) ?_
  refine OpsL.nilK [4] [101, 102] (s' := ⟨[(4, .b (.ptr 102 0))], [(101, .row 42 1 (x_1.map (eL 5 eHolding))), (102, .xbox 40 [.row 101, .one (.nil), .one (.str [48])])]⟩) rfl ?_
  refine Tri.seq ?_
  refine Tri.regionL ?_
  obtain ⟨⟨x_2, x_3⟩, e2, h⟩ := bnd h
  refine OpsL.cons rfl (op_call (Meets.nilA 0 (by decide) (region_Begin_spec 103 e2) rfl) goes21 rfl trivial rfl rfl) ?_
  refine OpsL.cons rfl (op_move rfl) ?_
  refine OpsL.cons rfl (op_extract rfl rfl) ?_
  refine OpsL.cons rfl (op_extract rfl rfl) ?_
  refine OpsL.cons rfl (op_assign rfl) ?_
  refine OpsL.cons rfl (op_assign rfl) ?_
  refine OpsL.nilK [4, 5, 6] [101, 102, 103] (s' := ⟨[(4, .b (.ptr 102 0)), (5, .b (.row 103)), (6, I x_3)], [(101, .row 42 1 (x_1.map (eL 5 eHolding))), (102, .xbox 40 [.row 101, .one (.nil), .one (.str [48])]), (103, .row 59 5 (x_2.map eHolding))]⟩) rfl ?_
  refine Tri.seq ?_
  refine Tri.regionL ?_
  refine OpsL.cons rfl (op_move rfl) ?_
  refine OpsL.cons rfl (op_nilCheck_p rfl) ?_
  refine OpsL.cons rfl (op_field_p tyFld40_0 rfl rfl) ?_
  refine OpsL.cons rfl (op_load_x1 tyOne37 rfl rfl rfl) ?_
  refine OpsL.cons rfl (op_move rfl) ?_
  obtain ⟨x_4, e3, h⟩ := bnd h
  refine OpsL.cons rfl (op_index_r tySl37 (ix_lo e3) (ix_lt' e3) rfl rfl rfl rfl) ?_
  refine OpsL.persist 103 rfl ?_
  refine OpsL.cons rfl (op_store_r1 (i := (0 : Int).toNat) tyOne42 rfl rfl rfl rfl (ix_lt e3) (map_set _ _ _ _)) ?_
  refine OpsL.nilK [4, 6] [101, 102] (s' := ⟨[(4, .b (.ptr 102 0)), (6, I x_3)], [(101, .row 42 1 ((x_1.set (0 : Int).toNat x_2).map (eL 5 eHolding))), (102, .xbox 40 [.row 101, .one (.nil), .one (.str [48])])]⟩) rfl ?_
  refine Tri.seq ?_
  refine Tri.regionL ?_
  refine OpsL.cons rfl (op_move rfl) ?_
  refine OpsL.cons rfl (op_move rfl) ?_
  refine OpsL.cons rfl (op_eql rfl rfl) ?_
  refine OpsL.cons rfl (op_assign rfl) ?_
  refine OpsL.cons rfl (op_assign rfl) ?_
  refine OpsL.nilK [2, 3] [101, 102] (s' := ⟨[(2, .b (.ptr 102 0)), (3, B (decide (x_3 = 0)))], [(101, .row 42 1 ((x_1.set (0 : Int).toNat x_2).map (eL 5 eHolding))), (102, .xbox 40 [.row 101, .one (.nil), .one (.str [48])])]⟩) rfl ?_
  refine Tri.ret ?_
  obtain rfl := Option.some.inj h
  refine Fin.keep [2, 3] [101, 102] (s' := ⟨[(2, .b (.ptr 102 0)), (3, B (decide (x_3 = 0)))], [(101, .row 42 1 ((x_1.set (0 : Int).toNat x_2).map (eL 5 eHolding))), (102, .xbox 40 [.row 101, .one (.nil), .one (.str [48])])]⟩) rfl ?_
  refine Fin.rename 102 60 rfl (by decide) rfl ?_
  refine Fin.rename 101 61 rfl (by decide) rfl ?_
  refine Fin.nilrowX 60 1 62 6 45 rfl rfl (by decide) (by decide) rfl ?_
  refine Fin.keep [2, 3] [60, 61, 62] (s' := ⟨[(2, .b (.ptr 60 0)), (3, B (decide (x_3 = 0)))], [(60, .xbox 40 [.row 61, .row 62, .one (.str [48])]), (61, .row 42 1 ((x_1.set (0 : Int).toNat x_2).map (eL 5 eHolding))), (62, .row 45 6 ([].map eParcel))]⟩) rfl ?_
  exact Fin.result [.ptr 60 0, .one (.bool (decide (x_3 = 0)))] (.inl rfl) rfl (.cons (.tmp rfl) (.cons (.tmp rfl) .nil)) ⟨rfl, rfl⟩

def skewbacklaw41_yard_arrive_S (F : Nat) (x0 : Parcel) (y0last : Str) (y0all : List (List Holding)) (y0sent : List Parcel) : Option ((List (List Holding)) × (List Parcel)) :=
 if ((decide (0 ≤ x0.To)) && (decide (x0.To < (y0all.length : Int)))) = true then (Option.bind (idx? y0all x0.To) (fun x_1 => Option.bind (region_Receive_S F x_1 x0.To x0) (un2 fun x_2 x_3 => Option.bind (app? y0sent x_3) (fun x_4 => Option.bind (idx? y0all x0.To) (fun x_5 => some (y0all.set (x0.To : Int).toNat x_2, x_4)))))) else (some (y0all, y0sent))
theorem skewbacklaw41_yard_arrive_spec {F : Nat} {x0 : Parcel} {y0last : Str} {y0all : List (List Holding)} {y0sent : List Parcel} {r : (List (List Holding)) × (List Parcel)} (h : skewbacklaw41_yard_arrive_S F x0 y0last y0all y0sent = some r) : Meets Try.prog 16 [(1, .xbox 40 [.row 2, .row 3, .one (.str y0last)]), (2, .row 42 1 (y0all.map (eL 5 eHolding))), (3, .row 45 6 (y0sent.map eParcel))] [.ptr 1 0, .agg (eParcel x0)] (Is [(1, .xbox 40 [.row 2, .row 3, .one (.str y0last)]), (2, .row 42 1 (r.1.map (eL 5 eHolding))), (3, .row 45 6 (r.2.map eParcel))] (.tup [])) := by
  unfold skewbacklaw41_yard_arrive_S at h
  refine Meets.intro 51 Try.func16 Try.ntmps16 rfl (by simp) fun E => ?_
  show Tri _ E ⟨51, [1], [1, 2, 3]⟩ _ ⟨[(0, .b (.ptr 1 0)), (1, .b (.agg [.i x0.From, .i x0.To, .i x0.Kind, .i x0.Body, .i x0.Epoch, .str x0.Data]))], [(1, .xbox 40 [.row 2, .row 3, .one (.str y0last)]), (2, .row 42 1 (y0all.map (eL 5 eHolding))), (3, .row 45 6 (y0sent.map eParcel))]⟩ _
  refine Tri.seq ?_
  refine Tri.regionL ?_
  refine OpsL.cons rfl (op_box (k := 101) rfl rfl) ?_
  refine OpsL.nilK [0, 3] [1, 2, 3, 101] (s' := ⟨[(0, .b (.ptr 1 0)), (3, .b (.ptr 101 0))], [(1, .xbox 40 [.row 2, .row 3, .one (.str y0last)]), (2, .row 42 1 (y0all.map (eL 5 eHolding))), (3, .row 45 6 (y0sent.map eParcel)), (101, .box 45 [.i x0.From, .i x0.To, .i x0.Kind, .i x0.Body, .i x0.Epoch, .str x0.Data])]⟩) rfl ?_
  refine Tri.seq ?_
  refine Tri.keep [0, 3] [1, 2, 3, 101] (s' := ⟨[(0, .b (.ptr 1 0)), (3, .b (.ptr 101 0))], [(1, .xbox 40 [.row 2, .row 3, .one (.str y0last)]), (2, .row 42 1 (y0all.map (eL 5 eHolding))), (3, .row 45 6 (y0sent.map eParcel)), (101, .box 45 [.i x0.From, .i x0.To, .i x0.Kind, .i x0.Body, .i x0.Epoch, .str x0.Data])]⟩) rfl ?_
  refine Tri.regionD mixed [.b (.ptr 101 1), I x0.To, B (decide (0 ≤ x0.To)), B (decide (0 ≤ x0.To)), .opt (decide (0 ≤ x0.To)) (.ptr 101 1), .opt (decide (0 ≤ x0.To)) (.one (.i x0.To)), .opt (decide (0 ≤ x0.To)) (.ptr 1 0), .opt (decide (0 ≤ x0.To)) (.ptr 1 0), .opt (decide (0 ≤ x0.To)) (.ptr 1 0), .opt (decide (0 ≤ x0.To)) (.row 2), .opt (decide (0 ≤ x0.To)) (.one (.i (y0all.length : Int))), .opt (decide (0 ≤ x0.To)) (.one (.bool (decide (x0.To < (y0all.length : Int))))), B ((decide (0 ≤ x0.To)) && (decide (x0.To < (y0all.length : Int))))] [0, 3, 18] [1, 2, 3, 101] (s' := ⟨[(0, .b (.ptr 1 0)), (3, .b (.ptr 101 0)), (18, B ((decide (0 ≤ x0.To)) && (decide (x0.To < (y0all.length : Int)))))], [(1, .xbox 40 [.row 2, .row 3, .one (.str y0last)]), (2, .row 42 1 (y0all.map (eL 5 eHolding))), (3, .row 45 6 (y0sent.map eParcel)), (101, .box 45 [.i x0.From, .i x0.To, .i x0.Kind, .i x0.Body, .i x0.Epoch, .str x0.Data])]⟩) rfl ⟨fun _ => .plain rfl (op_field_p tyFld45_1 rfl rfl), fun _ => .plain rfl (op_load_p1 tyOne3 rfl rfl rfl), fun _ => .plain rfl (op_geq rfl rfl), fun _ => .plain rfl (op_move rfl), fun _ => by exact .guard (decide (0 ≤ x0.To)) 1 [] (.plain rfl) (eq_t _) rfl rfl (fun g1 => trivial) (fun g1 => op_field_p tyFld45_1 rfl rfl), fun _ => by exact .guard (decide (0 ≤ x0.To)) 2 [10] (.plain rfl) (eq_t _) rfl rfl (fun g2 => ⟨g2, trivial⟩) (fun g2 => op_load_p1 tyOne3 rfl rfl rfl), fun _ => by exact .guard (decide (0 ≤ x0.To)) 1 [] (.plain rfl) (eq_t _) rfl rfl (fun g3 => trivial) (fun g3 => op_move rfl), fun _ => by exact .guard (decide (0 ≤ x0.To)) 2 [12] (.plain rfl) (eq_t _) rfl rfl (fun g4 => ⟨g4, trivial⟩) (fun g4 => op_nilCheck_p rfl), fun _ => by exact .guard (decide (0 ≤ x0.To)) 2 [13] (.plain rfl) (eq_t _) rfl rfl (fun g5 => ⟨g5, trivial⟩) (fun g5 => op_field_p tyFld40_0 rfl rfl), fun _ => by exact .guard (decide (0 ≤ x0.To)) 2 [14] (.plain rfl) (eq_t _) rfl rfl (fun g6 => ⟨g6, trivial⟩) (fun g6 => op_load_x1 tyOne37 rfl rfl rfl), fun _ => by exact .guard (decide (0 ≤ x0.To)) 2 [15] (.plain rfl) (eq_t _) rfl rfl (fun g7 => ⟨g7, trivial⟩) (fun g7 => op_len_r' und37 rfl rfl (List.length_map _)), fun _ => by exact .guard (decide (0 ≤ x0.To)) 3 [11, 16] (.plain rfl) (eq_t _) rfl rfl (fun g8 => ⟨g8, g8, trivial⟩) (fun g8 => op_lss rfl rfl), fun _ => .plain rfl (op_pick_and (fun e => e) rfl rfl rfl rfl), trivial⟩ rfl ?_
  refine Tri.ite h rfl (fun _ h => ?_) (fun _ h => ?_)
  · refine Tri.seq ?_
    refine Tri.keep [0, 3] [1, 2, 3, 101] (s' := ⟨[(0, .b (.ptr 1 0)), (3, .b (.ptr 101 0))], [(1, .xbox 40 [.row 2, .row 3, .one (.str y0last)]), (2, .row 42 1 (y0all.map (eL 5 eHolding))), (3, .row 45 6 (y0sent.map eParcel)), (101, .box 45 [.i x0.From, .i x0.To, .i x0.Kind, .i x0.Body, .i x0.Epoch, .str x0.Data])]⟩) rfl ?_
    obtain ⟨x_1, e9, h⟩ := bnd h
    obtain ⟨⟨x_2, x_3⟩, e10, h⟩ := bnd h
    refine Tri.regionD mixed [.b (.ptr 1 0), .b (.ptr 1 0), .b (.ptr 1 0), .b (.row 2), .b (.ptr 101 1), I x0.To, .b (.rptr 2 ((x0.To : Int).toNat * 1)), .b (.one (.sl 5 (x_1.map eHolding))), .b (.ptr 101 1), I x0.To, .b (.agg [.i x0.From, .i x0.To, .i x0.Kind, .i x0.Body, .i x0.Epoch, .str x0.Data]), .tup [.one (.sl 5 (x_2.map eHolding)), .one (.sl 6 (x_3.map eParcel))], .tup [.one (.sl 5 (x_2.map eHolding)), .one (.sl 6 (x_3.map eParcel))], .b (.one (.sl 5 (x_2.map eHolding))), .b (.one (.sl 6 (x_3.map eParcel))), .b (.one (.sl 5 (x_2.map eHolding))), .b (.one (.sl 6 (x_3.map eParcel)))] [0, 3, 4, 5] [1, 2, 3, 101] (s' := ⟨[(0, .b (.ptr 1 0)), (3, .b (.ptr 101 0)), (4, .b (.one (.sl 5 (x_2.map eHolding)))), (5, .b (.one (.sl 6 (x_3.map eParcel))))], [(1, .xbox 40 [.row 2, .row 3, .one (.str y0last)]), (2, .row 42 1 (y0all.map (eL 5 eHolding))), (3, .row 45 6 (y0sent.map eParcel)), (101, .box 45 [.i x0.From, .i x0.To, .i x0.Kind, .i x0.Body, .i x0.Epoch, .str x0.Data])]⟩) rfl ⟨fun _ => .plain rfl (op_move rfl), fun _ => .plain rfl (op_nilCheck_p rfl), fun _ => .plain rfl (op_field_p tyFld40_0 rfl rfl), fun _ => .plain rfl (op_load_x1 tyOne37 rfl rfl rfl), fun _ => .plain rfl (op_field_p tyFld45_1 rfl rfl), fun _ => .plain rfl (op_load_p1 tyOne3 rfl rfl rfl), fun _ => .plain rfl (op_index_r tySl37 (ix_lo e9) (ix_lt' e9) rfl rfl rfl rfl), fun _ => .plain rfl (op_load_r1 (i := (x0.To : Int).toNat) (f := 0) tyOne42 rfl rfl rfl (ix_map (e := (eL 5 eHolding)) e9) rfl), fun _ => .plain rfl (op_field_p tyFld45_1 rfl rfl), fun _ => .plain rfl (op_load_p1 tyOne3 rfl rfl rfl), fun _ => .plain rfl (op_load_p tyAgg45 rfl rfl rfl rfl), fun _ => .plain rfl (op_call0 (region_Receive_spec 0 e10).persG goes32 rfl rfl), fun _ => .plain rfl (op_move rfl), fun _ => .plain rfl (op_extract rfl rfl), fun _ => .plain rfl (op_extract rfl rfl), fun _ => .plain rfl (op_assign rfl), fun _ => .plain rfl (op_assign rfl), trivial⟩ rfl ?_
    refine Tri.keep [0, 3, 4, 5] [1, 2, 3, 101] (s' := ⟨[(0, .b (.ptr 1 0)), (3, .b (.ptr 101 0)), (4, .b (.one (.sl 5 (x_2.map eHolding)))), (5, .b (.one (.sl 6 (x_3.map eParcel))))], [(1, .xbox 40 [.row 2, .row 3, .one (.str y0last)]), (2, .row 42 1 (y0all.map (eL 5 eHolding))), (3, .row 45 6 (y0sent.map eParcel)), (101, .box 45 [.i x0.From, .i x0.To, .i x0.Kind, .i x0.Body, .i x0.Epoch, .str x0.Data])]⟩) rfl ?_
    obtain ⟨x_4, e11, h⟩ := bnd h
    obtain ⟨x_5, e12, h⟩ := bnd h
    refine Tri.regionWF mixed [false, false, false, false, false, false, false, false, false, false, false, false, false, true, false, true, false, false, true] [.b (.ptr 1 0), .b (.ptr 1 0), .b (.ptr 1 0), .b (.row 2), .b (.ptr 101 1), I x0.To, .b (.ptr 1 0), .b (.one (.sl 5 (x_2.map eHolding))), .b (.ptr 1 0), .b (.ptr 1 0), .b (.ptr 1 1), .b (.row 3), .b (.one (.sl 6 (x_3.map eParcel))), .b (.row 3), .b (.rptr 2 ((x0.To : Int).toNat * 1)), B true, .b (.ptr 1 0), .b (.ptr 1 1), B true] [⟨[false, false, false, false, false, false, false, false, false, false, false, false, false, false, false, false, false, false, false], [(0, .b (.ptr 1 0)), (3, .b (.ptr 101 0)), (4, .b (.one (.sl 5 (x_2.map eHolding)))), (5, .b (.one (.sl 6 (x_3.map eParcel))))], [(1, .xbox 40 [.row 2, .row 3, .one (.str y0last)]), (2, .row 42 1 (y0all.map (eL 5 eHolding))), (3, .row 45 6 (y0sent.map eParcel)), (101, .box 45 [.i x0.From, .i x0.To, .i x0.Kind, .i x0.Body, .i x0.Epoch, .str x0.Data])], [true, true, true, true, true, true, true, true, true, true, true, true, true, true, true, true, true, true, true], []⟩, ⟨[false, false, false, false, false, false, false, false, false, false, false, false, false, true, false, false, false, false, false], [(0, .b (.ptr 1 0)), (3, .b (.ptr 101 0)), (4, .b (.one (.sl 5 (x_2.map eHolding)))), (5, .b (.one (.sl 6 (x_3.map eParcel))))], [(1, .xbox 40 [.row 2, .one (.any), .one (.str y0last)]), (2, .row 42 1 (y0all.map (eL 5 eHolding))), (3, .row 45 6 (x_4.map eParcel)), (101, .box 45 [.i x0.From, .i x0.To, .i x0.Kind, .i x0.Body, .i x0.Epoch, .str x0.Data])], [true, true, true, true, true, true, true, true, true, true, true, false, true, true, true, true, true, true, true], [8, 9, 10, 11, 12, 13]⟩, ⟨[false, false, false, false, false, false, false, false, false, false, false, false, false, true, false, true, false, false, false], [(0, .b (.ptr 1 0)), (3, .b (.ptr 101 0)), (4, .b (.one (.sl 5 (x_2.map eHolding)))), (5, .b (.one (.sl 6 (x_3.map eParcel))))], [(1, .xbox 40 [.row 2, .one (.any), .one (.str y0last)]), (2, .row 42 1 ((y0all.set (x0.To : Int).toNat x_2).map (eL 5 eHolding))), (3, .row 45 6 (x_4.map eParcel)), (101, .box 45 [.i x0.From, .i x0.To, .i x0.Kind, .i x0.Body, .i x0.Epoch, .str x0.Data])], [true, true, true, true, true, true, true, true, true, true, true, false, true, true, true, true, true, true, true], [0, 1, 2, 3, 4, 5, 7, 8, 9, 10, 11, 12, 13, 14, 15]⟩, ⟨[false, false, false, false, false, false, false, false, false, false, false, false, false, true, false, true, false, false, true], [(0, .b (.ptr 1 0)), (3, .b (.ptr 101 0)), (4, .b (.one (.sl 5 (x_2.map eHolding)))), (5, .b (.one (.sl 6 (x_3.map eParcel))))], [(1, .xbox 40 [.row 2, .row 3, .one (.str y0last)]), (2, .row 42 1 ((y0all.set (x0.To : Int).toNat x_2).map (eL 5 eHolding))), (3, .row 45 6 (x_4.map eParcel)), (101, .box 45 [.i x0.From, .i x0.To, .i x0.Kind, .i x0.Body, .i x0.Epoch, .str x0.Data])], [true, true, true, true, true, true, true, true, true, true, true, false, true, true, true, true, true, true, true], [0, 1, 2, 3, 4, 5, 6, 7, 8, 9, 10, 11, 12, 13, 14, 15, 16, 17, 18]⟩] rfl (⟨by kernel_rfl, ⟨⟨.b (.ptr 1 0), fun _ => rfl, fun _ => .plain rfl (by exact op_move rfl)⟩, ⟨.b (.ptr 1 0), fun _ => rfl, fun _ => .plain rfl (by exact op_nilCheck_p rfl)⟩, ⟨.b (.ptr 1 0), fun _ => rfl, fun _ => .plain rfl (by exact op_field_p tyFld40_0 rfl rfl)⟩, ⟨.b (.row 2), fun _ => rfl, fun _ => .plain rfl (by exact op_load_x1 tyOne37 rfl rfl rfl)⟩, ⟨.b (.ptr 101 1), fun _ => rfl, fun _ => .plain rfl (by exact op_field_p tyFld45_1 rfl rfl)⟩, ⟨I x0.To, fun _ => rfl, fun _ => .plain rfl (by exact op_load_p1 tyOne3 rfl rfl rfl)⟩, ⟨.b (.ptr 1 0), fun _ => rfl, fun _ => .plain rfl (by exact op_move rfl)⟩, ⟨.b (.one (.sl 5 (x_2.map eHolding))), fun _ => rfl, fun _ => .plain rfl (by exact op_move rfl)⟩, ⟨.b (.ptr 1 0), fun _ => rfl, fun _ => .plain rfl (by exact op_move rfl)⟩, ⟨.b (.ptr 1 0), fun _ => rfl, fun _ => .plain rfl (by exact op_nilCheck_p rfl)⟩, ⟨.b (.ptr 1 1), fun _ => rfl, fun _ => .plain rfl (by exact op_field_p tyFld40_1 rfl rfl)⟩, ⟨.b (.row 3), fun _ => rfl, fun _ => .plain rfl (by exact op_load_x1 tyOne38 rfl rfl rfl)⟩, ⟨.b (.one (.sl 6 (x_3.map eParcel))), fun _ => rfl, fun _ => .plain rfl (by exact op_move rfl)⟩, ⟨_, some 3, .b (.row 3), rfl, fun _ => rfl, rfl, rfl, fun _ => .to (by exact .forget 1 1 rfl (.plain rfl (op_append tySl38 (app_b e11) (app_m e11) rfl rfl rfl (app_map e11) rfl))) (by exact rfl)⟩, trivial, trivial, trivial, trivial, trivial, trivial⟩, ⟨by kernel_rfl, ⟨⟨.b (.ptr 1 0), fun _ => rfl, fun _ => .plain rfl (by exact op_move rfl)⟩, ⟨.b (.ptr 1 0), fun _ => rfl, fun _ => .plain rfl (by exact op_nilCheck_p rfl)⟩, ⟨.b (.ptr 1 0), fun _ => rfl, fun _ => .plain rfl (by exact op_field_p tyFld40_0 rfl rfl)⟩, ⟨.b (.row 2), fun _ => rfl, fun _ => .plain rfl (by exact op_load_x1 tyOne37 rfl rfl rfl)⟩, ⟨.b (.ptr 101 1), fun _ => rfl, fun _ => .plain rfl (by exact op_field_p tyFld45_1 rfl rfl)⟩, ⟨I x0.To, fun _ => rfl, fun _ => .plain rfl (by exact op_load_p1 tyOne3 rfl rfl rfl)⟩, ⟨.b (.ptr 1 0), fun _ => rfl, fun _ => .plain rfl (by exact op_move rfl)⟩, ⟨.b (.one (.sl 5 (x_2.map eHolding))), fun _ => rfl, fun _ => .plain rfl (by exact op_move rfl)⟩, trivial, trivial, trivial, trivial, trivial, trivial, ⟨.b (.rptr 2 ((x0.To : Int).toNat * 1)), fun _ => rfl, fun _ => .plain rfl (by exact op_index_r tySl37 (ix_lo e12) (ix_lt' e12) rfl rfl rfl rfl)⟩, ⟨_, none, .b (.one .any), rfl, (fun e => by simp at e), rfl, rfl, fun _ => .to (by exact .plain rfl (by exact op_store_r1 (i := (x0.To : Int).toNat) tyOne42 rfl rfl rfl rfl (ix_lt e12) (map_set _ _ _ _))) (by exact rfl)⟩, trivial, trivial, trivial, trivial⟩, ⟨by kernel_rfl, ⟨trivial, trivial, trivial, trivial, trivial, trivial, ⟨.b (.ptr 1 0), fun _ => rfl, fun _ => .plain rfl (by exact op_move rfl)⟩, trivial, trivial, trivial, trivial, trivial, trivial, trivial, trivial, trivial, ⟨.b (.ptr 1 0), fun _ => rfl, fun _ => .plain rfl (by exact op_nilCheck_p rfl)⟩, ⟨.b (.ptr 1 1), fun _ => rfl, fun _ => .plain rfl (by exact op_field_p tyFld40_1 rfl rfl)⟩, ⟨_, none, .b (.one .any), rfl, (fun e => by simp at e), rfl, rfl, fun _ => .to (by exact .plain rfl (by exact op_store_x1 tyOne38 rfl rfl rfl rfl (Nat.le_of_ble_eq_true rfl) rfl)) (by exact rfl)⟩, trivial⟩, ⟨by kernel_rfl, ⟨trivial, trivial, trivial, trivial, trivial, trivial, trivial, trivial, trivial, trivial, trivial, trivial, trivial, trivial, trivial, trivial, trivial, trivial, trivial, trivial⟩, trivial⟩⟩⟩⟩) rfl rfl rfl [] [1, 2, 3] (s' := ⟨[], [(1, .xbox 40 [.row 2, .row 3, .one (.str y0last)]), (2, .row 42 1 ((y0all.set (x0.To : Int).toNat x_2).map (eL 5 eHolding))), (3, .row 45 6 (x_4.map eParcel))]⟩) rfl ?_
    obtain rfl := Option.some.inj h
    refine Fin.keep [] [1, 2, 3] (s' := ⟨[], [(1, .xbox 40 [.row 2, .row 3, .one (.str y0last)]), (2, .row 42 1 ((y0all.set (x0.To : Int).toNat x_2).map (eL 5 eHolding))), (3, .row 45 6 (x_4.map eParcel))]⟩) rfl ?_
    refine Fin.keep [] [1, 2, 3] (s' := ⟨[], [(1, .xbox 40 [.row 2, .row 3, .one (.str y0last)]), (2, .row 42 1 ((y0all.set (x0.To : Int).toNat x_2).map (eL 5 eHolding))), (3, .row 45 6 (x_4.map eParcel))]⟩) rfl ?_
    exact Fin.result [] (.inr rfl) rfl (.nil) ⟨rfl, rfl⟩
  · refine Tri.skip ?_
    obtain rfl := Option.some.inj h
    refine Fin.keep [] [1, 2, 3] (s' := ⟨[], [(1, .xbox 40 [.row 2, .row 3, .one (.str y0last)]), (2, .row 42 1 (y0all.map (eL 5 eHolding))), (3, .row 45 6 (y0sent.map eParcel))]⟩) rfl ?_
    refine Fin.keep [] [1, 2, 3] (s' := ⟨[], [(1, .xbox 40 [.row 2, .row 3, .one (.str y0last)]), (2, .row 42 1 (y0all.map (eL 5 eHolding))), (3, .row 45 6 (y0sent.map eParcel))]⟩) rfl ?_
    exact Fin.result [] (.inr rfl) rfl (.nil) ⟨rfl, rfl⟩

def skewbacklaw41_yard_do_S (F : Nat) (x0 : ROp) (y0last : Str) (y0all : List (List Holding)) (y0sent : List Parcel) : Option (Str × (List (List Holding)) × (List Parcel)) :=
 Option.bind (rem? x0.Node (y0all.length : Int)) (fun x_1 => letN (IntKind.i64.wrap (x_1 + (y0all.length : Int))) fun x_2 => Option.bind (rem? x_2 (y0all.length : Int)) (fun x_3 => if (decide (x0.Kind = 0)) = true then (Option.bind (idx? y0all x_3) (fun x_4 => Option.bind (rem? x0.To (y0all.length : Int)) (fun x_5 => Option.bind (rem? (IntKind.i64.wrap (x_5 + (y0all.length : Int))) (y0all.length : Int)) (fun x_6 => Option.bind (region_Offer_S F x_4 x_3 1 x_6) (un2 fun x_7 x_8 => if (decide (x_8 = 0)) = true then (Option.bind (idx? y0all x_3) (fun x_9 => some (y0last, y0all.set (x_3 : Int).toNat x_7, y0sent))) else (some (y0last, y0all, y0sent))))))) else (if (decide (x0.Kind = 1)) = true then (Option.bind (idx? y0all x_3) (fun x_10 => Option.bind (region_Cancel_S F x_10 1) (un2 fun x_11 x_12 => if (decide (x_12 = 0)) = true then (Option.bind (idx? y0all x_3) (fun x_13 => some (y0last, y0all.set (x_3 : Int).toNat x_11, y0sent))) else (some (y0last, y0all, y0sent))))) else (if (decide (x0.Kind = 2)) = true then (letN (IntKind.i64.wrap (97 + (x0.N % 2 ^ 4))) fun x_14 => Option.bind (idx? y0all x_3) (fun x_15 => Option.bind (region_Put_S F x_15 1 (toStr [IntKind.u8.wrap x_14])) (un2 fun x_16 x_17 => if (decide (x_17 = 0)) = true then (Option.bind (idx? y0all x_3) (fun x_18 => some (toStr [IntKind.u8.wrap x_14], y0all.set (x_3 : Int).toNat x_16, y0sent))) else (some (y0last, y0all, y0sent))))) else (if (decide (x0.Kind = 3)) = true then (Option.bind (idx? y0all x_3) (fun x_19 => Option.bind (region_Letters_S F x_19 x_3) (fun x_20 => Option.bind (app? y0sent x_20) (fun x_21 => some (y0last, y0all, x_21))))) else (if (decide (0 < (y0sent.length : Int))) = true then (Option.bind (rem? x0.N (y0sent.length : Int)) (fun x_22 => Option.bind (rem? (IntKind.i64.wrap (x_22 + (y0sent.length : Int))) (y0sent.length : Int)) (fun x_23 => Option.bind (idx? y0sent x_23) (fun x_24 => Option.bind (skewbacklaw41_yard_arrive_S F x_24 y0last y0all y0sent) (un2 fun x_25 x_26 => some (y0last, x_25, x_26)))))) else (some (y0last, y0all, y0sent))))))))
theorem skewbacklaw41_yard_do_spec {F : Nat} {x0 : ROp} {y0last : Str} {y0all : List (List Holding)} {y0sent : List Parcel} {r : Str × (List (List Holding)) × (List Parcel)} (h : skewbacklaw41_yard_do_S F x0 y0last y0all y0sent = some r) : Meets Try.prog 13 [(1, .xbox 40 [.row 2, .row 3, .one (.str y0last)]), (2, .row 42 1 (y0all.map (eL 5 eHolding))), (3, .row 45 6 (y0sent.map eParcel))] [.ptr 1 0, .agg (eROp x0)] (Is [(1, .xbox 40 [.row 2, .row 3, .one (.str r.1)]), (2, .row 42 1 (r.2.1.map (eL 5 eHolding))), (3, .row 45 6 (r.2.2.map eParcel))] (.tup [])) := by
  unfold skewbacklaw41_yard_do_S at h
  refine Meets.intro 158 Try.func13 Try.ntmps13 rfl (by simp) fun E => ?_
  show Tri _ E ⟨158, [1], [1, 2, 3]⟩ _ ⟨[(0, .b (.ptr 1 0)), (1, .b (.agg [.i x0.Kind, .i x0.Node, .i x0.To, .i x0.N]))], [(1, .xbox 40 [.row 2, .row 3, .one (.str y0last)]), (2, .row 42 1 (y0all.map (eL 5 eHolding))), (3, .row 45 6 (y0sent.map eParcel))]⟩ _
  refine Tri.seq ?_
  refine Tri.regionL ?_
  refine OpsL.cons rfl (op_box (k := 101) rfl rfl) ?_
  refine OpsL.nilK [0, 3] [1, 2, 3, 101] (s' := ⟨[(0, .b (.ptr 1 0)), (3, .b (.ptr 101 0))], [(1, .xbox 40 [.row 2, .row 3, .one (.str y0last)]), (2, .row 42 1 (y0all.map (eL 5 eHolding))), (3, .row 45 6 (y0sent.map eParcel)), (101, .box 33 [.i x0.Kind, .i x0.Node, .i x0.To, .i x0.N])]⟩) rfl ?_
  refine Tri.seq ?_
  refine Tri.regionL ?_
  refine OpsL.cons rfl (op_move rfl) ?_
  refine OpsL.cons rfl (op_nilCheck_p rfl) ?_
  refine OpsL.cons rfl (op_field_p tyFld40_0 rfl rfl) ?_
  refine OpsL.cons rfl (op_load_x1 tyOne37 rfl rfl rfl) ?_
  refine OpsL.cons rfl (op_len_r' und37 rfl rfl (List.length_map _)) ?_
  refine OpsL.cons rfl (op_assign rfl) ?_
  refine OpsL.nilK [0, 3, 4] [1, 2, 3, 101] (s' := ⟨[(0, .b (.ptr 1 0)), (3, .b (.ptr 101 0)), (4, I (y0all.length : Int))], [(1, .xbox 40 [.row 2, .row 3, .one (.str y0last)]), (2, .row 42 1 (y0all.map (eL 5 eHolding))), (3, .row 45 6 (y0sent.map eParcel)), (101, .box 33 [.i x0.Kind, .i x0.Node, .i x0.To, .i x0.N])]⟩) rfl ?_
  refine Tri.seq ?_
  refine Tri.regionL ?_
  refine OpsL.cons rfl (op_field_p tyFld33_1 rfl rfl) ?_
  refine OpsL.cons rfl (op_load_p1 tyOne3 rfl rfl rfl) ?_
  refine OpsL.cons rfl (op_move rfl) ?_
  obtain ⟨x_1, e1, h⟩ := bnd h
  refine OpsL.cons rfl (op_rem2 e1 rfl rfl) ?_
  refine OpsL.cons rfl (op_move rfl) ?_
  refine OpsL.consI .i64 h rfl (op_add rfl rfl) (fun x_2 h => ?_)
  refine OpsL.cons rfl (op_move rfl) ?_
  obtain ⟨x_3, e2, h⟩ := bnd h
  refine OpsL.cons rfl (op_rem2 e2 rfl rfl) ?_
  refine OpsL.cons rfl (op_assign rfl) ?_
  refine OpsL.nilK [0, 3, 4, 5] [1, 2, 3, 101] (s' := ⟨[(0, .b (.ptr 1 0)), (3, .b (.ptr 101 0)), (4, I (y0all.length : Int)), (5, I x_3)], [(1, .xbox 40 [.row 2, .row 3, .one (.str y0last)]), (2, .row 42 1 (y0all.map (eL 5 eHolding))), (3, .row 45 6 (y0sent.map eParcel)), (101, .box 33 [.i x0.Kind, .i x0.Node, .i x0.To, .i x0.N])]⟩) rfl ?_
  refine Tri.seq ?_
  refine Tri.regionL ?_
  refine OpsL.cons rfl (op_field_p tyFld33_0 rfl rfl) ?_
  refine OpsL.cons rfl (op_load_p1 tyOne3 rfl rfl rfl) ?_
  refine OpsL.nilK [0, 3, 4, 5, 28] [1, 2, 3, 101] (s' := ⟨[(0, .b (.ptr 1 0)), (3, .b (.ptr 101 0)), (4, I (y0all.length : Int)), (5, I x_3), (28, I x0.Kind)], [(1, .xbox 40 [.row 2, .row 3, .one (.str y0last)]), (2, .row 42 1 (y0all.map (eL 5 eHolding))), (3, .row 45 6 (y0sent.map eParcel)), (101, .box 33 [.i x0.Kind, .i x0.Node, .i x0.To, .i x0.N])]⟩) rfl ?_
  refine Tri.block ?_
  refine Tri.seq ?_
  refine Tri.regionL ?_
  refine OpsL.cons rfl (op_eql rfl rfl) ?_
  refine OpsL.cons rfl (op_assign rfl) ?_
  refine OpsL.nilK [0, 3, 4, 5, 28, 52] [1, 2, 3, 101] (s' := ⟨[(0, .b (.ptr 1 0)), (3, .b (.ptr 101 0)), (4, I (y0all.length : Int)), (5, I x_3), (28, I x0.Kind), (52, B (decide (x0.Kind = 0)))], [(1, .xbox 40 [.row 2, .row 3, .one (.str y0last)]), (2, .row 42 1 (y0all.map (eL 5 eHolding))), (3, .row 45 6 (y0sent.map eParcel)), (101, .box 33 [.i x0.Kind, .i x0.Node, .i x0.To, .i x0.N])]⟩) rfl ?_
  refine Tri.ite h rfl (fun _ h => ?_) (fun _ h => ?_)
  · refine Tri.seq ?_
    refine Tri.keep [0, 3, 4, 5] [1, 2, 3, 101] (s' := ⟨[(0, .b (.ptr 1 0)), (3, .b (.ptr 101 0)), (4, I (y0all.length : Int)), (5, I x_3)], [(1, .xbox 40 [.row 2, .row 3, .one (.str y0last)]), (2, .row 42 1 (y0all.map (eL 5 eHolding))), (3, .row 45 6 (y0sent.map eParcel)), (101, .box 33 [.i x0.Kind, .i x0.Node, .i x0.To, .i x0.N])]⟩) rfl ?_
    obtain ⟨x_4, e3, h⟩ := bnd h
    obtain ⟨x_5, e4, h⟩ := bnd h
    obtain ⟨x_6, e5, h⟩ := bnd h
    obtain ⟨⟨x_7, x_8⟩, e6, h⟩ := bnd h
    refine Tri.regionD mixed [.b (.ptr 1 0), .b (.ptr 1 0), .b (.ptr 1 0), .b (.row 2), I x_3, .b (.rptr 2 ((x_3 : Int).toNat * 1)), .b (.one (.sl 5 (x_4.map eHolding))), I x_3, .b (.ptr 101 2), I x0.To, I (y0all.length : Int), I x_5, I (y0all.length : Int), I (IntKind.i64.wrap (x_5 + (y0all.length : Int))), I (y0all.length : Int), I x_6, .tup [.one (.sl 5 (x_7.map eHolding)), .one (.i x_8)], .tup [.one (.sl 5 (x_7.map eHolding)), .one (.i x_8)], .b (.one (.sl 5 (x_7.map eHolding))), I x_8, .b (.one (.sl 5 (x_7.map eHolding))), I x_8] [0, 5, 6, 7] [1, 2, 3] (s' := ⟨[(0, .b (.ptr 1 0)), (5, I x_3), (6, .b (.one (.sl 5 (x_7.map eHolding)))), (7, I x_8)], [(1, .xbox 40 [.row 2, .row 3, .one (.str y0last)]), (2, .row 42 1 (y0all.map (eL 5 eHolding))), (3, .row 45 6 (y0sent.map eParcel))]⟩) rfl ⟨fun _ => .plain rfl (op_move rfl), fun _ => .plain rfl (op_nilCheck_p rfl), fun _ => .plain rfl (op_field_p tyFld40_0 rfl rfl), fun _ => .plain rfl (op_load_x1 tyOne37 rfl rfl rfl), fun _ => .plain rfl (op_move rfl), fun _ => .plain rfl (op_index_r tySl37 (ix_lo e3) (ix_lt' e3) rfl rfl rfl rfl), fun _ => .plain rfl (op_load_r1 (i := (x_3 : Int).toNat) (f := 0) tyOne42 rfl rfl rfl (ix_map (e := (eL 5 eHolding)) e3) rfl), fun _ => .plain rfl (op_move rfl), fun _ => .plain rfl (op_field_p tyFld33_2 rfl rfl), fun _ => .plain rfl (op_load_p1 tyOne3 rfl rfl rfl), fun _ => .plain rfl (op_move rfl), fun _ => .plain rfl (op_rem2 e4 rfl rfl), fun _ => .plain rfl (op_move rfl), fun _ => .plain rfl (op_add rfl rfl), fun _ => .plain rfl (op_move rfl), fun _ => .plain rfl (op_rem2 e5 rfl rfl), fun _ => .plain rfl (op_call0 (region_Offer_spec 0 e6).persG goes23 rfl rfl), fun _ => .plain rfl (op_move rfl), fun _ => .plain rfl (op_extract rfl rfl), fun _ => .plain rfl (op_extract rfl rfl), fun _ => .plain rfl (op_assign rfl), fun _ => .plain rfl (op_assign rfl), trivial⟩ rfl ?_
    refine Tri.seq ?_
    refine Tri.regionL ?_
    refine OpsL.cons rfl (op_move rfl) ?_
    refine OpsL.cons rfl (op_eql rfl rfl) ?_
    refine OpsL.nilK [0, 5, 6, 75] [1, 2, 3] (s' := ⟨[(0, .b (.ptr 1 0)), (5, I x_3), (6, .b (.one (.sl 5 (x_7.map eHolding)))), (75, B (decide (x_8 = 0)))], [(1, .xbox 40 [.row 2, .row 3, .one (.str y0last)]), (2, .row 42 1 (y0all.map (eL 5 eHolding))), (3, .row 45 6 (y0sent.map eParcel))]⟩) rfl ?_
    refine Tri.ite h rfl (fun _ h => ?_) (fun _ h => ?_)
    · refine Tri.regionL ?_
      refine OpsL.cons rfl (op_move rfl) ?_
      refine OpsL.cons rfl (op_nilCheck_p rfl) ?_
      refine OpsL.cons rfl (op_field_p tyFld40_0 rfl rfl) ?_
      refine OpsL.cons rfl (op_load_x1 tyOne37 rfl rfl rfl) ?_
      refine OpsL.cons rfl (op_move rfl) ?_
      refine OpsL.cons rfl (op_move rfl) ?_
      obtain ⟨x_9, e7, h⟩ := bnd h
      refine OpsL.cons rfl (op_index_r tySl37 (ix_lo e7) (ix_lt' e7) rfl rfl rfl rfl) ?_
      refine OpsL.cons rfl (op_store_r1 (i := (x_3 : Int).toNat) tyOne42 rfl rfl rfl rfl (ix_lt e7) (map_set _ _ _ _)) ?_
      refine OpsL.nil ?_
      refine Fin.block_normal ?_
      obtain rfl := Option.some.inj h
      refine Fin.keep [] [1, 2, 3] (s' := ⟨[], [(1, .xbox 40 [.row 2, .row 3, .one (.str y0last)]), (2, .row 42 1 ((y0all.set (x_3 : Int).toNat x_7).map (eL 5 eHolding))), (3, .row 45 6 (y0sent.map eParcel))]⟩) rfl ?_
      refine Fin.keep [] [1, 2, 3] (s' := ⟨[], [(1, .xbox 40 [.row 2, .row 3, .one (.str y0last)]), (2, .row 42 1 ((y0all.set (x_3 : Int).toNat x_7).map (eL 5 eHolding))), (3, .row 45 6 (y0sent.map eParcel))]⟩) rfl ?_
      exact Fin.result [] (.inr rfl) rfl (.nil) ⟨rfl, rfl⟩
    · refine Tri.skip ?_
      refine Fin.block_normal ?_
      obtain rfl := Option.some.inj h
      refine Fin.keep [] [1, 2, 3] (s' := ⟨[], [(1, .xbox 40 [.row 2, .row 3, .one (.str y0last)]), (2, .row 42 1 (y0all.map (eL 5 eHolding))), (3, .row 45 6 (y0sent.map eParcel))]⟩) rfl ?_
      refine Fin.keep [] [1, 2, 3] (s' := ⟨[], [(1, .xbox 40 [.row 2, .row 3, .one (.str y0last)]), (2, .row 42 1 (y0all.map (eL 5 eHolding))), (3, .row 45 6 (y0sent.map eParcel))]⟩) rfl ?_
      exact Fin.result [] (.inr rfl) rfl (.nil) ⟨rfl, rfl⟩
  · refine Tri.seq ?_
    refine Tri.regionL ?_
    refine OpsL.cons rfl (op_eql rfl rfl) ?_
    refine OpsL.cons rfl (op_assign rfl) ?_
    refine OpsL.nilK [0, 3, 5, 28, 83] [1, 2, 3, 101] (s' := ⟨[(0, .b (.ptr 1 0)), (3, .b (.ptr 101 0)), (5, I x_3), (28, I x0.Kind), (83, B (decide (x0.Kind = 1)))], [(1, .xbox 40 [.row 2, .row 3, .one (.str y0last)]), (2, .row 42 1 (y0all.map (eL 5 eHolding))), (3, .row 45 6 (y0sent.map eParcel)), (101, .box 33 [.i x0.Kind, .i x0.Node, .i x0.To, .i x0.N])]⟩) rfl ?_
    refine Tri.ite h rfl (fun _ h => ?_) (fun _ h => ?_)
    · refine Tri.seq ?_
      refine Tri.regionL ?_
      refine OpsL.cons rfl (op_move rfl) ?_
      refine OpsL.cons rfl (op_nilCheck_p rfl) ?_
      refine OpsL.cons rfl (op_field_p tyFld40_0 rfl rfl) ?_
      refine OpsL.cons rfl (op_load_x1 tyOne37 rfl rfl rfl) ?_
      refine OpsL.cons rfl (op_move rfl) ?_
      obtain ⟨x_10, e8, h⟩ := bnd h
      refine OpsL.cons rfl (op_index_r tySl37 (ix_lo e8) (ix_lt' e8) rfl rfl rfl rfl) ?_
      refine OpsL.cons rfl (op_load_r1 (i := (x_3 : Int).toNat) (f := 0) tyOne42 rfl rfl rfl (ix_map (e := (eL 5 eHolding)) e8) rfl) ?_
      refine OpsL.keep [0, 5, 92] [1, 2, 3] (s' := ⟨[(0, .b (.ptr 1 0)), (5, I x_3), (92, .b (.one (.sl 5 (x_10.map eHolding))))], [(1, .xbox 40 [.row 2, .row 3, .one (.str y0last)]), (2, .row 42 1 (y0all.map (eL 5 eHolding))), (3, .row 45 6 (y0sent.map eParcel))]⟩) rfl ?_
      obtain ⟨⟨x_11, x_12⟩, e9, h⟩ := bnd h
      refine OpsL.cons rfl (op_call (region_Cancel_spec 103 e9) goes24 rfl trivial rfl rfl) ?_
      refine OpsL.cons rfl (op_move rfl) ?_
      refine OpsL.cons rfl (op_extract rfl rfl) ?_
      refine OpsL.cons rfl (op_extract rfl rfl) ?_
      refine OpsL.cons rfl (op_assign rfl) ?_
      refine OpsL.cons rfl (op_assign rfl) ?_
      refine OpsL.nilK [0, 5, 8, 9] [1, 2, 3, 103] (s' := ⟨[(0, .b (.ptr 1 0)), (5, I x_3), (8, .b (.row 103)), (9, I x_12)], [(1, .xbox 40 [.row 2, .row 3, .one (.str y0last)]), (2, .row 42 1 (y0all.map (eL 5 eHolding))), (3, .row 45 6 (y0sent.map eParcel)), (103, .row 59 5 (x_11.map eHolding))]⟩) rfl ?_
      refine Tri.seq ?_
      refine Tri.regionL ?_
      refine OpsL.cons rfl (op_move rfl) ?_
      refine OpsL.cons rfl (op_eql rfl rfl) ?_
      refine OpsL.nilK [0, 5, 8, 97] [1, 2, 3, 103] (s' := ⟨[(0, .b (.ptr 1 0)), (5, I x_3), (8, .b (.row 103)), (97, B (decide (x_12 = 0)))], [(1, .xbox 40 [.row 2, .row 3, .one (.str y0last)]), (2, .row 42 1 (y0all.map (eL 5 eHolding))), (3, .row 45 6 (y0sent.map eParcel)), (103, .row 59 5 (x_11.map eHolding))]⟩) rfl ?_
      refine Tri.ite h rfl (fun _ h => ?_) (fun _ h => ?_)
      · refine Tri.regionL ?_
        refine OpsL.cons rfl (op_move rfl) ?_
        refine OpsL.cons rfl (op_nilCheck_p rfl) ?_
        refine OpsL.cons rfl (op_field_p tyFld40_0 rfl rfl) ?_
        refine OpsL.cons rfl (op_load_x1 tyOne37 rfl rfl rfl) ?_
        refine OpsL.cons rfl (op_move rfl) ?_
        refine OpsL.cons rfl (op_move rfl) ?_
        obtain ⟨x_13, e10, h⟩ := bnd h
        refine OpsL.cons rfl (op_index_r tySl37 (ix_lo e10) (ix_lt' e10) rfl rfl rfl rfl) ?_
        refine OpsL.persist 103 rfl ?_
        refine OpsL.cons rfl (op_store_r1 (i := (x_3 : Int).toNat) tyOne42 rfl rfl rfl rfl (ix_lt e10) (map_set _ _ _ _)) ?_
        refine OpsL.nil ?_
        refine Fin.block_normal ?_
        obtain rfl := Option.some.inj h
        refine Fin.keep [] [1, 2, 3] (s' := ⟨[], [(1, .xbox 40 [.row 2, .row 3, .one (.str y0last)]), (2, .row 42 1 ((y0all.set (x_3 : Int).toNat x_11).map (eL 5 eHolding))), (3, .row 45 6 (y0sent.map eParcel))]⟩) rfl ?_
        refine Fin.keep [] [1, 2, 3] (s' := ⟨[], [(1, .xbox 40 [.row 2, .row 3, .one (.str y0last)]), (2, .row 42 1 ((y0all.set (x_3 : Int).toNat x_11).map (eL 5 eHolding))), (3, .row 45 6 (y0sent.map eParcel))]⟩) rfl ?_
        exact Fin.result [] (.inr rfl) rfl (.nil) ⟨rfl, rfl⟩
      · refine Tri.skip ?_
        refine Fin.block_normal ?_
        obtain rfl := Option.some.inj h
        refine Fin.keep [] [1, 2, 3] (s' := ⟨[], [(1, .xbox 40 [.row 2, .row 3, .one (.str y0last)]), (2, .row 42 1 (y0all.map (eL 5 eHolding))), (3, .row 45 6 (y0sent.map eParcel))]⟩) rfl ?_
        refine Fin.keep [] [1, 2, 3] (s' := ⟨[], [(1, .xbox 40 [.row 2, .row 3, .one (.str y0last)]), (2, .row 42 1 (y0all.map (eL 5 eHolding))), (3, .row 45 6 (y0sent.map eParcel))]⟩) rfl ?_
        exact Fin.result [] (.inr rfl) rfl (.nil) ⟨rfl, rfl⟩
    · refine Tri.seq ?_
      refine Tri.regionL ?_
      refine OpsL.cons rfl (op_eql rfl rfl) ?_
      refine OpsL.cons rfl (op_assign rfl) ?_
      refine OpsL.nilK [0, 3, 5, 28, 105] [1, 2, 3, 101] (s' := ⟨[(0, .b (.ptr 1 0)), (3, .b (.ptr 101 0)), (5, I x_3), (28, I x0.Kind), (105, B (decide (x0.Kind = 2)))], [(1, .xbox 40 [.row 2, .row 3, .one (.str y0last)]), (2, .row 42 1 (y0all.map (eL 5 eHolding))), (3, .row 45 6 (y0sent.map eParcel)), (101, .box 33 [.i x0.Kind, .i x0.Node, .i x0.To, .i x0.N])]⟩) rfl ?_
      refine Tri.ite h rfl (fun _ h => ?_) (fun _ h => ?_)
      · refine Tri.seq ?_
        refine Tri.regionL ?_
        refine OpsL.cons rfl (op_field_p tyFld33_3 rfl rfl) ?_
        refine OpsL.cons rfl (op_load_p1 tyOne3 rfl rfl rfl) ?_
        refine OpsL.cons rfl (op_and_mask2 4 (by decide) (by decide) rfl rfl) ?_
        refine OpsL.consI .i64 h rfl (op_add rfl rfl) (fun x_14 h => ?_)
        refine OpsL.cons rfl (op_conv_wrap undi3 undi5 rfl) ?_
        refine OpsL.cons rfl (op_buildSlice (k := 104) (es := [IntKind.u8.wrap x_14].map (eK .u8)) tySl36 rfl rfl (uni_map fun _ => rfl) rfl (by decide) (by decide) rfl) ?_
        refine OpsL.persist 104 rfl ?_
        refine OpsL.cons rfl (op_conv_bytes und36 undi5 und9 rfl) ?_
        refine OpsL.cons rfl (op_assign rfl) ?_
        refine OpsL.nilK [0, 5, 10] [1, 2, 3] (s' := ⟨[(0, .b (.ptr 1 0)), (5, I x_3), (10, .b (.one (.str (toStr [IntKind.u8.wrap x_14]))))], [(1, .xbox 40 [.row 2, .row 3, .one (.str y0last)]), (2, .row 42 1 (y0all.map (eL 5 eHolding))), (3, .row 45 6 (y0sent.map eParcel))]⟩) rfl ?_
        refine Tri.seq ?_
        refine Tri.regionL ?_
        refine OpsL.cons rfl (op_move rfl) ?_
        refine OpsL.cons rfl (op_nilCheck_p rfl) ?_
        refine OpsL.cons rfl (op_field_p tyFld40_0 rfl rfl) ?_
        refine OpsL.cons rfl (op_load_x1 tyOne37 rfl rfl rfl) ?_
        refine OpsL.cons rfl (op_move rfl) ?_
        obtain ⟨x_15, e11, h⟩ := bnd h
        refine OpsL.cons rfl (op_index_r tySl37 (ix_lo e11) (ix_lt' e11) rfl rfl rfl rfl) ?_
        refine OpsL.cons rfl (op_load_r1 (i := (x_3 : Int).toNat) (f := 0) tyOne42 rfl rfl rfl (ix_map (e := (eL 5 eHolding)) e11) rfl) ?_
        refine OpsL.keep [0, 5, 10, 121] [1, 2, 3] (s' := ⟨[(0, .b (.ptr 1 0)), (5, I x_3), (10, .b (.one (.str (toStr [IntKind.u8.wrap x_14])))), (121, .b (.one (.sl 5 (x_15.map eHolding))))], [(1, .xbox 40 [.row 2, .row 3, .one (.str y0last)]), (2, .row 42 1 (y0all.map (eL 5 eHolding))), (3, .row 45 6 (y0sent.map eParcel))]⟩) rfl ?_
        refine OpsL.cons rfl (op_move rfl) ?_
        obtain ⟨⟨x_16, x_17⟩, e12, h⟩ := bnd h
        refine OpsL.cons rfl (op_call (region_Put_spec 105 e12) goes22 rfl trivial rfl rfl) ?_
        refine OpsL.cons rfl (op_move rfl) ?_
        refine OpsL.cons rfl (op_extract rfl rfl) ?_
        refine OpsL.cons rfl (op_extract rfl rfl) ?_
        refine OpsL.cons rfl (op_assign rfl) ?_
        refine OpsL.cons rfl (op_assign rfl) ?_
        refine OpsL.nilK [0, 5, 10, 11, 12] [1, 2, 3, 105] (s' := ⟨[(0, .b (.ptr 1 0)), (5, I x_3), (10, .b (.one (.str (toStr [IntKind.u8.wrap x_14])))), (11, .b (.row 105)), (12, I x_17)], [(1, .xbox 40 [.row 2, .row 3, .one (.str y0last)]), (2, .row 42 1 (y0all.map (eL 5 eHolding))), (3, .row 45 6 (y0sent.map eParcel)), (105, .row 59 5 (x_16.map eHolding))]⟩) rfl ?_
        refine Tri.seq ?_
        refine Tri.regionL ?_
        refine OpsL.cons rfl (op_move rfl) ?_
        refine OpsL.cons rfl (op_eql rfl rfl) ?_
        refine OpsL.nilK [0, 5, 10, 11, 127] [1, 2, 3, 105] (s' := ⟨[(0, .b (.ptr 1 0)), (5, I x_3), (10, .b (.one (.str (toStr [IntKind.u8.wrap x_14])))), (11, .b (.row 105)), (127, B (decide (x_17 = 0)))], [(1, .xbox 40 [.row 2, .row 3, .one (.str y0last)]), (2, .row 42 1 (y0all.map (eL 5 eHolding))), (3, .row 45 6 (y0sent.map eParcel)), (105, .row 59 5 (x_16.map eHolding))]⟩) rfl ?_
        refine Tri.ite h rfl (fun _ h => ?_) (fun _ h => ?_)
        · refine Tri.regionL ?_
          refine OpsL.cons rfl (op_move rfl) ?_
          refine OpsL.cons rfl (op_nilCheck_p rfl) ?_
          refine OpsL.cons rfl (op_field_p tyFld40_0 rfl rfl) ?_
          refine OpsL.cons rfl (op_load_x1 tyOne37 rfl rfl rfl) ?_
          refine OpsL.cons rfl (op_move rfl) ?_
          refine OpsL.cons rfl (op_move rfl) ?_
          refine OpsL.cons rfl (op_move rfl) ?_
          refine OpsL.keep [10, 131, 132, 133, 134] [1, 2, 3, 105] (s' := ⟨[(10, .b (.one (.str (toStr [IntKind.u8.wrap x_14])))), (131, .b (.row 2)), (132, I x_3), (133, .b (.ptr 1 0)), (134, .b (.row 105))], [(1, .xbox 40 [.row 2, .row 3, .one (.str y0last)]), (2, .row 42 1 (y0all.map (eL 5 eHolding))), (3, .row 45 6 (y0sent.map eParcel)), (105, .row 59 5 (x_16.map eHolding))]⟩) rfl ?_
          refine OpsL.cons rfl (op_move rfl) ?_
          obtain ⟨x_18, e13, h⟩ := bnd h
          refine OpsL.cons rfl (op_index_r tySl37 (ix_lo e13) (ix_lt' e13) rfl rfl rfl rfl) ?_
          refine OpsL.persist 105 rfl ?_
          refine OpsL.cons rfl (op_store_r1 (i := (x_3 : Int).toNat) tyOne42 rfl rfl rfl rfl (ix_lt e13) (map_set _ _ _ _)) ?_
          refine OpsL.cons rfl (op_nilCheck_p rfl) ?_
          refine OpsL.cons rfl (op_field_p tyFld40_2 rfl rfl) ?_
          refine OpsL.cons rfl (op_store_x1 tyOne9 rfl rfl rfl rfl (Nat.le_of_ble_eq_true rfl) rfl) ?_
          refine OpsL.nil ?_
          refine Fin.block_normal ?_
          obtain rfl := Option.some.inj h
          refine Fin.keep [] [1, 2, 3] (s' := ⟨[], [(1, .xbox 40 [.row 2, .row 3, .one (.str (toStr [IntKind.u8.wrap x_14]))]), (2, .row 42 1 ((y0all.set (x_3 : Int).toNat x_16).map (eL 5 eHolding))), (3, .row 45 6 (y0sent.map eParcel))]⟩) rfl ?_
          refine Fin.keep [] [1, 2, 3] (s' := ⟨[], [(1, .xbox 40 [.row 2, .row 3, .one (.str (toStr [IntKind.u8.wrap x_14]))]), (2, .row 42 1 ((y0all.set (x_3 : Int).toNat x_16).map (eL 5 eHolding))), (3, .row 45 6 (y0sent.map eParcel))]⟩) rfl ?_
          exact Fin.result [] (.inr rfl) rfl (.nil) ⟨rfl, rfl⟩
        · refine Tri.skip ?_
          refine Fin.block_normal ?_
          obtain rfl := Option.some.inj h
          refine Fin.keep [] [1, 2, 3] (s' := ⟨[], [(1, .xbox 40 [.row 2, .row 3, .one (.str y0last)]), (2, .row 42 1 (y0all.map (eL 5 eHolding))), (3, .row 45 6 (y0sent.map eParcel))]⟩) rfl ?_
          refine Fin.keep [] [1, 2, 3] (s' := ⟨[], [(1, .xbox 40 [.row 2, .row 3, .one (.str y0last)]), (2, .row 42 1 (y0all.map (eL 5 eHolding))), (3, .row 45 6 (y0sent.map eParcel))]⟩) rfl ?_
          exact Fin.result [] (.inr rfl) rfl (.nil) ⟨rfl, rfl⟩
      · refine Tri.seq ?_
        refine Tri.regionL ?_
        refine OpsL.cons rfl (op_eql rfl rfl) ?_
        refine OpsL.cons rfl (op_assign rfl) ?_
        refine OpsL.nilK [0, 3, 5, 139] [1, 2, 3, 101] (s' := ⟨[(0, .b (.ptr 1 0)), (3, .b (.ptr 101 0)), (5, I x_3), (139, B (decide (x0.Kind = 3)))], [(1, .xbox 40 [.row 2, .row 3, .one (.str y0last)]), (2, .row 42 1 (y0all.map (eL 5 eHolding))), (3, .row 45 6 (y0sent.map eParcel)), (101, .box 33 [.i x0.Kind, .i x0.Node, .i x0.To, .i x0.N])]⟩) rfl ?_
        refine Tri.ite h rfl (fun _ h => ?_) (fun _ h => ?_)
        · refine Tri.keep [0, 5] [1, 2, 3] (s' := ⟨[(0, .b (.ptr 1 0)), (5, I x_3)], [(1, .xbox 40 [.row 2, .row 3, .one (.str y0last)]), (2, .row 42 1 (y0all.map (eL 5 eHolding))), (3, .row 45 6 (y0sent.map eParcel))]⟩) rfl ?_
          obtain ⟨x_19, e14, h⟩ := bnd h
          obtain ⟨x_20, e15, h⟩ := bnd h
          obtain ⟨x_21, e16, h⟩ := bnd h
          refine Tri.regionWF mixed [false, false, false, false, false, false, false, false, false, false, false, false, false, false, true, false, false, true] [.b (.ptr 1 0), .b (.ptr 1 0), .b (.ptr 1 0), .b (.ptr 1 1), .b (.row 3), .b (.ptr 1 0), .b (.ptr 1 0), .b (.ptr 1 0), .b (.row 2), I x_3, .b (.rptr 2 ((x_3 : Int).toNat * 1)), .b (.one (.sl 5 (x_19.map eHolding))), I x_3, .b (.one (.sl 6 (x_20.map eParcel))), .b (.row 3), .b (.ptr 1 0), .b (.ptr 1 1), B true] [⟨[false, false, false, false, false, false, false, false, false, false, false, false, false, false, false, false, false, false], [(0, .b (.ptr 1 0)), (5, I x_3)], [(1, .xbox 40 [.row 2, .row 3, .one (.str y0last)]), (2, .row 42 1 (y0all.map (eL 5 eHolding))), (3, .row 45 6 (y0sent.map eParcel))], [true, true, true, true, true, true, true, true, true, true, true, true, true, true, true, true, true, true], []⟩, ⟨[false, false, false, false, false, false, false, false, false, false, false, false, false, false, true, false, false, false], [(0, .b (.ptr 1 0)), (5, I x_3)], [(1, .xbox 40 [.row 2, .one (.any), .one (.str y0last)]), (2, .row 42 1 (y0all.map (eL 5 eHolding))), (3, .row 45 6 (x_21.map eParcel))], [true, true, true, true, false, true, true, true, true, true, true, true, true, true, true, true, true, true], [1, 2, 3, 4, 5, 6, 7, 8, 9, 10, 11, 12, 13, 14]⟩, ⟨[false, false, false, false, false, false, false, false, false, false, false, false, false, false, true, false, false, true], [(0, .b (.ptr 1 0)), (5, I x_3)], [(1, .xbox 40 [.row 2, .row 3, .one (.str y0last)]), (2, .row 42 1 (y0all.map (eL 5 eHolding))), (3, .row 45 6 (x_21.map eParcel))], [true, true, true, true, false, true, true, true, true, true, true, true, true, true, true, true, true, true], [0, 1, 2, 3, 4, 5, 6, 7, 8, 9, 10, 11, 12, 13, 14, 15, 16, 17]⟩] rfl (⟨by kernel_rfl, ⟨⟨.b (.ptr 1 0), fun _ => rfl, fun _ => .plain rfl (by exact op_move rfl)⟩, ⟨.b (.ptr 1 0), fun _ => rfl, fun _ => .plain rfl (by exact op_move rfl)⟩, ⟨.b (.ptr 1 0), fun _ => rfl, fun _ => .plain rfl (by exact op_nilCheck_p rfl)⟩, ⟨.b (.ptr 1 1), fun _ => rfl, fun _ => .plain rfl (by exact op_field_p tyFld40_1 rfl rfl)⟩, ⟨.b (.row 3), fun _ => rfl, fun _ => .plain rfl (by exact op_load_x1 tyOne38 rfl rfl rfl)⟩, ⟨.b (.ptr 1 0), fun _ => rfl, fun _ => .plain rfl (by exact op_move rfl)⟩, ⟨.b (.ptr 1 0), fun _ => rfl, fun _ => .plain rfl (by exact op_nilCheck_p rfl)⟩, ⟨.b (.ptr 1 0), fun _ => rfl, fun _ => .plain rfl (by exact op_field_p tyFld40_0 rfl rfl)⟩, ⟨.b (.row 2), fun _ => rfl, fun _ => .plain rfl (by exact op_load_x1 tyOne37 rfl rfl rfl)⟩, ⟨I x_3, fun _ => rfl, fun _ => .plain rfl (by exact op_move rfl)⟩, ⟨.b (.rptr 2 ((x_3 : Int).toNat * 1)), fun _ => rfl, fun _ => .plain rfl (by exact op_index_r tySl37 (ix_lo e14) (ix_lt' e14) rfl rfl rfl rfl)⟩, ⟨.b (.one (.sl 5 (x_19.map eHolding))), fun _ => rfl, fun _ => .plain rfl (by exact op_load_r1 (i := (x_3 : Int).toNat) (f := 0) tyOne42 rfl rfl rfl (ix_map (e := (eL 5 eHolding)) e14) rfl)⟩, ⟨I x_3, fun _ => rfl, fun _ => .plain rfl (by exact op_move rfl)⟩, ⟨.b (.one (.sl 6 (x_20.map eParcel))), fun _ => rfl, fun _ => .plain rfl (by exact op_call0 (region_Letters_spec 0 e15).persG goes15 rfl rfl)⟩, ⟨_, some 3, .b (.row 3), rfl, fun _ => rfl, rfl, rfl, fun _ => .to (by exact .forget 1 1 rfl (.plain rfl (op_append tySl38 (app_b e16) (app_m e16) rfl rfl rfl (app_map e16) rfl))) (by exact rfl)⟩, trivial, trivial, trivial, trivial⟩, ⟨by kernel_rfl, ⟨⟨.b (.ptr 1 0), fun _ => rfl, fun _ => .plain rfl (by exact op_move rfl)⟩, trivial, trivial, trivial, trivial, trivial, trivial, trivial, trivial, trivial, trivial, trivial, trivial, trivial, trivial, ⟨.b (.ptr 1 0), fun _ => rfl, fun _ => .plain rfl (by exact op_nilCheck_p rfl)⟩, ⟨.b (.ptr 1 1), fun _ => rfl, fun _ => .plain rfl (by exact op_field_p tyFld40_1 rfl rfl)⟩, ⟨_, none, .b (.one .any), rfl, (fun e => by simp at e), rfl, rfl, fun _ => .to (by exact .plain rfl (by exact op_store_x1 tyOne38 rfl rfl rfl rfl (Nat.le_of_ble_eq_true rfl) rfl)) (by exact rfl)⟩, trivial⟩, ⟨by kernel_rfl, ⟨trivial, trivial, trivial, trivial, trivial, trivial, trivial, trivial, trivial, trivial, trivial, trivial, trivial, trivial, trivial, trivial, trivial, trivial, trivial⟩, trivial⟩⟩⟩) rfl rfl rfl [] [1, 2, 3] (s' := ⟨[], [(1, .xbox 40 [.row 2, .row 3, .one (.str y0last)]), (2, .row 42 1 (y0all.map (eL 5 eHolding))), (3, .row 45 6 (x_21.map eParcel))]⟩) rfl ?_
          refine Fin.block_normal ?_
          obtain rfl := Option.some.inj h
          refine Fin.keep [] [1, 2, 3] (s' := ⟨[], [(1, .xbox 40 [.row 2, .row 3, .one (.str y0last)]), (2, .row 42 1 (y0all.map (eL 5 eHolding))), (3, .row 45 6 (x_21.map eParcel))]⟩) rfl ?_
          refine Fin.keep [] [1, 2, 3] (s' := ⟨[], [(1, .xbox 40 [.row 2, .row 3, .one (.str y0last)]), (2, .row 42 1 (y0all.map (eL 5 eHolding))), (3, .row 45 6 (x_21.map eParcel))]⟩) rfl ?_
          exact Fin.result [] (.inr rfl) rfl (.nil) ⟨rfl, rfl⟩
        · refine Tri.seq ?_
          refine Tri.regionL ?_
          refine OpsL.cons rfl (op_move rfl) ?_
          refine OpsL.cons rfl (op_nilCheck_p rfl) ?_
          refine OpsL.cons rfl (op_field_p tyFld40_1 rfl rfl) ?_
          refine OpsL.cons rfl (op_load_x1 tyOne38 rfl rfl rfl) ?_
          refine OpsL.cons rfl (op_len_r' und38 rfl rfl (List.length_map _)) ?_
          refine OpsL.cons rfl (op_assign rfl) ?_
          refine OpsL.nilK [0, 3, 13] [1, 2, 3, 101] (s' := ⟨[(0, .b (.ptr 1 0)), (3, .b (.ptr 101 0)), (13, I (y0sent.length : Int))], [(1, .xbox 40 [.row 2, .row 3, .one (.str y0last)]), (2, .row 42 1 (y0all.map (eL 5 eHolding))), (3, .row 45 6 (y0sent.map eParcel)), (101, .box 33 [.i x0.Kind, .i x0.Node, .i x0.To, .i x0.N])]⟩) rfl ?_
          refine Tri.seq ?_
          refine Tri.regionL ?_
          refine OpsL.cons rfl (op_move rfl) ?_
          refine OpsL.cons rfl (op_gtr rfl rfl) ?_
          refine OpsL.nilK [0, 3, 13, 35] [1, 2, 3, 101] (s' := ⟨[(0, .b (.ptr 1 0)), (3, .b (.ptr 101 0)), (13, I (y0sent.length : Int)), (35, B (decide (0 < (y0sent.length : Int))))], [(1, .xbox 40 [.row 2, .row 3, .one (.str y0last)]), (2, .row 42 1 (y0all.map (eL 5 eHolding))), (3, .row 45 6 (y0sent.map eParcel)), (101, .box 33 [.i x0.Kind, .i x0.Node, .i x0.To, .i x0.N])]⟩) rfl ?_
          refine Tri.ite h rfl (fun _ h => ?_) (fun _ h => ?_)
          · refine Tri.keep [0, 3, 13] [1, 2, 3, 101] (s' := ⟨[(0, .b (.ptr 1 0)), (3, .b (.ptr 101 0)), (13, I (y0sent.length : Int))], [(1, .xbox 40 [.row 2, .row 3, .one (.str y0last)]), (2, .row 42 1 (y0all.map (eL 5 eHolding))), (3, .row 45 6 (y0sent.map eParcel)), (101, .box 33 [.i x0.Kind, .i x0.Node, .i x0.To, .i x0.N])]⟩) rfl ?_
            obtain ⟨x_22, e17, h⟩ := bnd h
            obtain ⟨x_23, e18, h⟩ := bnd h
            obtain ⟨x_24, e19, h⟩ := bnd h
            obtain ⟨⟨x_25, x_26⟩, e20, h⟩ := bnd h
            refine Tri.regionZF mixed [.b (.ptr 1 0), .b (.ptr 1 0), .b (.ptr 1 0), .b (.ptr 1 1), .b (.row 3), .b (.ptr 101 3), I x0.N, I (y0sent.length : Int), I x_22, I (y0sent.length : Int), I (IntKind.i64.wrap (x_22 + (y0sent.length : Int))), I (y0sent.length : Int), I x_23, .b (.rptr 3 ((x_23 : Int).toNat * 6)), .b (.agg [.i x_24.From, .i x_24.To, .i x_24.Kind, .i x_24.Body, .i x_24.Epoch, .str x_24.Data])] [] [1, 2, 3] (s' := ⟨[], [(1, .xbox 40 [.row 2, .row 3, .one (.str y0last)]), (2, .row 42 1 (x_25.map (eL 5 eHolding))), (3, .row 45 6 (x_26.map eParcel))]⟩) (by simp) rfl rfl ⟨fun _ => .plain rfl (op_move rfl), fun _ => .plain rfl (op_move rfl), fun _ => .plain rfl (op_nilCheck_p rfl), fun _ => .plain rfl (op_field_p tyFld40_1 rfl rfl), fun _ => .plain rfl (op_load_x1 tyOne38 rfl rfl rfl), fun _ => .plain rfl (op_field_p tyFld33_3 rfl rfl), fun _ => .plain rfl (op_load_p1 tyOne3 rfl rfl rfl), fun _ => .plain rfl (op_move rfl), fun _ => .plain rfl (op_rem2 e17 rfl rfl), fun _ => .plain rfl (op_move rfl), fun _ => .plain rfl (op_add rfl rfl), fun _ => .plain rfl (op_move rfl), fun _ => .plain rfl (op_rem2 e18 rfl rfl), fun _ => .plain rfl (op_index_r tySl38 (ix_lo e19) (ix_lt' e19) rfl rfl rfl rfl), fun _ => .plain rfl (op_load_r (i := (x_23 : Int).toNat) (f := 0) tyAgg45 rfl rfl rfl (ix_map (e := eParcel) e19) rfl rfl), trivial⟩ (.plain rfl (op_call (own_a := [(1, _), (2, _), (3, _)]) (skewbacklaw41_yard_arrive_spec e20) goes16 rfl ⟨rfl, rfl, rfl, trivial⟩ rfl rfl)) rfl ?_
            refine Fin.block_normal ?_
            obtain rfl := Option.some.inj h
            refine Fin.keep [] [1, 2, 3] (s' := ⟨[], [(1, .xbox 40 [.row 2, .row 3, .one (.str y0last)]), (2, .row 42 1 (x_25.map (eL 5 eHolding))), (3, .row 45 6 (x_26.map eParcel))]⟩) rfl ?_
            refine Fin.keep [] [1, 2, 3] (s' := ⟨[], [(1, .xbox 40 [.row 2, .row 3, .one (.str y0last)]), (2, .row 42 1 (x_25.map (eL 5 eHolding))), (3, .row 45 6 (x_26.map eParcel))]⟩) rfl ?_
            exact Fin.result [] (.inr rfl) rfl (.nil) ⟨rfl, rfl⟩
          · refine Tri.skip ?_
            refine Fin.block_normal ?_
            obtain rfl := Option.some.inj h
            refine Fin.keep [] [1, 2, 3] (s' := ⟨[], [(1, .xbox 40 [.row 2, .row 3, .one (.str y0last)]), (2, .row 42 1 (y0all.map (eL 5 eHolding))), (3, .row 45 6 (y0sent.map eParcel))]⟩) rfl ?_
            refine Fin.keep [] [1, 2, 3] (s' := ⟨[], [(1, .xbox 40 [.row 2, .row 3, .one (.str y0last)]), (2, .row 42 1 (y0all.map (eL 5 eHolding))), (3, .row 45 6 (y0sent.map eParcel))]⟩) rfl ?_
            exact Fin.result [] (.inr rfl) rfl (.nil) ⟨rfl, rfl⟩

def skewbackref41_Holder_S (F : Nat) (all0 : List (List Holding)) (n0 : Int) : Option Int :=
 Option.bind (iter F (un3 fun best_2 at_3 i_4 => if (decide (i_4 < (all0.length : Int))) = true then (Option.bind (Option.bind (idx? all0 i_4) (fun x_8 => Option.bind (skewbackref41_Get_S F x_8 n0) (fun x_9 => letN (((decide (x_9.Phase ≠ 1)) && (decide (x_9.Phase ≠ 2))) && (decide (x_9.Phase ≠ 3))) fun x_10 => if x_10 = true then (some (best_2, at_3)) else (letN (((decide (best_2 < 0)) || (decide (at_3.Epoch < x_9.Epoch))) || (((decide (x_9.Epoch = at_3.Epoch)) && (decide (x_9.Phase = 1))) && (decide (at_3.Phase ≠ 1)))) fun x_11 => if x_11 = true then (some (i_4, x_9)) else (some (best_2, at_3)))))) (un2 fun best_6 at_7 => some (.inl (best_6, at_7, IntKind.i64.wrap (i_4 + 1))))) else (some (.inr best_2))) ((-1), (⟨0, 0, 0, 0, []⟩ : Holding), 0)) (fun best_1 => some best_1)
theorem skewbackref41_Holder_spec {F : Nat} {all0 : List (List Holding)} {n0 : Int} {r : Int} (h : skewbackref41_Holder_S F all0 n0 = some r) : Meets Try.prog 41 [] [.one (.sl 1 (all0.map (eL 5 eHolding))), .one (.i n0)] (Is [] (.b (.one (.i r)))) := by
  unfold skewbackref41_Holder_S at h
  refine Meets.intro 63 Try.func41 Try.ntmps41 rfl (by simp) fun E => ?_
  show Tri _ E ⟨63, [], []⟩ _ ⟨[(0, .b (.one (.sl 1 (all0.map (eL 5 eHolding))))), (1, I n0)], []⟩ _
  refine Tri.seq ?_
  refine Tri.regionL ?_
  refine OpsL.cons rfl (op_assign rfl) ?_
  refine OpsL.nilK [0, 1] [] (s' := ⟨[(0, .b (.one (.sl 1 (all0.map (eL 5 eHolding))))), (1, I n0)], []⟩) rfl ?_
  refine Tri.seq ?_
  refine Tri.regionL ?_
  refine OpsL.cons rfl (op_assign rfl) ?_
  refine OpsL.nilK [0, 1, 5] [] (s' := ⟨[(0, .b (.one (.sl 1 (all0.map (eL 5 eHolding))))), (1, I n0), (5, I (-1))], []⟩) rfl ?_
  refine Tri.seq ?_
  refine Tri.regionL ?_
  refine OpsL.cons rfl (op_alloc (k := 101) tyZero59 rfl) ?_
  refine OpsL.nilK [0, 1, 5, 6] [101] (s' := ⟨[(0, .b (.one (.sl 1 (all0.map (eL 5 eHolding))))), (1, I n0), (5, I (-1)), (6, .b (.ptr 101 0))], [(101, .box 59 [.i 0, .i 0, .i 0, .i 0, .str []])]⟩) rfl ?_
  obtain ⟨v1, h2, h⟩ := bnd h
  refine Tri.seqJ (v := v1) (fun (best_1 : Int) => ⟨[(5, I best_1)], []⟩) (fun z => z) ?_ ?_
  · refine Tri.seq ?_
    refine Tri.regionL ?_
    refine OpsL.cons rfl (op_assign rfl) ?_
    refine OpsL.nilK [0, 1, 5, 6, 7] [101] (s' := ⟨[(0, .b (.one (.sl 1 (all0.map (eL 5 eHolding))))), (1, I n0), (5, I (-1)), (6, .b (.ptr 101 0)), (7, I 0)], [(101, .box 59 [.i 0, .i 0, .i 0, .i 0, .str []])]⟩) rfl ?_
    refine Tri.block ?_
    refine Tri.loopJ h2 (un3 fun (best_2 : Int) (at_3 : Holding) (i_4 : Int) => ⟨[(0, .b (.one (.sl 1 (all0.map (eL 5 eHolding))))), (1, I n0), (5, I best_2), (6, .b (.ptr 101 0)), (7, I i_4)], [(101, .box 59 [.i at_3.Body, .i at_3.Epoch, .i at_3.Phase, .i at_3.Peer, .str at_3.Data])]⟩) [0, 1, 5, 6, 7] [101] rfl ?_
    rintro ⟨best_2, at_3, i_4⟩ o3 h4 hy5
    refine Tri.seq ?_
    refine Tri.seq ?_
    refine Tri.regionL ?_
    refine OpsL.cons rfl (op_move rfl) ?_
    refine OpsL.cons rfl (op_move rfl) ?_
    refine OpsL.cons rfl (op_len_e' und37 rfl (List.length_map _)) ?_
    refine OpsL.cons rfl (op_lss rfl rfl) ?_
    refine OpsL.nilK [0, 1, 5, 6, 7, 12] [101] (s' := ⟨[(0, .b (.one (.sl 1 (all0.map (eL 5 eHolding))))), (1, I n0), (5, I best_2), (6, .b (.ptr 101 0)), (7, I i_4), (12, B (decide (i_4 < (all0.length : Int))))], [(101, .box 59 [.i at_3.Body, .i at_3.Epoch, .i at_3.Phase, .i at_3.Peer, .str at_3.Data])]⟩) rfl ?_
    refine Tri.ite h4 rfl (fun _ h4 => ?_) (fun _ h4 => ?_)
    · refine Tri.skip ?_
      refine Fin.keep [0, 1, 5, 6, 7] [101] (s' := ⟨[(0, .b (.one (.sl 1 (all0.map (eL 5 eHolding))))), (1, I n0), (5, I best_2), (6, .b (.ptr 101 0)), (7, I i_4)], [(101, .box 59 [.i at_3.Body, .i at_3.Epoch, .i at_3.Phase, .i at_3.Peer, .str at_3.Data])]⟩) rfl ?_
      refine Fin.then ?_
      obtain ⟨v6, h7, h4⟩ := bnd h4
      refine Tri.seqJ (v := v6) (un2 fun (best_6 : Int) (at_7 : Holding) => ⟨[(0, .b (.one (.sl 1 (all0.map (eL 5 eHolding))))), (1, I n0), (5, I best_6), (6, .b (.ptr 101 0)), (7, I i_4)], [(101, .box 59 [.i at_7.Body, .i at_7.Epoch, .i at_7.Phase, .i at_7.Peer, .str at_7.Data])]⟩) (fun z => z) ?_ ?_
      · refine Tri.block ?_
        refine Tri.seq ?_
        refine Tri.regionL ?_
        refine OpsL.cons rfl (op_move rfl) ?_
        refine OpsL.cons rfl (op_move rfl) ?_
        obtain ⟨x_8, e8, h7⟩ := bnd h7
        refine OpsL.cons rfl (op_index_e tySl37 (ix_lo e8) (ix_map (e := (eL 5 eHolding)) e8) rfl rfl) ?_
        refine OpsL.cons rfl (op_load_e1 tyOne42 rfl rfl) ?_
        refine OpsL.cons rfl (op_move rfl) ?_
        refine OpsL.keep [0, 1, 5, 6, 7, 18, 19] [101] (s' := ⟨[(0, .b (.one (.sl 1 (all0.map (eL 5 eHolding))))), (1, I n0), (5, I best_2), (6, .b (.ptr 101 0)), (7, I i_4), (18, .b (.one (.sl 5 (x_8.map eHolding)))), (19, I n0)], [(101, .box 59 [.i at_3.Body, .i at_3.Epoch, .i at_3.Phase, .i at_3.Peer, .str at_3.Data])]⟩) rfl ?_
        obtain ⟨x_9, e9, h7⟩ := bnd h7
        refine OpsL.cons rfl (op_call0 (skewbackref41_Get_spec e9) goes31 rfl rfl) ?_
        refine OpsL.cons rfl (op_alloc (k := 102) tyZero59 rfl) ?_
        refine OpsL.cons rfl (op_store_p tyAgg59 rfl rfl rfl rfl (Nat.le_of_ble_eq_true rfl) rfl) ?_
        refine OpsL.nilK [0, 1, 5, 6, 7, 8] [101, 102] (s' := ⟨[(0, .b (.one (.sl 1 (all0.map (eL 5 eHolding))))), (1, I n0), (5, I best_2), (6, .b (.ptr 101 0)), (7, I i_4), (8, .b (.ptr 102 0))], [(101, .box 59 [.i at_3.Body, .i at_3.Epoch, .i at_3.Phase, .i at_3.Peer, .str at_3.Data]), (102, .box 59 [.i x_9.Body, .i x_9.Epoch, .i x_9.Phase, .i x_9.Peer, .str x_9.Data])]⟩) rfl ?_
        refine Tri.seq ?_
        refine Tri.seq ?_
        refine Tri.regionL ?_
        refine OpsL.cons rfl (op_field_p tyFld59_2 rfl rfl) ?_
        refine OpsL.cons rfl (op_load_p1 tyOne3 rfl rfl rfl) ?_
        refine OpsL.cons rfl (op_neq rfl rfl) ?_
        refine OpsL.cons rfl (op_move rfl) ?_
        refine OpsL.consG (decide (x_9.Phase ≠ 1)) 99 [] (.plain rfl) (eq_t _) rfl rfl (fun g10 => trivial) (fun g10 => op_field_p tyFld59_2 rfl rfl) ?_
        refine OpsL.consG (decide (x_9.Phase ≠ 1)) 99 [25] (.plain rfl) (eq_t _) rfl rfl (fun g11 => ⟨g11, trivial⟩) (fun g11 => op_load_p1 tyOne3 rfl rfl rfl) ?_
        refine OpsL.consG (decide (x_9.Phase ≠ 1)) 99 [26] (.plain rfl) (eq_t _) rfl rfl (fun g12 => ⟨g12, trivial⟩) (fun g12 => op_neq rfl rfl) ?_
        refine OpsL.keep [0, 1, 5, 6, 7, 8, 24, 27] [101, 102] (s' := ⟨[(0, .b (.one (.sl 1 (all0.map (eL 5 eHolding))))), (1, I n0), (5, I best_2), (6, .b (.ptr 101 0)), (7, I i_4), (8, .b (.ptr 102 0)), (24, B (decide (x_9.Phase ≠ 1))), (27, .opt (decide (x_9.Phase ≠ 1)) (.one (.bool (decide (x_9.Phase ≠ 2)))))], [(101, .box 59 [.i at_3.Body, .i at_3.Epoch, .i at_3.Phase, .i at_3.Peer, .str at_3.Data]), (102, .box 59 [.i x_9.Body, .i x_9.Epoch, .i x_9.Phase, .i x_9.Peer, .str x_9.Data])]⟩) rfl ?_
        refine OpsL.cons rfl (op_pick_and (fun e => e) rfl rfl rfl rfl) ?_
        refine OpsL.cons rfl (op_move rfl) ?_
        refine OpsL.consG ((decide (x_9.Phase ≠ 1)) && (decide (x_9.Phase ≠ 2))) 99 [] (.plain rfl) (eq_t _) rfl rfl (fun g13 => trivial) (fun g13 => op_field_p tyFld59_2 rfl rfl) ?_
        refine OpsL.consG ((decide (x_9.Phase ≠ 1)) && (decide (x_9.Phase ≠ 2))) 99 [30] (.plain rfl) (eq_t _) rfl rfl (fun g14 => ⟨g14, trivial⟩) (fun g14 => op_load_p1 tyOne3 rfl rfl rfl) ?_
        refine OpsL.consG ((decide (x_9.Phase ≠ 1)) && (decide (x_9.Phase ≠ 2))) 99 [31] (.plain rfl) (eq_t _) rfl rfl (fun g15 => ⟨g15, trivial⟩) (fun g15 => op_neq rfl rfl) ?_
        refine OpsL.consB h7 rfl (op_pick_and (fun e => e) rfl rfl rfl rfl) (fun x_10 h7 => ?_)
        refine OpsL.nilK [0, 1, 5, 6, 7, 8, 33] [101, 102] (s' := ⟨[(0, .b (.one (.sl 1 (all0.map (eL 5 eHolding))))), (1, I n0), (5, I best_2), (6, .b (.ptr 101 0)), (7, I i_4), (8, .b (.ptr 102 0)), (33, B x_10)], [(101, .box 59 [.i at_3.Body, .i at_3.Epoch, .i at_3.Phase, .i at_3.Peer, .str at_3.Data]), (102, .box 59 [.i x_9.Body, .i x_9.Epoch, .i x_9.Phase, .i x_9.Peer, .str x_9.Data])]⟩) rfl ?_
        refine Tri.ite h7 rfl (fun _ h7 => ?_) (fun _ h7 => ?_)
        · refine Tri.exit ?_
          refine Fin.then_exit ?_
          refine Fin.block_exit ?_
          exact Fin.join [0, 1, 5, 6, 7] [101] (best_2, at_3) (Option.some.inj h7) rfl
        · refine Tri.skip ?_
          refine Fin.keep [0, 1, 5, 6, 7, 8] [101, 102] (s' := ⟨[(0, .b (.one (.sl 1 (all0.map (eL 5 eHolding))))), (1, I n0), (5, I best_2), (6, .b (.ptr 101 0)), (7, I i_4), (8, .b (.ptr 102 0))], [(101, .box 59 [.i at_3.Body, .i at_3.Epoch, .i at_3.Phase, .i at_3.Peer, .str at_3.Data]), (102, .box 59 [.i x_9.Body, .i x_9.Epoch, .i x_9.Phase, .i x_9.Peer, .str x_9.Data])]⟩) rfl ?_
          refine Fin.then ?_
          refine Tri.seq ?_
          refine Tri.regionL ?_
          refine OpsL.cons rfl (op_move rfl) ?_
          refine OpsL.cons rfl (op_lss rfl rfl) ?_
          refine OpsL.cons rfl (op_move rfl) ?_
          refine OpsL.consG (!(decide (best_2 < 0))) 99 [] (.plain rfl) (eq_f _) rfl rfl (fun g16 => trivial) (fun g16 => op_field_p tyFld59_1 rfl rfl) ?_
          refine OpsL.consG (!(decide (best_2 < 0))) 99 [37] (.plain rfl) (eq_f _) rfl rfl (fun g17 => ⟨g17, trivial⟩) (fun g17 => op_load_p1 tyOne3 rfl rfl rfl) ?_
          refine OpsL.consG (!(decide (best_2 < 0))) 99 [] (.plain rfl) (eq_f _) rfl rfl (fun g18 => trivial) (fun g18 => op_field_p tyFld59_1 rfl rfl) ?_
          refine OpsL.consG (!(decide (best_2 < 0))) 99 [39] (.plain rfl) (eq_f _) rfl rfl (fun g19 => ⟨g19, trivial⟩) (fun g19 => op_load_p1 tyOne3 rfl rfl rfl) ?_
          refine OpsL.keep [0, 1, 5, 6, 7, 8, 36, 38, 40] [101, 102] (s' := ⟨[(0, .b (.one (.sl 1 (all0.map (eL 5 eHolding))))), (1, I n0), (5, I best_2), (6, .b (.ptr 101 0)), (7, I i_4), (8, .b (.ptr 102 0)), (36, B (decide (best_2 < 0))), (38, .opt (!(decide (best_2 < 0))) (.one (.i x_9.Epoch))), (40, .opt (!(decide (best_2 < 0))) (.one (.i at_3.Epoch)))], [(101, .box 59 [.i at_3.Body, .i at_3.Epoch, .i at_3.Phase, .i at_3.Peer, .str at_3.Data]), (102, .box 59 [.i x_9.Body, .i x_9.Epoch, .i x_9.Phase, .i x_9.Peer, .str x_9.Data])]⟩) rfl ?_
          refine OpsL.consG (!(decide (best_2 < 0))) 99 [38, 40] (.plain rfl) (eq_f _) rfl rfl (fun g20 => ⟨g20, g20, trivial⟩) (fun g20 => op_gtr rfl rfl) ?_
          refine OpsL.cons rfl (op_pick_or (fun e => by rw [e]; rfl) rfl rfl rfl rfl) ?_
          refine OpsL.cons rfl (op_move rfl) ?_
          refine OpsL.consG (!((decide (best_2 < 0)) || (decide (at_3.Epoch < x_9.Epoch)))) 99 [] (.plain rfl) (eq_f _) rfl rfl (fun g21 => trivial) (fun g21 => op_field_p tyFld59_1 rfl rfl) ?_
          refine OpsL.consG (!((decide (best_2 < 0)) || (decide (at_3.Epoch < x_9.Epoch)))) 99 [44] (.plain rfl) (eq_f _) rfl rfl (fun g22 => ⟨g22, trivial⟩) (fun g22 => op_load_p1 tyOne3 rfl rfl rfl) ?_
          refine OpsL.consG (!((decide (best_2 < 0)) || (decide (at_3.Epoch < x_9.Epoch)))) 99 [] (.plain rfl) (eq_f _) rfl rfl (fun g23 => trivial) (fun g23 => op_field_p tyFld59_1 rfl rfl) ?_
          refine OpsL.consG (!((decide (best_2 < 0)) || (decide (at_3.Epoch < x_9.Epoch)))) 99 [46] (.plain rfl) (eq_f _) rfl rfl (fun g24 => ⟨g24, trivial⟩) (fun g24 => op_load_p1 tyOne3 rfl rfl rfl) ?_
          refine OpsL.consG (!((decide (best_2 < 0)) || (decide (at_3.Epoch < x_9.Epoch)))) 99 [45, 47] (.plain rfl) (eq_f _) rfl rfl (fun g25 => ⟨g25, g25, trivial⟩) (fun g25 => op_eql rfl rfl) ?_
          refine OpsL.keep [0, 1, 5, 6, 7, 8, 43, 48] [101, 102] (s' := ⟨[(0, .b (.one (.sl 1 (all0.map (eL 5 eHolding))))), (1, I n0), (5, I best_2), (6, .b (.ptr 101 0)), (7, I i_4), (8, .b (.ptr 102 0)), (43, B ((decide (best_2 < 0)) || (decide (at_3.Epoch < x_9.Epoch)))), (48, .opt (!((decide (best_2 < 0)) || (decide (at_3.Epoch < x_9.Epoch)))) (.one (.bool (decide (x_9.Epoch = at_3.Epoch)))))], [(101, .box 59 [.i at_3.Body, .i at_3.Epoch, .i at_3.Phase, .i at_3.Peer, .str at_3.Data]), (102, .box 59 [.i x_9.Body, .i x_9.Epoch, .i x_9.Phase, .i x_9.Peer, .str x_9.Data])]⟩) rfl ?_
          refine OpsL.consG (!((decide (best_2 < 0)) || (decide (at_3.Epoch < x_9.Epoch)))) 99 [48] (.plain rfl) (eq_f _) rfl rfl (fun g26 => ⟨g26, trivial⟩) (fun g26 => op_move rfl) ?_
          refine OpsL.consG ((!((decide (best_2 < 0)) || (decide (at_3.Epoch < x_9.Epoch)))) && (decide (x_9.Epoch = at_3.Epoch))) 99 [] (.under rfl) (and_t _ _) rfl rfl (fun g27 => trivial) (fun g27 => op_field_p tyFld59_2 rfl rfl) ?_
          refine OpsL.consG ((!((decide (best_2 < 0)) || (decide (at_3.Epoch < x_9.Epoch)))) && (decide (x_9.Epoch = at_3.Epoch))) 99 [50] (.under rfl) (and_t _ _) rfl rfl (fun g28 => ⟨g28, trivial⟩) (fun g28 => op_load_p1 tyOne3 rfl rfl rfl) ?_
          refine OpsL.consG ((!((decide (best_2 < 0)) || (decide (at_3.Epoch < x_9.Epoch)))) && (decide (x_9.Epoch = at_3.Epoch))) 99 [51] (.under rfl) (and_t _ _) rfl rfl (fun g29 => ⟨g29, trivial⟩) (fun g29 => op_eql rfl rfl) ?_
          refine OpsL.consG (!((decide (best_2 < 0)) || (decide (at_3.Epoch < x_9.Epoch)))) 99 [49] (.plain rfl) (eq_f _) rfl rfl (fun g30 => ⟨g30, trivial⟩) (fun g30 => op_pick_and (fun e => by rw [g30, e]; rfl) rfl rfl rfl rfl) ?_
          refine OpsL.consG (!((decide (best_2 < 0)) || (decide (at_3.Epoch < x_9.Epoch)))) 99 [53] (.plain rfl) (eq_f _) rfl rfl (fun g31 => ⟨g31, trivial⟩) (fun g31 => op_move rfl) ?_
          refine OpsL.consG ((!((decide (best_2 < 0)) || (decide (at_3.Epoch < x_9.Epoch)))) && ((decide (x_9.Epoch = at_3.Epoch)) && (decide (x_9.Phase = 1)))) 99 [] (.under rfl) (and_t _ _) rfl rfl (fun g32 => trivial) (fun g32 => op_field_p tyFld59_2 rfl rfl) ?_
          refine OpsL.consG ((!((decide (best_2 < 0)) || (decide (at_3.Epoch < x_9.Epoch)))) && ((decide (x_9.Epoch = at_3.Epoch)) && (decide (x_9.Phase = 1)))) 99 [55] (.under rfl) (and_t _ _) rfl rfl (fun g33 => ⟨g33, trivial⟩) (fun g33 => op_load_p1 tyOne3 rfl rfl rfl) ?_
          refine OpsL.keep [0, 1, 5, 6, 7, 8, 43, 54, 56] [101, 102] (s' := ⟨[(0, .b (.one (.sl 1 (all0.map (eL 5 eHolding))))), (1, I n0), (5, I best_2), (6, .b (.ptr 101 0)), (7, I i_4), (8, .b (.ptr 102 0)), (43, B ((decide (best_2 < 0)) || (decide (at_3.Epoch < x_9.Epoch)))), (54, .opt (!((decide (best_2 < 0)) || (decide (at_3.Epoch < x_9.Epoch)))) (.one (.bool ((decide (x_9.Epoch = at_3.Epoch)) && (decide (x_9.Phase = 1)))))), (56, .opt ((!((decide (best_2 < 0)) || (decide (at_3.Epoch < x_9.Epoch)))) && ((decide (x_9.Epoch = at_3.Epoch)) && (decide (x_9.Phase = 1)))) (.one (.i at_3.Phase)))], [(101, .box 59 [.i at_3.Body, .i at_3.Epoch, .i at_3.Phase, .i at_3.Peer, .str at_3.Data]), (102, .box 59 [.i x_9.Body, .i x_9.Epoch, .i x_9.Phase, .i x_9.Peer, .str x_9.Data])]⟩) rfl ?_
          refine OpsL.consG ((!((decide (best_2 < 0)) || (decide (at_3.Epoch < x_9.Epoch)))) && ((decide (x_9.Epoch = at_3.Epoch)) && (decide (x_9.Phase = 1)))) 99 [56] (.under rfl) (and_t _ _) rfl rfl (fun g34 => ⟨g34, trivial⟩) (fun g34 => op_neq rfl rfl) ?_
          refine OpsL.consG (!((decide (best_2 < 0)) || (decide (at_3.Epoch < x_9.Epoch)))) 99 [54] (.plain rfl) (eq_f _) rfl rfl (fun g35 => ⟨g35, trivial⟩) (fun g35 => op_pick_and (fun e => by rw [g35, e]; rfl) rfl rfl rfl rfl) ?_
          refine OpsL.consB h7 rfl (op_pick_or (fun e => by rw [e]; rfl) rfl rfl rfl rfl) (fun x_11 h7 => ?_)
          refine OpsL.nilK [0, 1, 5, 6, 7, 8, 59] [101, 102] (s' := ⟨[(0, .b (.one (.sl 1 (all0.map (eL 5 eHolding))))), (1, I n0), (5, I best_2), (6, .b (.ptr 101 0)), (7, I i_4), (8, .b (.ptr 102 0)), (59, B x_11)], [(101, .box 59 [.i at_3.Body, .i at_3.Epoch, .i at_3.Phase, .i at_3.Peer, .str at_3.Data]), (102, .box 59 [.i x_9.Body, .i x_9.Epoch, .i x_9.Phase, .i x_9.Peer, .str x_9.Data])]⟩) rfl ?_
          refine Tri.ite h7 rfl (fun _ h7 => ?_) (fun _ h7 => ?_)
          · refine Tri.seq ?_
            refine Tri.regionL ?_
            refine OpsL.cons rfl (op_move rfl) ?_
            refine OpsL.cons rfl (op_assign rfl) ?_
            refine OpsL.nilK [0, 1, 5, 6, 7, 8] [101, 102] (s' := ⟨[(0, .b (.one (.sl 1 (all0.map (eL 5 eHolding))))), (1, I n0), (5, I i_4), (6, .b (.ptr 101 0)), (7, I i_4), (8, .b (.ptr 102 0))], [(101, .box 59 [.i at_3.Body, .i at_3.Epoch, .i at_3.Phase, .i at_3.Peer, .str at_3.Data]), (102, .box 59 [.i x_9.Body, .i x_9.Epoch, .i x_9.Phase, .i x_9.Peer, .str x_9.Data])]⟩) rfl ?_
            refine Tri.regionL ?_
            refine OpsL.cons rfl (op_load_p tyAgg59 rfl rfl rfl rfl) ?_
            refine OpsL.cons rfl (op_store_p tyAgg59 rfl rfl rfl rfl (Nat.le_of_ble_eq_true rfl) rfl) ?_
            refine OpsL.nil ?_
            refine Fin.block_normal ?_
            exact Fin.join [0, 1, 5, 6, 7] [101] (i_4, x_9) (Option.some.inj h7) rfl
          · refine Tri.skip ?_
            refine Fin.block_normal ?_
            exact Fin.join [0, 1, 5, 6, 7] [101] (best_2, at_3) (Option.some.inj h7) rfl
      · rintro ⟨best_6, at_7⟩ hv
        subst v6
        refine Tri.regionL ?_
        refine OpsL.cons rfl (op_move rfl) ?_
        refine OpsL.cons rfl (op_add rfl rfl) ?_
        refine OpsL.cons rfl (op_assign rfl) ?_
        refine OpsL.nil ?_
        exact Fin.againJ [0, 1, 5, 6, 7] [101] (best_6, at_7, IntKind.i64.wrap (i_4 + 1)) (Option.some.inj h4) rfl
    · refine Tri.exit ?_
      refine Fin.then_exit ?_
      obtain rfl := hy5 _ (Option.some.inj h4).symm
      refine Fin.then_exit ?_
      refine Fin.block_exit ?_
      exact Fin.join [5] [] best_2 rfl rfl
  · rintro best_1 hv
    subst v1
    refine Tri.seq ?_
    refine Tri.regionL ?_
    refine OpsL.cons rfl (op_move rfl) ?_
    refine OpsL.cons rfl (op_assign rfl) ?_
    refine OpsL.nilK [4] [] (s' := ⟨[(4, I best_1)], []⟩) rfl ?_
    refine Tri.ret ?_
    obtain rfl := Option.some.inj h
    refine Fin.keep [4] [] (s' := ⟨[(4, I best_1)], []⟩) rfl ?_
    refine Fin.result' [.one (.i best_1)] (.inl rfl) rfl (.cons (.tmp rfl) .nil) ⟨rfl, rfl⟩

def skewbacklaw41_yard_safe_S (F : Nat) (y0last : Str) (y0all : List (List Holding)) (y0sent : List Parcel) : Option Bool :=
 Option.bind (iter F (un2 fun n_2 x_3 => if (decide (x_3 < (y0all.length : Int))) = true then (Option.bind (Option.bind (idx? y0all x_3) (fun x_6 => Option.bind (region_Get_S F x_6 1) (fun x_7 => if ((decide (x_7.Phase = 1)) || (decide (x_7.Phase = 2))) = true then (if (decide (x_7.Data ≠ y0last)) = true then (some (.inr false)) else (some (.inl (IntKind.i64.wrap (n_2 + 1))))) else (some (.inl n_2))))) (alt2 (fun n_5 => some (.inl (n_5, IntKind.i64.wrap (x_3 + 1)))) (fun y => some (.inr (.inr y))))) else (some (.inr (.inl n_2)))) (0, 0)) (alt2 (fun n_1 => Option.bind (region_Holder_S F y0all 1) (fun x_8 => if ((decide (1 < n_1)) || (decide (x_8 < 0))) = true then (some false) else (Option.bind (idx? y0all x_8) (fun x_9 => Option.bind (region_Get_S F x_9 1) (fun x_10 => if (decide (x_10.Phase ≠ 3)) = true then (Option.bind (gcall (decide (x_10.Data = y0last)) (skewbackref41_Holder_S F y0all 1)) (fun x_11 => some ((decide (x_10.Data = y0last)) && (decide (x_8 = x_11))))) else (Option.bind (idx? y0all x_10.Peer) (fun x_12 => Option.bind (region_Get_S F x_12 1) (fun x_13 => some (((((decide (n_1 = 0)) && (decide (x_10.Data = y0last))) && (decide (x_13.Phase = 4))) && (decide (x_13.Epoch = x_10.Epoch))) && (decide (x_13.Data = y0last))))))))))) (fun y => some y))
theorem skewbacklaw41_yard_safe_spec {F : Nat} {y0last : Str} {y0all : List (List Holding)} {y0sent : List Parcel} {r : Bool} (h : skewbacklaw41_yard_safe_S F y0last y0all y0sent = some r) : Meets Try.prog 14 [(1, .xbox 40 [.row 2, .row 3, .one (.str y0last)]), (2, .row 42 1 (y0all.map (eL 5 eHolding))), (3, .row 45 6 (y0sent.map eParcel))] [.ptr 1 0] (Is [(1, .xbox 40 [.row 2, .row 3, .one (.str y0last)]), (2, .row 42 1 (y0all.map (eL 5 eHolding))), (3, .row 45 6 (y0sent.map eParcel))] (.b (.one (.bool r)))) := by
  unfold skewbacklaw41_yard_safe_S at h
  refine Meets.intro 118 Try.func14 Try.ntmps14 rfl (by simp) fun E => ?_
  show Tri _ E ⟨118, [1], [1, 2, 3]⟩ _ ⟨[(0, .b (.ptr 1 0))], [(1, .xbox 40 [.row 2, .row 3, .one (.str y0last)]), (2, .row 42 1 (y0all.map (eL 5 eHolding))), (3, .row 45 6 (y0sent.map eParcel))]⟩ _
  refine Tri.seq ?_
  refine Tri.regionL ?_
  refine OpsL.cons rfl (op_assign rfl) ?_
  refine OpsL.nilK [0] [1, 2, 3] (s' := ⟨[(0, .b (.ptr 1 0))], [(1, .xbox 40 [.row 2, .row 3, .one (.str y0last)]), (2, .row 42 1 (y0all.map (eL 5 eHolding))), (3, .row 45 6 (y0sent.map eParcel))]⟩) rfl ?_
  refine Tri.seq ?_
  refine Tri.regionL ?_
  refine OpsL.cons rfl (op_assign rfl) ?_
  refine OpsL.nilK [0, 3] [1, 2, 3] (s' := ⟨[(0, .b (.ptr 1 0)), (3, I 0)], [(1, .xbox 40 [.row 2, .row 3, .one (.str y0last)]), (2, .row 42 1 (y0all.map (eL 5 eHolding))), (3, .row 45 6 (y0sent.map eParcel))]⟩) rfl ?_
  obtain ⟨v1, h2, h⟩ := bnd h
  refine Tri.seqJ (v := v1) (fun (n_1 : Int) => ⟨[(0, .b (.ptr 1 0)), (3, I n_1)], [(1, .xbox 40 [.row 2, .row 3, .one (.str y0last)]), (2, .row 42 1 (y0all.map (eL 5 eHolding))), (3, .row 45 6 (y0sent.map eParcel))]⟩) (fun z => .inl z) ?_ ?_
  · refine Tri.seq ?_
    refine Tri.regionL ?_
    refine OpsL.cons rfl (op_move rfl) ?_
    refine OpsL.cons rfl (op_nilCheck_p rfl) ?_
    refine OpsL.cons rfl (op_field_p tyFld40_0 rfl rfl) ?_
    refine OpsL.cons rfl (op_load_x1 tyOne37 rfl rfl rfl) ?_
    refine OpsL.cons rfl (op_len_r' und37 rfl rfl (List.length_map _)) ?_
    refine OpsL.cons rfl (op_move rfl) ?_
    refine OpsL.nilK [0, 3, 13, 14, 15] [1, 2, 3] (s' := ⟨[(0, .b (.ptr 1 0)), (3, I 0), (13, .b (.row 2)), (14, I (y0all.length : Int)), (15, I 0)], [(1, .xbox 40 [.row 2, .row 3, .one (.str y0last)]), (2, .row 42 1 (y0all.map (eL 5 eHolding))), (3, .row 45 6 (y0sent.map eParcel))]⟩) rfl ?_
    refine Tri.block ?_
    refine Tri.loopJ h2 (un2 fun (n_2 : Int) (x_3 : Int) => ⟨[(0, .b (.ptr 1 0)), (3, I n_2), (13, .b (.row 2)), (14, I (y0all.length : Int)), (15, I x_3)], [(1, .xbox 40 [.row 2, .row 3, .one (.str y0last)]), (2, .row 42 1 (y0all.map (eL 5 eHolding))), (3, .row 45 6 (y0sent.map eParcel))]⟩) [0, 3, 13, 14, 15] [1, 2, 3] rfl ?_
    rintro ⟨n_2, x_3⟩ o3 h4 hy5
    refine Tri.seq ?_
    refine Tri.regionL ?_
    refine OpsL.cons rfl (op_lss rfl rfl) ?_
    refine OpsL.nilK [0, 3, 13, 14, 15, 16] [1, 2, 3] (s' := ⟨[(0, .b (.ptr 1 0)), (3, I n_2), (13, .b (.row 2)), (14, I (y0all.length : Int)), (15, I x_3), (16, B (decide (x_3 < (y0all.length : Int))))], [(1, .xbox 40 [.row 2, .row 3, .one (.str y0last)]), (2, .row 42 1 (y0all.map (eL 5 eHolding))), (3, .row 45 6 (y0sent.map eParcel))]⟩) rfl ?_
    refine Tri.seq ?_
    refine Tri.ite h4 rfl (fun _ h4 => ?_) (fun _ h4 => ?_)
    · refine Tri.skip ?_
      refine Fin.keep [0, 3, 13, 14, 15] [1, 2, 3] (s' := ⟨[(0, .b (.ptr 1 0)), (3, I n_2), (13, .b (.row 2)), (14, I (y0all.length : Int)), (15, I x_3)], [(1, .xbox 40 [.row 2, .row 3, .one (.str y0last)]), (2, .row 42 1 (y0all.map (eL 5 eHolding))), (3, .row 45 6 (y0sent.map eParcel))]⟩) rfl ?_
      refine Fin.then ?_
      obtain ⟨v6, h7, h4⟩ := bnd h4
      refine Tri.seqJ (v := v6) (fun (n_5 : Int) => ⟨[(0, .b (.ptr 1 0)), (3, I n_5), (13, .b (.row 2)), (14, I (y0all.length : Int)), (15, I x_3)], [(1, .xbox 40 [.row 2, .row 3, .one (.str y0last)]), (2, .row 42 1 (y0all.map (eL 5 eHolding))), (3, .row 45 6 (y0sent.map eParcel))]⟩) (fun z => .inl z) ?_ ?_
      · refine Tri.block ?_
        refine Tri.seq ?_
        refine Tri.regionL ?_
        obtain ⟨x_6, e8, h7⟩ := bnd h7
        refine OpsL.cons rfl (op_index_r tySl37 (ix_lo e8) (ix_lt' e8) rfl rfl rfl rfl) ?_
        refine OpsL.cons rfl (op_load_r1 (i := (x_3 : Int).toNat) (f := 0) tyOne42 rfl rfl rfl (ix_map (e := (eL 5 eHolding)) e8) rfl) ?_
        refine OpsL.cons rfl (op_assign rfl) ?_
        refine OpsL.nilK [0, 3, 5, 13, 14, 15] [1, 2, 3] (s' := ⟨[(0, .b (.ptr 1 0)), (3, I n_2), (5, .b (.one (.sl 5 (x_6.map eHolding)))), (13, .b (.row 2)), (14, I (y0all.length : Int)), (15, I x_3)], [(1, .xbox 40 [.row 2, .row 3, .one (.str y0last)]), (2, .row 42 1 (y0all.map (eL 5 eHolding))), (3, .row 45 6 (y0sent.map eParcel))]⟩) rfl ?_
        refine Tri.seq ?_
        refine Tri.regionL ?_
        refine OpsL.cons rfl (op_move rfl) ?_
        obtain ⟨x_7, e9, h7⟩ := bnd h7
        refine OpsL.cons rfl (op_call0 (region_Get_spec e9) goes30 rfl rfl) ?_
        refine OpsL.cons rfl (op_alloc (k := 101) tyZero59 rfl) ?_
        refine OpsL.cons rfl (op_store_p tyAgg59 rfl rfl rfl rfl (Nat.le_of_ble_eq_true rfl) rfl) ?_
        refine OpsL.nilK [0, 3, 6, 13, 14, 15] [1, 2, 3, 101] (s' := ⟨[(0, .b (.ptr 1 0)), (3, I n_2), (6, .b (.ptr 101 0)), (13, .b (.row 2)), (14, I (y0all.length : Int)), (15, I x_3)], [(1, .xbox 40 [.row 2, .row 3, .one (.str y0last)]), (2, .row 42 1 (y0all.map (eL 5 eHolding))), (3, .row 45 6 (y0sent.map eParcel)), (101, .box 59 [.i x_7.Body, .i x_7.Epoch, .i x_7.Phase, .i x_7.Peer, .str x_7.Data])]⟩) rfl ?_
        refine Tri.seq ?_
        refine Tri.regionL ?_
        refine OpsL.cons rfl (op_field_p tyFld59_2 rfl rfl) ?_
        refine OpsL.cons rfl (op_load_p1 tyOne3 rfl rfl rfl) ?_
        refine OpsL.cons rfl (op_eql rfl rfl) ?_
        refine OpsL.cons rfl (op_move rfl) ?_
        refine OpsL.consG (!(decide (x_7.Phase = 1))) 99 [] (.plain rfl) (eq_f _) rfl rfl (fun g10 => trivial) (fun g10 => op_field_p tyFld59_2 rfl rfl) ?_
        refine OpsL.consG (!(decide (x_7.Phase = 1))) 99 [25] (.plain rfl) (eq_f _) rfl rfl (fun g11 => ⟨g11, trivial⟩) (fun g11 => op_load_p1 tyOne3 rfl rfl rfl) ?_
        refine OpsL.consG (!(decide (x_7.Phase = 1))) 99 [26] (.plain rfl) (eq_f _) rfl rfl (fun g12 => ⟨g12, trivial⟩) (fun g12 => op_eql rfl rfl) ?_
        refine OpsL.cons rfl (op_pick_or (fun e => by rw [e]; rfl) rfl rfl rfl rfl) ?_
        refine OpsL.nilK [0, 3, 6, 13, 14, 15, 28] [1, 2, 3, 101] (s' := ⟨[(0, .b (.ptr 1 0)), (3, I n_2), (6, .b (.ptr 101 0)), (13, .b (.row 2)), (14, I (y0all.length : Int)), (15, I x_3), (28, B ((decide (x_7.Phase = 1)) || (decide (x_7.Phase = 2))))], [(1, .xbox 40 [.row 2, .row 3, .one (.str y0last)]), (2, .row 42 1 (y0all.map (eL 5 eHolding))), (3, .row 45 6 (y0sent.map eParcel)), (101, .box 59 [.i x_7.Body, .i x_7.Epoch, .i x_7.Phase, .i x_7.Peer, .str x_7.Data])]⟩) rfl ?_
        refine Tri.ite h7 rfl (fun _ h7 => ?_) (fun _ h7 => ?_)
        · refine Tri.seq ?_
          refine Tri.regionL ?_
          refine OpsL.cons rfl (op_move rfl) ?_
          refine OpsL.cons rfl (op_add rfl rfl) ?_
          refine OpsL.cons rfl (op_assign rfl) ?_
          refine OpsL.nilK [0, 3, 6, 13, 14, 15] [1, 2, 3, 101] (s' := ⟨[(0, .b (.ptr 1 0)), (3, I (IntKind.i64.wrap (n_2 + 1))), (6, .b (.ptr 101 0)), (13, .b (.row 2)), (14, I (y0all.length : Int)), (15, I x_3)], [(1, .xbox 40 [.row 2, .row 3, .one (.str y0last)]), (2, .row 42 1 (y0all.map (eL 5 eHolding))), (3, .row 45 6 (y0sent.map eParcel)), (101, .box 59 [.i x_7.Body, .i x_7.Epoch, .i x_7.Phase, .i x_7.Peer, .str x_7.Data])]⟩) rfl ?_
          refine Tri.seq ?_
          refine Tri.keep [0, 3, 6, 13, 14, 15] [1, 2, 3, 101] (s' := ⟨[(0, .b (.ptr 1 0)), (3, I (IntKind.i64.wrap (n_2 + 1))), (6, .b (.ptr 101 0)), (13, .b (.row 2)), (14, I (y0all.length : Int)), (15, I x_3)], [(1, .xbox 40 [.row 2, .row 3, .one (.str y0last)]), (2, .row 42 1 (y0all.map (eL 5 eHolding))), (3, .row 45 6 (y0sent.map eParcel)), (101, .box 59 [.i x_7.Body, .i x_7.Epoch, .i x_7.Phase, .i x_7.Peer, .str x_7.Data])]⟩) rfl ?_
          refine Tri.regionD mixed [.b (.ptr 101 4), .b (.one (.str x_7.Data)), .b (.ptr 1 0), .b (.ptr 1 0), .b (.ptr 1 2), .b (.one (.str y0last)), B (decide (x_7.Data ≠ y0last))] [0, 3, 13, 14, 15, 37] [1, 2, 3] (s' := ⟨[(0, .b (.ptr 1 0)), (3, I (IntKind.i64.wrap (n_2 + 1))), (13, .b (.row 2)), (14, I (y0all.length : Int)), (15, I x_3), (37, B (decide (x_7.Data ≠ y0last)))], [(1, .xbox 40 [.row 2, .row 3, .one (.str y0last)]), (2, .row 42 1 (y0all.map (eL 5 eHolding))), (3, .row 45 6 (y0sent.map eParcel))]⟩) rfl ⟨fun _ => .plain rfl (op_field_p tyFld59_4 rfl rfl), fun _ => .plain rfl (op_load_p1 tyOne9 rfl rfl rfl), fun _ => .plain rfl (op_move rfl), fun _ => .plain rfl (op_nilCheck_p rfl), fun _ => .plain rfl (op_field_p tyFld40_2 rfl rfl), fun _ => .plain rfl (op_load_x1 tyOne9 rfl rfl rfl), fun _ => .plain rfl (op_neq_str rfl rfl), trivial⟩ rfl ?_
          refine Tri.ite h7 rfl (fun _ h7 => ?_) (fun _ h7 => ?_)
          · refine Tri.seq ?_
            refine Tri.regionL ?_
            refine OpsL.cons rfl (op_assign rfl) ?_
            refine OpsL.nilK [2] [1, 2, 3] (s' := ⟨[(2, B false)], [(1, .xbox 40 [.row 2, .row 3, .one (.str y0last)]), (2, .row 42 1 (y0all.map (eL 5 eHolding))), (3, .row 45 6 (y0sent.map eParcel))]⟩) rfl ?_
            refine Tri.ret ?_
            refine Fin.block_ret ?_
            obtain rfl := Option.some.inj h7
            refine Fin.then_ret ?_
            obtain rfl := hy5 _ (Option.some.inj h4).symm
            refine Fin.then_ret ?_
            refine Fin.block_ret ?_
            refine Fin.then_ret ?_
            obtain rfl := Option.some.inj h
            refine Fin.keep [2] [1, 2, 3] (s' := ⟨[(2, B false)], [(1, .xbox 40 [.row 2, .row 3, .one (.str y0last)]), (2, .row 42 1 (y0all.map (eL 5 eHolding))), (3, .row 45 6 (y0sent.map eParcel))]⟩) rfl ?_
            refine Fin.keep [2] [1, 2, 3] (s' := ⟨[(2, B false)], [(1, .xbox 40 [.row 2, .row 3, .one (.str y0last)]), (2, .row 42 1 (y0all.map (eL 5 eHolding))), (3, .row 45 6 (y0sent.map eParcel))]⟩) rfl ?_
            exact Fin.result [.one (.bool false)] (.inl rfl) rfl (.cons (.tmp rfl) .nil) ⟨rfl, rfl⟩
          · refine Tri.skip ?_
            refine Fin.block_normal ?_
            exact Fin.join [0, 3, 13, 14, 15] [1, 2, 3] (IntKind.i64.wrap (n_2 + 1)) (Option.some.inj h7) rfl
        · refine Tri.skip ?_
          refine Fin.block_normal ?_
          exact Fin.join [0, 3, 13, 14, 15] [1, 2, 3] n_2 (Option.some.inj h7) rfl
      · rintro n_5 hv
        subst v6
        refine Tri.regionL ?_
        refine OpsL.cons rfl (op_add rfl rfl) ?_
        refine OpsL.cons rfl (op_move rfl) ?_
        refine OpsL.nil ?_
        exact Fin.againJ [0, 3, 13, 14, 15] [1, 2, 3] (n_5, IntKind.i64.wrap (x_3 + 1)) (Option.some.inj h4) rfl
    · refine Tri.exit ?_
      refine Fin.then_exit ?_
      obtain rfl := hy5 _ (Option.some.inj h4).symm
      refine Fin.then_exit ?_
      refine Fin.block_exit ?_
      exact Fin.join [0, 3] [1, 2, 3] n_2 rfl rfl
  · rintro n_1 hv
    subst v1
    refine Tri.seq ?_
    refine Tri.regionL ?_
    refine OpsL.cons rfl (op_move rfl) ?_
    refine OpsL.cons rfl (op_nilCheck_p rfl) ?_
    refine OpsL.cons rfl (op_field_p tyFld40_0 rfl rfl) ?_
    refine OpsL.cons rfl (op_load_x1 tyOne37 rfl rfl rfl) ?_
    obtain ⟨x_8, e13, h⟩ := bnd h
    refine OpsL.cons rfl (op_callB (region_Holder_spec e13) goes39 rfl CP.flat_int) ?_
    refine OpsL.cons rfl (op_assign rfl) ?_
    refine OpsL.nilK [0, 3, 7] [1, 2, 3] (s' := ⟨[(0, .b (.ptr 1 0)), (3, I n_1), (7, I x_8)], [(1, .xbox 40 [.row 2, .row 3, .one (.str y0last)]), (2, .row 42 1 (y0all.map (eL 5 eHolding))), (3, .row 45 6 (y0sent.map eParcel))]⟩) rfl ?_
    refine Tri.seq ?_
    refine Tri.seq ?_
    refine Tri.regionL ?_
    refine OpsL.cons rfl (op_move rfl) ?_
    refine OpsL.cons rfl (op_gtr rfl rfl) ?_
    refine OpsL.cons rfl (op_move rfl) ?_
    refine OpsL.consG (!(decide (1 < n_1))) 99 [] (.plain rfl) (eq_f _) rfl rfl (fun g14 => trivial) (fun g14 => op_move rfl) ?_
    refine OpsL.consG (!(decide (1 < n_1))) 99 [47] (.plain rfl) (eq_f _) rfl rfl (fun g15 => ⟨g15, trivial⟩) (fun g15 => op_lss rfl rfl) ?_
    refine OpsL.cons rfl (op_pick_or (fun e => by rw [e]; rfl) rfl rfl rfl rfl) ?_
    refine OpsL.nilK [0, 3, 7, 49] [1, 2, 3] (s' := ⟨[(0, .b (.ptr 1 0)), (3, I n_1), (7, I x_8), (49, B ((decide (1 < n_1)) || (decide (x_8 < 0))))], [(1, .xbox 40 [.row 2, .row 3, .one (.str y0last)]), (2, .row 42 1 (y0all.map (eL 5 eHolding))), (3, .row 45 6 (y0sent.map eParcel))]⟩) rfl ?_
    refine Tri.ite h rfl (fun _ h => ?_) (fun _ h => ?_)
    · refine Tri.seq ?_
      refine Tri.regionL ?_
      refine OpsL.cons rfl (op_assign rfl) ?_
      refine OpsL.nilK [2] [1, 2, 3] (s' := ⟨[(2, B false)], [(1, .xbox 40 [.row 2, .row 3, .one (.str y0last)]), (2, .row 42 1 (y0all.map (eL 5 eHolding))), (3, .row 45 6 (y0sent.map eParcel))]⟩) rfl ?_
      refine Tri.ret ?_
      refine Fin.then_ret ?_
      obtain rfl := Option.some.inj h
      refine Fin.keep [2] [1, 2, 3] (s' := ⟨[(2, B false)], [(1, .xbox 40 [.row 2, .row 3, .one (.str y0last)]), (2, .row 42 1 (y0all.map (eL 5 eHolding))), (3, .row 45 6 (y0sent.map eParcel))]⟩) rfl ?_
      refine Fin.keep [2] [1, 2, 3] (s' := ⟨[(2, B false)], [(1, .xbox 40 [.row 2, .row 3, .one (.str y0last)]), (2, .row 42 1 (y0all.map (eL 5 eHolding))), (3, .row 45 6 (y0sent.map eParcel))]⟩) rfl ?_
      exact Fin.result [.one (.bool false)] (.inl rfl) rfl (.cons (.tmp rfl) .nil) ⟨rfl, rfl⟩
    · refine Tri.skip ?_
      refine Fin.keep [0, 3, 7] [1, 2, 3] (s' := ⟨[(0, .b (.ptr 1 0)), (3, I n_1), (7, I x_8)], [(1, .xbox 40 [.row 2, .row 3, .one (.str y0last)]), (2, .row 42 1 (y0all.map (eL 5 eHolding))), (3, .row 45 6 (y0sent.map eParcel))]⟩) rfl ?_
      refine Fin.then ?_
      refine Tri.seq ?_
      refine Tri.regionL ?_
      refine OpsL.cons rfl (op_move rfl) ?_
      refine OpsL.cons rfl (op_nilCheck_p rfl) ?_
      refine OpsL.cons rfl (op_field_p tyFld40_0 rfl rfl) ?_
      refine OpsL.cons rfl (op_load_x1 tyOne37 rfl rfl rfl) ?_
      refine OpsL.cons rfl (op_move rfl) ?_
      obtain ⟨x_9, e16, h⟩ := bnd h
      refine OpsL.cons rfl (op_index_r tySl37 (ix_lo e16) (ix_lt' e16) rfl rfl rfl rfl) ?_
      refine OpsL.cons rfl (op_load_r1 (i := (x_8 : Int).toNat) (f := 0) tyOne42 rfl rfl rfl (ix_map (e := (eL 5 eHolding)) e16) rfl) ?_
      refine OpsL.keep [0, 3, 7, 56] [1, 2, 3] (s' := ⟨[(0, .b (.ptr 1 0)), (3, I n_1), (7, I x_8), (56, .b (.one (.sl 5 (x_9.map eHolding))))], [(1, .xbox 40 [.row 2, .row 3, .one (.str y0last)]), (2, .row 42 1 (y0all.map (eL 5 eHolding))), (3, .row 45 6 (y0sent.map eParcel))]⟩) rfl ?_
      obtain ⟨x_10, e17, h⟩ := bnd h
      refine OpsL.cons rfl (op_call0 (region_Get_spec e17) goes30 rfl rfl) ?_
      refine OpsL.cons rfl (op_alloc (k := 102) tyZero59 rfl) ?_
      refine OpsL.cons rfl (op_store_p tyAgg59 rfl rfl rfl rfl (Nat.le_of_ble_eq_true rfl) rfl) ?_
      refine OpsL.nilK [0, 3, 7, 8] [1, 2, 3, 102] (s' := ⟨[(0, .b (.ptr 1 0)), (3, I n_1), (7, I x_8), (8, .b (.ptr 102 0))], [(1, .xbox 40 [.row 2, .row 3, .one (.str y0last)]), (2, .row 42 1 (y0all.map (eL 5 eHolding))), (3, .row 45 6 (y0sent.map eParcel)), (102, .box 59 [.i x_10.Body, .i x_10.Epoch, .i x_10.Phase, .i x_10.Peer, .str x_10.Data])]⟩) rfl ?_
      refine Tri.seq ?_
      refine Tri.seq ?_
      refine Tri.regionL ?_
      refine OpsL.cons rfl (op_field_p tyFld59_2 rfl rfl) ?_
      refine OpsL.cons rfl (op_load_p1 tyOne3 rfl rfl rfl) ?_
      refine OpsL.cons rfl (op_neq rfl rfl) ?_
      refine OpsL.nilK [0, 3, 7, 8, 60] [1, 2, 3, 102] (s' := ⟨[(0, .b (.ptr 1 0)), (3, I n_1), (7, I x_8), (8, .b (.ptr 102 0)), (60, B (decide (x_10.Phase ≠ 3)))], [(1, .xbox 40 [.row 2, .row 3, .one (.str y0last)]), (2, .row 42 1 (y0all.map (eL 5 eHolding))), (3, .row 45 6 (y0sent.map eParcel)), (102, .box 59 [.i x_10.Body, .i x_10.Epoch, .i x_10.Phase, .i x_10.Peer, .str x_10.Data])]⟩) rfl ?_
      refine Tri.ite h rfl (fun _ h => ?_) (fun _ h => ?_)
      · refine Tri.seq ?_
        refine Tri.keep [0, 7, 8] [1, 2, 3, 102] (s' := ⟨[(0, .b (.ptr 1 0)), (7, I x_8), (8, .b (.ptr 102 0))], [(1, .xbox 40 [.row 2, .row 3, .one (.str y0last)]), (2, .row 42 1 (y0all.map (eL 5 eHolding))), (3, .row 45 6 (y0sent.map eParcel)), (102, .box 59 [.i x_10.Body, .i x_10.Epoch, .i x_10.Phase, .i x_10.Peer, .str x_10.Data])]⟩) rfl ?_
        obtain ⟨x_11, e24, h⟩ := bnd h
        refine Tri.regionD mixed [.b (.ptr 102 4), .b (.one (.str x_10.Data)), .b (.ptr 1 0), .b (.ptr 1 0), .b (.ptr 1 2), .b (.one (.str y0last)), B (decide (x_10.Data = y0last)), B (decide (x_10.Data = y0last)), .opt (decide (x_10.Data = y0last)) (.one (.i x_8)), .opt (decide (x_10.Data = y0last)) (.ptr 1 0), .opt (decide (x_10.Data = y0last)) (.ptr 1 0), .opt (decide (x_10.Data = y0last)) (.ptr 1 0), .opt (decide (x_10.Data = y0last)) (.row 2), .opt (decide (x_10.Data = y0last)) (.one (.i x_11)), .opt (decide (x_10.Data = y0last)) (.one (.bool (decide (x_8 = x_11)))), B ((decide (x_10.Data = y0last)) && (decide (x_8 = x_11))), B ((decide (x_10.Data = y0last)) && (decide (x_8 = x_11)))] [2] [1, 2, 3] (s' := ⟨[(2, B ((decide (x_10.Data = y0last)) && (decide (x_8 = x_11))))], [(1, .xbox 40 [.row 2, .row 3, .one (.str y0last)]), (2, .row 42 1 (y0all.map (eL 5 eHolding))), (3, .row 45 6 (y0sent.map eParcel))]⟩) rfl ⟨fun _ => .plain rfl (op_field_p tyFld59_4 rfl rfl), fun _ => .plain rfl (op_load_p1 tyOne9 rfl rfl rfl), fun _ => .plain rfl (op_move rfl), fun _ => .plain rfl (op_nilCheck_p rfl), fun _ => .plain rfl (op_field_p tyFld40_2 rfl rfl), fun _ => .plain rfl (op_load_x1 tyOne9 rfl rfl rfl), fun _ => .plain rfl (op_eql_str rfl rfl), fun _ => .plain rfl (op_move rfl), fun _ => by exact .guard (decide (x_10.Data = y0last)) 1 [] (.plain rfl) (eq_t _) rfl rfl (fun g18 => trivial) (fun g18 => op_move rfl), fun _ => by exact .guard (decide (x_10.Data = y0last)) 1 [] (.plain rfl) (eq_t _) rfl rfl (fun g19 => trivial) (fun g19 => op_move rfl), fun _ => by exact .guard (decide (x_10.Data = y0last)) 2 [70] (.plain rfl) (eq_t _) rfl rfl (fun g20 => ⟨g20, trivial⟩) (fun g20 => op_nilCheck_p rfl), fun _ => by exact .guard (decide (x_10.Data = y0last)) 2 [71] (.plain rfl) (eq_t _) rfl rfl (fun g21 => ⟨g21, trivial⟩) (fun g21 => op_field_p tyFld40_0 rfl rfl), fun _ => by exact .guard (decide (x_10.Data = y0last)) 2 [72] (.plain rfl) (eq_t _) rfl rfl (fun g22 => ⟨g22, trivial⟩) (fun g22 => op_load_x1 tyOne37 rfl rfl rfl), fun _ => by exact .guard (decide (x_10.Data = y0last)) 3 [73] (.plain rfl) (eq_t _) rfl rfl (fun g23 => ⟨g23, trivial⟩) (fun g23 => op_callB (skewbackref41_Holder_spec (gc e24 g23)) goes41 rfl CP.flat_int), fun _ => by exact .guard (decide (x_10.Data = y0last)) 3 [69, 74] (.plain rfl) (eq_t _) rfl rfl (fun g25 => ⟨g25, g25, trivial⟩) (fun g25 => op_eql rfl rfl), fun _ => .plain rfl (op_pick_and (fun e => e) rfl rfl rfl rfl), fun _ => .plain rfl (op_assign rfl), trivial⟩ rfl ?_
        refine Tri.ret ?_
        refine Fin.then_ret ?_
        obtain rfl := Option.some.inj h
        refine Fin.keep [2] [1, 2, 3] (s' := ⟨[(2, B ((decide (x_10.Data = y0last)) && (decide (x_8 = x_11))))], [(1, .xbox 40 [.row 2, .row 3, .one (.str y0last)]), (2, .row 42 1 (y0all.map (eL 5 eHolding))), (3, .row 45 6 (y0sent.map eParcel))]⟩) rfl ?_
        refine Fin.keep [2] [1, 2, 3] (s' := ⟨[(2, B ((decide (x_10.Data = y0last)) && (decide (x_8 = x_11))))], [(1, .xbox 40 [.row 2, .row 3, .one (.str y0last)]), (2, .row 42 1 (y0all.map (eL 5 eHolding))), (3, .row 45 6 (y0sent.map eParcel))]⟩) rfl ?_
        exact Fin.result [.one (.bool ((decide (x_10.Data = y0last)) && (decide (x_8 = x_11))))] (.inl rfl) rfl (.cons (.tmp rfl) .nil) ⟨rfl, rfl⟩
      · refine Tri.skip ?_
        refine Fin.keep [0, 3, 8] [1, 2, 3, 102] (s' := ⟨[(0, .b (.ptr 1 0)), (3, I n_1), (8, .b (.ptr 102 0))], [(1, .xbox 40 [.row 2, .row 3, .one (.str y0last)]), (2, .row 42 1 (y0all.map (eL 5 eHolding))), (3, .row 45 6 (y0sent.map eParcel)), (102, .box 59 [.i x_10.Body, .i x_10.Epoch, .i x_10.Phase, .i x_10.Peer, .str x_10.Data])]⟩) rfl ?_
        refine Fin.then ?_
        refine Tri.seq ?_
        refine Tri.keep [0, 3, 8] [1, 2, 3, 102] (s' := ⟨[(0, .b (.ptr 1 0)), (3, I n_1), (8, .b (.ptr 102 0))], [(1, .xbox 40 [.row 2, .row 3, .one (.str y0last)]), (2, .row 42 1 (y0all.map (eL 5 eHolding))), (3, .row 45 6 (y0sent.map eParcel)), (102, .box 59 [.i x_10.Body, .i x_10.Epoch, .i x_10.Phase, .i x_10.Peer, .str x_10.Data])]⟩) rfl ?_
        obtain ⟨x_12, e26, h⟩ := bnd h
        obtain ⟨x_13, e27, h⟩ := bnd h
        refine Tri.regionW mixed [false, false, false, false, false, false, false, false, false, true, true] [.b (.ptr 1 0), .b (.ptr 1 0), .b (.ptr 1 0), .b (.row 2), .b (.ptr 102 3), I x_10.Peer, .b (.rptr 2 ((x_10.Peer : Int).toNat * 1)), .b (.one (.sl 5 (x_12.map eHolding))), .b (.agg [.i x_13.Body, .i x_13.Epoch, .i x_13.Phase, .i x_13.Peer, .str x_13.Data]), .b (.ptr 103 0), B true] [⟨[false, false, false, false, false, false, false, false, false, false, false], [(0, .b (.ptr 1 0)), (3, I n_1), (8, .b (.ptr 102 0))], [(1, .xbox 40 [.row 2, .row 3, .one (.str y0last)]), (2, .row 42 1 (y0all.map (eL 5 eHolding))), (3, .row 45 6 (y0sent.map eParcel)), (102, .box 59 [.i x_10.Body, .i x_10.Epoch, .i x_10.Phase, .i x_10.Peer, .str x_10.Data])], [true, true, true, true, true, true, true, true, true, true, true], []⟩, ⟨[false, false, false, false, false, false, false, false, false, true, false], [(0, .b (.ptr 1 0)), (3, I n_1), (8, .b (.ptr 102 0))], [(1, .xbox 40 [.row 2, .row 3, .one (.str y0last)]), (2, .row 42 1 (y0all.map (eL 5 eHolding))), (3, .row 45 6 (y0sent.map eParcel)), (102, .box 59 [.i x_10.Body, .i x_10.Epoch, .i x_10.Phase, .i x_10.Peer, .str x_10.Data]), (103, .box 59 [.i 0, .i 0, .i 0, .i 0, .str []])], [true, true, true, true, true, true, true, true, true, true, true], [9]⟩, ⟨[false, false, false, false, false, false, false, false, false, true, true], [(0, .b (.ptr 1 0)), (3, I n_1), (8, .b (.ptr 102 0))], [(1, .xbox 40 [.row 2, .row 3, .one (.str y0last)]), (2, .row 42 1 (y0all.map (eL 5 eHolding))), (3, .row 45 6 (y0sent.map eParcel)), (102, .box 59 [.i x_10.Body, .i x_10.Epoch, .i x_10.Phase, .i x_10.Peer, .str x_10.Data]), (103, .box 59 [.i x_13.Body, .i x_13.Epoch, .i x_13.Phase, .i x_13.Peer, .str x_13.Data])], [true, true, true, true, true, true, true, true, true, true, true], [0, 1, 2, 3, 4, 5, 6, 7, 8, 9, 10]⟩] rfl (⟨by kernel_rfl, ⟨⟨.b (.ptr 1 0), fun _ => rfl, fun _ => .plain rfl (by exact op_move rfl)⟩, ⟨.b (.ptr 1 0), fun _ => rfl, fun _ => .plain rfl (by exact op_nilCheck_p rfl)⟩, ⟨.b (.ptr 1 0), fun _ => rfl, fun _ => .plain rfl (by exact op_field_p tyFld40_0 rfl rfl)⟩, ⟨.b (.row 2), fun _ => rfl, fun _ => .plain rfl (by exact op_load_x1 tyOne37 rfl rfl rfl)⟩, ⟨.b (.ptr 102 3), fun _ => rfl, fun _ => .plain rfl (by exact op_field_p tyFld59_3 rfl rfl)⟩, ⟨I x_10.Peer, fun _ => rfl, fun _ => .plain rfl (by exact op_load_p1 tyOne3 rfl rfl rfl)⟩, ⟨.b (.rptr 2 ((x_10.Peer : Int).toNat * 1)), fun _ => rfl, fun _ => .plain rfl (by exact op_index_r tySl37 (ix_lo e26) (ix_lt' e26) rfl rfl rfl rfl)⟩, ⟨.b (.one (.sl 5 (x_12.map eHolding))), fun _ => rfl, fun _ => .plain rfl (by exact op_load_r1 (i := (x_10.Peer : Int).toNat) (f := 0) tyOne42 rfl rfl rfl (ix_map (e := (eL 5 eHolding)) e26) rfl)⟩, ⟨.b (.agg [.i x_13.Body, .i x_13.Epoch, .i x_13.Phase, .i x_13.Peer, .str x_13.Data]), fun _ => rfl, fun _ => .plain rfl (by exact op_call0 (region_Get_spec e27) goes30 rfl rfl)⟩, ⟨_, some 103, .b (.ptr 103 0), rfl, fun _ => rfl, rfl, rfl, fun _ => .to (by exact .plain rfl (by exact op_alloc (k := 103) tyZero59 rfl)) (by exact rfl)⟩, trivial, trivial⟩, ⟨by kernel_rfl, ⟨⟨.b (.ptr 1 0), fun _ => rfl, fun _ => .plain rfl (by exact op_move rfl)⟩, ⟨.b (.ptr 1 0), fun _ => rfl, fun _ => .plain rfl (by exact op_nilCheck_p rfl)⟩, ⟨.b (.ptr 1 0), fun _ => rfl, fun _ => .plain rfl (by exact op_field_p tyFld40_0 rfl rfl)⟩, ⟨.b (.row 2), fun _ => rfl, fun _ => .plain rfl (by exact op_load_x1 tyOne37 rfl rfl rfl)⟩, ⟨.b (.ptr 102 3), fun _ => rfl, fun _ => .plain rfl (by exact op_field_p tyFld59_3 rfl rfl)⟩, ⟨I x_10.Peer, fun _ => rfl, fun _ => .plain rfl (by exact op_load_p1 tyOne3 rfl rfl rfl)⟩, ⟨.b (.rptr 2 ((x_10.Peer : Int).toNat * 1)), fun _ => rfl, fun _ => .plain rfl (by exact op_index_r tySl37 (ix_lo e26) (ix_lt' e26) rfl rfl rfl rfl)⟩, ⟨.b (.one (.sl 5 (x_12.map eHolding))), fun _ => rfl, fun _ => .plain rfl (by exact op_load_r1 (i := (x_10.Peer : Int).toNat) (f := 0) tyOne42 rfl rfl rfl (ix_map (e := (eL 5 eHolding)) e26) rfl)⟩, ⟨.b (.agg [.i x_13.Body, .i x_13.Epoch, .i x_13.Phase, .i x_13.Peer, .str x_13.Data]), fun _ => rfl, fun _ => .plain rfl (by exact op_call0 (region_Get_spec e27) goes30 rfl rfl)⟩, trivial, ⟨_, none, .b (.one .any), rfl, (fun e => by simp at e), rfl, rfl, fun _ => .to (by exact .plain rfl (by exact op_store_p tyAgg59 rfl rfl rfl rfl (Nat.le_of_ble_eq_true rfl) rfl)) (by exact rfl)⟩, trivial⟩, ⟨by kernel_rfl, ⟨trivial, trivial, trivial, trivial, trivial, trivial, trivial, trivial, trivial, trivial, trivial, trivial⟩, trivial⟩⟩⟩) rfl rfl rfl [0, 3, 8, 9] [1, 2, 3, 102, 103] (s' := ⟨[(0, .b (.ptr 1 0)), (3, I n_1), (8, .b (.ptr 102 0)), (9, .b (.ptr 103 0))], [(1, .xbox 40 [.row 2, .row 3, .one (.str y0last)]), (2, .row 42 1 (y0all.map (eL 5 eHolding))), (3, .row 45 6 (y0sent.map eParcel)), (102, .box 59 [.i x_10.Body, .i x_10.Epoch, .i x_10.Phase, .i x_10.Peer, .str x_10.Data]), (103, .box 59 [.i x_13.Body, .i x_13.Epoch, .i x_13.Phase, .i x_13.Peer, .str x_13.Data])]⟩) rfl ?_
        refine Tri.seq ?_
        refine Tri.keep [0, 3, 8, 9] [1, 2, 3, 102, 103] (s' := ⟨[(0, .b (.ptr 1 0)), (3, I n_1), (8, .b (.ptr 102 0)), (9, .b (.ptr 103 0))], [(1, .xbox 40 [.row 2, .row 3, .one (.str y0last)]), (2, .row 42 1 (y0all.map (eL 5 eHolding))), (3, .row 45 6 (y0sent.map eParcel)), (102, .box 59 [.i x_10.Body, .i x_10.Epoch, .i x_10.Phase, .i x_10.Peer, .str x_10.Data]), (103, .box 59 [.i x_13.Body, .i x_13.Epoch, .i x_13.Phase, .i x_13.Peer, .str x_13.Data])]⟩) rfl ?_
        refine Tri.regionD mixed [I n_1, B (decide (n_1 = 0)), B (decide (n_1 = 0)), .opt (decide (n_1 = 0)) (.ptr 102 4), .opt (decide (n_1 = 0)) (.one (.str x_10.Data)), .opt (decide (n_1 = 0)) (.ptr 1 0), .opt (decide (n_1 = 0)) (.ptr 1 0), .opt (decide (n_1 = 0)) (.ptr 1 2), .opt (decide (n_1 = 0)) (.one (.str y0last)), .opt (decide (n_1 = 0)) (.one (.bool (decide (x_10.Data = y0last)))), B ((decide (n_1 = 0)) && (decide (x_10.Data = y0last))), B ((decide (n_1 = 0)) && (decide (x_10.Data = y0last))), .opt ((decide (n_1 = 0)) && (decide (x_10.Data = y0last))) (.ptr 103 2), .opt ((decide (n_1 = 0)) && (decide (x_10.Data = y0last))) (.one (.i x_13.Phase)), .opt ((decide (n_1 = 0)) && (decide (x_10.Data = y0last))) (.one (.bool (decide (x_13.Phase = 4)))), B (((decide (n_1 = 0)) && (decide (x_10.Data = y0last))) && (decide (x_13.Phase = 4))), B (((decide (n_1 = 0)) && (decide (x_10.Data = y0last))) && (decide (x_13.Phase = 4))), .opt (((decide (n_1 = 0)) && (decide (x_10.Data = y0last))) && (decide (x_13.Phase = 4))) (.ptr 103 1), .opt (((decide (n_1 = 0)) && (decide (x_10.Data = y0last))) && (decide (x_13.Phase = 4))) (.one (.i x_13.Epoch)), .opt (((decide (n_1 = 0)) && (decide (x_10.Data = y0last))) && (decide (x_13.Phase = 4))) (.ptr 102 1), .opt (((decide (n_1 = 0)) && (decide (x_10.Data = y0last))) && (decide (x_13.Phase = 4))) (.one (.i x_10.Epoch)), .opt (((decide (n_1 = 0)) && (decide (x_10.Data = y0last))) && (decide (x_13.Phase = 4))) (.one (.bool (decide (x_13.Epoch = x_10.Epoch)))), B ((((decide (n_1 = 0)) && (decide (x_10.Data = y0last))) && (decide (x_13.Phase = 4))) && (decide (x_13.Epoch = x_10.Epoch))), B ((((decide (n_1 = 0)) && (decide (x_10.Data = y0last))) && (decide (x_13.Phase = 4))) && (decide (x_13.Epoch = x_10.Epoch))), .opt ((((decide (n_1 = 0)) && (decide (x_10.Data = y0last))) && (decide (x_13.Phase = 4))) && (decide (x_13.Epoch = x_10.Epoch))) (.ptr 103 4), .opt ((((decide (n_1 = 0)) && (decide (x_10.Data = y0last))) && (decide (x_13.Phase = 4))) && (decide (x_13.Epoch = x_10.Epoch))) (.one (.str x_13.Data)), .opt ((((decide (n_1 = 0)) && (decide (x_10.Data = y0last))) && (decide (x_13.Phase = 4))) && (decide (x_13.Epoch = x_10.Epoch))) (.ptr 1 0), .opt ((((decide (n_1 = 0)) && (decide (x_10.Data = y0last))) && (decide (x_13.Phase = 4))) && (decide (x_13.Epoch = x_10.Epoch))) (.ptr 1 0), .opt ((((decide (n_1 = 0)) && (decide (x_10.Data = y0last))) && (decide (x_13.Phase = 4))) && (decide (x_13.Epoch = x_10.Epoch))) (.ptr 1 2), .opt ((((decide (n_1 = 0)) && (decide (x_10.Data = y0last))) && (decide (x_13.Phase = 4))) && (decide (x_13.Epoch = x_10.Epoch))) (.one (.str y0last)), .opt ((((decide (n_1 = 0)) && (decide (x_10.Data = y0last))) && (decide (x_13.Phase = 4))) && (decide (x_13.Epoch = x_10.Epoch))) (.one (.bool (decide (x_13.Data = y0last)))), B (((((decide (n_1 = 0)) && (decide (x_10.Data = y0last))) && (decide (x_13.Phase = 4))) && (decide (x_13.Epoch = x_10.Epoch))) && (decide (x_13.Data = y0last))), B (((((decide (n_1 = 0)) && (decide (x_10.Data = y0last))) && (decide (x_13.Phase = 4))) && (decide (x_13.Epoch = x_10.Epoch))) && (decide (x_13.Data = y0last)))] [2] [1, 2, 3] (s' := ⟨[(2, B (((((decide (n_1 = 0)) && (decide (x_10.Data = y0last))) && (decide (x_13.Phase = 4))) && (decide (x_13.Epoch = x_10.Epoch))) && (decide (x_13.Data = y0last))))], [(1, .xbox 40 [.row 2, .row 3, .one (.str y0last)]), (2, .row 42 1 (y0all.map (eL 5 eHolding))), (3, .row 45 6 (y0sent.map eParcel))]⟩) rfl ⟨fun _ => .plain rfl (op_move rfl), fun _ => .plain rfl (op_eql rfl rfl), fun _ => .plain rfl (op_move rfl), fun _ => by exact .guard (decide (n_1 = 0)) 1 [] (.plain rfl) (eq_t _) rfl rfl (fun g28 => trivial) (fun g28 => op_field_p tyFld59_4 rfl rfl), fun _ => by exact .guard (decide (n_1 = 0)) 2 [89] (.plain rfl) (eq_t _) rfl rfl (fun g29 => ⟨g29, trivial⟩) (fun g29 => op_load_p1 tyOne9 rfl rfl rfl), fun _ => by exact .guard (decide (n_1 = 0)) 1 [] (.plain rfl) (eq_t _) rfl rfl (fun g30 => trivial) (fun g30 => op_move rfl), fun _ => by exact .guard (decide (n_1 = 0)) 2 [91] (.plain rfl) (eq_t _) rfl rfl (fun g31 => ⟨g31, trivial⟩) (fun g31 => op_nilCheck_p rfl), fun _ => by exact .guard (decide (n_1 = 0)) 2 [92] (.plain rfl) (eq_t _) rfl rfl (fun g32 => ⟨g32, trivial⟩) (fun g32 => op_field_p tyFld40_2 rfl rfl), fun _ => by exact .guard (decide (n_1 = 0)) 2 [93] (.plain rfl) (eq_t _) rfl rfl (fun g33 => ⟨g33, trivial⟩) (fun g33 => op_load_x1 tyOne9 rfl rfl rfl), fun _ => by exact .guard (decide (n_1 = 0)) 3 [90, 94] (.plain rfl) (eq_t _) rfl rfl (fun g34 => ⟨g34, g34, trivial⟩) (fun g34 => op_eql_str rfl rfl), fun _ => .plain rfl (op_pick_and (fun e => e) rfl rfl rfl rfl), fun _ => .plain rfl (op_move rfl), fun _ => by exact .guard ((decide (n_1 = 0)) && (decide (x_10.Data = y0last))) 1 [] (.plain rfl) (eq_t _) rfl rfl (fun g35 => trivial) (fun g35 => op_field_p tyFld59_2 rfl rfl), fun _ => by exact .guard ((decide (n_1 = 0)) && (decide (x_10.Data = y0last))) 2 [98] (.plain rfl) (eq_t _) rfl rfl (fun g36 => ⟨g36, trivial⟩) (fun g36 => op_load_p1 tyOne3 rfl rfl rfl), fun _ => by exact .guard ((decide (n_1 = 0)) && (decide (x_10.Data = y0last))) 2 [99] (.plain rfl) (eq_t _) rfl rfl (fun g37 => ⟨g37, trivial⟩) (fun g37 => op_eql rfl rfl), fun _ => .plain rfl (op_pick_and (fun e => e) rfl rfl rfl rfl), fun _ => .plain rfl (op_move rfl), fun _ => by exact .guard (((decide (n_1 = 0)) && (decide (x_10.Data = y0last))) && (decide (x_13.Phase = 4))) 1 [] (.plain rfl) (eq_t _) rfl rfl (fun g38 => trivial) (fun g38 => op_field_p tyFld59_1 rfl rfl), fun _ => by exact .guard (((decide (n_1 = 0)) && (decide (x_10.Data = y0last))) && (decide (x_13.Phase = 4))) 2 [103] (.plain rfl) (eq_t _) rfl rfl (fun g39 => ⟨g39, trivial⟩) (fun g39 => op_load_p1 tyOne3 rfl rfl rfl), fun _ => by exact .guard (((decide (n_1 = 0)) && (decide (x_10.Data = y0last))) && (decide (x_13.Phase = 4))) 1 [] (.plain rfl) (eq_t _) rfl rfl (fun g40 => trivial) (fun g40 => op_field_p tyFld59_1 rfl rfl), fun _ => by exact .guard (((decide (n_1 = 0)) && (decide (x_10.Data = y0last))) && (decide (x_13.Phase = 4))) 2 [105] (.plain rfl) (eq_t _) rfl rfl (fun g41 => ⟨g41, trivial⟩) (fun g41 => op_load_p1 tyOne3 rfl rfl rfl), fun _ => by exact .guard (((decide (n_1 = 0)) && (decide (x_10.Data = y0last))) && (decide (x_13.Phase = 4))) 3 [104, 106] (.plain rfl) (eq_t _) rfl rfl (fun g42 => ⟨g42, g42, trivial⟩) (fun g42 => op_eql rfl rfl), fun _ => .plain rfl (op_pick_and (fun e => e) rfl rfl rfl rfl), fun _ => .plain rfl (op_move rfl), fun _ => by exact .guard ((((decide (n_1 = 0)) && (decide (x_10.Data = y0last))) && (decide (x_13.Phase = 4))) && (decide (x_13.Epoch = x_10.Epoch))) 1 [] (.plain rfl) (eq_t _) rfl rfl (fun g43 => trivial) (fun g43 => op_field_p tyFld59_4 rfl rfl), fun _ => by exact .guard ((((decide (n_1 = 0)) && (decide (x_10.Data = y0last))) && (decide (x_13.Phase = 4))) && (decide (x_13.Epoch = x_10.Epoch))) 2 [110] (.plain rfl) (eq_t _) rfl rfl (fun g44 => ⟨g44, trivial⟩) (fun g44 => op_load_p1 tyOne9 rfl rfl rfl), fun _ => by exact .guard ((((decide (n_1 = 0)) && (decide (x_10.Data = y0last))) && (decide (x_13.Phase = 4))) && (decide (x_13.Epoch = x_10.Epoch))) 1 [] (.plain rfl) (eq_t _) rfl rfl (fun g45 => trivial) (fun g45 => op_move rfl), fun _ => by exact .guard ((((decide (n_1 = 0)) && (decide (x_10.Data = y0last))) && (decide (x_13.Phase = 4))) && (decide (x_13.Epoch = x_10.Epoch))) 2 [112] (.plain rfl) (eq_t _) rfl rfl (fun g46 => ⟨g46, trivial⟩) (fun g46 => op_nilCheck_p rfl), fun _ => by exact .guard ((((decide (n_1 = 0)) && (decide (x_10.Data = y0last))) && (decide (x_13.Phase = 4))) && (decide (x_13.Epoch = x_10.Epoch))) 2 [113] (.plain rfl) (eq_t _) rfl rfl (fun g47 => ⟨g47, trivial⟩) (fun g47 => op_field_p tyFld40_2 rfl rfl), fun _ => by exact .guard ((((decide (n_1 = 0)) && (decide (x_10.Data = y0last))) && (decide (x_13.Phase = 4))) && (decide (x_13.Epoch = x_10.Epoch))) 2 [114] (.plain rfl) (eq_t _) rfl rfl (fun g48 => ⟨g48, trivial⟩) (fun g48 => op_load_x1 tyOne9 rfl rfl rfl), fun _ => by exact .guard ((((decide (n_1 = 0)) && (decide (x_10.Data = y0last))) && (decide (x_13.Phase = 4))) && (decide (x_13.Epoch = x_10.Epoch))) 3 [111, 115] (.plain rfl) (eq_t _) rfl rfl (fun g49 => ⟨g49, g49, trivial⟩) (fun g49 => op_eql_str rfl rfl), fun _ => .plain rfl (op_pick_and (fun e => e) rfl rfl rfl rfl), fun _ => .plain rfl (op_assign rfl), trivial⟩ rfl ?_
        refine Tri.ret ?_
        obtain rfl := Option.some.inj h
        refine Fin.keep [2] [1, 2, 3] (s' := ⟨[(2, B (((((decide (n_1 = 0)) && (decide (x_10.Data = y0last))) && (decide (x_13.Phase = 4))) && (decide (x_13.Epoch = x_10.Epoch))) && (decide (x_13.Data = y0last))))], [(1, .xbox 40 [.row 2, .row 3, .one (.str y0last)]), (2, .row 42 1 (y0all.map (eL 5 eHolding))), (3, .row 45 6 (y0sent.map eParcel))]⟩) rfl ?_
        refine Fin.keep [2] [1, 2, 3] (s' := ⟨[(2, B (((((decide (n_1 = 0)) && (decide (x_10.Data = y0last))) && (decide (x_13.Phase = 4))) && (decide (x_13.Epoch = x_10.Epoch))) && (decide (x_13.Data = y0last))))], [(1, .xbox 40 [.row 2, .row 3, .one (.str y0last)]), (2, .row 42 1 (y0all.map (eL 5 eHolding))), (3, .row 45 6 (y0sent.map eParcel))]⟩) rfl ?_
        exact Fin.result [.one (.bool (((((decide (n_1 = 0)) && (decide (x_10.Data = y0last))) && (decide (x_13.Phase = 4))) && (decide (x_13.Epoch = x_10.Epoch))) && (decide (x_13.Data = y0last))))] (.inl rfl) rfl (.cons (.tmp rfl) .nil) ⟨rfl, rfl⟩

def skewbacklaw41_RegionIsSafe_S (F : Nat) (n0 : Int) (l0 : List ROp) : Option Bool :=
 if (decide (80 < (l0.length : Int))) = true then (Option.bind (skewbacklaw41_sanity_S F) (fun x_1 => some x_1)) else (letN (IntKind.i64.wrap (2 + (Int.tmod (IntKind.i64.wrap n0) 3))) fun x_2 => Option.bind (skewbacklaw41_began_S F x_2) (un4 fun x_3 x_4 x_5 x_6 => if (!x_3) = true then (some false) else (Option.bind (iter F (un4 fun all_7 sent_8 last_9 x_10 => if (decide (x_10 < (l0.length : Int))) = true then (Option.bind (idx? l0 x_10) (fun x_11 => Option.bind (skewbacklaw41_yard_do_S F x_11 last_9 all_7 sent_8) (un3 fun x_12 x_13 x_14 => Option.bind (skewbacklaw41_yard_safe_S F x_12 x_13 x_14) (fun x_15 => if (!x_15) = true then (some (.inr (.inr false))) else (some (.inl (x_13, x_14, x_12, IntKind.i64.wrap (x_10 + 1)))))))) else (some (.inr (.inl ())))) (x_5, x_6, x_4, 0)) (alt2 (fun _ => Option.bind (skewbacklaw41_sanity_S F) (fun x_16 => some x_16)) (fun y => some y)))))
theorem skewbacklaw41_RegionIsSafe_spec {F : Nat} {n0 : Int} {l0 : List ROp} {r : Bool} (h : skewbacklaw41_RegionIsSafe_S F n0 l0 = some r) : Meets Try.prog 4 [] [.one (.int .u8 n0), .one (.sl 4 (l0.map eROp))] (Is [] (.b (.one (.bool r)))) := by
  unfold skewbacklaw41_RegionIsSafe_S at h
  refine Meets.intro 37 Try.func4 Try.ntmps4 rfl (by simp) fun E => ?_
  show Tri _ E ⟨37, [], []⟩ _ ⟨[(0, .b (.one (.int .u8 n0))), (1, .b (.one (.sl 4 (l0.map eROp))))], []⟩ _
  refine Tri.seq ?_
  refine Tri.regionL ?_
  refine OpsL.cons rfl (op_assign rfl) ?_
  refine OpsL.nilK [0, 1] [] (s' := ⟨[(0, .b (.one (.int .u8 n0))), (1, .b (.one (.sl 4 (l0.map eROp))))], []⟩) rfl ?_
  refine Tri.seq ?_
  refine Tri.seq ?_
  refine Tri.regionL ?_
  refine OpsL.cons rfl (op_move rfl) ?_
  refine OpsL.cons rfl (op_len_e' und28 rfl (List.length_map _)) ?_
  refine OpsL.cons rfl (op_gtr rfl rfl) ?_
  refine OpsL.nilK [0, 1, 11] [] (s' := ⟨[(0, .b (.one (.int .u8 n0))), (1, .b (.one (.sl 4 (l0.map eROp)))), (11, B (decide (80 < (l0.length : Int))))], []⟩) rfl ?_
  refine Tri.ite h rfl (fun _ h => ?_) (fun _ h => ?_)
  · refine Tri.seq ?_
    refine Tri.regionL ?_
    obtain ⟨x_1, e1, h⟩ := bnd h
    refine OpsL.cons rfl (op_call0 (skewbacklaw41_sanity_spec e1) goes7 rfl rfl) ?_
    refine OpsL.cons rfl (op_assign rfl) ?_
    refine OpsL.nilK [4] [] (s' := ⟨[(4, B x_1)], []⟩) rfl ?_
    refine Tri.ret ?_
    refine Fin.then_ret ?_
    obtain rfl := Option.some.inj h
    refine Fin.keep [4] [] (s' := ⟨[(4, B x_1)], []⟩) rfl ?_
    refine Fin.result' [.one (.bool x_1)] (.inl rfl) rfl (.cons (.tmp rfl) .nil) ⟨rfl, rfl⟩
  · refine Tri.skip ?_
    refine Fin.keep [0, 1] [] (s' := ⟨[(0, .b (.one (.int .u8 n0))), (1, .b (.one (.sl 4 (l0.map eROp))))], []⟩) rfl ?_
    refine Fin.then ?_
    refine Tri.seq ?_
    refine Tri.regionL ?_
    refine OpsL.cons rfl (op_move rfl) ?_
    refine OpsL.cons rfl (op_conv_wrap undi5 undi3 rfl) ?_
    refine OpsL.cons rfl (op_rem (by decide) rfl rfl) ?_
    refine OpsL.consI .i64 h rfl (op_add rfl rfl) (fun x_2 h => ?_)
    obtain ⟨⟨x_3, x_4, x_5, x_6⟩, e2, h⟩ := bnd h
    refine OpsL.cons rfl (op_call (own_a := []) ((((skewbacklaw41_began_spec e2).sw 60 101).sw 61 102).sw 62 103) goes12 rfl trivial rfl rfl) ?_
    refine OpsL.keep [1, 18] [101, 102, 103] (s' := ⟨[(1, .b (.one (.sl 4 (l0.map eROp)))), (18, .tup [.ptr 101 0, .one (.bool x_3)])], [(101, .xbox 40 [.row 102, .row 103, .one (.str x_4)]), (102, .row 42 1 (x_5.map (eL 5 eHolding))), (103, .row 45 6 (x_6.map eParcel))]⟩) rfl ?_
    refine OpsL.cons rfl (op_move rfl) ?_
    refine OpsL.cons rfl (op_extract rfl rfl) ?_
    refine OpsL.cons rfl (op_extract rfl rfl) ?_
    refine OpsL.cons rfl (op_assign rfl) ?_
    refine OpsL.cons rfl (op_assign rfl) ?_
    refine OpsL.nilK [1, 5, 6] [101, 102, 103] (s' := ⟨[(1, .b (.one (.sl 4 (l0.map eROp)))), (5, .b (.ptr 101 0)), (6, B x_3)], [(101, .xbox 40 [.row 102, .row 103, .one (.str x_4)]), (102, .row 42 1 (x_5.map (eL 5 eHolding))), (103, .row 45 6 (x_6.map eParcel))]⟩) rfl ?_
    refine Tri.seq ?_
    refine Tri.seq ?_
    refine Tri.regionL ?_
    refine OpsL.cons rfl (op_move rfl) ?_
    refine OpsL.cons rfl (op_not rfl) ?_
    refine OpsL.nilK [1, 5, 22] [101, 102, 103] (s' := ⟨[(1, .b (.one (.sl 4 (l0.map eROp)))), (5, .b (.ptr 101 0)), (22, B (!x_3))], [(101, .xbox 40 [.row 102, .row 103, .one (.str x_4)]), (102, .row 42 1 (x_5.map (eL 5 eHolding))), (103, .row 45 6 (x_6.map eParcel))]⟩) rfl ?_
    refine Tri.ite h rfl (fun _ h => ?_) (fun _ h => ?_)
    · refine Tri.seq ?_
      refine Tri.regionL ?_
      refine OpsL.cons rfl (op_assign rfl) ?_
      refine OpsL.nilK [4] [] (s' := ⟨[(4, B false)], []⟩) rfl ?_
      refine Tri.ret ?_
      refine Fin.then_ret ?_
      obtain rfl := Option.some.inj h
      refine Fin.keep [4] [] (s' := ⟨[(4, B false)], []⟩) rfl ?_
      refine Fin.result' [.one (.bool false)] (.inl rfl) rfl (.cons (.tmp rfl) .nil) ⟨rfl, rfl⟩
    · refine Tri.skip ?_
      refine Fin.keep [1, 5] [101, 102, 103] (s' := ⟨[(1, .b (.one (.sl 4 (l0.map eROp)))), (5, .b (.ptr 101 0))], [(101, .xbox 40 [.row 102, .row 103, .one (.str x_4)]), (102, .row 42 1 (x_5.map (eL 5 eHolding))), (103, .row 45 6 (x_6.map eParcel))]⟩) rfl ?_
      refine Fin.then ?_
      obtain ⟨v3, h4, h⟩ := bnd h
      refine Tri.seqJ (v := v3) (fun (_ : Unit) => ⟨[], []⟩) (fun z => .inl z) ?_ ?_
      · refine Tri.seq ?_
        refine Tri.regionL ?_
        refine OpsL.cons rfl (op_move rfl) ?_
        refine OpsL.cons rfl (op_len_e' und28 rfl (List.length_map _)) ?_
        refine OpsL.cons rfl (op_move rfl) ?_
        refine OpsL.nilK [5, 23, 24, 25] [101, 102, 103] (s' := ⟨[(5, .b (.ptr 101 0)), (23, .b (.one (.sl 4 (l0.map eROp)))), (24, I (l0.length : Int)), (25, I 0)], [(101, .xbox 40 [.row 102, .row 103, .one (.str x_4)]), (102, .row 42 1 (x_5.map (eL 5 eHolding))), (103, .row 45 6 (x_6.map eParcel))]⟩) rfl ?_
        refine Tri.block ?_
        refine Tri.loopJ h4 (un4 fun (all_7 : List (List Holding)) (sent_8 : List Parcel) (last_9 : Str) (x_10 : Int) => ⟨[(5, .b (.ptr 101 0)), (23, .b (.one (.sl 4 (l0.map eROp)))), (24, I (l0.length : Int)), (25, I x_10)], [(101, .xbox 40 [.row 102, .row 103, .one (.str last_9)]), (102, .row 42 1 (all_7.map (eL 5 eHolding))), (103, .row 45 6 (sent_8.map eParcel))]⟩) [5, 23, 24, 25] [101, 102, 103] rfl ?_
        rintro ⟨all_7, sent_8, last_9, x_10⟩ o5 h6 hy7
        refine Tri.seq ?_
        refine Tri.regionL ?_
        refine OpsL.cons rfl (op_lss rfl rfl) ?_
        refine OpsL.nilK [5, 23, 24, 25, 26] [101, 102, 103] (s' := ⟨[(5, .b (.ptr 101 0)), (23, .b (.one (.sl 4 (l0.map eROp)))), (24, I (l0.length : Int)), (25, I x_10), (26, B (decide (x_10 < (l0.length : Int))))], [(101, .xbox 40 [.row 102, .row 103, .one (.str last_9)]), (102, .row 42 1 (all_7.map (eL 5 eHolding))), (103, .row 45 6 (sent_8.map eParcel))]⟩) rfl ?_
        refine Tri.seq ?_
        refine Tri.ite h6 rfl (fun _ h6 => ?_) (fun _ h6 => ?_)
        · refine Tri.skip ?_
          refine Fin.keep [5, 23, 24, 25] [101, 102, 103] (s' := ⟨[(5, .b (.ptr 101 0)), (23, .b (.one (.sl 4 (l0.map eROp)))), (24, I (l0.length : Int)), (25, I x_10)], [(101, .xbox 40 [.row 102, .row 103, .one (.str last_9)]), (102, .row 42 1 (all_7.map (eL 5 eHolding))), (103, .row 45 6 (sent_8.map eParcel))]⟩) rfl ?_
          refine Fin.then ?_
          refine Tri.seq ?_
          refine Tri.block ?_
          refine Tri.seq ?_
          refine Tri.regionL ?_
          obtain ⟨x_11, e8, h6⟩ := bnd h6
          refine OpsL.cons rfl (op_index_e tySl28 (ix_lo e8) (ix_map (e := eROp) e8) rfl rfl) ?_
          refine OpsL.cons rfl (op_load_e tyAgg33 rfl rfl rfl) ?_
          refine OpsL.cons rfl (op_alloc (k := 104) tyZero33 rfl) ?_
          refine OpsL.cons rfl (op_store_p tyAgg33 rfl rfl rfl rfl (Nat.le_of_ble_eq_true rfl) rfl) ?_
          refine OpsL.nilK [5, 8, 23, 24, 25] [101, 102, 103, 104] (s' := ⟨[(5, .b (.ptr 101 0)), (8, .b (.ptr 104 0)), (23, .b (.one (.sl 4 (l0.map eROp)))), (24, I (l0.length : Int)), (25, I x_10)], [(101, .xbox 40 [.row 102, .row 103, .one (.str last_9)]), (102, .row 42 1 (all_7.map (eL 5 eHolding))), (103, .row 45 6 (sent_8.map eParcel)), (104, .box 33 [.i x_11.Kind, .i x_11.Node, .i x_11.To, .i x_11.N])]⟩) rfl ?_
          refine Tri.seq ?_
          refine Tri.regionL ?_
          refine OpsL.cons rfl (op_move rfl) ?_
          refine OpsL.cons rfl (op_load_p tyAgg33 rfl rfl rfl rfl) ?_
          obtain ⟨⟨x_12, x_13, x_14⟩, e9, h6⟩ := bnd h6
          refine OpsL.cons rfl (op_call (own_a := [(101, _), (102, _), (103, _)]) ((((skewbacklaw41_yard_do_spec e9).sw 1 101).sw 2 102).sw 3 103) goes13 rfl ⟨rfl, rfl, rfl, trivial⟩ rfl rfl) ?_
          refine OpsL.nilK [5, 23, 24, 25] [101, 102, 103] (s' := ⟨[(5, .b (.ptr 101 0)), (23, .b (.one (.sl 4 (l0.map eROp)))), (24, I (l0.length : Int)), (25, I x_10)], [(101, .xbox 40 [.row 102, .row 103, .one (.str x_12)]), (102, .row 42 1 (x_13.map (eL 5 eHolding))), (103, .row 45 6 (x_14.map eParcel))]⟩) rfl ?_
          refine Tri.seq ?_
          refine Tri.regionL ?_
          refine OpsL.cons rfl (op_move rfl) ?_
          obtain ⟨x_15, e10, h6⟩ := bnd h6
          refine OpsL.cons rfl (op_call (own_a := [(101, _), (102, _), (103, _)]) ((((skewbacklaw41_yard_safe_spec e10).sw 1 101).sw 2 102).sw 3 103) goes14 rfl ⟨rfl, rfl, rfl, trivial⟩ rfl rfl) ?_
          refine OpsL.cons rfl (op_not rfl) ?_
          refine OpsL.nilK [5, 23, 24, 25, 34] [101, 102, 103] (s' := ⟨[(5, .b (.ptr 101 0)), (23, .b (.one (.sl 4 (l0.map eROp)))), (24, I (l0.length : Int)), (25, I x_10), (34, B (!x_15))], [(101, .xbox 40 [.row 102, .row 103, .one (.str x_12)]), (102, .row 42 1 (x_13.map (eL 5 eHolding))), (103, .row 45 6 (x_14.map eParcel))]⟩) rfl ?_
          refine Tri.ite h6 rfl (fun _ h6 => ?_) (fun _ h6 => ?_)
          · refine Tri.seq ?_
            refine Tri.regionL ?_
            refine OpsL.cons rfl (op_assign rfl) ?_
            refine OpsL.nilK [4] [] (s' := ⟨[(4, B false)], []⟩) rfl ?_
            refine Tri.ret ?_
            refine Fin.block_ret ?_
            refine Fin.then_ret ?_
            obtain rfl := hy7 _ (Option.some.inj h6).symm
            refine Fin.then_ret ?_
            refine Fin.block_ret ?_
            refine Fin.then_ret ?_
            obtain rfl := Option.some.inj h
            refine Fin.keep [4] [] (s' := ⟨[(4, B false)], []⟩) rfl ?_
            refine Fin.result' [.one (.bool false)] (.inl rfl) rfl (.cons (.tmp rfl) .nil) ⟨rfl, rfl⟩
          · refine Tri.skip ?_
            refine Fin.block_normal ?_
            refine Fin.keep [5, 23, 24, 25] [101, 102, 103] (s' := ⟨[(5, .b (.ptr 101 0)), (23, .b (.one (.sl 4 (l0.map eROp)))), (24, I (l0.length : Int)), (25, I x_10)], [(101, .xbox 40 [.row 102, .row 103, .one (.str x_12)]), (102, .row 42 1 (x_13.map (eL 5 eHolding))), (103, .row 45 6 (x_14.map eParcel))]⟩) rfl ?_
            refine Fin.then ?_
            refine Tri.regionL ?_
            refine OpsL.cons rfl (op_add rfl rfl) ?_
            refine OpsL.cons rfl (op_move rfl) ?_
            refine OpsL.nil ?_
            exact Fin.againJ [5, 23, 24, 25] [101, 102, 103] (x_13, x_14, x_12, IntKind.i64.wrap (x_10 + 1)) (Option.some.inj h6) rfl
        · refine Tri.exit ?_
          refine Fin.then_exit ?_
          obtain rfl := hy7 _ (Option.some.inj h6).symm
          refine Fin.then_exit ?_
          refine Fin.block_exit ?_
          exact Fin.join [] [] () rfl rfl
      · rintro _ hv
        subst v3
        refine Tri.seq ?_
        refine Tri.regionL ?_
        obtain ⟨x_16, e11, h⟩ := bnd h
        refine OpsL.cons rfl (op_call0 (skewbacklaw41_sanity_spec e11) goes7 rfl rfl) ?_
        refine OpsL.cons rfl (op_assign rfl) ?_
        refine OpsL.nilK [4] [] (s' := ⟨[(4, B x_16)], []⟩) rfl ?_
        refine Tri.ret ?_
        obtain rfl := Option.some.inj h
        refine Fin.keep [4] [] (s' := ⟨[(4, B x_16)], []⟩) rfl ?_
        refine Fin.result' [.one (.bool x_16)] (.inl rfl) rfl (.cons (.tmp rfl) .nil) ⟨rfl, rfl⟩

def skewbacklaw41_yard_done_S (F : Nat) (y0last : Str) (y0all : List (List Holding)) (y0sent : List Parcel) : Option Bool :=
 Option.bind (iter F (un2 fun n_2 x_3 => if (decide (x_3 < (y0all.length : Int))) = true then (Option.bind (Option.bind (idx? y0all x_3) (fun x_6 => Option.bind (region_Get_S F x_6 1) (fun x_7 => Option.bind (if (decide (x_7.Phase = 2)) = true then (some (decide (x_7.Phase = 2))) else (some (decide (x_7.Phase = 3)))) (fun x_8 => if x_8 = true then (some (.inr false)) else (if (decide (x_7.Phase = 1)) = true then (if (decide (x_7.Data ≠ y0last)) = true then (some (.inr false)) else (some (.inl (IntKind.i64.wrap (n_2 + 1))))) else (some (.inl n_2))))))) (alt2 (fun n_5 => some (.inl (n_5, IntKind.i64.wrap (x_3 + 1)))) (fun y => some (.inr (.inr y))))) else (some (.inr (.inl n_2)))) (0, 0)) (alt2 (fun n_1 => some (decide (n_1 = 1))) (fun y => some y))
theorem skewbacklaw41_yard_done_spec {F : Nat} {y0last : Str} {y0all : List (List Holding)} {y0sent : List Parcel} {r : Bool} (h : skewbacklaw41_yard_done_S F y0last y0all y0sent = some r) : Meets Try.prog 17 [(1, .xbox 40 [.row 2, .row 3, .one (.str y0last)]), (2, .row 42 1 (y0all.map (eL 5 eHolding))), (3, .row 45 6 (y0sent.map eParcel))] [.ptr 1 0] (Is [(1, .xbox 40 [.row 2, .row 3, .one (.str y0last)]), (2, .row 42 1 (y0all.map (eL 5 eHolding))), (3, .row 45 6 (y0sent.map eParcel))] (.b (.one (.bool r)))) := by
  unfold skewbacklaw41_yard_done_S at h
  refine Meets.intro 37 Try.func17 Try.ntmps17 rfl (by simp) fun E => ?_
  show Tri _ E ⟨37, [1], [1, 2, 3]⟩ _ ⟨[(0, .b (.ptr 1 0))], [(1, .xbox 40 [.row 2, .row 3, .one (.str y0last)]), (2, .row 42 1 (y0all.map (eL 5 eHolding))), (3, .row 45 6 (y0sent.map eParcel))]⟩ _
  refine Tri.seq ?_
  refine Tri.regionL ?_
  refine OpsL.cons rfl (op_assign rfl) ?_
  refine OpsL.nilK [0] [1, 2, 3] (s' := ⟨[(0, .b (.ptr 1 0))], [(1, .xbox 40 [.row 2, .row 3, .one (.str y0last)]), (2, .row 42 1 (y0all.map (eL 5 eHolding))), (3, .row 45 6 (y0sent.map eParcel))]⟩) rfl ?_
  refine Tri.seq ?_
  refine Tri.regionL ?_
  refine OpsL.cons rfl (op_assign rfl) ?_
  refine OpsL.nilK [0, 3] [1, 2, 3] (s' := ⟨[(0, .b (.ptr 1 0)), (3, I 0)], [(1, .xbox 40 [.row 2, .row 3, .one (.str y0last)]), (2, .row 42 1 (y0all.map (eL 5 eHolding))), (3, .row 45 6 (y0sent.map eParcel))]⟩) rfl ?_
  obtain ⟨v1, h2, h⟩ := bnd h
  refine Tri.seqJ (v := v1) (fun (n_1 : Int) => ⟨[(3, I n_1)], [(1, .xbox 40 [.row 2, .row 3, .one (.str y0last)]), (2, .row 42 1 (y0all.map (eL 5 eHolding))), (3, .row 45 6 (y0sent.map eParcel))]⟩) (fun z => .inl z) ?_ ?_
  · refine Tri.seq ?_
    refine Tri.regionL ?_
    refine OpsL.cons rfl (op_move rfl) ?_
    refine OpsL.cons rfl (op_nilCheck_p rfl) ?_
    refine OpsL.cons rfl (op_field_p tyFld40_0 rfl rfl) ?_
    refine OpsL.cons rfl (op_load_x1 tyOne37 rfl rfl rfl) ?_
    refine OpsL.cons rfl (op_len_r' und37 rfl rfl (List.length_map _)) ?_
    refine OpsL.cons rfl (op_move rfl) ?_
    refine OpsL.nilK [0, 3, 10, 11, 12] [1, 2, 3] (s' := ⟨[(0, .b (.ptr 1 0)), (3, I 0), (10, .b (.row 2)), (11, I (y0all.length : Int)), (12, I 0)], [(1, .xbox 40 [.row 2, .row 3, .one (.str y0last)]), (2, .row 42 1 (y0all.map (eL 5 eHolding))), (3, .row 45 6 (y0sent.map eParcel))]⟩) rfl ?_
    refine Tri.block ?_
    refine Tri.loopJ h2 (un2 fun (n_2 : Int) (x_3 : Int) => ⟨[(0, .b (.ptr 1 0)), (3, I n_2), (10, .b (.row 2)), (11, I (y0all.length : Int)), (12, I x_3)], [(1, .xbox 40 [.row 2, .row 3, .one (.str y0last)]), (2, .row 42 1 (y0all.map (eL 5 eHolding))), (3, .row 45 6 (y0sent.map eParcel))]⟩) [0, 3, 10, 11, 12] [1, 2, 3] rfl ?_
    rintro ⟨n_2, x_3⟩ o3 h4 hy5
    refine Tri.seq ?_
    refine Tri.regionL ?_
    refine OpsL.cons rfl (op_lss rfl rfl) ?_
    refine OpsL.nilK [0, 3, 10, 11, 12, 13] [1, 2, 3] (s' := ⟨[(0, .b (.ptr 1 0)), (3, I n_2), (10, .b (.row 2)), (11, I (y0all.length : Int)), (12, I x_3), (13, B (decide (x_3 < (y0all.length : Int))))], [(1, .xbox 40 [.row 2, .row 3, .one (.str y0last)]), (2, .row 42 1 (y0all.map (eL 5 eHolding))), (3, .row 45 6 (y0sent.map eParcel))]⟩) rfl ?_
    refine Tri.seq ?_
    refine Tri.ite h4 rfl (fun _ h4 => ?_) (fun _ h4 => ?_)
    · refine Tri.skip ?_
      refine Fin.keep [0, 3, 10, 11, 12] [1, 2, 3] (s' := ⟨[(0, .b (.ptr 1 0)), (3, I n_2), (10, .b (.row 2)), (11, I (y0all.length : Int)), (12, I x_3)], [(1, .xbox 40 [.row 2, .row 3, .one (.str y0last)]), (2, .row 42 1 (y0all.map (eL 5 eHolding))), (3, .row 45 6 (y0sent.map eParcel))]⟩) rfl ?_
      refine Fin.then ?_
      obtain ⟨v6, h7, h4⟩ := bnd h4
      refine Tri.seqJ (v := v6) (fun (n_5 : Int) => ⟨[(0, .b (.ptr 1 0)), (3, I n_5), (10, .b (.row 2)), (11, I (y0all.length : Int)), (12, I x_3)], [(1, .xbox 40 [.row 2, .row 3, .one (.str y0last)]), (2, .row 42 1 (y0all.map (eL 5 eHolding))), (3, .row 45 6 (y0sent.map eParcel))]⟩) (fun z => .inl z) ?_ ?_
      · refine Tri.block ?_
        refine Tri.seq ?_
        refine Tri.regionL ?_
        obtain ⟨x_6, e8, h7⟩ := bnd h7
        refine OpsL.cons rfl (op_index_r tySl37 (ix_lo e8) (ix_lt' e8) rfl rfl rfl rfl) ?_
        refine OpsL.cons rfl (op_load_r1 (i := (x_3 : Int).toNat) (f := 0) tyOne42 rfl rfl rfl (ix_map (e := (eL 5 eHolding)) e8) rfl) ?_
        refine OpsL.cons rfl (op_assign rfl) ?_
        refine OpsL.nilK [0, 3, 5, 10, 11, 12] [1, 2, 3] (s' := ⟨[(0, .b (.ptr 1 0)), (3, I n_2), (5, .b (.one (.sl 5 (x_6.map eHolding)))), (10, .b (.row 2)), (11, I (y0all.length : Int)), (12, I x_3)], [(1, .xbox 40 [.row 2, .row 3, .one (.str y0last)]), (2, .row 42 1 (y0all.map (eL 5 eHolding))), (3, .row 45 6 (y0sent.map eParcel))]⟩) rfl ?_
        refine Tri.seq ?_
        refine Tri.regionL ?_
        refine OpsL.cons rfl (op_move rfl) ?_
        obtain ⟨x_7, e9, h7⟩ := bnd h7
        refine OpsL.cons rfl (op_call0 (region_Get_spec e9) goes30 rfl rfl) ?_
        refine OpsL.cons rfl (op_alloc (k := 101) tyZero59 rfl) ?_
        refine OpsL.cons rfl (op_store_p tyAgg59 rfl rfl rfl rfl (Nat.le_of_ble_eq_true rfl) rfl) ?_
        refine OpsL.nilK [0, 3, 6, 10, 11, 12] [1, 2, 3, 101] (s' := ⟨[(0, .b (.ptr 1 0)), (3, I n_2), (6, .b (.ptr 101 0)), (10, .b (.row 2)), (11, I (y0all.length : Int)), (12, I x_3)], [(1, .xbox 40 [.row 2, .row 3, .one (.str y0last)]), (2, .row 42 1 (y0all.map (eL 5 eHolding))), (3, .row 45 6 (y0sent.map eParcel)), (101, .box 59 [.i x_7.Body, .i x_7.Epoch, .i x_7.Phase, .i x_7.Peer, .str x_7.Data])]⟩) rfl ?_
        refine Tri.seq ?_
        refine Tri.regionL ?_
        refine OpsL.cons rfl (op_field_p tyFld59_2 rfl rfl) ?_
        refine OpsL.cons rfl (op_load_p1 tyOne3 rfl rfl rfl) ?_
        refine OpsL.nilK [0, 3, 6, 10, 11, 12, 19] [1, 2, 3, 101] (s' := ⟨[(0, .b (.ptr 1 0)), (3, I n_2), (6, .b (.ptr 101 0)), (10, .b (.row 2)), (11, I (y0all.length : Int)), (12, I x_3), (19, I x_7.Phase)], [(1, .xbox 40 [.row 2, .row 3, .one (.str y0last)]), (2, .row 42 1 (y0all.map (eL 5 eHolding))), (3, .row 45 6 (y0sent.map eParcel)), (101, .box 59 [.i x_7.Body, .i x_7.Epoch, .i x_7.Phase, .i x_7.Peer, .str x_7.Data])]⟩) rfl ?_
        refine Tri.block ?_
        obtain ⟨v10, h11, h7⟩ := bnd h7
        refine Tri.seqJ (v := v10) (fun (x_8 : Bool) => ⟨[(0, .b (.ptr 1 0)), (3, I n_2), (6, .b (.ptr 101 0)), (10, .b (.row 2)), (11, I (y0all.length : Int)), (12, I x_3), (19, I x_7.Phase), (20, B x_8)], [(1, .xbox 40 [.row 2, .row 3, .one (.str y0last)]), (2, .row 42 1 (y0all.map (eL 5 eHolding))), (3, .row 45 6 (y0sent.map eParcel)), (101, .box 59 [.i x_7.Body, .i x_7.Epoch, .i x_7.Phase, .i x_7.Peer, .str x_7.Data])]⟩) (fun z => z) ?_ ?_
        · refine Tri.seq ?_
          refine Tri.regionL ?_
          refine OpsL.cons rfl (op_eql rfl rfl) ?_
          refine OpsL.cons rfl (op_assign rfl) ?_
          refine OpsL.nilK [0, 3, 6, 10, 11, 12, 19, 20] [1, 2, 3, 101] (s' := ⟨[(0, .b (.ptr 1 0)), (3, I n_2), (6, .b (.ptr 101 0)), (10, .b (.row 2)), (11, I (y0all.length : Int)), (12, I x_3), (19, I x_7.Phase), (20, B (decide (x_7.Phase = 2)))], [(1, .xbox 40 [.row 2, .row 3, .one (.str y0last)]), (2, .row 42 1 (y0all.map (eL 5 eHolding))), (3, .row 45 6 (y0sent.map eParcel)), (101, .box 59 [.i x_7.Body, .i x_7.Epoch, .i x_7.Phase, .i x_7.Peer, .str x_7.Data])]⟩) rfl ?_
          refine Tri.ite h11 rfl (fun _ h11 => ?_) (fun _ h11 => ?_)
          · refine Tri.skip ?_
            exact Fin.join [0, 3, 6, 10, 11, 12, 19, 20] [1, 2, 3, 101] (decide (x_7.Phase = 2)) (Option.some.inj h11) rfl
          · refine Tri.regionL ?_
            refine OpsL.cons rfl (op_eql rfl rfl) ?_
            refine OpsL.cons rfl (op_assign rfl) ?_
            refine OpsL.nil ?_
            exact Fin.join [0, 3, 6, 10, 11, 12, 19, 20] [1, 2, 3, 101] (decide (x_7.Phase = 3)) (Option.some.inj h11) rfl
        · rintro x_8 hv
          subst v10
          refine Tri.ite h7 rfl (fun _ h7 => ?_) (fun _ h7 => ?_)
          · refine Tri.seq ?_
            refine Tri.regionL ?_
            refine OpsL.cons rfl (op_assign rfl) ?_
            refine OpsL.nilK [2] [1, 2, 3] (s' := ⟨[(2, B false)], [(1, .xbox 40 [.row 2, .row 3, .one (.str y0last)]), (2, .row 42 1 (y0all.map (eL 5 eHolding))), (3, .row 45 6 (y0sent.map eParcel))]⟩) rfl ?_
            refine Tri.ret ?_
            refine Fin.block_ret ?_
            refine Fin.block_ret ?_
            obtain rfl := Option.some.inj h7
            refine Fin.then_ret ?_
            obtain rfl := hy5 _ (Option.some.inj h4).symm
            refine Fin.then_ret ?_
            refine Fin.block_ret ?_
            refine Fin.then_ret ?_
            obtain rfl := Option.some.inj h
            refine Fin.keep [2] [1, 2, 3] (s' := ⟨[(2, B false)], [(1, .xbox 40 [.row 2, .row 3, .one (.str y0last)]), (2, .row 42 1 (y0all.map (eL 5 eHolding))), (3, .row 45 6 (y0sent.map eParcel))]⟩) rfl ?_
            refine Fin.keep [2] [1, 2, 3] (s' := ⟨[(2, B false)], [(1, .xbox 40 [.row 2, .row 3, .one (.str y0last)]), (2, .row 42 1 (y0all.map (eL 5 eHolding))), (3, .row 45 6 (y0sent.map eParcel))]⟩) rfl ?_
            exact Fin.result [.one (.bool false)] (.inl rfl) rfl (.cons (.tmp rfl) .nil) ⟨rfl, rfl⟩
          · refine Tri.seq ?_
            refine Tri.regionL ?_
            refine OpsL.cons rfl (op_eql rfl rfl) ?_
            refine OpsL.cons rfl (op_assign rfl) ?_
            refine OpsL.nilK [0, 3, 6, 10, 11, 12, 23] [1, 2, 3, 101] (s' := ⟨[(0, .b (.ptr 1 0)), (3, I n_2), (6, .b (.ptr 101 0)), (10, .b (.row 2)), (11, I (y0all.length : Int)), (12, I x_3), (23, B (decide (x_7.Phase = 1)))], [(1, .xbox 40 [.row 2, .row 3, .one (.str y0last)]), (2, .row 42 1 (y0all.map (eL 5 eHolding))), (3, .row 45 6 (y0sent.map eParcel)), (101, .box 59 [.i x_7.Body, .i x_7.Epoch, .i x_7.Phase, .i x_7.Peer, .str x_7.Data])]⟩) rfl ?_
            refine Tri.ite h7 rfl (fun _ h7 => ?_) (fun _ h7 => ?_)
            · refine Tri.seq ?_
              refine Tri.regionL ?_
              refine OpsL.cons rfl (op_move rfl) ?_
              refine OpsL.cons rfl (op_add rfl rfl) ?_
              refine OpsL.cons rfl (op_assign rfl) ?_
              refine OpsL.nilK [0, 3, 6, 10, 11, 12] [1, 2, 3, 101] (s' := ⟨[(0, .b (.ptr 1 0)), (3, I (IntKind.i64.wrap (n_2 + 1))), (6, .b (.ptr 101 0)), (10, .b (.row 2)), (11, I (y0all.length : Int)), (12, I x_3)], [(1, .xbox 40 [.row 2, .row 3, .one (.str y0last)]), (2, .row 42 1 (y0all.map (eL 5 eHolding))), (3, .row 45 6 (y0sent.map eParcel)), (101, .box 59 [.i x_7.Body, .i x_7.Epoch, .i x_7.Phase, .i x_7.Peer, .str x_7.Data])]⟩) rfl ?_
              refine Tri.seq ?_
              refine Tri.keep [0, 3, 6, 10, 11, 12] [1, 2, 3, 101] (s' := ⟨[(0, .b (.ptr 1 0)), (3, I (IntKind.i64.wrap (n_2 + 1))), (6, .b (.ptr 101 0)), (10, .b (.row 2)), (11, I (y0all.length : Int)), (12, I x_3)], [(1, .xbox 40 [.row 2, .row 3, .one (.str y0last)]), (2, .row 42 1 (y0all.map (eL 5 eHolding))), (3, .row 45 6 (y0sent.map eParcel)), (101, .box 59 [.i x_7.Body, .i x_7.Epoch, .i x_7.Phase, .i x_7.Peer, .str x_7.Data])]⟩) rfl ?_
              refine Tri.regionD mixed [.b (.ptr 101 4), .b (.one (.str x_7.Data)), .b (.ptr 1 0), .b (.ptr 1 0), .b (.ptr 1 2), .b (.one (.str y0last)), B (decide (x_7.Data ≠ y0last))] [0, 3, 10, 11, 12, 33] [1, 2, 3] (s' := ⟨[(0, .b (.ptr 1 0)), (3, I (IntKind.i64.wrap (n_2 + 1))), (10, .b (.row 2)), (11, I (y0all.length : Int)), (12, I x_3), (33, B (decide (x_7.Data ≠ y0last)))], [(1, .xbox 40 [.row 2, .row 3, .one (.str y0last)]), (2, .row 42 1 (y0all.map (eL 5 eHolding))), (3, .row 45 6 (y0sent.map eParcel))]⟩) rfl ⟨fun _ => .plain rfl (op_field_p tyFld59_4 rfl rfl), fun _ => .plain rfl (op_load_p1 tyOne9 rfl rfl rfl), fun _ => .plain rfl (op_move rfl), fun _ => .plain rfl (op_nilCheck_p rfl), fun _ => .plain rfl (op_field_p tyFld40_2 rfl rfl), fun _ => .plain rfl (op_load_x1 tyOne9 rfl rfl rfl), fun _ => .plain rfl (op_neq_str rfl rfl), trivial⟩ rfl ?_
              refine Tri.ite h7 rfl (fun _ h7 => ?_) (fun _ h7 => ?_)
              · refine Tri.seq ?_
                refine Tri.regionL ?_
                refine OpsL.cons rfl (op_assign rfl) ?_
                refine OpsL.nilK [2] [1, 2, 3] (s' := ⟨[(2, B false)], [(1, .xbox 40 [.row 2, .row 3, .one (.str y0last)]), (2, .row 42 1 (y0all.map (eL 5 eHolding))), (3, .row 45 6 (y0sent.map eParcel))]⟩) rfl ?_
                refine Tri.ret ?_
                refine Fin.block_ret ?_
                refine Fin.block_ret ?_
                obtain rfl := Option.some.inj h7
                refine Fin.then_ret ?_
                obtain rfl := hy5 _ (Option.some.inj h4).symm
                refine Fin.then_ret ?_
                refine Fin.block_ret ?_
                refine Fin.then_ret ?_
                obtain rfl := Option.some.inj h
                refine Fin.keep [2] [1, 2, 3] (s' := ⟨[(2, B false)], [(1, .xbox 40 [.row 2, .row 3, .one (.str y0last)]), (2, .row 42 1 (y0all.map (eL 5 eHolding))), (3, .row 45 6 (y0sent.map eParcel))]⟩) rfl ?_
                refine Fin.keep [2] [1, 2, 3] (s' := ⟨[(2, B false)], [(1, .xbox 40 [.row 2, .row 3, .one (.str y0last)]), (2, .row 42 1 (y0all.map (eL 5 eHolding))), (3, .row 45 6 (y0sent.map eParcel))]⟩) rfl ?_
                exact Fin.result [.one (.bool false)] (.inl rfl) rfl (.cons (.tmp rfl) .nil) ⟨rfl, rfl⟩
              · refine Tri.skip ?_
                refine Fin.block_normal ?_
                refine Fin.block_normal ?_
                exact Fin.join [0, 3, 10, 11, 12] [1, 2, 3] (IntKind.i64.wrap (n_2 + 1)) (Option.some.inj h7) rfl
            · refine Tri.skip ?_
              refine Fin.block_normal ?_
              refine Fin.block_normal ?_
              exact Fin.join [0, 3, 10, 11, 12] [1, 2, 3] n_2 (Option.some.inj h7) rfl
      · rintro n_5 hv
        subst v6
        refine Tri.regionL ?_
        refine OpsL.cons rfl (op_add rfl rfl) ?_
        refine OpsL.cons rfl (op_move rfl) ?_
        refine OpsL.nil ?_
        exact Fin.againJ [0, 3, 10, 11, 12] [1, 2, 3] (n_5, IntKind.i64.wrap (x_3 + 1)) (Option.some.inj h4) rfl
    · refine Tri.exit ?_
      refine Fin.then_exit ?_
      obtain rfl := hy5 _ (Option.some.inj h4).symm
      refine Fin.then_exit ?_
      refine Fin.block_exit ?_
      exact Fin.join [3] [1, 2, 3] n_2 rfl rfl
  · rintro n_1 hv
    subst v1
    refine Tri.seq ?_
    refine Tri.regionL ?_
    refine OpsL.cons rfl (op_move rfl) ?_
    refine OpsL.cons rfl (op_eql rfl rfl) ?_
    refine OpsL.cons rfl (op_assign rfl) ?_
    refine OpsL.nilK [2] [1, 2, 3] (s' := ⟨[(2, B (decide (n_1 = 1)))], [(1, .xbox 40 [.row 2, .row 3, .one (.str y0last)]), (2, .row 42 1 (y0all.map (eL 5 eHolding))), (3, .row 45 6 (y0sent.map eParcel))]⟩) rfl ?_
    refine Tri.ret ?_
    obtain rfl := Option.some.inj h
    refine Fin.keep [2] [1, 2, 3] (s' := ⟨[(2, B (decide (n_1 = 1)))], [(1, .xbox 40 [.row 2, .row 3, .one (.str y0last)]), (2, .row 42 1 (y0all.map (eL 5 eHolding))), (3, .row 45 6 (y0sent.map eParcel))]⟩) rfl ?_
    refine Fin.keep [2] [1, 2, 3] (s' := ⟨[(2, B (decide (n_1 = 1)))], [(1, .xbox 40 [.row 2, .row 3, .one (.str y0last)]), (2, .row 42 1 (y0all.map (eL 5 eHolding))), (3, .row 45 6 (y0sent.map eParcel))]⟩) rfl ?_
    exact Fin.result [.one (.bool (decide (n_1 = 1)))] (.inl rfl) rfl (.cons (.tmp rfl) .nil) ⟨rfl, rfl⟩

end Go.Proofs.Ytipepglcceogiaa
