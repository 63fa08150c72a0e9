/- printed walks -/
import Derived.Test.YtipepglcceogiaaW2
namespace Go.Proofs.Ytipepglcceogiaa
open Go.Sk
set_option maxHeartbeats 1000000
set_option maxRecDepth 4000
set_option linter.unusedSimpArgs false
set_option linter.unusedVariables false
def skewbacklaw41_RegionStepsAsSpecified_S (F : Nat) (l0 : List Holding) (node0 : Int) (body0 : Int) (to0 : Int) (data0 : Str) (x0 : Parcel) : Option Bool :=
 Option.bind (skewbacklaw41_short_S F l0) (fun x_1 => letN (((!x_1) || (decide (100 < (data0.length : Int)))) || (decide (100 < (x0.Data.length : Int)))) fun x_2 => if x_2 = true then (Option.bind (skewbacklaw41_sanity_S F) (fun x_3 => some x_3)) else (Option.bind (region_Valid_S F l0) (fun x_4 => Option.bind (skewbackref41_Valid_S F l0) (fun x_5 => if (x_4 != x_5) = true then (some false) else (Option.bind (skewbackref41_Valid_S F l0) (fun x_6 => if (!x_6) = true then (Option.bind (skewbacklaw41_sanity_S F) (fun x_7 => some x_7)) else (Option.bind (region_Begin_S F l0 body0 data0) (un2 fun x_8 x_9 => Option.bind (region_Put_S F l0 body0 data0) (un2 fun x_10 x_11 => Option.bind (region_Offer_S F l0 node0 body0 to0) (un2 fun x_12 x_13 => Option.bind (region_Cancel_S F l0 body0) (un2 fun x_14 x_15 => Option.bind (skewbackref41_Begin_S F l0 body0 data0) (fun x_16 => Option.bind (skewbacklaw41_same_S F x_8 x_9 x_16) (fun x_17 => Option.bind (gcall (!(!x_17)) (skewbackref41_Put_S F l0 body0 data0)) (fun x_18 => Option.bind (gcall (!(!x_17)) (skewbacklaw41_same_S F x_10 x_11 x_18)) (fun x_19 => Option.bind (gcall (!((!x_17) || (!x_19))) (skewbackref41_Offer_S F l0 node0 body0 to0)) (fun x_20 => Option.bind (gcall (!((!x_17) || (!x_19))) (skewbacklaw41_same_S F x_12 x_13 x_20)) (fun x_21 => Option.bind (gcall (!(((!x_17) || (!x_19)) || (!x_21))) (skewbackref41_Cancel_S F l0 body0)) (fun x_22 => Option.bind (gcall (!(((!x_17) || (!x_19)) || (!x_21))) (skewbacklaw41_same_S F x_14 x_15 x_22)) (fun x_23 => Option.bind (gcall (!((((!x_17) || (!x_19)) || (!x_21)) || (!x_23))) (region_Get_S F l0 body0)) (fun x_24 => Option.bind (gcall (!((((!x_17) || (!x_19)) || (!x_21)) || (!x_23))) (skewbackref41_Get_S F l0 body0)) (fun x_25 => letN (((((!x_17) || (!x_19)) || (!x_21)) || (!x_23)) || (decide (x_24 ≠ x_25))) fun x_26 => if x_26 = true then (some false) else (Option.bind (region_Receive_S F l0 node0 x0) (un2 fun x_27 x_28 => Option.bind (skewbackref41_Receive_S F l0 node0 x0) (fun x_29 => Option.bind (skewbackref41_Same_S F x_27 x_29.L) (fun x_30 => Option.bind (gcall (!(!x_30)) (skewbackref41_SameLetters_S F x_28 x_29.Sent)) (fun x_31 => Option.bind (gcall (!((!x_30) || (!x_31))) (region_Letters_S F l0 node0)) (fun x_32 => Option.bind (gcall (!((!x_30) || (!x_31))) (skewbackref41_Letters_S F l0 node0)) (fun x_33 => Option.bind (gcall (!((!x_30) || (!x_31))) (skewbackref41_SameLetters_S F x_32 x_33)) (fun x_34 => if (((!x_30) || (!x_31)) || (!x_34)) = true then (some false) else (Option.bind (letN ([x_8, x_10, x_12, x_14, x_27].length : Int) fun x_35 => iter F (fun x_36 => if (decide (x_36 < x_35)) = true then (Option.bind (idx? [x_8, x_10, x_12, x_14, x_27] x_36) (fun x_37 => Option.bind (region_Valid_S F x_37) (fun x_38 => if (!x_38) = true then (some (.inr (.inr false))) else (some (.inl (IntKind.i64.wrap (x_36 + 1))))))) else (some (.inr (.inl ())))) 0) (alt2 (fun _ => Option.bind (region_Active_S F l0) (fun x_39 => Option.bind (skewbackref41_Active_S F l0) (fun x_40 => if (decide ((x_39.length : Int) ≠ (x_40.length : Int))) = true then (some false) else (Option.bind (iter F (fun x_41 => if (decide (x_41 < (x_39.length : Int))) = true then (Option.bind (idx? x_39 x_41) (fun x_42 => Option.bind (idx? x_40 x_41) (fun x_43 => if (decide (x_42 ≠ x_43)) = true then (some (.inr (.inr false))) else (some (.inl (IntKind.i64.wrap (x_41 + 1))))))) else (some (.inr (.inl ())))) 0) (alt2 (fun _ => Option.bind (region_Receive_S F x_27 node0 x0) (un2 fun x_44 x_45 => Option.bind (skewbacklaw41_sanity_S F) (fun x_46 => Option.bind (gcall x_46 (skewbackref41_Same_S F x_44 x_27)) (fun x_47 => Option.bind (gcall ((x_46 && x_47) && !(decide (x0.Kind ≠ 3))) (skewbackref41_SameLetters_S F x_28 x_45)) (fun x_48 => some ((x_46 && x_47) && ((decide (x0.Kind ≠ 3)) || x_48))))))) (fun y => some y)))))) (fun y => some y))))))))))))))))))))))))))))))))
theorem skewbacklaw41_RegionStepsAsSpecified_spec {F : Nat} {l0 : List Holding} {node0 : Int} {body0 : Int} {to0 : Int} {data0 : Str} {x0 : Parcel} {r : Bool} (h : skewbacklaw41_RegionStepsAsSpecified_S F l0 node0 body0 to0 data0 x0 = some r) : Meets Try.prog 6 [] [.one (.sl 5 (l0.map eHolding)), .one (.i node0), .one (.i body0), .one (.i to0), .one (.str data0), .agg (eParcel x0)] (Is [] (.b (.one (.bool r)))) := by
  unfold skewbacklaw41_RegionStepsAsSpecified_S at h
  refine Meets.intro 225 Try.func6 Try.ntmps6 rfl (by simp) fun E => ?_
  show Tri _ E ⟨225, [], []⟩ _ ⟨[(0, .b (.one (.sl 5 (l0.map eHolding)))), (1, I node0), (2, I body0), (3, I to0), (4, .b (.one (.str data0))), (5, .b (.agg [.i x0.From, .i x0.To, .i x0.Kind, .i x0.Body, .i x0.Epoch, .str x0.Data]))], []⟩ _
  refine Tri.seq ?_
  refine Tri.regionL ?_
  refine OpsL.cons rfl (op_box (k := 101) rfl rfl) ?_
  refine OpsL.cons rfl (op_assign rfl) ?_
  refine OpsL.nilK [0, 1, 2, 3, 4, 11] [101] (s' := ⟨[(0, .b (.one (.sl 5 (l0.map eHolding)))), (1, I node0), (2, I body0), (3, I to0), (4, .b (.one (.str data0))), (11, .b (.ptr 101 0))], [(101, .box 45 [.i x0.From, .i x0.To, .i x0.Kind, .i x0.Body, .i x0.Epoch, .str x0.Data])]⟩) rfl ?_
  refine Tri.seq ?_
  refine Tri.seq ?_
  refine Tri.regionL ?_
  refine OpsL.cons rfl (op_move rfl) ?_
  obtain ⟨x_1, e1, h⟩ := bnd h
  refine OpsL.cons rfl (op_call0 (skewbacklaw41_short_spec e1) goes18 rfl rfl) ?_
  refine OpsL.cons rfl (op_not rfl) ?_
  refine OpsL.cons rfl (op_move rfl) ?_
  refine OpsL.consG (!(!x_1)) 99 [] (.plain rfl) (eq_f _) rfl rfl (fun g2 => trivial) (fun g2 => op_move rfl) ?_
  refine OpsL.keep [0, 1, 2, 3, 4, 11, 34, 35] [101] (s' := ⟨[(0, .b (.one (.sl 5 (l0.map eHolding)))), (1, I node0), (2, I body0), (3, I to0), (4, .b (.one (.str data0))), (11, .b (.ptr 101 0)), (34, B (!x_1)), (35, .opt (!(!x_1)) (.one (.str data0)))], [(101, .box 45 [.i x0.From, .i x0.To, .i x0.Kind, .i x0.Body, .i x0.Epoch, .str x0.Data])]⟩) rfl ?_
  refine OpsL.consG (!(!x_1)) 99 [35] (.plain rfl) (eq_f _) rfl rfl (fun g3 => ⟨g3, trivial⟩) (fun g3 => op_len_str und9 rfl) ?_
  refine OpsL.consG (!(!x_1)) 99 [36] (.plain rfl) (eq_f _) rfl rfl (fun g4 => ⟨g4, trivial⟩) (fun g4 => op_gtr rfl rfl) ?_
  refine OpsL.cons rfl (op_pick_or (fun e => by rw [e]; rfl) rfl rfl rfl rfl) ?_
  refine OpsL.cons rfl (op_move rfl) ?_
  refine OpsL.consG (!((!x_1) || (decide (100 < (data0.length : Int))))) 99 [] (.plain rfl) (eq_f _) rfl rfl (fun g5 => trivial) (fun g5 => op_field_p tyFld45_5 rfl rfl) ?_
  refine OpsL.consG (!((!x_1) || (decide (100 < (data0.length : Int))))) 99 [40] (.plain rfl) (eq_f _) rfl rfl (fun g6 => ⟨g6, trivial⟩) (fun g6 => op_load_p1 tyOne9 rfl rfl rfl) ?_
  refine OpsL.consG (!((!x_1) || (decide (100 < (data0.length : Int))))) 99 [41] (.plain rfl) (eq_f _) rfl rfl (fun g7 => ⟨g7, trivial⟩) (fun g7 => op_len_str und9 rfl) ?_
  refine OpsL.consG (!((!x_1) || (decide (100 < (data0.length : Int))))) 99 [42] (.plain rfl) (eq_f _) rfl rfl (fun g8 => ⟨g8, trivial⟩) (fun g8 => op_gtr rfl rfl) ?_
  refine OpsL.consB h rfl (op_pick_or (fun e => by rw [e]; rfl) rfl rfl rfl rfl) (fun x_2 h => ?_)
  refine OpsL.nilK [0, 1, 2, 3, 4, 11, 44] [101] (s' := ⟨[(0, .b (.one (.sl 5 (l0.map eHolding)))), (1, I node0), (2, I body0), (3, I to0), (4, .b (.one (.str data0))), (11, .b (.ptr 101 0)), (44, B x_2)], [(101, .box 45 [.i x0.From, .i x0.To, .i x0.Kind, .i x0.Body, .i x0.Epoch, .str x0.Data])]⟩) rfl ?_
  refine Tri.ite h rfl (fun _ h => ?_) (fun _ h => ?_)
  · refine Tri.seq ?_
    refine Tri.regionL ?_
    obtain ⟨x_3, e9, h⟩ := bnd h
    refine OpsL.cons rfl (op_call0 (skewbacklaw41_sanity_spec e9) goes7 rfl rfl) ?_
    refine OpsL.cons rfl (op_assign rfl) ?_
    refine OpsL.nilK [12] [] (s' := ⟨[(12, B x_3)], []⟩) rfl ?_
    refine Tri.ret ?_
    refine Fin.then_ret ?_
    obtain rfl := Option.some.inj h
    refine Fin.keep [12] [] (s' := ⟨[(12, B x_3)], []⟩) rfl ?_
    refine Fin.result' [.one (.bool x_3)] (.inl rfl) rfl (.cons (.tmp rfl) .nil) ⟨rfl, rfl⟩
  · refine Tri.skip ?_
    refine Fin.keep [0, 1, 2, 3, 4, 11] [101] (s' := ⟨[(0, .b (.one (.sl 5 (l0.map eHolding)))), (1, I node0), (2, I body0), (3, I to0), (4, .b (.one (.str data0))), (11, .b (.ptr 101 0))], [(101, .box 45 [.i x0.From, .i x0.To, .i x0.Kind, .i x0.Body, .i x0.Epoch, .str x0.Data])]⟩) rfl ?_
    refine Fin.then ?_
    refine Tri.seq ?_
    refine Tri.seq ?_
    refine Tri.regionL ?_
    refine OpsL.cons rfl (op_move rfl) ?_
    obtain ⟨x_4, e10, h⟩ := bnd h
    refine OpsL.cons rfl (op_call0 (region_Valid_spec e10) goes19 rfl rfl) ?_
    refine OpsL.cons rfl (op_move rfl) ?_
    obtain ⟨x_5, e11, h⟩ := bnd h
    refine OpsL.cons rfl (op_call0 (skewbackref41_Valid_spec e11) goes20 rfl rfl) ?_
    refine OpsL.cons rfl (op_neq_bool und4 rfl rfl) ?_
    refine OpsL.nilK [0, 1, 2, 3, 4, 11, 50] [101] (s' := ⟨[(0, .b (.one (.sl 5 (l0.map eHolding)))), (1, I node0), (2, I body0), (3, I to0), (4, .b (.one (.str data0))), (11, .b (.ptr 101 0)), (50, B (x_4 != x_5))], [(101, .box 45 [.i x0.From, .i x0.To, .i x0.Kind, .i x0.Body, .i x0.Epoch, .str x0.Data])]⟩) rfl ?_
    refine Tri.ite h rfl (fun _ h => ?_) (fun _ h => ?_)
    · refine Tri.seq ?_
      refine Tri.regionL ?_
      refine OpsL.cons rfl (op_assign rfl) ?_
      refine OpsL.nilK [12] [] (s' := ⟨[(12, B false)], []⟩) rfl ?_
      refine Tri.ret ?_
      refine Fin.then_ret ?_
      obtain rfl := Option.some.inj h
      refine Fin.keep [12] [] (s' := ⟨[(12, B false)], []⟩) rfl ?_
      refine Fin.result' [.one (.bool false)] (.inl rfl) rfl (.cons (.tmp rfl) .nil) ⟨rfl, rfl⟩
    · refine Tri.skip ?_
      refine Fin.keep [0, 1, 2, 3, 4, 11] [101] (s' := ⟨[(0, .b (.one (.sl 5 (l0.map eHolding)))), (1, I node0), (2, I body0), (3, I to0), (4, .b (.one (.str data0))), (11, .b (.ptr 101 0))], [(101, .box 45 [.i x0.From, .i x0.To, .i x0.Kind, .i x0.Body, .i x0.Epoch, .str x0.Data])]⟩) rfl ?_
      refine Fin.then ?_
      refine Tri.seq ?_
      refine Tri.seq ?_
      refine Tri.regionL ?_
      refine OpsL.cons rfl (op_move rfl) ?_
      obtain ⟨x_6, e12, h⟩ := bnd h
      refine OpsL.cons rfl (op_call0 (skewbackref41_Valid_spec e12) goes20 rfl rfl) ?_
      refine OpsL.cons rfl (op_not rfl) ?_
      refine OpsL.nilK [0, 1, 2, 3, 4, 11, 53] [101] (s' := ⟨[(0, .b (.one (.sl 5 (l0.map eHolding)))), (1, I node0), (2, I body0), (3, I to0), (4, .b (.one (.str data0))), (11, .b (.ptr 101 0)), (53, B (!x_6))], [(101, .box 45 [.i x0.From, .i x0.To, .i x0.Kind, .i x0.Body, .i x0.Epoch, .str x0.Data])]⟩) rfl ?_
      refine Tri.ite h rfl (fun _ h => ?_) (fun _ h => ?_)
      · refine Tri.seq ?_
        refine Tri.regionL ?_
        obtain ⟨x_7, e13, h⟩ := bnd h
        refine OpsL.cons rfl (op_call0 (skewbacklaw41_sanity_spec e13) goes7 rfl rfl) ?_
        refine OpsL.cons rfl (op_assign rfl) ?_
        refine OpsL.nilK [12] [] (s' := ⟨[(12, B x_7)], []⟩) rfl ?_
        refine Tri.ret ?_
        refine Fin.then_ret ?_
        obtain rfl := Option.some.inj h
        refine Fin.keep [12] [] (s' := ⟨[(12, B x_7)], []⟩) rfl ?_
        refine Fin.result' [.one (.bool x_7)] (.inl rfl) rfl (.cons (.tmp rfl) .nil) ⟨rfl, rfl⟩
      · refine Tri.skip ?_
        refine Fin.keep [0, 1, 2, 3, 4, 11] [101] (s' := ⟨[(0, .b (.one (.sl 5 (l0.map eHolding)))), (1, I node0), (2, I body0), (3, I to0), (4, .b (.one (.str data0))), (11, .b (.ptr 101 0))], [(101, .box 45 [.i x0.From, .i x0.To, .i x0.Kind, .i x0.Body, .i x0.Epoch, .str x0.Data])]⟩) rfl ?_
        refine Fin.then ?_
        refine Tri.seq ?_
        refine Tri.regionL ?_
        refine OpsL.cons rfl (op_move rfl) ?_
        refine OpsL.cons rfl (op_move rfl) ?_
        refine OpsL.cons rfl (op_move rfl) ?_
        obtain ⟨⟨x_8, x_9⟩, e14, h⟩ := bnd h
        refine OpsL.cons rfl (op_call (region_Begin_spec 102 e14) goes21 rfl trivial rfl rfl) ?_
        refine OpsL.cons rfl (op_move rfl) ?_
        refine OpsL.keep [0, 1, 2, 3, 4, 11, 55] [101, 102] (s' := ⟨[(0, .b (.one (.sl 5 (l0.map eHolding)))), (1, I node0), (2, I body0), (3, I to0), (4, .b (.one (.str data0))), (11, .b (.ptr 101 0)), (55, .tup [.row 102, .one (.i x_9)])], [(101, .box 45 [.i x0.From, .i x0.To, .i x0.Kind, .i x0.Body, .i x0.Epoch, .str x0.Data]), (102, .row 59 5 (x_8.map eHolding))]⟩) rfl ?_
        refine OpsL.cons rfl (op_extract rfl rfl) ?_
        refine OpsL.cons rfl (op_extract rfl rfl) ?_
        refine OpsL.cons rfl (op_assign rfl) ?_
        refine OpsL.cons rfl (op_assign rfl) ?_
        refine OpsL.nilK [0, 1, 2, 3, 4, 11, 13, 14] [101, 102] (s' := ⟨[(0, .b (.one (.sl 5 (l0.map eHolding)))), (1, I node0), (2, I body0), (3, I to0), (4, .b (.one (.str data0))), (11, .b (.ptr 101 0)), (13, .b (.row 102)), (14, I x_9)], [(101, .box 45 [.i x0.From, .i x0.To, .i x0.Kind, .i x0.Body, .i x0.Epoch, .str x0.Data]), (102, .row 59 5 (x_8.map eHolding))]⟩) rfl ?_
        refine Tri.seq ?_
        refine Tri.regionL ?_
        refine OpsL.cons rfl (op_move rfl) ?_
        refine OpsL.cons rfl (op_move rfl) ?_
        refine OpsL.cons rfl (op_move rfl) ?_
        obtain ⟨⟨x_10, x_11⟩, e15, h⟩ := bnd h
        refine OpsL.cons rfl (op_call (region_Put_spec 103 e15) goes22 rfl trivial rfl rfl) ?_
        refine OpsL.cons rfl (op_move rfl) ?_
        refine OpsL.keep [0, 1, 2, 3, 4, 11, 13, 14, 62] [101, 102, 103] (s' := ⟨[(0, .b (.one (.sl 5 (l0.map eHolding)))), (1, I node0), (2, I body0), (3, I to0), (4, .b (.one (.str data0))), (11, .b (.ptr 101 0)), (13, .b (.row 102)), (14, I x_9), (62, .tup [.row 103, .one (.i x_11)])], [(101, .box 45 [.i x0.From, .i x0.To, .i x0.Kind, .i x0.Body, .i x0.Epoch, .str x0.Data]), (102, .row 59 5 (x_8.map eHolding)), (103, .row 59 5 (x_10.map eHolding))]⟩) rfl ?_
        refine OpsL.cons rfl (op_extract rfl rfl) ?_
        refine OpsL.cons rfl (op_extract rfl rfl) ?_
        refine OpsL.cons rfl (op_assign rfl) ?_
        refine OpsL.cons rfl (op_assign rfl) ?_
        refine OpsL.nilK [0, 1, 2, 3, 4, 11, 13, 14, 15, 16] [101, 102, 103] (s' := ⟨[(0, .b (.one (.sl 5 (l0.map eHolding)))), (1, I node0), (2, I body0), (3, I to0), (4, .b (.one (.str data0))), (11, .b (.ptr 101 0)), (13, .b (.row 102)), (14, I x_9), (15, .b (.row 103)), (16, I x_11)], [(101, .box 45 [.i x0.From, .i x0.To, .i x0.Kind, .i x0.Body, .i x0.Epoch, .str x0.Data]), (102, .row 59 5 (x_8.map eHolding)), (103, .row 59 5 (x_10.map eHolding))]⟩) rfl ?_
        refine Tri.seq ?_
        refine Tri.regionL ?_
        refine OpsL.cons rfl (op_move rfl) ?_
        refine OpsL.cons rfl (op_move rfl) ?_
        refine OpsL.cons rfl (op_move rfl) ?_
        refine OpsL.cons rfl (op_move rfl) ?_
        obtain ⟨⟨x_12, x_13⟩, e16, h⟩ := bnd h
        refine OpsL.cons rfl (op_call (region_Offer_spec 104 e16) goes23 rfl trivial rfl rfl) ?_
        refine OpsL.keep [0, 1, 2, 3, 4, 11, 13, 14, 15, 16, 74] [101, 102, 103, 104] (s' := ⟨[(0, .b (.one (.sl 5 (l0.map eHolding)))), (1, I node0), (2, I body0), (3, I to0), (4, .b (.one (.str data0))), (11, .b (.ptr 101 0)), (13, .b (.row 102)), (14, I x_9), (15, .b (.row 103)), (16, I x_11), (74, .tup [.row 104, .one (.i x_13)])], [(101, .box 45 [.i x0.From, .i x0.To, .i x0.Kind, .i x0.Body, .i x0.Epoch, .str x0.Data]), (102, .row 59 5 (x_8.map eHolding)), (103, .row 59 5 (x_10.map eHolding)), (104, .row 59 5 (x_12.map eHolding))]⟩) rfl ?_
        refine OpsL.cons rfl (op_move rfl) ?_
        refine OpsL.cons rfl (op_extract rfl rfl) ?_
        refine OpsL.cons rfl (op_extract rfl rfl) ?_
        refine OpsL.cons rfl (op_assign rfl) ?_
        refine OpsL.cons rfl (op_assign rfl) ?_
        refine OpsL.nilK [0, 1, 2, 3, 4, 11, 13, 14, 15, 16, 17, 18] [101, 102, 103, 104] (s' := ⟨[(0, .b (.one (.sl 5 (l0.map eHolding)))), (1, I node0), (2, I body0), (3, I to0), (4, .b (.one (.str data0))), (11, .b (.ptr 101 0)), (13, .b (.row 102)), (14, I x_9), (15, .b (.row 103)), (16, I x_11), (17, .b (.row 104)), (18, I x_13)], [(101, .box 45 [.i x0.From, .i x0.To, .i x0.Kind, .i x0.Body, .i x0.Epoch, .str x0.Data]), (102, .row 59 5 (x_8.map eHolding)), (103, .row 59 5 (x_10.map eHolding)), (104, .row 59 5 (x_12.map eHolding))]⟩) rfl ?_
        refine Tri.seq ?_
        refine Tri.regionL ?_
        refine OpsL.cons rfl (op_move rfl) ?_
        refine OpsL.cons rfl (op_move rfl) ?_
        obtain ⟨⟨x_14, x_15⟩, e17, h⟩ := bnd h
        refine OpsL.cons rfl (op_call (region_Cancel_spec 105 e17) goes24 rfl trivial rfl rfl) ?_
        refine OpsL.cons rfl (op_move rfl) ?_
        refine OpsL.cons rfl (op_extract rfl rfl) ?_
        refine OpsL.keep [0, 1, 2, 3, 4, 11, 13, 14, 15, 16, 17, 18, 77, 81] [101, 102, 103, 104, 105] (s' := ⟨[(0, .b (.one (.sl 5 (l0.map eHolding)))), (1, I node0), (2, I body0), (3, I to0), (4, .b (.one (.str data0))), (11, .b (.ptr 101 0)), (13, .b (.row 102)), (14, I x_9), (15, .b (.row 103)), (16, I x_11), (17, .b (.row 104)), (18, I x_13), (77, .tup [.row 105, .one (.i x_15)]), (81, .b (.row 105))], [(101, .box 45 [.i x0.From, .i x0.To, .i x0.Kind, .i x0.Body, .i x0.Epoch, .str x0.Data]), (102, .row 59 5 (x_8.map eHolding)), (103, .row 59 5 (x_10.map eHolding)), (104, .row 59 5 (x_12.map eHolding)), (105, .row 59 5 (x_14.map eHolding))]⟩) rfl ?_
        refine OpsL.cons rfl (op_extract rfl rfl) ?_
        refine OpsL.cons rfl (op_assign rfl) ?_
        refine OpsL.cons rfl (op_assign rfl) ?_
        refine OpsL.nilK [0, 1, 2, 3, 4, 11, 13, 14, 15, 16, 17, 18, 19, 20] [101, 102, 103, 104, 105] (s' := ⟨[(0, .b (.one (.sl 5 (l0.map eHolding)))), (1, I node0), (2, I body0), (3, I to0), (4, .b (.one (.str data0))), (11, .b (.ptr 101 0)), (13, .b (.row 102)), (14, I x_9), (15, .b (.row 103)), (16, I x_11), (17, .b (.row 104)), (18, I x_13), (19, .b (.row 105)), (20, I x_15)], [(101, .box 45 [.i x0.From, .i x0.To, .i x0.Kind, .i x0.Body, .i x0.Epoch, .str x0.Data]), (102, .row 59 5 (x_8.map eHolding)), (103, .row 59 5 (x_10.map eHolding)), (104, .row 59 5 (x_12.map eHolding)), (105, .row 59 5 (x_14.map eHolding))]⟩) rfl ?_
        refine Tri.seq ?_
        refine Tri.seq ?_
        refine Tri.regionL ?_
        refine OpsL.cons rfl (op_move rfl) ?_
        refine OpsL.cons rfl (op_move rfl) ?_
        refine OpsL.cons rfl (op_move rfl) ?_
        refine OpsL.cons rfl (op_move rfl) ?_
        refine OpsL.cons rfl (op_move rfl) ?_
        refine OpsL.keep [0, 1, 2, 3, 4, 11, 13, 15, 16, 17, 18, 19, 20, 83, 84, 85, 86, 87] [101, 102, 103, 104, 105] (s' := ⟨[(0, .b (.one (.sl 5 (l0.map eHolding)))), (1, I node0), (2, I body0), (3, I to0), (4, .b (.one (.str data0))), (11, .b (.ptr 101 0)), (13, .b (.row 102)), (15, .b (.row 103)), (16, I x_11), (17, .b (.row 104)), (18, I x_13), (19, .b (.row 105)), (20, I x_15), (83, .b (.row 102)), (84, I x_9), (85, .b (.one (.sl 5 (l0.map eHolding)))), (86, I body0), (87, .b (.one (.str data0)))], [(101, .box 45 [.i x0.From, .i x0.To, .i x0.Kind, .i x0.Body, .i x0.Epoch, .str x0.Data]), (102, .row 59 5 (x_8.map eHolding)), (103, .row 59 5 (x_10.map eHolding)), (104, .row 59 5 (x_12.map eHolding)), (105, .row 59 5 (x_14.map eHolding))]⟩) rfl ?_
        obtain ⟨x_16, e18, h⟩ := bnd h
        refine OpsL.cons rfl (op_call0 (skewbackref41_Begin_spec e18) goes26 rfl rfl) ?_
        obtain ⟨x_17, e19, h⟩ := bnd h
        refine OpsL.cons rfl (op_callB (skewbacklaw41_same_spec e19) goes25 rfl CP.flat_bool) ?_
        refine OpsL.cons rfl (op_not rfl) ?_
        refine OpsL.cons rfl (op_move rfl) ?_
        refine OpsL.consG (!(!x_17)) 99 [] (.plain rfl) (eq_f _) rfl rfl (fun g20 => trivial) (fun g20 => op_move rfl) ?_
        refine OpsL.consG (!(!x_17)) 99 [] (.plain rfl) (eq_f _) rfl rfl (fun g21 => trivial) (fun g21 => op_move rfl) ?_
        refine OpsL.keep [0, 1, 2, 3, 4, 11, 13, 15, 17, 18, 19, 20, 91, 92, 93] [101, 102, 103, 104, 105] (s' := ⟨[(0, .b (.one (.sl 5 (l0.map eHolding)))), (1, I node0), (2, I body0), (3, I to0), (4, .b (.one (.str data0))), (11, .b (.ptr 101 0)), (13, .b (.row 102)), (15, .b (.row 103)), (17, .b (.row 104)), (18, I x_13), (19, .b (.row 105)), (20, I x_15), (91, B (!x_17)), (92, .opt (!(!x_17)) (.row 103)), (93, .opt (!(!x_17)) (.one (.i x_11)))], [(101, .box 45 [.i x0.From, .i x0.To, .i x0.Kind, .i x0.Body, .i x0.Epoch, .str x0.Data]), (102, .row 59 5 (x_8.map eHolding)), (103, .row 59 5 (x_10.map eHolding)), (104, .row 59 5 (x_12.map eHolding)), (105, .row 59 5 (x_14.map eHolding))]⟩) rfl ?_
        refine OpsL.consG (!(!x_17)) 99 [] (.plain rfl) (eq_f _) rfl rfl (fun g22 => trivial) (fun g22 => op_move rfl) ?_
        refine OpsL.consG (!(!x_17)) 99 [] (.plain rfl) (eq_f _) rfl rfl (fun g23 => trivial) (fun g23 => op_move rfl) ?_
        refine OpsL.consG (!(!x_17)) 99 [] (.plain rfl) (eq_f _) rfl rfl (fun g24 => trivial) (fun g24 => op_move rfl) ?_
        obtain ⟨x_18, e26, h⟩ := bnd h
        refine OpsL.consG (!(!x_17)) 99 [94, 95, 96] (.plain rfl) (eq_f _) rfl rfl (fun g25 => ⟨g25, g25, g25, trivial⟩) (fun g25 => op_call0 (skewbackref41_Put_spec (gc e26 g25)) goes27 rfl rfl) ?_
        refine OpsL.keep [0, 1, 2, 3, 11, 13, 15, 17, 18, 19, 20, 91, 92, 93, 97] [101, 102, 103, 104, 105] (s' := ⟨[(0, .b (.one (.sl 5 (l0.map eHolding)))), (1, I node0), (2, I body0), (3, I to0), (11, .b (.ptr 101 0)), (13, .b (.row 102)), (15, .b (.row 103)), (17, .b (.row 104)), (18, I x_13), (19, .b (.row 105)), (20, I x_15), (91, B (!x_17)), (92, .opt (!(!x_17)) (.row 103)), (93, .opt (!(!x_17)) (.one (.i x_11))), (97, .opt (!(!x_17)) (.agg [.sl 5 (x_18.L.map eHolding), .sl 6 (x_18.Sent.map eParcel), .i x_18.E]))], [(101, .box 45 [.i x0.From, .i x0.To, .i x0.Kind, .i x0.Body, .i x0.Epoch, .str x0.Data]), (102, .row 59 5 (x_8.map eHolding)), (103, .row 59 5 (x_10.map eHolding)), (104, .row 59 5 (x_12.map eHolding)), (105, .row 59 5 (x_14.map eHolding))]⟩) rfl ?_
        obtain ⟨x_19, e28, h⟩ := bnd h
        refine OpsL.consG (!(!x_17)) 99 [92, 93, 97] (.plain rfl) (eq_f _) rfl rfl (fun g27 => ⟨g27, g27, g27, trivial⟩) (fun g27 => op_callB (skewbacklaw41_same_spec (gc e28 g27)) goes25 rfl CP.flat_bool) ?_
        refine OpsL.consG (!(!x_17)) 99 [98] (.plain rfl) (eq_f _) rfl rfl (fun g29 => ⟨g29, trivial⟩) (fun g29 => op_not rfl) ?_
        refine OpsL.cons rfl (op_pick_or (fun e => by rw [e]; rfl) rfl rfl rfl rfl) ?_
        refine OpsL.cons rfl (op_move rfl) ?_
        refine OpsL.consG (!((!x_17) || (!x_19))) 99 [] (.plain rfl) (eq_f _) rfl rfl (fun g30 => trivial) (fun g30 => op_move rfl) ?_
        refine OpsL.consG (!((!x_17) || (!x_19))) 99 [] (.plain rfl) (eq_f _) rfl rfl (fun g31 => trivial) (fun g31 => op_move rfl) ?_
        refine OpsL.consG (!((!x_17) || (!x_19))) 99 [] (.plain rfl) (eq_f _) rfl rfl (fun g32 => trivial) (fun g32 => op_move rfl) ?_
        refine OpsL.consG (!((!x_17) || (!x_19))) 99 [] (.plain rfl) (eq_f _) rfl rfl (fun g33 => trivial) (fun g33 => op_move rfl) ?_
        refine OpsL.keep [0, 1, 2, 3, 11, 13, 15, 17, 19, 20, 101, 102, 103, 104, 105] [101, 102, 103, 104, 105] (s' := ⟨[(0, .b (.one (.sl 5 (l0.map eHolding)))), (1, I node0), (2, I body0), (3, I to0), (11, .b (.ptr 101 0)), (13, .b (.row 102)), (15, .b (.row 103)), (17, .b (.row 104)), (19, .b (.row 105)), (20, I x_15), (101, B ((!x_17) || (!x_19))), (102, .opt (!((!x_17) || (!x_19))) (.row 104)), (103, .opt (!((!x_17) || (!x_19))) (.one (.i x_13))), (104, .opt (!((!x_17) || (!x_19))) (.one (.sl 5 (l0.map eHolding)))), (105, .opt (!((!x_17) || (!x_19))) (.one (.i node0)))], [(101, .box 45 [.i x0.From, .i x0.To, .i x0.Kind, .i x0.Body, .i x0.Epoch, .str x0.Data]), (102, .row 59 5 (x_8.map eHolding)), (103, .row 59 5 (x_10.map eHolding)), (104, .row 59 5 (x_12.map eHolding)), (105, .row 59 5 (x_14.map eHolding))]⟩) rfl ?_
        refine OpsL.consG (!((!x_17) || (!x_19))) 99 [] (.plain rfl) (eq_f _) rfl rfl (fun g34 => trivial) (fun g34 => op_move rfl) ?_
        refine OpsL.consG (!((!x_17) || (!x_19))) 99 [] (.plain rfl) (eq_f _) rfl rfl (fun g35 => trivial) (fun g35 => op_move rfl) ?_
        obtain ⟨x_20, e37, h⟩ := bnd h
        refine OpsL.consG (!((!x_17) || (!x_19))) 99 [104, 105, 106, 107] (.plain rfl) (eq_f _) rfl rfl (fun g36 => ⟨g36, g36, g36, g36, trivial⟩) (fun g36 => op_call0 (skewbackref41_Offer_spec (gc e37 g36)) goes28 rfl rfl) ?_
        obtain ⟨x_21, e39, h⟩ := bnd h
        refine OpsL.consG (!((!x_17) || (!x_19))) 99 [102, 103, 108] (.plain rfl) (eq_f _) rfl rfl (fun g38 => ⟨g38, g38, g38, trivial⟩) (fun g38 => op_callB (skewbacklaw41_same_spec (gc e39 g38)) goes25 rfl CP.flat_bool) ?_
        refine OpsL.keep [0, 1, 2, 11, 13, 15, 17, 19, 20, 101, 109] [101, 102, 103, 104, 105] (s' := ⟨[(0, .b (.one (.sl 5 (l0.map eHolding)))), (1, I node0), (2, I body0), (11, .b (.ptr 101 0)), (13, .b (.row 102)), (15, .b (.row 103)), (17, .b (.row 104)), (19, .b (.row 105)), (20, I x_15), (101, B ((!x_17) || (!x_19))), (109, .opt (!((!x_17) || (!x_19))) (.one (.bool x_21)))], [(101, .box 45 [.i x0.From, .i x0.To, .i x0.Kind, .i x0.Body, .i x0.Epoch, .str x0.Data]), (102, .row 59 5 (x_8.map eHolding)), (103, .row 59 5 (x_10.map eHolding)), (104, .row 59 5 (x_12.map eHolding)), (105, .row 59 5 (x_14.map eHolding))]⟩) rfl ?_
        refine OpsL.consG (!((!x_17) || (!x_19))) 99 [109] (.plain rfl) (eq_f _) rfl rfl (fun g40 => ⟨g40, trivial⟩) (fun g40 => op_not rfl) ?_
        refine OpsL.cons rfl (op_pick_or (fun e => by rw [e]; rfl) rfl rfl rfl rfl) ?_
        refine OpsL.cons rfl (op_move rfl) ?_
        refine OpsL.consG (!(((!x_17) || (!x_19)) || (!x_21))) 99 [] (.plain rfl) (eq_f _) rfl rfl (fun g41 => trivial) (fun g41 => op_move rfl) ?_
        refine OpsL.consG (!(((!x_17) || (!x_19)) || (!x_21))) 99 [] (.plain rfl) (eq_f _) rfl rfl (fun g42 => trivial) (fun g42 => op_move rfl) ?_
        refine OpsL.consG (!(((!x_17) || (!x_19)) || (!x_21))) 99 [] (.plain rfl) (eq_f _) rfl rfl (fun g43 => trivial) (fun g43 => op_move rfl) ?_
        refine OpsL.consG (!(((!x_17) || (!x_19)) || (!x_21))) 99 [] (.plain rfl) (eq_f _) rfl rfl (fun g44 => trivial) (fun g44 => op_move rfl) ?_
        refine OpsL.keep [0, 1, 2, 11, 13, 15, 17, 19, 112, 113, 114, 115, 116] [101, 102, 103, 104, 105] (s' := ⟨[(0, .b (.one (.sl 5 (l0.map eHolding)))), (1, I node0), (2, I body0), (11, .b (.ptr 101 0)), (13, .b (.row 102)), (15, .b (.row 103)), (17, .b (.row 104)), (19, .b (.row 105)), (112, B (((!x_17) || (!x_19)) || (!x_21))), (113, .opt (!(((!x_17) || (!x_19)) || (!x_21))) (.row 105)), (114, .opt (!(((!x_17) || (!x_19)) || (!x_21))) (.one (.i x_15))), (115, .opt (!(((!x_17) || (!x_19)) || (!x_21))) (.one (.sl 5 (l0.map eHolding)))), (116, .opt (!(((!x_17) || (!x_19)) || (!x_21))) (.one (.i body0)))], [(101, .box 45 [.i x0.From, .i x0.To, .i x0.Kind, .i x0.Body, .i x0.Epoch, .str x0.Data]), (102, .row 59 5 (x_8.map eHolding)), (103, .row 59 5 (x_10.map eHolding)), (104, .row 59 5 (x_12.map eHolding)), (105, .row 59 5 (x_14.map eHolding))]⟩) rfl ?_
        obtain ⟨x_22, e46, h⟩ := bnd h
        refine OpsL.consG (!(((!x_17) || (!x_19)) || (!x_21))) 99 [115, 116] (.plain rfl) (eq_f _) rfl rfl (fun g45 => ⟨g45, g45, trivial⟩) (fun g45 => op_call0 (skewbackref41_Cancel_spec (gc e46 g45)) goes29 rfl rfl) ?_
        obtain ⟨x_23, e48, h⟩ := bnd h
        refine OpsL.consG (!(((!x_17) || (!x_19)) || (!x_21))) 99 [113, 114, 117] (.plain rfl) (eq_f _) rfl rfl (fun g47 => ⟨g47, g47, g47, trivial⟩) (fun g47 => op_callB (skewbacklaw41_same_spec (gc e48 g47)) goes25 rfl CP.flat_bool) ?_
        refine OpsL.consG (!(((!x_17) || (!x_19)) || (!x_21))) 99 [118] (.plain rfl) (eq_f _) rfl rfl (fun g49 => ⟨g49, trivial⟩) (fun g49 => op_not rfl) ?_
        refine OpsL.cons rfl (op_pick_or (fun e => by rw [e]; rfl) rfl rfl rfl rfl) ?_
        refine OpsL.cons rfl (op_move rfl) ?_
        refine OpsL.consG (!((((!x_17) || (!x_19)) || (!x_21)) || (!x_23))) 99 [] (.plain rfl) (eq_f _) rfl rfl (fun g50 => trivial) (fun g50 => op_move rfl) ?_
        refine OpsL.keep [0, 1, 2, 11, 13, 15, 17, 19, 121, 122] [101, 102, 103, 104, 105] (s' := ⟨[(0, .b (.one (.sl 5 (l0.map eHolding)))), (1, I node0), (2, I body0), (11, .b (.ptr 101 0)), (13, .b (.row 102)), (15, .b (.row 103)), (17, .b (.row 104)), (19, .b (.row 105)), (121, B ((((!x_17) || (!x_19)) || (!x_21)) || (!x_23))), (122, .opt (!((((!x_17) || (!x_19)) || (!x_21)) || (!x_23))) (.one (.sl 5 (l0.map eHolding))))], [(101, .box 45 [.i x0.From, .i x0.To, .i x0.Kind, .i x0.Body, .i x0.Epoch, .str x0.Data]), (102, .row 59 5 (x_8.map eHolding)), (103, .row 59 5 (x_10.map eHolding)), (104, .row 59 5 (x_12.map eHolding)), (105, .row 59 5 (x_14.map eHolding))]⟩) rfl ?_
        refine OpsL.consG (!((((!x_17) || (!x_19)) || (!x_21)) || (!x_23))) 99 [] (.plain rfl) (eq_f _) rfl rfl (fun g51 => trivial) (fun g51 => op_move rfl) ?_
        obtain ⟨x_24, e53, h⟩ := bnd h
        refine OpsL.consG (!((((!x_17) || (!x_19)) || (!x_21)) || (!x_23))) 99 [122, 123] (.plain rfl) (eq_f _) rfl rfl (fun g52 => ⟨g52, g52, trivial⟩) (fun g52 => op_call0 (region_Get_spec (gc e53 g52)) goes30 rfl rfl) ?_
        refine OpsL.consG (!((((!x_17) || (!x_19)) || (!x_21)) || (!x_23))) 99 [] (.plain rfl) (eq_f _) rfl rfl (fun g54 => trivial) (fun g54 => op_move rfl) ?_
        refine OpsL.consG (!((((!x_17) || (!x_19)) || (!x_21)) || (!x_23))) 99 [] (.plain rfl) (eq_f _) rfl rfl (fun g55 => trivial) (fun g55 => op_move rfl) ?_
        refine OpsL.keep [0, 1, 11, 13, 15, 17, 19, 121, 124, 125, 126] [101, 102, 103, 104, 105] (s' := ⟨[(0, .b (.one (.sl 5 (l0.map eHolding)))), (1, I node0), (11, .b (.ptr 101 0)), (13, .b (.row 102)), (15, .b (.row 103)), (17, .b (.row 104)), (19, .b (.row 105)), (121, B ((((!x_17) || (!x_19)) || (!x_21)) || (!x_23))), (124, .opt (!((((!x_17) || (!x_19)) || (!x_21)) || (!x_23))) (.agg [.i x_24.Body, .i x_24.Epoch, .i x_24.Phase, .i x_24.Peer, .str x_24.Data])), (125, .opt (!((((!x_17) || (!x_19)) || (!x_21)) || (!x_23))) (.one (.sl 5 (l0.map eHolding)))), (126, .opt (!((((!x_17) || (!x_19)) || (!x_21)) || (!x_23))) (.one (.i body0)))], [(101, .box 45 [.i x0.From, .i x0.To, .i x0.Kind, .i x0.Body, .i x0.Epoch, .str x0.Data]), (102, .row 59 5 (x_8.map eHolding)), (103, .row 59 5 (x_10.map eHolding)), (104, .row 59 5 (x_12.map eHolding)), (105, .row 59 5 (x_14.map eHolding))]⟩) rfl ?_
        obtain ⟨x_25, e57, h⟩ := bnd h
        refine OpsL.consG (!((((!x_17) || (!x_19)) || (!x_21)) || (!x_23))) 99 [125, 126] (.plain rfl) (eq_f _) rfl rfl (fun g56 => ⟨g56, g56, trivial⟩) (fun g56 => op_call0 (skewbackref41_Get_spec (gc e57 g56)) goes31 rfl rfl) ?_
        refine OpsL.consG (!((((!x_17) || (!x_19)) || (!x_21)) || (!x_23))) 99 [124, 127] (.plain rfl) (eq_f _) rfl rfl (fun g58 => ⟨g58, g58, trivial⟩) (fun g58 => op_neq_agg (eqAgg59 x_24 x_25) rfl rfl neg_dec) ?_
        refine OpsL.consB h rfl (op_pick_or (fun e => by rw [e]; rfl) rfl rfl rfl rfl) (fun x_26 h => ?_)
        refine OpsL.nilK [0, 1, 11, 13, 15, 17, 19, 129] [101, 102, 103, 104, 105] (s' := ⟨[(0, .b (.one (.sl 5 (l0.map eHolding)))), (1, I node0), (11, .b (.ptr 101 0)), (13, .b (.row 102)), (15, .b (.row 103)), (17, .b (.row 104)), (19, .b (.row 105)), (129, B x_26)], [(101, .box 45 [.i x0.From, .i x0.To, .i x0.Kind, .i x0.Body, .i x0.Epoch, .str x0.Data]), (102, .row 59 5 (x_8.map eHolding)), (103, .row 59 5 (x_10.map eHolding)), (104, .row 59 5 (x_12.map eHolding)), (105, .row 59 5 (x_14.map eHolding))]⟩) rfl ?_
        refine Tri.ite h rfl (fun _ h => ?_) (fun _ h => ?_)
        · refine Tri.seq ?_
          refine Tri.regionL ?_
          refine OpsL.cons rfl (op_assign rfl) ?_
          refine OpsL.nilK [12] [] (s' := ⟨[(12, B false)], []⟩) rfl ?_
          refine Tri.ret ?_
          refine Fin.then_ret ?_
          obtain rfl := Option.some.inj h
          refine Fin.keep [12] [] (s' := ⟨[(12, B false)], []⟩) rfl ?_
          refine Fin.result' [.one (.bool false)] (.inl rfl) rfl (.cons (.tmp rfl) .nil) ⟨rfl, rfl⟩
        · refine Tri.skip ?_
          refine Fin.keep [0, 1, 11, 13, 15, 17, 19] [101, 102, 103, 104, 105] (s' := ⟨[(0, .b (.one (.sl 5 (l0.map eHolding)))), (1, I node0), (11, .b (.ptr 101 0)), (13, .b (.row 102)), (15, .b (.row 103)), (17, .b (.row 104)), (19, .b (.row 105))], [(101, .box 45 [.i x0.From, .i x0.To, .i x0.Kind, .i x0.Body, .i x0.Epoch, .str x0.Data]), (102, .row 59 5 (x_8.map eHolding)), (103, .row 59 5 (x_10.map eHolding)), (104, .row 59 5 (x_12.map eHolding)), (105, .row 59 5 (x_14.map eHolding))]⟩) rfl ?_
          refine Fin.then ?_
          refine Tri.seq ?_
          refine Tri.regionL ?_
          refine OpsL.cons rfl (op_move rfl) ?_
          refine OpsL.cons rfl (op_move rfl) ?_
          refine OpsL.cons rfl (op_load_p tyAgg45 rfl rfl rfl rfl) ?_
          obtain ⟨⟨x_27, x_28⟩, e59, h⟩ := bnd h
          refine OpsL.cons rfl (op_call (region_Receive_spec 106 e59) goes32 rfl trivial rfl rfl) ?_
          refine OpsL.cons rfl (op_move rfl) ?_
          refine OpsL.keep [0, 1, 11, 13, 15, 17, 19, 130] [101, 102, 103, 104, 105, 106] (s' := ⟨[(0, .b (.one (.sl 5 (l0.map eHolding)))), (1, I node0), (11, .b (.ptr 101 0)), (13, .b (.row 102)), (15, .b (.row 103)), (17, .b (.row 104)), (19, .b (.row 105)), (130, .tup [.row 106, .one (.sl 6 (x_28.map eParcel))])], [(101, .box 45 [.i x0.From, .i x0.To, .i x0.Kind, .i x0.Body, .i x0.Epoch, .str x0.Data]), (102, .row 59 5 (x_8.map eHolding)), (103, .row 59 5 (x_10.map eHolding)), (104, .row 59 5 (x_12.map eHolding)), (105, .row 59 5 (x_14.map eHolding)), (106, .row 59 5 (x_27.map eHolding))]⟩) rfl ?_
          refine OpsL.cons rfl (op_extract rfl rfl) ?_
          refine OpsL.cons rfl (op_extract rfl rfl) ?_
          refine OpsL.cons rfl (op_assign rfl) ?_
          refine OpsL.cons rfl (op_assign rfl) ?_
          refine OpsL.nilK [0, 1, 11, 13, 15, 17, 19, 21, 22] [101, 102, 103, 104, 105, 106] (s' := ⟨[(0, .b (.one (.sl 5 (l0.map eHolding)))), (1, I node0), (11, .b (.ptr 101 0)), (13, .b (.row 102)), (15, .b (.row 103)), (17, .b (.row 104)), (19, .b (.row 105)), (21, .b (.row 106)), (22, .b (.one (.sl 6 (x_28.map eParcel))))], [(101, .box 45 [.i x0.From, .i x0.To, .i x0.Kind, .i x0.Body, .i x0.Epoch, .str x0.Data]), (102, .row 59 5 (x_8.map eHolding)), (103, .row 59 5 (x_10.map eHolding)), (104, .row 59 5 (x_12.map eHolding)), (105, .row 59 5 (x_14.map eHolding)), (106, .row 59 5 (x_27.map eHolding))]⟩) rfl ?_
          refine Tri.seq ?_
          refine Tri.regionL ?_
          refine OpsL.cons rfl (op_move rfl) ?_
          refine OpsL.cons rfl (op_move rfl) ?_
          refine OpsL.cons rfl (op_load_p tyAgg45 rfl rfl rfl rfl) ?_
          obtain ⟨x_29, e60, h⟩ := bnd h
          refine OpsL.cons rfl (op_call0 (skewbackref41_Receive_spec e60) goes33 rfl rfl) ?_
          refine OpsL.cons rfl (op_alloc (k := 107) tyZero54 rfl) ?_
          refine OpsL.cons rfl (op_store_p tyAgg54 rfl rfl rfl rfl (Nat.le_of_ble_eq_true rfl) rfl) ?_
          refine OpsL.nilK [0, 1, 11, 13, 15, 17, 19, 21, 22, 23] [101, 102, 103, 104, 105, 106, 107] (s' := ⟨[(0, .b (.one (.sl 5 (l0.map eHolding)))), (1, I node0), (11, .b (.ptr 101 0)), (13, .b (.row 102)), (15, .b (.row 103)), (17, .b (.row 104)), (19, .b (.row 105)), (21, .b (.row 106)), (22, .b (.one (.sl 6 (x_28.map eParcel)))), (23, .b (.ptr 107 0))], [(101, .box 45 [.i x0.From, .i x0.To, .i x0.Kind, .i x0.Body, .i x0.Epoch, .str x0.Data]), (102, .row 59 5 (x_8.map eHolding)), (103, .row 59 5 (x_10.map eHolding)), (104, .row 59 5 (x_12.map eHolding)), (105, .row 59 5 (x_14.map eHolding)), (106, .row 59 5 (x_27.map eHolding)), (107, .box 54 [.sl 5 (x_29.L.map eHolding), .sl 6 (x_29.Sent.map eParcel), .i x_29.E])]⟩) rfl ?_
          refine Tri.seq ?_
          refine Tri.seq ?_
          refine Tri.regionL ?_
          refine OpsL.cons rfl (op_move rfl) ?_
          refine OpsL.cons rfl (op_field_p tyFld54_0 rfl rfl) ?_
          refine OpsL.cons rfl (op_load_p1 tyOne42 rfl rfl rfl) ?_
          obtain ⟨x_30, e61, h⟩ := bnd h
          refine OpsL.cons rfl (op_callB (skewbackref41_Same_spec e61) goes34 rfl CP.flat_bool) ?_
          refine OpsL.cons rfl (op_not rfl) ?_
          refine OpsL.keep [0, 1, 11, 13, 15, 17, 19, 21, 22, 23, 145] [101, 102, 103, 104, 105, 106, 107] (s' := ⟨[(0, .b (.one (.sl 5 (l0.map eHolding)))), (1, I node0), (11, .b (.ptr 101 0)), (13, .b (.row 102)), (15, .b (.row 103)), (17, .b (.row 104)), (19, .b (.row 105)), (21, .b (.row 106)), (22, .b (.one (.sl 6 (x_28.map eParcel)))), (23, .b (.ptr 107 0)), (145, B (!x_30))], [(101, .box 45 [.i x0.From, .i x0.To, .i x0.Kind, .i x0.Body, .i x0.Epoch, .str x0.Data]), (102, .row 59 5 (x_8.map eHolding)), (103, .row 59 5 (x_10.map eHolding)), (104, .row 59 5 (x_12.map eHolding)), (105, .row 59 5 (x_14.map eHolding)), (106, .row 59 5 (x_27.map eHolding)), (107, .box 54 [.sl 5 (x_29.L.map eHolding), .sl 6 (x_29.Sent.map eParcel), .i x_29.E])]⟩) rfl ?_
          refine OpsL.cons rfl (op_move rfl) ?_
          refine OpsL.consG (!(!x_30)) 99 [] (.plain rfl) (eq_f _) rfl rfl (fun g62 => trivial) (fun g62 => op_move rfl) ?_
          refine OpsL.consG (!(!x_30)) 99 [] (.plain rfl) (eq_f _) rfl rfl (fun g63 => trivial) (fun g63 => op_field_p tyFld54_1 rfl rfl) ?_
          refine OpsL.consG (!(!x_30)) 99 [148] (.plain rfl) (eq_f _) rfl rfl (fun g64 => ⟨g64, trivial⟩) (fun g64 => op_load_p1 tyOne38 rfl rfl rfl) ?_
          obtain ⟨x_31, e66, h⟩ := bnd h
          refine OpsL.consG (!(!x_30)) 99 [147, 149] (.plain rfl) (eq_f _) rfl rfl (fun g65 => ⟨g65, g65, trivial⟩) (fun g65 => op_call0 (skewbackref41_SameLetters_spec (gc e66 g65)) goes35 rfl rfl) ?_
          refine OpsL.consG (!(!x_30)) 99 [150] (.plain rfl) (eq_f _) rfl rfl (fun g67 => ⟨g67, trivial⟩) (fun g67 => op_not rfl) ?_
          refine OpsL.keep [0, 1, 11, 13, 15, 17, 19, 21, 22, 146, 151] [101, 102, 103, 104, 105, 106] (s' := ⟨[(0, .b (.one (.sl 5 (l0.map eHolding)))), (1, I node0), (11, .b (.ptr 101 0)), (13, .b (.row 102)), (15, .b (.row 103)), (17, .b (.row 104)), (19, .b (.row 105)), (21, .b (.row 106)), (22, .b (.one (.sl 6 (x_28.map eParcel)))), (146, B (!x_30)), (151, .opt (!(!x_30)) (.one (.bool (!x_31))))], [(101, .box 45 [.i x0.From, .i x0.To, .i x0.Kind, .i x0.Body, .i x0.Epoch, .str x0.Data]), (102, .row 59 5 (x_8.map eHolding)), (103, .row 59 5 (x_10.map eHolding)), (104, .row 59 5 (x_12.map eHolding)), (105, .row 59 5 (x_14.map eHolding)), (106, .row 59 5 (x_27.map eHolding))]⟩) rfl ?_
          refine OpsL.cons rfl (op_pick_or (fun e => by rw [e]; rfl) rfl rfl rfl rfl) ?_
          refine OpsL.cons rfl (op_move rfl) ?_
          refine OpsL.consG (!((!x_30) || (!x_31))) 99 [] (.plain rfl) (eq_f _) rfl rfl (fun g68 => trivial) (fun g68 => op_move rfl) ?_
          refine OpsL.consG (!((!x_30) || (!x_31))) 99 [] (.plain rfl) (eq_f _) rfl rfl (fun g69 => trivial) (fun g69 => op_move rfl) ?_
          obtain ⟨x_32, e71, h⟩ := bnd h
          refine OpsL.consG (!((!x_30) || (!x_31))) 99 [154, 155] (.plain rfl) (eq_f _) rfl rfl (fun g70 => ⟨g70, g70, trivial⟩) (fun g70 => op_call0 (region_Letters_spec 0 (gc e71 g70)).persG goes15 rfl rfl) ?_
          refine OpsL.consG (!((!x_30) || (!x_31))) 99 [] (.plain rfl) (eq_f _) rfl rfl (fun g72 => trivial) (fun g72 => op_move rfl) ?_
          refine OpsL.keep [0, 1, 11, 13, 15, 17, 19, 21, 22, 153, 156, 157] [101, 102, 103, 104, 105, 106] (s' := ⟨[(0, .b (.one (.sl 5 (l0.map eHolding)))), (1, I node0), (11, .b (.ptr 101 0)), (13, .b (.row 102)), (15, .b (.row 103)), (17, .b (.row 104)), (19, .b (.row 105)), (21, .b (.row 106)), (22, .b (.one (.sl 6 (x_28.map eParcel)))), (153, B ((!x_30) || (!x_31))), (156, .opt (!((!x_30) || (!x_31))) (.one (.sl 6 (x_32.map eParcel)))), (157, .opt (!((!x_30) || (!x_31))) (.one (.sl 5 (l0.map eHolding))))], [(101, .box 45 [.i x0.From, .i x0.To, .i x0.Kind, .i x0.Body, .i x0.Epoch, .str x0.Data]), (102, .row 59 5 (x_8.map eHolding)), (103, .row 59 5 (x_10.map eHolding)), (104, .row 59 5 (x_12.map eHolding)), (105, .row 59 5 (x_14.map eHolding)), (106, .row 59 5 (x_27.map eHolding))]⟩) rfl ?_
          refine OpsL.consG (!((!x_30) || (!x_31))) 99 [] (.plain rfl) (eq_f _) rfl rfl (fun g73 => trivial) (fun g73 => op_move rfl) ?_
          obtain ⟨x_33, e75, h⟩ := bnd h
          refine OpsL.consG (!((!x_30) || (!x_31))) 99 [157, 158] (.plain rfl) (eq_f _) rfl rfl (fun g74 => ⟨g74, g74, trivial⟩) (fun g74 => op_call0 (skewbackref41_Letters_spec 0 (gc e75 g74)).persG goes36 rfl rfl) ?_
          obtain ⟨x_34, e77, h⟩ := bnd h
          refine OpsL.consG (!((!x_30) || (!x_31))) 99 [156, 159] (.plain rfl) (eq_f _) rfl rfl (fun g76 => ⟨g76, g76, trivial⟩) (fun g76 => op_call0 (skewbackref41_SameLetters_spec (gc e77 g76)) goes35 rfl rfl) ?_
          refine OpsL.consG (!((!x_30) || (!x_31))) 99 [160] (.plain rfl) (eq_f _) rfl rfl (fun g78 => ⟨g78, trivial⟩) (fun g78 => op_not rfl) ?_
          refine OpsL.cons rfl (op_pick_or (fun e => by rw [e]; rfl) rfl rfl rfl rfl) ?_
          refine OpsL.nilK [0, 1, 11, 13, 15, 17, 19, 21, 22, 162] [101, 102, 103, 104, 105, 106] (s' := ⟨[(0, .b (.one (.sl 5 (l0.map eHolding)))), (1, I node0), (11, .b (.ptr 101 0)), (13, .b (.row 102)), (15, .b (.row 103)), (17, .b (.row 104)), (19, .b (.row 105)), (21, .b (.row 106)), (22, .b (.one (.sl 6 (x_28.map eParcel)))), (162, B (((!x_30) || (!x_31)) || (!x_34)))], [(101, .box 45 [.i x0.From, .i x0.To, .i x0.Kind, .i x0.Body, .i x0.Epoch, .str x0.Data]), (102, .row 59 5 (x_8.map eHolding)), (103, .row 59 5 (x_10.map eHolding)), (104, .row 59 5 (x_12.map eHolding)), (105, .row 59 5 (x_14.map eHolding)), (106, .row 59 5 (x_27.map eHolding))]⟩) rfl ?_
          refine Tri.ite h rfl (fun _ h => ?_) (fun _ h => ?_)
          · refine Tri.seq ?_
            refine Tri.regionL ?_
            refine OpsL.cons rfl (op_assign rfl) ?_
            refine OpsL.nilK [12] [] (s' := ⟨[(12, B false)], []⟩) rfl ?_
            refine Tri.ret ?_
            refine Fin.then_ret ?_
            obtain rfl := Option.some.inj h
            refine Fin.keep [12] [] (s' := ⟨[(12, B false)], []⟩) rfl ?_
            refine Fin.result' [.one (.bool false)] (.inl rfl) rfl (.cons (.tmp rfl) .nil) ⟨rfl, rfl⟩
          · refine Tri.skip ?_
            refine Fin.keep [0, 1, 11, 13, 15, 17, 19, 21, 22] [101, 102, 103, 104, 105, 106] (s' := ⟨[(0, .b (.one (.sl 5 (l0.map eHolding)))), (1, I node0), (11, .b (.ptr 101 0)), (13, .b (.row 102)), (15, .b (.row 103)), (17, .b (.row 104)), (19, .b (.row 105)), (21, .b (.row 106)), (22, .b (.one (.sl 6 (x_28.map eParcel))))], [(101, .box 45 [.i x0.From, .i x0.To, .i x0.Kind, .i x0.Body, .i x0.Epoch, .str x0.Data]), (102, .row 59 5 (x_8.map eHolding)), (103, .row 59 5 (x_10.map eHolding)), (104, .row 59 5 (x_12.map eHolding)), (105, .row 59 5 (x_14.map eHolding)), (106, .row 59 5 (x_27.map eHolding))]⟩) rfl ?_
            refine Fin.then ?_
            obtain ⟨v79, h80, h⟩ := bnd h
            refine Tri.seqJ (v := v79) (fun (_ : Unit) => ⟨[(0, .b (.one (.sl 5 (l0.map eHolding)))), (1, I node0), (11, .b (.ptr 101 0)), (21, .b (.one (.sl 5 (x_27.map eHolding)))), (22, .b (.one (.sl 6 (x_28.map eParcel))))], [(101, .box 45 [.i x0.From, .i x0.To, .i x0.Kind, .i x0.Body, .i x0.Epoch, .str x0.Data])]⟩) (fun z => .inl z) ?_ ?_
            · refine Tri.seq ?_
              refine Tri.regionL ?_
              refine OpsL.cons rfl (op_move rfl) ?_
              refine OpsL.cons rfl (op_move rfl) ?_
              refine OpsL.cons rfl (op_move rfl) ?_
              refine OpsL.cons rfl (op_move rfl) ?_
              refine OpsL.cons rfl (op_move rfl) ?_
              refine OpsL.persist 102 rfl ?_
              refine OpsL.persist 103 rfl ?_
              refine OpsL.persist 104 rfl ?_
              refine OpsL.persist 105 rfl ?_
              refine OpsL.persist 106 rfl ?_
              refine OpsL.keep [0, 1, 11, 21, 22, 163, 164, 165, 166, 167] [101] (s' := ⟨[(0, .b (.one (.sl 5 (l0.map eHolding)))), (1, I node0), (11, .b (.ptr 101 0)), (21, .b (.one (.sl 5 (x_27.map eHolding)))), (22, .b (.one (.sl 6 (x_28.map eParcel)))), (163, .b (.one (.sl 5 (x_8.map eHolding)))), (164, .b (.one (.sl 5 (x_10.map eHolding)))), (165, .b (.one (.sl 5 (x_12.map eHolding)))), (166, .b (.one (.sl 5 (x_14.map eHolding)))), (167, .b (.one (.sl 5 (x_27.map eHolding))))], [(101, .box 45 [.i x0.From, .i x0.To, .i x0.Kind, .i x0.Body, .i x0.Epoch, .str x0.Data])]⟩) rfl ?_
              refine OpsL.cons rfl (op_buildSlice (k := 110) (es := [x_8, x_10, x_12, x_14, x_27].map (eL 5 eHolding)) tySl37 rfl rfl (uni_map fun _ => rfl) rfl (by decide) (by decide) rfl) ?_
              refine OpsL.consI .i64 h80 rfl (op_len_r' und37 rfl rfl (List.length_map _)) (fun x_35 h80 => ?_)
              refine OpsL.cons rfl (op_move rfl) ?_
              refine OpsL.nilK [0, 1, 11, 21, 22, 168, 169, 170] [101, 110] (s' := ⟨[(0, .b (.one (.sl 5 (l0.map eHolding)))), (1, I node0), (11, .b (.ptr 101 0)), (21, .b (.one (.sl 5 (x_27.map eHolding)))), (22, .b (.one (.sl 6 (x_28.map eParcel)))), (168, .b (.row 110)), (169, I x_35), (170, I 0)], [(101, .box 45 [.i x0.From, .i x0.To, .i x0.Kind, .i x0.Body, .i x0.Epoch, .str x0.Data]), (110, .row 42 1 ([x_8, x_10, x_12, x_14, x_27].map (eL 5 eHolding)))]⟩) rfl ?_
              refine Tri.block ?_
              refine Tri.loopJ h80 (fun (x_36 : Int) => ⟨[(0, .b (.one (.sl 5 (l0.map eHolding)))), (1, I node0), (11, .b (.ptr 101 0)), (21, .b (.one (.sl 5 (x_27.map eHolding)))), (22, .b (.one (.sl 6 (x_28.map eParcel)))), (168, .b (.row 110)), (169, I x_35), (170, I x_36)], [(101, .box 45 [.i x0.From, .i x0.To, .i x0.Kind, .i x0.Body, .i x0.Epoch, .str x0.Data]), (110, .row 42 1 ([x_8, x_10, x_12, x_14, x_27].map (eL 5 eHolding)))]⟩) [0, 1, 11, 21, 22, 168, 169, 170] [101, 110] rfl ?_
              rintro x_36 o81 h82 hy83
              refine Tri.seq ?_
              refine Tri.regionL ?_
              refine OpsL.cons rfl (op_lss rfl rfl) ?_
              refine OpsL.nilK [0, 1, 11, 21, 22, 168, 169, 170, 171] [101, 110] (s' := ⟨[(0, .b (.one (.sl 5 (l0.map eHolding)))), (1, I node0), (11, .b (.ptr 101 0)), (21, .b (.one (.sl 5 (x_27.map eHolding)))), (22, .b (.one (.sl 6 (x_28.map eParcel)))), (168, .b (.row 110)), (169, I x_35), (170, I x_36), (171, B (decide (x_36 < x_35)))], [(101, .box 45 [.i x0.From, .i x0.To, .i x0.Kind, .i x0.Body, .i x0.Epoch, .str x0.Data]), (110, .row 42 1 ([x_8, x_10, x_12, x_14, x_27].map (eL 5 eHolding)))]⟩) rfl ?_
              refine Tri.seq ?_
              refine Tri.ite h82 rfl (fun _ h82 => ?_) (fun _ h82 => ?_)
              · refine Tri.skip ?_
                refine Fin.keep [0, 1, 11, 21, 22, 168, 169, 170] [101, 110] (s' := ⟨[(0, .b (.one (.sl 5 (l0.map eHolding)))), (1, I node0), (11, .b (.ptr 101 0)), (21, .b (.one (.sl 5 (x_27.map eHolding)))), (22, .b (.one (.sl 6 (x_28.map eParcel)))), (168, .b (.row 110)), (169, I x_35), (170, I x_36)], [(101, .box 45 [.i x0.From, .i x0.To, .i x0.Kind, .i x0.Body, .i x0.Epoch, .str x0.Data]), (110, .row 42 1 ([x_8, x_10, x_12, x_14, x_27].map (eL 5 eHolding)))]⟩) rfl ?_
                refine Fin.then ?_
                refine Tri.seq ?_
                refine Tri.block ?_
                refine Tri.seq ?_
                refine Tri.regionL ?_
                obtain ⟨x_37, e84, h82⟩ := bnd h82
                refine OpsL.cons rfl (op_index_r tySl37 (ix_lo e84) (ix_lt' e84) rfl rfl rfl rfl) ?_
                refine OpsL.cons rfl (op_load_r1 (i := (x_36 : Int).toNat) (f := 0) tyOne42 rfl rfl rfl (ix_map (e := (eL 5 eHolding)) e84) rfl) ?_
                refine OpsL.cons rfl (op_assign rfl) ?_
                refine OpsL.nilK [0, 1, 11, 21, 22, 25, 168, 169, 170] [101, 110] (s' := ⟨[(0, .b (.one (.sl 5 (l0.map eHolding)))), (1, I node0), (11, .b (.ptr 101 0)), (21, .b (.one (.sl 5 (x_27.map eHolding)))), (22, .b (.one (.sl 6 (x_28.map eParcel)))), (25, .b (.one (.sl 5 (x_37.map eHolding)))), (168, .b (.row 110)), (169, I x_35), (170, I x_36)], [(101, .box 45 [.i x0.From, .i x0.To, .i x0.Kind, .i x0.Body, .i x0.Epoch, .str x0.Data]), (110, .row 42 1 ([x_8, x_10, x_12, x_14, x_27].map (eL 5 eHolding)))]⟩) rfl ?_
                refine Tri.seq ?_
                refine Tri.regionL ?_
                refine OpsL.cons rfl (op_move rfl) ?_
                obtain ⟨x_38, e85, h82⟩ := bnd h82
                refine OpsL.cons rfl (op_call0 (region_Valid_spec e85) goes19 rfl rfl) ?_
                refine OpsL.cons rfl (op_not rfl) ?_
                refine OpsL.nilK [0, 1, 11, 21, 22, 168, 169, 170, 176] [101, 110] (s' := ⟨[(0, .b (.one (.sl 5 (l0.map eHolding)))), (1, I node0), (11, .b (.ptr 101 0)), (21, .b (.one (.sl 5 (x_27.map eHolding)))), (22, .b (.one (.sl 6 (x_28.map eParcel)))), (168, .b (.row 110)), (169, I x_35), (170, I x_36), (176, B (!x_38))], [(101, .box 45 [.i x0.From, .i x0.To, .i x0.Kind, .i x0.Body, .i x0.Epoch, .str x0.Data]), (110, .row 42 1 ([x_8, x_10, x_12, x_14, x_27].map (eL 5 eHolding)))]⟩) rfl ?_
                refine Tri.ite h82 rfl (fun _ h82 => ?_) (fun _ h82 => ?_)
                · refine Tri.seq ?_
                  refine Tri.regionL ?_
                  refine OpsL.cons rfl (op_assign rfl) ?_
                  refine OpsL.nilK [12] [] (s' := ⟨[(12, B false)], []⟩) rfl ?_
                  refine Tri.ret ?_
                  refine Fin.block_ret ?_
                  refine Fin.then_ret ?_
                  obtain rfl := hy83 _ (Option.some.inj h82).symm
                  refine Fin.then_ret ?_
                  refine Fin.block_ret ?_
                  refine Fin.then_ret ?_
                  obtain rfl := Option.some.inj h
                  refine Fin.keep [12] [] (s' := ⟨[(12, B false)], []⟩) rfl ?_
                  refine Fin.result' [.one (.bool false)] (.inl rfl) rfl (.cons (.tmp rfl) .nil) ⟨rfl, rfl⟩
                · refine Tri.skip ?_
                  refine Fin.block_normal ?_
                  refine Fin.keep [0, 1, 11, 21, 22, 168, 169, 170] [101, 110] (s' := ⟨[(0, .b (.one (.sl 5 (l0.map eHolding)))), (1, I node0), (11, .b (.ptr 101 0)), (21, .b (.one (.sl 5 (x_27.map eHolding)))), (22, .b (.one (.sl 6 (x_28.map eParcel)))), (168, .b (.row 110)), (169, I x_35), (170, I x_36)], [(101, .box 45 [.i x0.From, .i x0.To, .i x0.Kind, .i x0.Body, .i x0.Epoch, .str x0.Data]), (110, .row 42 1 ([x_8, x_10, x_12, x_14, x_27].map (eL 5 eHolding)))]⟩) rfl ?_
                  refine Fin.then ?_
                  refine Tri.regionL ?_
                  refine OpsL.cons rfl (op_add rfl rfl) ?_
                  refine OpsL.cons rfl (op_move rfl) ?_
                  refine OpsL.nil ?_
                  exact Fin.againJ [0, 1, 11, 21, 22, 168, 169, 170] [101, 110] (IntKind.i64.wrap (x_36 + 1)) (Option.some.inj h82) rfl
              · refine Tri.exit ?_
                refine Fin.then_exit ?_
                obtain rfl := hy83 _ (Option.some.inj h82).symm
                refine Fin.then_exit ?_
                refine Fin.block_exit ?_
                exact Fin.join [0, 1, 11, 21, 22] [101] () rfl rfl
            · rintro _ hv
              subst v79
              refine Tri.seq ?_
              refine Tri.regionL ?_
              refine OpsL.cons rfl (op_move rfl) ?_
              obtain ⟨x_39, e86, h⟩ := bnd h
              refine OpsL.cons rfl (op_call (region_Active_spec 111 e86) goes37 rfl trivial rfl rfl) ?_
              refine OpsL.cons rfl (op_move rfl) ?_
              refine OpsL.keep [1, 11, 21, 22, 179, 180] [101, 111] (s' := ⟨[(1, I node0), (11, .b (.ptr 101 0)), (21, .b (.one (.sl 5 (x_27.map eHolding)))), (22, .b (.one (.sl 6 (x_28.map eParcel)))), (179, .b (.row 111)), (180, .b (.one (.sl 5 (l0.map eHolding))))], [(101, .box 45 [.i x0.From, .i x0.To, .i x0.Kind, .i x0.Body, .i x0.Epoch, .str x0.Data]), (111, .row 3 1 (x_39.map eI))]⟩) rfl ?_
              obtain ⟨x_40, e87, h⟩ := bnd h
              refine OpsL.cons rfl (op_call (skewbackref41_Active_spec 112 e87) goes38 rfl trivial rfl rfl) ?_
              refine OpsL.cons rfl (op_assign rfl) ?_
              refine OpsL.cons rfl (op_assign rfl) ?_
              refine OpsL.nilK [1, 11, 21, 22, 26, 27] [101, 111, 112] (s' := ⟨[(1, I node0), (11, .b (.ptr 101 0)), (21, .b (.one (.sl 5 (x_27.map eHolding)))), (22, .b (.one (.sl 6 (x_28.map eParcel)))), (26, .b (.row 111)), (27, .b (.row 112))], [(101, .box 45 [.i x0.From, .i x0.To, .i x0.Kind, .i x0.Body, .i x0.Epoch, .str x0.Data]), (111, .row 3 1 (x_39.map eI)), (112, .row 3 1 (x_40.map eI))]⟩) rfl ?_
              refine Tri.seq ?_
              refine Tri.seq ?_
              refine Tri.regionL ?_
              refine OpsL.cons rfl (op_move rfl) ?_
              refine OpsL.cons rfl (op_len_r' und22 rfl rfl (List.length_map _)) ?_
              refine OpsL.cons rfl (op_move rfl) ?_
              refine OpsL.cons rfl (op_len_r' und22 rfl rfl (List.length_map _)) ?_
              refine OpsL.cons rfl (op_neq rfl rfl) ?_
              refine OpsL.nilK [1, 11, 21, 22, 26, 27, 186] [101, 111, 112] (s' := ⟨[(1, I node0), (11, .b (.ptr 101 0)), (21, .b (.one (.sl 5 (x_27.map eHolding)))), (22, .b (.one (.sl 6 (x_28.map eParcel)))), (26, .b (.row 111)), (27, .b (.row 112)), (186, B (decide ((x_39.length : Int) ≠ (x_40.length : Int))))], [(101, .box 45 [.i x0.From, .i x0.To, .i x0.Kind, .i x0.Body, .i x0.Epoch, .str x0.Data]), (111, .row 3 1 (x_39.map eI)), (112, .row 3 1 (x_40.map eI))]⟩) rfl ?_
              refine Tri.ite h rfl (fun _ h => ?_) (fun _ h => ?_)
              · refine Tri.seq ?_
                refine Tri.regionL ?_
                refine OpsL.cons rfl (op_assign rfl) ?_
                refine OpsL.nilK [12] [] (s' := ⟨[(12, B false)], []⟩) rfl ?_
                refine Tri.ret ?_
                refine Fin.then_ret ?_
                obtain rfl := Option.some.inj h
                refine Fin.keep [12] [] (s' := ⟨[(12, B false)], []⟩) rfl ?_
                refine Fin.result' [.one (.bool false)] (.inl rfl) rfl (.cons (.tmp rfl) .nil) ⟨rfl, rfl⟩
              · refine Tri.skip ?_
                refine Fin.keep [1, 11, 21, 22, 26, 27] [101, 111, 112] (s' := ⟨[(1, I node0), (11, .b (.ptr 101 0)), (21, .b (.one (.sl 5 (x_27.map eHolding)))), (22, .b (.one (.sl 6 (x_28.map eParcel)))), (26, .b (.row 111)), (27, .b (.row 112))], [(101, .box 45 [.i x0.From, .i x0.To, .i x0.Kind, .i x0.Body, .i x0.Epoch, .str x0.Data]), (111, .row 3 1 (x_39.map eI)), (112, .row 3 1 (x_40.map eI))]⟩) rfl ?_
                refine Fin.then ?_
                obtain ⟨v88, h89, h⟩ := bnd h
                refine Tri.seqJ (v := v88) (fun (_ : Unit) => ⟨[(1, I node0), (11, .b (.ptr 101 0)), (21, .b (.one (.sl 5 (x_27.map eHolding)))), (22, .b (.one (.sl 6 (x_28.map eParcel))))], [(101, .box 45 [.i x0.From, .i x0.To, .i x0.Kind, .i x0.Body, .i x0.Epoch, .str x0.Data])]⟩) (fun z => .inl z) ?_ ?_
                · refine Tri.seq ?_
                  refine Tri.regionL ?_
                  refine OpsL.cons rfl (op_move rfl) ?_
                  refine OpsL.cons rfl (op_len_r' und22 rfl rfl (List.length_map _)) ?_
                  refine OpsL.cons rfl (op_move rfl) ?_
                  refine OpsL.nilK [1, 11, 21, 22, 26, 27, 188, 189] [101, 111, 112] (s' := ⟨[(1, I node0), (11, .b (.ptr 101 0)), (21, .b (.one (.sl 5 (x_27.map eHolding)))), (22, .b (.one (.sl 6 (x_28.map eParcel)))), (26, .b (.row 111)), (27, .b (.row 112)), (188, I (x_39.length : Int)), (189, I 0)], [(101, .box 45 [.i x0.From, .i x0.To, .i x0.Kind, .i x0.Body, .i x0.Epoch, .str x0.Data]), (111, .row 3 1 (x_39.map eI)), (112, .row 3 1 (x_40.map eI))]⟩) rfl ?_
                  refine Tri.block ?_
                  refine Tri.loopJ h89 (fun (x_41 : Int) => ⟨[(1, I node0), (11, .b (.ptr 101 0)), (21, .b (.one (.sl 5 (x_27.map eHolding)))), (22, .b (.one (.sl 6 (x_28.map eParcel)))), (26, .b (.row 111)), (27, .b (.row 112)), (188, I (x_39.length : Int)), (189, I x_41)], [(101, .box 45 [.i x0.From, .i x0.To, .i x0.Kind, .i x0.Body, .i x0.Epoch, .str x0.Data]), (111, .row 3 1 (x_39.map eI)), (112, .row 3 1 (x_40.map eI))]⟩) [1, 11, 21, 22, 26, 27, 188, 189] [101, 111, 112] rfl ?_
                  rintro x_41 o90 h91 hy92
                  refine Tri.seq ?_
                  refine Tri.regionL ?_
                  refine OpsL.cons rfl (op_lss rfl rfl) ?_
                  refine OpsL.nilK [1, 11, 21, 22, 26, 27, 188, 189, 190] [101, 111, 112] (s' := ⟨[(1, I node0), (11, .b (.ptr 101 0)), (21, .b (.one (.sl 5 (x_27.map eHolding)))), (22, .b (.one (.sl 6 (x_28.map eParcel)))), (26, .b (.row 111)), (27, .b (.row 112)), (188, I (x_39.length : Int)), (189, I x_41), (190, B (decide (x_41 < (x_39.length : Int))))], [(101, .box 45 [.i x0.From, .i x0.To, .i x0.Kind, .i x0.Body, .i x0.Epoch, .str x0.Data]), (111, .row 3 1 (x_39.map eI)), (112, .row 3 1 (x_40.map eI))]⟩) rfl ?_
                  refine Tri.seq ?_
                  refine Tri.ite h91 rfl (fun _ h91 => ?_) (fun _ h91 => ?_)
                  · refine Tri.skip ?_
                    refine Fin.keep [1, 11, 21, 22, 26, 27, 188, 189] [101, 111, 112] (s' := ⟨[(1, I node0), (11, .b (.ptr 101 0)), (21, .b (.one (.sl 5 (x_27.map eHolding)))), (22, .b (.one (.sl 6 (x_28.map eParcel)))), (26, .b (.row 111)), (27, .b (.row 112)), (188, I (x_39.length : Int)), (189, I x_41)], [(101, .box 45 [.i x0.From, .i x0.To, .i x0.Kind, .i x0.Body, .i x0.Epoch, .str x0.Data]), (111, .row 3 1 (x_39.map eI)), (112, .row 3 1 (x_40.map eI))]⟩) rfl ?_
                    refine Fin.then ?_
                    refine Tri.seq ?_
                    refine Tri.block ?_
                    refine Tri.seq ?_
                    refine Tri.regionL ?_
                    refine OpsL.cons rfl (op_move rfl) ?_
                    refine OpsL.cons rfl (op_assign rfl) ?_
                    refine OpsL.nilK [1, 11, 21, 22, 26, 27, 28, 188, 189] [101, 111, 112] (s' := ⟨[(1, I node0), (11, .b (.ptr 101 0)), (21, .b (.one (.sl 5 (x_27.map eHolding)))), (22, .b (.one (.sl 6 (x_28.map eParcel)))), (26, .b (.row 111)), (27, .b (.row 112)), (28, I x_41), (188, I (x_39.length : Int)), (189, I x_41)], [(101, .box 45 [.i x0.From, .i x0.To, .i x0.Kind, .i x0.Body, .i x0.Epoch, .str x0.Data]), (111, .row 3 1 (x_39.map eI)), (112, .row 3 1 (x_40.map eI))]⟩) rfl ?_
                    refine Tri.seq ?_
                    refine Tri.keep [1, 11, 21, 22, 26, 27, 28, 188, 189] [101, 111, 112] (s' := ⟨[(1, I node0), (11, .b (.ptr 101 0)), (21, .b (.one (.sl 5 (x_27.map eHolding)))), (22, .b (.one (.sl 6 (x_28.map eParcel)))), (26, .b (.row 111)), (27, .b (.row 112)), (28, I x_41), (188, I (x_39.length : Int)), (189, I x_41)], [(101, .box 45 [.i x0.From, .i x0.To, .i x0.Kind, .i x0.Body, .i x0.Epoch, .str x0.Data]), (111, .row 3 1 (x_39.map eI)), (112, .row 3 1 (x_40.map eI))]⟩) rfl ?_
                    obtain ⟨x_42, e93, h91⟩ := bnd h91
                    obtain ⟨x_43, e94, h91⟩ := bnd h91
                    refine Tri.regionD mixed [.b (.row 111), I x_41, .b (.rptr 111 ((x_41 : Int).toNat * 1)), I x_42, .b (.row 112), I x_41, .b (.rptr 112 ((x_41 : Int).toNat * 1)), I x_43, B (decide (x_42 ≠ x_43))] [1, 11, 21, 22, 26, 27, 188, 189, 200] [101, 111, 112] (s' := ⟨[(1, I node0), (11, .b (.ptr 101 0)), (21, .b (.one (.sl 5 (x_27.map eHolding)))), (22, .b (.one (.sl 6 (x_28.map eParcel)))), (26, .b (.row 111)), (27, .b (.row 112)), (188, I (x_39.length : Int)), (189, I x_41), (200, B (decide (x_42 ≠ x_43)))], [(101, .box 45 [.i x0.From, .i x0.To, .i x0.Kind, .i x0.Body, .i x0.Epoch, .str x0.Data]), (111, .row 3 1 (x_39.map eI)), (112, .row 3 1 (x_40.map eI))]⟩) rfl ⟨fun _ => .plain rfl (op_move rfl), fun _ => .plain rfl (op_move rfl), fun _ => .plain rfl (op_index_r tySl22 (ix_lo e93) (ix_lt' e93) rfl rfl rfl rfl), fun _ => .plain rfl (op_load_r1 (i := (x_41 : Int).toNat) (f := 0) tyOne3 rfl rfl rfl (ix_map (e := eI) e93) rfl), fun _ => .plain rfl (op_move rfl), fun _ => .plain rfl (op_move rfl), fun _ => .plain rfl (op_index_r tySl22 (ix_lo e94) (ix_lt' e94) rfl rfl rfl rfl), fun _ => .plain rfl (op_load_r1 (i := (x_41 : Int).toNat) (f := 0) tyOne3 rfl rfl rfl (ix_map (e := eI) e94) rfl), fun _ => .plain rfl (op_neq rfl rfl), trivial⟩ rfl ?_
                    refine Tri.ite h91 rfl (fun _ h91 => ?_) (fun _ h91 => ?_)
                    · refine Tri.seq ?_
                      refine Tri.regionL ?_
                      refine OpsL.cons rfl (op_assign rfl) ?_
                      refine OpsL.nilK [12] [] (s' := ⟨[(12, B false)], []⟩) rfl ?_
                      refine Tri.ret ?_
                      refine Fin.block_ret ?_
                      refine Fin.then_ret ?_
                      obtain rfl := hy92 _ (Option.some.inj h91).symm
                      refine Fin.then_ret ?_
                      refine Fin.block_ret ?_
                      refine Fin.then_ret ?_
                      obtain rfl := Option.some.inj h
                      refine Fin.keep [12] [] (s' := ⟨[(12, B false)], []⟩) rfl ?_
                      refine Fin.result' [.one (.bool false)] (.inl rfl) rfl (.cons (.tmp rfl) .nil) ⟨rfl, rfl⟩
                    · refine Tri.skip ?_
                      refine Fin.block_normal ?_
                      refine Fin.keep [1, 11, 21, 22, 26, 27, 188, 189] [101, 111, 112] (s' := ⟨[(1, I node0), (11, .b (.ptr 101 0)), (21, .b (.one (.sl 5 (x_27.map eHolding)))), (22, .b (.one (.sl 6 (x_28.map eParcel)))), (26, .b (.row 111)), (27, .b (.row 112)), (188, I (x_39.length : Int)), (189, I x_41)], [(101, .box 45 [.i x0.From, .i x0.To, .i x0.Kind, .i x0.Body, .i x0.Epoch, .str x0.Data]), (111, .row 3 1 (x_39.map eI)), (112, .row 3 1 (x_40.map eI))]⟩) rfl ?_
                      refine Fin.then ?_
                      refine Tri.regionL ?_
                      refine OpsL.cons rfl (op_add rfl rfl) ?_
                      refine OpsL.cons rfl (op_move rfl) ?_
                      refine OpsL.nil ?_
                      exact Fin.againJ [1, 11, 21, 22, 26, 27, 188, 189] [101, 111, 112] (IntKind.i64.wrap (x_41 + 1)) (Option.some.inj h91) rfl
                  · refine Tri.exit ?_
                    refine Fin.then_exit ?_
                    obtain rfl := hy92 _ (Option.some.inj h91).symm
                    refine Fin.then_exit ?_
                    refine Fin.block_exit ?_
                    exact Fin.join [1, 11, 21, 22] [101] () rfl rfl
                · rintro _ hv
                  subst v88
                  refine Tri.seq ?_
                  refine Tri.regionL ?_
                  refine OpsL.cons rfl (op_move rfl) ?_
                  refine OpsL.cons rfl (op_move rfl) ?_
                  refine OpsL.cons rfl (op_load_p tyAgg45 rfl rfl rfl rfl) ?_
                  obtain ⟨⟨x_44, x_45⟩, e95, h⟩ := bnd h
                  refine OpsL.cons rfl (op_call (region_Receive_spec 113 e95) goes32 rfl trivial rfl rfl) ?_
                  refine OpsL.cons rfl (op_move rfl) ?_
                  refine OpsL.keep [11, 21, 22, 202] [101, 113] (s' := ⟨[(11, .b (.ptr 101 0)), (21, .b (.one (.sl 5 (x_27.map eHolding)))), (22, .b (.one (.sl 6 (x_28.map eParcel)))), (202, .tup [.row 113, .one (.sl 6 (x_45.map eParcel))])], [(101, .box 45 [.i x0.From, .i x0.To, .i x0.Kind, .i x0.Body, .i x0.Epoch, .str x0.Data]), (113, .row 59 5 (x_44.map eHolding))]⟩) rfl ?_
                  refine OpsL.cons rfl (op_extract rfl rfl) ?_
                  refine OpsL.cons rfl (op_extract rfl rfl) ?_
                  refine OpsL.cons rfl (op_assign rfl) ?_
                  refine OpsL.cons rfl (op_assign rfl) ?_
                  refine OpsL.nilK [11, 21, 22, 29, 30] [101, 113] (s' := ⟨[(11, .b (.ptr 101 0)), (21, .b (.one (.sl 5 (x_27.map eHolding)))), (22, .b (.one (.sl 6 (x_28.map eParcel)))), (29, .b (.row 113)), (30, .b (.one (.sl 6 (x_45.map eParcel))))], [(101, .box 45 [.i x0.From, .i x0.To, .i x0.Kind, .i x0.Body, .i x0.Epoch, .str x0.Data]), (113, .row 59 5 (x_44.map eHolding))]⟩) rfl ?_
                  refine Tri.seq ?_
                  refine Tri.regionL ?_
                  obtain ⟨x_46, e96, h⟩ := bnd h
                  refine OpsL.cons rfl (op_call0 (skewbacklaw41_sanity_spec e96) goes7 rfl rfl) ?_
                  refine OpsL.cons rfl (op_move rfl) ?_
                  refine OpsL.consG x_46 99 [] (.plain rfl) (eq_t _) rfl rfl (fun g97 => trivial) (fun g97 => op_move rfl) ?_
                  refine OpsL.consG x_46 99 [] (.plain rfl) (eq_t _) rfl rfl (fun g98 => trivial) (fun g98 => op_move rfl) ?_
                  refine OpsL.keep [11, 22, 30, 210, 211, 212] [101, 113] (s' := ⟨[(11, .b (.ptr 101 0)), (22, .b (.one (.sl 6 (x_28.map eParcel)))), (30, .b (.one (.sl 6 (x_45.map eParcel)))), (210, B x_46), (211, .opt x_46 (.row 113)), (212, .opt x_46 (.one (.sl 5 (x_27.map eHolding))))], [(101, .box 45 [.i x0.From, .i x0.To, .i x0.Kind, .i x0.Body, .i x0.Epoch, .str x0.Data]), (113, .row 59 5 (x_44.map eHolding))]⟩) rfl ?_
                  obtain ⟨x_47, e100, h⟩ := bnd h
                  refine OpsL.consG x_46 99 [211, 212] (.plain rfl) (eq_t _) rfl rfl (fun g99 => ⟨g99, g99, trivial⟩) (fun g99 => op_callB (skewbackref41_Same_spec (gc e100 g99)) goes34 rfl CP.flat_bool) ?_
                  refine OpsL.cons rfl (op_pick_and (fun e => e) rfl rfl rfl rfl) ?_
                  refine OpsL.cons rfl (op_move rfl) ?_
                  refine OpsL.consG (x_46 && x_47) 99 [] (.plain rfl) (eq_t _) rfl rfl (fun g101 => trivial) (fun g101 => op_field_p tyFld45_2 rfl rfl) ?_
                  refine OpsL.consG (x_46 && x_47) 99 [216] (.plain rfl) (eq_t _) rfl rfl (fun g102 => ⟨g102, trivial⟩) (fun g102 => op_load_p1 tyOne3 rfl rfl rfl) ?_
                  refine OpsL.consG (x_46 && x_47) 99 [217] (.plain rfl) (eq_t _) rfl rfl (fun g103 => ⟨g103, trivial⟩) (fun g103 => op_neq rfl rfl) ?_
                  refine OpsL.consG (x_46 && x_47) 99 [218] (.plain rfl) (eq_t _) rfl rfl (fun g104 => ⟨g104, trivial⟩) (fun g104 => op_move rfl) ?_
                  refine OpsL.consG ((x_46 && x_47) && !(decide (x0.Kind ≠ 3))) 99 [] (.under rfl) (and_f _ _) rfl rfl (fun g105 => trivial) (fun g105 => op_move rfl) ?_
                  refine OpsL.keep [30, 215, 219, 220] [] (s' := ⟨[(30, .b (.one (.sl 6 (x_45.map eParcel)))), (215, B (x_46 && x_47)), (219, .opt (x_46 && x_47) (.one (.bool (decide (x0.Kind ≠ 3))))), (220, .opt ((x_46 && x_47) && !(decide (x0.Kind ≠ 3))) (.one (.sl 6 (x_28.map eParcel))))], []⟩) rfl ?_
                  refine OpsL.consG ((x_46 && x_47) && !(decide (x0.Kind ≠ 3))) 99 [] (.under rfl) (and_f _ _) rfl rfl (fun g106 => trivial) (fun g106 => op_move rfl) ?_
                  obtain ⟨x_48, e108, h⟩ := bnd h
                  refine OpsL.consG ((x_46 && x_47) && !(decide (x0.Kind ≠ 3))) 99 [220, 221] (.under rfl) (and_f _ _) rfl rfl (fun g107 => ⟨g107, g107, trivial⟩) (fun g107 => op_call0 (skewbackref41_SameLetters_spec (gc e108 g107)) goes35 rfl rfl) ?_
                  refine OpsL.consG (x_46 && x_47) 99 [219] (.plain rfl) (eq_t _) rfl rfl (fun g109 => ⟨g109, trivial⟩) (fun g109 => op_pick_or (fun e => by rw [g109, e]; rfl) rfl rfl rfl rfl) ?_
                  refine OpsL.cons rfl (op_pick_and (fun e => e) rfl rfl rfl rfl) ?_
                  refine OpsL.cons rfl (op_assign rfl) ?_
                  refine OpsL.nilK [12] [] (s' := ⟨[(12, B ((x_46 && x_47) && ((decide (x0.Kind ≠ 3)) || x_48)))], []⟩) rfl ?_
                  refine Tri.ret ?_
                  obtain rfl := Option.some.inj h
                  refine Fin.keep [12] [] (s' := ⟨[(12, B ((x_46 && x_47) && ((decide (x0.Kind ≠ 3)) || x_48)))], []⟩) rfl ?_
                  refine Fin.result' [.one (.bool ((x_46 && x_47) && ((decide (x0.Kind ≠ 3)) || x_48)))] (.inl rfl) rfl (.cons (.tmp rfl) .nil) ⟨rfl, rfl⟩

end Go.Proofs.Ytipepglcceogiaa
