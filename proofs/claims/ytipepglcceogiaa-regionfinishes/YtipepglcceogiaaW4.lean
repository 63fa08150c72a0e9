/- printed walks -/
import Derived.Test.YtipepglcceogiaaW3
namespace Go.Proofs.Ytipepglcceogiaa
open Go.Sk
set_option maxHeartbeats 1000000
set_option maxRecDepth 4000
set_option linter.unusedSimpArgs false
set_option linter.unusedVariables false
def skewbacklaw41_RegionFinishes_S (F : Nat) (n0 : Int) (l0 : List ROp) (late0 : List Int) : Option Bool :=
 letN ((decide (80 < (l0.length : Int))) || (decide (60 < (late0.length : Int)))) fun x_1 => if x_1 = true then (Option.bind (skewbacklaw41_sanity_S F) (fun x_2 => some x_2)) else (letN (IntKind.i64.wrap (2 + (Int.tmod (IntKind.i64.wrap n0) 3))) fun x_3 => Option.bind (skewbacklaw41_began_S F x_3) (un4 fun x_4 x_5 x_6 x_7 => if (!x_4) = true then (some false) else (Option.bind (iter F (un4 fun all_11 sent_12 last_13 x_14 => if (decide (x_14 < (l0.length : Int))) = true then (Option.bind (idx? l0 x_14) (fun x_18 => Option.bind (skewbacklaw41_yard_do_S F x_18 last_13 all_11 sent_12) (un3 fun x_19 x_20 x_21 => some (.inl (x_20, x_21, x_19, IntKind.i64.wrap (x_14 + 1)))))) else (some (.inr (all_11, sent_12, last_13)))) (x_6, x_7, x_5, 0)) (un3 fun all_8 sent_9 last_10 => Option.bind (iter F (un3 fun all_24 sent_25 x_26 => if (decide (x_26 < 3)) = true then (Option.bind (Option.bind (iter F (un2 fun sent_32 x_33 => if (decide (x_33 < (all_24.length : Int))) = true then (Option.bind (idx? all_24 x_33) (fun x_35 => Option.bind (region_Letters_S F x_35 x_33) (fun x_36 => Option.bind (app? sent_32 x_36) (fun x_37 => some (.inl (x_37, IntKind.i64.wrap (x_33 + 1))))))) else (some (.inr sent_32))) (sent_25, 0)) (fun sent_31 => Option.bind (iter F (un3 fun all_38 sent_39 i_40 => letN ((decide (i_40 < (sent_39.length : Int))) && (decide (i_40 < 10000))) fun x_43 => if x_43 = true then (Option.bind (idx? sent_39 i_40) (fun x_44 => Option.bind (skewbacklaw41_yard_arrive_S F x_44 last_10 all_38 sent_39) (un2 fun x_45 x_46 => some (.inl (x_45, x_46, IntKind.i64.wrap (i_40 + 1)))))) else (some (.inr (all_38, sent_39)))) (all_24, sent_31, (sent_25.length : Int))) (un2 fun all_41 sent_42 => some (all_41, sent_42)))) (un2 fun all_29 sent_30 => some (.inl (all_29, sent_30, IntKind.i64.wrap (x_26 + 1))))) else (some (.inr (all_24, sent_25)))) (all_8, sent_9, 0)) (un2 fun all_22 sent_23 => Option.bind (skewbacklaw41_yard_done_S F last_10 all_22 sent_23) (fun x_47 => if (!x_47) = true then (some false) else (Option.bind (iter F (un3 fun all_50 sent_51 x_52 => if (decide (x_52 < (late0.length : Int))) = true then (Option.bind (Option.bind (idx? late0 x_52) (fun x_57 => if (decide (0 < (sent_51.length : Int))) = true then (Option.bind (rem? (IntKind.i64.wrap x_57) (sent_51.length : Int)) (fun x_58 => Option.bind (idx? sent_51 x_58) (fun x_59 => Option.bind (skewbacklaw41_yard_arrive_S F x_59 last_10 all_50 sent_51) (un2 fun x_60 x_61 => some (x_60, x_61))))) else (some (all_50, sent_51)))) (un2 fun all_55 sent_56 => some (.inl (all_55, sent_56, IntKind.i64.wrap (x_52 + 1))))) else (some (.inr (all_50, sent_51)))) (all_22, sent_23, 0)) (un2 fun all_48 sent_49 => Option.bind (skewbacklaw41_sanity_S F) (fun x_62 => Option.bind (gcall x_62 (skewbacklaw41_yard_done_S F last_10 all_48 sent_49)) (fun x_63 => some (x_62 && x_63)))))))))))
theorem skewbacklaw41_RegionFinishes_spec {F : Nat} {n0 : Int} {l0 : List ROp} {late0 : List Int} {r : Bool} (h : skewbacklaw41_RegionFinishes_S F n0 l0 late0 = some r) : Meets Try.prog 5 [] [.one (.int .u8 n0), .one (.sl 4 (l0.map eROp)), .one (.sl 1 (late0.map (eK .u8)))] (Is [] (.b (.one (.bool r)))) := by
  unfold skewbacklaw41_RegionFinishes_S at h
  refine Meets.intro 137 Try.func5 Try.ntmps5 rfl (by simp) fun E => ?_
  show Tri _ E ⟨137, [], []⟩ _ ⟨[(0, .b (.one (.int .u8 n0))), (1, .b (.one (.sl 4 (l0.map eROp)))), (2, .b (.one (.sl 1 (late0.map (eK .u8)))))], []⟩ _
  refine Tri.seq ?_
  refine Tri.regionL ?_
  refine OpsL.cons rfl (op_assign rfl) ?_
  refine OpsL.nilK [0, 1, 2] [] (s' := ⟨[(0, .b (.one (.int .u8 n0))), (1, .b (.one (.sl 4 (l0.map eROp)))), (2, .b (.one (.sl 1 (late0.map (eK .u8)))))], []⟩) rfl ?_
  refine Tri.seq ?_
  refine Tri.seq ?_
  refine Tri.regionL ?_
  refine OpsL.cons rfl (op_move rfl) ?_
  refine OpsL.cons rfl (op_len_e' und28 rfl (List.length_map _)) ?_
  refine OpsL.cons rfl (op_gtr rfl rfl) ?_
  refine OpsL.cons rfl (op_move rfl) ?_
  refine OpsL.consG (!(decide (80 < (l0.length : Int)))) 99 [] (.plain rfl) (eq_f _) rfl rfl (fun g1 => trivial) (fun g1 => op_move rfl) ?_
  refine OpsL.keep [0, 1, 2, 20, 21] [] (s' := ⟨[(0, .b (.one (.int .u8 n0))), (1, .b (.one (.sl 4 (l0.map eROp)))), (2, .b (.one (.sl 1 (late0.map (eK .u8))))), (20, B (decide (80 < (l0.length : Int)))), (21, .opt (!(decide (80 < (l0.length : Int)))) (.one (.sl 1 (late0.map (eK .u8)))))], []⟩) rfl ?_
  refine OpsL.consG (!(decide (80 < (l0.length : Int)))) 99 [21] (.plain rfl) (eq_f _) rfl rfl (fun g2 => ⟨g2, trivial⟩) (fun g2 => op_len_e' und36 rfl (List.length_map _)) ?_
  refine OpsL.consG (!(decide (80 < (l0.length : Int)))) 99 [22] (.plain rfl) (eq_f _) rfl rfl (fun g3 => ⟨g3, trivial⟩) (fun g3 => op_gtr rfl rfl) ?_
  refine OpsL.consB h rfl (op_pick_or (fun e => by rw [e]; rfl) rfl rfl rfl rfl) (fun x_1 h => ?_)
  refine OpsL.nilK [0, 1, 2, 24] [] (s' := ⟨[(0, .b (.one (.int .u8 n0))), (1, .b (.one (.sl 4 (l0.map eROp)))), (2, .b (.one (.sl 1 (late0.map (eK .u8))))), (24, B x_1)], []⟩) rfl ?_
  refine Tri.ite h rfl (fun _ h => ?_) (fun _ h => ?_)
  · refine Tri.seq ?_
    refine Tri.regionL ?_
    obtain ⟨x_2, e4, h⟩ := bnd h
    refine OpsL.cons rfl (op_call0 (skewbacklaw41_sanity_spec e4) goes7 rfl rfl) ?_
    refine OpsL.cons rfl (op_assign rfl) ?_
    refine OpsL.nilK [6] [] (s' := ⟨[(6, B x_2)], []⟩) rfl ?_
    refine Tri.ret ?_
    refine Fin.then_ret ?_
    obtain rfl := Option.some.inj h
    refine Fin.keep [6] [] (s' := ⟨[(6, B x_2)], []⟩) rfl ?_
    refine Fin.result' [.one (.bool x_2)] (.inl rfl) rfl (.cons (.tmp rfl) .nil) ⟨rfl, rfl⟩
  · refine Tri.skip ?_
    refine Fin.keep [0, 1, 2] [] (s' := ⟨[(0, .b (.one (.int .u8 n0))), (1, .b (.one (.sl 4 (l0.map eROp)))), (2, .b (.one (.sl 1 (late0.map (eK .u8)))))], []⟩) rfl ?_
    refine Fin.then ?_
    refine Tri.seq ?_
    refine Tri.regionL ?_
    refine OpsL.cons rfl (op_move rfl) ?_
    refine OpsL.cons rfl (op_conv_wrap undi5 undi3 rfl) ?_
    refine OpsL.cons rfl (op_rem (by decide) rfl rfl) ?_
    refine OpsL.consI .i64 h rfl (op_add rfl rfl) (fun x_3 h => ?_)
    obtain ⟨⟨x_4, x_5, x_6, x_7⟩, e5, h⟩ := bnd h
    refine OpsL.cons rfl (op_call (own_a := []) ((((skewbacklaw41_began_spec e5).sw 60 101).sw 61 102).sw 62 103) goes12 rfl trivial rfl rfl) ?_
    refine OpsL.keep [1, 2, 31] [101, 102, 103] (s' := ⟨[(1, .b (.one (.sl 4 (l0.map eROp)))), (2, .b (.one (.sl 1 (late0.map (eK .u8))))), (31, .tup [.ptr 101 0, .one (.bool x_4)])], [(101, .xbox 40 [.row 102, .row 103, .one (.str x_5)]), (102, .row 42 1 (x_6.map (eL 5 eHolding))), (103, .row 45 6 (x_7.map eParcel))]⟩) rfl ?_
    refine OpsL.cons rfl (op_move rfl) ?_
    refine OpsL.cons rfl (op_extract rfl rfl) ?_
    refine OpsL.cons rfl (op_extract rfl rfl) ?_
    refine OpsL.cons rfl (op_assign rfl) ?_
    refine OpsL.cons rfl (op_assign rfl) ?_
    refine OpsL.nilK [1, 2, 7, 8] [101, 102, 103] (s' := ⟨[(1, .b (.one (.sl 4 (l0.map eROp)))), (2, .b (.one (.sl 1 (late0.map (eK .u8))))), (7, .b (.ptr 101 0)), (8, B x_4)], [(101, .xbox 40 [.row 102, .row 103, .one (.str x_5)]), (102, .row 42 1 (x_6.map (eL 5 eHolding))), (103, .row 45 6 (x_7.map eParcel))]⟩) rfl ?_
    refine Tri.seq ?_
    refine Tri.seq ?_
    refine Tri.regionL ?_
    refine OpsL.cons rfl (op_move rfl) ?_
    refine OpsL.cons rfl (op_not rfl) ?_
    refine OpsL.nilK [1, 2, 7, 35] [101, 102, 103] (s' := ⟨[(1, .b (.one (.sl 4 (l0.map eROp)))), (2, .b (.one (.sl 1 (late0.map (eK .u8))))), (7, .b (.ptr 101 0)), (35, B (!x_4))], [(101, .xbox 40 [.row 102, .row 103, .one (.str x_5)]), (102, .row 42 1 (x_6.map (eL 5 eHolding))), (103, .row 45 6 (x_7.map eParcel))]⟩) rfl ?_
    refine Tri.ite h rfl (fun _ h => ?_) (fun _ h => ?_)
    · refine Tri.seq ?_
      refine Tri.regionL ?_
      refine OpsL.cons rfl (op_assign rfl) ?_
      refine OpsL.nilK [6] [] (s' := ⟨[(6, B false)], []⟩) rfl ?_
      refine Tri.ret ?_
      refine Fin.then_ret ?_
      obtain rfl := Option.some.inj h
      refine Fin.keep [6] [] (s' := ⟨[(6, B false)], []⟩) rfl ?_
      refine Fin.result' [.one (.bool false)] (.inl rfl) rfl (.cons (.tmp rfl) .nil) ⟨rfl, rfl⟩
    · refine Tri.skip ?_
      refine Fin.keep [1, 2, 7] [101, 102, 103] (s' := ⟨[(1, .b (.one (.sl 4 (l0.map eROp)))), (2, .b (.one (.sl 1 (late0.map (eK .u8))))), (7, .b (.ptr 101 0))], [(101, .xbox 40 [.row 102, .row 103, .one (.str x_5)]), (102, .row 42 1 (x_6.map (eL 5 eHolding))), (103, .row 45 6 (x_7.map eParcel))]⟩) rfl ?_
      refine Fin.then ?_
      obtain ⟨v6, h7, h⟩ := bnd h
      refine Tri.seqJ (v := v6) (un3 fun (all_8 : List (List Holding)) (sent_9 : List Parcel) (last_10 : Str) => ⟨[(2, .b (.one (.sl 1 (late0.map (eK .u8))))), (7, .b (.ptr 101 0))], [(101, .xbox 40 [.row 102, .row 103, .one (.str last_10)]), (102, .row 42 1 (all_8.map (eL 5 eHolding))), (103, .row 45 6 (sent_9.map eParcel))]⟩) (fun z => z) ?_ ?_
      · refine Tri.seq ?_
        refine Tri.regionL ?_
        refine OpsL.cons rfl (op_move rfl) ?_
        refine OpsL.cons rfl (op_len_e' und28 rfl (List.length_map _)) ?_
        refine OpsL.cons rfl (op_move rfl) ?_
        refine OpsL.nilK [2, 7, 36, 37, 38] [101, 102, 103] (s' := ⟨[(2, .b (.one (.sl 1 (late0.map (eK .u8))))), (7, .b (.ptr 101 0)), (36, .b (.one (.sl 4 (l0.map eROp)))), (37, I (l0.length : Int)), (38, I 0)], [(101, .xbox 40 [.row 102, .row 103, .one (.str x_5)]), (102, .row 42 1 (x_6.map (eL 5 eHolding))), (103, .row 45 6 (x_7.map eParcel))]⟩) rfl ?_
        refine Tri.block ?_
        refine Tri.loopJ h7 (un4 fun (all_11 : List (List Holding)) (sent_12 : List Parcel) (last_13 : Str) (x_14 : Int) => ⟨[(2, .b (.one (.sl 1 (late0.map (eK .u8))))), (7, .b (.ptr 101 0)), (36, .b (.one (.sl 4 (l0.map eROp)))), (37, I (l0.length : Int)), (38, I x_14)], [(101, .xbox 40 [.row 102, .row 103, .one (.str last_13)]), (102, .row 42 1 (all_11.map (eL 5 eHolding))), (103, .row 45 6 (sent_12.map eParcel))]⟩) [2, 7, 36, 37, 38] [101, 102, 103] rfl ?_
        rintro ⟨all_11, sent_12, last_13, x_14⟩ o8 h9 hy10
        refine Tri.seq ?_
        refine Tri.regionL ?_
        refine OpsL.cons rfl (op_lss rfl rfl) ?_
        refine OpsL.nilK [2, 7, 36, 37, 38, 39] [101, 102, 103] (s' := ⟨[(2, .b (.one (.sl 1 (late0.map (eK .u8))))), (7, .b (.ptr 101 0)), (36, .b (.one (.sl 4 (l0.map eROp)))), (37, I (l0.length : Int)), (38, I x_14), (39, B (decide (x_14 < (l0.length : Int))))], [(101, .xbox 40 [.row 102, .row 103, .one (.str last_13)]), (102, .row 42 1 (all_11.map (eL 5 eHolding))), (103, .row 45 6 (sent_12.map eParcel))]⟩) rfl ?_
        refine Tri.seq ?_
        refine Tri.ite h9 rfl (fun _ h9 => ?_) (fun _ h9 => ?_)
        · refine Tri.skip ?_
          refine Fin.keep [2, 7, 36, 37, 38] [101, 102, 103] (s' := ⟨[(2, .b (.one (.sl 1 (late0.map (eK .u8))))), (7, .b (.ptr 101 0)), (36, .b (.one (.sl 4 (l0.map eROp)))), (37, I (l0.length : Int)), (38, I x_14)], [(101, .xbox 40 [.row 102, .row 103, .one (.str last_13)]), (102, .row 42 1 (all_11.map (eL 5 eHolding))), (103, .row 45 6 (sent_12.map eParcel))]⟩) rfl ?_
          refine Fin.then ?_
          refine Tri.seq ?_
          refine Tri.block ?_
          refine Tri.seq ?_
          refine Tri.regionL ?_
          obtain ⟨x_18, e11, h9⟩ := bnd h9
          refine OpsL.cons rfl (op_index_e tySl28 (ix_lo e11) (ix_map (e := eROp) e11) rfl rfl) ?_
          refine OpsL.cons rfl (op_load_e tyAgg33 rfl rfl rfl) ?_
          refine OpsL.cons rfl (op_alloc (k := 104) tyZero33 rfl) ?_
          refine OpsL.cons rfl (op_store_p tyAgg33 rfl rfl rfl rfl (Nat.le_of_ble_eq_true rfl) rfl) ?_
          refine OpsL.nilK [2, 7, 10, 36, 37, 38] [101, 102, 103, 104] (s' := ⟨[(2, .b (.one (.sl 1 (late0.map (eK .u8))))), (7, .b (.ptr 101 0)), (10, .b (.ptr 104 0)), (36, .b (.one (.sl 4 (l0.map eROp)))), (37, I (l0.length : Int)), (38, I x_14)], [(101, .xbox 40 [.row 102, .row 103, .one (.str last_13)]), (102, .row 42 1 (all_11.map (eL 5 eHolding))), (103, .row 45 6 (sent_12.map eParcel)), (104, .box 33 [.i x_18.Kind, .i x_18.Node, .i x_18.To, .i x_18.N])]⟩) rfl ?_
          refine Tri.regionL ?_
          refine OpsL.cons rfl (op_move rfl) ?_
          refine OpsL.cons rfl (op_load_p tyAgg33 rfl rfl rfl rfl) ?_
          obtain ⟨⟨x_19, x_20, x_21⟩, e12, h9⟩ := bnd h9
          refine OpsL.cons rfl (op_call (own_a := [(101, _), (102, _), (103, _)]) ((((skewbacklaw41_yard_do_spec e12).sw 1 101).sw 2 102).sw 3 103) goes13 rfl ⟨rfl, rfl, rfl, trivial⟩ rfl rfl) ?_
          refine OpsL.nil ?_
          refine Fin.block_normal ?_
          refine Fin.keep [2, 7, 36, 37, 38] [101, 102, 103] (s' := ⟨[(2, .b (.one (.sl 1 (late0.map (eK .u8))))), (7, .b (.ptr 101 0)), (36, .b (.one (.sl 4 (l0.map eROp)))), (37, I (l0.length : Int)), (38, I x_14)], [(101, .xbox 40 [.row 102, .row 103, .one (.str x_19)]), (102, .row 42 1 (x_20.map (eL 5 eHolding))), (103, .row 45 6 (x_21.map eParcel))]⟩) rfl ?_
          refine Fin.then ?_
          refine Tri.regionL ?_
          refine OpsL.cons rfl (op_add rfl rfl) ?_
          refine OpsL.cons rfl (op_move rfl) ?_
          refine OpsL.nil ?_
          exact Fin.againJ [2, 7, 36, 37, 38] [101, 102, 103] (x_20, x_21, x_19, IntKind.i64.wrap (x_14 + 1)) (Option.some.inj h9) rfl
        · refine Tri.exit ?_
          refine Fin.then_exit ?_
          obtain rfl := hy10 _ (Option.some.inj h9).symm
          refine Fin.then_exit ?_
          refine Fin.block_exit ?_
          exact Fin.join [2, 7] [101, 102, 103] (all_11, sent_12, last_13) rfl rfl
      · rintro ⟨all_8, sent_9, last_10⟩ hv
        subst v6
        obtain ⟨v13, h14, h⟩ := bnd h
        refine Tri.seqJ (v := v13) (un2 fun (all_22 : List (List Holding)) (sent_23 : List Parcel) => ⟨[(2, .b (.one (.sl 1 (late0.map (eK .u8))))), (7, .b (.ptr 101 0))], [(101, .xbox 40 [.row 102, .row 103, .one (.str last_10)]), (102, .row 42 1 (all_22.map (eL 5 eHolding))), (103, .row 45 6 (sent_23.map eParcel))]⟩) (fun z => z) ?_ ?_
        · refine Tri.seq ?_
          refine Tri.regionL ?_
          refine OpsL.cons rfl (op_move rfl) ?_
          refine OpsL.nilK [2, 7, 46] [101, 102, 103] (s' := ⟨[(2, .b (.one (.sl 1 (late0.map (eK .u8))))), (7, .b (.ptr 101 0)), (46, I 0)], [(101, .xbox 40 [.row 102, .row 103, .one (.str last_10)]), (102, .row 42 1 (all_8.map (eL 5 eHolding))), (103, .row 45 6 (sent_9.map eParcel))]⟩) rfl ?_
          refine Tri.block ?_
          refine Tri.loopJ h14 (un3 fun (all_24 : List (List Holding)) (sent_25 : List Parcel) (x_26 : Int) => ⟨[(2, .b (.one (.sl 1 (late0.map (eK .u8))))), (7, .b (.ptr 101 0)), (46, I x_26)], [(101, .xbox 40 [.row 102, .row 103, .one (.str last_10)]), (102, .row 42 1 (all_24.map (eL 5 eHolding))), (103, .row 45 6 (sent_25.map eParcel))]⟩) [2, 7, 46] [101, 102, 103] rfl ?_
          rintro ⟨all_24, sent_25, x_26⟩ o15 h16 hy17
          refine Tri.seq ?_
          refine Tri.regionL ?_
          refine OpsL.cons rfl (op_lss rfl rfl) ?_
          refine OpsL.nilK [2, 7, 46, 47] [101, 102, 103] (s' := ⟨[(2, .b (.one (.sl 1 (late0.map (eK .u8))))), (7, .b (.ptr 101 0)), (46, I x_26), (47, B (decide (x_26 < 3)))], [(101, .xbox 40 [.row 102, .row 103, .one (.str last_10)]), (102, .row 42 1 (all_24.map (eL 5 eHolding))), (103, .row 45 6 (sent_25.map eParcel))]⟩) rfl ?_
          refine Tri.seq ?_
          refine Tri.ite h16 rfl (fun _ h16 => ?_) (fun _ h16 => ?_)
          · refine Tri.skip ?_
            refine Fin.keep [2, 7, 46] [101, 102, 103] (s' := ⟨[(2, .b (.one (.sl 1 (late0.map (eK .u8))))), (7, .b (.ptr 101 0)), (46, I x_26)], [(101, .xbox 40 [.row 102, .row 103, .one (.str last_10)]), (102, .row 42 1 (all_24.map (eL 5 eHolding))), (103, .row 45 6 (sent_25.map eParcel))]⟩) rfl ?_
            refine Fin.then ?_
            obtain ⟨v18, h19, h16⟩ := bnd h16
            refine Tri.seqJ (v := v18) (un2 fun (all_29 : List (List Holding)) (sent_30 : List Parcel) => ⟨[(2, .b (.one (.sl 1 (late0.map (eK .u8))))), (7, .b (.ptr 101 0)), (46, I x_26)], [(101, .xbox 40 [.row 102, .row 103, .one (.str last_10)]), (102, .row 42 1 (all_29.map (eL 5 eHolding))), (103, .row 45 6 (sent_30.map eParcel))]⟩) (fun z => z) ?_ ?_
            · refine Tri.block ?_
              refine Tri.seq ?_
              refine Tri.regionL ?_
              refine OpsL.cons rfl (op_move rfl) ?_
              refine OpsL.cons rfl (op_nilCheck_p rfl) ?_
              refine OpsL.cons rfl (op_field_p tyFld40_1 rfl rfl) ?_
              refine OpsL.cons rfl (op_load_x1 tyOne38 rfl rfl rfl) ?_
              refine OpsL.cons rfl (op_len_r' und38 rfl rfl (List.length_map _)) ?_
              refine OpsL.cons rfl (op_assign rfl) ?_
              refine OpsL.nilK [2, 7, 11, 46] [101, 102, 103] (s' := ⟨[(2, .b (.one (.sl 1 (late0.map (eK .u8))))), (7, .b (.ptr 101 0)), (11, I (sent_25.length : Int)), (46, I x_26)], [(101, .xbox 40 [.row 102, .row 103, .one (.str last_10)]), (102, .row 42 1 (all_24.map (eL 5 eHolding))), (103, .row 45 6 (sent_25.map eParcel))]⟩) rfl ?_
              obtain ⟨v20, h21, h19⟩ := bnd h19
              refine Tri.seqJ (v := v20) (fun (sent_31 : List Parcel) => ⟨[(2, .b (.one (.sl 1 (late0.map (eK .u8))))), (7, .b (.ptr 101 0)), (11, I (sent_25.length : Int)), (46, I x_26)], [(101, .xbox 40 [.row 102, .row 103, .one (.str last_10)]), (102, .row 42 1 (all_24.map (eL 5 eHolding))), (103, .row 45 6 (sent_31.map eParcel))]⟩) (fun z => z) ?_ ?_
              · refine Tri.seq ?_
                refine Tri.regionL ?_
                refine OpsL.cons rfl (op_move rfl) ?_
                refine OpsL.cons rfl (op_nilCheck_p rfl) ?_
                refine OpsL.cons rfl (op_field_p tyFld40_0 rfl rfl) ?_
                refine OpsL.cons rfl (op_load_x1 tyOne37 rfl rfl rfl) ?_
                refine OpsL.cons rfl (op_len_r' und37 rfl rfl (List.length_map _)) ?_
                refine OpsL.cons rfl (op_move rfl) ?_
                refine OpsL.nilK [2, 7, 11, 46, 57, 58] [101, 102, 103] (s' := ⟨[(2, .b (.one (.sl 1 (late0.map (eK .u8))))), (7, .b (.ptr 101 0)), (11, I (sent_25.length : Int)), (46, I x_26), (57, I (all_24.length : Int)), (58, I 0)], [(101, .xbox 40 [.row 102, .row 103, .one (.str last_10)]), (102, .row 42 1 (all_24.map (eL 5 eHolding))), (103, .row 45 6 (sent_25.map eParcel))]⟩) rfl ?_
                refine Tri.block ?_
                refine Tri.loopJ h21 (un2 fun (sent_32 : List Parcel) (x_33 : Int) => ⟨[(2, .b (.one (.sl 1 (late0.map (eK .u8))))), (7, .b (.ptr 101 0)), (11, I (sent_25.length : Int)), (46, I x_26), (57, I (all_24.length : Int)), (58, I x_33)], [(101, .xbox 40 [.row 102, .row 103, .one (.str last_10)]), (102, .row 42 1 (all_24.map (eL 5 eHolding))), (103, .row 45 6 (sent_32.map eParcel))]⟩) [2, 7, 11, 46, 57, 58] [101, 102, 103] rfl ?_
                rintro ⟨sent_32, x_33⟩ o22 h23 hy24
                refine Tri.seq ?_
                refine Tri.regionL ?_
                refine OpsL.cons rfl (op_lss rfl rfl) ?_
                refine OpsL.nilK [2, 7, 11, 46, 57, 58, 59] [101, 102, 103] (s' := ⟨[(2, .b (.one (.sl 1 (late0.map (eK .u8))))), (7, .b (.ptr 101 0)), (11, I (sent_25.length : Int)), (46, I x_26), (57, I (all_24.length : Int)), (58, I x_33), (59, B (decide (x_33 < (all_24.length : Int))))], [(101, .xbox 40 [.row 102, .row 103, .one (.str last_10)]), (102, .row 42 1 (all_24.map (eL 5 eHolding))), (103, .row 45 6 (sent_32.map eParcel))]⟩) rfl ?_
                refine Tri.seq ?_
                refine Tri.ite h23 rfl (fun _ h23 => ?_) (fun _ h23 => ?_)
                · refine Tri.skip ?_
                  refine Fin.keep [2, 7, 11, 46, 57, 58] [101, 102, 103] (s' := ⟨[(2, .b (.one (.sl 1 (late0.map (eK .u8))))), (7, .b (.ptr 101 0)), (11, I (sent_25.length : Int)), (46, I x_26), (57, I (all_24.length : Int)), (58, I x_33)], [(101, .xbox 40 [.row 102, .row 103, .one (.str last_10)]), (102, .row 42 1 (all_24.map (eL 5 eHolding))), (103, .row 45 6 (sent_32.map eParcel))]⟩) rfl ?_
                  refine Fin.then ?_
                  refine Tri.seq ?_
                  refine Tri.block ?_
                  refine Tri.seq ?_
                  refine Tri.regionL ?_
                  refine OpsL.cons rfl (op_move rfl) ?_
                  refine OpsL.cons rfl (op_assign rfl) ?_
                  refine OpsL.nilK [2, 7, 11, 12, 46, 57, 58] [101, 102, 103] (s' := ⟨[(2, .b (.one (.sl 1 (late0.map (eK .u8))))), (7, .b (.ptr 101 0)), (11, I (sent_25.length : Int)), (12, I x_33), (46, I x_26), (57, I (all_24.length : Int)), (58, I x_33)], [(101, .xbox 40 [.row 102, .row 103, .one (.str last_10)]), (102, .row 42 1 (all_24.map (eL 5 eHolding))), (103, .row 45 6 (sent_32.map eParcel))]⟩) rfl ?_
                  refine Tri.keep [2, 7, 11, 12, 46, 57, 58] [101, 102, 103] (s' := ⟨[(2, .b (.one (.sl 1 (late0.map (eK .u8))))), (7, .b (.ptr 101 0)), (11, I (sent_25.length : Int)), (12, I x_33), (46, I x_26), (57, I (all_24.length : Int)), (58, I x_33)], [(101, .xbox 40 [.row 102, .row 103, .one (.str last_10)]), (102, .row 42 1 (all_24.map (eL 5 eHolding))), (103, .row 45 6 (sent_32.map eParcel))]⟩) rfl ?_
                  obtain ⟨x_35, e25, h23⟩ := bnd h23
                  obtain ⟨x_36, e26, h23⟩ := bnd h23
                  obtain ⟨x_37, e27, h23⟩ := bnd h23
                  refine Tri.regionWF mixed [false, false, false, false, false, false, false, false, false, false, false, false, false, false, true, false, false, true] [.b (.ptr 101 0), .b (.ptr 101 0), .b (.ptr 101 0), .b (.ptr 101 1), .b (.row 103), .b (.ptr 101 0), .b (.ptr 101 0), .b (.ptr 101 0), .b (.row 102), I x_33, .b (.rptr 102 ((x_33 : Int).toNat * 1)), .b (.one (.sl 5 (x_35.map eHolding))), I x_33, .b (.one (.sl 6 (x_36.map eParcel))), .b (.row 103), .b (.ptr 101 0), .b (.ptr 101 1), B true] [⟨[false, false, false, false, false, false, false, false, false, false, false, false, false, false, false, false, false, false], [(2, .b (.one (.sl 1 (late0.map (eK .u8))))), (7, .b (.ptr 101 0)), (11, I (sent_25.length : Int)), (12, I x_33), (46, I x_26), (57, I (all_24.length : Int)), (58, I x_33)], [(101, .xbox 40 [.row 102, .row 103, .one (.str last_10)]), (102, .row 42 1 (all_24.map (eL 5 eHolding))), (103, .row 45 6 (sent_32.map eParcel))], [true, true, true, true, true, true, true, true, true, true, true, true, true, true, true, true, true, true], []⟩, ⟨[false, false, false, false, false, false, false, false, false, false, false, false, false, false, true, false, false, false], [(2, .b (.one (.sl 1 (late0.map (eK .u8))))), (7, .b (.ptr 101 0)), (11, I (sent_25.length : Int)), (12, I x_33), (46, I x_26), (57, I (all_24.length : Int)), (58, I x_33)], [(101, .xbox 40 [.row 102, .one (.any), .one (.str last_10)]), (102, .row 42 1 (all_24.map (eL 5 eHolding))), (103, .row 45 6 (x_37.map eParcel))], [true, true, true, true, false, true, true, true, true, true, true, true, true, true, true, true, true, true], [1, 2, 3, 4, 5, 6, 7, 8, 9, 10, 11, 12, 13, 14]⟩, ⟨[false, false, false, false, false, false, false, false, false, false, false, false, false, false, true, false, false, true], [(2, .b (.one (.sl 1 (late0.map (eK .u8))))), (7, .b (.ptr 101 0)), (11, I (sent_25.length : Int)), (12, I x_33), (46, I x_26), (57, I (all_24.length : Int)), (58, I x_33)], [(101, .xbox 40 [.row 102, .row 103, .one (.str last_10)]), (102, .row 42 1 (all_24.map (eL 5 eHolding))), (103, .row 45 6 (x_37.map eParcel))], [true, true, true, true, false, true, true, true, true, true, true, true, true, true, true, true, true, true], [0, 1, 2, 3, 4, 5, 6, 7, 8, 9, 10, 11, 12, 13, 14, 15, 16, 17]⟩] rfl (⟨by kernel_rfl, ⟨⟨.b (.ptr 101 0), fun _ => rfl, fun _ => .plain rfl (by exact op_move rfl)⟩, ⟨.b (.ptr 101 0), fun _ => rfl, fun _ => .plain rfl (by exact op_move rfl)⟩, ⟨.b (.ptr 101 0), fun _ => rfl, fun _ => .plain rfl (by exact op_nilCheck_p rfl)⟩, ⟨.b (.ptr 101 1), fun _ => rfl, fun _ => .plain rfl (by exact op_field_p tyFld40_1 rfl rfl)⟩, ⟨.b (.row 103), fun _ => rfl, fun _ => .plain rfl (by exact op_load_x1 tyOne38 rfl rfl rfl)⟩, ⟨.b (.ptr 101 0), fun _ => rfl, fun _ => .plain rfl (by exact op_move rfl)⟩, ⟨.b (.ptr 101 0), fun _ => rfl, fun _ => .plain rfl (by exact op_nilCheck_p rfl)⟩, ⟨.b (.ptr 101 0), fun _ => rfl, fun _ => .plain rfl (by exact op_field_p tyFld40_0 rfl rfl)⟩, ⟨.b (.row 102), fun _ => rfl, fun _ => .plain rfl (by exact op_load_x1 tyOne37 rfl rfl rfl)⟩, ⟨I x_33, fun _ => rfl, fun _ => .plain rfl (by exact op_move rfl)⟩, ⟨.b (.rptr 102 ((x_33 : Int).toNat * 1)), fun _ => rfl, fun _ => .plain rfl (by exact op_index_r tySl37 (ix_lo e25) (ix_lt' e25) rfl rfl rfl rfl)⟩, ⟨.b (.one (.sl 5 (x_35.map eHolding))), fun _ => rfl, fun _ => .plain rfl (by exact op_load_r1 (i := (x_33 : Int).toNat) (f := 0) tyOne42 rfl rfl rfl (ix_map (e := (eL 5 eHolding)) e25) rfl)⟩, ⟨I x_33, fun _ => rfl, fun _ => .plain rfl (by exact op_move rfl)⟩, ⟨.b (.one (.sl 6 (x_36.map eParcel))), fun _ => rfl, fun _ => .plain rfl (by exact op_call0 (region_Letters_spec 0 e26).persG goes15 rfl rfl)⟩, ⟨_, some 103, .b (.row 103), rfl, fun _ => rfl, rfl, rfl, fun _ => .to (by exact .forget 101 1 rfl (.plain rfl (op_append tySl38 (app_b e27) (app_m e27) rfl rfl rfl (app_map e27) rfl))) (by exact rfl)⟩, trivial, trivial, trivial, trivial⟩, ⟨by kernel_rfl, ⟨⟨.b (.ptr 101 0), fun _ => rfl, fun _ => .plain rfl (by exact op_move rfl)⟩, trivial, trivial, trivial, trivial, trivial, trivial, trivial, trivial, trivial, trivial, trivial, trivial, trivial, trivial, ⟨.b (.ptr 101 0), fun _ => rfl, fun _ => .plain rfl (by exact op_nilCheck_p rfl)⟩, ⟨.b (.ptr 101 1), fun _ => rfl, fun _ => .plain rfl (by exact op_field_p tyFld40_1 rfl rfl)⟩, ⟨_, none, .b (.one .any), rfl, (fun e => by simp at e), rfl, rfl, fun _ => .to (by exact .plain rfl (by exact op_store_x1 tyOne38 rfl rfl rfl rfl (Nat.le_of_ble_eq_true rfl) rfl)) (by exact rfl)⟩, trivial⟩, ⟨by kernel_rfl, ⟨trivial, trivial, trivial, trivial, trivial, trivial, trivial, trivial, trivial, trivial, trivial, trivial, trivial, trivial, trivial, trivial, trivial, trivial, trivial⟩, trivial⟩⟩⟩) rfl rfl rfl [2, 7, 11, 46, 57, 58] [101, 102, 103] (s' := ⟨[(2, .b (.one (.sl 1 (late0.map (eK .u8))))), (7, .b (.ptr 101 0)), (11, I (sent_25.length : Int)), (46, I x_26), (57, I (all_24.length : Int)), (58, I x_33)], [(101, .xbox 40 [.row 102, .row 103, .one (.str last_10)]), (102, .row 42 1 (all_24.map (eL 5 eHolding))), (103, .row 45 6 (x_37.map eParcel))]⟩) rfl ?_
                  refine Fin.block_normal ?_
                  refine Fin.keep [2, 7, 11, 46, 57, 58] [101, 102, 103] (s' := ⟨[(2, .b (.one (.sl 1 (late0.map (eK .u8))))), (7, .b (.ptr 101 0)), (11, I (sent_25.length : Int)), (46, I x_26), (57, I (all_24.length : Int)), (58, I x_33)], [(101, .xbox 40 [.row 102, .row 103, .one (.str last_10)]), (102, .row 42 1 (all_24.map (eL 5 eHolding))), (103, .row 45 6 (x_37.map eParcel))]⟩) rfl ?_
                  refine Fin.then ?_
                  refine Tri.regionL ?_
                  refine OpsL.cons rfl (op_add rfl rfl) ?_
                  refine OpsL.cons rfl (op_move rfl) ?_
                  refine OpsL.nil ?_
                  exact Fin.againJ [2, 7, 11, 46, 57, 58] [101, 102, 103] (x_37, IntKind.i64.wrap (x_33 + 1)) (Option.some.inj h23) rfl
                · refine Tri.exit ?_
                  refine Fin.then_exit ?_
                  obtain rfl := hy24 _ (Option.some.inj h23).symm
                  refine Fin.then_exit ?_
                  refine Fin.block_exit ?_
                  exact Fin.join [2, 7, 11, 46] [101, 102, 103] sent_32 rfl rfl
              · rintro sent_31 hv
                subst v20
                refine Tri.seq ?_
                refine Tri.regionL ?_
                refine OpsL.cons rfl (op_move rfl) ?_
                refine OpsL.cons rfl (op_assign rfl) ?_
                refine OpsL.nilK [2, 7, 13, 46] [101, 102, 103] (s' := ⟨[(2, .b (.one (.sl 1 (late0.map (eK .u8))))), (7, .b (.ptr 101 0)), (13, I (sent_25.length : Int)), (46, I x_26)], [(101, .xbox 40 [.row 102, .row 103, .one (.str last_10)]), (102, .row 42 1 (all_24.map (eL 5 eHolding))), (103, .row 45 6 (sent_31.map eParcel))]⟩) rfl ?_
                refine Tri.block ?_
                obtain ⟨v28, h29, h19⟩ := bnd h19
                refine Tri.loopJ h29 (un3 fun (all_38 : List (List Holding)) (sent_39 : List Parcel) (i_40 : Int) => ⟨[(2, .b (.one (.sl 1 (late0.map (eK .u8))))), (7, .b (.ptr 101 0)), (13, I i_40), (46, I x_26)], [(101, .xbox 40 [.row 102, .row 103, .one (.str last_10)]), (102, .row 42 1 (all_38.map (eL 5 eHolding))), (103, .row 45 6 (sent_39.map eParcel))]⟩) [2, 7, 13, 46] [101, 102, 103] rfl ?_
                rintro ⟨all_38, sent_39, i_40⟩ o30 h31 hy32
                refine Tri.seq ?_
                refine Tri.seq ?_
                refine Tri.regionL ?_
                refine OpsL.cons rfl (op_move rfl) ?_
                refine OpsL.cons rfl (op_move rfl) ?_
                refine OpsL.cons rfl (op_nilCheck_p rfl) ?_
                refine OpsL.cons rfl (op_field_p tyFld40_1 rfl rfl) ?_
                refine OpsL.cons rfl (op_load_x1 tyOne38 rfl rfl rfl) ?_
                refine OpsL.cons rfl (op_len_r' und38 rfl rfl (List.length_map _)) ?_
                refine OpsL.keep [2, 7, 13, 46, 80, 85] [101, 102, 103] (s' := ⟨[(2, .b (.one (.sl 1 (late0.map (eK .u8))))), (7, .b (.ptr 101 0)), (13, I i_40), (46, I x_26), (80, I i_40), (85, I (sent_39.length : Int))], [(101, .xbox 40 [.row 102, .row 103, .one (.str last_10)]), (102, .row 42 1 (all_38.map (eL 5 eHolding))), (103, .row 45 6 (sent_39.map eParcel))]⟩) rfl ?_
                refine OpsL.cons rfl (op_lss rfl rfl) ?_
                refine OpsL.cons rfl (op_move rfl) ?_
                refine OpsL.consG (decide (i_40 < (sent_39.length : Int))) 99 [] (.plain rfl) (eq_t _) rfl rfl (fun g33 => trivial) (fun g33 => op_move rfl) ?_
                refine OpsL.consG (decide (i_40 < (sent_39.length : Int))) 99 [88] (.plain rfl) (eq_t _) rfl rfl (fun g34 => ⟨g34, trivial⟩) (fun g34 => op_lss rfl rfl) ?_
                refine OpsL.consB h31 rfl (op_pick_and (fun e => e) rfl rfl rfl rfl) (fun x_43 h31 => ?_)
                refine OpsL.nilK [2, 7, 13, 46, 90] [101, 102, 103] (s' := ⟨[(2, .b (.one (.sl 1 (late0.map (eK .u8))))), (7, .b (.ptr 101 0)), (13, I i_40), (46, I x_26), (90, B x_43)], [(101, .xbox 40 [.row 102, .row 103, .one (.str last_10)]), (102, .row 42 1 (all_38.map (eL 5 eHolding))), (103, .row 45 6 (sent_39.map eParcel))]⟩) rfl ?_
                refine Tri.ite h31 rfl (fun _ h31 => ?_) (fun _ h31 => ?_)
                · refine Tri.skip ?_
                  refine Fin.keep [2, 7, 13, 46] [101, 102, 103] (s' := ⟨[(2, .b (.one (.sl 1 (late0.map (eK .u8))))), (7, .b (.ptr 101 0)), (13, I i_40), (46, I x_26)], [(101, .xbox 40 [.row 102, .row 103, .one (.str last_10)]), (102, .row 42 1 (all_38.map (eL 5 eHolding))), (103, .row 45 6 (sent_39.map eParcel))]⟩) rfl ?_
                  refine Fin.then ?_
                  refine Tri.seq ?_
                  refine Tri.block ?_
                  refine Tri.regionL ?_
                  refine OpsL.cons rfl (op_move rfl) ?_
                  refine OpsL.cons rfl (op_move rfl) ?_
                  refine OpsL.cons rfl (op_nilCheck_p rfl) ?_
                  refine OpsL.cons rfl (op_field_p tyFld40_1 rfl rfl) ?_
                  refine OpsL.cons rfl (op_load_x1 tyOne38 rfl rfl rfl) ?_
                  refine OpsL.cons rfl (op_move rfl) ?_
                  obtain ⟨x_44, e35, h31⟩ := bnd h31
                  refine OpsL.cons rfl (op_index_r tySl38 (ix_lo e35) (ix_lt' e35) rfl rfl rfl rfl) ?_
                  refine OpsL.cons rfl (op_load_r (i := (i_40 : Int).toNat) (f := 0) tyAgg45 rfl rfl rfl (ix_map (e := eParcel) e35) rfl rfl) ?_
                  obtain ⟨⟨x_45, x_46⟩, e36, h31⟩ := bnd h31
                  refine OpsL.cons rfl (op_call (own_a := [(101, _), (102, _), (103, _)]) ((((skewbacklaw41_yard_arrive_spec e36).sw 1 101).sw 2 102).sw 3 103) goes16 rfl ⟨rfl, rfl, rfl, trivial⟩ rfl rfl) ?_
                  refine OpsL.nil ?_
                  refine Fin.block_normal ?_
                  refine Fin.keep [2, 7, 13, 46] [101, 102, 103] (s' := ⟨[(2, .b (.one (.sl 1 (late0.map (eK .u8))))), (7, .b (.ptr 101 0)), (13, I i_40), (46, I x_26)], [(101, .xbox 40 [.row 102, .row 103, .one (.str last_10)]), (102, .row 42 1 (x_45.map (eL 5 eHolding))), (103, .row 45 6 (x_46.map eParcel))]⟩) rfl ?_
                  refine Fin.then ?_
                  refine Tri.regionL ?_
                  refine OpsL.cons rfl (op_move rfl) ?_
                  refine OpsL.cons rfl (op_add rfl rfl) ?_
                  refine OpsL.cons rfl (op_assign rfl) ?_
                  refine OpsL.nil ?_
                  exact Fin.againJ [2, 7, 13, 46] [101, 102, 103] (x_45, x_46, IntKind.i64.wrap (i_40 + 1)) (Option.some.inj h31) rfl
                · refine Tri.exit ?_
                  refine Fin.then_exit ?_
                  obtain rfl := hy32 _ (Option.some.inj h31).symm
                  refine Fin.then_exit ?_
                  refine Fin.block_exit ?_
                  refine Fin.block_normal ?_
                  exact Fin.join [2, 7, 46] [101, 102, 103] (all_38, sent_39) (Option.some.inj h19) rfl
            · rintro ⟨all_29, sent_30⟩ hv
              subst v18
              refine Tri.regionL ?_
              refine OpsL.cons rfl (op_add rfl rfl) ?_
              refine OpsL.cons rfl (op_move rfl) ?_
              refine OpsL.nil ?_
              exact Fin.againJ [2, 7, 46] [101, 102, 103] (all_29, sent_30, IntKind.i64.wrap (x_26 + 1)) (Option.some.inj h16) rfl
          · refine Tri.exit ?_
            refine Fin.then_exit ?_
            obtain rfl := hy17 _ (Option.some.inj h16).symm
            refine Fin.then_exit ?_
            refine Fin.block_exit ?_
            exact Fin.join [2, 7] [101, 102, 103] (all_24, sent_25) rfl rfl
        · rintro ⟨all_22, sent_23⟩ hv
          subst v13
          refine Tri.seq ?_
          refine Tri.seq ?_
          refine Tri.regionL ?_
          refine OpsL.cons rfl (op_move rfl) ?_
          obtain ⟨x_47, e37, h⟩ := bnd h
          refine OpsL.cons rfl (op_call (own_a := [(101, _), (102, _), (103, _)]) ((((skewbacklaw41_yard_done_spec e37).sw 1 101).sw 2 102).sw 3 103) goes17 rfl ⟨rfl, rfl, rfl, trivial⟩ rfl rfl) ?_
          refine OpsL.cons rfl (op_not rfl) ?_
          refine OpsL.nilK [2, 7, 105] [101, 102, 103] (s' := ⟨[(2, .b (.one (.sl 1 (late0.map (eK .u8))))), (7, .b (.ptr 101 0)), (105, B (!x_47))], [(101, .xbox 40 [.row 102, .row 103, .one (.str last_10)]), (102, .row 42 1 (all_22.map (eL 5 eHolding))), (103, .row 45 6 (sent_23.map eParcel))]⟩) rfl ?_
          refine Tri.ite h rfl (fun _ h => ?_) (fun _ h => ?_)
          · refine Tri.seq ?_
            refine Tri.regionL ?_
            refine OpsL.cons rfl (op_assign rfl) ?_
            refine OpsL.nilK [6] [] (s' := ⟨[(6, B false)], []⟩) rfl ?_
            refine Tri.ret ?_
            refine Fin.then_ret ?_
            obtain rfl := Option.some.inj h
            refine Fin.keep [6] [] (s' := ⟨[(6, B false)], []⟩) rfl ?_
            refine Fin.result' [.one (.bool false)] (.inl rfl) rfl (.cons (.tmp rfl) .nil) ⟨rfl, rfl⟩
          · refine Tri.skip ?_
            refine Fin.keep [2, 7] [101, 102, 103] (s' := ⟨[(2, .b (.one (.sl 1 (late0.map (eK .u8))))), (7, .b (.ptr 101 0))], [(101, .xbox 40 [.row 102, .row 103, .one (.str last_10)]), (102, .row 42 1 (all_22.map (eL 5 eHolding))), (103, .row 45 6 (sent_23.map eParcel))]⟩) rfl ?_
            refine Fin.then ?_
            obtain ⟨v38, h39, h⟩ := bnd h
            refine Tri.seqJ (v := v38) (un2 fun (all_48 : List (List Holding)) (sent_49 : List Parcel) => ⟨[(7, .b (.ptr 101 0))], [(101, .xbox 40 [.row 102, .row 103, .one (.str last_10)]), (102, .row 42 1 (all_48.map (eL 5 eHolding))), (103, .row 45 6 (sent_49.map eParcel))]⟩) (fun z => z) ?_ ?_
            · refine Tri.seq ?_
              refine Tri.regionL ?_
              refine OpsL.cons rfl (op_move rfl) ?_
              refine OpsL.cons rfl (op_len_e' und36 rfl (List.length_map _)) ?_
              refine OpsL.cons rfl (op_move rfl) ?_
              refine OpsL.nilK [7, 106, 107, 108] [101, 102, 103] (s' := ⟨[(7, .b (.ptr 101 0)), (106, .b (.one (.sl 1 (late0.map (eK .u8))))), (107, I (late0.length : Int)), (108, I 0)], [(101, .xbox 40 [.row 102, .row 103, .one (.str last_10)]), (102, .row 42 1 (all_22.map (eL 5 eHolding))), (103, .row 45 6 (sent_23.map eParcel))]⟩) rfl ?_
              refine Tri.block ?_
              refine Tri.loopJ h39 (un3 fun (all_50 : List (List Holding)) (sent_51 : List Parcel) (x_52 : Int) => ⟨[(7, .b (.ptr 101 0)), (106, .b (.one (.sl 1 (late0.map (eK .u8))))), (107, I (late0.length : Int)), (108, I x_52)], [(101, .xbox 40 [.row 102, .row 103, .one (.str last_10)]), (102, .row 42 1 (all_50.map (eL 5 eHolding))), (103, .row 45 6 (sent_51.map eParcel))]⟩) [7, 106, 107, 108] [101, 102, 103] rfl ?_
              rintro ⟨all_50, sent_51, x_52⟩ o40 h41 hy42
              refine Tri.seq ?_
              refine Tri.regionL ?_
              refine OpsL.cons rfl (op_lss rfl rfl) ?_
              refine OpsL.nilK [7, 106, 107, 108, 109] [101, 102, 103] (s' := ⟨[(7, .b (.ptr 101 0)), (106, .b (.one (.sl 1 (late0.map (eK .u8))))), (107, I (late0.length : Int)), (108, I x_52), (109, B (decide (x_52 < (late0.length : Int))))], [(101, .xbox 40 [.row 102, .row 103, .one (.str last_10)]), (102, .row 42 1 (all_50.map (eL 5 eHolding))), (103, .row 45 6 (sent_51.map eParcel))]⟩) rfl ?_
              refine Tri.seq ?_
              refine Tri.ite h41 rfl (fun _ h41 => ?_) (fun _ h41 => ?_)
              · refine Tri.skip ?_
                refine Fin.keep [7, 106, 107, 108] [101, 102, 103] (s' := ⟨[(7, .b (.ptr 101 0)), (106, .b (.one (.sl 1 (late0.map (eK .u8))))), (107, I (late0.length : Int)), (108, I x_52)], [(101, .xbox 40 [.row 102, .row 103, .one (.str last_10)]), (102, .row 42 1 (all_50.map (eL 5 eHolding))), (103, .row 45 6 (sent_51.map eParcel))]⟩) rfl ?_
                refine Fin.then ?_
                obtain ⟨v43, h44, h41⟩ := bnd h41
                refine Tri.seqJ (v := v43) (un2 fun (all_55 : List (List Holding)) (sent_56 : List Parcel) => ⟨[(7, .b (.ptr 101 0)), (106, .b (.one (.sl 1 (late0.map (eK .u8))))), (107, I (late0.length : Int)), (108, I x_52)], [(101, .xbox 40 [.row 102, .row 103, .one (.str last_10)]), (102, .row 42 1 (all_55.map (eL 5 eHolding))), (103, .row 45 6 (sent_56.map eParcel))]⟩) (fun z => z) ?_ ?_
                · refine Tri.block ?_
                  refine Tri.seq ?_
                  refine Tri.regionL ?_
                  obtain ⟨x_57, e45, h44⟩ := bnd h44
                  refine OpsL.cons rfl (op_index_e tySl36 (ix_lo e45) (ix_map (e := (eK .u8)) e45) rfl rfl) ?_
                  refine OpsL.cons rfl (op_load_e1 tyOne5 rfl rfl) ?_
                  refine OpsL.cons rfl (op_assign rfl) ?_
                  refine OpsL.nilK [7, 15, 106, 107, 108] [101, 102, 103] (s' := ⟨[(7, .b (.ptr 101 0)), (15, .b (.one (.int .u8 x_57))), (106, .b (.one (.sl 1 (late0.map (eK .u8))))), (107, I (late0.length : Int)), (108, I x_52)], [(101, .xbox 40 [.row 102, .row 103, .one (.str last_10)]), (102, .row 42 1 (all_50.map (eL 5 eHolding))), (103, .row 45 6 (sent_51.map eParcel))]⟩) rfl ?_
                  refine Tri.seq ?_
                  refine Tri.regionL ?_
                  refine OpsL.cons rfl (op_move rfl) ?_
                  refine OpsL.cons rfl (op_nilCheck_p rfl) ?_
                  refine OpsL.cons rfl (op_field_p tyFld40_1 rfl rfl) ?_
                  refine OpsL.cons rfl (op_load_x1 tyOne38 rfl rfl rfl) ?_
                  refine OpsL.cons rfl (op_len_r' und38 rfl rfl (List.length_map _)) ?_
                  refine OpsL.cons rfl (op_assign rfl) ?_
                  refine OpsL.nilK [7, 15, 16, 106, 107, 108] [101, 102, 103] (s' := ⟨[(7, .b (.ptr 101 0)), (15, .b (.one (.int .u8 x_57))), (16, I (sent_51.length : Int)), (106, .b (.one (.sl 1 (late0.map (eK .u8))))), (107, I (late0.length : Int)), (108, I x_52)], [(101, .xbox 40 [.row 102, .row 103, .one (.str last_10)]), (102, .row 42 1 (all_50.map (eL 5 eHolding))), (103, .row 45 6 (sent_51.map eParcel))]⟩) rfl ?_
                  refine Tri.seq ?_
                  refine Tri.regionL ?_
                  refine OpsL.cons rfl (op_move rfl) ?_
                  refine OpsL.cons rfl (op_gtr rfl rfl) ?_
                  refine OpsL.nilK [7, 15, 16, 106, 107, 108, 118] [101, 102, 103] (s' := ⟨[(7, .b (.ptr 101 0)), (15, .b (.one (.int .u8 x_57))), (16, I (sent_51.length : Int)), (106, .b (.one (.sl 1 (late0.map (eK .u8))))), (107, I (late0.length : Int)), (108, I x_52), (118, B (decide (0 < (sent_51.length : Int))))], [(101, .xbox 40 [.row 102, .row 103, .one (.str last_10)]), (102, .row 42 1 (all_50.map (eL 5 eHolding))), (103, .row 45 6 (sent_51.map eParcel))]⟩) rfl ?_
                  refine Tri.ite h44 rfl (fun _ h44 => ?_) (fun _ h44 => ?_)
                  · refine Tri.keep [7, 15, 16, 106, 107, 108] [101, 102, 103] (s' := ⟨[(7, .b (.ptr 101 0)), (15, .b (.one (.int .u8 x_57))), (16, I (sent_51.length : Int)), (106, .b (.one (.sl 1 (late0.map (eK .u8))))), (107, I (late0.length : Int)), (108, I x_52)], [(101, .xbox 40 [.row 102, .row 103, .one (.str last_10)]), (102, .row 42 1 (all_50.map (eL 5 eHolding))), (103, .row 45 6 (sent_51.map eParcel))]⟩) rfl ?_
                    obtain ⟨x_58, e46, h44⟩ := bnd h44
                    obtain ⟨x_59, e47, h44⟩ := bnd h44
                    obtain ⟨⟨x_60, x_61⟩, e48, h44⟩ := bnd h44
                    refine Tri.regionZF mixed [.b (.ptr 101 0), .b (.ptr 101 0), .b (.ptr 101 0), .b (.ptr 101 1), .b (.row 103), .b (.one (.int .u8 x_57)), I (IntKind.i64.wrap x_57), I (sent_51.length : Int), I x_58, .b (.rptr 103 ((x_58 : Int).toNat * 6)), .b (.agg [.i x_59.From, .i x_59.To, .i x_59.Kind, .i x_59.Body, .i x_59.Epoch, .str x_59.Data])] [7, 106, 107, 108] [101, 102, 103] (s' := ⟨[(7, .b (.ptr 101 0)), (106, .b (.one (.sl 1 (late0.map (eK .u8))))), (107, I (late0.length : Int)), (108, I x_52)], [(101, .xbox 40 [.row 102, .row 103, .one (.str last_10)]), (102, .row 42 1 (x_60.map (eL 5 eHolding))), (103, .row 45 6 (x_61.map eParcel))]⟩) (by simp) rfl rfl ⟨fun _ => .plain rfl (op_move rfl), fun _ => .plain rfl (op_move rfl), fun _ => .plain rfl (op_nilCheck_p rfl), fun _ => .plain rfl (op_field_p tyFld40_1 rfl rfl), fun _ => .plain rfl (op_load_x1 tyOne38 rfl rfl rfl), fun _ => .plain rfl (op_move rfl), fun _ => .plain rfl (op_conv_wrap undi5 undi3 rfl), fun _ => .plain rfl (op_move rfl), fun _ => .plain rfl (op_rem2 e46 rfl rfl), fun _ => .plain rfl (op_index_r tySl38 (ix_lo e47) (ix_lt' e47) rfl rfl rfl rfl), fun _ => .plain rfl (op_load_r (i := (x_58 : Int).toNat) (f := 0) tyAgg45 rfl rfl rfl (ix_map (e := eParcel) e47) rfl rfl), trivial⟩ (.plain rfl (op_call (own_a := [(101, _), (102, _), (103, _)]) ((((skewbacklaw41_yard_arrive_spec e48).sw 1 101).sw 2 102).sw 3 103) goes16 rfl ⟨rfl, rfl, rfl, trivial⟩ rfl rfl)) rfl ?_
                    refine Fin.block_normal ?_
                    exact Fin.join [7, 106, 107, 108] [101, 102, 103] (x_60, x_61) (Option.some.inj h44) rfl
                  · refine Tri.skip ?_
                    refine Fin.block_normal ?_
                    exact Fin.join [7, 106, 107, 108] [101, 102, 103] (all_50, sent_51) (Option.some.inj h44) rfl
                · rintro ⟨all_55, sent_56⟩ hv
                  subst v43
                  refine Tri.regionL ?_
                  refine OpsL.cons rfl (op_add rfl rfl) ?_
                  refine OpsL.cons rfl (op_move rfl) ?_
                  refine OpsL.nil ?_
                  exact Fin.againJ [7, 106, 107, 108] [101, 102, 103] (all_55, sent_56, IntKind.i64.wrap (x_52 + 1)) (Option.some.inj h41) rfl
              · refine Tri.exit ?_
                refine Fin.then_exit ?_
                obtain rfl := hy42 _ (Option.some.inj h41).symm
                refine Fin.then_exit ?_
                refine Fin.block_exit ?_
                exact Fin.join [7] [101, 102, 103] (all_50, sent_51) rfl rfl
            · rintro ⟨all_48, sent_49⟩ hv
              subst v38
              refine Tri.seq ?_
              refine Tri.regionL ?_
              obtain ⟨x_62, e49, h⟩ := bnd h
              refine OpsL.cons rfl (op_call0 (skewbacklaw41_sanity_spec e49) goes7 rfl rfl) ?_
              refine OpsL.cons rfl (op_move rfl) ?_
              refine OpsL.consG x_62 99 [] (.plain rfl) (eq_t _) rfl rfl (fun g50 => trivial) (fun g50 => op_move rfl) ?_
              refine OpsL.keep [133, 134] [101, 102, 103] (s' := ⟨[(133, B x_62), (134, .opt x_62 (.ptr 101 0))], [(101, .xbox 40 [.row 102, .row 103, .one (.str last_10)]), (102, .row 42 1 (all_48.map (eL 5 eHolding))), (103, .row 45 6 (sent_49.map eParcel))]⟩) rfl ?_
              obtain ⟨x_63, e52, h⟩ := bnd h
              refine OpsL.consG x_62 99 [134] (.plain rfl) (eq_t _) rfl rfl (fun g51 => ⟨g51, trivial⟩) (fun g51 => op_call (own_a := [(101, _), (102, _), (103, _)]) ((((skewbacklaw41_yard_done_spec (gc e52 g51)).sw 1 101).sw 2 102).sw 3 103) goes17 rfl ⟨rfl, rfl, rfl, trivial⟩ rfl rfl) ?_
              refine OpsL.cons rfl (op_pick_and (fun e => e) rfl rfl rfl rfl) ?_
              refine OpsL.cons rfl (op_assign rfl) ?_
              refine OpsL.nilK [6] [] (s' := ⟨[(6, B (x_62 && x_63))], []⟩) rfl ?_
              refine Tri.ret ?_
              obtain rfl := Option.some.inj h
              refine Fin.keep [6] [] (s' := ⟨[(6, B (x_62 && x_63))], []⟩) rfl ?_
              refine Fin.result' [.one (.bool (x_62 && x_63))] (.inl rfl) rfl (.cons (.tmp rfl) .nil) ⟨rfl, rfl⟩

end Go.Proofs.Ytipepglcceogiaa
