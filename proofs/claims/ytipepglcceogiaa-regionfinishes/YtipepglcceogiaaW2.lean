/- printed walks -/
import Derived.Test.YtipepglcceogiaaW1
namespace Go.Proofs.Ytipepglcceogiaa
open Go.Sk
set_option maxHeartbeats 1000000
set_option maxRecDepth 4000
set_option linter.unusedSimpArgs false
set_option linter.unusedVariables false
def region_right_S (F : Nat) (h0 : Holding) : Option Bool :=
 Option.bind (region_known_S F h0.Body) (fun x_1 => letN (((!x_1) || (decide (h0.Epoch < 0))) || (decide (1099511627776 < h0.Epoch))) fun x_2 => if x_2 = true then (some false) else (Option.bind (if (decide (h0.Phase = 0)) = true then (some (.inr ((decide (h0.Peer = 0)) && (decide (h0.Data = []))))) else (if (decide (h0.Phase = 1)) = true then (some (.inr (decide (h0.Peer = 0)))) else (Option.bind (if (decide (h0.Phase = 2)) = true then (some (decide (h0.Phase = 2))) else (if (decide (h0.Phase = 3)) = true then (some (decide (h0.Phase = 3))) else (some (decide (h0.Phase = 4))))) (fun x_3 => if x_3 = true then (Option.bind (region_node_S F h0.Peer) (fun x_4 => some (.inr (x_4 && (decide (1 ≤ h0.Epoch)))))) else (some (.inl ())))))) (alt2 (fun _ => some false) (fun y => some y))))
theorem region_right_spec {F : Nat} {h0 : Holding} {r : Bool} (h : region_right_S F h0 = some r) : Meets Try.prog 42 [] [.agg (eHolding h0)] (Is [] (.b (.one (.bool r)))) := by
  unfold region_right_S at h
  refine Meets.intro 46 Try.func42 Try.ntmps42 rfl (by simp) fun E => ?_
  show Tri _ E ⟨46, [], []⟩ _ ⟨[(0, .b (.agg [.i h0.Body, .i h0.Epoch, .i h0.Phase, .i h0.Peer, .str h0.Data]))], []⟩ _
  refine Tri.seq ?_
  refine Tri.regionL ?_
  refine OpsL.cons rfl (op_box (k := 101) rfl rfl) ?_
  refine OpsL.cons rfl (op_assign rfl) ?_
  refine OpsL.nilK [1] [101] (s' := ⟨[(1, .b (.ptr 101 0))], [(101, .box 59 [.i h0.Body, .i h0.Epoch, .i h0.Phase, .i h0.Peer, .str h0.Data])]⟩) rfl ?_
  refine Tri.seq ?_
  refine Tri.seq ?_
  refine Tri.regionL ?_
  refine OpsL.cons rfl (op_field_p tyFld59_0 rfl rfl) ?_
  refine OpsL.cons rfl (op_load_p1 tyOne3 rfl rfl rfl) ?_
  obtain ⟨x_1, e1, h⟩ := bnd h
  refine OpsL.cons rfl (op_call0 (region_known_spec e1) goes44 rfl rfl) ?_
  refine OpsL.cons rfl (op_not rfl) ?_
  refine OpsL.cons rfl (op_move rfl) ?_
  refine OpsL.keep [1, 7] [101] (s' := ⟨[(1, .b (.ptr 101 0)), (7, B (!x_1))], [(101, .box 59 [.i h0.Body, .i h0.Epoch, .i h0.Phase, .i h0.Peer, .str h0.Data])]⟩) rfl ?_
  refine OpsL.consG (!(!x_1)) 99 [] (.plain rfl) (eq_f _) rfl rfl (fun g2 => trivial) (fun g2 => op_field_p tyFld59_1 rfl rfl) ?_
  refine OpsL.consG (!(!x_1)) 99 [8] (.plain rfl) (eq_f _) rfl rfl (fun g3 => ⟨g3, trivial⟩) (fun g3 => op_load_p1 tyOne3 rfl rfl rfl) ?_
  refine OpsL.consG (!(!x_1)) 99 [9] (.plain rfl) (eq_f _) rfl rfl (fun g4 => ⟨g4, trivial⟩) (fun g4 => op_lss rfl rfl) ?_
  refine OpsL.cons rfl (op_pick_or (fun e => by rw [e]; rfl) rfl rfl rfl rfl) ?_
  refine OpsL.cons rfl (op_move rfl) ?_
  refine OpsL.consG (!((!x_1) || (decide (h0.Epoch < 0)))) 99 [] (.plain rfl) (eq_f _) rfl rfl (fun g5 => trivial) (fun g5 => op_field_p tyFld59_1 rfl rfl) ?_
  refine OpsL.consG (!((!x_1) || (decide (h0.Epoch < 0)))) 99 [13] (.plain rfl) (eq_f _) rfl rfl (fun g6 => ⟨g6, trivial⟩) (fun g6 => op_load_p1 tyOne3 rfl rfl rfl) ?_
  refine OpsL.consG (!((!x_1) || (decide (h0.Epoch < 0)))) 99 [14] (.plain rfl) (eq_f _) rfl rfl (fun g7 => ⟨g7, trivial⟩) (fun g7 => op_gtr rfl rfl) ?_
  refine OpsL.consB h rfl (op_pick_or (fun e => by rw [e]; rfl) rfl rfl rfl rfl) (fun x_2 h => ?_)
  refine OpsL.nilK [1, 16] [101] (s' := ⟨[(1, .b (.ptr 101 0)), (16, B x_2)], [(101, .box 59 [.i h0.Body, .i h0.Epoch, .i h0.Phase, .i h0.Peer, .str h0.Data])]⟩) rfl ?_
  refine Tri.ite h rfl (fun _ h => ?_) (fun _ h => ?_)
  · refine Tri.seq ?_
    refine Tri.regionL ?_
    refine OpsL.cons rfl (op_assign rfl) ?_
    refine OpsL.nilK [2] [] (s' := ⟨[(2, B false)], []⟩) rfl ?_
    refine Tri.ret ?_
    refine Fin.then_ret ?_
    obtain rfl := Option.some.inj h
    refine Fin.keep [2] [] (s' := ⟨[(2, B false)], []⟩) rfl ?_
    refine Fin.result' [.one (.bool false)] (.inl rfl) rfl (.cons (.tmp rfl) .nil) ⟨rfl, rfl⟩
  · refine Tri.skip ?_
    refine Fin.keep [1] [101] (s' := ⟨[(1, .b (.ptr 101 0))], [(101, .box 59 [.i h0.Body, .i h0.Epoch, .i h0.Phase, .i h0.Peer, .str h0.Data])]⟩) rfl ?_
    refine Fin.then ?_
    obtain ⟨v8, h9, h⟩ := bnd h
    refine Tri.seqJ (v := v8) (fun (_ : Unit) => ⟨[], []⟩) (fun z => .inl z) ?_ ?_
    · refine Tri.seq ?_
      refine Tri.regionL ?_
      refine OpsL.cons rfl (op_field_p tyFld59_2 rfl rfl) ?_
      refine OpsL.cons rfl (op_load_p1 tyOne3 rfl rfl rfl) ?_
      refine OpsL.nilK [1, 18] [101] (s' := ⟨[(1, .b (.ptr 101 0)), (18, I h0.Phase)], [(101, .box 59 [.i h0.Body, .i h0.Epoch, .i h0.Phase, .i h0.Peer, .str h0.Data])]⟩) rfl ?_
      refine Tri.block ?_
      refine Tri.seq ?_
      refine Tri.regionL ?_
      refine OpsL.cons rfl (op_eql rfl rfl) ?_
      refine OpsL.cons rfl (op_assign rfl) ?_
      refine OpsL.nilK [1, 18, 19] [101] (s' := ⟨[(1, .b (.ptr 101 0)), (18, I h0.Phase), (19, B (decide (h0.Phase = 0)))], [(101, .box 59 [.i h0.Body, .i h0.Epoch, .i h0.Phase, .i h0.Peer, .str h0.Data])]⟩) rfl ?_
      refine Tri.ite h9 rfl (fun _ h9 => ?_) (fun _ h9 => ?_)
      · refine Tri.seq ?_
        refine Tri.regionL ?_
        refine OpsL.cons rfl (op_field_p tyFld59_3 rfl rfl) ?_
        refine OpsL.cons rfl (op_load_p1 tyOne3 rfl rfl rfl) ?_
        refine OpsL.cons rfl (op_eql rfl rfl) ?_
        refine OpsL.cons rfl (op_move rfl) ?_
        refine OpsL.consG (decide (h0.Peer = 0)) 99 [] (.plain rfl) (eq_t _) rfl rfl (fun g10 => trivial) (fun g10 => op_field_p tyFld59_4 rfl rfl) ?_
        refine OpsL.consG (decide (h0.Peer = 0)) 99 [25] (.plain rfl) (eq_t _) rfl rfl (fun g11 => ⟨g11, trivial⟩) (fun g11 => op_load_p1 tyOne9 rfl rfl rfl) ?_
        refine OpsL.consG (decide (h0.Peer = 0)) 99 [26] (.plain rfl) (eq_t _) rfl rfl (fun g12 => ⟨g12, trivial⟩) (fun g12 => op_eql_str rfl rfl) ?_
        refine OpsL.cons rfl (op_pick_and (fun e => e) rfl rfl rfl rfl) ?_
        refine OpsL.cons rfl (op_assign rfl) ?_
        refine OpsL.nilK [2] [] (s' := ⟨[(2, B ((decide (h0.Peer = 0)) && (decide (h0.Data = []))))], []⟩) rfl ?_
        refine Tri.ret ?_
        refine Fin.block_ret ?_
        obtain rfl := Option.some.inj h9
        refine Fin.then_ret ?_
        obtain rfl := Option.some.inj h
        refine Fin.keep [2] [] (s' := ⟨[(2, B ((decide (h0.Peer = 0)) && (decide (h0.Data = []))))], []⟩) rfl ?_
        refine Fin.result' [.one (.bool ((decide (h0.Peer = 0)) && (decide (h0.Data = []))))] (.inl rfl) rfl (.cons (.tmp rfl) .nil) ⟨rfl, rfl⟩
      · refine Tri.seq ?_
        refine Tri.regionL ?_
        refine OpsL.cons rfl (op_eql rfl rfl) ?_
        refine OpsL.cons rfl (op_assign rfl) ?_
        refine OpsL.nilK [1, 18, 29] [101] (s' := ⟨[(1, .b (.ptr 101 0)), (18, I h0.Phase), (29, B (decide (h0.Phase = 1)))], [(101, .box 59 [.i h0.Body, .i h0.Epoch, .i h0.Phase, .i h0.Peer, .str h0.Data])]⟩) rfl ?_
        refine Tri.ite h9 rfl (fun _ h9 => ?_) (fun _ h9 => ?_)
        · refine Tri.seq ?_
          refine Tri.regionL ?_
          refine OpsL.cons rfl (op_field_p tyFld59_3 rfl rfl) ?_
          refine OpsL.cons rfl (op_load_p1 tyOne3 rfl rfl rfl) ?_
          refine OpsL.cons rfl (op_eql rfl rfl) ?_
          refine OpsL.cons rfl (op_assign rfl) ?_
          refine OpsL.nilK [2] [] (s' := ⟨[(2, B (decide (h0.Peer = 0)))], []⟩) rfl ?_
          refine Tri.ret ?_
          refine Fin.block_ret ?_
          obtain rfl := Option.some.inj h9
          refine Fin.then_ret ?_
          obtain rfl := Option.some.inj h
          refine Fin.keep [2] [] (s' := ⟨[(2, B (decide (h0.Peer = 0)))], []⟩) rfl ?_
          refine Fin.result' [.one (.bool (decide (h0.Peer = 0)))] (.inl rfl) rfl (.cons (.tmp rfl) .nil) ⟨rfl, rfl⟩
        · obtain ⟨v13, h14, h9⟩ := bnd h9
          refine Tri.seqJ (v := v13) (fun (x_3 : Bool) => ⟨[(1, .b (.ptr 101 0)), (34, B x_3)], [(101, .box 59 [.i h0.Body, .i h0.Epoch, .i h0.Phase, .i h0.Peer, .str h0.Data])]⟩) (fun z => z) ?_ ?_
          · refine Tri.seq ?_
            refine Tri.regionL ?_
            refine OpsL.cons rfl (op_eql rfl rfl) ?_
            refine OpsL.cons rfl (op_assign rfl) ?_
            refine OpsL.nilK [1, 18, 34] [101] (s' := ⟨[(1, .b (.ptr 101 0)), (18, I h0.Phase), (34, B (decide (h0.Phase = 2)))], [(101, .box 59 [.i h0.Body, .i h0.Epoch, .i h0.Phase, .i h0.Peer, .str h0.Data])]⟩) rfl ?_
            refine Tri.ite h14 rfl (fun _ h14 => ?_) (fun _ h14 => ?_)
            · refine Tri.skip ?_
              exact Fin.join [1, 34] [101] (decide (h0.Phase = 2)) (Option.some.inj h14) rfl
            · refine Tri.seq ?_
              refine Tri.regionL ?_
              refine OpsL.cons rfl (op_eql rfl rfl) ?_
              refine OpsL.cons rfl (op_assign rfl) ?_
              refine OpsL.nilK [1, 18, 34] [101] (s' := ⟨[(1, .b (.ptr 101 0)), (18, I h0.Phase), (34, B (decide (h0.Phase = 3)))], [(101, .box 59 [.i h0.Body, .i h0.Epoch, .i h0.Phase, .i h0.Peer, .str h0.Data])]⟩) rfl ?_
              refine Tri.ite h14 rfl (fun _ h14 => ?_) (fun _ h14 => ?_)
              · refine Tri.skip ?_
                exact Fin.join [1, 34] [101] (decide (h0.Phase = 3)) (Option.some.inj h14) rfl
              · refine Tri.regionL ?_
                refine OpsL.cons rfl (op_eql rfl rfl) ?_
                refine OpsL.cons rfl (op_assign rfl) ?_
                refine OpsL.nil ?_
                exact Fin.join [1, 34] [101] (decide (h0.Phase = 4)) (Option.some.inj h14) rfl
          · rintro x_3 hv
            subst v13
            refine Tri.ite h9 rfl (fun _ h9 => ?_) (fun _ h9 => ?_)
            · refine Tri.seq ?_
              refine Tri.regionL ?_
              refine OpsL.cons rfl (op_field_p tyFld59_3 rfl rfl) ?_
              refine OpsL.cons rfl (op_load_p1 tyOne3 rfl rfl rfl) ?_
              obtain ⟨x_4, e15, h9⟩ := bnd h9
              refine OpsL.cons rfl (op_call0 (region_node_spec e15) goes47 rfl rfl) ?_
              refine OpsL.cons rfl (op_move rfl) ?_
              refine OpsL.consG x_4 99 [] (.plain rfl) (eq_t _) rfl rfl (fun g16 => trivial) (fun g16 => op_field_p tyFld59_1 rfl rfl) ?_
              refine OpsL.keep [41, 42] [101] (s' := ⟨[(41, B x_4), (42, .opt x_4 (.ptr 101 1))], [(101, .box 59 [.i h0.Body, .i h0.Epoch, .i h0.Phase, .i h0.Peer, .str h0.Data])]⟩) rfl ?_
              refine OpsL.consG x_4 99 [42] (.plain rfl) (eq_t _) rfl rfl (fun g17 => ⟨g17, trivial⟩) (fun g17 => op_load_p1 tyOne3 rfl rfl rfl) ?_
              refine OpsL.consG x_4 99 [43] (.plain rfl) (eq_t _) rfl rfl (fun g18 => ⟨g18, trivial⟩) (fun g18 => op_geq rfl rfl) ?_
              refine OpsL.cons rfl (op_pick_and (fun e => e) rfl rfl rfl rfl) ?_
              refine OpsL.cons rfl (op_assign rfl) ?_
              refine OpsL.nilK [2] [] (s' := ⟨[(2, B (x_4 && (decide (1 ≤ h0.Epoch))))], []⟩) rfl ?_
              refine Tri.ret ?_
              refine Fin.block_ret ?_
              obtain rfl := Option.some.inj h9
              refine Fin.then_ret ?_
              obtain rfl := Option.some.inj h
              refine Fin.keep [2] [] (s' := ⟨[(2, B (x_4 && (decide (1 ≤ h0.Epoch))))], []⟩) rfl ?_
              refine Fin.result' [.one (.bool (x_4 && (decide (1 ≤ h0.Epoch))))] (.inl rfl) rfl (.cons (.tmp rfl) .nil) ⟨rfl, rfl⟩
            · refine Tri.skip ?_
              refine Fin.block_normal ?_
              exact Fin.join [] [] () (Option.some.inj h9) rfl
    · rintro _ hv
      subst v8
      refine Tri.seq ?_
      refine Tri.regionL ?_
      refine OpsL.cons rfl (op_assign rfl) ?_
      refine OpsL.nilK [2] [] (s' := ⟨[(2, B false)], []⟩) rfl ?_
      refine Tri.ret ?_
      obtain rfl := Option.some.inj h
      refine Fin.keep [2] [] (s' := ⟨[(2, B false)], []⟩) rfl ?_
      refine Fin.result' [.one (.bool false)] (.inl rfl) rfl (.cons (.tmp rfl) .nil) ⟨rfl, rfl⟩

def region_Valid_S (F : Nat) (l0 : List Holding) : Option Bool :=
 Option.bind (iter F (un2 fun last_1 x_2 => if (decide (x_2 < (l0.length : Int))) = true then (Option.bind (idx? l0 x_2) (fun x_3 => Option.bind (region_right_S F x_3) (fun x_4 => if ((!x_4) || (decide (x_3.Body ≤ last_1))) = true then (some (.inr (.inr false))) else (some (.inl (x_3.Body, IntKind.i64.wrap (x_2 + 1))))))) else (some (.inr (.inl ())))) (0, 0)) (alt2 (fun _ => some true) (fun y => some y))
theorem region_Valid_spec {F : Nat} {l0 : List Holding} {r : Bool} (h : region_Valid_S F l0 = some r) : Meets Try.prog 19 [] [.one (.sl 5 (l0.map eHolding))] (Is [] (.b (.one (.bool r)))) := by
  unfold region_Valid_S at h
  refine Meets.intro 24 Try.func19 Try.ntmps19 rfl (by simp) fun E => ?_
  show Tri _ E ⟨24, [], []⟩ _ ⟨[(0, .b (.one (.sl 5 (l0.map eHolding))))], []⟩ _
  refine Tri.seq ?_
  refine Tri.regionL ?_
  refine OpsL.cons rfl (op_assign rfl) ?_
  refine OpsL.nilK [0] [] (s' := ⟨[(0, .b (.one (.sl 5 (l0.map eHolding))))], []⟩) rfl ?_
  refine Tri.seq ?_
  refine Tri.regionL ?_
  refine OpsL.cons rfl (op_assign rfl) ?_
  refine OpsL.nilK [0, 3] [] (s' := ⟨[(0, .b (.one (.sl 5 (l0.map eHolding)))), (3, I 0)], []⟩) rfl ?_
  obtain ⟨v1, h2, h⟩ := bnd h
  refine Tri.seqJ (v := v1) (fun (_ : Unit) => ⟨[], []⟩) (fun z => .inl z) ?_ ?_
  · refine Tri.seq ?_
    refine Tri.regionL ?_
    refine OpsL.cons rfl (op_move rfl) ?_
    refine OpsL.cons rfl (op_len_e' und42 rfl (List.length_map _)) ?_
    refine OpsL.cons rfl (op_move rfl) ?_
    refine OpsL.nilK [3, 6, 7, 8] [] (s' := ⟨[(3, I 0), (6, .b (.one (.sl 5 (l0.map eHolding)))), (7, I (l0.length : Int)), (8, I 0)], []⟩) rfl ?_
    refine Tri.block ?_
    refine Tri.loopJ h2 (un2 fun (last_1 : Int) (x_2 : Int) => ⟨[(3, I last_1), (6, .b (.one (.sl 5 (l0.map eHolding)))), (7, I (l0.length : Int)), (8, I x_2)], []⟩) [3, 6, 7, 8] [] rfl ?_
    rintro ⟨last_1, x_2⟩ o3 h4 hy5
    refine Tri.seq ?_
    refine Tri.regionL ?_
    refine OpsL.cons rfl (op_lss rfl rfl) ?_
    refine OpsL.nilK [3, 6, 7, 8, 9] [] (s' := ⟨[(3, I last_1), (6, .b (.one (.sl 5 (l0.map eHolding)))), (7, I (l0.length : Int)), (8, I x_2), (9, B (decide (x_2 < (l0.length : Int))))], []⟩) rfl ?_
    refine Tri.seq ?_
    refine Tri.ite h4 rfl (fun _ h4 => ?_) (fun _ h4 => ?_)
    · refine Tri.skip ?_
      refine Fin.keep [3, 6, 7, 8] [] (s' := ⟨[(3, I last_1), (6, .b (.one (.sl 5 (l0.map eHolding)))), (7, I (l0.length : Int)), (8, I x_2)], []⟩) rfl ?_
      refine Fin.then ?_
      refine Tri.seq ?_
      refine Tri.block ?_
      refine Tri.seq ?_
      refine Tri.regionL ?_
      obtain ⟨x_3, e6, h4⟩ := bnd h4
      refine OpsL.cons rfl (op_index_e tySl42 (ix_lo e6) (ix_map (e := eHolding) e6) rfl rfl) ?_
      refine OpsL.cons rfl (op_load_e tyAgg59 rfl rfl rfl) ?_
      refine OpsL.cons rfl (op_alloc (k := 101) tyZero59 rfl) ?_
      refine OpsL.cons rfl (op_store_p tyAgg59 rfl rfl rfl rfl (Nat.le_of_ble_eq_true rfl) rfl) ?_
      refine OpsL.nilK [3, 5, 6, 7, 8] [101] (s' := ⟨[(3, I last_1), (5, .b (.ptr 101 0)), (6, .b (.one (.sl 5 (l0.map eHolding)))), (7, I (l0.length : Int)), (8, I x_2)], [(101, .box 59 [.i x_3.Body, .i x_3.Epoch, .i x_3.Phase, .i x_3.Peer, .str x_3.Data])]⟩) rfl ?_
      refine Tri.seq ?_
      refine Tri.seq ?_
      refine Tri.regionL ?_
      refine OpsL.cons rfl (op_load_p tyAgg59 rfl rfl rfl rfl) ?_
      obtain ⟨x_4, e7, h4⟩ := bnd h4
      refine OpsL.cons rfl (op_call0 (region_right_spec e7) goes42 rfl rfl) ?_
      refine OpsL.cons rfl (op_not rfl) ?_
      refine OpsL.cons rfl (op_move rfl) ?_
      refine OpsL.consG (!(!x_4)) 99 [] (.plain rfl) (eq_f _) rfl rfl (fun g8 => trivial) (fun g8 => op_field_p tyFld59_0 rfl rfl) ?_
      refine OpsL.keep [3, 5, 6, 7, 8, 15, 16] [101] (s' := ⟨[(3, I last_1), (5, .b (.ptr 101 0)), (6, .b (.one (.sl 5 (l0.map eHolding)))), (7, I (l0.length : Int)), (8, I x_2), (15, B (!x_4)), (16, .opt (!(!x_4)) (.ptr 101 0))], [(101, .box 59 [.i x_3.Body, .i x_3.Epoch, .i x_3.Phase, .i x_3.Peer, .str x_3.Data])]⟩) rfl ?_
      refine OpsL.consG (!(!x_4)) 99 [16] (.plain rfl) (eq_f _) rfl rfl (fun g9 => ⟨g9, trivial⟩) (fun g9 => op_load_p1 tyOne3 rfl rfl rfl) ?_
      refine OpsL.consG (!(!x_4)) 99 [] (.plain rfl) (eq_f _) rfl rfl (fun g10 => trivial) (fun g10 => op_move rfl) ?_
      refine OpsL.consG (!(!x_4)) 99 [17, 18] (.plain rfl) (eq_f _) rfl rfl (fun g11 => ⟨g11, g11, trivial⟩) (fun g11 => op_leq rfl rfl) ?_
      refine OpsL.cons rfl (op_pick_or (fun e => by rw [e]; rfl) rfl rfl rfl rfl) ?_
      refine OpsL.nilK [5, 6, 7, 8, 20] [101] (s' := ⟨[(5, .b (.ptr 101 0)), (6, .b (.one (.sl 5 (l0.map eHolding)))), (7, I (l0.length : Int)), (8, I x_2), (20, B ((!x_4) || (decide (x_3.Body ≤ last_1))))], [(101, .box 59 [.i x_3.Body, .i x_3.Epoch, .i x_3.Phase, .i x_3.Peer, .str x_3.Data])]⟩) rfl ?_
      refine Tri.ite h4 rfl (fun _ h4 => ?_) (fun _ h4 => ?_)
      · refine Tri.seq ?_
        refine Tri.regionL ?_
        refine OpsL.cons rfl (op_assign rfl) ?_
        refine OpsL.nilK [2] [] (s' := ⟨[(2, B false)], []⟩) rfl ?_
        refine Tri.ret ?_
        refine Fin.then_ret ?_
        refine Fin.block_ret ?_
        refine Fin.then_ret ?_
        obtain rfl := hy5 _ (Option.some.inj h4).symm
        refine Fin.then_ret ?_
        refine Fin.block_ret ?_
        refine Fin.then_ret ?_
        obtain rfl := Option.some.inj h
        refine Fin.keep [2] [] (s' := ⟨[(2, B false)], []⟩) rfl ?_
        refine Fin.result' [.one (.bool false)] (.inl rfl) rfl (.cons (.tmp rfl) .nil) ⟨rfl, rfl⟩
      · refine Tri.skip ?_
        refine Fin.keep [5, 6, 7, 8] [101] (s' := ⟨[(5, .b (.ptr 101 0)), (6, .b (.one (.sl 5 (l0.map eHolding)))), (7, I (l0.length : Int)), (8, I x_2)], [(101, .box 59 [.i x_3.Body, .i x_3.Epoch, .i x_3.Phase, .i x_3.Peer, .str x_3.Data])]⟩) rfl ?_
        refine Fin.then ?_
        refine Tri.regionL ?_
        refine OpsL.cons rfl (op_field_p tyFld59_0 rfl rfl) ?_
        refine OpsL.cons rfl (op_load_p1 tyOne3 rfl rfl rfl) ?_
        refine OpsL.cons rfl (op_assign rfl) ?_
        refine OpsL.nil ?_
        refine Fin.block_normal ?_
        refine Fin.keep [3, 6, 7, 8] [] (s' := ⟨[(3, I x_3.Body), (6, .b (.one (.sl 5 (l0.map eHolding)))), (7, I (l0.length : Int)), (8, I x_2)], []⟩) rfl ?_
        refine Fin.then ?_
        refine Tri.regionL ?_
        refine OpsL.cons rfl (op_add rfl rfl) ?_
        refine OpsL.cons rfl (op_move rfl) ?_
        refine OpsL.nil ?_
        exact Fin.againJ [3, 6, 7, 8] [] (x_3.Body, IntKind.i64.wrap (x_2 + 1)) (Option.some.inj h4) rfl
    · refine Tri.exit ?_
      refine Fin.then_exit ?_
      obtain rfl := hy5 _ (Option.some.inj h4).symm
      refine Fin.then_exit ?_
      refine Fin.block_exit ?_
      exact Fin.join [] [] () rfl rfl
  · rintro _ hv
    subst v1
    refine Tri.seq ?_
    refine Tri.regionL ?_
    refine OpsL.cons rfl (op_assign rfl) ?_
    refine OpsL.nilK [2] [] (s' := ⟨[(2, B true)], []⟩) rfl ?_
    refine Tri.ret ?_
    obtain rfl := Option.some.inj h
    refine Fin.keep [2] [] (s' := ⟨[(2, B true)], []⟩) rfl ?_
    refine Fin.result' [.one (.bool true)] (.inl rfl) rfl (.cons (.tmp rfl) .nil) ⟨rfl, rfl⟩

def skewbackref41_body_S (F : Nat) (n0 : Int) : Option Bool :=
 some ((decide (1 ≤ n0)) && (decide (n0 ≤ 400)))
theorem skewbackref41_body_spec {F : Nat} {n0 : Int} {r : Bool} (h : skewbackref41_body_S F n0 = some r) : Meets Try.prog 48 [] [.one (.i n0)] (Is [] (.b (.one (.bool r)))) := by
  unfold skewbackref41_body_S at h
  refine Meets.intro 9 Try.func48 Try.ntmps48 rfl (by simp) fun E => ?_
  show Tri _ E ⟨9, [], []⟩ _ ⟨[(0, I n0)], []⟩ _
  refine Tri.seq ?_
  refine Tri.regionL ?_
  refine OpsL.cons rfl (op_assign rfl) ?_
  refine OpsL.nilK [0] [] (s' := ⟨[(0, I n0)], []⟩) rfl ?_
  refine Tri.seq ?_
  refine Tri.regionL ?_
  refine OpsL.cons rfl (op_move rfl) ?_
  refine OpsL.cons rfl (op_geq rfl rfl) ?_
  refine OpsL.cons rfl (op_move rfl) ?_
  refine OpsL.consG (decide (1 ≤ n0)) 99 [] (.plain rfl) (eq_t _) rfl rfl (fun g1 => trivial) (fun g1 => op_move rfl) ?_
  refine OpsL.consG (decide (1 ≤ n0)) 99 [6] (.plain rfl) (eq_t _) rfl rfl (fun g2 => ⟨g2, trivial⟩) (fun g2 => op_leq rfl rfl) ?_
  refine OpsL.cons rfl (op_pick_and (fun e => e) rfl rfl rfl rfl) ?_
  refine OpsL.cons rfl (op_assign rfl) ?_
  refine OpsL.nilK [2] [] (s' := ⟨[(2, B ((decide (1 ≤ n0)) && (decide (n0 ≤ 400))))], []⟩) rfl ?_
  refine Tri.ret ?_
  obtain rfl := Option.some.inj h
  refine Fin.keep [2] [] (s' := ⟨[(2, B ((decide (1 ≤ n0)) && (decide (n0 ≤ 400))))], []⟩) rfl ?_
  refine Fin.result' [.one (.bool ((decide (1 ≤ n0)) && (decide (n0 ≤ 400))))] (.inl rfl) rfl (.cons (.tmp rfl) .nil) ⟨rfl, rfl⟩

def skewbackref41_most_S (F : Nat) : Option Int :=
 some 1099511627776
theorem skewbackref41_most_spec {F : Nat} {r : Int} (h : skewbackref41_most_S F = some r) : Meets Try.prog 51 [] [] (Is [] (.b (.one (.i r)))) := by
  unfold skewbackref41_most_S at h
  refine Meets.intro 1 Try.func51 Try.ntmps51 rfl (by simp) fun E => ?_
  show Tri _ E ⟨1, [], []⟩ _ ⟨[], []⟩ _
  refine Tri.seq ?_
  refine Tri.regionL ?_
  refine OpsL.cons rfl (op_assign rfl) ?_
  refine OpsL.nilK [] [] (s' := ⟨[], []⟩) rfl ?_
  refine Tri.seq ?_
  refine Tri.regionL ?_
  refine OpsL.cons rfl (op_assign rfl) ?_
  refine OpsL.nilK [0] [] (s' := ⟨[(0, I 1099511627776)], []⟩) rfl ?_
  refine Tri.ret ?_
  obtain rfl := Option.some.inj h
  refine Fin.keep [0] [] (s' := ⟨[(0, I 1099511627776)], []⟩) rfl ?_
  refine Fin.result' [.one (.i 1099511627776)] (.inl rfl) rfl (.cons (.tmp rfl) .nil) ⟨rfl, rfl⟩

def skewbackref41_node_S (F : Nat) (n0 : Int) : Option Bool :=
 some ((decide (0 ≤ n0)) && (decide (n0 < 16)))
theorem skewbackref41_node_spec {F : Nat} {n0 : Int} {r : Bool} (h : skewbackref41_node_S F n0 = some r) : Meets Try.prog 50 [] [.one (.i n0)] (Is [] (.b (.one (.bool r)))) := by
  unfold skewbackref41_node_S at h
  refine Meets.intro 9 Try.func50 Try.ntmps50 rfl (by simp) fun E => ?_
  show Tri _ E ⟨9, [], []⟩ _ ⟨[(0, I n0)], []⟩ _
  refine Tri.seq ?_
  refine Tri.regionL ?_
  refine OpsL.cons rfl (op_assign rfl) ?_
  refine OpsL.nilK [0] [] (s' := ⟨[(0, I n0)], []⟩) rfl ?_
  refine Tri.seq ?_
  refine Tri.regionL ?_
  refine OpsL.cons rfl (op_move rfl) ?_
  refine OpsL.cons rfl (op_geq rfl rfl) ?_
  refine OpsL.cons rfl (op_move rfl) ?_
  refine OpsL.consG (decide (0 ≤ n0)) 99 [] (.plain rfl) (eq_t _) rfl rfl (fun g1 => trivial) (fun g1 => op_move rfl) ?_
  refine OpsL.consG (decide (0 ≤ n0)) 99 [6] (.plain rfl) (eq_t _) rfl rfl (fun g2 => ⟨g2, trivial⟩) (fun g2 => op_lss rfl rfl) ?_
  refine OpsL.cons rfl (op_pick_and (fun e => e) rfl rfl rfl rfl) ?_
  refine OpsL.cons rfl (op_assign rfl) ?_
  refine OpsL.nilK [2] [] (s' := ⟨[(2, B ((decide (0 ≤ n0)) && (decide (n0 < 16))))], []⟩) rfl ?_
  refine Tri.ret ?_
  obtain rfl := Option.some.inj h
  refine Fin.keep [2] [] (s' := ⟨[(2, B ((decide (0 ≤ n0)) && (decide (n0 < 16))))], []⟩) rfl ?_
  refine Fin.result' [.one (.bool ((decide (0 ≤ n0)) && (decide (n0 < 16))))] (.inl rfl) rfl (.cons (.tmp rfl) .nil) ⟨rfl, rfl⟩

def skewbackref41_right_S (F : Nat) (h0 : Holding) : Option Bool :=
 Option.bind (skewbackref41_body_S F h0.Body) (fun x_1 => Option.bind (gcall (!((!x_1) || (decide (h0.Epoch < 0)))) (skewbackref41_most_S F)) (fun x_2 => if (((!x_1) || (decide (h0.Epoch < 0))) || (decide (x_2 < h0.Epoch))) = true then (some false) else (Option.bind (if (decide (h0.Phase = 0)) = true then (some (.inr ((decide (h0.Peer = 0)) && (decide (h0.Data = []))))) else (if (decide (h0.Phase = 1)) = true then (some (.inr (decide (h0.Peer = 0)))) else (Option.bind (if (decide (h0.Phase = 2)) = true then (some (decide (h0.Phase = 2))) else (if (decide (h0.Phase = 3)) = true then (some (decide (h0.Phase = 3))) else (some (decide (h0.Phase = 4))))) (fun x_3 => if x_3 = true then (Option.bind (skewbackref41_node_S F h0.Peer) (fun x_4 => some (.inr (x_4 && (decide (1 ≤ h0.Epoch)))))) else (some (.inl ())))))) (alt2 (fun _ => some false) (fun y => some y)))))
theorem skewbackref41_right_spec {F : Nat} {h0 : Holding} {r : Bool} (h : skewbackref41_right_S F h0 = some r) : Meets Try.prog 43 [] [.agg (eHolding h0)] (Is [] (.b (.one (.bool r)))) := by
  unfold skewbackref41_right_S at h
  refine Meets.intro 47 Try.func43 Try.ntmps43 rfl (by simp) fun E => ?_
  show Tri _ E ⟨47, [], []⟩ _ ⟨[(0, .b (.agg [.i h0.Body, .i h0.Epoch, .i h0.Phase, .i h0.Peer, .str h0.Data]))], []⟩ _
  refine Tri.seq ?_
  refine Tri.regionL ?_
  refine OpsL.cons rfl (op_box (k := 101) rfl rfl) ?_
  refine OpsL.cons rfl (op_assign rfl) ?_
  refine OpsL.nilK [1] [101] (s' := ⟨[(1, .b (.ptr 101 0))], [(101, .box 59 [.i h0.Body, .i h0.Epoch, .i h0.Phase, .i h0.Peer, .str h0.Data])]⟩) rfl ?_
  refine Tri.seq ?_
  refine Tri.seq ?_
  refine Tri.keep [1] [101] (s' := ⟨[(1, .b (.ptr 101 0))], [(101, .box 59 [.i h0.Body, .i h0.Epoch, .i h0.Phase, .i h0.Peer, .str h0.Data])]⟩) rfl ?_
  obtain ⟨x_1, e1, h⟩ := bnd h
  obtain ⟨x_2, e8, h⟩ := bnd h
  refine Tri.regionD mixed [.b (.ptr 101 0), I h0.Body, B x_1, B (!x_1), B (!x_1), .opt (!(!x_1)) (.ptr 101 1), .opt (!(!x_1)) (.one (.i h0.Epoch)), .opt (!(!x_1)) (.one (.bool (decide (h0.Epoch < 0)))), B ((!x_1) || (decide (h0.Epoch < 0))), B ((!x_1) || (decide (h0.Epoch < 0))), .opt (!((!x_1) || (decide (h0.Epoch < 0)))) (.ptr 101 1), .opt (!((!x_1) || (decide (h0.Epoch < 0)))) (.one (.i h0.Epoch)), .opt (!((!x_1) || (decide (h0.Epoch < 0)))) (.one (.i x_2)), .opt (!((!x_1) || (decide (h0.Epoch < 0)))) (.one (.bool (decide (x_2 < h0.Epoch)))), B (((!x_1) || (decide (h0.Epoch < 0))) || (decide (x_2 < h0.Epoch)))] [1, 17] [101] (s' := ⟨[(1, .b (.ptr 101 0)), (17, B (((!x_1) || (decide (h0.Epoch < 0))) || (decide (x_2 < h0.Epoch))))], [(101, .box 59 [.i h0.Body, .i h0.Epoch, .i h0.Phase, .i h0.Peer, .str h0.Data])]⟩) rfl ⟨fun _ => .plain rfl (op_field_p tyFld59_0 rfl rfl), fun _ => .plain rfl (op_load_p1 tyOne3 rfl rfl rfl), fun _ => .plain rfl (op_call0 (skewbackref41_body_spec e1) goes48 rfl rfl), fun _ => .plain rfl (op_not rfl), fun _ => .plain rfl (op_move rfl), fun _ => by exact .guard (!(!x_1)) 1 [] (.plain rfl) (eq_f _) rfl rfl (fun g2 => trivial) (fun g2 => op_field_p tyFld59_1 rfl rfl), fun _ => by exact .guard (!(!x_1)) 2 [8] (.plain rfl) (eq_f _) rfl rfl (fun g3 => ⟨g3, trivial⟩) (fun g3 => op_load_p1 tyOne3 rfl rfl rfl), fun _ => by exact .guard (!(!x_1)) 2 [9] (.plain rfl) (eq_f _) rfl rfl (fun g4 => ⟨g4, trivial⟩) (fun g4 => op_lss rfl rfl), fun _ => .plain rfl (op_pick_or (fun e => by rw [e]; rfl) rfl rfl rfl rfl), fun _ => .plain rfl (op_move rfl), fun _ => by exact .guard (!((!x_1) || (decide (h0.Epoch < 0)))) 1 [] (.plain rfl) (eq_f _) rfl rfl (fun g5 => trivial) (fun g5 => op_field_p tyFld59_1 rfl rfl), fun _ => by exact .guard (!((!x_1) || (decide (h0.Epoch < 0)))) 2 [13] (.plain rfl) (eq_f _) rfl rfl (fun g6 => ⟨g6, trivial⟩) (fun g6 => op_load_p1 tyOne3 rfl rfl rfl), fun _ => by exact .guard (!((!x_1) || (decide (h0.Epoch < 0)))) 2 [] (.plain rfl) (eq_f _) rfl rfl (fun g7 => trivial) (fun g7 => op_call0 (skewbackref41_most_spec (gc e8 g7)) goes51 rfl rfl), fun _ => by exact .guard (!((!x_1) || (decide (h0.Epoch < 0)))) 3 [14, 15] (.plain rfl) (eq_f _) rfl rfl (fun g9 => ⟨g9, g9, trivial⟩) (fun g9 => op_gtr rfl rfl), fun _ => .plain rfl (op_pick_or (fun e => by rw [e]; rfl) rfl rfl rfl rfl), trivial⟩ rfl ?_
  refine Tri.ite h rfl (fun _ h => ?_) (fun _ h => ?_)
  · refine Tri.seq ?_
    refine Tri.regionL ?_
    refine OpsL.cons rfl (op_assign rfl) ?_
    refine OpsL.nilK [2] [] (s' := ⟨[(2, B false)], []⟩) rfl ?_
    refine Tri.ret ?_
    refine Fin.then_ret ?_
    obtain rfl := Option.some.inj h
    refine Fin.keep [2] [] (s' := ⟨[(2, B false)], []⟩) rfl ?_
    refine Fin.result' [.one (.bool false)] (.inl rfl) rfl (.cons (.tmp rfl) .nil) ⟨rfl, rfl⟩
  · refine Tri.skip ?_
    refine Fin.keep [1] [101] (s' := ⟨[(1, .b (.ptr 101 0))], [(101, .box 59 [.i h0.Body, .i h0.Epoch, .i h0.Phase, .i h0.Peer, .str h0.Data])]⟩) rfl ?_
    refine Fin.then ?_
    obtain ⟨v10, h11, h⟩ := bnd h
    refine Tri.seqJ (v := v10) (fun (_ : Unit) => ⟨[], []⟩) (fun z => .inl z) ?_ ?_
    · refine Tri.seq ?_
      refine Tri.regionL ?_
      refine OpsL.cons rfl (op_field_p tyFld59_2 rfl rfl) ?_
      refine OpsL.cons rfl (op_load_p1 tyOne3 rfl rfl rfl) ?_
      refine OpsL.nilK [1, 19] [101] (s' := ⟨[(1, .b (.ptr 101 0)), (19, I h0.Phase)], [(101, .box 59 [.i h0.Body, .i h0.Epoch, .i h0.Phase, .i h0.Peer, .str h0.Data])]⟩) rfl ?_
      refine Tri.block ?_
      refine Tri.seq ?_
      refine Tri.regionL ?_
      refine OpsL.cons rfl (op_eql rfl rfl) ?_
      refine OpsL.cons rfl (op_assign rfl) ?_
      refine OpsL.nilK [1, 19, 20] [101] (s' := ⟨[(1, .b (.ptr 101 0)), (19, I h0.Phase), (20, B (decide (h0.Phase = 0)))], [(101, .box 59 [.i h0.Body, .i h0.Epoch, .i h0.Phase, .i h0.Peer, .str h0.Data])]⟩) rfl ?_
      refine Tri.ite h11 rfl (fun _ h11 => ?_) (fun _ h11 => ?_)
      · refine Tri.seq ?_
        refine Tri.regionL ?_
        refine OpsL.cons rfl (op_field_p tyFld59_3 rfl rfl) ?_
        refine OpsL.cons rfl (op_load_p1 tyOne3 rfl rfl rfl) ?_
        refine OpsL.cons rfl (op_eql rfl rfl) ?_
        refine OpsL.cons rfl (op_move rfl) ?_
        refine OpsL.consG (decide (h0.Peer = 0)) 99 [] (.plain rfl) (eq_t _) rfl rfl (fun g12 => trivial) (fun g12 => op_field_p tyFld59_4 rfl rfl) ?_
        refine OpsL.consG (decide (h0.Peer = 0)) 99 [26] (.plain rfl) (eq_t _) rfl rfl (fun g13 => ⟨g13, trivial⟩) (fun g13 => op_load_p1 tyOne9 rfl rfl rfl) ?_
        refine OpsL.consG (decide (h0.Peer = 0)) 99 [27] (.plain rfl) (eq_t _) rfl rfl (fun g14 => ⟨g14, trivial⟩) (fun g14 => op_eql_str rfl rfl) ?_
        refine OpsL.cons rfl (op_pick_and (fun e => e) rfl rfl rfl rfl) ?_
        refine OpsL.cons rfl (op_assign rfl) ?_
        refine OpsL.nilK [2] [] (s' := ⟨[(2, B ((decide (h0.Peer = 0)) && (decide (h0.Data = []))))], []⟩) rfl ?_
        refine Tri.ret ?_
        refine Fin.block_ret ?_
        obtain rfl := Option.some.inj h11
        refine Fin.then_ret ?_
        obtain rfl := Option.some.inj h
        refine Fin.keep [2] [] (s' := ⟨[(2, B ((decide (h0.Peer = 0)) && (decide (h0.Data = []))))], []⟩) rfl ?_
        refine Fin.result' [.one (.bool ((decide (h0.Peer = 0)) && (decide (h0.Data = []))))] (.inl rfl) rfl (.cons (.tmp rfl) .nil) ⟨rfl, rfl⟩
      · refine Tri.seq ?_
        refine Tri.regionL ?_
        refine OpsL.cons rfl (op_eql rfl rfl) ?_
        refine OpsL.cons rfl (op_assign rfl) ?_
        refine OpsL.nilK [1, 19, 30] [101] (s' := ⟨[(1, .b (.ptr 101 0)), (19, I h0.Phase), (30, B (decide (h0.Phase = 1)))], [(101, .box 59 [.i h0.Body, .i h0.Epoch, .i h0.Phase, .i h0.Peer, .str h0.Data])]⟩) rfl ?_
        refine Tri.ite h11 rfl (fun _ h11 => ?_) (fun _ h11 => ?_)
        · refine Tri.seq ?_
          refine Tri.regionL ?_
          refine OpsL.cons rfl (op_field_p tyFld59_3 rfl rfl) ?_
          refine OpsL.cons rfl (op_load_p1 tyOne3 rfl rfl rfl) ?_
          refine OpsL.cons rfl (op_eql rfl rfl) ?_
          refine OpsL.cons rfl (op_assign rfl) ?_
          refine OpsL.nilK [2] [] (s' := ⟨[(2, B (decide (h0.Peer = 0)))], []⟩) rfl ?_
          refine Tri.ret ?_
          refine Fin.block_ret ?_
          obtain rfl := Option.some.inj h11
          refine Fin.then_ret ?_
          obtain rfl := Option.some.inj h
          refine Fin.keep [2] [] (s' := ⟨[(2, B (decide (h0.Peer = 0)))], []⟩) rfl ?_
          refine Fin.result' [.one (.bool (decide (h0.Peer = 0)))] (.inl rfl) rfl (.cons (.tmp rfl) .nil) ⟨rfl, rfl⟩
        · obtain ⟨v15, h16, h11⟩ := bnd h11
          refine Tri.seqJ (v := v15) (fun (x_3 : Bool) => ⟨[(1, .b (.ptr 101 0)), (35, B x_3)], [(101, .box 59 [.i h0.Body, .i h0.Epoch, .i h0.Phase, .i h0.Peer, .str h0.Data])]⟩) (fun z => z) ?_ ?_
          · refine Tri.seq ?_
            refine Tri.regionL ?_
            refine OpsL.cons rfl (op_eql rfl rfl) ?_
            refine OpsL.cons rfl (op_assign rfl) ?_
            refine OpsL.nilK [1, 19, 35] [101] (s' := ⟨[(1, .b (.ptr 101 0)), (19, I h0.Phase), (35, B (decide (h0.Phase = 2)))], [(101, .box 59 [.i h0.Body, .i h0.Epoch, .i h0.Phase, .i h0.Peer, .str h0.Data])]⟩) rfl ?_
            refine Tri.ite h16 rfl (fun _ h16 => ?_) (fun _ h16 => ?_)
            · refine Tri.skip ?_
              exact Fin.join [1, 35] [101] (decide (h0.Phase = 2)) (Option.some.inj h16) rfl
            · refine Tri.seq ?_
              refine Tri.regionL ?_
              refine OpsL.cons rfl (op_eql rfl rfl) ?_
              refine OpsL.cons rfl (op_assign rfl) ?_
              refine OpsL.nilK [1, 19, 35] [101] (s' := ⟨[(1, .b (.ptr 101 0)), (19, I h0.Phase), (35, B (decide (h0.Phase = 3)))], [(101, .box 59 [.i h0.Body, .i h0.Epoch, .i h0.Phase, .i h0.Peer, .str h0.Data])]⟩) rfl ?_
              refine Tri.ite h16 rfl (fun _ h16 => ?_) (fun _ h16 => ?_)
              · refine Tri.skip ?_
                exact Fin.join [1, 35] [101] (decide (h0.Phase = 3)) (Option.some.inj h16) rfl
              · refine Tri.regionL ?_
                refine OpsL.cons rfl (op_eql rfl rfl) ?_
                refine OpsL.cons rfl (op_assign rfl) ?_
                refine OpsL.nil ?_
                exact Fin.join [1, 35] [101] (decide (h0.Phase = 4)) (Option.some.inj h16) rfl
          · rintro x_3 hv
            subst v15
            refine Tri.ite h11 rfl (fun _ h11 => ?_) (fun _ h11 => ?_)
            · refine Tri.seq ?_
              refine Tri.regionL ?_
              refine OpsL.cons rfl (op_field_p tyFld59_3 rfl rfl) ?_
              refine OpsL.cons rfl (op_load_p1 tyOne3 rfl rfl rfl) ?_
              obtain ⟨x_4, e17, h11⟩ := bnd h11
              refine OpsL.cons rfl (op_call0 (skewbackref41_node_spec e17) goes50 rfl rfl) ?_
              refine OpsL.cons rfl (op_move rfl) ?_
              refine OpsL.consG x_4 99 [] (.plain rfl) (eq_t _) rfl rfl (fun g18 => trivial) (fun g18 => op_field_p tyFld59_1 rfl rfl) ?_
              refine OpsL.keep [42, 43] [101] (s' := ⟨[(42, B x_4), (43, .opt x_4 (.ptr 101 1))], [(101, .box 59 [.i h0.Body, .i h0.Epoch, .i h0.Phase, .i h0.Peer, .str h0.Data])]⟩) rfl ?_
              refine OpsL.consG x_4 99 [43] (.plain rfl) (eq_t _) rfl rfl (fun g19 => ⟨g19, trivial⟩) (fun g19 => op_load_p1 tyOne3 rfl rfl rfl) ?_
              refine OpsL.consG x_4 99 [44] (.plain rfl) (eq_t _) rfl rfl (fun g20 => ⟨g20, trivial⟩) (fun g20 => op_geq rfl rfl) ?_
              refine OpsL.cons rfl (op_pick_and (fun e => e) rfl rfl rfl rfl) ?_
              refine OpsL.cons rfl (op_assign rfl) ?_
              refine OpsL.nilK [2] [] (s' := ⟨[(2, B (x_4 && (decide (1 ≤ h0.Epoch))))], []⟩) rfl ?_
              refine Tri.ret ?_
              refine Fin.block_ret ?_
              obtain rfl := Option.some.inj h11
              refine Fin.then_ret ?_
              obtain rfl := Option.some.inj h
              refine Fin.keep [2] [] (s' := ⟨[(2, B (x_4 && (decide (1 ≤ h0.Epoch))))], []⟩) rfl ?_
              refine Fin.result' [.one (.bool (x_4 && (decide (1 ≤ h0.Epoch))))] (.inl rfl) rfl (.cons (.tmp rfl) .nil) ⟨rfl, rfl⟩
            · refine Tri.skip ?_
              refine Fin.block_normal ?_
              exact Fin.join [] [] () (Option.some.inj h11) rfl
    · rintro _ hv
      subst v10
      refine Tri.seq ?_
      refine Tri.regionL ?_
      refine OpsL.cons rfl (op_assign rfl) ?_
      refine OpsL.nilK [2] [] (s' := ⟨[(2, B false)], []⟩) rfl ?_
      refine Tri.ret ?_
      obtain rfl := Option.some.inj h
      refine Fin.keep [2] [] (s' := ⟨[(2, B false)], []⟩) rfl ?_
      refine Fin.result' [.one (.bool false)] (.inl rfl) rfl (.cons (.tmp rfl) .nil) ⟨rfl, rfl⟩

def skewbackref41_Valid_S (F : Nat) (l0 : List Holding) : Option Bool :=
 Option.bind (iter F (un2 fun last_1 i_2 => if (decide (i_2 < (l0.length : Int))) = true then (Option.bind (idx? l0 i_2) (fun x_3 => Option.bind (skewbackref41_right_S F x_3) (fun x_4 => Option.bind (gcall (!(!x_4)) (idx? l0 i_2)) (fun x_5 => if ((!x_4) || (decide (x_5.Body ≤ last_1))) = true then (some (.inr (.inr false))) else (Option.bind (idx? l0 i_2) (fun x_6 => some (.inl (x_6.Body, IntKind.i64.wrap (i_2 + 1))))))))) else (some (.inr (.inl ())))) (0, 0)) (alt2 (fun _ => some true) (fun y => some y))
theorem skewbackref41_Valid_spec {F : Nat} {l0 : List Holding} {r : Bool} (h : skewbackref41_Valid_S F l0 = some r) : Meets Try.prog 20 [] [.one (.sl 5 (l0.map eHolding))] (Is [] (.b (.one (.bool r)))) := by
  unfold skewbackref41_Valid_S at h
  refine Meets.intro 33 Try.func20 Try.ntmps20 rfl (by simp) fun E => ?_
  show Tri _ E ⟨33, [], []⟩ _ ⟨[(0, .b (.one (.sl 5 (l0.map eHolding))))], []⟩ _
  refine Tri.seq ?_
  refine Tri.regionL ?_
  refine OpsL.cons rfl (op_assign rfl) ?_
  refine OpsL.nilK [0] [] (s' := ⟨[(0, .b (.one (.sl 5 (l0.map eHolding))))], []⟩) rfl ?_
  refine Tri.seq ?_
  refine Tri.regionL ?_
  refine OpsL.cons rfl (op_assign rfl) ?_
  refine OpsL.nilK [0, 3] [] (s' := ⟨[(0, .b (.one (.sl 5 (l0.map eHolding)))), (3, I 0)], []⟩) rfl ?_
  obtain ⟨v1, h2, h⟩ := bnd h
  refine Tri.seqJ (v := v1) (fun (_ : Unit) => ⟨[], []⟩) (fun z => .inl z) ?_ ?_
  · refine Tri.seq ?_
    refine Tri.regionL ?_
    refine OpsL.cons rfl (op_assign rfl) ?_
    refine OpsL.nilK [0, 3, 4] [] (s' := ⟨[(0, .b (.one (.sl 5 (l0.map eHolding)))), (3, I 0), (4, I 0)], []⟩) rfl ?_
    refine Tri.block ?_
    refine Tri.loopJ h2 (un2 fun (last_1 : Int) (i_2 : Int) => ⟨[(0, .b (.one (.sl 5 (l0.map eHolding)))), (3, I last_1), (4, I i_2)], []⟩) [0, 3, 4] [] rfl ?_
    rintro ⟨last_1, i_2⟩ o3 h4 hy5
    refine Tri.seq ?_
    refine Tri.seq ?_
    refine Tri.regionL ?_
    refine OpsL.cons rfl (op_move rfl) ?_
    refine OpsL.cons rfl (op_move rfl) ?_
    refine OpsL.cons rfl (op_len_e' und42 rfl (List.length_map _)) ?_
    refine OpsL.cons rfl (op_lss rfl rfl) ?_
    refine OpsL.nilK [0, 3, 4, 9] [] (s' := ⟨[(0, .b (.one (.sl 5 (l0.map eHolding)))), (3, I last_1), (4, I i_2), (9, B (decide (i_2 < (l0.length : Int))))], []⟩) rfl ?_
    refine Tri.ite h4 rfl (fun _ h4 => ?_) (fun _ h4 => ?_)
    · refine Tri.skip ?_
      refine Fin.keep [0, 3, 4] [] (s' := ⟨[(0, .b (.one (.sl 5 (l0.map eHolding)))), (3, I last_1), (4, I i_2)], []⟩) rfl ?_
      refine Fin.then ?_
      refine Tri.seq ?_
      refine Tri.block ?_
      refine Tri.seq ?_
      refine Tri.regionL ?_
      refine OpsL.cons rfl (op_move rfl) ?_
      refine OpsL.cons rfl (op_move rfl) ?_
      obtain ⟨x_3, e6, h4⟩ := bnd h4
      refine OpsL.cons rfl (op_index_e tySl42 (ix_lo e6) (ix_map (e := eHolding) e6) rfl rfl) ?_
      refine OpsL.cons rfl (op_load_e tyAgg59 rfl rfl rfl) ?_
      obtain ⟨x_4, e7, h4⟩ := bnd h4
      refine OpsL.cons rfl (op_call0 (skewbackref41_right_spec e7) goes43 rfl rfl) ?_
      refine OpsL.cons rfl (op_assign rfl) ?_
      refine OpsL.nilK [0, 3, 4, 5] [] (s' := ⟨[(0, .b (.one (.sl 5 (l0.map eHolding)))), (3, I last_1), (4, I i_2), (5, B x_4)], []⟩) rfl ?_
      refine Tri.seq ?_
      refine Tri.seq ?_
      refine Tri.regionL ?_
      refine OpsL.cons rfl (op_move rfl) ?_
      refine OpsL.cons rfl (op_not rfl) ?_
      refine OpsL.cons rfl (op_move rfl) ?_
      refine OpsL.consG (!(!x_4)) 99 [] (.plain rfl) (eq_f _) rfl rfl (fun g8 => trivial) (fun g8 => op_move rfl) ?_
      refine OpsL.consG (!(!x_4)) 99 [] (.plain rfl) (eq_f _) rfl rfl (fun g9 => trivial) (fun g9 => op_move rfl) ?_
      obtain ⟨x_5, e11, h4⟩ := bnd h4
      refine OpsL.consG (!(!x_4)) 99 [20, 21] (.plain rfl) (eq_f _) rfl rfl (fun g10 => ⟨g10, g10, trivial⟩) (fun g10 => op_index_e tySl42 (ix_lo (gc e11 g10)) (ix_map (e := eHolding) (gc e11 g10)) rfl rfl) ?_
      refine OpsL.consG (!(!x_4)) 99 [22] (.plain rfl) (eq_f _) rfl rfl (fun g12 => ⟨g12, trivial⟩) (fun g12 => op_field_e tyFld59_0 rfl rfl) ?_
      refine OpsL.keep [0, 3, 4, 19, 23] [] (s' := ⟨[(0, .b (.one (.sl 5 (l0.map eHolding)))), (3, I last_1), (4, I i_2), (19, B (!x_4)), (23, .opt (!(!x_4)) (.eptr [.i x_5.Body, .i x_5.Epoch, .i x_5.Phase, .i x_5.Peer, .str x_5.Data]))], []⟩) rfl ?_
      refine OpsL.consG (!(!x_4)) 99 [23] (.plain rfl) (eq_f _) rfl rfl (fun g13 => ⟨g13, trivial⟩) (fun g13 => op_load_e1 tyOne3 rfl rfl) ?_
      refine OpsL.consG (!(!x_4)) 99 [] (.plain rfl) (eq_f _) rfl rfl (fun g14 => trivial) (fun g14 => op_move rfl) ?_
      refine OpsL.consG (!(!x_4)) 99 [24, 25] (.plain rfl) (eq_f _) rfl rfl (fun g15 => ⟨g15, g15, trivial⟩) (fun g15 => op_leq rfl rfl) ?_
      refine OpsL.cons rfl (op_pick_or (fun e => by rw [e]; rfl) rfl rfl rfl rfl) ?_
      refine OpsL.nilK [0, 4, 27] [] (s' := ⟨[(0, .b (.one (.sl 5 (l0.map eHolding)))), (4, I i_2), (27, B ((!x_4) || (decide (x_5.Body ≤ last_1))))], []⟩) rfl ?_
      refine Tri.ite h4 rfl (fun _ h4 => ?_) (fun _ h4 => ?_)
      · refine Tri.seq ?_
        refine Tri.regionL ?_
        refine OpsL.cons rfl (op_assign rfl) ?_
        refine OpsL.nilK [2] [] (s' := ⟨[(2, B false)], []⟩) rfl ?_
        refine Tri.ret ?_
        refine Fin.then_ret ?_
        refine Fin.block_ret ?_
        refine Fin.then_ret ?_
        obtain rfl := hy5 _ (Option.some.inj h4).symm
        refine Fin.then_ret ?_
        refine Fin.block_ret ?_
        refine Fin.then_ret ?_
        obtain rfl := Option.some.inj h
        refine Fin.keep [2] [] (s' := ⟨[(2, B false)], []⟩) rfl ?_
        refine Fin.result' [.one (.bool false)] (.inl rfl) rfl (.cons (.tmp rfl) .nil) ⟨rfl, rfl⟩
      · refine Tri.skip ?_
        refine Fin.keep [0, 4] [] (s' := ⟨[(0, .b (.one (.sl 5 (l0.map eHolding)))), (4, I i_2)], []⟩) rfl ?_
        refine Fin.then ?_
        refine Tri.regionL ?_
        refine OpsL.cons rfl (op_move rfl) ?_
        refine OpsL.cons rfl (op_move rfl) ?_
        obtain ⟨x_6, e16, h4⟩ := bnd h4
        refine OpsL.cons rfl (op_index_e tySl42 (ix_lo e16) (ix_map (e := eHolding) e16) rfl rfl) ?_
        refine OpsL.cons rfl (op_field_e tyFld59_0 rfl rfl) ?_
        refine OpsL.cons rfl (op_load_e1 tyOne3 rfl rfl) ?_
        refine OpsL.cons rfl (op_assign rfl) ?_
        refine OpsL.nil ?_
        refine Fin.block_normal ?_
        refine Fin.keep [0, 3, 4] [] (s' := ⟨[(0, .b (.one (.sl 5 (l0.map eHolding)))), (3, I x_6.Body), (4, I i_2)], []⟩) rfl ?_
        refine Fin.then ?_
        refine Tri.regionL ?_
        refine OpsL.cons rfl (op_move rfl) ?_
        refine OpsL.cons rfl (op_add rfl rfl) ?_
        refine OpsL.cons rfl (op_assign rfl) ?_
        refine OpsL.nil ?_
        exact Fin.againJ [0, 3, 4] [] (x_6.Body, IntKind.i64.wrap (i_2 + 1)) (Option.some.inj h4) rfl
    · refine Tri.exit ?_
      refine Fin.then_exit ?_
      obtain rfl := hy5 _ (Option.some.inj h4).symm
      refine Fin.then_exit ?_
      refine Fin.block_exit ?_
      exact Fin.join [] [] () rfl rfl
  · rintro _ hv
    subst v1
    refine Tri.seq ?_
    refine Tri.regionL ?_
    refine OpsL.cons rfl (op_assign rfl) ?_
    refine OpsL.nilK [2] [] (s' := ⟨[(2, B true)], []⟩) rfl ?_
    refine Tri.ret ?_
    obtain rfl := Option.some.inj h
    refine Fin.keep [2] [] (s' := ⟨[(2, B true)], []⟩) rfl ?_
    refine Fin.result' [.one (.bool true)] (.inl rfl) rfl (.cons (.tmp rfl) .nil) ⟨rfl, rfl⟩

def region_Put_S (F : Nat) (l0 : List Holding) (body0 : Int) (data0 : Str) : Option ((List Holding) × Int) :=
 Option.bind (region_Get_S F l0 body0) (fun x_1 => if (decide (x_1.Phase ≠ 1)) = true then (some ([], 4)) else (Option.bind (region_set_S F l0 (⟨x_1.Body, x_1.Epoch, x_1.Phase, x_1.Peer, data0⟩ : Holding)) (fun x_2 => some (x_2, 0))))
theorem region_Put_spec (k0 : Nat) {F : Nat} {l0 : List Holding} {body0 : Int} {data0 : Str} {r : (List Holding) × Int} (h : region_Put_S F l0 body0 data0 = some r) : Meets Try.prog 22 [] [.one (.sl 5 (l0.map eHolding)), .one (.i body0), .one (.str data0)] (Is [(k0, .row 59 5 (r.1.map eHolding))] (.tup [.row k0, .one (.i r.2)])) := by
  unfold region_Put_S at h
  refine Meets.intro 20 Try.func22 Try.ntmps22 rfl (by simp) fun E => ?_
  show Tri _ E ⟨20, [], []⟩ _ ⟨[(0, .b (.one (.sl 5 (l0.map eHolding)))), (1, I body0), (2, .b (.one (.str data0)))], []⟩ _
  refine Tri.seq ?_
  refine Tri.regionL ?_
  refine OpsL.cons rfl (op_assign rfl) ?_
  refine OpsL.cons rfl (op_assign rfl) ?_
  refine OpsL.nilK [0, 1, 2] [] (s' := ⟨[(0, .b (.one (.sl 5 (l0.map eHolding)))), (1, I body0), (2, .b (.one (.str data0)))], []⟩) rfl ?_
  refine Tri.seq ?_
  refine Tri.regionL ?_
  refine OpsL.cons rfl (op_move rfl) ?_
  refine OpsL.cons rfl (op_move rfl) ?_
  obtain ⟨x_1, e1, h⟩ := bnd h
  refine OpsL.cons rfl (op_call0 (region_Get_spec e1) goes30 rfl rfl) ?_
  refine OpsL.cons rfl (op_alloc (k := 101) tyZero59 rfl) ?_
  refine OpsL.cons rfl (op_store_p tyAgg59 rfl rfl rfl rfl (Nat.le_of_ble_eq_true rfl) rfl) ?_
  refine OpsL.nilK [0, 2, 8] [101] (s' := ⟨[(0, .b (.one (.sl 5 (l0.map eHolding)))), (2, .b (.one (.str data0))), (8, .b (.ptr 101 0))], [(101, .box 59 [.i x_1.Body, .i x_1.Epoch, .i x_1.Phase, .i x_1.Peer, .str x_1.Data])]⟩) rfl ?_
  refine Tri.seq ?_
  refine Tri.seq ?_
  refine Tri.regionL ?_
  refine OpsL.cons rfl (op_field_p tyFld59_2 rfl rfl) ?_
  refine OpsL.cons rfl (op_load_p1 tyOne3 rfl rfl rfl) ?_
  refine OpsL.cons rfl (op_neq rfl rfl) ?_
  refine OpsL.nilK [0, 2, 8, 14] [101] (s' := ⟨[(0, .b (.one (.sl 5 (l0.map eHolding)))), (2, .b (.one (.str data0))), (8, .b (.ptr 101 0)), (14, B (decide (x_1.Phase ≠ 1)))], [(101, .box 59 [.i x_1.Body, .i x_1.Epoch, .i x_1.Phase, .i x_1.Peer, .str x_1.Data])]⟩) rfl ?_
  refine Tri.ite h rfl (fun _ h => ?_) (fun _ h => ?_)
  · refine Tri.seq ?_
    refine Tri.regionL ?_
    refine OpsL.cons rfl (op_assign rfl) ?_
    refine OpsL.cons rfl (op_assign rfl) ?_
    refine OpsL.nilK [6, 7] [] (s' := ⟨[(6, .b (.one (.nil))), (7, I 4)], []⟩) rfl ?_
    refine Tri.ret ?_
    refine Fin.then_ret ?_
    obtain rfl := Option.some.inj h
    refine Fin.keep [6, 7] [] (s' := ⟨[(6, .b (.one (.nil))), (7, I 4)], []⟩) rfl ?_
    refine Fin.nilrow 6 102 5 59 rfl (by decide) rfl ?_
    refine Fin.resultK 102 k0 [.row 102, .one (.i 4)] (.inl rfl) rfl (.cons (.tmp rfl) (.cons (.tmp rfl) .nil)) rfl rfl rfl rfl ⟨rfl, rfl⟩
  · refine Tri.skip ?_
    refine Fin.keep [0, 2, 8] [101] (s' := ⟨[(0, .b (.one (.sl 5 (l0.map eHolding)))), (2, .b (.one (.str data0))), (8, .b (.ptr 101 0))], [(101, .box 59 [.i x_1.Body, .i x_1.Epoch, .i x_1.Phase, .i x_1.Peer, .str x_1.Data])]⟩) rfl ?_
    refine Fin.then ?_
    refine Tri.seq ?_
    refine Tri.regionL ?_
    refine OpsL.cons rfl (op_move rfl) ?_
    refine OpsL.cons rfl (op_field_p tyFld59_4 rfl rfl) ?_
    refine OpsL.cons rfl (op_store_p1 tyOne9 rfl rfl rfl (Nat.le_of_ble_eq_true rfl) rfl) ?_
    refine OpsL.nilK [0, 8] [101] (s' := ⟨[(0, .b (.one (.sl 5 (l0.map eHolding)))), (8, .b (.ptr 101 0))], [(101, .box 59 [.i x_1.Body, .i x_1.Epoch, .i x_1.Phase, .i x_1.Peer, .str data0])]⟩) rfl ?_
    refine Tri.seq ?_
    refine Tri.regionL ?_
    refine OpsL.cons rfl (op_move rfl) ?_
    refine OpsL.cons rfl (op_load_p tyAgg59 rfl rfl rfl rfl) ?_
    obtain ⟨x_2, e2, h⟩ := bnd h
    refine OpsL.cons rfl (op_call (region_set_spec 103 e2) goes46 rfl trivial rfl rfl) ?_
    refine OpsL.cons rfl (op_assign rfl) ?_
    refine OpsL.cons rfl (op_assign rfl) ?_
    refine OpsL.nilK [6, 7] [103] (s' := ⟨[(6, .b (.row 103)), (7, I 0)], [(103, .row 59 5 (x_2.map eHolding))]⟩) rfl ?_
    refine Tri.ret ?_
    obtain rfl := Option.some.inj h
    refine Fin.keep [6, 7] [103] (s' := ⟨[(6, .b (.row 103)), (7, I 0)], [(103, .row 59 5 (x_2.map eHolding))]⟩) rfl ?_
    refine Fin.resultK 103 k0 [.row 103, .one (.i 0)] (.inl rfl) rfl (.cons (.tmp rfl) (.cons (.tmp rfl) .nil)) rfl rfl rfl rfl ⟨rfl, rfl⟩

def region_Cancel_S (F : Nat) (l0 : List Holding) (body0 : Int) : Option ((List Holding) × Int) :=
 Option.bind (region_Get_S F l0 body0) (fun x_1 => if (decide (x_1.Phase ≠ 2)) = true then (some ([], 4)) else (Option.bind (region_set_S F l0 (⟨x_1.Body, x_1.Epoch, 1, 0, x_1.Data⟩ : Holding)) (fun x_2 => some (x_2, 0))))
theorem region_Cancel_spec (k0 : Nat) {F : Nat} {l0 : List Holding} {body0 : Int} {r : (List Holding) × Int} (h : region_Cancel_S F l0 body0 = some r) : Meets Try.prog 24 [] [.one (.sl 5 (l0.map eHolding)), .one (.i body0)] (Is [(k0, .row 59 5 (r.1.map eHolding))] (.tup [.row k0, .one (.i r.2)])) := by
  unfold region_Cancel_S at h
  refine Meets.intro 18 Try.func24 Try.ntmps24 rfl (by simp) fun E => ?_
  show Tri _ E ⟨18, [], []⟩ _ ⟨[(0, .b (.one (.sl 5 (l0.map eHolding)))), (1, I body0)], []⟩ _
  refine Tri.seq ?_
  refine Tri.regionL ?_
  refine OpsL.cons rfl (op_assign rfl) ?_
  refine OpsL.cons rfl (op_assign rfl) ?_
  refine OpsL.nilK [0, 1] [] (s' := ⟨[(0, .b (.one (.sl 5 (l0.map eHolding)))), (1, I body0)], []⟩) rfl ?_
  refine Tri.seq ?_
  refine Tri.regionL ?_
  refine OpsL.cons rfl (op_move rfl) ?_
  refine OpsL.cons rfl (op_move rfl) ?_
  obtain ⟨x_1, e1, h⟩ := bnd h
  refine OpsL.cons rfl (op_call0 (region_Get_spec e1) goes30 rfl rfl) ?_
  refine OpsL.cons rfl (op_alloc (k := 101) tyZero59 rfl) ?_
  refine OpsL.cons rfl (op_store_p tyAgg59 rfl rfl rfl rfl (Nat.le_of_ble_eq_true rfl) rfl) ?_
  refine OpsL.nilK [0, 6] [101] (s' := ⟨[(0, .b (.one (.sl 5 (l0.map eHolding)))), (6, .b (.ptr 101 0))], [(101, .box 59 [.i x_1.Body, .i x_1.Epoch, .i x_1.Phase, .i x_1.Peer, .str x_1.Data])]⟩) rfl ?_
  refine Tri.seq ?_
  refine Tri.seq ?_
  refine Tri.regionL ?_
  refine OpsL.cons rfl (op_field_p tyFld59_2 rfl rfl) ?_
  refine OpsL.cons rfl (op_load_p1 tyOne3 rfl rfl rfl) ?_
  refine OpsL.cons rfl (op_neq rfl rfl) ?_
  refine OpsL.nilK [0, 6, 12] [101] (s' := ⟨[(0, .b (.one (.sl 5 (l0.map eHolding)))), (6, .b (.ptr 101 0)), (12, B (decide (x_1.Phase ≠ 2)))], [(101, .box 59 [.i x_1.Body, .i x_1.Epoch, .i x_1.Phase, .i x_1.Peer, .str x_1.Data])]⟩) rfl ?_
  refine Tri.ite h rfl (fun _ h => ?_) (fun _ h => ?_)
  · refine Tri.seq ?_
    refine Tri.regionL ?_
    refine OpsL.cons rfl (op_assign rfl) ?_
    refine OpsL.cons rfl (op_assign rfl) ?_
    refine OpsL.nilK [4, 5] [] (s' := ⟨[(4, .b (.one (.nil))), (5, I 4)], []⟩) rfl ?_
    refine Tri.ret ?_
    refine Fin.then_ret ?_
    obtain rfl := Option.some.inj h
    refine Fin.keep [4, 5] [] (s' := ⟨[(4, .b (.one (.nil))), (5, I 4)], []⟩) rfl ?_
    refine Fin.nilrow 4 102 5 59 rfl (by decide) rfl ?_
    refine Fin.resultK 102 k0 [.row 102, .one (.i 4)] (.inl rfl) rfl (.cons (.tmp rfl) (.cons (.tmp rfl) .nil)) rfl rfl rfl rfl ⟨rfl, rfl⟩
  · refine Tri.skip ?_
    refine Fin.keep [0, 6] [101] (s' := ⟨[(0, .b (.one (.sl 5 (l0.map eHolding)))), (6, .b (.ptr 101 0))], [(101, .box 59 [.i x_1.Body, .i x_1.Epoch, .i x_1.Phase, .i x_1.Peer, .str x_1.Data])]⟩) rfl ?_
    refine Fin.then ?_
    refine Tri.seq ?_
    refine Tri.regionL ?_
    refine OpsL.cons rfl (op_field_p tyFld59_2 rfl rfl) ?_
    refine OpsL.cons rfl (op_store_p1 tyOne3 rfl rfl rfl (Nat.le_of_ble_eq_true rfl) rfl) ?_
    refine OpsL.cons rfl (op_field_p tyFld59_3 rfl rfl) ?_
    refine OpsL.cons rfl (op_store_p1 tyOne3 rfl rfl rfl (Nat.le_of_ble_eq_true rfl) rfl) ?_
    refine OpsL.nilK [0, 6] [101] (s' := ⟨[(0, .b (.one (.sl 5 (l0.map eHolding)))), (6, .b (.ptr 101 0))], [(101, .box 59 [.i x_1.Body, .i x_1.Epoch, .i 1, .i 0, .str x_1.Data])]⟩) rfl ?_
    refine Tri.seq ?_
    refine Tri.regionL ?_
    refine OpsL.cons rfl (op_move rfl) ?_
    refine OpsL.cons rfl (op_load_p tyAgg59 rfl rfl rfl rfl) ?_
    obtain ⟨x_2, e2, h⟩ := bnd h
    refine OpsL.cons rfl (op_call (region_set_spec 103 e2) goes46 rfl trivial rfl rfl) ?_
    refine OpsL.cons rfl (op_assign rfl) ?_
    refine OpsL.cons rfl (op_assign rfl) ?_
    refine OpsL.nilK [4, 5] [103] (s' := ⟨[(4, .b (.row 103)), (5, I 0)], [(103, .row 59 5 (x_2.map eHolding))]⟩) rfl ?_
    refine Tri.ret ?_
    obtain rfl := Option.some.inj h
    refine Fin.keep [4, 5] [103] (s' := ⟨[(4, .b (.row 103)), (5, I 0)], [(103, .row 59 5 (x_2.map eHolding))]⟩) rfl ?_
    refine Fin.resultK 103 k0 [.row 103, .one (.i 0)] (.inl rfl) rfl (.cons (.tmp rfl) (.cons (.tmp rfl) .nil)) rfl rfl rfl rfl ⟨rfl, rfl⟩

def skewbackref41_set_S (F : Nat) (l0 : List Holding) (h0 : Holding) : Option (List Holding) :=
 Option.bind (iter F (un3 fun out_3 put_4 i_5 => if (decide (i_5 < (l0.length : Int))) = true then (Option.bind (Option.bind (Option.bind (gcall (!put_4) (idx? l0 i_5)) (fun x_12 => if ((!put_4) && (decide (h0.Body ≤ x_12.Body))) = true then (Option.bind (app? out_3 [h0]) (fun x_13 => some (x_13, true))) else (some (out_3, put_4)))) (un2 fun out_10 put_11 => Option.bind (idx? l0 i_5) (fun x_14 => if (decide (x_14.Body ≠ h0.Body)) = true then (Option.bind (idx? l0 i_5) (fun x_15 => Option.bind (app? out_10 [x_15]) (fun x_16 => some (x_16, put_11)))) else (some (out_10, put_11))))) (un2 fun out_8 put_9 => some (.inl (out_8, put_9, IntKind.i64.wrap (i_5 + 1))))) else (some (.inr (out_3, put_4)))) ([], false, 0)) (un2 fun out_1 put_2 => Option.bind (if (!put_2) = true then (Option.bind (app? out_1 [h0]) (fun x_18 => some x_18)) else (some out_1)) (fun out_17 => some out_17))
theorem skewbackref41_set_spec (k0 : Nat) {F : Nat} {l0 : List Holding} {h0 : Holding} {r : (List Holding)} (h : skewbackref41_set_S F l0 h0 = some r) : Meets Try.prog 49 [] [.one (.sl 5 (l0.map eHolding)), .agg (eHolding h0)] (Is [(k0, .row 59 5 (r.map eHolding))] (.b (.row k0))) := by
  unfold skewbackref41_set_S at h
  refine Meets.intro 52 Try.func49 Try.ntmps49 rfl (by simp) fun E => ?_
  show Tri _ E ⟨52, [], []⟩ _ ⟨[(0, .b (.one (.sl 5 (l0.map eHolding)))), (1, .b (.agg [.i h0.Body, .i h0.Epoch, .i h0.Phase, .i h0.Peer, .str h0.Data]))], []⟩ _
  refine Tri.seq ?_
  refine Tri.regionL ?_
  refine OpsL.cons rfl (op_box (k := 101) rfl rfl) ?_
  refine OpsL.cons rfl (op_assign rfl) ?_
  refine OpsL.nilK [0, 3] [101] (s' := ⟨[(0, .b (.one (.sl 5 (l0.map eHolding)))), (3, .b (.ptr 101 0))], [(101, .box 59 [.i h0.Body, .i h0.Epoch, .i h0.Phase, .i h0.Peer, .str h0.Data])]⟩) rfl ?_
  refine Tri.seq ?_
  refine Tri.regionL ?_
  refine OpsL.cons rfl (op_assign rfl) ?_
  refine OpsL.nilK [0, 3, 5] [101] (s' := ⟨[(0, .b (.one (.sl 5 (l0.map eHolding)))), (3, .b (.ptr 101 0)), (5, .b (.one (.nil)))], [(101, .box 59 [.i h0.Body, .i h0.Epoch, .i h0.Phase, .i h0.Peer, .str h0.Data])]⟩) rfl ?_
  refine Tri.seq ?_
  refine Tri.regionL ?_
  refine OpsL.cons rfl (op_assign rfl) ?_
  refine OpsL.nilK [0, 3, 5, 6] [101] (s' := ⟨[(0, .b (.one (.sl 5 (l0.map eHolding)))), (3, .b (.ptr 101 0)), (5, .b (.one (.nil))), (6, B false)], [(101, .box 59 [.i h0.Body, .i h0.Epoch, .i h0.Phase, .i h0.Peer, .str h0.Data])]⟩) rfl ?_
  obtain ⟨v1, h2, h⟩ := bnd h
  refine Tri.seqJ (v := v1) (un2 fun (out_1 : List Holding) (put_2 : Bool) => ⟨[(3, .b (.ptr 101 0)), (5, .b (.row 103)), (6, B put_2)], [(101, .box 59 [.i h0.Body, .i h0.Epoch, .i h0.Phase, .i h0.Peer, .str h0.Data]), (103, .row 59 5 (out_1.map eHolding))]⟩) (fun z => z) ?_ ?_
  · refine Tri.seq ?_
    refine Tri.regionL ?_
    refine OpsL.cons rfl (op_assign rfl) ?_
    refine OpsL.nilK [0, 3, 5, 6, 7] [101] (s' := ⟨[(0, .b (.one (.sl 5 (l0.map eHolding)))), (3, .b (.ptr 101 0)), (5, .b (.one (.nil))), (6, B false), (7, I 0)], [(101, .box 59 [.i h0.Body, .i h0.Epoch, .i h0.Phase, .i h0.Peer, .str h0.Data])]⟩) rfl ?_
    refine Tri.block ?_
    refine Tri.keep [0, 3, 5, 6, 7] [101] (s' := ⟨[(0, .b (.one (.sl 5 (l0.map eHolding)))), (3, .b (.ptr 101 0)), (5, .b (.one (.nil))), (6, B false), (7, I 0)], [(101, .box 59 [.i h0.Body, .i h0.Epoch, .i h0.Phase, .i h0.Peer, .str h0.Data])]⟩) rfl ?_
    refine Tri.nilrow 5 103 5 59 rfl (by decide) rfl ?_
    refine Tri.loopJ h2 (un3 fun (out_3 : List Holding) (put_4 : Bool) (i_5 : Int) => ⟨[(0, .b (.one (.sl 5 (l0.map eHolding)))), (3, .b (.ptr 101 0)), (5, .b (.row 103)), (6, B put_4), (7, I i_5)], [(101, .box 59 [.i h0.Body, .i h0.Epoch, .i h0.Phase, .i h0.Peer, .str h0.Data]), (103, .row 59 5 (out_3.map eHolding))]⟩) [0, 3, 5, 6, 7] [101, 103] rfl ?_
    rintro ⟨out_3, put_4, i_5⟩ o3 h4 hy5
    refine Tri.seq ?_
    refine Tri.seq ?_
    refine Tri.regionL ?_
    refine OpsL.cons rfl (op_move rfl) ?_
    refine OpsL.cons rfl (op_move rfl) ?_
    refine OpsL.cons rfl (op_len_e' und42 rfl (List.length_map _)) ?_
    refine OpsL.cons rfl (op_lss rfl rfl) ?_
    refine OpsL.nilK [0, 3, 5, 6, 7, 11] [101, 103] (s' := ⟨[(0, .b (.one (.sl 5 (l0.map eHolding)))), (3, .b (.ptr 101 0)), (5, .b (.row 103)), (6, B put_4), (7, I i_5), (11, B (decide (i_5 < (l0.length : Int))))], [(101, .box 59 [.i h0.Body, .i h0.Epoch, .i h0.Phase, .i h0.Peer, .str h0.Data]), (103, .row 59 5 (out_3.map eHolding))]⟩) rfl ?_
    refine Tri.ite h4 rfl (fun _ h4 => ?_) (fun _ h4 => ?_)
    · refine Tri.skip ?_
      refine Fin.keep [0, 3, 5, 6, 7] [101, 103] (s' := ⟨[(0, .b (.one (.sl 5 (l0.map eHolding)))), (3, .b (.ptr 101 0)), (5, .b (.row 103)), (6, B put_4), (7, I i_5)], [(101, .box 59 [.i h0.Body, .i h0.Epoch, .i h0.Phase, .i h0.Peer, .str h0.Data]), (103, .row 59 5 (out_3.map eHolding))]⟩) rfl ?_
      refine Fin.then ?_
      obtain ⟨v6, h7, h4⟩ := bnd h4
      refine Tri.seqJ (v := v6) (un2 fun (out_8 : List Holding) (put_9 : Bool) => ⟨[(0, .b (.one (.sl 5 (l0.map eHolding)))), (3, .b (.ptr 101 0)), (5, .b (.row 103)), (6, B put_9), (7, I i_5)], [(101, .box 59 [.i h0.Body, .i h0.Epoch, .i h0.Phase, .i h0.Peer, .str h0.Data]), (103, .row 59 5 (out_8.map eHolding))]⟩) (fun z => z) ?_ ?_
      · refine Tri.block ?_
        obtain ⟨v8, h9, h7⟩ := bnd h7
        refine Tri.seqJ (v := v8) (un2 fun (out_10 : List Holding) (put_11 : Bool) => ⟨[(0, .b (.one (.sl 5 (l0.map eHolding)))), (3, .b (.ptr 101 0)), (5, .b (.row 103)), (6, B put_11), (7, I i_5)], [(101, .box 59 [.i h0.Body, .i h0.Epoch, .i h0.Phase, .i h0.Peer, .str h0.Data]), (103, .row 59 5 (out_10.map eHolding))]⟩) (fun z => z) ?_ ?_
        · refine Tri.seq ?_
          refine Tri.keep [0, 3, 5, 6, 7] [101, 103] (s' := ⟨[(0, .b (.one (.sl 5 (l0.map eHolding)))), (3, .b (.ptr 101 0)), (5, .b (.row 103)), (6, B put_4), (7, I i_5)], [(101, .box 59 [.i h0.Body, .i h0.Epoch, .i h0.Phase, .i h0.Peer, .str h0.Data]), (103, .row 59 5 (out_3.map eHolding))]⟩) rfl ?_
          obtain ⟨x_12, e13, h9⟩ := bnd h9
          refine Tri.regionD mixed [B put_4, B (!put_4), B (!put_4), .opt (!put_4) (.one (.sl 5 (l0.map eHolding))), .opt (!put_4) (.one (.i i_5)), .opt (!put_4) (.eptr [.i x_12.Body, .i x_12.Epoch, .i x_12.Phase, .i x_12.Peer, .str x_12.Data]), .opt (!put_4) (.eptr [.i x_12.Body, .i x_12.Epoch, .i x_12.Phase, .i x_12.Peer, .str x_12.Data]), .opt (!put_4) (.one (.i x_12.Body)), .opt (!put_4) (.ptr 101 0), .opt (!put_4) (.one (.i h0.Body)), .opt (!put_4) (.one (.bool (decide (h0.Body ≤ x_12.Body)))), B ((!put_4) && (decide (h0.Body ≤ x_12.Body)))] [0, 3, 5, 6, 7, 25] [101, 103] (s' := ⟨[(0, .b (.one (.sl 5 (l0.map eHolding)))), (3, .b (.ptr 101 0)), (5, .b (.row 103)), (6, B put_4), (7, I i_5), (25, B ((!put_4) && (decide (h0.Body ≤ x_12.Body))))], [(101, .box 59 [.i h0.Body, .i h0.Epoch, .i h0.Phase, .i h0.Peer, .str h0.Data]), (103, .row 59 5 (out_3.map eHolding))]⟩) rfl ⟨fun _ => .plain rfl (op_move rfl), fun _ => .plain rfl (op_not rfl), fun _ => .plain rfl (op_move rfl), fun _ => by exact .guard (!put_4) 1 [] (.plain rfl) (eq_t _) rfl rfl (fun g10 => trivial) (fun g10 => op_move rfl), fun _ => by exact .guard (!put_4) 1 [] (.plain rfl) (eq_t _) rfl rfl (fun g11 => trivial) (fun g11 => op_move rfl), fun _ => by exact .guard (!put_4) 3 [17, 18] (.plain rfl) (eq_t _) rfl rfl (fun g12 => ⟨g12, g12, trivial⟩) (fun g12 => op_index_e tySl42 (ix_lo (gc e13 g12)) (ix_map (e := eHolding) (gc e13 g12)) rfl rfl), fun _ => by exact .guard (!put_4) 2 [19] (.plain rfl) (eq_t _) rfl rfl (fun g14 => ⟨g14, trivial⟩) (fun g14 => op_field_e tyFld59_0 rfl rfl), fun _ => by exact .guard (!put_4) 2 [20] (.plain rfl) (eq_t _) rfl rfl (fun g15 => ⟨g15, trivial⟩) (fun g15 => op_load_e1 tyOne3 rfl rfl), fun _ => by exact .guard (!put_4) 1 [] (.plain rfl) (eq_t _) rfl rfl (fun g16 => trivial) (fun g16 => op_field_p tyFld59_0 rfl rfl), fun _ => by exact .guard (!put_4) 2 [22] (.plain rfl) (eq_t _) rfl rfl (fun g17 => ⟨g17, trivial⟩) (fun g17 => op_load_p1 tyOne3 rfl rfl rfl), fun _ => by exact .guard (!put_4) 3 [21, 23] (.plain rfl) (eq_t _) rfl rfl (fun g18 => ⟨g18, g18, trivial⟩) (fun g18 => op_geq rfl rfl), fun _ => .plain rfl (op_pick_and (fun e => e) rfl rfl rfl rfl), trivial⟩ rfl ?_
          refine Tri.ite h9 rfl (fun _ h9 => ?_) (fun _ h9 => ?_)
          · refine Tri.seq ?_
            refine Tri.regionL ?_
            refine OpsL.cons rfl (op_move rfl) ?_
            refine OpsL.cons rfl (op_load_p tyAgg59 rfl rfl rfl rfl) ?_
            refine OpsL.cons rfl (op_buildSlice (k := 104) (es := [h0].map eHolding) tySl42 rfl rfl (uni_map fun _ => rfl) rfl (by decide) (by decide) rfl) ?_
            obtain ⟨x_13, e19, h9⟩ := bnd h9
            refine OpsL.cons rfl (op_append_r tySl42 (app_b e19) (app_m e19) rfl rfl rfl rfl (app_map e19) rfl) ?_
            refine OpsL.cons rfl (op_assign rfl) ?_
            refine OpsL.nilK [0, 3, 5, 7] [101, 103] (s' := ⟨[(0, .b (.one (.sl 5 (l0.map eHolding)))), (3, .b (.ptr 101 0)), (5, .b (.row 103)), (7, I i_5)], [(101, .box 59 [.i h0.Body, .i h0.Epoch, .i h0.Phase, .i h0.Peer, .str h0.Data]), (103, .row 59 5 (x_13.map eHolding))]⟩) rfl ?_
            refine Tri.regionL ?_
            refine OpsL.cons rfl (op_assign rfl) ?_
            refine OpsL.nil ?_
            exact Fin.join [0, 3, 5, 6, 7] [101, 103] (x_13, true) (Option.some.inj h9) rfl
          · refine Tri.skip ?_
            exact Fin.join [0, 3, 5, 6, 7] [101, 103] (out_3, put_4) (Option.some.inj h9) rfl
        · rintro ⟨out_10, put_11⟩ hv
          subst v8
          refine Tri.seq ?_
          refine Tri.keep [0, 3, 5, 6, 7] [101, 103] (s' := ⟨[(0, .b (.one (.sl 5 (l0.map eHolding)))), (3, .b (.ptr 101 0)), (5, .b (.row 103)), (6, B put_11), (7, I i_5)], [(101, .box 59 [.i h0.Body, .i h0.Epoch, .i h0.Phase, .i h0.Peer, .str h0.Data]), (103, .row 59 5 (out_10.map eHolding))]⟩) rfl ?_
          obtain ⟨x_14, e20, h7⟩ := bnd h7
          refine Tri.regionD mixed [.b (.one (.sl 5 (l0.map eHolding))), I i_5, .b (.eptr [.i x_14.Body, .i x_14.Epoch, .i x_14.Phase, .i x_14.Peer, .str x_14.Data]), .b (.eptr [.i x_14.Body, .i x_14.Epoch, .i x_14.Phase, .i x_14.Peer, .str x_14.Data]), I x_14.Body, .b (.ptr 101 0), I h0.Body, B (decide (x_14.Body ≠ h0.Body))] [0, 3, 5, 6, 7, 37] [101, 103] (s' := ⟨[(0, .b (.one (.sl 5 (l0.map eHolding)))), (3, .b (.ptr 101 0)), (5, .b (.row 103)), (6, B put_11), (7, I i_5), (37, B (decide (x_14.Body ≠ h0.Body)))], [(101, .box 59 [.i h0.Body, .i h0.Epoch, .i h0.Phase, .i h0.Peer, .str h0.Data]), (103, .row 59 5 (out_10.map eHolding))]⟩) rfl ⟨fun _ => .plain rfl (op_move rfl), fun _ => .plain rfl (op_move rfl), fun _ => .plain rfl (op_index_e tySl42 (ix_lo e20) (ix_map (e := eHolding) e20) rfl rfl), fun _ => .plain rfl (op_field_e tyFld59_0 rfl rfl), fun _ => .plain rfl (op_load_e1 tyOne3 rfl rfl), fun _ => .plain rfl (op_field_p tyFld59_0 rfl rfl), fun _ => .plain rfl (op_load_p1 tyOne3 rfl rfl rfl), fun _ => .plain rfl (op_neq rfl rfl), trivial⟩ rfl ?_
          refine Tri.ite h7 rfl (fun _ h7 => ?_) (fun _ h7 => ?_)
          · refine Tri.regionL ?_
            refine OpsL.cons rfl (op_move rfl) ?_
            refine OpsL.cons rfl (op_move rfl) ?_
            refine OpsL.cons rfl (op_move rfl) ?_
            obtain ⟨x_15, e21, h7⟩ := bnd h7
            refine OpsL.cons rfl (op_index_e tySl42 (ix_lo e21) (ix_map (e := eHolding) e21) rfl rfl) ?_
            refine OpsL.cons rfl (op_load_e tyAgg59 rfl rfl rfl) ?_
            refine OpsL.cons rfl (op_buildSlice (k := 105) (es := [x_15].map eHolding) tySl42 rfl rfl (uni_map fun _ => rfl) rfl (by decide) (by decide) rfl) ?_
            obtain ⟨x_16, e22, h7⟩ := bnd h7
            refine OpsL.cons rfl (op_append_r tySl42 (app_b e22) (app_m e22) rfl rfl rfl rfl (app_map e22) rfl) ?_
            refine OpsL.cons rfl (op_assign rfl) ?_
            refine OpsL.nil ?_
            refine Fin.block_normal ?_
            exact Fin.join [0, 3, 5, 6, 7] [101, 103] (x_16, put_11) (Option.some.inj h7) rfl
          · refine Tri.skip ?_
            refine Fin.block_normal ?_
            exact Fin.join [0, 3, 5, 6, 7] [101, 103] (out_10, put_11) (Option.some.inj h7) rfl
      · rintro ⟨out_8, put_9⟩ hv
        subst v6
        refine Tri.regionL ?_
        refine OpsL.cons rfl (op_move rfl) ?_
        refine OpsL.cons rfl (op_add rfl rfl) ?_
        refine OpsL.cons rfl (op_assign rfl) ?_
        refine OpsL.nil ?_
        exact Fin.againJ [0, 3, 5, 6, 7] [101, 103] (out_8, put_9, IntKind.i64.wrap (i_5 + 1)) (Option.some.inj h4) rfl
    · refine Tri.exit ?_
      refine Fin.then_exit ?_
      obtain rfl := hy5 _ (Option.some.inj h4).symm
      refine Fin.then_exit ?_
      refine Fin.block_exit ?_
      exact Fin.join [3, 5, 6] [101, 103] (out_3, put_4) rfl rfl
  · rintro ⟨out_1, put_2⟩ hv
    subst v1
    obtain ⟨v23, h24, h⟩ := bnd h
    refine Tri.seqJ (v := v23) (fun (out_17 : List Holding) => ⟨[(5, .b (.row 103))], [(103, .row 59 5 (out_17.map eHolding))]⟩) (fun z => z) ?_ ?_
    · refine Tri.seq ?_
      refine Tri.regionL ?_
      refine OpsL.cons rfl (op_move rfl) ?_
      refine OpsL.cons rfl (op_not rfl) ?_
      refine OpsL.nilK [3, 5, 46] [101, 103] (s' := ⟨[(3, .b (.ptr 101 0)), (5, .b (.row 103)), (46, B (!put_2))], [(101, .box 59 [.i h0.Body, .i h0.Epoch, .i h0.Phase, .i h0.Peer, .str h0.Data]), (103, .row 59 5 (out_1.map eHolding))]⟩) rfl ?_
      refine Tri.ite h24 rfl (fun _ h24 => ?_) (fun _ h24 => ?_)
      · refine Tri.regionL ?_
        refine OpsL.cons rfl (op_move rfl) ?_
        refine OpsL.cons rfl (op_load_p tyAgg59 rfl rfl rfl rfl) ?_
        refine OpsL.cons rfl (op_buildSlice (k := 106) (es := [h0].map eHolding) tySl42 rfl rfl (uni_map fun _ => rfl) rfl (by decide) (by decide) rfl) ?_
        obtain ⟨x_18, e25, h24⟩ := bnd h24
        refine OpsL.cons rfl (op_append_r tySl42 (app_b e25) (app_m e25) rfl rfl rfl rfl (app_map e25) rfl) ?_
        refine OpsL.cons rfl (op_assign rfl) ?_
        refine OpsL.nil ?_
        exact Fin.join [5] [103] x_18 (Option.some.inj h24) rfl
      · refine Tri.skip ?_
        exact Fin.join [5] [103] out_1 (Option.some.inj h24) rfl
    · rintro out_17 hv
      subst v23
      refine Tri.seq ?_
      refine Tri.regionL ?_
      refine OpsL.cons rfl (op_move rfl) ?_
      refine OpsL.cons rfl (op_assign rfl) ?_
      refine OpsL.nilK [4] [103] (s' := ⟨[(4, .b (.row 103))], [(103, .row 59 5 (out_17.map eHolding))]⟩) rfl ?_
      refine Tri.ret ?_
      obtain rfl := Option.some.inj h
      refine Fin.keep [4] [103] (s' := ⟨[(4, .b (.row 103))], [(103, .row 59 5 (out_17.map eHolding))]⟩) rfl ?_
      refine Fin.resultK 103 k0 [.row 103] (.inl rfl) rfl (.cons (.tmp rfl) .nil) rfl rfl rfl rfl ⟨rfl, rfl⟩

def skewbackref41_Begin_S (F : Nat) (l0 : List Holding) (n0 : Int) (data0 : Str) : Option Known :=
 Option.bind (skewbackref41_body_S F n0) (fun x_1 => if (!x_1) = true then (some (⟨[], [], 1⟩ : Known)) else (Option.bind (iter F (fun i_2 => if (decide (i_2 < (l0.length : Int))) = true then (Option.bind (idx? l0 i_2) (fun x_3 => if (decide (x_3.Body = n0)) = true then (some (.inr (.inr (⟨[], [], 6⟩ : Known)))) else (some (.inl (IntKind.i64.wrap (i_2 + 1)))))) else (some (.inr (.inl ())))) 0) (alt2 (fun _ => Option.bind (skewbackref41_set_S F l0 (⟨n0, 0, 1, 0, data0⟩ : Holding)) (fun x_4 => some (⟨x_4, [], 0⟩ : Known))) (fun y => some y))))
theorem skewbackref41_Begin_spec {F : Nat} {l0 : List Holding} {n0 : Int} {data0 : Str} {r : Known} (h : skewbackref41_Begin_S F l0 n0 data0 = some r) : Meets Try.prog 26 [] [.one (.sl 5 (l0.map eHolding)), .one (.i n0), .one (.str data0)] (Is [] (.b (.agg (eKnown r)))) := by
  unfold skewbackref41_Begin_S at h
  refine Meets.intro 32 Try.func26 Try.ntmps26 rfl (by simp) fun E => ?_
  show Tri _ E ⟨32, [], []⟩ _ ⟨[(0, .b (.one (.sl 5 (l0.map eHolding)))), (1, I n0), (2, .b (.one (.str data0)))], []⟩ _
  refine Tri.seq ?_
  refine Tri.regionL ?_
  refine OpsL.cons rfl (op_alloc (k := 101) tyZero54 rfl) ?_
  refine OpsL.nilK [0, 1, 2, 6] [101] (s' := ⟨[(0, .b (.one (.sl 5 (l0.map eHolding)))), (1, I n0), (2, .b (.one (.str data0))), (6, .b (.ptr 101 0))], [(101, .box 54 [.nil, .nil, .i 0])]⟩) rfl ?_
  refine Tri.seq ?_
  refine Tri.seq ?_
  refine Tri.regionL ?_
  refine OpsL.cons rfl (op_move rfl) ?_
  obtain ⟨x_1, e1, h⟩ := bnd h
  refine OpsL.cons rfl (op_call0 (skewbackref41_body_spec e1) goes48 rfl rfl) ?_
  refine OpsL.cons rfl (op_not rfl) ?_
  refine OpsL.nilK [0, 1, 2, 6, 10] [101] (s' := ⟨[(0, .b (.one (.sl 5 (l0.map eHolding)))), (1, I n0), (2, .b (.one (.str data0))), (6, .b (.ptr 101 0)), (10, B (!x_1))], [(101, .box 54 [.nil, .nil, .i 0])]⟩) rfl ?_
  refine Tri.ite h rfl (fun _ h => ?_) (fun _ h => ?_)
  · refine Tri.seq ?_
    refine Tri.regionL ?_
    refine OpsL.cons rfl (op_build tyBuild54 rfl rfl) ?_
    refine OpsL.cons rfl (op_store_p tyAgg54 rfl rfl rfl rfl (Nat.le_of_ble_eq_true rfl) rfl) ?_
    refine OpsL.nilK [6] [101] (s' := ⟨[(6, .b (.ptr 101 0))], [(101, .box 54 [.nil, .nil, .i 1])]⟩) rfl ?_
    refine Tri.ret ?_
    refine Fin.then_ret ?_
    obtain rfl := Option.some.inj h
    refine Fin.keep [6] [101] (s' := ⟨[(6, .b (.ptr 101 0))], [(101, .box 54 [.nil, .nil, .i 1])]⟩) rfl ?_
    refine Fin.nilbox 101 0 5 rfl rfl (by decide) ?_
    refine Fin.nilbox 101 1 6 rfl rfl (by decide) ?_
    refine Fin.result' [.agg [.sl 5 ([].map eHolding), .sl 6 ([].map eParcel), .i 1]] (.inl rfl) rfl (.cons (.agg tyAgg54 rfl rfl rfl rfl) .nil) ⟨rfl, rfl⟩
  · refine Tri.skip ?_
    refine Fin.keep [0, 1, 2, 6] [101] (s' := ⟨[(0, .b (.one (.sl 5 (l0.map eHolding)))), (1, I n0), (2, .b (.one (.str data0))), (6, .b (.ptr 101 0))], [(101, .box 54 [.nil, .nil, .i 0])]⟩) rfl ?_
    refine Fin.then ?_
    obtain ⟨v2, h3, h⟩ := bnd h
    refine Tri.seqJ (v := v2) (fun (_ : Unit) => ⟨[(0, .b (.one (.sl 5 (l0.map eHolding)))), (1, I n0), (2, .b (.one (.str data0))), (6, .b (.ptr 101 0))], [(101, .box 54 [.nil, .nil, .i 0])]⟩) (fun z => .inl z) ?_ ?_
    · refine Tri.seq ?_
      refine Tri.regionL ?_
      refine OpsL.cons rfl (op_assign rfl) ?_
      refine OpsL.nilK [0, 1, 2, 6, 7] [101] (s' := ⟨[(0, .b (.one (.sl 5 (l0.map eHolding)))), (1, I n0), (2, .b (.one (.str data0))), (6, .b (.ptr 101 0)), (7, I 0)], [(101, .box 54 [.nil, .nil, .i 0])]⟩) rfl ?_
      refine Tri.block ?_
      refine Tri.loopJ h3 (fun (i_2 : Int) => ⟨[(0, .b (.one (.sl 5 (l0.map eHolding)))), (1, I n0), (2, .b (.one (.str data0))), (6, .b (.ptr 101 0)), (7, I i_2)], [(101, .box 54 [.nil, .nil, .i 0])]⟩) [0, 1, 2, 6, 7] [101] rfl ?_
      rintro i_2 o4 h5 hy6
      refine Tri.seq ?_
      refine Tri.seq ?_
      refine Tri.regionL ?_
      refine OpsL.cons rfl (op_move rfl) ?_
      refine OpsL.cons rfl (op_move rfl) ?_
      refine OpsL.cons rfl (op_len_e' und42 rfl (List.length_map _)) ?_
      refine OpsL.cons rfl (op_lss rfl rfl) ?_
      refine OpsL.nilK [0, 1, 2, 6, 7, 15] [101] (s' := ⟨[(0, .b (.one (.sl 5 (l0.map eHolding)))), (1, I n0), (2, .b (.one (.str data0))), (6, .b (.ptr 101 0)), (7, I i_2), (15, B (decide (i_2 < (l0.length : Int))))], [(101, .box 54 [.nil, .nil, .i 0])]⟩) rfl ?_
      refine Tri.ite h5 rfl (fun _ h5 => ?_) (fun _ h5 => ?_)
      · refine Tri.skip ?_
        refine Fin.keep [0, 1, 2, 6, 7] [101] (s' := ⟨[(0, .b (.one (.sl 5 (l0.map eHolding)))), (1, I n0), (2, .b (.one (.str data0))), (6, .b (.ptr 101 0)), (7, I i_2)], [(101, .box 54 [.nil, .nil, .i 0])]⟩) rfl ?_
        refine Fin.then ?_
        refine Tri.seq ?_
        refine Tri.block ?_
        refine Tri.seq ?_
        refine Tri.regionL ?_
        refine OpsL.cons rfl (op_move rfl) ?_
        refine OpsL.cons rfl (op_move rfl) ?_
        obtain ⟨x_3, e7, h5⟩ := bnd h5
        refine OpsL.cons rfl (op_index_e tySl42 (ix_lo e7) (ix_map (e := eHolding) e7) rfl rfl) ?_
        refine OpsL.cons rfl (op_field_e tyFld59_0 rfl rfl) ?_
        refine OpsL.cons rfl (op_load_e1 tyOne3 rfl rfl) ?_
        refine OpsL.cons rfl (op_move rfl) ?_
        refine OpsL.cons rfl (op_eql rfl rfl) ?_
        refine OpsL.nilK [0, 1, 2, 6, 7, 24] [101] (s' := ⟨[(0, .b (.one (.sl 5 (l0.map eHolding)))), (1, I n0), (2, .b (.one (.str data0))), (6, .b (.ptr 101 0)), (7, I i_2), (24, B (decide (x_3.Body = n0)))], [(101, .box 54 [.nil, .nil, .i 0])]⟩) rfl ?_
        refine Tri.ite h5 rfl (fun _ h5 => ?_) (fun _ h5 => ?_)
        · refine Tri.seq ?_
          refine Tri.regionL ?_
          refine OpsL.cons rfl (op_build tyBuild54 rfl rfl) ?_
          refine OpsL.cons rfl (op_store_p tyAgg54 rfl rfl rfl rfl (Nat.le_of_ble_eq_true rfl) rfl) ?_
          refine OpsL.nilK [6] [101] (s' := ⟨[(6, .b (.ptr 101 0))], [(101, .box 54 [.nil, .nil, .i 6])]⟩) rfl ?_
          refine Tri.ret ?_
          refine Fin.block_ret ?_
          refine Fin.then_ret ?_
          obtain rfl := hy6 _ (Option.some.inj h5).symm
          refine Fin.then_ret ?_
          refine Fin.block_ret ?_
          refine Fin.then_ret ?_
          obtain rfl := Option.some.inj h
          refine Fin.keep [6] [101] (s' := ⟨[(6, .b (.ptr 101 0))], [(101, .box 54 [.nil, .nil, .i 6])]⟩) rfl ?_
          refine Fin.nilbox 101 0 5 rfl rfl (by decide) ?_
          refine Fin.nilbox 101 1 6 rfl rfl (by decide) ?_
          refine Fin.result' [.agg [.sl 5 ([].map eHolding), .sl 6 ([].map eParcel), .i 6]] (.inl rfl) rfl (.cons (.agg tyAgg54 rfl rfl rfl rfl) .nil) ⟨rfl, rfl⟩
        · refine Tri.skip ?_
          refine Fin.block_normal ?_
          refine Fin.keep [0, 1, 2, 6, 7] [101] (s' := ⟨[(0, .b (.one (.sl 5 (l0.map eHolding)))), (1, I n0), (2, .b (.one (.str data0))), (6, .b (.ptr 101 0)), (7, I i_2)], [(101, .box 54 [.nil, .nil, .i 0])]⟩) rfl ?_
          refine Fin.then ?_
          refine Tri.regionL ?_
          refine OpsL.cons rfl (op_move rfl) ?_
          refine OpsL.cons rfl (op_add rfl rfl) ?_
          refine OpsL.cons rfl (op_assign rfl) ?_
          refine OpsL.nil ?_
          exact Fin.againJ [0, 1, 2, 6, 7] [101] (IntKind.i64.wrap (i_2 + 1)) (Option.some.inj h5) rfl
      · refine Tri.exit ?_
        refine Fin.then_exit ?_
        obtain rfl := hy6 _ (Option.some.inj h5).symm
        refine Fin.then_exit ?_
        refine Fin.block_exit ?_
        exact Fin.join [0, 1, 2, 6] [101] () rfl rfl
    · rintro _ hv
      subst v2
      refine Tri.seq ?_
      refine Tri.regionL ?_
      refine OpsL.cons rfl (op_move rfl) ?_
      refine OpsL.cons rfl (op_move rfl) ?_
      refine OpsL.cons rfl (op_move rfl) ?_
      refine OpsL.cons rfl (op_build tyBuild59 rfl rfl) ?_
      obtain ⟨x_4, e8, h⟩ := bnd h
      refine OpsL.cons rfl (op_call (skewbackref41_set_spec 102 e8) goes49 rfl trivial rfl rfl) ?_
      refine OpsL.persist 102 rfl ?_
      refine OpsL.cons rfl (op_build tyBuild54 rfl rfl) ?_
      refine OpsL.cons rfl (op_store_p tyAgg54 rfl rfl rfl rfl (Nat.le_of_ble_eq_true rfl) rfl) ?_
      refine OpsL.nilK [6] [101] (s' := ⟨[(6, .b (.ptr 101 0))], [(101, .box 54 [.sl 5 (x_4.map eHolding), .nil, .i 0])]⟩) rfl ?_
      refine Tri.ret ?_
      obtain rfl := Option.some.inj h
      refine Fin.keep [6] [101] (s' := ⟨[(6, .b (.ptr 101 0))], [(101, .box 54 [.sl 5 (x_4.map eHolding), .nil, .i 0])]⟩) rfl ?_
      refine Fin.nilbox 101 1 6 rfl rfl (by decide) ?_
      refine Fin.result' [.agg [.sl 5 (x_4.map eHolding), .sl 6 ([].map eParcel), .i 0]] (.inl rfl) rfl (.cons (.agg tyAgg54 rfl rfl rfl rfl) .nil) ⟨rfl, rfl⟩

def skewbackref41_Same_S (F : Nat) (a0 : List Holding) (b0 : List Holding) : Option Bool :=
 if (decide ((a0.length : Int) ≠ (b0.length : Int))) = true then (some false) else (Option.bind (iter F (fun i_1 => if (decide (i_1 < (a0.length : Int))) = true then (Option.bind (idx? a0 i_1) (fun x_2 => Option.bind (idx? b0 i_1) (fun x_3 => if (decide (x_2 ≠ x_3)) = true then (some (.inr (.inr false))) else (some (.inl (IntKind.i64.wrap (i_1 + 1))))))) else (some (.inr (.inl ())))) 0) (alt2 (fun _ => some true) (fun y => some y)))
theorem skewbackref41_Same_spec {F : Nat} {a0 : List Holding} {b0 : List Holding} {r : Bool} (h : skewbackref41_Same_S F a0 b0 = some r) : Meets Try.prog 34 [] [.one (.sl 5 (a0.map eHolding)), .one (.sl 5 (b0.map eHolding))] (Is [] (.b (.one (.bool r)))) := by
  unfold skewbackref41_Same_S at h
  refine Meets.intro 26 Try.func34 Try.ntmps34 rfl (by simp) fun E => ?_
  show Tri _ E ⟨26, [], []⟩ _ ⟨[(0, .b (.one (.sl 5 (a0.map eHolding)))), (1, .b (.one (.sl 5 (b0.map eHolding))))], []⟩ _
  refine Tri.seq ?_
  refine Tri.regionL ?_
  refine OpsL.cons rfl (op_assign rfl) ?_
  refine OpsL.nilK [0, 1] [] (s' := ⟨[(0, .b (.one (.sl 5 (a0.map eHolding)))), (1, .b (.one (.sl 5 (b0.map eHolding))))], []⟩) rfl ?_
  refine Tri.seq ?_
  refine Tri.seq ?_
  refine Tri.regionL ?_
  refine OpsL.cons rfl (op_move rfl) ?_
  refine OpsL.cons rfl (op_len_e' und42 rfl (List.length_map _)) ?_
  refine OpsL.cons rfl (op_move rfl) ?_
  refine OpsL.cons rfl (op_len_e' und42 rfl (List.length_map _)) ?_
  refine OpsL.cons rfl (op_neq rfl rfl) ?_
  refine OpsL.nilK [0, 1, 10] [] (s' := ⟨[(0, .b (.one (.sl 5 (a0.map eHolding)))), (1, .b (.one (.sl 5 (b0.map eHolding)))), (10, B (decide ((a0.length : Int) ≠ (b0.length : Int))))], []⟩) rfl ?_
  refine Tri.ite h rfl (fun _ h => ?_) (fun _ h => ?_)
  · refine Tri.seq ?_
    refine Tri.regionL ?_
    refine OpsL.cons rfl (op_assign rfl) ?_
    refine OpsL.nilK [4] [] (s' := ⟨[(4, B false)], []⟩) rfl ?_
    refine Tri.ret ?_
    refine Fin.then_ret ?_
    obtain rfl := Option.some.inj h
    refine Fin.keep [4] [] (s' := ⟨[(4, B false)], []⟩) rfl ?_
    refine Fin.result' [.one (.bool false)] (.inl rfl) rfl (.cons (.tmp rfl) .nil) ⟨rfl, rfl⟩
  · refine Tri.skip ?_
    refine Fin.keep [0, 1] [] (s' := ⟨[(0, .b (.one (.sl 5 (a0.map eHolding)))), (1, .b (.one (.sl 5 (b0.map eHolding))))], []⟩) rfl ?_
    refine Fin.then ?_
    obtain ⟨v1, h2, h⟩ := bnd h
    refine Tri.seqJ (v := v1) (fun (_ : Unit) => ⟨[], []⟩) (fun z => .inl z) ?_ ?_
    · refine Tri.seq ?_
      refine Tri.regionL ?_
      refine OpsL.cons rfl (op_assign rfl) ?_
      refine OpsL.nilK [0, 1, 5] [] (s' := ⟨[(0, .b (.one (.sl 5 (a0.map eHolding)))), (1, .b (.one (.sl 5 (b0.map eHolding)))), (5, I 0)], []⟩) rfl ?_
      refine Tri.block ?_
      refine Tri.loopJ h2 (fun (i_1 : Int) => ⟨[(0, .b (.one (.sl 5 (a0.map eHolding)))), (1, .b (.one (.sl 5 (b0.map eHolding)))), (5, I i_1)], []⟩) [0, 1, 5] [] rfl ?_
      rintro i_1 o3 h4 hy5
      refine Tri.seq ?_
      refine Tri.seq ?_
      refine Tri.regionL ?_
      refine OpsL.cons rfl (op_move rfl) ?_
      refine OpsL.cons rfl (op_move rfl) ?_
      refine OpsL.cons rfl (op_len_e' und42 rfl (List.length_map _)) ?_
      refine OpsL.cons rfl (op_lss rfl rfl) ?_
      refine OpsL.nilK [0, 1, 5, 14] [] (s' := ⟨[(0, .b (.one (.sl 5 (a0.map eHolding)))), (1, .b (.one (.sl 5 (b0.map eHolding)))), (5, I i_1), (14, B (decide (i_1 < (a0.length : Int))))], []⟩) rfl ?_
      refine Tri.ite h4 rfl (fun _ h4 => ?_) (fun _ h4 => ?_)
      · refine Tri.skip ?_
        refine Fin.keep [0, 1, 5] [] (s' := ⟨[(0, .b (.one (.sl 5 (a0.map eHolding)))), (1, .b (.one (.sl 5 (b0.map eHolding)))), (5, I i_1)], []⟩) rfl ?_
        refine Fin.then ?_
        refine Tri.seq ?_
        refine Tri.block ?_
        refine Tri.seq ?_
        refine Tri.keep [0, 1, 5] [] (s' := ⟨[(0, .b (.one (.sl 5 (a0.map eHolding)))), (1, .b (.one (.sl 5 (b0.map eHolding)))), (5, I i_1)], []⟩) rfl ?_
        obtain ⟨x_2, e6, h4⟩ := bnd h4
        obtain ⟨x_3, e7, h4⟩ := bnd h4
        refine Tri.regionD mixed [.b (.one (.sl 5 (a0.map eHolding))), I i_1, .b (.eptr [.i x_2.Body, .i x_2.Epoch, .i x_2.Phase, .i x_2.Peer, .str x_2.Data]), .b (.agg [.i x_2.Body, .i x_2.Epoch, .i x_2.Phase, .i x_2.Peer, .str x_2.Data]), .b (.one (.sl 5 (b0.map eHolding))), I i_1, .b (.eptr [.i x_3.Body, .i x_3.Epoch, .i x_3.Phase, .i x_3.Peer, .str x_3.Data]), .b (.agg [.i x_3.Body, .i x_3.Epoch, .i x_3.Phase, .i x_3.Peer, .str x_3.Data]), B (decide (x_2 ≠ x_3))] [0, 1, 5, 25] [] (s' := ⟨[(0, .b (.one (.sl 5 (a0.map eHolding)))), (1, .b (.one (.sl 5 (b0.map eHolding)))), (5, I i_1), (25, B (decide (x_2 ≠ x_3)))], []⟩) rfl ⟨fun _ => .plain rfl (op_move rfl), fun _ => .plain rfl (op_move rfl), fun _ => .plain rfl (op_index_e tySl42 (ix_lo e6) (ix_map (e := eHolding) e6) rfl rfl), fun _ => .plain rfl (op_load_e tyAgg59 rfl rfl rfl), fun _ => .plain rfl (op_move rfl), fun _ => .plain rfl (op_move rfl), fun _ => .plain rfl (op_index_e tySl42 (ix_lo e7) (ix_map (e := eHolding) e7) rfl rfl), fun _ => .plain rfl (op_load_e tyAgg59 rfl rfl rfl), fun _ => .plain rfl (op_neq_agg (eqAgg59 x_2 x_3) rfl rfl neg_dec), trivial⟩ rfl ?_
        refine Tri.ite h4 rfl (fun _ h4 => ?_) (fun _ h4 => ?_)
        · refine Tri.seq ?_
          refine Tri.regionL ?_
          refine OpsL.cons rfl (op_assign rfl) ?_
          refine OpsL.nilK [4] [] (s' := ⟨[(4, B false)], []⟩) rfl ?_
          refine Tri.ret ?_
          refine Fin.block_ret ?_
          refine Fin.then_ret ?_
          obtain rfl := hy5 _ (Option.some.inj h4).symm
          refine Fin.then_ret ?_
          refine Fin.block_ret ?_
          refine Fin.then_ret ?_
          obtain rfl := Option.some.inj h
          refine Fin.keep [4] [] (s' := ⟨[(4, B false)], []⟩) rfl ?_
          refine Fin.result' [.one (.bool false)] (.inl rfl) rfl (.cons (.tmp rfl) .nil) ⟨rfl, rfl⟩
        · refine Tri.skip ?_
          refine Fin.block_normal ?_
          refine Fin.keep [0, 1, 5] [] (s' := ⟨[(0, .b (.one (.sl 5 (a0.map eHolding)))), (1, .b (.one (.sl 5 (b0.map eHolding)))), (5, I i_1)], []⟩) rfl ?_
          refine Fin.then ?_
          refine Tri.regionL ?_
          refine OpsL.cons rfl (op_move rfl) ?_
          refine OpsL.cons rfl (op_add rfl rfl) ?_
          refine OpsL.cons rfl (op_assign rfl) ?_
          refine OpsL.nil ?_
          exact Fin.againJ [0, 1, 5] [] (IntKind.i64.wrap (i_1 + 1)) (Option.some.inj h4) rfl
      · refine Tri.exit ?_
        refine Fin.then_exit ?_
        obtain rfl := hy5 _ (Option.some.inj h4).symm
        refine Fin.then_exit ?_
        refine Fin.block_exit ?_
        exact Fin.join [] [] () rfl rfl
    · rintro _ hv
      subst v1
      refine Tri.seq ?_
      refine Tri.regionL ?_
      refine OpsL.cons rfl (op_assign rfl) ?_
      refine OpsL.nilK [4] [] (s' := ⟨[(4, B true)], []⟩) rfl ?_
      refine Tri.ret ?_
      obtain rfl := Option.some.inj h
      refine Fin.keep [4] [] (s' := ⟨[(4, B true)], []⟩) rfl ?_
      refine Fin.result' [.one (.bool true)] (.inl rfl) rfl (.cons (.tmp rfl) .nil) ⟨rfl, rfl⟩

def skewbacklaw41_same_S (F : Nat) (l0 : List Holding) (e0 : Int) (want0 : Known) : Option Bool :=
 Option.bind (gcall (decide (e0 = want0.E)) (skewbackref41_Same_S F l0 want0.L)) (fun x_1 => some ((decide (e0 = want0.E)) && x_1))
theorem skewbacklaw41_same_spec {F : Nat} {l0 : List Holding} {e0 : Int} {want0 : Known} {r : Bool} (h : skewbacklaw41_same_S F l0 e0 want0 = some r) : Meets Try.prog 25 [] [.one (.sl 5 (l0.map eHolding)), .one (.i e0), .agg (eKnown want0)] (Is [] (.b (.one (.bool r)))) := by
  unfold skewbacklaw41_same_S at h
  refine Meets.intro 17 Try.func25 Try.ntmps25 rfl (by simp) fun E => ?_
  show Tri _ E ⟨17, [], []⟩ _ ⟨[(0, .b (.one (.sl 5 (l0.map eHolding)))), (1, I e0), (2, .b (.agg [.sl 5 (want0.L.map eHolding), .sl 6 (want0.Sent.map eParcel), .i want0.E]))], []⟩ _
  refine Tri.seq ?_
  refine Tri.regionL ?_
  refine OpsL.cons rfl (op_box (k := 101) rfl rfl) ?_
  refine OpsL.cons rfl (op_assign rfl) ?_
  refine OpsL.nilK [0, 1, 5] [101] (s' := ⟨[(0, .b (.one (.sl 5 (l0.map eHolding)))), (1, I e0), (5, .b (.ptr 101 0))], [(101, .box 54 [.sl 5 (want0.L.map eHolding), .sl 6 (want0.Sent.map eParcel), .i want0.E])]⟩) rfl ?_
  refine Tri.seq ?_
  refine Tri.regionL ?_
  refine OpsL.cons rfl (op_move rfl) ?_
  refine OpsL.cons rfl (op_field_p tyFld54_2 rfl rfl) ?_
  refine OpsL.cons rfl (op_load_p1 tyOne24 rfl rfl rfl) ?_
  refine OpsL.cons rfl (op_eql rfl rfl) ?_
  refine OpsL.cons rfl (op_move rfl) ?_
  refine OpsL.consG (decide (e0 = want0.E)) 99 [] (.plain rfl) (eq_t _) rfl rfl (fun g1 => trivial) (fun g1 => op_move rfl) ?_
  refine OpsL.consG (decide (e0 = want0.E)) 99 [] (.plain rfl) (eq_t _) rfl rfl (fun g2 => trivial) (fun g2 => op_field_p tyFld54_0 rfl rfl) ?_
  refine OpsL.keep [11, 12, 13] [101] (s' := ⟨[(11, B (decide (e0 = want0.E))), (12, .opt (decide (e0 = want0.E)) (.one (.sl 5 (l0.map eHolding)))), (13, .opt (decide (e0 = want0.E)) (.ptr 101 0))], [(101, .box 54 [.sl 5 (want0.L.map eHolding), .sl 6 (want0.Sent.map eParcel), .i want0.E])]⟩) rfl ?_
  refine OpsL.consG (decide (e0 = want0.E)) 99 [13] (.plain rfl) (eq_t _) rfl rfl (fun g3 => ⟨g3, trivial⟩) (fun g3 => op_load_p1 tyOne42 rfl rfl rfl) ?_
  obtain ⟨x_1, e5, h⟩ := bnd h
  refine OpsL.consG (decide (e0 = want0.E)) 99 [12, 14] (.plain rfl) (eq_t _) rfl rfl (fun g4 => ⟨g4, g4, trivial⟩) (fun g4 => op_call0 (skewbackref41_Same_spec (gc e5 g4)) goes34 rfl rfl) ?_
  refine OpsL.cons rfl (op_pick_and (fun e => e) rfl rfl rfl rfl) ?_
  refine OpsL.cons rfl (op_assign rfl) ?_
  refine OpsL.nilK [6] [] (s' := ⟨[(6, B ((decide (e0 = want0.E)) && x_1))], []⟩) rfl ?_
  refine Tri.ret ?_
  obtain rfl := Option.some.inj h
  refine Fin.keep [6] [] (s' := ⟨[(6, B ((decide (e0 = want0.E)) && x_1))], []⟩) rfl ?_
  refine Fin.result' [.one (.bool ((decide (e0 = want0.E)) && x_1))] (.inl rfl) rfl (.cons (.tmp rfl) .nil) ⟨rfl, rfl⟩

def skewbackref41_Get_S (F : Nat) (l0 : List Holding) (n0 : Int) : Option Holding :=
 Option.bind (iter F (fun i_1 => if (decide (i_1 < (l0.length : Int))) = true then (Option.bind (idx? l0 i_1) (fun x_2 => if (decide (x_2.Body = n0)) = true then (Option.bind (idx? l0 i_1) (fun x_3 => some (.inr (.inr x_3)))) else (some (.inl (IntKind.i64.wrap (i_1 + 1)))))) else (some (.inr (.inl ())))) 0) (alt2 (fun _ => some (⟨n0, 0, 0, 0, []⟩ : Holding)) (fun y => some y))
theorem skewbackref41_Get_spec {F : Nat} {l0 : List Holding} {n0 : Int} {r : Holding} (h : skewbackref41_Get_S F l0 n0 = some r) : Meets Try.prog 31 [] [.one (.sl 5 (l0.map eHolding)), .one (.i n0)] (Is [] (.b (.agg (eHolding r)))) := by
  unfold skewbackref41_Get_S at h
  refine Meets.intro 25 Try.func31 Try.ntmps31 rfl (by simp) fun E => ?_
  show Tri _ E ⟨25, [], []⟩ _ ⟨[(0, .b (.one (.sl 5 (l0.map eHolding)))), (1, I n0)], []⟩ _
  refine Tri.seq ?_
  refine Tri.regionL ?_
  refine OpsL.cons rfl (op_alloc (k := 101) tyZero59 rfl) ?_
  refine OpsL.nilK [0, 1, 4] [101] (s' := ⟨[(0, .b (.one (.sl 5 (l0.map eHolding)))), (1, I n0), (4, .b (.ptr 101 0))], [(101, .box 59 [.i 0, .i 0, .i 0, .i 0, .str []])]⟩) rfl ?_
  obtain ⟨v1, h2, h⟩ := bnd h
  refine Tri.seqJ (v := v1) (fun (_ : Unit) => ⟨[(1, I n0), (4, .b (.ptr 101 0))], [(101, .box 59 [.i 0, .i 0, .i 0, .i 0, .str []])]⟩) (fun z => .inl z) ?_ ?_
  · refine Tri.seq ?_
    refine Tri.regionL ?_
    refine OpsL.cons rfl (op_assign rfl) ?_
    refine OpsL.nilK [0, 1, 4, 5] [101] (s' := ⟨[(0, .b (.one (.sl 5 (l0.map eHolding)))), (1, I n0), (4, .b (.ptr 101 0)), (5, I 0)], [(101, .box 59 [.i 0, .i 0, .i 0, .i 0, .str []])]⟩) rfl ?_
    refine Tri.block ?_
    refine Tri.loopJ h2 (fun (i_1 : Int) => ⟨[(0, .b (.one (.sl 5 (l0.map eHolding)))), (1, I n0), (4, .b (.ptr 101 0)), (5, I i_1)], [(101, .box 59 [.i 0, .i 0, .i 0, .i 0, .str []])]⟩) [0, 1, 4, 5] [101] rfl ?_
    rintro i_1 o3 h4 hy5
    refine Tri.seq ?_
    refine Tri.seq ?_
    refine Tri.regionL ?_
    refine OpsL.cons rfl (op_move rfl) ?_
    refine OpsL.cons rfl (op_move rfl) ?_
    refine OpsL.cons rfl (op_len_e' und42 rfl (List.length_map _)) ?_
    refine OpsL.cons rfl (op_lss rfl rfl) ?_
    refine OpsL.nilK [0, 1, 4, 5, 9] [101] (s' := ⟨[(0, .b (.one (.sl 5 (l0.map eHolding)))), (1, I n0), (4, .b (.ptr 101 0)), (5, I i_1), (9, B (decide (i_1 < (l0.length : Int))))], [(101, .box 59 [.i 0, .i 0, .i 0, .i 0, .str []])]⟩) rfl ?_
    refine Tri.ite h4 rfl (fun _ h4 => ?_) (fun _ h4 => ?_)
    · refine Tri.skip ?_
      refine Fin.keep [0, 1, 4, 5] [101] (s' := ⟨[(0, .b (.one (.sl 5 (l0.map eHolding)))), (1, I n0), (4, .b (.ptr 101 0)), (5, I i_1)], [(101, .box 59 [.i 0, .i 0, .i 0, .i 0, .str []])]⟩) rfl ?_
      refine Fin.then ?_
      refine Tri.seq ?_
      refine Tri.block ?_
      refine Tri.seq ?_
      refine Tri.regionL ?_
      refine OpsL.cons rfl (op_move rfl) ?_
      refine OpsL.cons rfl (op_move rfl) ?_
      obtain ⟨x_2, e6, h4⟩ := bnd h4
      refine OpsL.cons rfl (op_index_e tySl42 (ix_lo e6) (ix_map (e := eHolding) e6) rfl rfl) ?_
      refine OpsL.cons rfl (op_field_e tyFld59_0 rfl rfl) ?_
      refine OpsL.cons rfl (op_load_e1 tyOne3 rfl rfl) ?_
      refine OpsL.cons rfl (op_move rfl) ?_
      refine OpsL.cons rfl (op_eql rfl rfl) ?_
      refine OpsL.nilK [0, 1, 4, 5, 18] [101] (s' := ⟨[(0, .b (.one (.sl 5 (l0.map eHolding)))), (1, I n0), (4, .b (.ptr 101 0)), (5, I i_1), (18, B (decide (x_2.Body = n0)))], [(101, .box 59 [.i 0, .i 0, .i 0, .i 0, .str []])]⟩) rfl ?_
      refine Tri.ite h4 rfl (fun _ h4 => ?_) (fun _ h4 => ?_)
      · refine Tri.seq ?_
        refine Tri.regionL ?_
        refine OpsL.cons rfl (op_move rfl) ?_
        refine OpsL.cons rfl (op_move rfl) ?_
        obtain ⟨x_3, e7, h4⟩ := bnd h4
        refine OpsL.cons rfl (op_index_e tySl42 (ix_lo e7) (ix_map (e := eHolding) e7) rfl rfl) ?_
        refine OpsL.cons rfl (op_load_e tyAgg59 rfl rfl rfl) ?_
        refine OpsL.cons rfl (op_store_p tyAgg59 rfl rfl rfl rfl (Nat.le_of_ble_eq_true rfl) rfl) ?_
        refine OpsL.nilK [4] [101] (s' := ⟨[(4, .b (.ptr 101 0))], [(101, .box 59 [.i x_3.Body, .i x_3.Epoch, .i x_3.Phase, .i x_3.Peer, .str x_3.Data])]⟩) rfl ?_
        refine Tri.ret ?_
        refine Fin.block_ret ?_
        refine Fin.then_ret ?_
        obtain rfl := hy5 _ (Option.some.inj h4).symm
        refine Fin.then_ret ?_
        refine Fin.block_ret ?_
        refine Fin.then_ret ?_
        obtain rfl := Option.some.inj h
        refine Fin.keep [4] [101] (s' := ⟨[(4, .b (.ptr 101 0))], [(101, .box 59 [.i x_3.Body, .i x_3.Epoch, .i x_3.Phase, .i x_3.Peer, .str x_3.Data])]⟩) rfl ?_
        refine Fin.result' [.agg [.i x_3.Body, .i x_3.Epoch, .i x_3.Phase, .i x_3.Peer, .str x_3.Data]] (.inl rfl) rfl (.cons (.agg tyAgg59 rfl rfl rfl rfl) .nil) ⟨rfl, rfl⟩
      · refine Tri.skip ?_
        refine Fin.block_normal ?_
        refine Fin.keep [0, 1, 4, 5] [101] (s' := ⟨[(0, .b (.one (.sl 5 (l0.map eHolding)))), (1, I n0), (4, .b (.ptr 101 0)), (5, I i_1)], [(101, .box 59 [.i 0, .i 0, .i 0, .i 0, .str []])]⟩) rfl ?_
        refine Fin.then ?_
        refine Tri.regionL ?_
        refine OpsL.cons rfl (op_move rfl) ?_
        refine OpsL.cons rfl (op_add rfl rfl) ?_
        refine OpsL.cons rfl (op_assign rfl) ?_
        refine OpsL.nil ?_
        exact Fin.againJ [0, 1, 4, 5] [101] (IntKind.i64.wrap (i_1 + 1)) (Option.some.inj h4) rfl
    · refine Tri.exit ?_
      refine Fin.then_exit ?_
      obtain rfl := hy5 _ (Option.some.inj h4).symm
      refine Fin.then_exit ?_
      refine Fin.block_exit ?_
      exact Fin.join [1, 4] [101] () rfl rfl
  · rintro _ hv
    subst v1
    refine Tri.seq ?_
    refine Tri.regionL ?_
    refine OpsL.cons rfl (op_move rfl) ?_
    refine OpsL.cons rfl (op_build tyBuild59 rfl rfl) ?_
    refine OpsL.cons rfl (op_store_p tyAgg59 rfl rfl rfl rfl (Nat.le_of_ble_eq_true rfl) rfl) ?_
    refine OpsL.nilK [4] [101] (s' := ⟨[(4, .b (.ptr 101 0))], [(101, .box 59 [.i n0, .i 0, .i 0, .i 0, .str []])]⟩) rfl ?_
    refine Tri.ret ?_
    obtain rfl := Option.some.inj h
    refine Fin.keep [4] [101] (s' := ⟨[(4, .b (.ptr 101 0))], [(101, .box 59 [.i n0, .i 0, .i 0, .i 0, .str []])]⟩) rfl ?_
    refine Fin.result' [.agg [.i n0, .i 0, .i 0, .i 0, .str []]] (.inl rfl) rfl (.cons (.agg tyAgg59 rfl rfl rfl rfl) .nil) ⟨rfl, rfl⟩

def skewbackref41_Put_S (F : Nat) (l0 : List Holding) (n0 : Int) (data0 : Str) : Option Known :=
 Option.bind (skewbackref41_Get_S F l0 n0) (fun x_1 => if (decide (x_1.Phase ≠ 1)) = true then (some (⟨[], [], 4⟩ : Known)) else (Option.bind (skewbackref41_set_S F l0 (⟨x_1.Body, x_1.Epoch, x_1.Phase, x_1.Peer, data0⟩ : Holding)) (fun x_2 => some (⟨x_2, [], 0⟩ : Known))))
theorem skewbackref41_Put_spec {F : Nat} {l0 : List Holding} {n0 : Int} {data0 : Str} {r : Known} (h : skewbackref41_Put_S F l0 n0 data0 = some r) : Meets Try.prog 27 [] [.one (.sl 5 (l0.map eHolding)), .one (.i n0), .one (.str data0)] (Is [] (.b (.agg (eKnown r)))) := by
  unfold skewbackref41_Put_S at h
  refine Meets.intro 21 Try.func27 Try.ntmps27 rfl (by simp) fun E => ?_
  show Tri _ E ⟨21, [], []⟩ _ ⟨[(0, .b (.one (.sl 5 (l0.map eHolding)))), (1, I n0), (2, .b (.one (.str data0)))], []⟩ _
  refine Tri.seq ?_
  refine Tri.regionL ?_
  refine OpsL.cons rfl (op_alloc (k := 101) tyZero54 rfl) ?_
  refine OpsL.nilK [0, 1, 2, 6] [101] (s' := ⟨[(0, .b (.one (.sl 5 (l0.map eHolding)))), (1, I n0), (2, .b (.one (.str data0))), (6, .b (.ptr 101 0))], [(101, .box 54 [.nil, .nil, .i 0])]⟩) rfl ?_
  refine Tri.seq ?_
  refine Tri.regionL ?_
  refine OpsL.cons rfl (op_move rfl) ?_
  refine OpsL.cons rfl (op_move rfl) ?_
  obtain ⟨x_1, e1, h⟩ := bnd h
  refine OpsL.cons rfl (op_call0 (skewbackref41_Get_spec e1) goes31 rfl rfl) ?_
  refine OpsL.cons rfl (op_alloc (k := 102) tyZero59 rfl) ?_
  refine OpsL.cons rfl (op_store_p tyAgg59 rfl rfl rfl rfl (Nat.le_of_ble_eq_true rfl) rfl) ?_
  refine OpsL.nilK [0, 2, 6, 7] [101, 102] (s' := ⟨[(0, .b (.one (.sl 5 (l0.map eHolding)))), (2, .b (.one (.str data0))), (6, .b (.ptr 101 0)), (7, .b (.ptr 102 0))], [(101, .box 54 [.nil, .nil, .i 0]), (102, .box 59 [.i x_1.Body, .i x_1.Epoch, .i x_1.Phase, .i x_1.Peer, .str x_1.Data])]⟩) rfl ?_
  refine Tri.seq ?_
  refine Tri.seq ?_
  refine Tri.regionL ?_
  refine OpsL.cons rfl (op_field_p tyFld59_2 rfl rfl) ?_
  refine OpsL.cons rfl (op_load_p1 tyOne3 rfl rfl rfl) ?_
  refine OpsL.cons rfl (op_neq rfl rfl) ?_
  refine OpsL.nilK [0, 2, 6, 7, 13] [101, 102] (s' := ⟨[(0, .b (.one (.sl 5 (l0.map eHolding)))), (2, .b (.one (.str data0))), (6, .b (.ptr 101 0)), (7, .b (.ptr 102 0)), (13, B (decide (x_1.Phase ≠ 1)))], [(101, .box 54 [.nil, .nil, .i 0]), (102, .box 59 [.i x_1.Body, .i x_1.Epoch, .i x_1.Phase, .i x_1.Peer, .str x_1.Data])]⟩) rfl ?_
  refine Tri.ite h rfl (fun _ h => ?_) (fun _ h => ?_)
  · refine Tri.seq ?_
    refine Tri.regionL ?_
    refine OpsL.cons rfl (op_build tyBuild54 rfl rfl) ?_
    refine OpsL.cons rfl (op_store_p tyAgg54 rfl rfl rfl rfl (Nat.le_of_ble_eq_true rfl) rfl) ?_
    refine OpsL.nilK [6] [101] (s' := ⟨[(6, .b (.ptr 101 0))], [(101, .box 54 [.nil, .nil, .i 4])]⟩) rfl ?_
    refine Tri.ret ?_
    refine Fin.then_ret ?_
    obtain rfl := Option.some.inj h
    refine Fin.keep [6] [101] (s' := ⟨[(6, .b (.ptr 101 0))], [(101, .box 54 [.nil, .nil, .i 4])]⟩) rfl ?_
    refine Fin.nilbox 101 0 5 rfl rfl (by decide) ?_
    refine Fin.nilbox 101 1 6 rfl rfl (by decide) ?_
    refine Fin.result' [.agg [.sl 5 ([].map eHolding), .sl 6 ([].map eParcel), .i 4]] (.inl rfl) rfl (.cons (.agg tyAgg54 rfl rfl rfl rfl) .nil) ⟨rfl, rfl⟩
  · refine Tri.skip ?_
    refine Fin.keep [0, 2, 6, 7] [101, 102] (s' := ⟨[(0, .b (.one (.sl 5 (l0.map eHolding)))), (2, .b (.one (.str data0))), (6, .b (.ptr 101 0)), (7, .b (.ptr 102 0))], [(101, .box 54 [.nil, .nil, .i 0]), (102, .box 59 [.i x_1.Body, .i x_1.Epoch, .i x_1.Phase, .i x_1.Peer, .str x_1.Data])]⟩) rfl ?_
    refine Fin.then ?_
    refine Tri.seq ?_
    refine Tri.regionL ?_
    refine OpsL.cons rfl (op_move rfl) ?_
    refine OpsL.cons rfl (op_field_p tyFld59_4 rfl rfl) ?_
    refine OpsL.cons rfl (op_store_p1 tyOne9 rfl rfl rfl (Nat.le_of_ble_eq_true rfl) rfl) ?_
    refine OpsL.nilK [0, 6, 7] [101, 102] (s' := ⟨[(0, .b (.one (.sl 5 (l0.map eHolding)))), (6, .b (.ptr 101 0)), (7, .b (.ptr 102 0))], [(101, .box 54 [.nil, .nil, .i 0]), (102, .box 59 [.i x_1.Body, .i x_1.Epoch, .i x_1.Phase, .i x_1.Peer, .str data0])]⟩) rfl ?_
    refine Tri.seq ?_
    refine Tri.regionL ?_
    refine OpsL.cons rfl (op_move rfl) ?_
    refine OpsL.cons rfl (op_load_p tyAgg59 rfl rfl rfl rfl) ?_
    obtain ⟨x_2, e2, h⟩ := bnd h
    refine OpsL.cons rfl (op_call (skewbackref41_set_spec 103 e2) goes49 rfl trivial rfl rfl) ?_
    refine OpsL.persist 103 rfl ?_
    refine OpsL.cons rfl (op_build tyBuild54 rfl rfl) ?_
    refine OpsL.cons rfl (op_store_p tyAgg54 rfl rfl rfl rfl (Nat.le_of_ble_eq_true rfl) rfl) ?_
    refine OpsL.nilK [6] [101] (s' := ⟨[(6, .b (.ptr 101 0))], [(101, .box 54 [.sl 5 (x_2.map eHolding), .nil, .i 0])]⟩) rfl ?_
    refine Tri.ret ?_
    obtain rfl := Option.some.inj h
    refine Fin.keep [6] [101] (s' := ⟨[(6, .b (.ptr 101 0))], [(101, .box 54 [.sl 5 (x_2.map eHolding), .nil, .i 0])]⟩) rfl ?_
    refine Fin.nilbox 101 1 6 rfl rfl (by decide) ?_
    refine Fin.result' [.agg [.sl 5 (x_2.map eHolding), .sl 6 ([].map eParcel), .i 0]] (.inl rfl) rfl (.cons (.agg tyAgg54 rfl rfl rfl rfl) .nil) ⟨rfl, rfl⟩

def skewbackref41_Offer_S (F : Nat) (l0 : List Holding) (from0 : Int) (n0 : Int) (to0 : Int) : Option Known :=
 Option.bind (skewbackref41_node_S F from0) (fun x_1 => Option.bind (gcall (!(!x_1)) (skewbackref41_node_S F to0)) (fun x_2 => if (((!x_1) || (!x_2)) || (decide (from0 = to0))) = true then (some (⟨[], [], 1⟩ : Known)) else (Option.bind (skewbackref41_Get_S F l0 n0) (fun x_3 => if (decide (x_3.Phase ≠ 1)) = true then (some (⟨[], [], 4⟩ : Known)) else (Option.bind (skewbackref41_most_S F) (fun x_4 => if (decide (x_4 ≤ x_3.Epoch)) = true then (some (⟨[], [], 2⟩ : Known)) else (Option.bind (skewbackref41_set_S F l0 (⟨n0, IntKind.i64.wrap (x_3.Epoch + 1), 2, to0, x_3.Data⟩ : Holding)) (fun x_5 => some (⟨x_5, [], 0⟩ : Known)))))))))
theorem skewbackref41_Offer_spec {F : Nat} {l0 : List Holding} {from0 : Int} {n0 : Int} {to0 : Int} {r : Known} (h : skewbackref41_Offer_S F l0 from0 n0 to0 = some r) : Meets Try.prog 28 [] [.one (.sl 5 (l0.map eHolding)), .one (.i from0), .one (.i n0), .one (.i to0)] (Is [] (.b (.agg (eKnown r)))) := by
  unfold skewbackref41_Offer_S at h
  refine Meets.intro 47 Try.func28 Try.ntmps28 rfl (by simp) fun E => ?_
  show Tri _ E ⟨47, [], []⟩ _ ⟨[(0, .b (.one (.sl 5 (l0.map eHolding)))), (1, I from0), (2, I n0), (3, I to0)], []⟩ _
  refine Tri.seq ?_
  refine Tri.regionL ?_
  refine OpsL.cons rfl (op_alloc (k := 101) tyZero54 rfl) ?_
  refine OpsL.nilK [0, 1, 2, 3, 8] [101] (s' := ⟨[(0, .b (.one (.sl 5 (l0.map eHolding)))), (1, I from0), (2, I n0), (3, I to0), (8, .b (.ptr 101 0))], [(101, .box 54 [.nil, .nil, .i 0])]⟩) rfl ?_
  refine Tri.seq ?_
  refine Tri.seq ?_
  refine Tri.regionL ?_
  refine OpsL.cons rfl (op_move rfl) ?_
  obtain ⟨x_1, e1, h⟩ := bnd h
  refine OpsL.cons rfl (op_call0 (skewbackref41_node_spec e1) goes50 rfl rfl) ?_
  refine OpsL.cons rfl (op_not rfl) ?_
  refine OpsL.cons rfl (op_move rfl) ?_
  refine OpsL.consG (!(!x_1)) 99 [] (.plain rfl) (eq_f _) rfl rfl (fun g2 => trivial) (fun g2 => op_move rfl) ?_
  refine OpsL.keep [0, 1, 2, 3, 8, 13, 14] [101] (s' := ⟨[(0, .b (.one (.sl 5 (l0.map eHolding)))), (1, I from0), (2, I n0), (3, I to0), (8, .b (.ptr 101 0)), (13, B (!x_1)), (14, .opt (!(!x_1)) (.one (.i to0)))], [(101, .box 54 [.nil, .nil, .i 0])]⟩) rfl ?_
  obtain ⟨x_2, e4, h⟩ := bnd h
  refine OpsL.consG (!(!x_1)) 99 [14] (.plain rfl) (eq_f _) rfl rfl (fun g3 => ⟨g3, trivial⟩) (fun g3 => op_call0 (skewbackref41_node_spec (gc e4 g3)) goes50 rfl rfl) ?_
  refine OpsL.consG (!(!x_1)) 99 [15] (.plain rfl) (eq_f _) rfl rfl (fun g5 => ⟨g5, trivial⟩) (fun g5 => op_not rfl) ?_
  refine OpsL.cons rfl (op_pick_or (fun e => by rw [e]; rfl) rfl rfl rfl rfl) ?_
  refine OpsL.cons rfl (op_move rfl) ?_
  refine OpsL.consG (!((!x_1) || (!x_2))) 99 [] (.plain rfl) (eq_f _) rfl rfl (fun g6 => trivial) (fun g6 => op_move rfl) ?_
  refine OpsL.consG (!((!x_1) || (!x_2))) 99 [] (.plain rfl) (eq_f _) rfl rfl (fun g7 => trivial) (fun g7 => op_move rfl) ?_
  refine OpsL.consG (!((!x_1) || (!x_2))) 99 [19, 20] (.plain rfl) (eq_f _) rfl rfl (fun g8 => ⟨g8, g8, trivial⟩) (fun g8 => op_eql rfl rfl) ?_
  refine OpsL.cons rfl (op_pick_or (fun e => by rw [e]; rfl) rfl rfl rfl rfl) ?_
  refine OpsL.nilK [0, 2, 3, 8, 22] [101] (s' := ⟨[(0, .b (.one (.sl 5 (l0.map eHolding)))), (2, I n0), (3, I to0), (8, .b (.ptr 101 0)), (22, B (((!x_1) || (!x_2)) || (decide (from0 = to0))))], [(101, .box 54 [.nil, .nil, .i 0])]⟩) rfl ?_
  refine Tri.ite h rfl (fun _ h => ?_) (fun _ h => ?_)
  · refine Tri.seq ?_
    refine Tri.regionL ?_
    refine OpsL.cons rfl (op_build tyBuild54 rfl rfl) ?_
    refine OpsL.cons rfl (op_store_p tyAgg54 rfl rfl rfl rfl (Nat.le_of_ble_eq_true rfl) rfl) ?_
    refine OpsL.nilK [8] [101] (s' := ⟨[(8, .b (.ptr 101 0))], [(101, .box 54 [.nil, .nil, .i 1])]⟩) rfl ?_
    refine Tri.ret ?_
    refine Fin.then_ret ?_
    obtain rfl := Option.some.inj h
    refine Fin.keep [8] [101] (s' := ⟨[(8, .b (.ptr 101 0))], [(101, .box 54 [.nil, .nil, .i 1])]⟩) rfl ?_
    refine Fin.nilbox 101 0 5 rfl rfl (by decide) ?_
    refine Fin.nilbox 101 1 6 rfl rfl (by decide) ?_
    refine Fin.result' [.agg [.sl 5 ([].map eHolding), .sl 6 ([].map eParcel), .i 1]] (.inl rfl) rfl (.cons (.agg tyAgg54 rfl rfl rfl rfl) .nil) ⟨rfl, rfl⟩
  · refine Tri.skip ?_
    refine Fin.keep [0, 2, 3, 8] [101] (s' := ⟨[(0, .b (.one (.sl 5 (l0.map eHolding)))), (2, I n0), (3, I to0), (8, .b (.ptr 101 0))], [(101, .box 54 [.nil, .nil, .i 0])]⟩) rfl ?_
    refine Fin.then ?_
    refine Tri.seq ?_
    refine Tri.regionL ?_
    refine OpsL.cons rfl (op_move rfl) ?_
    refine OpsL.cons rfl (op_move rfl) ?_
    obtain ⟨x_3, e9, h⟩ := bnd h
    refine OpsL.cons rfl (op_call0 (skewbackref41_Get_spec e9) goes31 rfl rfl) ?_
    refine OpsL.cons rfl (op_alloc (k := 102) tyZero59 rfl) ?_
    refine OpsL.cons rfl (op_store_p tyAgg59 rfl rfl rfl rfl (Nat.le_of_ble_eq_true rfl) rfl) ?_
    refine OpsL.nilK [0, 2, 3, 8, 9] [101, 102] (s' := ⟨[(0, .b (.one (.sl 5 (l0.map eHolding)))), (2, I n0), (3, I to0), (8, .b (.ptr 101 0)), (9, .b (.ptr 102 0))], [(101, .box 54 [.nil, .nil, .i 0]), (102, .box 59 [.i x_3.Body, .i x_3.Epoch, .i x_3.Phase, .i x_3.Peer, .str x_3.Data])]⟩) rfl ?_
    refine Tri.seq ?_
    refine Tri.seq ?_
    refine Tri.regionL ?_
    refine OpsL.cons rfl (op_field_p tyFld59_2 rfl rfl) ?_
    refine OpsL.cons rfl (op_load_p1 tyOne3 rfl rfl rfl) ?_
    refine OpsL.cons rfl (op_neq rfl rfl) ?_
    refine OpsL.nilK [0, 2, 3, 8, 9, 29] [101, 102] (s' := ⟨[(0, .b (.one (.sl 5 (l0.map eHolding)))), (2, I n0), (3, I to0), (8, .b (.ptr 101 0)), (9, .b (.ptr 102 0)), (29, B (decide (x_3.Phase ≠ 1)))], [(101, .box 54 [.nil, .nil, .i 0]), (102, .box 59 [.i x_3.Body, .i x_3.Epoch, .i x_3.Phase, .i x_3.Peer, .str x_3.Data])]⟩) rfl ?_
    refine Tri.ite h rfl (fun _ h => ?_) (fun _ h => ?_)
    · refine Tri.seq ?_
      refine Tri.regionL ?_
      refine OpsL.cons rfl (op_build tyBuild54 rfl rfl) ?_
      refine OpsL.cons rfl (op_store_p tyAgg54 rfl rfl rfl rfl (Nat.le_of_ble_eq_true rfl) rfl) ?_
      refine OpsL.nilK [8] [101] (s' := ⟨[(8, .b (.ptr 101 0))], [(101, .box 54 [.nil, .nil, .i 4])]⟩) rfl ?_
      refine Tri.ret ?_
      refine Fin.then_ret ?_
      obtain rfl := Option.some.inj h
      refine Fin.keep [8] [101] (s' := ⟨[(8, .b (.ptr 101 0))], [(101, .box 54 [.nil, .nil, .i 4])]⟩) rfl ?_
      refine Fin.nilbox 101 0 5 rfl rfl (by decide) ?_
      refine Fin.nilbox 101 1 6 rfl rfl (by decide) ?_
      refine Fin.result' [.agg [.sl 5 ([].map eHolding), .sl 6 ([].map eParcel), .i 4]] (.inl rfl) rfl (.cons (.agg tyAgg54 rfl rfl rfl rfl) .nil) ⟨rfl, rfl⟩
    · refine Tri.skip ?_
      refine Fin.keep [0, 2, 3, 8, 9] [101, 102] (s' := ⟨[(0, .b (.one (.sl 5 (l0.map eHolding)))), (2, I n0), (3, I to0), (8, .b (.ptr 101 0)), (9, .b (.ptr 102 0))], [(101, .box 54 [.nil, .nil, .i 0]), (102, .box 59 [.i x_3.Body, .i x_3.Epoch, .i x_3.Phase, .i x_3.Peer, .str x_3.Data])]⟩) rfl ?_
      refine Fin.then ?_
      refine Tri.seq ?_
      refine Tri.seq ?_
      refine Tri.keep [0, 2, 3, 8, 9] [101, 102] (s' := ⟨[(0, .b (.one (.sl 5 (l0.map eHolding)))), (2, I n0), (3, I to0), (8, .b (.ptr 101 0)), (9, .b (.ptr 102 0))], [(101, .box 54 [.nil, .nil, .i 0]), (102, .box 59 [.i x_3.Body, .i x_3.Epoch, .i x_3.Phase, .i x_3.Peer, .str x_3.Data])]⟩) rfl ?_
      obtain ⟨x_4, e10, h⟩ := bnd h
      refine Tri.regionD mixed [.b (.ptr 102 1), I x_3.Epoch, I x_4, B (decide (x_4 ≤ x_3.Epoch))] [0, 2, 3, 8, 9, 34] [101, 102] (s' := ⟨[(0, .b (.one (.sl 5 (l0.map eHolding)))), (2, I n0), (3, I to0), (8, .b (.ptr 101 0)), (9, .b (.ptr 102 0)), (34, B (decide (x_4 ≤ x_3.Epoch)))], [(101, .box 54 [.nil, .nil, .i 0]), (102, .box 59 [.i x_3.Body, .i x_3.Epoch, .i x_3.Phase, .i x_3.Peer, .str x_3.Data])]⟩) rfl ⟨fun _ => .plain rfl (op_field_p tyFld59_1 rfl rfl), fun _ => .plain rfl (op_load_p1 tyOne3 rfl rfl rfl), fun _ => .plain rfl (op_call0 (skewbackref41_most_spec e10) goes51 rfl rfl), fun _ => .plain rfl (op_geq rfl rfl), trivial⟩ rfl ?_
      refine Tri.ite h rfl (fun _ h => ?_) (fun _ h => ?_)
      · refine Tri.seq ?_
        refine Tri.regionL ?_
        refine OpsL.cons rfl (op_build tyBuild54 rfl rfl) ?_
        refine OpsL.cons rfl (op_store_p tyAgg54 rfl rfl rfl rfl (Nat.le_of_ble_eq_true rfl) rfl) ?_
        refine OpsL.nilK [8] [101] (s' := ⟨[(8, .b (.ptr 101 0))], [(101, .box 54 [.nil, .nil, .i 2])]⟩) rfl ?_
        refine Tri.ret ?_
        refine Fin.then_ret ?_
        obtain rfl := Option.some.inj h
        refine Fin.keep [8] [101] (s' := ⟨[(8, .b (.ptr 101 0))], [(101, .box 54 [.nil, .nil, .i 2])]⟩) rfl ?_
        refine Fin.nilbox 101 0 5 rfl rfl (by decide) ?_
        refine Fin.nilbox 101 1 6 rfl rfl (by decide) ?_
        refine Fin.result' [.agg [.sl 5 ([].map eHolding), .sl 6 ([].map eParcel), .i 2]] (.inl rfl) rfl (.cons (.agg tyAgg54 rfl rfl rfl rfl) .nil) ⟨rfl, rfl⟩
      · refine Tri.skip ?_
        refine Fin.keep [0, 2, 3, 8, 9] [101, 102] (s' := ⟨[(0, .b (.one (.sl 5 (l0.map eHolding)))), (2, I n0), (3, I to0), (8, .b (.ptr 101 0)), (9, .b (.ptr 102 0))], [(101, .box 54 [.nil, .nil, .i 0]), (102, .box 59 [.i x_3.Body, .i x_3.Epoch, .i x_3.Phase, .i x_3.Peer, .str x_3.Data])]⟩) rfl ?_
        refine Fin.then ?_
        refine Tri.seq ?_
        refine Tri.regionL ?_
        refine OpsL.cons rfl (op_move rfl) ?_
        refine OpsL.cons rfl (op_move rfl) ?_
        refine OpsL.cons rfl (op_field_p tyFld59_1 rfl rfl) ?_
        refine OpsL.cons rfl (op_load_p1 tyOne3 rfl rfl rfl) ?_
        refine OpsL.cons rfl (op_add rfl rfl) ?_
        refine OpsL.cons rfl (op_move rfl) ?_
        refine OpsL.cons rfl (op_field_p tyFld59_4 rfl rfl) ?_
        refine OpsL.keep [8, 36, 37, 40, 41, 42] [101, 102] (s' := ⟨[(8, .b (.ptr 101 0)), (36, .b (.one (.sl 5 (l0.map eHolding)))), (37, I n0), (40, I (IntKind.i64.wrap (x_3.Epoch + 1))), (41, I to0), (42, .b (.ptr 102 4))], [(101, .box 54 [.nil, .nil, .i 0]), (102, .box 59 [.i x_3.Body, .i x_3.Epoch, .i x_3.Phase, .i x_3.Peer, .str x_3.Data])]⟩) rfl ?_
        refine OpsL.cons rfl (op_load_p1 tyOne9 rfl rfl rfl) ?_
        refine OpsL.cons rfl (op_build tyBuild59 rfl rfl) ?_
        obtain ⟨x_5, e11, h⟩ := bnd h
        refine OpsL.cons rfl (op_call (skewbackref41_set_spec 103 e11) goes49 rfl trivial rfl rfl) ?_
        refine OpsL.persist 103 rfl ?_
        refine OpsL.cons rfl (op_build tyBuild54 rfl rfl) ?_
        refine OpsL.cons rfl (op_store_p tyAgg54 rfl rfl rfl rfl (Nat.le_of_ble_eq_true rfl) rfl) ?_
        refine OpsL.nilK [8] [101] (s' := ⟨[(8, .b (.ptr 101 0))], [(101, .box 54 [.sl 5 (x_5.map eHolding), .nil, .i 0])]⟩) rfl ?_
        refine Tri.ret ?_
        obtain rfl := Option.some.inj h
        refine Fin.keep [8] [101] (s' := ⟨[(8, .b (.ptr 101 0))], [(101, .box 54 [.sl 5 (x_5.map eHolding), .nil, .i 0])]⟩) rfl ?_
        refine Fin.nilbox 101 1 6 rfl rfl (by decide) ?_
        refine Fin.result' [.agg [.sl 5 (x_5.map eHolding), .sl 6 ([].map eParcel), .i 0]] (.inl rfl) rfl (.cons (.agg tyAgg54 rfl rfl rfl rfl) .nil) ⟨rfl, rfl⟩

def skewbackref41_Cancel_S (F : Nat) (l0 : List Holding) (n0 : Int) : Option Known :=
 Option.bind (skewbackref41_Get_S F l0 n0) (fun x_1 => if (decide (x_1.Phase ≠ 2)) = true then (some (⟨[], [], 4⟩ : Known)) else (Option.bind (skewbackref41_set_S F l0 (⟨n0, x_1.Epoch, 1, 0, x_1.Data⟩ : Holding)) (fun x_2 => some (⟨x_2, [], 0⟩ : Known))))
theorem skewbackref41_Cancel_spec {F : Nat} {l0 : List Holding} {n0 : Int} {r : Known} (h : skewbackref41_Cancel_S F l0 n0 = some r) : Meets Try.prog 29 [] [.one (.sl 5 (l0.map eHolding)), .one (.i n0)] (Is [] (.b (.agg (eKnown r)))) := by
  unfold skewbackref41_Cancel_S at h
  refine Meets.intro 22 Try.func29 Try.ntmps29 rfl (by simp) fun E => ?_
  show Tri _ E ⟨22, [], []⟩ _ ⟨[(0, .b (.one (.sl 5 (l0.map eHolding)))), (1, I n0)], []⟩ _
  refine Tri.seq ?_
  refine Tri.regionL ?_
  refine OpsL.cons rfl (op_alloc (k := 101) tyZero54 rfl) ?_
  refine OpsL.nilK [0, 1, 4] [101] (s' := ⟨[(0, .b (.one (.sl 5 (l0.map eHolding)))), (1, I n0), (4, .b (.ptr 101 0))], [(101, .box 54 [.nil, .nil, .i 0])]⟩) rfl ?_
  refine Tri.seq ?_
  refine Tri.regionL ?_
  refine OpsL.cons rfl (op_move rfl) ?_
  refine OpsL.cons rfl (op_move rfl) ?_
  obtain ⟨x_1, e1, h⟩ := bnd h
  refine OpsL.cons rfl (op_call0 (skewbackref41_Get_spec e1) goes31 rfl rfl) ?_
  refine OpsL.cons rfl (op_alloc (k := 102) tyZero59 rfl) ?_
  refine OpsL.cons rfl (op_store_p tyAgg59 rfl rfl rfl rfl (Nat.le_of_ble_eq_true rfl) rfl) ?_
  refine OpsL.nilK [0, 1, 4, 5] [101, 102] (s' := ⟨[(0, .b (.one (.sl 5 (l0.map eHolding)))), (1, I n0), (4, .b (.ptr 101 0)), (5, .b (.ptr 102 0))], [(101, .box 54 [.nil, .nil, .i 0]), (102, .box 59 [.i x_1.Body, .i x_1.Epoch, .i x_1.Phase, .i x_1.Peer, .str x_1.Data])]⟩) rfl ?_
  refine Tri.seq ?_
  refine Tri.seq ?_
  refine Tri.regionL ?_
  refine OpsL.cons rfl (op_field_p tyFld59_2 rfl rfl) ?_
  refine OpsL.cons rfl (op_load_p1 tyOne3 rfl rfl rfl) ?_
  refine OpsL.cons rfl (op_neq rfl rfl) ?_
  refine OpsL.nilK [0, 1, 4, 5, 11] [101, 102] (s' := ⟨[(0, .b (.one (.sl 5 (l0.map eHolding)))), (1, I n0), (4, .b (.ptr 101 0)), (5, .b (.ptr 102 0)), (11, B (decide (x_1.Phase ≠ 2)))], [(101, .box 54 [.nil, .nil, .i 0]), (102, .box 59 [.i x_1.Body, .i x_1.Epoch, .i x_1.Phase, .i x_1.Peer, .str x_1.Data])]⟩) rfl ?_
  refine Tri.ite h rfl (fun _ h => ?_) (fun _ h => ?_)
  · refine Tri.seq ?_
    refine Tri.regionL ?_
    refine OpsL.cons rfl (op_build tyBuild54 rfl rfl) ?_
    refine OpsL.cons rfl (op_store_p tyAgg54 rfl rfl rfl rfl (Nat.le_of_ble_eq_true rfl) rfl) ?_
    refine OpsL.nilK [4] [101] (s' := ⟨[(4, .b (.ptr 101 0))], [(101, .box 54 [.nil, .nil, .i 4])]⟩) rfl ?_
    refine Tri.ret ?_
    refine Fin.then_ret ?_
    obtain rfl := Option.some.inj h
    refine Fin.keep [4] [101] (s' := ⟨[(4, .b (.ptr 101 0))], [(101, .box 54 [.nil, .nil, .i 4])]⟩) rfl ?_
    refine Fin.nilbox 101 0 5 rfl rfl (by decide) ?_
    refine Fin.nilbox 101 1 6 rfl rfl (by decide) ?_
    refine Fin.result' [.agg [.sl 5 ([].map eHolding), .sl 6 ([].map eParcel), .i 4]] (.inl rfl) rfl (.cons (.agg tyAgg54 rfl rfl rfl rfl) .nil) ⟨rfl, rfl⟩
  · refine Tri.skip ?_
    refine Fin.keep [0, 1, 4, 5] [101, 102] (s' := ⟨[(0, .b (.one (.sl 5 (l0.map eHolding)))), (1, I n0), (4, .b (.ptr 101 0)), (5, .b (.ptr 102 0))], [(101, .box 54 [.nil, .nil, .i 0]), (102, .box 59 [.i x_1.Body, .i x_1.Epoch, .i x_1.Phase, .i x_1.Peer, .str x_1.Data])]⟩) rfl ?_
    refine Fin.then ?_
    refine Tri.seq ?_
    refine Tri.regionL ?_
    refine OpsL.cons rfl (op_move rfl) ?_
    refine OpsL.cons rfl (op_move rfl) ?_
    refine OpsL.cons rfl (op_field_p tyFld59_1 rfl rfl) ?_
    refine OpsL.cons rfl (op_load_p1 tyOne3 rfl rfl rfl) ?_
    refine OpsL.cons rfl (op_field_p tyFld59_4 rfl rfl) ?_
    refine OpsL.cons rfl (op_load_p1 tyOne9 rfl rfl rfl) ?_
    refine OpsL.cons rfl (op_build tyBuild59 rfl rfl) ?_
    refine OpsL.keep [4, 13, 19] [101] (s' := ⟨[(4, .b (.ptr 101 0)), (13, .b (.one (.sl 5 (l0.map eHolding)))), (19, .b (.agg [.i n0, .i x_1.Epoch, .i 1, .i 0, .str x_1.Data]))], [(101, .box 54 [.nil, .nil, .i 0])]⟩) rfl ?_
    obtain ⟨x_2, e2, h⟩ := bnd h
    refine OpsL.cons rfl (op_call (skewbackref41_set_spec 103 e2) goes49 rfl trivial rfl rfl) ?_
    refine OpsL.persist 103 rfl ?_
    refine OpsL.cons rfl (op_build tyBuild54 rfl rfl) ?_
    refine OpsL.cons rfl (op_store_p tyAgg54 rfl rfl rfl rfl (Nat.le_of_ble_eq_true rfl) rfl) ?_
    refine OpsL.nilK [4] [101] (s' := ⟨[(4, .b (.ptr 101 0))], [(101, .box 54 [.sl 5 (x_2.map eHolding), .nil, .i 0])]⟩) rfl ?_
    refine Tri.ret ?_
    obtain rfl := Option.some.inj h
    refine Fin.keep [4] [101] (s' := ⟨[(4, .b (.ptr 101 0))], [(101, .box 54 [.sl 5 (x_2.map eHolding), .nil, .i 0])]⟩) rfl ?_
    refine Fin.nilbox 101 1 6 rfl rfl (by decide) ?_
    refine Fin.result' [.agg [.sl 5 (x_2.map eHolding), .sl 6 ([].map eParcel), .i 0]] (.inl rfl) rfl (.cons (.agg tyAgg54 rfl rfl rfl rfl) .nil) ⟨rfl, rfl⟩

def skewbackref41_answer_S (F : Nat) (x0 : Parcel) (kind0 : Int) : Option (List Parcel) :=
 some [(⟨x0.To, x0.From, kind0, x0.Body, x0.Epoch, []⟩ : Parcel)]
theorem skewbackref41_answer_spec (k0 : Nat) {F : Nat} {x0 : Parcel} {kind0 : Int} {r : (List Parcel)} (h : skewbackref41_answer_S F x0 kind0 = some r) : Meets Try.prog 54 [] [.agg (eParcel x0), .one (.i kind0)] (Is [(k0, .row 45 6 (r.map eParcel))] (.b (.row k0))) := by
  unfold skewbackref41_answer_S at h
  refine Meets.intro 16 Try.func54 Try.ntmps54 rfl (by simp) fun E => ?_
  show Tri _ E ⟨16, [], []⟩ _ ⟨[(0, .b (.agg [.i x0.From, .i x0.To, .i x0.Kind, .i x0.Body, .i x0.Epoch, .str x0.Data])), (1, I kind0)], []⟩ _
  refine Tri.seq ?_
  refine Tri.regionL ?_
  refine OpsL.cons rfl (op_box (k := 101) rfl rfl) ?_
  refine OpsL.cons rfl (op_assign rfl) ?_
  refine OpsL.nilK [1, 2] [101] (s' := ⟨[(1, I kind0), (2, .b (.ptr 101 0))], [(101, .box 45 [.i x0.From, .i x0.To, .i x0.Kind, .i x0.Body, .i x0.Epoch, .str x0.Data])]⟩) rfl ?_
  refine Tri.seq ?_
  refine Tri.regionL ?_
  refine OpsL.cons rfl (op_field_p tyFld45_1 rfl rfl) ?_
  refine OpsL.cons rfl (op_load_p1 tyOne3 rfl rfl rfl) ?_
  refine OpsL.cons rfl (op_field_p tyFld45_0 rfl rfl) ?_
  refine OpsL.cons rfl (op_load_p1 tyOne3 rfl rfl rfl) ?_
  refine OpsL.cons rfl (op_move rfl) ?_
  refine OpsL.cons rfl (op_field_p tyFld45_3 rfl rfl) ?_
  refine OpsL.cons rfl (op_load_p1 tyOne3 rfl rfl rfl) ?_
  refine OpsL.keep [2, 6, 8, 9, 11] [101] (s' := ⟨[(2, .b (.ptr 101 0)), (6, I x0.To), (8, I x0.From), (9, I kind0), (11, I x0.Body)], [(101, .box 45 [.i x0.From, .i x0.To, .i x0.Kind, .i x0.Body, .i x0.Epoch, .str x0.Data])]⟩) rfl ?_
  refine OpsL.cons rfl (op_field_p tyFld45_4 rfl rfl) ?_
  refine OpsL.cons rfl (op_load_p1 tyOne3 rfl rfl rfl) ?_
  refine OpsL.cons rfl (op_build tyBuild45 rfl rfl) ?_
  refine OpsL.cons rfl (op_buildSlice (k := 102) (es := [(⟨x0.To, x0.From, kind0, x0.Body, x0.Epoch, []⟩ : Parcel)].map eParcel) tySl38 rfl rfl (uni_map fun _ => rfl) rfl (by decide) (by decide) rfl) ?_
  refine OpsL.cons rfl (op_assign rfl) ?_
  refine OpsL.nilK [4] [102] (s' := ⟨[(4, .b (.row 102))], [(102, .row 45 6 ([(⟨x0.To, x0.From, kind0, x0.Body, x0.Epoch, []⟩ : Parcel)].map eParcel))]⟩) rfl ?_
  refine Tri.ret ?_
  obtain rfl := Option.some.inj h
  refine Fin.keep [4] [102] (s' := ⟨[(4, .b (.row 102))], [(102, .row 45 6 ([(⟨x0.To, x0.From, kind0, x0.Body, x0.Epoch, []⟩ : Parcel)].map eParcel))]⟩) rfl ?_
  refine Fin.resultK 102 k0 [.row 102] (.inl rfl) rfl (.cons (.tmp rfl) .nil) rfl rfl rfl rfl ⟨rfl, rfl⟩

def skewbackref41_Receive_S (F : Nat) (l0 : List Holding) (at0 : Int) (x0 : Parcel) : Option Known :=
 Option.bind (gcall (!(decide (x0.To ≠ at0))) (skewbackref41_node_S F x0.From)) (fun x_1 => Option.bind (gcall (!(((decide (x0.To ≠ at0)) || (!x_1)) || (decide (x0.From = at0)))) (skewbackref41_body_S F x0.Body)) (fun x_2 => Option.bind (gcall (!(((((decide (x0.To ≠ at0)) || (!x_1)) || (decide (x0.From = at0))) || (!x_2)) || (decide (x0.Epoch < 1)))) (skewbackref41_most_S F)) (fun x_3 => if ((((((decide (x0.To ≠ at0)) || (!x_1)) || (decide (x0.From = at0))) || (!x_2)) || (decide (x0.Epoch < 1))) || (decide (x_3 < x0.Epoch))) = true then (some (⟨l0, [], 0⟩ : Known)) else (Option.bind (skewbackref41_Get_S F l0 x0.Body) (fun x_4 => letN ((decide (x_4.Epoch = x0.Epoch)) && (decide (x_4.Peer = x0.From))) fun x_5 => Option.bind (if (decide (x0.Kind = 1)) = true then (letN ((decide (x_4.Epoch < x0.Epoch)) && (((decide (x_4.Phase = 0)) || (decide (x_4.Phase = 4))) || (decide (x_4.Phase = 3)))) fun x_6 => if x_6 = true then (Option.bind (skewbackref41_set_S F l0 (⟨x0.Body, x0.Epoch, 4, x0.From, x0.Data⟩ : Holding)) (fun x_7 => Option.bind (skewbackref41_answer_S F x0 2) (fun x_8 => some (.inr (⟨x_7, x_8, 0⟩ : Known))))) else (if ((decide (x_4.Phase = 4)) && x_5) = true then (Option.bind (skewbackref41_answer_S F x0 2) (fun x_9 => some (.inr (⟨l0, x_9, 0⟩ : Known)))) else (some (.inl ())))) else (if (decide (x0.Kind = 2)) = true then (if ((decide (x_4.Phase = 2)) && x_5) = true then (Option.bind (skewbackref41_set_S F l0 (⟨x_4.Body, x_4.Epoch, 3, x_4.Peer, x_4.Data⟩ : Holding)) (fun x_10 => Option.bind (skewbackref41_answer_S F x0 3) (fun x_11 => some (.inr (⟨x_10, x_11, 0⟩ : Known))))) else (some (.inl ()))) else (if (decide (x0.Kind = 3)) = true then (if ((decide (x_4.Phase = 4)) && x_5) = true then (Option.bind (skewbackref41_set_S F l0 (⟨x0.Body, x0.Epoch, 1, 0, x_4.Data⟩ : Holding)) (fun x_12 => Option.bind (skewbackref41_answer_S F x0 4) (fun x_13 => some (.inr (⟨x_12, x_13, 0⟩ : Known))))) else (letN ((decide (x0.Epoch < x_4.Epoch)) || ((decide (x_4.Epoch = x0.Epoch)) && (decide (x_4.Phase ≠ 4)))) fun x_14 => if x_14 = true then (Option.bind (skewbackref41_answer_S F x0 4) (fun x_15 => some (.inr (⟨l0, x_15, 0⟩ : Known)))) else (some (.inl ())))) else (if (decide (x0.Kind = 4)) = true then (if ((decide (x_4.Phase = 3)) && x_5) = true then (Option.bind (skewbackref41_set_S F l0 (⟨x0.Body, x0.Epoch, 0, 0, []⟩ : Holding)) (fun x_16 => some (.inr (⟨x_16, [], 0⟩ : Known)))) else (some (.inl ()))) else (some (.inl ())))))) (alt2 (fun _ => some (⟨l0, [], 0⟩ : Known)) (fun y => some y)))))))
theorem skewbackref41_Receive_spec {F : Nat} {l0 : List Holding} {at0 : Int} {x0 : Parcel} {r : Known} (h : skewbackref41_Receive_S F l0 at0 x0 = some r) : Meets Try.prog 33 [] [.one (.sl 5 (l0.map eHolding)), .one (.i at0), .agg (eParcel x0)] (Is [] (.b (.agg (eKnown r)))) := by
  unfold skewbackref41_Receive_S at h
  refine Meets.intro 182 Try.func33 Try.ntmps33 rfl (by simp) fun E => ?_
  show Tri _ E ⟨182, [], []⟩ _ ⟨[(0, .b (.one (.sl 5 (l0.map eHolding)))), (1, I at0), (2, .b (.agg [.i x0.From, .i x0.To, .i x0.Kind, .i x0.Body, .i x0.Epoch, .str x0.Data]))], []⟩ _
  refine Tri.seq ?_
  refine Tri.regionL ?_
  refine OpsL.cons rfl (op_box (k := 101) rfl rfl) ?_
  refine OpsL.cons rfl (op_alloc (k := 102) tyZero54 rfl) ?_
  refine OpsL.nilK [0, 1, 5, 6] [101, 102] (s' := ⟨[(0, .b (.one (.sl 5 (l0.map eHolding)))), (1, I at0), (5, .b (.ptr 101 0)), (6, .b (.ptr 102 0))], [(101, .box 45 [.i x0.From, .i x0.To, .i x0.Kind, .i x0.Body, .i x0.Epoch, .str x0.Data]), (102, .box 54 [.nil, .nil, .i 0])]⟩) rfl ?_
  refine Tri.seq ?_
  refine Tri.seq ?_
  refine Tri.keep [0, 1, 5, 6] [101, 102] (s' := ⟨[(0, .b (.one (.sl 5 (l0.map eHolding)))), (1, I at0), (5, .b (.ptr 101 0)), (6, .b (.ptr 102 0))], [(101, .box 45 [.i x0.From, .i x0.To, .i x0.Kind, .i x0.Body, .i x0.Epoch, .str x0.Data]), (102, .box 54 [.nil, .nil, .i 0])]⟩) rfl ?_
  obtain ⟨x_1, e4, h⟩ := bnd h
  obtain ⟨x_2, e13, h⟩ := bnd h
  obtain ⟨x_3, e21, h⟩ := bnd h
  refine Tri.regionD mixed [.b (.ptr 101 1), I x0.To, I at0, B (decide (x0.To ≠ at0)), B (decide (x0.To ≠ at0)), .opt (!(decide (x0.To ≠ at0))) (.ptr 101 0), .opt (!(decide (x0.To ≠ at0))) (.one (.i x0.From)), .opt (!(decide (x0.To ≠ at0))) (.one (.bool x_1)), .opt (!(decide (x0.To ≠ at0))) (.one (.bool (!x_1))), B ((decide (x0.To ≠ at0)) || (!x_1)), B ((decide (x0.To ≠ at0)) || (!x_1)), .opt (!((decide (x0.To ≠ at0)) || (!x_1))) (.ptr 101 0), .opt (!((decide (x0.To ≠ at0)) || (!x_1))) (.one (.i x0.From)), .opt (!((decide (x0.To ≠ at0)) || (!x_1))) (.one (.i at0)), .opt (!((decide (x0.To ≠ at0)) || (!x_1))) (.one (.bool (decide (x0.From = at0)))), B (((decide (x0.To ≠ at0)) || (!x_1)) || (decide (x0.From = at0))), B (((decide (x0.To ≠ at0)) || (!x_1)) || (decide (x0.From = at0))), .opt (!(((decide (x0.To ≠ at0)) || (!x_1)) || (decide (x0.From = at0)))) (.ptr 101 3), .opt (!(((decide (x0.To ≠ at0)) || (!x_1)) || (decide (x0.From = at0)))) (.one (.i x0.Body)), .opt (!(((decide (x0.To ≠ at0)) || (!x_1)) || (decide (x0.From = at0)))) (.one (.bool x_2)), .opt (!(((decide (x0.To ≠ at0)) || (!x_1)) || (decide (x0.From = at0)))) (.one (.bool (!x_2))), B ((((decide (x0.To ≠ at0)) || (!x_1)) || (decide (x0.From = at0))) || (!x_2)), B ((((decide (x0.To ≠ at0)) || (!x_1)) || (decide (x0.From = at0))) || (!x_2)), .opt (!((((decide (x0.To ≠ at0)) || (!x_1)) || (decide (x0.From = at0))) || (!x_2))) (.ptr 101 4), .opt (!((((decide (x0.To ≠ at0)) || (!x_1)) || (decide (x0.From = at0))) || (!x_2))) (.one (.i x0.Epoch)), .opt (!((((decide (x0.To ≠ at0)) || (!x_1)) || (decide (x0.From = at0))) || (!x_2))) (.one (.bool (decide (x0.Epoch < 1)))), B (((((decide (x0.To ≠ at0)) || (!x_1)) || (decide (x0.From = at0))) || (!x_2)) || (decide (x0.Epoch < 1))), B (((((decide (x0.To ≠ at0)) || (!x_1)) || (decide (x0.From = at0))) || (!x_2)) || (decide (x0.Epoch < 1))), .opt (!(((((decide (x0.To ≠ at0)) || (!x_1)) || (decide (x0.From = at0))) || (!x_2)) || (decide (x0.Epoch < 1)))) (.ptr 101 4), .opt (!(((((decide (x0.To ≠ at0)) || (!x_1)) || (decide (x0.From = at0))) || (!x_2)) || (decide (x0.Epoch < 1)))) (.one (.i x0.Epoch)), .opt (!(((((decide (x0.To ≠ at0)) || (!x_1)) || (decide (x0.From = at0))) || (!x_2)) || (decide (x0.Epoch < 1)))) (.one (.i x_3)), .opt (!(((((decide (x0.To ≠ at0)) || (!x_1)) || (decide (x0.From = at0))) || (!x_2)) || (decide (x0.Epoch < 1)))) (.one (.bool (decide (x_3 < x0.Epoch)))), B ((((((decide (x0.To ≠ at0)) || (!x_1)) || (decide (x0.From = at0))) || (!x_2)) || (decide (x0.Epoch < 1))) || (decide (x_3 < x0.Epoch)))] [0, 5, 6, 41] [101, 102] (s' := ⟨[(0, .b (.one (.sl 5 (l0.map eHolding)))), (5, .b (.ptr 101 0)), (6, .b (.ptr 102 0)), (41, B ((((((decide (x0.To ≠ at0)) || (!x_1)) || (decide (x0.From = at0))) || (!x_2)) || (decide (x0.Epoch < 1))) || (decide (x_3 < x0.Epoch))))], [(101, .box 45 [.i x0.From, .i x0.To, .i x0.Kind, .i x0.Body, .i x0.Epoch, .str x0.Data]), (102, .box 54 [.nil, .nil, .i 0])]⟩) rfl ⟨fun _ => .plain rfl (op_field_p tyFld45_1 rfl rfl), fun _ => .plain rfl (op_load_p1 tyOne3 rfl rfl rfl), fun _ => .plain rfl (op_move rfl), fun _ => .plain rfl (op_neq rfl rfl), fun _ => .plain rfl (op_move rfl), fun _ => by exact .guard (!(decide (x0.To ≠ at0))) 1 [] (.plain rfl) (eq_f _) rfl rfl (fun g1 => trivial) (fun g1 => op_field_p tyFld45_0 rfl rfl), fun _ => by exact .guard (!(decide (x0.To ≠ at0))) 2 [14] (.plain rfl) (eq_f _) rfl rfl (fun g2 => ⟨g2, trivial⟩) (fun g2 => op_load_p1 tyOne3 rfl rfl rfl), fun _ => by exact .guard (!(decide (x0.To ≠ at0))) 3 [15] (.plain rfl) (eq_f _) rfl rfl (fun g3 => ⟨g3, trivial⟩) (fun g3 => op_call0 (skewbackref41_node_spec (gc e4 g3)) goes50 rfl rfl), fun _ => by exact .guard (!(decide (x0.To ≠ at0))) 2 [16] (.plain rfl) (eq_f _) rfl rfl (fun g5 => ⟨g5, trivial⟩) (fun g5 => op_not rfl), fun _ => .plain rfl (op_pick_or (fun e => by rw [e]; rfl) rfl rfl rfl rfl), fun _ => .plain rfl (op_move rfl), fun _ => by exact .guard (!((decide (x0.To ≠ at0)) || (!x_1))) 1 [] (.plain rfl) (eq_f _) rfl rfl (fun g6 => trivial) (fun g6 => op_field_p tyFld45_0 rfl rfl), fun _ => by exact .guard (!((decide (x0.To ≠ at0)) || (!x_1))) 2 [20] (.plain rfl) (eq_f _) rfl rfl (fun g7 => ⟨g7, trivial⟩) (fun g7 => op_load_p1 tyOne3 rfl rfl rfl), fun _ => by exact .guard (!((decide (x0.To ≠ at0)) || (!x_1))) 1 [] (.plain rfl) (eq_f _) rfl rfl (fun g8 => trivial) (fun g8 => op_move rfl), fun _ => by exact .guard (!((decide (x0.To ≠ at0)) || (!x_1))) 3 [21, 22] (.plain rfl) (eq_f _) rfl rfl (fun g9 => ⟨g9, g9, trivial⟩) (fun g9 => op_eql rfl rfl), fun _ => .plain rfl (op_pick_or (fun e => by rw [e]; rfl) rfl rfl rfl rfl), fun _ => .plain rfl (op_move rfl), fun _ => by exact .guard (!(((decide (x0.To ≠ at0)) || (!x_1)) || (decide (x0.From = at0)))) 1 [] (.plain rfl) (eq_f _) rfl rfl (fun g10 => trivial) (fun g10 => op_field_p tyFld45_3 rfl rfl), fun _ => by exact .guard (!(((decide (x0.To ≠ at0)) || (!x_1)) || (decide (x0.From = at0)))) 2 [26] (.plain rfl) (eq_f _) rfl rfl (fun g11 => ⟨g11, trivial⟩) (fun g11 => op_load_p1 tyOne3 rfl rfl rfl), fun _ => by exact .guard (!(((decide (x0.To ≠ at0)) || (!x_1)) || (decide (x0.From = at0)))) 3 [27] (.plain rfl) (eq_f _) rfl rfl (fun g12 => ⟨g12, trivial⟩) (fun g12 => op_call0 (skewbackref41_body_spec (gc e13 g12)) goes48 rfl rfl), fun _ => by exact .guard (!(((decide (x0.To ≠ at0)) || (!x_1)) || (decide (x0.From = at0)))) 2 [28] (.plain rfl) (eq_f _) rfl rfl (fun g14 => ⟨g14, trivial⟩) (fun g14 => op_not rfl), fun _ => .plain rfl (op_pick_or (fun e => by rw [e]; rfl) rfl rfl rfl rfl), fun _ => .plain rfl (op_move rfl), fun _ => by exact .guard (!((((decide (x0.To ≠ at0)) || (!x_1)) || (decide (x0.From = at0))) || (!x_2))) 1 [] (.plain rfl) (eq_f _) rfl rfl (fun g15 => trivial) (fun g15 => op_field_p tyFld45_4 rfl rfl), fun _ => by exact .guard (!((((decide (x0.To ≠ at0)) || (!x_1)) || (decide (x0.From = at0))) || (!x_2))) 2 [32] (.plain rfl) (eq_f _) rfl rfl (fun g16 => ⟨g16, trivial⟩) (fun g16 => op_load_p1 tyOne3 rfl rfl rfl), fun _ => by exact .guard (!((((decide (x0.To ≠ at0)) || (!x_1)) || (decide (x0.From = at0))) || (!x_2))) 2 [33] (.plain rfl) (eq_f _) rfl rfl (fun g17 => ⟨g17, trivial⟩) (fun g17 => op_lss rfl rfl), fun _ => .plain rfl (op_pick_or (fun e => by rw [e]; rfl) rfl rfl rfl rfl), fun _ => .plain rfl (op_move rfl), fun _ => by exact .guard (!(((((decide (x0.To ≠ at0)) || (!x_1)) || (decide (x0.From = at0))) || (!x_2)) || (decide (x0.Epoch < 1)))) 1 [] (.plain rfl) (eq_f _) rfl rfl (fun g18 => trivial) (fun g18 => op_field_p tyFld45_4 rfl rfl), fun _ => by exact .guard (!(((((decide (x0.To ≠ at0)) || (!x_1)) || (decide (x0.From = at0))) || (!x_2)) || (decide (x0.Epoch < 1)))) 2 [37] (.plain rfl) (eq_f _) rfl rfl (fun g19 => ⟨g19, trivial⟩) (fun g19 => op_load_p1 tyOne3 rfl rfl rfl), fun _ => by exact .guard (!(((((decide (x0.To ≠ at0)) || (!x_1)) || (decide (x0.From = at0))) || (!x_2)) || (decide (x0.Epoch < 1)))) 2 [] (.plain rfl) (eq_f _) rfl rfl (fun g20 => trivial) (fun g20 => op_call0 (skewbackref41_most_spec (gc e21 g20)) goes51 rfl rfl), fun _ => by exact .guard (!(((((decide (x0.To ≠ at0)) || (!x_1)) || (decide (x0.From = at0))) || (!x_2)) || (decide (x0.Epoch < 1)))) 3 [38, 39] (.plain rfl) (eq_f _) rfl rfl (fun g22 => ⟨g22, g22, trivial⟩) (fun g22 => op_gtr rfl rfl), fun _ => .plain rfl (op_pick_or (fun e => by rw [e]; rfl) rfl rfl rfl rfl), trivial⟩ rfl ?_
  refine Tri.ite h rfl (fun _ h => ?_) (fun _ h => ?_)
  · refine Tri.seq ?_
    refine Tri.regionL ?_
    refine OpsL.cons rfl (op_move rfl) ?_
    refine OpsL.cons rfl (op_build tyBuild54 rfl rfl) ?_
    refine OpsL.cons rfl (op_store_p tyAgg54 rfl rfl rfl rfl (Nat.le_of_ble_eq_true rfl) rfl) ?_
    refine OpsL.nilK [6] [102] (s' := ⟨[(6, .b (.ptr 102 0))], [(102, .box 54 [.sl 5 (l0.map eHolding), .nil, .i 0])]⟩) rfl ?_
    refine Tri.ret ?_
    refine Fin.then_ret ?_
    obtain rfl := Option.some.inj h
    refine Fin.keep [6] [102] (s' := ⟨[(6, .b (.ptr 102 0))], [(102, .box 54 [.sl 5 (l0.map eHolding), .nil, .i 0])]⟩) rfl ?_
    refine Fin.nilbox 102 1 6 rfl rfl (by decide) ?_
    refine Fin.result' [.agg [.sl 5 (l0.map eHolding), .sl 6 ([].map eParcel), .i 0]] (.inl rfl) rfl (.cons (.agg tyAgg54 rfl rfl rfl rfl) .nil) ⟨rfl, rfl⟩
  · refine Tri.skip ?_
    refine Fin.keep [0, 5, 6] [101, 102] (s' := ⟨[(0, .b (.one (.sl 5 (l0.map eHolding)))), (5, .b (.ptr 101 0)), (6, .b (.ptr 102 0))], [(101, .box 45 [.i x0.From, .i x0.To, .i x0.Kind, .i x0.Body, .i x0.Epoch, .str x0.Data]), (102, .box 54 [.nil, .nil, .i 0])]⟩) rfl ?_
    refine Fin.then ?_
    refine Tri.seq ?_
    refine Tri.regionL ?_
    refine OpsL.cons rfl (op_move rfl) ?_
    refine OpsL.cons rfl (op_field_p tyFld45_3 rfl rfl) ?_
    refine OpsL.cons rfl (op_load_p1 tyOne3 rfl rfl rfl) ?_
    obtain ⟨x_4, e23, h⟩ := bnd h
    refine OpsL.cons rfl (op_call0 (skewbackref41_Get_spec e23) goes31 rfl rfl) ?_
    refine OpsL.cons rfl (op_alloc (k := 103) tyZero59 rfl) ?_
    refine OpsL.cons rfl (op_store_p tyAgg59 rfl rfl rfl rfl (Nat.le_of_ble_eq_true rfl) rfl) ?_
    refine OpsL.nilK [0, 5, 6, 7] [101, 102, 103] (s' := ⟨[(0, .b (.one (.sl 5 (l0.map eHolding)))), (5, .b (.ptr 101 0)), (6, .b (.ptr 102 0)), (7, .b (.ptr 103 0))], [(101, .box 45 [.i x0.From, .i x0.To, .i x0.Kind, .i x0.Body, .i x0.Epoch, .str x0.Data]), (102, .box 54 [.nil, .nil, .i 0]), (103, .box 59 [.i x_4.Body, .i x_4.Epoch, .i x_4.Phase, .i x_4.Peer, .str x_4.Data])]⟩) rfl ?_
    refine Tri.seq ?_
    refine Tri.regionL ?_
    refine OpsL.cons rfl (op_field_p tyFld59_1 rfl rfl) ?_
    refine OpsL.cons rfl (op_load_p1 tyOne3 rfl rfl rfl) ?_
    refine OpsL.cons rfl (op_field_p tyFld45_4 rfl rfl) ?_
    refine OpsL.cons rfl (op_load_p1 tyOne3 rfl rfl rfl) ?_
    refine OpsL.cons rfl (op_eql rfl rfl) ?_
    refine OpsL.cons rfl (op_move rfl) ?_
    refine OpsL.consG (decide (x_4.Epoch = x0.Epoch)) 99 [] (.plain rfl) (eq_t _) rfl rfl (fun g24 => trivial) (fun g24 => op_field_p tyFld59_3 rfl rfl) ?_
    refine OpsL.keep [0, 5, 6, 7, 53, 54] [101, 102, 103] (s' := ⟨[(0, .b (.one (.sl 5 (l0.map eHolding)))), (5, .b (.ptr 101 0)), (6, .b (.ptr 102 0)), (7, .b (.ptr 103 0)), (53, B (decide (x_4.Epoch = x0.Epoch))), (54, .opt (decide (x_4.Epoch = x0.Epoch)) (.ptr 103 3))], [(101, .box 45 [.i x0.From, .i x0.To, .i x0.Kind, .i x0.Body, .i x0.Epoch, .str x0.Data]), (102, .box 54 [.nil, .nil, .i 0]), (103, .box 59 [.i x_4.Body, .i x_4.Epoch, .i x_4.Phase, .i x_4.Peer, .str x_4.Data])]⟩) rfl ?_
    refine OpsL.consG (decide (x_4.Epoch = x0.Epoch)) 99 [54] (.plain rfl) (eq_t _) rfl rfl (fun g25 => ⟨g25, trivial⟩) (fun g25 => op_load_p1 tyOne3 rfl rfl rfl) ?_
    refine OpsL.consG (decide (x_4.Epoch = x0.Epoch)) 99 [] (.plain rfl) (eq_t _) rfl rfl (fun g26 => trivial) (fun g26 => op_field_p tyFld45_0 rfl rfl) ?_
    refine OpsL.consG (decide (x_4.Epoch = x0.Epoch)) 99 [56] (.plain rfl) (eq_t _) rfl rfl (fun g27 => ⟨g27, trivial⟩) (fun g27 => op_load_p1 tyOne3 rfl rfl rfl) ?_
    refine OpsL.consG (decide (x_4.Epoch = x0.Epoch)) 99 [55, 57] (.plain rfl) (eq_t _) rfl rfl (fun g28 => ⟨g28, g28, trivial⟩) (fun g28 => op_eql rfl rfl) ?_
    refine OpsL.consB h rfl (op_pick_and (fun e => e) rfl rfl rfl rfl) (fun x_5 h => ?_)
    refine OpsL.cons rfl (op_assign rfl) ?_
    refine OpsL.nilK [0, 5, 6, 7, 8] [101, 102, 103] (s' := ⟨[(0, .b (.one (.sl 5 (l0.map eHolding)))), (5, .b (.ptr 101 0)), (6, .b (.ptr 102 0)), (7, .b (.ptr 103 0)), (8, B x_5)], [(101, .box 45 [.i x0.From, .i x0.To, .i x0.Kind, .i x0.Body, .i x0.Epoch, .str x0.Data]), (102, .box 54 [.nil, .nil, .i 0]), (103, .box 59 [.i x_4.Body, .i x_4.Epoch, .i x_4.Phase, .i x_4.Peer, .str x_4.Data])]⟩) rfl ?_
    obtain ⟨v29, h30, h⟩ := bnd h
    refine Tri.seqJ (v := v29) (fun (_ : Unit) => ⟨[(0, .b (.one (.sl 5 (l0.map eHolding)))), (6, .b (.ptr 102 0))], [(102, .box 54 [.nil, .nil, .i 0])]⟩) (fun z => .inl z) ?_ ?_
    · refine Tri.seq ?_
      refine Tri.regionL ?_
      refine OpsL.cons rfl (op_field_p tyFld45_2 rfl rfl) ?_
      refine OpsL.cons rfl (op_load_p1 tyOne3 rfl rfl rfl) ?_
      refine OpsL.nilK [0, 5, 6, 7, 8, 61] [101, 102, 103] (s' := ⟨[(0, .b (.one (.sl 5 (l0.map eHolding)))), (5, .b (.ptr 101 0)), (6, .b (.ptr 102 0)), (7, .b (.ptr 103 0)), (8, B x_5), (61, I x0.Kind)], [(101, .box 45 [.i x0.From, .i x0.To, .i x0.Kind, .i x0.Body, .i x0.Epoch, .str x0.Data]), (102, .box 54 [.nil, .nil, .i 0]), (103, .box 59 [.i x_4.Body, .i x_4.Epoch, .i x_4.Phase, .i x_4.Peer, .str x_4.Data])]⟩) rfl ?_
      refine Tri.block ?_
      refine Tri.seq ?_
      refine Tri.regionL ?_
      refine OpsL.cons rfl (op_eql rfl rfl) ?_
      refine OpsL.cons rfl (op_assign rfl) ?_
      refine OpsL.nilK [0, 5, 6, 7, 8, 61, 62] [101, 102, 103] (s' := ⟨[(0, .b (.one (.sl 5 (l0.map eHolding)))), (5, .b (.ptr 101 0)), (6, .b (.ptr 102 0)), (7, .b (.ptr 103 0)), (8, B x_5), (61, I x0.Kind), (62, B (decide (x0.Kind = 1)))], [(101, .box 45 [.i x0.From, .i x0.To, .i x0.Kind, .i x0.Body, .i x0.Epoch, .str x0.Data]), (102, .box 54 [.nil, .nil, .i 0]), (103, .box 59 [.i x_4.Body, .i x_4.Epoch, .i x_4.Phase, .i x_4.Peer, .str x_4.Data])]⟩) rfl ?_
      refine Tri.ite h30 rfl (fun _ h30 => ?_) (fun _ h30 => ?_)
      · refine Tri.seq ?_
        refine Tri.seq ?_
        refine Tri.regionL ?_
        refine OpsL.cons rfl (op_field_p tyFld45_4 rfl rfl) ?_
        refine OpsL.cons rfl (op_load_p1 tyOne3 rfl rfl rfl) ?_
        refine OpsL.cons rfl (op_field_p tyFld59_1 rfl rfl) ?_
        refine OpsL.cons rfl (op_load_p1 tyOne3 rfl rfl rfl) ?_
        refine OpsL.cons rfl (op_gtr rfl rfl) ?_
        refine OpsL.cons rfl (op_move rfl) ?_
        refine OpsL.consG (decide (x_4.Epoch < x0.Epoch)) 99 [] (.plain rfl) (eq_t _) rfl rfl (fun g31 => trivial) (fun g31 => op_field_p tyFld59_2 rfl rfl) ?_
        refine OpsL.keep [0, 5, 6, 7, 8, 69, 70] [101, 102, 103] (s' := ⟨[(0, .b (.one (.sl 5 (l0.map eHolding)))), (5, .b (.ptr 101 0)), (6, .b (.ptr 102 0)), (7, .b (.ptr 103 0)), (8, B x_5), (69, B (decide (x_4.Epoch < x0.Epoch))), (70, .opt (decide (x_4.Epoch < x0.Epoch)) (.ptr 103 2))], [(101, .box 45 [.i x0.From, .i x0.To, .i x0.Kind, .i x0.Body, .i x0.Epoch, .str x0.Data]), (102, .box 54 [.nil, .nil, .i 0]), (103, .box 59 [.i x_4.Body, .i x_4.Epoch, .i x_4.Phase, .i x_4.Peer, .str x_4.Data])]⟩) rfl ?_
        refine OpsL.consG (decide (x_4.Epoch < x0.Epoch)) 99 [70] (.plain rfl) (eq_t _) rfl rfl (fun g32 => ⟨g32, trivial⟩) (fun g32 => op_load_p1 tyOne3 rfl rfl rfl) ?_
        refine OpsL.consG (decide (x_4.Epoch < x0.Epoch)) 99 [71] (.plain rfl) (eq_t _) rfl rfl (fun g33 => ⟨g33, trivial⟩) (fun g33 => op_eql rfl rfl) ?_
        refine OpsL.consG (decide (x_4.Epoch < x0.Epoch)) 99 [72] (.plain rfl) (eq_t _) rfl rfl (fun g34 => ⟨g34, trivial⟩) (fun g34 => op_move rfl) ?_
        refine OpsL.consG ((decide (x_4.Epoch < x0.Epoch)) && !(decide (x_4.Phase = 0))) 99 [] (.under rfl) (and_f _ _) rfl rfl (fun g35 => trivial) (fun g35 => op_field_p tyFld59_2 rfl rfl) ?_
        refine OpsL.consG ((decide (x_4.Epoch < x0.Epoch)) && !(decide (x_4.Phase = 0))) 99 [74] (.under rfl) (and_f _ _) rfl rfl (fun g36 => ⟨g36, trivial⟩) (fun g36 => op_load_p1 tyOne3 rfl rfl rfl) ?_
        refine OpsL.consG ((decide (x_4.Epoch < x0.Epoch)) && !(decide (x_4.Phase = 0))) 99 [75] (.under rfl) (and_f _ _) rfl rfl (fun g37 => ⟨g37, trivial⟩) (fun g37 => op_eql rfl rfl) ?_
        refine OpsL.consG (decide (x_4.Epoch < x0.Epoch)) 99 [73] (.plain rfl) (eq_t _) rfl rfl (fun g38 => ⟨g38, trivial⟩) (fun g38 => op_pick_or (fun e => by rw [g38, e]; rfl) rfl rfl rfl rfl) ?_
        refine OpsL.consG (decide (x_4.Epoch < x0.Epoch)) 99 [77] (.plain rfl) (eq_t _) rfl rfl (fun g39 => ⟨g39, trivial⟩) (fun g39 => op_move rfl) ?_
        refine OpsL.keep [0, 5, 6, 7, 8, 69, 78] [101, 102, 103] (s' := ⟨[(0, .b (.one (.sl 5 (l0.map eHolding)))), (5, .b (.ptr 101 0)), (6, .b (.ptr 102 0)), (7, .b (.ptr 103 0)), (8, B x_5), (69, B (decide (x_4.Epoch < x0.Epoch))), (78, .opt (decide (x_4.Epoch < x0.Epoch)) (.one (.bool ((decide (x_4.Phase = 0)) || (decide (x_4.Phase = 4))))))], [(101, .box 45 [.i x0.From, .i x0.To, .i x0.Kind, .i x0.Body, .i x0.Epoch, .str x0.Data]), (102, .box 54 [.nil, .nil, .i 0]), (103, .box 59 [.i x_4.Body, .i x_4.Epoch, .i x_4.Phase, .i x_4.Peer, .str x_4.Data])]⟩) rfl ?_
        refine OpsL.consG ((decide (x_4.Epoch < x0.Epoch)) && !((decide (x_4.Phase = 0)) || (decide (x_4.Phase = 4)))) 99 [] (.under rfl) (and_f _ _) rfl rfl (fun g40 => trivial) (fun g40 => op_field_p tyFld59_2 rfl rfl) ?_
        refine OpsL.consG ((decide (x_4.Epoch < x0.Epoch)) && !((decide (x_4.Phase = 0)) || (decide (x_4.Phase = 4)))) 99 [79] (.under rfl) (and_f _ _) rfl rfl (fun g41 => ⟨g41, trivial⟩) (fun g41 => op_load_p1 tyOne3 rfl rfl rfl) ?_
        refine OpsL.consG ((decide (x_4.Epoch < x0.Epoch)) && !((decide (x_4.Phase = 0)) || (decide (x_4.Phase = 4)))) 99 [80] (.under rfl) (and_f _ _) rfl rfl (fun g42 => ⟨g42, trivial⟩) (fun g42 => op_eql rfl rfl) ?_
        refine OpsL.consG (decide (x_4.Epoch < x0.Epoch)) 99 [78] (.plain rfl) (eq_t _) rfl rfl (fun g43 => ⟨g43, trivial⟩) (fun g43 => op_pick_or (fun e => by rw [g43, e]; rfl) rfl rfl rfl rfl) ?_
        refine OpsL.consB h30 rfl (op_pick_and (fun e => e) rfl rfl rfl rfl) (fun x_6 h30 => ?_)
        refine OpsL.nilK [0, 5, 6, 7, 8, 83] [101, 102, 103] (s' := ⟨[(0, .b (.one (.sl 5 (l0.map eHolding)))), (5, .b (.ptr 101 0)), (6, .b (.ptr 102 0)), (7, .b (.ptr 103 0)), (8, B x_5), (83, B x_6)], [(101, .box 45 [.i x0.From, .i x0.To, .i x0.Kind, .i x0.Body, .i x0.Epoch, .str x0.Data]), (102, .box 54 [.nil, .nil, .i 0]), (103, .box 59 [.i x_4.Body, .i x_4.Epoch, .i x_4.Phase, .i x_4.Peer, .str x_4.Data])]⟩) rfl ?_
        refine Tri.ite h30 rfl (fun _ h30 => ?_) (fun _ h30 => ?_)
        · refine Tri.seq ?_
          refine Tri.keep [0, 5, 6] [101, 102] (s' := ⟨[(0, .b (.one (.sl 5 (l0.map eHolding)))), (5, .b (.ptr 101 0)), (6, .b (.ptr 102 0))], [(101, .box 45 [.i x0.From, .i x0.To, .i x0.Kind, .i x0.Body, .i x0.Epoch, .str x0.Data]), (102, .box 54 [.nil, .nil, .i 0])]⟩) rfl ?_
          obtain ⟨x_7, e44, h30⟩ := bnd h30
          obtain ⟨x_8, e45, h30⟩ := bnd h30
          refine Tri.regionZ mixed [.b (.one (.sl 5 (l0.map eHolding))), .b (.ptr 101 3), I x0.Body, .b (.ptr 101 4), I x0.Epoch, .b (.ptr 101 0), I x0.From, .b (.ptr 101 5), .b (.one (.str x0.Data)), .b (.agg [.i x0.Body, .i x0.Epoch, .i 4, .i x0.From, .str x0.Data]), .b (.one (.sl 5 (x_7.map eHolding))), .b (.agg [.i x0.From, .i x0.To, .i x0.Kind, .i x0.Body, .i x0.Epoch, .str x0.Data]), .b (.one (.sl 6 (x_8.map eParcel))), .b (.agg [.sl 5 (x_7.map eHolding), .sl 6 (x_8.map eParcel), .i 0])] [6] [102] (s' := ⟨[(6, .b (.ptr 102 0))], [(102, .box 54 [.sl 5 (x_7.map eHolding), .sl 6 (x_8.map eParcel), .i 0])]⟩) (by simp) rfl rfl ⟨fun _ => .plain rfl (op_move rfl), fun _ => .plain rfl (op_field_p tyFld45_3 rfl rfl), fun _ => .plain rfl (op_load_p1 tyOne3 rfl rfl rfl), fun _ => .plain rfl (op_field_p tyFld45_4 rfl rfl), fun _ => .plain rfl (op_load_p1 tyOne3 rfl rfl rfl), fun _ => .plain rfl (op_field_p tyFld45_0 rfl rfl), fun _ => .plain rfl (op_load_p1 tyOne3 rfl rfl rfl), fun _ => .plain rfl (op_field_p tyFld45_5 rfl rfl), fun _ => .plain rfl (op_load_p1 tyOne9 rfl rfl rfl), fun _ => .plain rfl (op_build tyBuild59 rfl rfl), fun _ => .plain rfl (op_call0 (skewbackref41_set_spec 0 e44).persG goes49 rfl rfl), fun _ => .plain rfl (op_load_p tyAgg45 rfl rfl rfl rfl), fun _ => .plain rfl (op_call0 (skewbackref41_answer_spec 0 e45).persG goes54 rfl rfl), fun _ => .plain rfl (op_build tyBuild54 rfl rfl), trivial⟩ (.plain rfl (op_store_p tyAgg54 rfl rfl rfl rfl (Nat.le_of_ble_eq_true rfl) rfl)) rfl ?_
          refine Tri.ret ?_
          refine Fin.then_ret ?_
          refine Fin.block_ret ?_
          obtain rfl := Option.some.inj h30
          refine Fin.then_ret ?_
          obtain rfl := Option.some.inj h
          refine Fin.keep [6] [102] (s' := ⟨[(6, .b (.ptr 102 0))], [(102, .box 54 [.sl 5 (x_7.map eHolding), .sl 6 (x_8.map eParcel), .i 0])]⟩) rfl ?_
          refine Fin.result' [.agg [.sl 5 (x_7.map eHolding), .sl 6 (x_8.map eParcel), .i 0]] (.inl rfl) rfl (.cons (.agg tyAgg54 rfl rfl rfl rfl) .nil) ⟨rfl, rfl⟩
        · refine Tri.skip ?_
          refine Fin.keep [0, 5, 6, 7, 8] [101, 102, 103] (s' := ⟨[(0, .b (.one (.sl 5 (l0.map eHolding)))), (5, .b (.ptr 101 0)), (6, .b (.ptr 102 0)), (7, .b (.ptr 103 0)), (8, B x_5)], [(101, .box 45 [.i x0.From, .i x0.To, .i x0.Kind, .i x0.Body, .i x0.Epoch, .str x0.Data]), (102, .box 54 [.nil, .nil, .i 0]), (103, .box 59 [.i x_4.Body, .i x_4.Epoch, .i x_4.Phase, .i x_4.Peer, .str x_4.Data])]⟩) rfl ?_
          refine Fin.then ?_
          refine Tri.seq ?_
          refine Tri.regionL ?_
          refine OpsL.cons rfl (op_field_p tyFld59_2 rfl rfl) ?_
          refine OpsL.cons rfl (op_load_p1 tyOne3 rfl rfl rfl) ?_
          refine OpsL.cons rfl (op_eql rfl rfl) ?_
          refine OpsL.cons rfl (op_move rfl) ?_
          refine OpsL.consG (decide (x_4.Phase = 4)) 99 [] (.plain rfl) (eq_t _) rfl rfl (fun g46 => trivial) (fun g46 => op_move rfl) ?_
          refine OpsL.cons rfl (op_pick_and (fun e => e) rfl rfl rfl rfl) ?_
          refine OpsL.nilK [0, 5, 6, 103] [101, 102] (s' := ⟨[(0, .b (.one (.sl 5 (l0.map eHolding)))), (5, .b (.ptr 101 0)), (6, .b (.ptr 102 0)), (103, B ((decide (x_4.Phase = 4)) && x_5))], [(101, .box 45 [.i x0.From, .i x0.To, .i x0.Kind, .i x0.Body, .i x0.Epoch, .str x0.Data]), (102, .box 54 [.nil, .nil, .i 0])]⟩) rfl ?_
          refine Tri.ite h30 rfl (fun _ h30 => ?_) (fun _ h30 => ?_)
          · refine Tri.seq ?_
            refine Tri.regionL ?_
            refine OpsL.cons rfl (op_move rfl) ?_
            refine OpsL.cons rfl (op_load_p tyAgg45 rfl rfl rfl rfl) ?_
            obtain ⟨x_9, e47, h30⟩ := bnd h30
            refine OpsL.cons rfl (op_call (skewbackref41_answer_spec 106 e47) goes54 rfl trivial rfl rfl) ?_
            refine OpsL.persist 106 rfl ?_
            refine OpsL.cons rfl (op_build tyBuild54 rfl rfl) ?_
            refine OpsL.cons rfl (op_store_p tyAgg54 rfl rfl rfl rfl (Nat.le_of_ble_eq_true rfl) rfl) ?_
            refine OpsL.nilK [6] [102] (s' := ⟨[(6, .b (.ptr 102 0))], [(102, .box 54 [.sl 5 (l0.map eHolding), .sl 6 (x_9.map eParcel), .i 0])]⟩) rfl ?_
            refine Tri.ret ?_
            refine Fin.block_ret ?_
            obtain rfl := Option.some.inj h30
            refine Fin.then_ret ?_
            obtain rfl := Option.some.inj h
            refine Fin.keep [6] [102] (s' := ⟨[(6, .b (.ptr 102 0))], [(102, .box 54 [.sl 5 (l0.map eHolding), .sl 6 (x_9.map eParcel), .i 0])]⟩) rfl ?_
            refine Fin.result' [.agg [.sl 5 (l0.map eHolding), .sl 6 (x_9.map eParcel), .i 0]] (.inl rfl) rfl (.cons (.agg tyAgg54 rfl rfl rfl rfl) .nil) ⟨rfl, rfl⟩
          · refine Tri.skip ?_
            refine Fin.block_normal ?_
            exact Fin.join [0, 6] [102] () (Option.some.inj h30) rfl
      · refine Tri.seq ?_
        refine Tri.regionL ?_
        refine OpsL.cons rfl (op_eql rfl rfl) ?_
        refine OpsL.cons rfl (op_assign rfl) ?_
        refine OpsL.nilK [0, 5, 6, 7, 8, 61, 108] [101, 102, 103] (s' := ⟨[(0, .b (.one (.sl 5 (l0.map eHolding)))), (5, .b (.ptr 101 0)), (6, .b (.ptr 102 0)), (7, .b (.ptr 103 0)), (8, B x_5), (61, I x0.Kind), (108, B (decide (x0.Kind = 2)))], [(101, .box 45 [.i x0.From, .i x0.To, .i x0.Kind, .i x0.Body, .i x0.Epoch, .str x0.Data]), (102, .box 54 [.nil, .nil, .i 0]), (103, .box 59 [.i x_4.Body, .i x_4.Epoch, .i x_4.Phase, .i x_4.Peer, .str x_4.Data])]⟩) rfl ?_
        refine Tri.ite h30 rfl (fun _ h30 => ?_) (fun _ h30 => ?_)
        · refine Tri.seq ?_
          refine Tri.regionL ?_
          refine OpsL.cons rfl (op_field_p tyFld59_2 rfl rfl) ?_
          refine OpsL.cons rfl (op_load_p1 tyOne3 rfl rfl rfl) ?_
          refine OpsL.cons rfl (op_eql rfl rfl) ?_
          refine OpsL.cons rfl (op_move rfl) ?_
          refine OpsL.consG (decide (x_4.Phase = 2)) 99 [] (.plain rfl) (eq_t _) rfl rfl (fun g48 => trivial) (fun g48 => op_move rfl) ?_
          refine OpsL.cons rfl (op_pick_and (fun e => e) rfl rfl rfl rfl) ?_
          refine OpsL.nilK [0, 5, 6, 7, 115] [101, 102, 103] (s' := ⟨[(0, .b (.one (.sl 5 (l0.map eHolding)))), (5, .b (.ptr 101 0)), (6, .b (.ptr 102 0)), (7, .b (.ptr 103 0)), (115, B ((decide (x_4.Phase = 2)) && x_5))], [(101, .box 45 [.i x0.From, .i x0.To, .i x0.Kind, .i x0.Body, .i x0.Epoch, .str x0.Data]), (102, .box 54 [.nil, .nil, .i 0]), (103, .box 59 [.i x_4.Body, .i x_4.Epoch, .i x_4.Phase, .i x_4.Peer, .str x_4.Data])]⟩) rfl ?_
          refine Tri.ite h30 rfl (fun _ h30 => ?_) (fun _ h30 => ?_)
          · refine Tri.seq ?_
            refine Tri.regionL ?_
            refine OpsL.cons rfl (op_field_p tyFld59_2 rfl rfl) ?_
            refine OpsL.cons rfl (op_store_p1 tyOne3 rfl rfl rfl (Nat.le_of_ble_eq_true rfl) rfl) ?_
            refine OpsL.nilK [0, 5, 6, 7] [101, 102, 103] (s' := ⟨[(0, .b (.one (.sl 5 (l0.map eHolding)))), (5, .b (.ptr 101 0)), (6, .b (.ptr 102 0)), (7, .b (.ptr 103 0))], [(101, .box 45 [.i x0.From, .i x0.To, .i x0.Kind, .i x0.Body, .i x0.Epoch, .str x0.Data]), (102, .box 54 [.nil, .nil, .i 0]), (103, .box 59 [.i x_4.Body, .i x_4.Epoch, .i 3, .i x_4.Peer, .str x_4.Data])]⟩) rfl ?_
            refine Tri.seq ?_
            refine Tri.keep [0, 5, 6, 7] [101, 102, 103] (s' := ⟨[(0, .b (.one (.sl 5 (l0.map eHolding)))), (5, .b (.ptr 101 0)), (6, .b (.ptr 102 0)), (7, .b (.ptr 103 0))], [(101, .box 45 [.i x0.From, .i x0.To, .i x0.Kind, .i x0.Body, .i x0.Epoch, .str x0.Data]), (102, .box 54 [.nil, .nil, .i 0]), (103, .box 59 [.i x_4.Body, .i x_4.Epoch, .i 3, .i x_4.Peer, .str x_4.Data])]⟩) rfl ?_
            obtain ⟨x_10, e49, h30⟩ := bnd h30
            obtain ⟨x_11, e50, h30⟩ := bnd h30
            refine Tri.regionZ mixed [.b (.one (.sl 5 (l0.map eHolding))), .b (.agg [.i x_4.Body, .i x_4.Epoch, .i 3, .i x_4.Peer, .str x_4.Data]), .b (.one (.sl 5 (x_10.map eHolding))), .b (.agg [.i x0.From, .i x0.To, .i x0.Kind, .i x0.Body, .i x0.Epoch, .str x0.Data]), .b (.one (.sl 6 (x_11.map eParcel))), .b (.agg [.sl 5 (x_10.map eHolding), .sl 6 (x_11.map eParcel), .i 0])] [6] [102] (s' := ⟨[(6, .b (.ptr 102 0))], [(102, .box 54 [.sl 5 (x_10.map eHolding), .sl 6 (x_11.map eParcel), .i 0])]⟩) (by simp) rfl rfl ⟨fun _ => .plain rfl (op_move rfl), fun _ => .plain rfl (op_load_p tyAgg59 rfl rfl rfl rfl), fun _ => .plain rfl (op_call0 (skewbackref41_set_spec 0 e49).persG goes49 rfl rfl), fun _ => .plain rfl (op_load_p tyAgg45 rfl rfl rfl rfl), fun _ => .plain rfl (op_call0 (skewbackref41_answer_spec 0 e50).persG goes54 rfl rfl), fun _ => .plain rfl (op_build tyBuild54 rfl rfl), trivial⟩ (.plain rfl (op_store_p tyAgg54 rfl rfl rfl rfl (Nat.le_of_ble_eq_true rfl) rfl)) rfl ?_
            refine Tri.ret ?_
            refine Fin.block_ret ?_
            obtain rfl := Option.some.inj h30
            refine Fin.then_ret ?_
            obtain rfl := Option.some.inj h
            refine Fin.keep [6] [102] (s' := ⟨[(6, .b (.ptr 102 0))], [(102, .box 54 [.sl 5 (x_10.map eHolding), .sl 6 (x_11.map eParcel), .i 0])]⟩) rfl ?_
            refine Fin.result' [.agg [.sl 5 (x_10.map eHolding), .sl 6 (x_11.map eParcel), .i 0]] (.inl rfl) rfl (.cons (.agg tyAgg54 rfl rfl rfl rfl) .nil) ⟨rfl, rfl⟩
          · refine Tri.skip ?_
            refine Fin.block_normal ?_
            exact Fin.join [0, 6] [102] () (Option.some.inj h30) rfl
        · refine Tri.seq ?_
          refine Tri.regionL ?_
          refine OpsL.cons rfl (op_eql rfl rfl) ?_
          refine OpsL.cons rfl (op_assign rfl) ?_
          refine OpsL.nilK [0, 5, 6, 7, 8, 61, 123] [101, 102, 103] (s' := ⟨[(0, .b (.one (.sl 5 (l0.map eHolding)))), (5, .b (.ptr 101 0)), (6, .b (.ptr 102 0)), (7, .b (.ptr 103 0)), (8, B x_5), (61, I x0.Kind), (123, B (decide (x0.Kind = 3)))], [(101, .box 45 [.i x0.From, .i x0.To, .i x0.Kind, .i x0.Body, .i x0.Epoch, .str x0.Data]), (102, .box 54 [.nil, .nil, .i 0]), (103, .box 59 [.i x_4.Body, .i x_4.Epoch, .i x_4.Phase, .i x_4.Peer, .str x_4.Data])]⟩) rfl ?_
          refine Tri.ite h30 rfl (fun _ h30 => ?_) (fun _ h30 => ?_)
          · refine Tri.seq ?_
            refine Tri.seq ?_
            refine Tri.regionL ?_
            refine OpsL.cons rfl (op_field_p tyFld59_2 rfl rfl) ?_
            refine OpsL.cons rfl (op_load_p1 tyOne3 rfl rfl rfl) ?_
            refine OpsL.cons rfl (op_eql rfl rfl) ?_
            refine OpsL.cons rfl (op_move rfl) ?_
            refine OpsL.consG (decide (x_4.Phase = 4)) 99 [] (.plain rfl) (eq_t _) rfl rfl (fun g51 => trivial) (fun g51 => op_move rfl) ?_
            refine OpsL.cons rfl (op_pick_and (fun e => e) rfl rfl rfl rfl) ?_
            refine OpsL.nilK [0, 5, 6, 7, 130] [101, 102, 103] (s' := ⟨[(0, .b (.one (.sl 5 (l0.map eHolding)))), (5, .b (.ptr 101 0)), (6, .b (.ptr 102 0)), (7, .b (.ptr 103 0)), (130, B ((decide (x_4.Phase = 4)) && x_5))], [(101, .box 45 [.i x0.From, .i x0.To, .i x0.Kind, .i x0.Body, .i x0.Epoch, .str x0.Data]), (102, .box 54 [.nil, .nil, .i 0]), (103, .box 59 [.i x_4.Body, .i x_4.Epoch, .i x_4.Phase, .i x_4.Peer, .str x_4.Data])]⟩) rfl ?_
            refine Tri.ite h30 rfl (fun _ h30 => ?_) (fun _ h30 => ?_)
            · refine Tri.seq ?_
              refine Tri.keep [0, 5, 6, 7] [101, 102, 103] (s' := ⟨[(0, .b (.one (.sl 5 (l0.map eHolding)))), (5, .b (.ptr 101 0)), (6, .b (.ptr 102 0)), (7, .b (.ptr 103 0))], [(101, .box 45 [.i x0.From, .i x0.To, .i x0.Kind, .i x0.Body, .i x0.Epoch, .str x0.Data]), (102, .box 54 [.nil, .nil, .i 0]), (103, .box 59 [.i x_4.Body, .i x_4.Epoch, .i x_4.Phase, .i x_4.Peer, .str x_4.Data])]⟩) rfl ?_
              obtain ⟨x_12, e52, h30⟩ := bnd h30
              obtain ⟨x_13, e53, h30⟩ := bnd h30
              refine Tri.regionZ mixed [.b (.one (.sl 5 (l0.map eHolding))), .b (.ptr 101 3), I x0.Body, .b (.ptr 101 4), I x0.Epoch, .b (.ptr 103 4), .b (.one (.str x_4.Data)), .b (.agg [.i x0.Body, .i x0.Epoch, .i 1, .i 0, .str x_4.Data]), .b (.one (.sl 5 (x_12.map eHolding))), .b (.agg [.i x0.From, .i x0.To, .i x0.Kind, .i x0.Body, .i x0.Epoch, .str x0.Data]), .b (.one (.sl 6 (x_13.map eParcel))), .b (.agg [.sl 5 (x_12.map eHolding), .sl 6 (x_13.map eParcel), .i 0])] [6] [102] (s' := ⟨[(6, .b (.ptr 102 0))], [(102, .box 54 [.sl 5 (x_12.map eHolding), .sl 6 (x_13.map eParcel), .i 0])]⟩) (by simp) rfl rfl ⟨fun _ => .plain rfl (op_move rfl), fun _ => .plain rfl (op_field_p tyFld45_3 rfl rfl), fun _ => .plain rfl (op_load_p1 tyOne3 rfl rfl rfl), fun _ => .plain rfl (op_field_p tyFld45_4 rfl rfl), fun _ => .plain rfl (op_load_p1 tyOne3 rfl rfl rfl), fun _ => .plain rfl (op_field_p tyFld59_4 rfl rfl), fun _ => .plain rfl (op_load_p1 tyOne9 rfl rfl rfl), fun _ => .plain rfl (op_build tyBuild59 rfl rfl), fun _ => .plain rfl (op_call0 (skewbackref41_set_spec 0 e52).persG goes49 rfl rfl), fun _ => .plain rfl (op_load_p tyAgg45 rfl rfl rfl rfl), fun _ => .plain rfl (op_call0 (skewbackref41_answer_spec 0 e53).persG goes54 rfl rfl), fun _ => .plain rfl (op_build tyBuild54 rfl rfl), trivial⟩ (.plain rfl (op_store_p tyAgg54 rfl rfl rfl rfl (Nat.le_of_ble_eq_true rfl) rfl)) rfl ?_
              refine Tri.ret ?_
              refine Fin.then_ret ?_
              refine Fin.block_ret ?_
              obtain rfl := Option.some.inj h30
              refine Fin.then_ret ?_
              obtain rfl := Option.some.inj h
              refine Fin.keep [6] [102] (s' := ⟨[(6, .b (.ptr 102 0))], [(102, .box 54 [.sl 5 (x_12.map eHolding), .sl 6 (x_13.map eParcel), .i 0])]⟩) rfl ?_
              refine Fin.result' [.agg [.sl 5 (x_12.map eHolding), .sl 6 (x_13.map eParcel), .i 0]] (.inl rfl) rfl (.cons (.agg tyAgg54 rfl rfl rfl rfl) .nil) ⟨rfl, rfl⟩
            · refine Tri.skip ?_
              refine Fin.keep [0, 5, 6, 7] [101, 102, 103] (s' := ⟨[(0, .b (.one (.sl 5 (l0.map eHolding)))), (5, .b (.ptr 101 0)), (6, .b (.ptr 102 0)), (7, .b (.ptr 103 0))], [(101, .box 45 [.i x0.From, .i x0.To, .i x0.Kind, .i x0.Body, .i x0.Epoch, .str x0.Data]), (102, .box 54 [.nil, .nil, .i 0]), (103, .box 59 [.i x_4.Body, .i x_4.Epoch, .i x_4.Phase, .i x_4.Peer, .str x_4.Data])]⟩) rfl ?_
              refine Fin.then ?_
              refine Tri.seq ?_
              refine Tri.regionL ?_
              refine OpsL.cons rfl (op_field_p tyFld59_1 rfl rfl) ?_
              refine OpsL.cons rfl (op_load_p1 tyOne3 rfl rfl rfl) ?_
              refine OpsL.cons rfl (op_field_p tyFld45_4 rfl rfl) ?_
              refine OpsL.cons rfl (op_load_p1 tyOne3 rfl rfl rfl) ?_
              refine OpsL.cons rfl (op_gtr rfl rfl) ?_
              refine OpsL.cons rfl (op_move rfl) ?_
              refine OpsL.consG (!(decide (x0.Epoch < x_4.Epoch))) 99 [] (.plain rfl) (eq_f _) rfl rfl (fun g54 => trivial) (fun g54 => op_field_p tyFld59_1 rfl rfl) ?_
              refine OpsL.keep [0, 5, 6, 7, 148, 149] [101, 102, 103] (s' := ⟨[(0, .b (.one (.sl 5 (l0.map eHolding)))), (5, .b (.ptr 101 0)), (6, .b (.ptr 102 0)), (7, .b (.ptr 103 0)), (148, B (decide (x0.Epoch < x_4.Epoch))), (149, .opt (!(decide (x0.Epoch < x_4.Epoch))) (.ptr 103 1))], [(101, .box 45 [.i x0.From, .i x0.To, .i x0.Kind, .i x0.Body, .i x0.Epoch, .str x0.Data]), (102, .box 54 [.nil, .nil, .i 0]), (103, .box 59 [.i x_4.Body, .i x_4.Epoch, .i x_4.Phase, .i x_4.Peer, .str x_4.Data])]⟩) rfl ?_
              refine OpsL.consG (!(decide (x0.Epoch < x_4.Epoch))) 99 [149] (.plain rfl) (eq_f _) rfl rfl (fun g55 => ⟨g55, trivial⟩) (fun g55 => op_load_p1 tyOne3 rfl rfl rfl) ?_
              refine OpsL.consG (!(decide (x0.Epoch < x_4.Epoch))) 99 [] (.plain rfl) (eq_f _) rfl rfl (fun g56 => trivial) (fun g56 => op_field_p tyFld45_4 rfl rfl) ?_
              refine OpsL.consG (!(decide (x0.Epoch < x_4.Epoch))) 99 [151] (.plain rfl) (eq_f _) rfl rfl (fun g57 => ⟨g57, trivial⟩) (fun g57 => op_load_p1 tyOne3 rfl rfl rfl) ?_
              refine OpsL.consG (!(decide (x0.Epoch < x_4.Epoch))) 99 [150, 152] (.plain rfl) (eq_f _) rfl rfl (fun g58 => ⟨g58, g58, trivial⟩) (fun g58 => op_eql rfl rfl) ?_
              refine OpsL.consG (!(decide (x0.Epoch < x_4.Epoch))) 99 [153] (.plain rfl) (eq_f _) rfl rfl (fun g59 => ⟨g59, trivial⟩) (fun g59 => op_move rfl) ?_
              refine OpsL.consG ((!(decide (x0.Epoch < x_4.Epoch))) && (decide (x_4.Epoch = x0.Epoch))) 99 [] (.under rfl) (and_t _ _) rfl rfl (fun g60 => trivial) (fun g60 => op_field_p tyFld59_2 rfl rfl) ?_
              refine OpsL.consG ((!(decide (x0.Epoch < x_4.Epoch))) && (decide (x_4.Epoch = x0.Epoch))) 99 [155] (.under rfl) (and_t _ _) rfl rfl (fun g61 => ⟨g61, trivial⟩) (fun g61 => op_load_p1 tyOne3 rfl rfl rfl) ?_
              refine OpsL.consG ((!(decide (x0.Epoch < x_4.Epoch))) && (decide (x_4.Epoch = x0.Epoch))) 99 [156] (.under rfl) (and_t _ _) rfl rfl (fun g62 => ⟨g62, trivial⟩) (fun g62 => op_neq rfl rfl) ?_
              refine OpsL.consG (!(decide (x0.Epoch < x_4.Epoch))) 99 [154] (.plain rfl) (eq_f _) rfl rfl (fun g63 => ⟨g63, trivial⟩) (fun g63 => op_pick_and (fun e => by rw [g63, e]; rfl) rfl rfl rfl rfl) ?_
              refine OpsL.consB h30 rfl (op_pick_or (fun e => by rw [e]; rfl) rfl rfl rfl rfl) (fun x_14 h30 => ?_)
              refine OpsL.nilK [0, 5, 6, 159] [101, 102] (s' := ⟨[(0, .b (.one (.sl 5 (l0.map eHolding)))), (5, .b (.ptr 101 0)), (6, .b (.ptr 102 0)), (159, B x_14)], [(101, .box 45 [.i x0.From, .i x0.To, .i x0.Kind, .i x0.Body, .i x0.Epoch, .str x0.Data]), (102, .box 54 [.nil, .nil, .i 0])]⟩) rfl ?_
              refine Tri.ite h30 rfl (fun _ h30 => ?_) (fun _ h30 => ?_)
              · refine Tri.seq ?_
                refine Tri.regionL ?_
                refine OpsL.cons rfl (op_move rfl) ?_
                refine OpsL.cons rfl (op_load_p tyAgg45 rfl rfl rfl rfl) ?_
                obtain ⟨x_15, e64, h30⟩ := bnd h30
                refine OpsL.cons rfl (op_call (skewbackref41_answer_spec 111 e64) goes54 rfl trivial rfl rfl) ?_
                refine OpsL.persist 111 rfl ?_
                refine OpsL.cons rfl (op_build tyBuild54 rfl rfl) ?_
                refine OpsL.cons rfl (op_store_p tyAgg54 rfl rfl rfl rfl (Nat.le_of_ble_eq_true rfl) rfl) ?_
                refine OpsL.nilK [6] [102] (s' := ⟨[(6, .b (.ptr 102 0))], [(102, .box 54 [.sl 5 (l0.map eHolding), .sl 6 (x_15.map eParcel), .i 0])]⟩) rfl ?_
                refine Tri.ret ?_
                refine Fin.block_ret ?_
                obtain rfl := Option.some.inj h30
                refine Fin.then_ret ?_
                obtain rfl := Option.some.inj h
                refine Fin.keep [6] [102] (s' := ⟨[(6, .b (.ptr 102 0))], [(102, .box 54 [.sl 5 (l0.map eHolding), .sl 6 (x_15.map eParcel), .i 0])]⟩) rfl ?_
                refine Fin.result' [.agg [.sl 5 (l0.map eHolding), .sl 6 (x_15.map eParcel), .i 0]] (.inl rfl) rfl (.cons (.agg tyAgg54 rfl rfl rfl rfl) .nil) ⟨rfl, rfl⟩
              · refine Tri.skip ?_
                refine Fin.block_normal ?_
                exact Fin.join [0, 6] [102] () (Option.some.inj h30) rfl
          · refine Tri.seq ?_
            refine Tri.regionL ?_
            refine OpsL.cons rfl (op_eql rfl rfl) ?_
            refine OpsL.cons rfl (op_assign rfl) ?_
            refine OpsL.nilK [0, 5, 6, 7, 8, 164] [101, 102, 103] (s' := ⟨[(0, .b (.one (.sl 5 (l0.map eHolding)))), (5, .b (.ptr 101 0)), (6, .b (.ptr 102 0)), (7, .b (.ptr 103 0)), (8, B x_5), (164, B (decide (x0.Kind = 4)))], [(101, .box 45 [.i x0.From, .i x0.To, .i x0.Kind, .i x0.Body, .i x0.Epoch, .str x0.Data]), (102, .box 54 [.nil, .nil, .i 0]), (103, .box 59 [.i x_4.Body, .i x_4.Epoch, .i x_4.Phase, .i x_4.Peer, .str x_4.Data])]⟩) rfl ?_
            refine Tri.ite h30 rfl (fun _ h30 => ?_) (fun _ h30 => ?_)
            · refine Tri.seq ?_
              refine Tri.regionL ?_
              refine OpsL.cons rfl (op_field_p tyFld59_2 rfl rfl) ?_
              refine OpsL.cons rfl (op_load_p1 tyOne3 rfl rfl rfl) ?_
              refine OpsL.cons rfl (op_eql rfl rfl) ?_
              refine OpsL.cons rfl (op_move rfl) ?_
              refine OpsL.consG (decide (x_4.Phase = 3)) 99 [] (.plain rfl) (eq_t _) rfl rfl (fun g65 => trivial) (fun g65 => op_move rfl) ?_
              refine OpsL.cons rfl (op_pick_and (fun e => e) rfl rfl rfl rfl) ?_
              refine OpsL.nilK [0, 5, 6, 171] [101, 102] (s' := ⟨[(0, .b (.one (.sl 5 (l0.map eHolding)))), (5, .b (.ptr 101 0)), (6, .b (.ptr 102 0)), (171, B ((decide (x_4.Phase = 3)) && x_5))], [(101, .box 45 [.i x0.From, .i x0.To, .i x0.Kind, .i x0.Body, .i x0.Epoch, .str x0.Data]), (102, .box 54 [.nil, .nil, .i 0])]⟩) rfl ?_
              refine Tri.ite h30 rfl (fun _ h30 => ?_) (fun _ h30 => ?_)
              · refine Tri.seq ?_
                refine Tri.regionL ?_
                refine OpsL.cons rfl (op_move rfl) ?_
                refine OpsL.cons rfl (op_field_p tyFld45_3 rfl rfl) ?_
                refine OpsL.cons rfl (op_load_p1 tyOne3 rfl rfl rfl) ?_
                refine OpsL.cons rfl (op_field_p tyFld45_4 rfl rfl) ?_
                refine OpsL.cons rfl (op_load_p1 tyOne3 rfl rfl rfl) ?_
                refine OpsL.cons rfl (op_build tyBuild59 rfl rfl) ?_
                refine OpsL.keep [6, 172, 177] [102] (s' := ⟨[(6, .b (.ptr 102 0)), (172, .b (.one (.sl 5 (l0.map eHolding)))), (177, .b (.agg [.i x0.Body, .i x0.Epoch, .i 0, .i 0, .str []]))], [(102, .box 54 [.nil, .nil, .i 0])]⟩) rfl ?_
                obtain ⟨x_16, e66, h30⟩ := bnd h30
                refine OpsL.cons rfl (op_call (skewbackref41_set_spec 112 e66) goes49 rfl trivial rfl rfl) ?_
                refine OpsL.persist 112 rfl ?_
                refine OpsL.cons rfl (op_build tyBuild54 rfl rfl) ?_
                refine OpsL.cons rfl (op_store_p tyAgg54 rfl rfl rfl rfl (Nat.le_of_ble_eq_true rfl) rfl) ?_
                refine OpsL.nilK [6] [102] (s' := ⟨[(6, .b (.ptr 102 0))], [(102, .box 54 [.sl 5 (x_16.map eHolding), .nil, .i 0])]⟩) rfl ?_
                refine Tri.ret ?_
                refine Fin.block_ret ?_
                obtain rfl := Option.some.inj h30
                refine Fin.then_ret ?_
                obtain rfl := Option.some.inj h
                refine Fin.keep [6] [102] (s' := ⟨[(6, .b (.ptr 102 0))], [(102, .box 54 [.sl 5 (x_16.map eHolding), .nil, .i 0])]⟩) rfl ?_
                refine Fin.nilbox 102 1 6 rfl rfl (by decide) ?_
                refine Fin.result' [.agg [.sl 5 (x_16.map eHolding), .sl 6 ([].map eParcel), .i 0]] (.inl rfl) rfl (.cons (.agg tyAgg54 rfl rfl rfl rfl) .nil) ⟨rfl, rfl⟩
              · refine Tri.skip ?_
                refine Fin.block_normal ?_
                exact Fin.join [0, 6] [102] () (Option.some.inj h30) rfl
            · refine Tri.skip ?_
              refine Fin.block_normal ?_
              exact Fin.join [0, 6] [102] () (Option.some.inj h30) rfl
    · rintro _ hv
      subst v29
      refine Tri.seq ?_
      refine Tri.regionL ?_
      refine OpsL.cons rfl (op_move rfl) ?_
      refine OpsL.cons rfl (op_build tyBuild54 rfl rfl) ?_
      refine OpsL.cons rfl (op_store_p tyAgg54 rfl rfl rfl rfl (Nat.le_of_ble_eq_true rfl) rfl) ?_
      refine OpsL.nilK [6] [102] (s' := ⟨[(6, .b (.ptr 102 0))], [(102, .box 54 [.sl 5 (l0.map eHolding), .nil, .i 0])]⟩) rfl ?_
      refine Tri.ret ?_
      obtain rfl := Option.some.inj h
      refine Fin.keep [6] [102] (s' := ⟨[(6, .b (.ptr 102 0))], [(102, .box 54 [.sl 5 (l0.map eHolding), .nil, .i 0])]⟩) rfl ?_
      refine Fin.nilbox 102 1 6 rfl rfl (by decide) ?_
      refine Fin.result' [.agg [.sl 5 (l0.map eHolding), .sl 6 ([].map eParcel), .i 0]] (.inl rfl) rfl (.cons (.agg tyAgg54 rfl rfl rfl rfl) .nil) ⟨rfl, rfl⟩

def skewbackref41_SameLetters_S (F : Nat) (a0 : List Parcel) (b0 : List Parcel) : Option Bool :=
 if (decide ((a0.length : Int) ≠ (b0.length : Int))) = true then (some false) else (Option.bind (iter F (fun i_1 => if (decide (i_1 < (a0.length : Int))) = true then (Option.bind (idx? a0 i_1) (fun x_2 => Option.bind (idx? b0 i_1) (fun x_3 => if (decide (x_2 ≠ x_3)) = true then (some (.inr (.inr false))) else (some (.inl (IntKind.i64.wrap (i_1 + 1))))))) else (some (.inr (.inl ())))) 0) (alt2 (fun _ => some true) (fun y => some y)))
theorem skewbackref41_SameLetters_spec {F : Nat} {a0 : List Parcel} {b0 : List Parcel} {r : Bool} (h : skewbackref41_SameLetters_S F a0 b0 = some r) : Meets Try.prog 35 [] [.one (.sl 6 (a0.map eParcel)), .one (.sl 6 (b0.map eParcel))] (Is [] (.b (.one (.bool r)))) := by
  unfold skewbackref41_SameLetters_S at h
  refine Meets.intro 26 Try.func35 Try.ntmps35 rfl (by simp) fun E => ?_
  show Tri _ E ⟨26, [], []⟩ _ ⟨[(0, .b (.one (.sl 6 (a0.map eParcel)))), (1, .b (.one (.sl 6 (b0.map eParcel))))], []⟩ _
  refine Tri.seq ?_
  refine Tri.regionL ?_
  refine OpsL.cons rfl (op_assign rfl) ?_
  refine OpsL.nilK [0, 1] [] (s' := ⟨[(0, .b (.one (.sl 6 (a0.map eParcel)))), (1, .b (.one (.sl 6 (b0.map eParcel))))], []⟩) rfl ?_
  refine Tri.seq ?_
  refine Tri.seq ?_
  refine Tri.regionL ?_
  refine OpsL.cons rfl (op_move rfl) ?_
  refine OpsL.cons rfl (op_len_e' und38 rfl (List.length_map _)) ?_
  refine OpsL.cons rfl (op_move rfl) ?_
  refine OpsL.cons rfl (op_len_e' und38 rfl (List.length_map _)) ?_
  refine OpsL.cons rfl (op_neq rfl rfl) ?_
  refine OpsL.nilK [0, 1, 10] [] (s' := ⟨[(0, .b (.one (.sl 6 (a0.map eParcel)))), (1, .b (.one (.sl 6 (b0.map eParcel)))), (10, B (decide ((a0.length : Int) ≠ (b0.length : Int))))], []⟩) rfl ?_
  refine Tri.ite h rfl (fun _ h => ?_) (fun _ h => ?_)
  · refine Tri.seq ?_
    refine Tri.regionL ?_
    refine OpsL.cons rfl (op_assign rfl) ?_
    refine OpsL.nilK [4] [] (s' := ⟨[(4, B false)], []⟩) rfl ?_
    refine Tri.ret ?_
    refine Fin.then_ret ?_
    obtain rfl := Option.some.inj h
    refine Fin.keep [4] [] (s' := ⟨[(4, B false)], []⟩) rfl ?_
    refine Fin.result' [.one (.bool false)] (.inl rfl) rfl (.cons (.tmp rfl) .nil) ⟨rfl, rfl⟩
  · refine Tri.skip ?_
    refine Fin.keep [0, 1] [] (s' := ⟨[(0, .b (.one (.sl 6 (a0.map eParcel)))), (1, .b (.one (.sl 6 (b0.map eParcel))))], []⟩) rfl ?_
    refine Fin.then ?_
    obtain ⟨v1, h2, h⟩ := bnd h
    refine Tri.seqJ (v := v1) (fun (_ : Unit) => ⟨[], []⟩) (fun z => .inl z) ?_ ?_
    · refine Tri.seq ?_
      refine Tri.regionL ?_
      refine OpsL.cons rfl (op_assign rfl) ?_
      refine OpsL.nilK [0, 1, 5] [] (s' := ⟨[(0, .b (.one (.sl 6 (a0.map eParcel)))), (1, .b (.one (.sl 6 (b0.map eParcel)))), (5, I 0)], []⟩) rfl ?_
      refine Tri.block ?_
      refine Tri.loopJ h2 (fun (i_1 : Int) => ⟨[(0, .b (.one (.sl 6 (a0.map eParcel)))), (1, .b (.one (.sl 6 (b0.map eParcel)))), (5, I i_1)], []⟩) [0, 1, 5] [] rfl ?_
      rintro i_1 o3 h4 hy5
      refine Tri.seq ?_
      refine Tri.seq ?_
      refine Tri.regionL ?_
      refine OpsL.cons rfl (op_move rfl) ?_
      refine OpsL.cons rfl (op_move rfl) ?_
      refine OpsL.cons rfl (op_len_e' und38 rfl (List.length_map _)) ?_
      refine OpsL.cons rfl (op_lss rfl rfl) ?_
      refine OpsL.nilK [0, 1, 5, 14] [] (s' := ⟨[(0, .b (.one (.sl 6 (a0.map eParcel)))), (1, .b (.one (.sl 6 (b0.map eParcel)))), (5, I i_1), (14, B (decide (i_1 < (a0.length : Int))))], []⟩) rfl ?_
      refine Tri.ite h4 rfl (fun _ h4 => ?_) (fun _ h4 => ?_)
      · refine Tri.skip ?_
        refine Fin.keep [0, 1, 5] [] (s' := ⟨[(0, .b (.one (.sl 6 (a0.map eParcel)))), (1, .b (.one (.sl 6 (b0.map eParcel)))), (5, I i_1)], []⟩) rfl ?_
        refine Fin.then ?_
        refine Tri.seq ?_
        refine Tri.block ?_
        refine Tri.seq ?_
        refine Tri.keep [0, 1, 5] [] (s' := ⟨[(0, .b (.one (.sl 6 (a0.map eParcel)))), (1, .b (.one (.sl 6 (b0.map eParcel)))), (5, I i_1)], []⟩) rfl ?_
        obtain ⟨x_2, e6, h4⟩ := bnd h4
        obtain ⟨x_3, e7, h4⟩ := bnd h4
        refine Tri.regionD mixed [.b (.one (.sl 6 (a0.map eParcel))), I i_1, .b (.eptr [.i x_2.From, .i x_2.To, .i x_2.Kind, .i x_2.Body, .i x_2.Epoch, .str x_2.Data]), .b (.agg [.i x_2.From, .i x_2.To, .i x_2.Kind, .i x_2.Body, .i x_2.Epoch, .str x_2.Data]), .b (.one (.sl 6 (b0.map eParcel))), I i_1, .b (.eptr [.i x_3.From, .i x_3.To, .i x_3.Kind, .i x_3.Body, .i x_3.Epoch, .str x_3.Data]), .b (.agg [.i x_3.From, .i x_3.To, .i x_3.Kind, .i x_3.Body, .i x_3.Epoch, .str x_3.Data]), B (decide (x_2 ≠ x_3))] [0, 1, 5, 25] [] (s' := ⟨[(0, .b (.one (.sl 6 (a0.map eParcel)))), (1, .b (.one (.sl 6 (b0.map eParcel)))), (5, I i_1), (25, B (decide (x_2 ≠ x_3)))], []⟩) rfl ⟨fun _ => .plain rfl (op_move rfl), fun _ => .plain rfl (op_move rfl), fun _ => .plain rfl (op_index_e tySl38 (ix_lo e6) (ix_map (e := eParcel) e6) rfl rfl), fun _ => .plain rfl (op_load_e tyAgg45 rfl rfl rfl), fun _ => .plain rfl (op_move rfl), fun _ => .plain rfl (op_move rfl), fun _ => .plain rfl (op_index_e tySl38 (ix_lo e7) (ix_map (e := eParcel) e7) rfl rfl), fun _ => .plain rfl (op_load_e tyAgg45 rfl rfl rfl), fun _ => .plain rfl (op_neq_agg (eqAgg45 x_2 x_3) rfl rfl neg_dec), trivial⟩ rfl ?_
        refine Tri.ite h4 rfl (fun _ h4 => ?_) (fun _ h4 => ?_)
        · refine Tri.seq ?_
          refine Tri.regionL ?_
          refine OpsL.cons rfl (op_assign rfl) ?_
          refine OpsL.nilK [4] [] (s' := ⟨[(4, B false)], []⟩) rfl ?_
          refine Tri.ret ?_
          refine Fin.block_ret ?_
          refine Fin.then_ret ?_
          obtain rfl := hy5 _ (Option.some.inj h4).symm
          refine Fin.then_ret ?_
          refine Fin.block_ret ?_
          refine Fin.then_ret ?_
          obtain rfl := Option.some.inj h
          refine Fin.keep [4] [] (s' := ⟨[(4, B false)], []⟩) rfl ?_
          refine Fin.result' [.one (.bool false)] (.inl rfl) rfl (.cons (.tmp rfl) .nil) ⟨rfl, rfl⟩
        · refine Tri.skip ?_
          refine Fin.block_normal ?_
          refine Fin.keep [0, 1, 5] [] (s' := ⟨[(0, .b (.one (.sl 6 (a0.map eParcel)))), (1, .b (.one (.sl 6 (b0.map eParcel)))), (5, I i_1)], []⟩) rfl ?_
          refine Fin.then ?_
          refine Tri.regionL ?_
          refine OpsL.cons rfl (op_move rfl) ?_
          refine OpsL.cons rfl (op_add rfl rfl) ?_
          refine OpsL.cons rfl (op_assign rfl) ?_
          refine OpsL.nil ?_
          exact Fin.againJ [0, 1, 5] [] (IntKind.i64.wrap (i_1 + 1)) (Option.some.inj h4) rfl
      · refine Tri.exit ?_
        refine Fin.then_exit ?_
        obtain rfl := hy5 _ (Option.some.inj h4).symm
        refine Fin.then_exit ?_
        refine Fin.block_exit ?_
        exact Fin.join [] [] () rfl rfl
    · rintro _ hv
      subst v1
      refine Tri.seq ?_
      refine Tri.regionL ?_
      refine OpsL.cons rfl (op_assign rfl) ?_
      refine OpsL.nilK [4] [] (s' := ⟨[(4, B true)], []⟩) rfl ?_
      refine Tri.ret ?_
      obtain rfl := Option.some.inj h
      refine Fin.keep [4] [] (s' := ⟨[(4, B true)], []⟩) rfl ?_
      refine Fin.result' [.one (.bool true)] (.inl rfl) rfl (.cons (.tmp rfl) .nil) ⟨rfl, rfl⟩

def skewbackref41_Letters_S (F : Nat) (l0 : List Holding) (from0 : Int) : Option (List Parcel) :=
 Option.bind (iter F (un2 fun out_2 i_3 => if (decide (i_3 < (l0.length : Int))) = true then (Option.bind (Option.bind (idx? l0 i_3) (fun x_6 => if (decide (x_6.Phase = 2)) = true then (Option.bind (app? out_2 [(⟨from0, x_6.Peer, 1, x_6.Body, x_6.Epoch, x_6.Data⟩ : Parcel)]) (fun x_7 => some x_7)) else (if (decide (x_6.Phase = 3)) = true then (Option.bind (app? out_2 [(⟨from0, x_6.Peer, 3, x_6.Body, x_6.Epoch, []⟩ : Parcel)]) (fun x_8 => some x_8)) else (some out_2)))) (fun out_5 => some (.inl (out_5, IntKind.i64.wrap (i_3 + 1))))) else (some (.inr out_2))) ([], 0)) (fun out_1 => some out_1)
theorem skewbackref41_Letters_spec (k0 : Nat) {F : Nat} {l0 : List Holding} {from0 : Int} {r : (List Parcel)} (h : skewbackref41_Letters_S F l0 from0 = some r) : Meets Try.prog 36 [] [.one (.sl 5 (l0.map eHolding)), .one (.i from0)] (Is [(k0, .row 45 6 (r.map eParcel))] (.b (.row k0))) := by
  unfold skewbackref41_Letters_S at h
  refine Meets.intro 49 Try.func36 Try.ntmps36 rfl (by simp) fun E => ?_
  show Tri _ E ⟨49, [], []⟩ _ ⟨[(0, .b (.one (.sl 5 (l0.map eHolding)))), (1, I from0)], []⟩ _
  refine Tri.seq ?_
  refine Tri.regionL ?_
  refine OpsL.cons rfl (op_assign rfl) ?_
  refine OpsL.nilK [0, 1] [] (s' := ⟨[(0, .b (.one (.sl 5 (l0.map eHolding)))), (1, I from0)], []⟩) rfl ?_
  refine Tri.seq ?_
  refine Tri.regionL ?_
  refine OpsL.cons rfl (op_assign rfl) ?_
  refine OpsL.nilK [0, 1, 5] [] (s' := ⟨[(0, .b (.one (.sl 5 (l0.map eHolding)))), (1, I from0), (5, .b (.one (.nil)))], []⟩) rfl ?_
  obtain ⟨v1, h2, h⟩ := bnd h
  refine Tri.seqJ (v := v1) (fun (out_1 : List Parcel) => ⟨[(5, .b (.row 103))], [(103, .row 45 6 (out_1.map eParcel))]⟩) (fun z => z) ?_ ?_
  · refine Tri.seq ?_
    refine Tri.regionL ?_
    refine OpsL.cons rfl (op_assign rfl) ?_
    refine OpsL.nilK [0, 1, 5, 6] [] (s' := ⟨[(0, .b (.one (.sl 5 (l0.map eHolding)))), (1, I from0), (5, .b (.one (.nil))), (6, I 0)], []⟩) rfl ?_
    refine Tri.block ?_
    refine Tri.keep [0, 1, 5, 6] [] (s' := ⟨[(0, .b (.one (.sl 5 (l0.map eHolding)))), (1, I from0), (5, .b (.one (.nil))), (6, I 0)], []⟩) rfl ?_
    refine Tri.nilrow 5 103 6 45 rfl (by decide) rfl ?_
    refine Tri.loopJ h2 (un2 fun (out_2 : List Parcel) (i_3 : Int) => ⟨[(0, .b (.one (.sl 5 (l0.map eHolding)))), (1, I from0), (5, .b (.row 103)), (6, I i_3)], [(103, .row 45 6 (out_2.map eParcel))]⟩) [0, 1, 5, 6] [103] rfl ?_
    rintro ⟨out_2, i_3⟩ o3 h4 hy5
    refine Tri.seq ?_
    refine Tri.seq ?_
    refine Tri.regionL ?_
    refine OpsL.cons rfl (op_move rfl) ?_
    refine OpsL.cons rfl (op_move rfl) ?_
    refine OpsL.cons rfl (op_len_e' und42 rfl (List.length_map _)) ?_
    refine OpsL.cons rfl (op_lss rfl rfl) ?_
    refine OpsL.nilK [0, 1, 5, 6, 11] [103] (s' := ⟨[(0, .b (.one (.sl 5 (l0.map eHolding)))), (1, I from0), (5, .b (.row 103)), (6, I i_3), (11, B (decide (i_3 < (l0.length : Int))))], [(103, .row 45 6 (out_2.map eParcel))]⟩) rfl ?_
    refine Tri.ite h4 rfl (fun _ h4 => ?_) (fun _ h4 => ?_)
    · refine Tri.skip ?_
      refine Fin.keep [0, 1, 5, 6] [103] (s' := ⟨[(0, .b (.one (.sl 5 (l0.map eHolding)))), (1, I from0), (5, .b (.row 103)), (6, I i_3)], [(103, .row 45 6 (out_2.map eParcel))]⟩) rfl ?_
      refine Fin.then ?_
      obtain ⟨v6, h7, h4⟩ := bnd h4
      refine Tri.seqJ (v := v6) (fun (out_5 : List Parcel) => ⟨[(0, .b (.one (.sl 5 (l0.map eHolding)))), (1, I from0), (5, .b (.row 103)), (6, I i_3)], [(103, .row 45 6 (out_5.map eParcel))]⟩) (fun z => z) ?_ ?_
      · refine Tri.block ?_
        refine Tri.seq ?_
        refine Tri.regionL ?_
        refine OpsL.cons rfl (op_move rfl) ?_
        refine OpsL.cons rfl (op_move rfl) ?_
        obtain ⟨x_6, e8, h7⟩ := bnd h7
        refine OpsL.cons rfl (op_index_e tySl42 (ix_lo e8) (ix_map (e := eHolding) e8) rfl rfl) ?_
        refine OpsL.cons rfl (op_load_e tyAgg59 rfl rfl rfl) ?_
        refine OpsL.cons rfl (op_alloc (k := 104) tyZero59 rfl) ?_
        refine OpsL.cons rfl (op_store_p tyAgg59 rfl rfl rfl rfl (Nat.le_of_ble_eq_true rfl) rfl) ?_
        refine OpsL.nilK [0, 1, 5, 6, 7] [103, 104] (s' := ⟨[(0, .b (.one (.sl 5 (l0.map eHolding)))), (1, I from0), (5, .b (.row 103)), (6, I i_3), (7, .b (.ptr 104 0))], [(103, .row 45 6 (out_2.map eParcel)), (104, .box 59 [.i x_6.Body, .i x_6.Epoch, .i x_6.Phase, .i x_6.Peer, .str x_6.Data])]⟩) rfl ?_
        refine Tri.seq ?_
        refine Tri.regionL ?_
        refine OpsL.cons rfl (op_field_p tyFld59_2 rfl rfl) ?_
        refine OpsL.cons rfl (op_load_p1 tyOne3 rfl rfl rfl) ?_
        refine OpsL.nilK [0, 1, 5, 6, 7, 19] [103, 104] (s' := ⟨[(0, .b (.one (.sl 5 (l0.map eHolding)))), (1, I from0), (5, .b (.row 103)), (6, I i_3), (7, .b (.ptr 104 0)), (19, I x_6.Phase)], [(103, .row 45 6 (out_2.map eParcel)), (104, .box 59 [.i x_6.Body, .i x_6.Epoch, .i x_6.Phase, .i x_6.Peer, .str x_6.Data])]⟩) rfl ?_
        refine Tri.block ?_
        refine Tri.seq ?_
        refine Tri.regionL ?_
        refine OpsL.cons rfl (op_eql rfl rfl) ?_
        refine OpsL.cons rfl (op_assign rfl) ?_
        refine OpsL.nilK [0, 1, 5, 6, 7, 19, 20] [103, 104] (s' := ⟨[(0, .b (.one (.sl 5 (l0.map eHolding)))), (1, I from0), (5, .b (.row 103)), (6, I i_3), (7, .b (.ptr 104 0)), (19, I x_6.Phase), (20, B (decide (x_6.Phase = 2)))], [(103, .row 45 6 (out_2.map eParcel)), (104, .box 59 [.i x_6.Body, .i x_6.Epoch, .i x_6.Phase, .i x_6.Peer, .str x_6.Data])]⟩) rfl ?_
        refine Tri.ite h7 rfl (fun _ h7 => ?_) (fun _ h7 => ?_)
        · refine Tri.regionL ?_
          refine OpsL.cons rfl (op_move rfl) ?_
          refine OpsL.cons rfl (op_move rfl) ?_
          refine OpsL.cons rfl (op_field_p tyFld59_3 rfl rfl) ?_
          refine OpsL.cons rfl (op_load_p1 tyOne3 rfl rfl rfl) ?_
          refine OpsL.cons rfl (op_field_p tyFld59_0 rfl rfl) ?_
          refine OpsL.cons rfl (op_load_p1 tyOne3 rfl rfl rfl) ?_
          refine OpsL.cons rfl (op_field_p tyFld59_1 rfl rfl) ?_
          refine OpsL.keep [0, 1, 5, 6, 7, 22, 23, 25, 27, 28] [103, 104] (s' := ⟨[(0, .b (.one (.sl 5 (l0.map eHolding)))), (1, I from0), (5, .b (.row 103)), (6, I i_3), (7, .b (.ptr 104 0)), (22, .b (.row 103)), (23, I from0), (25, I x_6.Peer), (27, I x_6.Body), (28, .b (.ptr 104 1))], [(103, .row 45 6 (out_2.map eParcel)), (104, .box 59 [.i x_6.Body, .i x_6.Epoch, .i x_6.Phase, .i x_6.Peer, .str x_6.Data])]⟩) rfl ?_
          refine OpsL.cons rfl (op_load_p1 tyOne3 rfl rfl rfl) ?_
          refine OpsL.cons rfl (op_field_p tyFld59_4 rfl rfl) ?_
          refine OpsL.cons rfl (op_load_p1 tyOne9 rfl rfl rfl) ?_
          refine OpsL.cons rfl (op_build tyBuild45 rfl rfl) ?_
          refine OpsL.cons rfl (op_buildSlice (k := 105) (es := [(⟨from0, x_6.Peer, 1, x_6.Body, x_6.Epoch, x_6.Data⟩ : Parcel)].map eParcel) tySl38 rfl rfl (uni_map fun _ => rfl) rfl (by decide) (by decide) rfl) ?_
          obtain ⟨x_7, e9, h7⟩ := bnd h7
          refine OpsL.cons rfl (op_append_r tySl38 (app_b e9) (app_m e9) rfl rfl rfl rfl (app_map e9) rfl) ?_
          refine OpsL.cons rfl (op_assign rfl) ?_
          refine OpsL.nil ?_
          refine Fin.block_normal ?_
          refine Fin.block_normal ?_
          exact Fin.join [0, 1, 5, 6] [103] x_7 (Option.some.inj h7) rfl
        · refine Tri.seq ?_
          refine Tri.regionL ?_
          refine OpsL.cons rfl (op_eql rfl rfl) ?_
          refine OpsL.cons rfl (op_assign rfl) ?_
          refine OpsL.nilK [0, 1, 5, 6, 7, 35] [103, 104] (s' := ⟨[(0, .b (.one (.sl 5 (l0.map eHolding)))), (1, I from0), (5, .b (.row 103)), (6, I i_3), (7, .b (.ptr 104 0)), (35, B (decide (x_6.Phase = 3)))], [(103, .row 45 6 (out_2.map eParcel)), (104, .box 59 [.i x_6.Body, .i x_6.Epoch, .i x_6.Phase, .i x_6.Peer, .str x_6.Data])]⟩) rfl ?_
          refine Tri.ite h7 rfl (fun _ h7 => ?_) (fun _ h7 => ?_)
          · refine Tri.regionL ?_
            refine OpsL.cons rfl (op_move rfl) ?_
            refine OpsL.cons rfl (op_move rfl) ?_
            refine OpsL.cons rfl (op_field_p tyFld59_3 rfl rfl) ?_
            refine OpsL.cons rfl (op_load_p1 tyOne3 rfl rfl rfl) ?_
            refine OpsL.cons rfl (op_field_p tyFld59_0 rfl rfl) ?_
            refine OpsL.cons rfl (op_load_p1 tyOne3 rfl rfl rfl) ?_
            refine OpsL.cons rfl (op_field_p tyFld59_1 rfl rfl) ?_
            refine OpsL.keep [0, 1, 5, 6, 37, 38, 40, 42, 43] [103, 104] (s' := ⟨[(0, .b (.one (.sl 5 (l0.map eHolding)))), (1, I from0), (5, .b (.row 103)), (6, I i_3), (37, .b (.row 103)), (38, I from0), (40, I x_6.Peer), (42, I x_6.Body), (43, .b (.ptr 104 1))], [(103, .row 45 6 (out_2.map eParcel)), (104, .box 59 [.i x_6.Body, .i x_6.Epoch, .i x_6.Phase, .i x_6.Peer, .str x_6.Data])]⟩) rfl ?_
            refine OpsL.cons rfl (op_load_p1 tyOne3 rfl rfl rfl) ?_
            refine OpsL.cons rfl (op_build tyBuild45 rfl rfl) ?_
            refine OpsL.cons rfl (op_buildSlice (k := 106) (es := [(⟨from0, x_6.Peer, 3, x_6.Body, x_6.Epoch, []⟩ : Parcel)].map eParcel) tySl38 rfl rfl (uni_map fun _ => rfl) rfl (by decide) (by decide) rfl) ?_
            obtain ⟨x_8, e10, h7⟩ := bnd h7
            refine OpsL.cons rfl (op_append_r tySl38 (app_b e10) (app_m e10) rfl rfl rfl rfl (app_map e10) rfl) ?_
            refine OpsL.cons rfl (op_assign rfl) ?_
            refine OpsL.nil ?_
            refine Fin.block_normal ?_
            refine Fin.block_normal ?_
            exact Fin.join [0, 1, 5, 6] [103] x_8 (Option.some.inj h7) rfl
          · refine Tri.skip ?_
            refine Fin.block_normal ?_
            refine Fin.block_normal ?_
            exact Fin.join [0, 1, 5, 6] [103] out_2 (Option.some.inj h7) rfl
      · rintro out_5 hv
        subst v6
        refine Tri.regionL ?_
        refine OpsL.cons rfl (op_move rfl) ?_
        refine OpsL.cons rfl (op_add rfl rfl) ?_
        refine OpsL.cons rfl (op_assign rfl) ?_
        refine OpsL.nil ?_
        exact Fin.againJ [0, 1, 5, 6] [103] (out_5, IntKind.i64.wrap (i_3 + 1)) (Option.some.inj h4) rfl
    · refine Tri.exit ?_
      refine Fin.then_exit ?_
      obtain rfl := hy5 _ (Option.some.inj h4).symm
      refine Fin.then_exit ?_
      refine Fin.block_exit ?_
      exact Fin.join [5] [103] out_2 rfl rfl
  · rintro out_1 hv
    subst v1
    refine Tri.seq ?_
    refine Tri.regionL ?_
    refine OpsL.cons rfl (op_move rfl) ?_
    refine OpsL.cons rfl (op_assign rfl) ?_
    refine OpsL.nilK [4] [103] (s' := ⟨[(4, .b (.row 103))], [(103, .row 45 6 (out_1.map eParcel))]⟩) rfl ?_
    refine Tri.ret ?_
    obtain rfl := Option.some.inj h
    refine Fin.keep [4] [103] (s' := ⟨[(4, .b (.row 103))], [(103, .row 45 6 (out_1.map eParcel))]⟩) rfl ?_
    refine Fin.resultK 103 k0 [.row 103] (.inl rfl) rfl (.cons (.tmp rfl) .nil) rfl rfl rfl rfl ⟨rfl, rfl⟩

def skewbackref41_Active_S (F : Nat) (l0 : List Holding) : Option (List Int) :=
 Option.bind (iter F (un2 fun out_2 i_3 => if (decide (i_3 < (l0.length : Int))) = true then (Option.bind (Option.bind (idx? l0 i_3) (fun x_6 => if (decide (x_6.Phase = 1)) = true then (Option.bind (idx? l0 i_3) (fun x_7 => Option.bind (app? out_2 [x_7.Body]) (fun x_8 => some x_8))) else (some out_2))) (fun out_5 => some (.inl (out_5, IntKind.i64.wrap (i_3 + 1))))) else (some (.inr out_2))) ([], 0)) (fun out_1 => some out_1)
theorem skewbackref41_Active_spec (k0 : Nat) {F : Nat} {l0 : List Holding} {r : (List Int)} (h : skewbackref41_Active_S F l0 = some r) : Meets Try.prog 38 [] [.one (.sl 5 (l0.map eHolding))] (Is [(k0, .row 3 1 (r.map eI))] (.b (.row k0))) := by
  unfold skewbackref41_Active_S at h
  refine Meets.intro 26 Try.func38 Try.ntmps38 rfl (by simp) fun E => ?_
  show Tri _ E ⟨26, [], []⟩ _ ⟨[(0, .b (.one (.sl 5 (l0.map eHolding))))], []⟩ _
  refine Tri.seq ?_
  refine Tri.regionL ?_
  refine OpsL.cons rfl (op_assign rfl) ?_
  refine OpsL.nilK [0] [] (s' := ⟨[(0, .b (.one (.sl 5 (l0.map eHolding))))], []⟩) rfl ?_
  refine Tri.seq ?_
  refine Tri.regionL ?_
  refine OpsL.cons rfl (op_assign rfl) ?_
  refine OpsL.nilK [0, 3] [] (s' := ⟨[(0, .b (.one (.sl 5 (l0.map eHolding)))), (3, .b (.one (.nil)))], []⟩) rfl ?_
  obtain ⟨v1, h2, h⟩ := bnd h
  refine Tri.seqJ (v := v1) (fun (out_1 : List Int) => ⟨[(3, .b (.row 102))], [(102, .row 3 1 (out_1.map eI))]⟩) (fun z => z) ?_ ?_
  · refine Tri.seq ?_
    refine Tri.regionL ?_
    refine OpsL.cons rfl (op_assign rfl) ?_
    refine OpsL.nilK [0, 3, 4] [] (s' := ⟨[(0, .b (.one (.sl 5 (l0.map eHolding)))), (3, .b (.one (.nil))), (4, I 0)], []⟩) rfl ?_
    refine Tri.block ?_
    refine Tri.keep [0, 3, 4] [] (s' := ⟨[(0, .b (.one (.sl 5 (l0.map eHolding)))), (3, .b (.one (.nil))), (4, I 0)], []⟩) rfl ?_
    refine Tri.nilrow 3 102 1 3 rfl (by decide) rfl ?_
    refine Tri.loopJ h2 (un2 fun (out_2 : List Int) (i_3 : Int) => ⟨[(0, .b (.one (.sl 5 (l0.map eHolding)))), (3, .b (.row 102)), (4, I i_3)], [(102, .row 3 1 (out_2.map eI))]⟩) [0, 3, 4] [102] rfl ?_
    rintro ⟨out_2, i_3⟩ o3 h4 hy5
    refine Tri.seq ?_
    refine Tri.seq ?_
    refine Tri.regionL ?_
    refine OpsL.cons rfl (op_move rfl) ?_
    refine OpsL.cons rfl (op_move rfl) ?_
    refine OpsL.cons rfl (op_len_e' und42 rfl (List.length_map _)) ?_
    refine OpsL.cons rfl (op_lss rfl rfl) ?_
    refine OpsL.nilK [0, 3, 4, 8] [102] (s' := ⟨[(0, .b (.one (.sl 5 (l0.map eHolding)))), (3, .b (.row 102)), (4, I i_3), (8, B (decide (i_3 < (l0.length : Int))))], [(102, .row 3 1 (out_2.map eI))]⟩) rfl ?_
    refine Tri.ite h4 rfl (fun _ h4 => ?_) (fun _ h4 => ?_)
    · refine Tri.skip ?_
      refine Fin.keep [0, 3, 4] [102] (s' := ⟨[(0, .b (.one (.sl 5 (l0.map eHolding)))), (3, .b (.row 102)), (4, I i_3)], [(102, .row 3 1 (out_2.map eI))]⟩) rfl ?_
      refine Fin.then ?_
      obtain ⟨v6, h7, h4⟩ := bnd h4
      refine Tri.seqJ (v := v6) (fun (out_5 : List Int) => ⟨[(0, .b (.one (.sl 5 (l0.map eHolding)))), (3, .b (.row 102)), (4, I i_3)], [(102, .row 3 1 (out_5.map eI))]⟩) (fun z => z) ?_ ?_
      · refine Tri.block ?_
        refine Tri.seq ?_
        refine Tri.regionL ?_
        refine OpsL.cons rfl (op_move rfl) ?_
        refine OpsL.cons rfl (op_move rfl) ?_
        obtain ⟨x_6, e8, h7⟩ := bnd h7
        refine OpsL.cons rfl (op_index_e tySl42 (ix_lo e8) (ix_map (e := eHolding) e8) rfl rfl) ?_
        refine OpsL.cons rfl (op_field_e tyFld59_2 rfl rfl) ?_
        refine OpsL.cons rfl (op_load_e1 tyOne3 rfl rfl) ?_
        refine OpsL.cons rfl (op_eql rfl rfl) ?_
        refine OpsL.nilK [0, 3, 4, 16] [102] (s' := ⟨[(0, .b (.one (.sl 5 (l0.map eHolding)))), (3, .b (.row 102)), (4, I i_3), (16, B (decide (x_6.Phase = 1)))], [(102, .row 3 1 (out_2.map eI))]⟩) rfl ?_
        refine Tri.ite h7 rfl (fun _ h7 => ?_) (fun _ h7 => ?_)
        · refine Tri.regionL ?_
          refine OpsL.cons rfl (op_move rfl) ?_
          refine OpsL.cons rfl (op_move rfl) ?_
          refine OpsL.cons rfl (op_move rfl) ?_
          obtain ⟨x_7, e9, h7⟩ := bnd h7
          refine OpsL.cons rfl (op_index_e tySl42 (ix_lo e9) (ix_map (e := eHolding) e9) rfl rfl) ?_
          refine OpsL.cons rfl (op_field_e tyFld59_0 rfl rfl) ?_
          refine OpsL.cons rfl (op_load_e1 tyOne3 rfl rfl) ?_
          refine OpsL.keep [0, 3, 4, 17, 22] [102] (s' := ⟨[(0, .b (.one (.sl 5 (l0.map eHolding)))), (3, .b (.row 102)), (4, I i_3), (17, .b (.row 102)), (22, I x_7.Body)], [(102, .row 3 1 (out_2.map eI))]⟩) rfl ?_
          refine OpsL.cons rfl (op_buildSlice (k := 103) (es := [x_7.Body].map eI) tySl22 rfl rfl (uni_map fun _ => rfl) rfl (by decide) (by decide) rfl) ?_
          obtain ⟨x_8, e10, h7⟩ := bnd h7
          refine OpsL.cons rfl (op_append_r tySl22 (app_b e10) (app_m e10) rfl rfl rfl rfl (app_map e10) rfl) ?_
          refine OpsL.cons rfl (op_assign rfl) ?_
          refine OpsL.nil ?_
          refine Fin.block_normal ?_
          exact Fin.join [0, 3, 4] [102] x_8 (Option.some.inj h7) rfl
        · refine Tri.skip ?_
          refine Fin.block_normal ?_
          exact Fin.join [0, 3, 4] [102] out_2 (Option.some.inj h7) rfl
      · rintro out_5 hv
        subst v6
        refine Tri.regionL ?_
        refine OpsL.cons rfl (op_move rfl) ?_
        refine OpsL.cons rfl (op_add rfl rfl) ?_
        refine OpsL.cons rfl (op_assign rfl) ?_
        refine OpsL.nil ?_
        exact Fin.againJ [0, 3, 4] [102] (out_5, IntKind.i64.wrap (i_3 + 1)) (Option.some.inj h4) rfl
    · refine Tri.exit ?_
      refine Fin.then_exit ?_
      obtain rfl := hy5 _ (Option.some.inj h4).symm
      refine Fin.then_exit ?_
      refine Fin.block_exit ?_
      exact Fin.join [3] [102] out_2 rfl rfl
  · rintro out_1 hv
    subst v1
    refine Tri.seq ?_
    refine Tri.regionL ?_
    refine OpsL.cons rfl (op_move rfl) ?_
    refine OpsL.cons rfl (op_assign rfl) ?_
    refine OpsL.nilK [2] [102] (s' := ⟨[(2, .b (.row 102))], [(102, .row 3 1 (out_1.map eI))]⟩) rfl ?_
    refine Tri.ret ?_
    obtain rfl := Option.some.inj h
    refine Fin.keep [2] [102] (s' := ⟨[(2, .b (.row 102))], [(102, .row 3 1 (out_1.map eI))]⟩) rfl ?_
    refine Fin.resultK 102 k0 [.row 102] (.inl rfl) rfl (.cons (.tmp rfl) .nil) rfl rfl rfl rfl ⟨rfl, rfl⟩

end Go.Proofs.Ytipepglcceogiaa
