/- printed walks -/
import Derived.Test.YtaigaoifloldcaaDoorW2
namespace Go.Proofs.YtaigaoifloldcaaDoor
open Go.Sk
set_option maxHeartbeats 1000000
set_option maxRecDepth 4000
set_option linter.unusedSimpArgs false
set_option linter.unusedVariables false
def skewbackref03_Valid_S (F : Nat) (x0 : Big) : Option Bool :=
 Option.bind (iter F (un2 fun zero_2 k_3 => if (decide (k_3 < 16)) = true then (Option.bind (gcall zero_2 (idx? x0.W.l k_3)) (fun x_5 => some (.inl (zero_2 && (decide (x_5 = 0)), IntKind.i64.wrap (k_3 + 1))))) else (some (.inr zero_2))) (true, 0)) (fun zero_1 => if x0.Bad = true then (some (zero_1 && (!x0.Neg))) else (some ((!zero_1) || (!x0.Neg))))
theorem skewbackref03_Valid_spec {F : Nat} {x0 : Big} {r : Bool} (h : skewbackref03_Valid_S F x0 = some r) : Meets Tryd.prog tabs 24 [] [.agg (eBig x0)] (Is [] (.b (.one (.bool r)))) := by
  unfold skewbackref03_Valid_S at h
  refine Meets.intro 32 Tryd.func24 Tryd.ntmps24 rfl (by simp) fun E => ?_
  show Tri _ E ⟨32, [], []⟩ _ ⟨[(0, .b (.agg (eBig x0)))], []⟩ _
  refine Tri.seq ?_
  refine Tri.regionL ?_
  refine OpsL.cons rfl (op_box (k := 101) rfl rfl) ?_
  refine OpsL.cons rfl (op_assign rfl) ?_
  refine OpsL.nilK [1] [101] (s' := ⟨[(1, .b (.ptr 101 0))], [(101, .box 25 (eBig x0))]⟩) rfl ?_
  refine Tri.seq ?_
  refine Tri.regionL ?_
  refine OpsL.cons rfl (op_assign rfl) ?_
  refine OpsL.nilK [1, 3] [101] (s' := ⟨[(1, .b (.ptr 101 0)), (3, B true)], [(101, .box 25 (eBig x0))]⟩) rfl ?_
  obtain ⟨v1, h2, h⟩ := bnd h
  refine Tri.seqJ (v := v1) (fun (zero_1 : Bool) => ⟨[(1, .b (.ptr 101 0)), (3, B zero_1)], [(101, .box 25 (eBig x0))]⟩) (fun z => z) ?_ ?_
  · refine Tri.seq ?_
    refine Tri.regionL ?_
    refine OpsL.cons rfl (op_assign rfl) ?_
    refine OpsL.nilK [1, 3, 4] [101] (s' := ⟨[(1, .b (.ptr 101 0)), (3, B true), (4, I 0)], [(101, .box 25 (eBig x0))]⟩) rfl ?_
    refine Tri.block ?_
    refine Tri.loopJ h2 (un2 fun (zero_2 : Bool) (k_3 : Int) => ⟨[(1, .b (.ptr 101 0)), (3, B zero_2), (4, I k_3)], [(101, .box 25 (eBig x0))]⟩) [1, 3, 4] [101] rfl ?_
    rintro ⟨zero_2, k_3⟩ o3 h4 hy5
    refine Tri.seq ?_
    refine Tri.seq ?_
    refine Tri.regionL ?_
    refine OpsL.cons rfl (op_move rfl) ?_
    refine OpsL.cons rfl (op_lss rfl rfl) ?_
    refine OpsL.nilK [1, 3, 4, 6] [101] (s' := ⟨[(1, .b (.ptr 101 0)), (3, B zero_2), (4, I k_3), (6, B (decide (k_3 < 16)))], [(101, .box 25 (eBig x0))]⟩) rfl ?_
    refine Tri.ite h4 rfl (fun _ h4 => ?_) (fun _ h4 => ?_)
    · refine Tri.skip ?_
      refine Fin.keep [1, 3, 4] [101] (s' := ⟨[(1, .b (.ptr 101 0)), (3, B zero_2), (4, I k_3)], [(101, .box 25 (eBig x0))]⟩) rfl ?_
      refine Fin.then ?_
      refine Tri.seq ?_
      refine Tri.block ?_
      refine Tri.regionL ?_
      refine OpsL.cons rfl (op_move rfl) ?_
      refine OpsL.cons rfl (op_move rfl) ?_
      refine OpsL.consG zero_2 99 [] (.plain rfl) (eq_t _) rfl rfl (fun g6 => trivial) (fun g6 => op_move rfl) ?_
      refine OpsL.consG zero_2 99 [] (.plain rfl) (eq_t _) rfl rfl (fun g7 => trivial) (fun g7 => op_field_p tyFld25_2 rfl rfl) ?_
      obtain ⟨x_5, e9, h4⟩ := bnd h4
      refine OpsL.consG zero_2 99 [11, 12] (.plain rfl) (eq_t _) rfl rfl (fun g8 => ⟨g8, g8, trivial⟩) (fun g8 => op_index_p tyArr23 (ix_lo (gc e9 g8)) (ix_hi (gc e9 g8)) rfl rfl rfl) ?_
      refine OpsL.consG zero_2 99 [13] (.plain rfl) (eq_t _) rfl rfl (fun g10 => ⟨g10, trivial⟩) (fun g10 => op_load_p1 tyOne22 rfl rfl (arr_get (post := []) (k := .u32) [.bool x0.Bad, .bool x0.Neg] (gc e9 g10) rfl rfl rfl)) ?_
      refine OpsL.consG zero_2 99 [14] (.plain rfl) (eq_t _) rfl rfl (fun g11 => ⟨g11, trivial⟩) (fun g11 => op_eql rfl rfl) ?_
      refine OpsL.cons rfl (op_pick_and (fun e => e) rfl rfl rfl rfl) ?_
      refine OpsL.cons rfl (op_assign rfl) ?_
      refine OpsL.nil ?_
      refine Fin.block_normal ?_
      refine Fin.keep [1, 3, 4] [101] (s' := ⟨[(1, .b (.ptr 101 0)), (3, B (zero_2 && (decide (x_5 = 0)))), (4, I k_3)], [(101, .box 25 (eBig x0))]⟩) rfl ?_
      refine Fin.then ?_
      refine Tri.regionL ?_
      refine OpsL.cons rfl (op_move rfl) ?_
      refine OpsL.cons rfl (op_add rfl rfl) ?_
      refine OpsL.cons rfl (op_assign rfl) ?_
      refine OpsL.nil ?_
      exact Fin.againJ [1, 3, 4] [101] (zero_2 && (decide (x_5 = 0)), IntKind.i64.wrap (k_3 + 1)) (Option.some.inj h4) rfl
    · refine Tri.exit ?_
      refine Fin.then_exit ?_
      obtain rfl := hy5 _ (Option.some.inj h4).symm
      refine Fin.then_exit ?_
      refine Fin.block_exit ?_
      exact Fin.join [1, 3] [101] zero_2 rfl rfl
  · rintro zero_1 hv
    subst v1
    refine Tri.seq ?_
    refine Tri.seq ?_
    refine Tri.regionL ?_
    refine OpsL.cons rfl (op_field_p tyFld25_0 rfl rfl) ?_
    refine OpsL.cons rfl (op_load_p1 tyOne4 rfl rfl rfl) ?_
    refine OpsL.nilK [1, 3, 18] [101] (s' := ⟨[(1, .b (.ptr 101 0)), (3, B zero_1), (18, B x0.Bad)], [(101, .box 25 (eBig x0))]⟩) rfl ?_
    refine Tri.ite h rfl (fun _ h => ?_) (fun _ h => ?_)
    · refine Tri.seq ?_
      refine Tri.regionL ?_
      refine OpsL.cons rfl (op_move rfl) ?_
      refine OpsL.cons rfl (op_move rfl) ?_
      refine OpsL.consG zero_1 99 [] (.plain rfl) (eq_t _) rfl rfl (fun g12 => trivial) (fun g12 => op_field_p tyFld25_1 rfl rfl) ?_
      refine OpsL.consG zero_1 99 [21] (.plain rfl) (eq_t _) rfl rfl (fun g13 => ⟨g13, trivial⟩) (fun g13 => op_load_p1 tyOne4 rfl rfl rfl) ?_
      refine OpsL.consG zero_1 99 [22] (.plain rfl) (eq_t _) rfl rfl (fun g14 => ⟨g14, trivial⟩) (fun g14 => op_not rfl) ?_
      refine OpsL.cons rfl (op_pick_and (fun e => e) rfl rfl rfl rfl) ?_
      refine OpsL.cons rfl (op_assign rfl) ?_
      refine OpsL.nilK [2] [] (s' := ⟨[(2, B (zero_1 && (!x0.Neg)))], []⟩) rfl ?_
      refine Tri.ret ?_
      refine Fin.then_ret ?_
      obtain rfl := Option.some.inj h
      refine Fin.keep [2] [] (s' := ⟨[(2, B (zero_1 && (!x0.Neg)))], []⟩) rfl ?_
      refine Fin.result' [.one (.bool (zero_1 && (!x0.Neg)))] (.inl rfl) rfl (.cons (.tmp rfl) .nil) ⟨rfl, rfl⟩
    · refine Tri.skip ?_
      refine Fin.keep [1, 3] [101] (s' := ⟨[(1, .b (.ptr 101 0)), (3, B zero_1)], [(101, .box 25 (eBig x0))]⟩) rfl ?_
      refine Fin.then ?_
      refine Tri.seq ?_
      refine Tri.regionL ?_
      refine OpsL.cons rfl (op_move rfl) ?_
      refine OpsL.cons rfl (op_not rfl) ?_
      refine OpsL.cons rfl (op_move rfl) ?_
      refine OpsL.consG (!(!zero_1)) 99 [] (.plain rfl) (eq_f _) rfl rfl (fun g15 => trivial) (fun g15 => op_field_p tyFld25_1 rfl rfl) ?_
      refine OpsL.consG (!(!zero_1)) 99 [28] (.plain rfl) (eq_f _) rfl rfl (fun g16 => ⟨g16, trivial⟩) (fun g16 => op_load_p1 tyOne4 rfl rfl rfl) ?_
      refine OpsL.consG (!(!zero_1)) 99 [29] (.plain rfl) (eq_f _) rfl rfl (fun g17 => ⟨g17, trivial⟩) (fun g17 => op_not rfl) ?_
      refine OpsL.cons rfl (op_pick_or (fun e => by rw [e]; rfl) rfl rfl rfl rfl) ?_
      refine OpsL.cons rfl (op_assign rfl) ?_
      refine OpsL.nilK [2] [] (s' := ⟨[(2, B ((!zero_1) || (!x0.Neg)))], []⟩) rfl ?_
      refine Tri.ret ?_
      obtain rfl := Option.some.inj h
      refine Fin.keep [2] [] (s' := ⟨[(2, B ((!zero_1) || (!x0.Neg)))], []⟩) rfl ?_
      refine Fin.result' [.one (.bool ((!zero_1) || (!x0.Neg)))] (.inl rfl) rfl (.cons (.tmp rfl) .nil) ⟨rfl, rfl⟩

def skewbackref03_Good_S (F : Nat) (x0 : Big) : Option Bool :=
 Option.bind (skewbackref03_Valid_S F x0) (fun x_1 => some (x_1 && (!x0.Bad)))
theorem skewbackref03_Good_spec {F : Nat} {x0 : Big} {r : Bool} (h : skewbackref03_Good_S F x0 = some r) : Meets Tryd.prog tabs 35 [] [.agg (eBig x0)] (Is [] (.b (.one (.bool r)))) := by
  unfold skewbackref03_Good_S at h
  refine Meets.intro 12 Tryd.func35 Tryd.ntmps35 rfl (by simp) fun E => ?_
  show Tri _ E ⟨12, [], []⟩ _ ⟨[(0, .b (.agg (eBig x0)))], []⟩ _
  refine Tri.seq ?_
  refine Tri.regionL ?_
  refine OpsL.cons rfl (op_box (k := 101) rfl rfl) ?_
  refine OpsL.cons rfl (op_assign rfl) ?_
  refine OpsL.nilK [1] [101] (s' := ⟨[(1, .b (.ptr 101 0))], [(101, .box 25 (eBig x0))]⟩) rfl ?_
  refine Tri.seq ?_
  refine Tri.regionL ?_
  refine OpsL.cons rfl (op_load_p tyAgg25 rfl rfl rfl rfl) ?_
  obtain ⟨x_1, e1, h⟩ := bnd h
  refine OpsL.cons rfl (op_call0 (skewbackref03_Valid_spec e1) goes24 rfl rfl) ?_
  refine OpsL.cons rfl (op_assign rfl) ?_
  refine OpsL.nilK [1, 3] [101] (s' := ⟨[(1, .b (.ptr 101 0)), (3, B x_1)], [(101, .box 25 (eBig x0))]⟩) rfl ?_
  refine Tri.seq ?_
  refine Tri.regionL ?_
  refine OpsL.cons rfl (op_move rfl) ?_
  refine OpsL.cons rfl (op_move rfl) ?_
  refine OpsL.consG x_1 99 [] (.plain rfl) (eq_t _) rfl rfl (fun g2 => trivial) (fun g2 => op_field_p tyFld25_0 rfl rfl) ?_
  refine OpsL.consG x_1 99 [8] (.plain rfl) (eq_t _) rfl rfl (fun g3 => ⟨g3, trivial⟩) (fun g3 => op_load_p1 tyOne4 rfl rfl rfl) ?_
  refine OpsL.consG x_1 99 [9] (.plain rfl) (eq_t _) rfl rfl (fun g4 => ⟨g4, trivial⟩) (fun g4 => op_not rfl) ?_
  refine OpsL.cons rfl (op_pick_and (fun e => e) rfl rfl rfl rfl) ?_
  refine OpsL.cons rfl (op_assign rfl) ?_
  refine OpsL.nilK [2] [] (s' := ⟨[(2, B (x_1 && (!x0.Bad)))], []⟩) rfl ?_
  refine Tri.ret ?_
  obtain rfl := Option.some.inj h
  refine Fin.keep [2] [] (s' := ⟨[(2, B (x_1 && (!x0.Bad)))], []⟩) rfl ?_
  refine Fin.result' [.one (.bool (x_1 && (!x0.Bad)))] (.inl rfl) rfl (.cons (.tmp rfl) .nil) ⟨rfl, rfl⟩

def skewbackref03_word_S (F : Nat) (x0 : Big) : Option (Int × Bool) :=
 Option.bind (skewbackref03_Good_S F x0) (fun x_1 => if ((!x_1) || (decide (1073741824 ≤ x0.W.a1))) = true then (some (0, false)) else (Option.bind (iter F (fun k_2 => if (decide (k_2 < 16)) = true then (Option.bind (idx? x0.W.l k_2) (fun x_3 => if (decide (x_3 ≠ 0)) = true then (some (.inr (.inr (0, false)))) else (some (.inl (IntKind.i64.wrap (k_2 + 1)))))) else (some (.inr (.inl ())))) 2) (alt2 (fun _ => letN (IntKind.i64.wrap ((IntKind.i64.wrap x0.W.a1) * 4294967296)) fun x_4 => letN (IntKind.i64.wrap (x_4 + (IntKind.i64.wrap x0.W.a0))) fun x_5 => if x0.Neg = true then (some (IntKind.i64.wrap (-x_5), true)) else (some (x_5, true))) (fun y => some y))))
theorem skewbackref03_word_spec {F : Nat} {x0 : Big} {r : Int × Bool} (h : skewbackref03_word_S F x0 = some r) : Meets Tryd.prog tabs 49 [] [.agg (eBig x0)] (Is [] (.tup [.one (.i r.1), .one (.bool r.2)])) := by
  unfold skewbackref03_word_S at h
  refine Meets.intro 41 Tryd.func49 Tryd.ntmps49 rfl (by simp) fun E => ?_
  show Tri _ E ⟨41, [], []⟩ _ ⟨[(0, .b (.agg (eBig x0)))], []⟩ _
  refine Tri.seq ?_
  refine Tri.regionL ?_
  refine OpsL.cons rfl (op_box (k := 101) rfl rfl) ?_
  refine OpsL.cons rfl (op_assign rfl) ?_
  refine OpsL.cons rfl (op_assign rfl) ?_
  refine OpsL.nilK [1] [101] (s' := ⟨[(1, .b (.ptr 101 0))], [(101, .box 25 (eBig x0))]⟩) rfl ?_
  refine Tri.seq ?_
  refine Tri.regionL ?_
  refine OpsL.cons rfl (op_load_p tyAgg25 rfl rfl rfl rfl) ?_
  obtain ⟨x_1, e1, h⟩ := bnd h
  refine OpsL.cons rfl (op_call0 (skewbackref03_Good_spec e1) goes35 rfl rfl) ?_
  refine OpsL.cons rfl (op_assign rfl) ?_
  refine OpsL.nilK [1, 4] [101] (s' := ⟨[(1, .b (.ptr 101 0)), (4, B x_1)], [(101, .box 25 (eBig x0))]⟩) rfl ?_
  refine Tri.seq ?_
  refine Tri.seq ?_
  refine Tri.regionL ?_
  refine OpsL.cons rfl (op_move rfl) ?_
  refine OpsL.cons rfl (op_not rfl) ?_
  refine OpsL.cons rfl (op_move rfl) ?_
  refine OpsL.consG (!(!x_1)) 99 [] (.plain rfl) (eq_f _) rfl rfl (fun g2 => trivial) (fun g2 => op_field_p tyFld25_2 rfl rfl) ?_
  refine OpsL.consG (!(!x_1)) 99 [12] (.plain rfl) (eq_f _) rfl rfl (fun g3 => ⟨g3, trivial⟩) (fun g3 => op_index_p tyArr23 (by decide) (by decide) rfl rfl rfl) ?_
  refine OpsL.consG (!(!x_1)) 99 [13] (.plain rfl) (eq_f _) rfl rfl (fun g4 => ⟨g4, trivial⟩) (fun g4 => op_load_p1 tyOne22 rfl rfl rfl) ?_
  refine OpsL.consG (!(!x_1)) 99 [14] (.plain rfl) (eq_f _) rfl rfl (fun g5 => ⟨g5, trivial⟩) (fun g5 => op_geq rfl rfl) ?_
  refine OpsL.cons rfl (op_pick_or (fun e => by rw [e]; rfl) rfl rfl rfl rfl) ?_
  refine OpsL.nilK [1, 16] [101] (s' := ⟨[(1, .b (.ptr 101 0)), (16, B ((!x_1) || (decide (1073741824 ≤ x0.W.a1))))], [(101, .box 25 (eBig x0))]⟩) rfl ?_
  refine Tri.ite h rfl (fun _ h => ?_) (fun _ h => ?_)
  · refine Tri.seq ?_
    refine Tri.regionL ?_
    refine OpsL.cons rfl (op_assign rfl) ?_
    refine OpsL.cons rfl (op_assign rfl) ?_
    refine OpsL.nilK [2, 3] [] (s' := ⟨[(2, I 0), (3, B false)], []⟩) rfl ?_
    refine Tri.ret ?_
    refine Fin.then_ret ?_
    obtain rfl := Option.some.inj h
    refine Fin.keep [2, 3] [] (s' := ⟨[(2, I 0), (3, B false)], []⟩) rfl ?_
    refine Fin.result' [.one (.i 0), .one (.bool false)] (.inl rfl) rfl (.cons (.tmp rfl) (.cons (.tmp rfl) .nil)) ⟨rfl, rfl⟩
  · refine Tri.skip ?_
    refine Fin.keep [1] [101] (s' := ⟨[(1, .b (.ptr 101 0))], [(101, .box 25 (eBig x0))]⟩) rfl ?_
    refine Fin.then ?_
    obtain ⟨v6, h7, h⟩ := bnd h
    refine Tri.seqJ (v := v6) (fun (_ : Unit) => ⟨[(1, .b (.ptr 101 0))], [(101, .box 25 (eBig x0))]⟩) (fun z => .inl z) ?_ ?_
    · refine Tri.seq ?_
      refine Tri.regionL ?_
      refine OpsL.cons rfl (op_assign rfl) ?_
      refine OpsL.nilK [1, 5] [101] (s' := ⟨[(1, .b (.ptr 101 0)), (5, I 2)], [(101, .box 25 (eBig x0))]⟩) rfl ?_
      refine Tri.block ?_
      refine Tri.loopJ h7 (fun (k_2 : Int) => ⟨[(1, .b (.ptr 101 0)), (5, I k_2)], [(101, .box 25 (eBig x0))]⟩) [1, 5] [101] rfl ?_
      rintro k_2 o8 h9 hy10
      refine Tri.seq ?_
      refine Tri.seq ?_
      refine Tri.regionL ?_
      refine OpsL.cons rfl (op_move rfl) ?_
      refine OpsL.cons rfl (op_lss rfl rfl) ?_
      refine OpsL.nilK [1, 5, 18] [101] (s' := ⟨[(1, .b (.ptr 101 0)), (5, I k_2), (18, B (decide (k_2 < 16)))], [(101, .box 25 (eBig x0))]⟩) rfl ?_
      refine Tri.ite h9 rfl (fun _ h9 => ?_) (fun _ h9 => ?_)
      · refine Tri.skip ?_
        refine Fin.keep [1, 5] [101] (s' := ⟨[(1, .b (.ptr 101 0)), (5, I k_2)], [(101, .box 25 (eBig x0))]⟩) rfl ?_
        refine Fin.then ?_
        refine Tri.seq ?_
        refine Tri.block ?_
        refine Tri.seq ?_
        refine Tri.regionL ?_
        refine OpsL.cons rfl (op_move rfl) ?_
        refine OpsL.cons rfl (op_field_p tyFld25_2 rfl rfl) ?_
        obtain ⟨x_3, e11, h9⟩ := bnd h9
        refine OpsL.cons rfl (op_index_p tyArr23 (ix_lo e11) (ix_hi e11) rfl rfl rfl) ?_
        refine OpsL.cons rfl (op_load_p1 tyOne22 rfl rfl (arr_get (post := []) (k := .u32) [.bool x0.Bad, .bool x0.Neg] e11 rfl rfl rfl)) ?_
        refine OpsL.cons rfl (op_neq rfl rfl) ?_
        refine OpsL.nilK [1, 5, 25] [101] (s' := ⟨[(1, .b (.ptr 101 0)), (5, I k_2), (25, B (decide (x_3 ≠ 0)))], [(101, .box 25 (eBig x0))]⟩) rfl ?_
        refine Tri.ite h9 rfl (fun _ h9 => ?_) (fun _ h9 => ?_)
        · refine Tri.seq ?_
          refine Tri.regionL ?_
          refine OpsL.cons rfl (op_assign rfl) ?_
          refine OpsL.cons rfl (op_assign rfl) ?_
          refine OpsL.nilK [2, 3] [] (s' := ⟨[(2, I 0), (3, B false)], []⟩) rfl ?_
          refine Tri.ret ?_
          refine Fin.block_ret ?_
          refine Fin.then_ret ?_
          obtain rfl := hy10 _ (Option.some.inj h9).symm
          refine Fin.then_ret ?_
          refine Fin.block_ret ?_
          refine Fin.then_ret ?_
          obtain rfl := Option.some.inj h
          refine Fin.keep [2, 3] [] (s' := ⟨[(2, I 0), (3, B false)], []⟩) rfl ?_
          refine Fin.result' [.one (.i 0), .one (.bool false)] (.inl rfl) rfl (.cons (.tmp rfl) (.cons (.tmp rfl) .nil)) ⟨rfl, rfl⟩
        · refine Tri.skip ?_
          refine Fin.block_normal ?_
          refine Fin.keep [1, 5] [101] (s' := ⟨[(1, .b (.ptr 101 0)), (5, I k_2)], [(101, .box 25 (eBig x0))]⟩) rfl ?_
          refine Fin.then ?_
          refine Tri.regionL ?_
          refine OpsL.cons rfl (op_move rfl) ?_
          refine OpsL.cons rfl (op_add rfl rfl) ?_
          refine OpsL.cons rfl (op_assign rfl) ?_
          refine OpsL.nil ?_
          exact Fin.againJ [1, 5] [101] (IntKind.i64.wrap (k_2 + 1)) (Option.some.inj h9) rfl
      · refine Tri.exit ?_
        refine Fin.then_exit ?_
        obtain rfl := hy10 _ (Option.some.inj h9).symm
        refine Fin.then_exit ?_
        refine Fin.block_exit ?_
        exact Fin.join [1] [101] () rfl rfl
    · rintro _ hv
      subst v6
      refine Tri.seq ?_
      refine Tri.regionL ?_
      refine OpsL.cons rfl (op_field_p tyFld25_2 rfl rfl) ?_
      refine OpsL.cons rfl (op_index_p tyArr23 (by decide) (by decide) rfl rfl rfl) ?_
      refine OpsL.cons rfl (op_load_p1 tyOne22 rfl rfl rfl) ?_
      refine OpsL.cons rfl (op_conv_wrap undi22 undi3 rfl) ?_
      refine OpsL.consI .i64 h rfl (op_mul rfl rfl) (fun x_4 h => ?_)
      refine OpsL.cons rfl (op_field_p tyFld25_2 rfl rfl) ?_
      refine OpsL.cons rfl (op_index_p tyArr23 (by decide) (by decide) rfl rfl rfl) ?_
      refine OpsL.keep [1, 30, 32] [101] (s' := ⟨[(1, .b (.ptr 101 0)), (30, I x_4), (32, .b (.ptr 101 2))], [(101, .box 25 (eBig x0))]⟩) rfl ?_
      refine OpsL.cons rfl (op_load_p1 tyOne22 rfl rfl rfl) ?_
      refine OpsL.cons rfl (op_conv_wrap undi22 undi3 rfl) ?_
      refine OpsL.consI .i64 h rfl (op_add rfl rfl) (fun x_5 h => ?_)
      refine OpsL.cons rfl (op_assign rfl) ?_
      refine OpsL.nilK [1, 6] [101] (s' := ⟨[(1, .b (.ptr 101 0)), (6, I x_5)], [(101, .box 25 (eBig x0))]⟩) rfl ?_
      refine Tri.seq ?_
      refine Tri.seq ?_
      refine Tri.regionL ?_
      refine OpsL.cons rfl (op_field_p tyFld25_1 rfl rfl) ?_
      refine OpsL.cons rfl (op_load_p1 tyOne4 rfl rfl rfl) ?_
      refine OpsL.nilK [6, 37] [] (s' := ⟨[(6, I x_5), (37, B x0.Neg)], []⟩) rfl ?_
      refine Tri.ite h rfl (fun _ h => ?_) (fun _ h => ?_)
      · refine Tri.seq ?_
        refine Tri.regionL ?_
        refine OpsL.cons rfl (op_move rfl) ?_
        refine OpsL.cons rfl (op_neg rfl) ?_
        refine OpsL.cons rfl (op_assign rfl) ?_
        refine OpsL.cons rfl (op_assign rfl) ?_
        refine OpsL.nilK [2, 3] [] (s' := ⟨[(2, I (IntKind.i64.wrap (-x_5))), (3, B true)], []⟩) rfl ?_
        refine Tri.ret ?_
        refine Fin.then_ret ?_
        obtain rfl := Option.some.inj h
        refine Fin.keep [2, 3] [] (s' := ⟨[(2, I (IntKind.i64.wrap (-x_5))), (3, B true)], []⟩) rfl ?_
        refine Fin.result' [.one (.i (IntKind.i64.wrap (-x_5))), .one (.bool true)] (.inl rfl) rfl (.cons (.tmp rfl) (.cons (.tmp rfl) .nil)) ⟨rfl, rfl⟩
      · refine Tri.skip ?_
        refine Fin.keep [6] [] (s' := ⟨[(6, I x_5)], []⟩) rfl ?_
        refine Fin.then ?_
        refine Tri.seq ?_
        refine Tri.regionL ?_
        refine OpsL.cons rfl (op_move rfl) ?_
        refine OpsL.cons rfl (op_assign rfl) ?_
        refine OpsL.cons rfl (op_assign rfl) ?_
        refine OpsL.nilK [2, 3] [] (s' := ⟨[(2, I x_5), (3, B true)], []⟩) rfl ?_
        refine Tri.ret ?_
        obtain rfl := Option.some.inj h
        refine Fin.keep [2, 3] [] (s' := ⟨[(2, I x_5), (3, B true)], []⟩) rfl ?_
        refine Fin.result' [.one (.i x_5), .one (.bool true)] (.inl rfl) rfl (.cons (.tmp rfl) (.cons (.tmp rfl) .nil)) ⟨rfl, rfl⟩

def skewbackref03_half_S (F : Nat) (n0 : Int) : Option Bool :=
 some ((decide (n0 < 2147483648)) && (decide ((-2147483648) < n0)))
theorem skewbackref03_half_spec {F : Nat} {n0 : Int} {r : Bool} (h : skewbackref03_half_S F n0 = some r) : Meets Tryd.prog tabs 60 [] [.one (.i n0)] (Is [] (.b (.one (.bool r)))) := by
  unfold skewbackref03_half_S at h
  refine Meets.intro 9 Tryd.func60 Tryd.ntmps60 rfl (by simp) fun E => ?_
  show Tri _ E ⟨9, [], []⟩ _ ⟨[(0, I n0)], []⟩ _
  refine Tri.seq ?_
  refine Tri.regionL ?_
  refine OpsL.cons rfl (op_assign rfl) ?_
  refine OpsL.nilK [0] [] (s' := ⟨[(0, I n0)], []⟩) rfl ?_
  refine Tri.seq ?_
  refine Tri.regionL ?_
  refine OpsL.cons rfl (op_move rfl) ?_
  refine OpsL.cons rfl (op_lss rfl rfl) ?_
  refine OpsL.cons rfl (op_move rfl) ?_
  refine OpsL.consG (decide (n0 < 2147483648)) 99 [] (.plain rfl) (eq_t _) rfl rfl (fun g1 => trivial) (fun g1 => op_move rfl) ?_
  refine OpsL.consG (decide (n0 < 2147483648)) 99 [6] (.plain rfl) (eq_t _) rfl rfl (fun g2 => ⟨g2, trivial⟩) (fun g2 => op_gtr rfl rfl) ?_
  refine OpsL.cons rfl (op_pick_and (fun e => e) rfl rfl rfl rfl) ?_
  refine OpsL.cons rfl (op_assign rfl) ?_
  refine OpsL.nilK [2] [] (s' := ⟨[(2, B ((decide (n0 < 2147483648)) && (decide ((-2147483648) < n0))))], []⟩) rfl ?_
  refine Tri.ret ?_
  obtain rfl := Option.some.inj h
  refine Fin.keep [2] [] (s' := ⟨[(2, B ((decide (n0 < 2147483648)) && (decide ((-2147483648) < n0))))], []⟩) rfl ?_
  refine Fin.result' [.one (.bool ((decide (n0 < 2147483648)) && (decide ((-2147483648) < n0))))] (.inl rfl) rfl (.cons (.tmp rfl) .nil) ⟨rfl, rfl⟩

def skewbackref03_trim_S (F : Nat) (l0 : List Int) : Option (List Int) :=
 Option.bind (iter F (fun n_2 => Option.bind (gcall (decide (0 < n_2)) (idx? l0 (IntKind.i64.wrap (n_2 - 1)))) (fun x_4 => if ((decide (0 < n_2)) && (decide (x_4 = 0))) = true then (some (.inl (IntKind.i64.wrap (n_2 - 1)))) else (some (.inr n_2)))) (l0.length : Int)) (fun n_1 => Option.bind (take? l0 n_1) (fun x_5 => some x_5))
theorem skewbackref03_trim_spec {F : Nat} {l0 : List Int} {r : (List Int)} (h : skewbackref03_trim_S F l0 = some r) : Meets Tryd.prog tabs 70 [] [.one (.sl 1 (l0.map eI))] (Is [] (.b (.one (.sl 1 (r.map eI))))) := by
  unfold skewbackref03_trim_S at h
  refine Meets.intro 21 Tryd.func70 Tryd.ntmps70 rfl (by simp) fun E => ?_
  show Tri _ E ⟨21, [], []⟩ _ ⟨[(0, .b (.one (.sl 1 (l0.map eI))))], []⟩ _
  refine Tri.seq ?_
  refine Tri.regionL ?_
  refine OpsL.cons rfl (op_assign rfl) ?_
  refine OpsL.nilK [0] [] (s' := ⟨[(0, .b (.one (.sl 1 (l0.map eI))))], []⟩) rfl ?_
  refine Tri.seq ?_
  refine Tri.regionL ?_
  refine OpsL.cons rfl (op_move rfl) ?_
  refine OpsL.cons rfl (op_len_e' und54 rfl (List.length_map _)) ?_
  refine OpsL.cons rfl (op_assign rfl) ?_
  refine OpsL.nilK [0, 3] [] (s' := ⟨[(0, .b (.one (.sl 1 (l0.map eI)))), (3, I (l0.length : Int))], []⟩) rfl ?_
  obtain ⟨v1, h2, h⟩ := bnd h
  refine Tri.seqJ (v := v1) (fun (n_1 : Int) => ⟨[(0, .b (.one (.sl 1 (l0.map eI)))), (3, I n_1)], []⟩) (fun z => z) ?_ ?_
  · refine Tri.block ?_
    refine Tri.loopJ h2 (fun (n_2 : Int) => ⟨[(0, .b (.one (.sl 1 (l0.map eI)))), (3, I n_2)], []⟩) [0, 3] [] rfl ?_
    rintro n_2 o3 h4 hy5
    refine Tri.seq ?_
    refine Tri.seq ?_
    refine Tri.regionL ?_
    refine OpsL.cons rfl (op_move rfl) ?_
    refine OpsL.cons rfl (op_gtr rfl rfl) ?_
    refine OpsL.cons rfl (op_move rfl) ?_
    refine OpsL.consG (decide (0 < n_2)) 99 [] (.plain rfl) (eq_t _) rfl rfl (fun g6 => trivial) (fun g6 => op_move rfl) ?_
    refine OpsL.consG (decide (0 < n_2)) 99 [] (.plain rfl) (eq_t _) rfl rfl (fun g7 => trivial) (fun g7 => op_move rfl) ?_
    refine OpsL.consG (decide (0 < n_2)) 99 [10] (.plain rfl) (eq_t _) rfl rfl (fun g8 => ⟨g8, trivial⟩) (fun g8 => op_sub rfl rfl) ?_
    obtain ⟨x_4, e10, h4⟩ := bnd h4
    refine OpsL.consG (decide (0 < n_2)) 99 [9, 11] (.plain rfl) (eq_t _) rfl rfl (fun g9 => ⟨g9, g9, trivial⟩) (fun g9 => op_index_e tySl54 (ix_lo (gc e10 g9)) (ix_map (e := eI) (gc e10 g9)) rfl rfl) ?_
    refine OpsL.keep [0, 3, 8, 12] [] (s' := ⟨[(0, .b (.one (.sl 1 (l0.map eI)))), (3, I n_2), (8, B (decide (0 < n_2))), (12, .opt (decide (0 < n_2)) (.eptr [.i x_4]))], []⟩) rfl ?_
    refine OpsL.consG (decide (0 < n_2)) 99 [12] (.plain rfl) (eq_t _) rfl rfl (fun g11 => ⟨g11, trivial⟩) (fun g11 => op_load_e1 tyOne3 rfl rfl) ?_
    refine OpsL.consG (decide (0 < n_2)) 99 [13] (.plain rfl) (eq_t _) rfl rfl (fun g12 => ⟨g12, trivial⟩) (fun g12 => op_eql rfl rfl) ?_
    refine OpsL.cons rfl (op_pick_and (fun e => e) rfl rfl rfl rfl) ?_
    refine OpsL.nilK [0, 3, 15] [] (s' := ⟨[(0, .b (.one (.sl 1 (l0.map eI)))), (3, I n_2), (15, B ((decide (0 < n_2)) && (decide (x_4 = 0))))], []⟩) rfl ?_
    refine Tri.ite h4 rfl (fun _ h4 => ?_) (fun _ h4 => ?_)
    · refine Tri.skip ?_
      refine Fin.keep [0, 3] [] (s' := ⟨[(0, .b (.one (.sl 1 (l0.map eI)))), (3, I n_2)], []⟩) rfl ?_
      refine Fin.then ?_
      refine Tri.block ?_
      refine Tri.regionL ?_
      refine OpsL.cons rfl (op_move rfl) ?_
      refine OpsL.cons rfl (op_sub rfl rfl) ?_
      refine OpsL.cons rfl (op_assign rfl) ?_
      refine OpsL.nil ?_
      refine Fin.block_normal ?_
      exact Fin.againJ [0, 3] [] (IntKind.i64.wrap (n_2 - 1)) (Option.some.inj h4) rfl
    · refine Tri.exit ?_
      refine Fin.then_exit ?_
      obtain rfl := hy5 _ (Option.some.inj h4).symm
      refine Fin.then_exit ?_
      refine Fin.block_exit ?_
      exact Fin.join [0, 3] [] n_2 rfl rfl
  · rintro n_1 hv
    subst v1
    refine Tri.seq ?_
    refine Tri.regionL ?_
    refine OpsL.cons rfl (op_move rfl) ?_
    refine OpsL.cons rfl (op_move rfl) ?_
    obtain ⟨x_5, e13, h⟩ := bnd h
    refine OpsL.cons rfl (op_slice_h2 tySl54 e13 rfl rfl) ?_
    refine OpsL.cons rfl (op_assign rfl) ?_
    refine OpsL.nilK [2] [] (s' := ⟨[(2, .b (.one (.sl 1 (x_5.map eI))))], []⟩) rfl ?_
    refine Tri.ret ?_
    obtain rfl := Option.some.inj h
    refine Fin.keep [2] [] (s' := ⟨[(2, .b (.one (.sl 1 (x_5.map eI))))], []⟩) rfl ?_
    refine Fin.result' [.one (.sl 1 (x_5.map eI))] (.inl rfl) rfl (.cons (.tmp rfl) .nil) ⟨rfl, rfl⟩

def skewbackref03_Bad_S (F : Nat) : Option Big :=
 some (⟨true, false, A16.zero⟩ : Big)
theorem skewbackref03_Bad_spec {F : Nat} {r : Big} (h : skewbackref03_Bad_S F = some r) : Meets Tryd.prog tabs 51 [] [] (Is [] (.b (.agg (eBig r)))) := by
  unfold skewbackref03_Bad_S at h
  refine Meets.intro 2 Tryd.func51 Tryd.ntmps51 rfl (by simp) fun E => ?_
  show Tri _ E ⟨2, [], []⟩ _ ⟨[], []⟩ _
  refine Tri.seq ?_
  refine Tri.regionL ?_
  refine OpsL.cons rfl (op_alloc (k := 101) tyZero25 rfl) ?_
  refine OpsL.nilK [0] [101] (s' := ⟨[(0, .b (.ptr 101 0))], [(101, .box 25 (.bool false :: .bool false :: ((eA16 .u32) A16.zero)))]⟩) rfl ?_
  refine Tri.seq ?_
  refine Tri.regionL ?_
  refine OpsL.cons rfl (op_build tyBuild25 rfl rfl) ?_
  refine OpsL.cons rfl (op_store_p tyAgg25 rfl rfl rfl rfl (Nat.le_of_ble_eq_true rfl) rfl) ?_
  refine OpsL.nilK [0] [101] (s' := ⟨[(0, .b (.ptr 101 0))], [(101, .box 25 (.bool true :: .bool false :: ((eA16 .u32) A16.zero)))]⟩) rfl ?_
  refine Tri.ret ?_
  obtain rfl := Option.some.inj h
  refine Fin.keep [0] [101] (s' := ⟨[(0, .b (.ptr 101 0))], [(101, .box 25 (.bool true :: .bool false :: ((eA16 .u32) A16.zero)))]⟩) rfl ?_
  refine Fin.result' [.agg (.bool true :: .bool false :: ((eA16 .u32) A16.zero))] (.inl rfl) rfl (.cons (.agg tyAgg25 rfl rfl rfl rfl) .nil) ⟨rfl, rfl⟩

def skewbackref03_number_S (F : Nat) (neg0 : Bool) (l0 : List Int) : Option Big :=
 Option.bind (skewbackref03_trim_S F l0) (fun x_1 => if (decide (32 < (x_1.length : Int))) = true then (Option.bind (skewbackref03_Bad_S F) (fun x_2 => some x_2)) else (letN (⟨false, neg0 && (decide (0 < (x_1.length : Int))), A16.zero⟩ : Big) fun x_3 => Option.bind (iter F (un2 fun out_5 k_6 => if (decide (k_6 < (x_1.length : Int))) = true then (Option.bind (if (decide ((Int.tmod k_6 2) = 0)) = true then (Option.bind (quo? .i64 k_6 2) (fun x_9 => Option.bind (quo? .i64 k_6 2) (fun x_10 => Option.bind (idx? out_5.W.l x_10) (fun x_11 => Option.bind (idx? x_1 k_6) (fun x_12 => Option.bind (idx? out_5.W.l x_9) (fun x_13 => some (⟨out_5.Bad, out_5.Neg, out_5.W.set x_9 (IntKind.u32.wrap (x_11 + (IntKind.u32.wrap x_12)))⟩ : Big))))))) else (Option.bind (quo? .i64 k_6 2) (fun x_14 => Option.bind (quo? .i64 k_6 2) (fun x_15 => Option.bind (idx? out_5.W.l x_15) (fun x_16 => Option.bind (idx? x_1 k_6) (fun x_17 => Option.bind (idx? out_5.W.l x_14) (fun x_18 => some (⟨out_5.Bad, out_5.Neg, out_5.W.set x_14 (IntKind.u32.wrap (x_16 + (IntKind.u32.wrap ((IntKind.u32.wrap x_17) * 65536))))⟩ : Big)))))))) (fun out_8 => some (.inl (out_8, IntKind.i64.wrap (k_6 + 1))))) else (some (.inr out_5))) (x_3, 0)) (fun out_4 => some out_4)))
theorem skewbackref03_number_spec {F : Nat} {neg0 : Bool} {l0 : List Int} {r : Big} (h : skewbackref03_number_S F neg0 l0 = some r) : Meets Tryd.prog tabs 53 [] [.one (.bool neg0), .one (.sl 1 (l0.map eI))] (Is [] (.b (.agg (eBig r)))) := by
  unfold skewbackref03_number_S at h
  refine Meets.intro 62 Tryd.func53 Tryd.ntmps53 rfl (by simp) fun E => ?_
  show Tri _ E ⟨62, [], []⟩ _ ⟨[(0, B neg0), (1, .b (.one (.sl 1 (l0.map eI))))], []⟩ _
  refine Tri.seq ?_
  refine Tri.regionL ?_
  refine OpsL.cons rfl (op_alloc (k := 101) tyZero25 rfl) ?_
  refine OpsL.nilK [0, 1, 4] [101] (s' := ⟨[(0, B neg0), (1, .b (.one (.sl 1 (l0.map eI)))), (4, .b (.ptr 101 0))], [(101, .box 25 (.bool false :: .bool false :: ((eA16 .u32) A16.zero)))]⟩) rfl ?_
  refine Tri.seq ?_
  refine Tri.regionL ?_
  refine OpsL.cons rfl (op_move rfl) ?_
  obtain ⟨x_1, e1, h⟩ := bnd h
  refine OpsL.cons rfl (op_call0 (skewbackref03_trim_spec e1) goes70 rfl rfl) ?_
  refine OpsL.cons rfl (op_assign rfl) ?_
  refine OpsL.nilK [0, 4, 5] [101] (s' := ⟨[(0, B neg0), (4, .b (.ptr 101 0)), (5, .b (.one (.sl 1 (x_1.map eI))))], [(101, .box 25 (.bool false :: .bool false :: ((eA16 .u32) A16.zero)))]⟩) rfl ?_
  refine Tri.seq ?_
  refine Tri.seq ?_
  refine Tri.regionL ?_
  refine OpsL.cons rfl (op_move rfl) ?_
  refine OpsL.cons rfl (op_len_e' und54 rfl (List.length_map _)) ?_
  refine OpsL.cons rfl (op_gtr rfl rfl) ?_
  refine OpsL.nilK [0, 4, 5, 12] [101] (s' := ⟨[(0, B neg0), (4, .b (.ptr 101 0)), (5, .b (.one (.sl 1 (x_1.map eI)))), (12, B (decide (32 < (x_1.length : Int))))], [(101, .box 25 (.bool false :: .bool false :: ((eA16 .u32) A16.zero)))]⟩) rfl ?_
  refine Tri.ite h rfl (fun _ h => ?_) (fun _ h => ?_)
  · refine Tri.seq ?_
    refine Tri.regionL ?_
    obtain ⟨x_2, e2, h⟩ := bnd h
    refine OpsL.cons rfl (op_call0 (skewbackref03_Bad_spec e2) goes51 rfl rfl) ?_
    refine OpsL.cons rfl (op_store_p tyAgg25 rfl rfl rfl rfl (Nat.le_of_ble_eq_true rfl) rfl) ?_
    refine OpsL.nilK [4] [101] (s' := ⟨[(4, .b (.ptr 101 0))], [(101, .box 25 (eBig x_2))]⟩) rfl ?_
    refine Tri.ret ?_
    refine Fin.then_ret ?_
    obtain rfl := Option.some.inj h
    refine Fin.keep [4] [101] (s' := ⟨[(4, .b (.ptr 101 0))], [(101, .box 25 (eBig x_2))]⟩) rfl ?_
    refine Fin.result' [.agg (eBig x_2)] (.inl rfl) rfl (.cons (.agg tyAgg25 rfl rfl rfl rfl) .nil) ⟨rfl, rfl⟩
  · refine Tri.skip ?_
    refine Fin.keep [0, 4, 5] [101] (s' := ⟨[(0, B neg0), (4, .b (.ptr 101 0)), (5, .b (.one (.sl 1 (x_1.map eI))))], [(101, .box 25 (.bool false :: .bool false :: ((eA16 .u32) A16.zero)))]⟩) rfl ?_
    refine Fin.then ?_
    refine Tri.seq ?_
    refine Tri.regionL ?_
    refine OpsL.cons rfl (op_move rfl) ?_
    refine OpsL.cons rfl (op_move rfl) ?_
    refine OpsL.consG neg0 99 [] (.plain rfl) (eq_t _) rfl rfl (fun g3 => trivial) (fun g3 => op_move rfl) ?_
    refine OpsL.consG neg0 99 [16] (.plain rfl) (eq_t _) rfl rfl (fun g4 => ⟨g4, trivial⟩) (fun g4 => op_len_e' und54 rfl (List.length_map _)) ?_
    refine OpsL.consG neg0 99 [17] (.plain rfl) (eq_t _) rfl rfl (fun g5 => ⟨g5, trivial⟩) (fun g5 => op_gtr rfl rfl) ?_
    refine OpsL.cons rfl (op_pick_and (fun e => e) rfl rfl rfl rfl) ?_
    refine OpsL.keep [4, 5, 19] [101] (s' := ⟨[(4, .b (.ptr 101 0)), (5, .b (.one (.sl 1 (x_1.map eI)))), (19, B (neg0 && (decide (0 < (x_1.length : Int)))))], [(101, .box 25 (.bool false :: .bool false :: ((eA16 .u32) A16.zero)))]⟩) rfl ?_
    refine OpsL.consA eBig h rfl (op_build tyBuild25 rfl rfl) (fun x_3 h => ?_)
    refine OpsL.cons rfl (op_alloc (k := 102) tyZero25 rfl) ?_
    refine OpsL.cons rfl (op_store_p tyAgg25 rfl rfl rfl rfl (Nat.le_of_ble_eq_true rfl) rfl) ?_
    refine OpsL.nilK [4, 5, 6] [101, 102] (s' := ⟨[(4, .b (.ptr 101 0)), (5, .b (.one (.sl 1 (x_1.map eI)))), (6, .b (.ptr 102 0))], [(101, .box 25 (.bool false :: .bool false :: ((eA16 .u32) A16.zero))), (102, .box 25 (eBig x_3))]⟩) rfl ?_
    obtain ⟨v6, h7, h⟩ := bnd h
    refine Tri.seqJ (v := v6) (fun (out_4 : Big) => ⟨[(4, .b (.ptr 101 0)), (6, .b (.ptr 102 0))], [(101, .box 25 (.bool false :: .bool false :: ((eA16 .u32) A16.zero))), (102, .box 25 (eBig out_4))]⟩) (fun z => z) ?_ ?_
    · refine Tri.seq ?_
      refine Tri.regionL ?_
      refine OpsL.cons rfl (op_assign rfl) ?_
      refine OpsL.nilK [4, 5, 6, 7] [101, 102] (s' := ⟨[(4, .b (.ptr 101 0)), (5, .b (.one (.sl 1 (x_1.map eI)))), (6, .b (.ptr 102 0)), (7, I 0)], [(101, .box 25 (.bool false :: .bool false :: ((eA16 .u32) A16.zero))), (102, .box 25 (eBig x_3))]⟩) rfl ?_
      refine Tri.block ?_
      refine Tri.loopJ h7 (un2 fun (out_5 : Big) (k_6 : Int) => ⟨[(4, .b (.ptr 101 0)), (5, .b (.one (.sl 1 (x_1.map eI)))), (6, .b (.ptr 102 0)), (7, I k_6)], [(101, .box 25 (.bool false :: .bool false :: ((eA16 .u32) A16.zero))), (102, .box 25 (eBig out_5))]⟩) [4, 5, 6, 7] [101, 102] rfl ?_
      rintro ⟨out_5, k_6⟩ o8 h9 hy10
      refine Tri.seq ?_
      refine Tri.seq ?_
      refine Tri.regionL ?_
      refine OpsL.cons rfl (op_move rfl) ?_
      refine OpsL.cons rfl (op_move rfl) ?_
      refine OpsL.cons rfl (op_len_e' und54 rfl (List.length_map _)) ?_
      refine OpsL.cons rfl (op_lss rfl rfl) ?_
      refine OpsL.nilK [4, 5, 6, 7, 24] [101, 102] (s' := ⟨[(4, .b (.ptr 101 0)), (5, .b (.one (.sl 1 (x_1.map eI)))), (6, .b (.ptr 102 0)), (7, I k_6), (24, B (decide (k_6 < (x_1.length : Int))))], [(101, .box 25 (.bool false :: .bool false :: ((eA16 .u32) A16.zero))), (102, .box 25 (eBig out_5))]⟩) rfl ?_
      refine Tri.ite h9 rfl (fun _ h9 => ?_) (fun _ h9 => ?_)
      · refine Tri.skip ?_
        refine Fin.keep [4, 5, 6, 7] [101, 102] (s' := ⟨[(4, .b (.ptr 101 0)), (5, .b (.one (.sl 1 (x_1.map eI)))), (6, .b (.ptr 102 0)), (7, I k_6)], [(101, .box 25 (.bool false :: .bool false :: ((eA16 .u32) A16.zero))), (102, .box 25 (eBig out_5))]⟩) rfl ?_
        refine Fin.then ?_
        obtain ⟨v11, h12, h9⟩ := bnd h9
        refine Tri.seqJ (v := v11) (fun (out_8 : Big) => ⟨[(4, .b (.ptr 101 0)), (5, .b (.one (.sl 1 (x_1.map eI)))), (6, .b (.ptr 102 0)), (7, I k_6)], [(101, .box 25 (.bool false :: .bool false :: ((eA16 .u32) A16.zero))), (102, .box 25 (eBig out_8))]⟩) (fun z => z) ?_ ?_
        · refine Tri.block ?_
          refine Tri.seq ?_
          refine Tri.regionL ?_
          refine OpsL.cons rfl (op_move rfl) ?_
          refine OpsL.cons rfl (op_rem (by decide) rfl rfl) ?_
          refine OpsL.cons rfl (op_eql rfl rfl) ?_
          refine OpsL.nilK [4, 5, 6, 7, 29] [101, 102] (s' := ⟨[(4, .b (.ptr 101 0)), (5, .b (.one (.sl 1 (x_1.map eI)))), (6, .b (.ptr 102 0)), (7, I k_6), (29, B (decide ((Int.tmod k_6 2) = 0)))], [(101, .box 25 (.bool false :: .bool false :: ((eA16 .u32) A16.zero))), (102, .box 25 (eBig out_5))]⟩) rfl ?_
          refine Tri.ite h12 rfl (fun _ h12 => ?_) (fun _ h12 => ?_)
          · refine Tri.keep [4, 5, 6, 7] [101, 102] (s' := ⟨[(4, .b (.ptr 101 0)), (5, .b (.one (.sl 1 (x_1.map eI)))), (6, .b (.ptr 102 0)), (7, I k_6)], [(101, .box 25 (.bool false :: .bool false :: ((eA16 .u32) A16.zero))), (102, .box 25 (eBig out_5))]⟩) rfl ?_
            obtain ⟨x_9, e13, h12⟩ := bnd h12
            obtain ⟨x_10, e14, h12⟩ := bnd h12
            obtain ⟨x_11, e15, h12⟩ := bnd h12
            obtain ⟨x_12, e16, h12⟩ := bnd h12
            obtain ⟨x_13, e17, h12⟩ := bnd h12
            refine Tri.regionYF mixed 15 [I k_6, I x_9, I k_6, I x_10, .b (.ptr 102 2), .b (.ptr 102 (2 + (x_10 : Int).toNat * 1)), .b (.one (.int .u32 x_11)), .b (.one (.sl 1 (x_1.map eI))), I k_6, .b (.eptr [.i x_12]), I x_12, .b (.one (.int .u32 (IntKind.u32.wrap x_12))), .b (.one (.int .u32 (IntKind.u32.wrap (x_11 + (IntKind.u32.wrap x_12))))), .b (.ptr 102 2), .b (.ptr 102 (2 + (x_9 : Int).toNat * 1))] [4, 5, 6, 7] [101, 102] (s' := ⟨[(4, .b (.ptr 101 0)), (5, .b (.one (.sl 1 (x_1.map eI)))), (6, .b (.ptr 102 0)), (7, I k_6)], [(101, .box 25 (.bool false :: .bool false :: ((eA16 .u32) A16.zero))), (102, .box 25 (.bool out_5.Bad :: .bool out_5.Neg :: ((eA16 .u32) (out_5.W.set x_9 (IntKind.u32.wrap (x_11 + (IntKind.u32.wrap x_12)))))))]⟩) rfl ⟨fun _ => .plain rfl (op_move rfl), fun _ => .plain rfl (op_quo2 e13 rfl rfl), fun _ => .plain rfl (op_move rfl), fun _ => .plain rfl (op_quo2 e14 rfl rfl), fun _ => .plain rfl (op_field_p tyFld25_2 rfl rfl), fun _ => .plain rfl (op_index_p tyArr23 (ix_lo e15) (ix_hi e15) rfl rfl rfl), fun _ => .plain rfl (op_load_p1 tyOne22 rfl rfl (arr_get (post := []) (k := .u32) [.bool out_5.Bad, .bool out_5.Neg] e15 rfl rfl rfl)), fun _ => .plain rfl (op_move rfl), fun _ => .plain rfl (op_move rfl), fun _ => .plain rfl (op_index_e tySl54 (ix_lo e16) (ix_map (e := eI) e16) rfl rfl), fun _ => .plain rfl (op_load_e1 tyOne3 rfl rfl), fun _ => .plain rfl (op_conv_wrap undi3 undi22 rfl), fun _ => .plain rfl (op_add rfl rfl), fun _ => .plain rfl (op_field_p tyFld25_2 rfl rfl), fun _ => .plain rfl (op_index_p tyArr23 (ix_lo e17) (ix_hi e17) rfl rfl rfl), trivial⟩ ⟨_, by exact .plain rfl (op_store_p1 tyOne22 rfl rfl rfl (arr_lt (post := []) (k := .u32) [.bool out_5.Bad, .bool out_5.Neg] e17 rfl rfl rfl) (arr_set (post := []) (k := .u32) [.bool out_5.Bad, .bool out_5.Neg] e17 rfl rfl (A16.set_l out_5.W x_9 (IntKind.u32.wrap (x_11 + (IntKind.u32.wrap x_12)))) rfl rfl)), rfl⟩ rfl ?_
            refine Fin.block_normal ?_
            exact Fin.join [4, 5, 6, 7] [101, 102] (⟨out_5.Bad, out_5.Neg, out_5.W.set x_9 (IntKind.u32.wrap (x_11 + (IntKind.u32.wrap x_12)))⟩ : Big) (Option.some.inj h12) rfl
          · refine Tri.keep [4, 5, 6, 7] [101, 102] (s' := ⟨[(4, .b (.ptr 101 0)), (5, .b (.one (.sl 1 (x_1.map eI)))), (6, .b (.ptr 102 0)), (7, I k_6)], [(101, .box 25 (.bool false :: .bool false :: ((eA16 .u32) A16.zero))), (102, .box 25 (eBig out_5))]⟩) rfl ?_
            obtain ⟨x_14, e18, h12⟩ := bnd h12
            obtain ⟨x_15, e19, h12⟩ := bnd h12
            obtain ⟨x_16, e20, h12⟩ := bnd h12
            obtain ⟨x_17, e21, h12⟩ := bnd h12
            obtain ⟨x_18, e22, h12⟩ := bnd h12
            refine Tri.regionYF mixed 16 [I k_6, I x_14, I k_6, I x_15, .b (.ptr 102 2), .b (.ptr 102 (2 + (x_15 : Int).toNat * 1)), .b (.one (.int .u32 x_16)), .b (.one (.sl 1 (x_1.map eI))), I k_6, .b (.eptr [.i x_17]), I x_17, .b (.one (.int .u32 (IntKind.u32.wrap x_17))), .b (.one (.int .u32 (IntKind.u32.wrap ((IntKind.u32.wrap x_17) * 65536)))), .b (.one (.int .u32 (IntKind.u32.wrap (x_16 + (IntKind.u32.wrap ((IntKind.u32.wrap x_17) * 65536)))))), .b (.ptr 102 2), .b (.ptr 102 (2 + (x_14 : Int).toNat * 1))] [4, 5, 6, 7] [101, 102] (s' := ⟨[(4, .b (.ptr 101 0)), (5, .b (.one (.sl 1 (x_1.map eI)))), (6, .b (.ptr 102 0)), (7, I k_6)], [(101, .box 25 (.bool false :: .bool false :: ((eA16 .u32) A16.zero))), (102, .box 25 (.bool out_5.Bad :: .bool out_5.Neg :: ((eA16 .u32) (out_5.W.set x_14 (IntKind.u32.wrap (x_16 + (IntKind.u32.wrap ((IntKind.u32.wrap x_17) * 65536))))))))]⟩) rfl ⟨fun _ => .plain rfl (op_move rfl), fun _ => .plain rfl (op_quo2 e18 rfl rfl), fun _ => .plain rfl (op_move rfl), fun _ => .plain rfl (op_quo2 e19 rfl rfl), fun _ => .plain rfl (op_field_p tyFld25_2 rfl rfl), fun _ => .plain rfl (op_index_p tyArr23 (ix_lo e20) (ix_hi e20) rfl rfl rfl), fun _ => .plain rfl (op_load_p1 tyOne22 rfl rfl (arr_get (post := []) (k := .u32) [.bool out_5.Bad, .bool out_5.Neg] e20 rfl rfl rfl)), fun _ => .plain rfl (op_move rfl), fun _ => .plain rfl (op_move rfl), fun _ => .plain rfl (op_index_e tySl54 (ix_lo e21) (ix_map (e := eI) e21) rfl rfl), fun _ => .plain rfl (op_load_e1 tyOne3 rfl rfl), fun _ => .plain rfl (op_conv_wrap undi3 undi22 rfl), fun _ => .plain rfl (op_mul rfl rfl), fun _ => .plain rfl (op_add rfl rfl), fun _ => .plain rfl (op_field_p tyFld25_2 rfl rfl), fun _ => .plain rfl (op_index_p tyArr23 (ix_lo e22) (ix_hi e22) rfl rfl rfl), trivial⟩ ⟨_, by exact .plain rfl (op_store_p1 tyOne22 rfl rfl rfl (arr_lt (post := []) (k := .u32) [.bool out_5.Bad, .bool out_5.Neg] e22 rfl rfl rfl) (arr_set (post := []) (k := .u32) [.bool out_5.Bad, .bool out_5.Neg] e22 rfl rfl (A16.set_l out_5.W x_14 (IntKind.u32.wrap (x_16 + (IntKind.u32.wrap ((IntKind.u32.wrap x_17) * 65536))))) rfl rfl)), rfl⟩ rfl ?_
            refine Fin.block_normal ?_
            exact Fin.join [4, 5, 6, 7] [101, 102] (⟨out_5.Bad, out_5.Neg, out_5.W.set x_14 (IntKind.u32.wrap (x_16 + (IntKind.u32.wrap ((IntKind.u32.wrap x_17) * 65536))))⟩ : Big) (Option.some.inj h12) rfl
        · rintro out_8 hv
          subst v11
          refine Tri.regionL ?_
          refine OpsL.cons rfl (op_move rfl) ?_
          refine OpsL.cons rfl (op_add rfl rfl) ?_
          refine OpsL.cons rfl (op_assign rfl) ?_
          refine OpsL.nil ?_
          exact Fin.againJ [4, 5, 6, 7] [101, 102] (out_8, IntKind.i64.wrap (k_6 + 1)) (Option.some.inj h9) rfl
      · refine Tri.exit ?_
        refine Fin.then_exit ?_
        obtain rfl := hy10 _ (Option.some.inj h9).symm
        refine Fin.then_exit ?_
        refine Fin.block_exit ?_
        exact Fin.join [4, 6] [101, 102] out_5 rfl rfl
    · rintro out_4 hv
      subst v6
      refine Tri.seq ?_
      refine Tri.regionL ?_
      refine OpsL.cons rfl (op_load_p tyAgg25 rfl rfl rfl rfl) ?_
      refine OpsL.cons rfl (op_store_p tyAgg25 rfl rfl rfl rfl (Nat.le_of_ble_eq_true rfl) rfl) ?_
      refine OpsL.nilK [4] [101] (s' := ⟨[(4, .b (.ptr 101 0))], [(101, .box 25 (eBig out_4))]⟩) rfl ?_
      refine Tri.ret ?_
      obtain rfl := Option.some.inj h
      refine Fin.keep [4] [101] (s' := ⟨[(4, .b (.ptr 101 0))], [(101, .box 25 (eBig out_4))]⟩) rfl ?_
      refine Fin.result' [.agg (eBig out_4)] (.inl rfl) rfl (.cons (.agg tyAgg25 rfl rfl rfl rfl) .nil) ⟨rfl, rfl⟩

def skewbackref03_digit_S (F : Nat) (l0 : List Int) (k0 : Int) : Option Int :=
 if (decide (k0 < (l0.length : Int))) = true then (Option.bind (idx? l0 k0) (fun x_1 => some x_1)) else (some 0)
theorem skewbackref03_digit_spec {F : Nat} {l0 : List Int} {k0 : Int} {r : Int} (h : skewbackref03_digit_S F l0 k0 = some r) : Meets Tryd.prog tabs 76 [] [.one (.sl 1 (l0.map eI)), .one (.i k0)] (Is [] (.b (.one (.i r)))) := by
  unfold skewbackref03_digit_S at h
  refine Meets.intro 13 Tryd.func76 Tryd.ntmps76 rfl (by simp) fun E => ?_
  show Tri _ E ⟨13, [], []⟩ _ ⟨[(0, .b (.one (.sl 1 (l0.map eI)))), (1, I k0)], []⟩ _
  refine Tri.seq ?_
  refine Tri.regionL ?_
  refine OpsL.cons rfl (op_assign rfl) ?_
  refine OpsL.nilK [0, 1] [] (s' := ⟨[(0, .b (.one (.sl 1 (l0.map eI)))), (1, I k0)], []⟩) rfl ?_
  refine Tri.seq ?_
  refine Tri.seq ?_
  refine Tri.regionL ?_
  refine OpsL.cons rfl (op_move rfl) ?_
  refine OpsL.cons rfl (op_move rfl) ?_
  refine OpsL.cons rfl (op_len_e' und54 rfl (List.length_map _)) ?_
  refine OpsL.cons rfl (op_lss rfl rfl) ?_
  refine OpsL.nilK [0, 1, 8] [] (s' := ⟨[(0, .b (.one (.sl 1 (l0.map eI)))), (1, I k0), (8, B (decide (k0 < (l0.length : Int))))], []⟩) rfl ?_
  refine Tri.ite h rfl (fun _ h => ?_) (fun _ h => ?_)
  · refine Tri.seq ?_
    refine Tri.regionL ?_
    refine OpsL.cons rfl (op_move rfl) ?_
    refine OpsL.cons rfl (op_move rfl) ?_
    obtain ⟨x_1, e1, h⟩ := bnd h
    refine OpsL.cons rfl (op_index_e tySl54 (ix_lo e1) (ix_map (e := eI) e1) rfl rfl) ?_
    refine OpsL.cons rfl (op_load_e1 tyOne3 rfl rfl) ?_
    refine OpsL.cons rfl (op_assign rfl) ?_
    refine OpsL.nilK [4] [] (s' := ⟨[(4, I x_1)], []⟩) rfl ?_
    refine Tri.ret ?_
    refine Fin.then_ret ?_
    obtain rfl := Option.some.inj h
    refine Fin.keep [4] [] (s' := ⟨[(4, I x_1)], []⟩) rfl ?_
    refine Fin.result' [.one (.i x_1)] (.inl rfl) rfl (.cons (.tmp rfl) .nil) ⟨rfl, rfl⟩
  · refine Tri.skip ?_
    refine Fin.keep [] [] (s' := ⟨[], []⟩) rfl ?_
    refine Fin.then ?_
    refine Tri.seq ?_
    refine Tri.regionL ?_
    refine OpsL.cons rfl (op_assign rfl) ?_
    refine OpsL.nilK [4] [] (s' := ⟨[(4, I 0)], []⟩) rfl ?_
    refine Tri.ret ?_
    obtain rfl := Option.some.inj h
    refine Fin.keep [4] [] (s' := ⟨[(4, I 0)], []⟩) rfl ?_
    refine Fin.result' [.one (.i 0)] (.inl rfl) rfl (.cons (.tmp rfl) .nil) ⟨rfl, rfl⟩

def skewbackref03_plus_S (F : Nat) (a0 : List Int) (b0 : List Int) : Option (List Int) :=
 Option.bind (iter F (un3 fun out_2 carry_3 k_4 => letN (max (a0.length : Int) (b0.length : Int)) fun x_6 => if (decide (k_4 < (IntKind.i64.wrap (x_6 + 1)))) = true then (Option.bind (skewbackref03_digit_S F a0 k_4) (fun x_7 => Option.bind (skewbackref03_digit_S F b0 k_4) (fun x_8 => letN (IntKind.i64.wrap ((IntKind.i64.wrap (x_7 + x_8)) + carry_3)) fun x_9 => Option.bind (app? out_2 [Int.tmod x_9 65536]) (fun x_10 => Option.bind (quo? .i64 x_9 65536) (fun x_11 => some (.inl (x_10, x_11, IntKind.i64.wrap (k_4 + 1)))))))) else (some (.inr out_2))) ([], 0, 0)) (fun out_1 => Option.bind (skewbackref03_trim_S F out_1) (fun x_12 => some x_12))
theorem skewbackref03_plus_spec {F : Nat} {a0 : List Int} {b0 : List Int} {r : (List Int)} (h : skewbackref03_plus_S F a0 b0 = some r) : Meets Tryd.prog tabs 54 [] [.one (.sl 1 (a0.map eI)), .one (.sl 1 (b0.map eI))] (Is [] (.b (.one (.sl 1 (r.map eI))))) := by
  unfold skewbackref03_plus_S at h
  refine Meets.intro 37 Tryd.func54 Tryd.ntmps54 rfl (by simp) fun E => ?_
  show Tri _ E ⟨37, [], []⟩ _ ⟨[(0, .b (.one (.sl 1 (a0.map eI)))), (1, .b (.one (.sl 1 (b0.map eI))))], []⟩ _
  refine Tri.seq ?_
  refine Tri.regionL ?_
  refine OpsL.cons rfl (op_assign rfl) ?_
  refine OpsL.nilK [0, 1] [] (s' := ⟨[(0, .b (.one (.sl 1 (a0.map eI)))), (1, .b (.one (.sl 1 (b0.map eI))))], []⟩) rfl ?_
  refine Tri.seq ?_
  refine Tri.regionL ?_
  refine OpsL.cons rfl (op_assign rfl) ?_
  refine OpsL.nilK [0, 1, 5] [] (s' := ⟨[(0, .b (.one (.sl 1 (a0.map eI)))), (1, .b (.one (.sl 1 (b0.map eI)))), (5, .b (.one (.nil)))], []⟩) rfl ?_
  refine Tri.seq ?_
  refine Tri.regionL ?_
  refine OpsL.cons rfl (op_assign rfl) ?_
  refine OpsL.nilK [0, 1, 5, 6] [] (s' := ⟨[(0, .b (.one (.sl 1 (a0.map eI)))), (1, .b (.one (.sl 1 (b0.map eI)))), (5, .b (.one (.nil))), (6, I 0)], []⟩) rfl ?_
  obtain ⟨v1, h2, h⟩ := bnd h
  refine Tri.seqJ (v := v1) (fun (out_1 : List Int) => ⟨[(5, .b (.row 102))], [(102, .row 3 1 (out_1.map eI))]⟩) (fun z => z) ?_ ?_
  · refine Tri.seq ?_
    refine Tri.regionL ?_
    refine OpsL.cons rfl (op_assign rfl) ?_
    refine OpsL.nilK [0, 1, 5, 6, 7] [] (s' := ⟨[(0, .b (.one (.sl 1 (a0.map eI)))), (1, .b (.one (.sl 1 (b0.map eI)))), (5, .b (.one (.nil))), (6, I 0), (7, I 0)], []⟩) rfl ?_
    refine Tri.block ?_
    refine Tri.keep [0, 1, 5, 6, 7] [] (s' := ⟨[(0, .b (.one (.sl 1 (a0.map eI)))), (1, .b (.one (.sl 1 (b0.map eI)))), (5, .b (.one (.nil))), (6, I 0), (7, I 0)], []⟩) rfl ?_
    refine Tri.nilrow 5 102 1 3 rfl (by decide) rfl ?_
    refine Tri.loopJ h2 (un3 fun (out_2 : List Int) (carry_3 : Int) (k_4 : Int) => ⟨[(0, .b (.one (.sl 1 (a0.map eI)))), (1, .b (.one (.sl 1 (b0.map eI)))), (5, .b (.row 102)), (6, I carry_3), (7, I k_4)], [(102, .row 3 1 (out_2.map eI))]⟩) [0, 1, 5, 6, 7] [102] rfl ?_
    rintro ⟨out_2, carry_3, k_4⟩ o3 h4 hy5
    refine Tri.seq ?_
    refine Tri.seq ?_
    refine Tri.regionL ?_
    refine OpsL.cons rfl (op_move rfl) ?_
    refine OpsL.cons rfl (op_move rfl) ?_
    refine OpsL.cons rfl (op_len_e' und54 rfl (List.length_map _)) ?_
    refine OpsL.cons rfl (op_move rfl) ?_
    refine OpsL.cons rfl (op_len_e' und54 rfl (List.length_map _)) ?_
    refine OpsL.keep [0, 1, 5, 6, 7, 9, 11, 13] [102] (s' := ⟨[(0, .b (.one (.sl 1 (a0.map eI)))), (1, .b (.one (.sl 1 (b0.map eI)))), (5, .b (.row 102)), (6, I carry_3), (7, I k_4), (9, I k_4), (11, I (a0.length : Int)), (13, I (b0.length : Int))], [(102, .row 3 1 (out_2.map eI))]⟩) rfl ?_
    refine OpsL.consI .i64 h4 rfl (op_max rfl rfl) (fun x_6 h4 => ?_)
    refine OpsL.cons rfl (op_add rfl rfl) ?_
    refine OpsL.cons rfl (op_lss rfl rfl) ?_
    refine OpsL.nilK [0, 1, 5, 6, 7, 16] [102] (s' := ⟨[(0, .b (.one (.sl 1 (a0.map eI)))), (1, .b (.one (.sl 1 (b0.map eI)))), (5, .b (.row 102)), (6, I carry_3), (7, I k_4), (16, B (decide (k_4 < (IntKind.i64.wrap (x_6 + 1)))))], [(102, .row 3 1 (out_2.map eI))]⟩) rfl ?_
    refine Tri.ite h4 rfl (fun _ h4 => ?_) (fun _ h4 => ?_)
    · refine Tri.skip ?_
      refine Fin.keep [0, 1, 5, 6, 7] [102] (s' := ⟨[(0, .b (.one (.sl 1 (a0.map eI)))), (1, .b (.one (.sl 1 (b0.map eI)))), (5, .b (.row 102)), (6, I carry_3), (7, I k_4)], [(102, .row 3 1 (out_2.map eI))]⟩) rfl ?_
      refine Fin.then ?_
      refine Tri.seq ?_
      refine Tri.block ?_
      refine Tri.seq ?_
      refine Tri.regionL ?_
      refine OpsL.cons rfl (op_move rfl) ?_
      refine OpsL.cons rfl (op_move rfl) ?_
      obtain ⟨x_7, e6, h4⟩ := bnd h4
      refine OpsL.cons rfl (op_call0 (skewbackref03_digit_spec e6) goes76 rfl rfl) ?_
      refine OpsL.cons rfl (op_move rfl) ?_
      refine OpsL.cons rfl (op_move rfl) ?_
      refine OpsL.keep [0, 1, 5, 6, 7, 21, 22, 23] [102] (s' := ⟨[(0, .b (.one (.sl 1 (a0.map eI)))), (1, .b (.one (.sl 1 (b0.map eI)))), (5, .b (.row 102)), (6, I carry_3), (7, I k_4), (21, I x_7), (22, .b (.one (.sl 1 (b0.map eI)))), (23, I k_4)], [(102, .row 3 1 (out_2.map eI))]⟩) rfl ?_
      obtain ⟨x_8, e7, h4⟩ := bnd h4
      refine OpsL.cons rfl (op_call0 (skewbackref03_digit_spec e7) goes76 rfl rfl) ?_
      refine OpsL.cons rfl (op_add rfl rfl) ?_
      refine OpsL.cons rfl (op_move rfl) ?_
      refine OpsL.consI .i64 h4 rfl (op_add rfl rfl) (fun x_9 h4 => ?_)
      refine OpsL.cons rfl (op_assign rfl) ?_
      refine OpsL.nilK [0, 1, 5, 7, 8] [102] (s' := ⟨[(0, .b (.one (.sl 1 (a0.map eI)))), (1, .b (.one (.sl 1 (b0.map eI)))), (5, .b (.row 102)), (7, I k_4), (8, I x_9)], [(102, .row 3 1 (out_2.map eI))]⟩) rfl ?_
      refine Tri.seq ?_
      refine Tri.regionL ?_
      refine OpsL.cons rfl (op_move rfl) ?_
      refine OpsL.cons rfl (op_move rfl) ?_
      refine OpsL.cons rfl (op_rem (by decide) rfl rfl) ?_
      refine OpsL.cons rfl (op_buildSlice (k := 103) (es := [Int.tmod x_9 65536].map eI) tySl54 rfl rfl (uni_map fun _ => rfl) rfl (by decide) (by decide) rfl) ?_
      obtain ⟨x_10, e8, h4⟩ := bnd h4
      refine OpsL.cons rfl (op_append_r tySl54 (app_b e8) (app_m e8) rfl rfl rfl rfl (app_map e8) rfl) ?_
      refine OpsL.cons rfl (op_assign rfl) ?_
      refine OpsL.nilK [0, 1, 5, 7, 8] [102] (s' := ⟨[(0, .b (.one (.sl 1 (a0.map eI)))), (1, .b (.one (.sl 1 (b0.map eI)))), (5, .b (.row 102)), (7, I k_4), (8, I x_9)], [(102, .row 3 1 (x_10.map eI))]⟩) rfl ?_
      refine Tri.regionL ?_
      refine OpsL.cons rfl (op_move rfl) ?_
      obtain ⟨x_11, e9, h4⟩ := bnd h4
      refine OpsL.cons rfl (op_quo2 e9 rfl rfl) ?_
      refine OpsL.cons rfl (op_assign rfl) ?_
      refine OpsL.nil ?_
      refine Fin.block_normal ?_
      refine Fin.keep [0, 1, 5, 6, 7] [102] (s' := ⟨[(0, .b (.one (.sl 1 (a0.map eI)))), (1, .b (.one (.sl 1 (b0.map eI)))), (5, .b (.row 102)), (6, I x_11), (7, I k_4)], [(102, .row 3 1 (x_10.map eI))]⟩) rfl ?_
      refine Fin.then ?_
      refine Tri.regionL ?_
      refine OpsL.cons rfl (op_move rfl) ?_
      refine OpsL.cons rfl (op_add rfl rfl) ?_
      refine OpsL.cons rfl (op_assign rfl) ?_
      refine OpsL.nil ?_
      exact Fin.againJ [0, 1, 5, 6, 7] [102] (x_10, x_11, IntKind.i64.wrap (k_4 + 1)) (Option.some.inj h4) rfl
    · refine Tri.exit ?_
      refine Fin.then_exit ?_
      obtain rfl := hy5 _ (Option.some.inj h4).symm
      refine Fin.then_exit ?_
      refine Fin.block_exit ?_
      exact Fin.join [5] [102] out_2 rfl rfl
  · rintro out_1 hv
    subst v1
    refine Tri.seq ?_
    refine Tri.regionL ?_
    refine OpsL.cons rfl (op_move rfl) ?_
    refine OpsL.persist 102 rfl ?_
    obtain ⟨x_12, e10, h⟩ := bnd h
    refine OpsL.cons rfl (op_call0 (skewbackref03_trim_spec e10) goes70 rfl rfl) ?_
    refine OpsL.cons rfl (op_assign rfl) ?_
    refine OpsL.nilK [4] [] (s' := ⟨[(4, .b (.one (.sl 1 (x_12.map eI))))], []⟩) rfl ?_
    refine Tri.ret ?_
    obtain rfl := Option.some.inj h
    refine Fin.keep [4] [] (s' := ⟨[(4, .b (.one (.sl 1 (x_12.map eI))))], []⟩) rfl ?_
    refine Fin.result' [.one (.sl 1 (x_12.map eI))] (.inl rfl) rfl (.cons (.tmp rfl) .nil) ⟨rfl, rfl⟩

def skewbackref03_Of_S (F : Nat) (n0 : Int) : Option Big :=
 if (decide (0 ≤ n0)) = true then (Option.bind (quo? .i64 n0 65536) (fun x_1 => Option.bind (quo? .i64 n0 4294967296) (fun x_2 => Option.bind (quo? .i64 n0 281474976710656) (fun x_3 => Option.bind (skewbackref03_number_S F false [Int.tmod n0 65536, Int.tmod x_1 65536, Int.tmod x_2 65536, x_3]) (fun x_4 => some x_4))))) else (letN (IntKind.i64.wrap (-(IntKind.i64.wrap (n0 + 1)))) fun x_5 => Option.bind (quo? .i64 x_5 65536) (fun x_6 => Option.bind (quo? .i64 x_5 4294967296) (fun x_7 => Option.bind (quo? .i64 x_5 281474976710656) (fun x_8 => Option.bind (skewbackref03_plus_S F [Int.tmod x_5 65536, Int.tmod x_6 65536, Int.tmod x_7 65536, x_8] [1]) (fun x_9 => Option.bind (skewbackref03_number_S F true x_9) (fun x_10 => some x_10))))))
theorem skewbackref03_Of_spec {F : Nat} {n0 : Int} {r : Big} (h : skewbackref03_Of_S F n0 = some r) : Meets Tryd.prog tabs 50 [] [.one (.i n0)] (Is [] (.b (.agg (eBig r)))) := by
  unfold skewbackref03_Of_S at h
  refine Meets.intro 35 Tryd.func50 Tryd.ntmps50 rfl (by simp) fun E => ?_
  show Tri _ E ⟨35, [], []⟩ _ ⟨[(0, I n0)], []⟩ _
  refine Tri.seq ?_
  refine Tri.regionL ?_
  refine OpsL.cons rfl (op_alloc (k := 101) tyZero25 rfl) ?_
  refine OpsL.nilK [0, 2] [101] (s' := ⟨[(0, I n0), (2, .b (.ptr 101 0))], [(101, .box 25 (.bool false :: .bool false :: ((eA16 .u32) A16.zero)))]⟩) rfl ?_
  refine Tri.seq ?_
  refine Tri.seq ?_
  refine Tri.regionL ?_
  refine OpsL.cons rfl (op_move rfl) ?_
  refine OpsL.cons rfl (op_geq rfl rfl) ?_
  refine OpsL.nilK [0, 2, 5] [101] (s' := ⟨[(0, I n0), (2, .b (.ptr 101 0)), (5, B (decide (0 ≤ n0)))], [(101, .box 25 (.bool false :: .bool false :: ((eA16 .u32) A16.zero)))]⟩) rfl ?_
  refine Tri.ite h rfl (fun _ h => ?_) (fun _ h => ?_)
  · refine Tri.seq ?_
    refine Tri.regionL ?_
    refine OpsL.cons rfl (op_move rfl) ?_
    refine OpsL.cons rfl (op_rem (by decide) rfl rfl) ?_
    refine OpsL.cons rfl (op_move rfl) ?_
    obtain ⟨x_1, e1, h⟩ := bnd h
    refine OpsL.cons rfl (op_quo2 e1 rfl rfl) ?_
    refine OpsL.cons rfl (op_rem (by decide) rfl rfl) ?_
    refine OpsL.cons rfl (op_move rfl) ?_
    obtain ⟨x_2, e2, h⟩ := bnd h
    refine OpsL.cons rfl (op_quo2 e2 rfl rfl) ?_
    refine OpsL.keep [0, 2, 7, 10, 12] [101] (s' := ⟨[(0, I n0), (2, .b (.ptr 101 0)), (7, I (Int.tmod n0 65536)), (10, I (Int.tmod x_1 65536)), (12, I x_2)], [(101, .box 25 (.bool false :: .bool false :: ((eA16 .u32) A16.zero)))]⟩) rfl ?_
    refine OpsL.cons rfl (op_rem (by decide) rfl rfl) ?_
    refine OpsL.cons rfl (op_move rfl) ?_
    obtain ⟨x_3, e3, h⟩ := bnd h
    refine OpsL.cons rfl (op_quo2 e3 rfl rfl) ?_
    refine OpsL.cons rfl (op_buildSlice (k := 102) (es := [Int.tmod n0 65536, Int.tmod x_1 65536, Int.tmod x_2 65536, x_3].map eI) tySl54 rfl rfl (uni_map fun _ => rfl) rfl (by decide) (by decide) rfl) ?_
    obtain ⟨x_4, e4, h⟩ := bnd h
    refine OpsL.cons rfl (op_callB (skewbackref03_number_spec e4) goes53 rfl (flat_agg ⟨CP.flat_bool, CP.flat_bool, CP.flat_int, CP.flat_int, CP.flat_int, CP.flat_int, CP.flat_int, CP.flat_int, CP.flat_int, CP.flat_int, CP.flat_int, CP.flat_int, CP.flat_int, CP.flat_int, CP.flat_int, CP.flat_int, CP.flat_int, CP.flat_int, trivial⟩)) ?_
    refine OpsL.cons rfl (op_store_p tyAgg25 rfl rfl rfl rfl (Nat.le_of_ble_eq_true rfl) rfl) ?_
    refine OpsL.nilK [2] [101] (s' := ⟨[(2, .b (.ptr 101 0))], [(101, .box 25 (eBig x_4))]⟩) rfl ?_
    refine Tri.ret ?_
    refine Fin.then_ret ?_
    obtain rfl := Option.some.inj h
    refine Fin.keep [2] [101] (s' := ⟨[(2, .b (.ptr 101 0))], [(101, .box 25 (eBig x_4))]⟩) rfl ?_
    refine Fin.result' [.agg (eBig x_4)] (.inl rfl) rfl (.cons (.agg tyAgg25 rfl rfl rfl rfl) .nil) ⟨rfl, rfl⟩
  · refine Tri.skip ?_
    refine Fin.keep [0, 2] [101] (s' := ⟨[(0, I n0), (2, .b (.ptr 101 0))], [(101, .box 25 (.bool false :: .bool false :: ((eA16 .u32) A16.zero)))]⟩) rfl ?_
    refine Fin.then ?_
    refine Tri.seq ?_
    refine Tri.regionL ?_
    refine OpsL.cons rfl (op_move rfl) ?_
    refine OpsL.cons rfl (op_add rfl rfl) ?_
    refine OpsL.consI .i64 h rfl (op_neg rfl) (fun x_5 h => ?_)
    refine OpsL.cons rfl (op_assign rfl) ?_
    refine OpsL.nilK [2, 3] [101] (s' := ⟨[(2, .b (.ptr 101 0)), (3, I x_5)], [(101, .box 25 (.bool false :: .bool false :: ((eA16 .u32) A16.zero)))]⟩) rfl ?_
    refine Tri.seq ?_
    refine Tri.regionL ?_
    refine OpsL.cons rfl (op_move rfl) ?_
    refine OpsL.cons rfl (op_rem (by decide) rfl rfl) ?_
    refine OpsL.cons rfl (op_move rfl) ?_
    obtain ⟨x_6, e5, h⟩ := bnd h
    refine OpsL.cons rfl (op_quo2 e5 rfl rfl) ?_
    refine OpsL.cons rfl (op_rem (by decide) rfl rfl) ?_
    refine OpsL.cons rfl (op_move rfl) ?_
    obtain ⟨x_7, e6, h⟩ := bnd h
    refine OpsL.cons rfl (op_quo2 e6 rfl rfl) ?_
    refine OpsL.keep [2, 3, 22, 25, 27] [101] (s' := ⟨[(2, .b (.ptr 101 0)), (3, I x_5), (22, I (Int.tmod x_5 65536)), (25, I (Int.tmod x_6 65536)), (27, I x_7)], [(101, .box 25 (.bool false :: .bool false :: ((eA16 .u32) A16.zero)))]⟩) rfl ?_
    refine OpsL.cons rfl (op_rem (by decide) rfl rfl) ?_
    refine OpsL.cons rfl (op_move rfl) ?_
    obtain ⟨x_8, e7, h⟩ := bnd h
    refine OpsL.cons rfl (op_quo2 e7 rfl rfl) ?_
    refine OpsL.cons rfl (op_buildSlice (k := 103) (es := [Int.tmod x_5 65536, Int.tmod x_6 65536, Int.tmod x_7 65536, x_8].map eI) tySl54 rfl rfl (uni_map fun _ => rfl) rfl (by decide) (by decide) rfl) ?_
    refine OpsL.cons rfl (op_buildSlice (k := 104) (es := [1].map eI) tySl54 rfl rfl (uni_map fun _ => rfl) rfl (by decide) (by decide) rfl) ?_
    refine OpsL.persist 103 rfl ?_
    refine OpsL.persist 104 rfl ?_
    refine OpsL.keep [2, 31, 32] [101] (s' := ⟨[(2, .b (.ptr 101 0)), (31, .b (.one (.sl 1 ([Int.tmod x_5 65536, Int.tmod x_6 65536, Int.tmod x_7 65536, x_8].map eI)))), (32, .b (.one (.sl 1 ([1].map eI))))], [(101, .box 25 (.bool false :: .bool false :: ((eA16 .u32) A16.zero)))]⟩) rfl ?_
    obtain ⟨x_9, e8, h⟩ := bnd h
    refine OpsL.cons rfl (op_call0 (skewbackref03_plus_spec e8) goes54 rfl rfl) ?_
    obtain ⟨x_10, e9, h⟩ := bnd h
    refine OpsL.cons rfl (op_call0 (skewbackref03_number_spec e9) goes53 rfl rfl) ?_
    refine OpsL.cons rfl (op_store_p tyAgg25 rfl rfl rfl rfl (Nat.le_of_ble_eq_true rfl) rfl) ?_
    refine OpsL.nilK [2] [101] (s' := ⟨[(2, .b (.ptr 101 0))], [(101, .box 25 (eBig x_10))]⟩) rfl ?_
    refine Tri.ret ?_
    obtain rfl := Option.some.inj h
    refine Fin.keep [2] [101] (s' := ⟨[(2, .b (.ptr 101 0))], [(101, .box 25 (eBig x_10))]⟩) rfl ?_
    refine Fin.result' [.agg (eBig x_10)] (.inl rfl) rfl (.cons (.agg tyAgg25 rfl rfl rfl rfl) .nil) ⟨rfl, rfl⟩

def skewbackref03_digits_S (F : Nat) (x0 : Big) : Option (List Int) :=
 Option.bind (iter F (un2 fun out_2 k_3 => if (decide (k_3 < 16)) = true then (Option.bind (idx? x0.W.l k_3) (fun x_5 => Option.bind (idx? x0.W.l k_3) (fun x_6 => Option.bind (quo? .u32 x_6 65536) (fun x_7 => Option.bind (app? out_2 [IntKind.i64.wrap (Int.tmod x_5 65536), IntKind.i64.wrap x_7]) (fun x_8 => some (.inl (x_8, IntKind.i64.wrap (k_3 + 1)))))))) else (some (.inr out_2))) ([], 0)) (fun out_1 => Option.bind (skewbackref03_trim_S F out_1) (fun x_9 => some x_9))
theorem skewbackref03_digits_spec {F : Nat} {x0 : Big} {r : (List Int)} (h : skewbackref03_digits_S F x0 = some r) : Meets Tryd.prog tabs 52 [] [.agg (eBig x0)] (Is [] (.b (.one (.sl 1 (r.map eI))))) := by
  unfold skewbackref03_digits_S at h
  refine Meets.intro 26 Tryd.func52 Tryd.ntmps52 rfl (by simp) fun E => ?_
  show Tri _ E ⟨26, [], []⟩ _ ⟨[(0, .b (.agg (eBig x0)))], []⟩ _
  refine Tri.seq ?_
  refine Tri.regionL ?_
  refine OpsL.cons rfl (op_box (k := 101) rfl rfl) ?_
  refine OpsL.cons rfl (op_assign rfl) ?_
  refine OpsL.nilK [1] [101] (s' := ⟨[(1, .b (.ptr 101 0))], [(101, .box 25 (eBig x0))]⟩) rfl ?_
  refine Tri.seq ?_
  refine Tri.regionL ?_
  refine OpsL.cons rfl (op_assign rfl) ?_
  refine OpsL.nilK [1, 3] [101] (s' := ⟨[(1, .b (.ptr 101 0)), (3, .b (.one (.nil)))], [(101, .box 25 (eBig x0))]⟩) rfl ?_
  obtain ⟨v1, h2, h⟩ := bnd h
  refine Tri.seqJ (v := v1) (fun (out_1 : List Int) => ⟨[(3, .b (.row 103))], [(103, .row 3 1 (out_1.map eI))]⟩) (fun z => z) ?_ ?_
  · refine Tri.seq ?_
    refine Tri.regionL ?_
    refine OpsL.cons rfl (op_assign rfl) ?_
    refine OpsL.nilK [1, 3, 4] [101] (s' := ⟨[(1, .b (.ptr 101 0)), (3, .b (.one (.nil))), (4, I 0)], [(101, .box 25 (eBig x0))]⟩) rfl ?_
    refine Tri.block ?_
    refine Tri.keep [1, 3, 4] [101] (s' := ⟨[(1, .b (.ptr 101 0)), (3, .b (.one (.nil))), (4, I 0)], [(101, .box 25 (eBig x0))]⟩) rfl ?_
    refine Tri.nilrow 3 103 1 3 rfl (by decide) rfl ?_
    refine Tri.loopJ h2 (un2 fun (out_2 : List Int) (k_3 : Int) => ⟨[(1, .b (.ptr 101 0)), (3, .b (.row 103)), (4, I k_3)], [(101, .box 25 (eBig x0)), (103, .row 3 1 (out_2.map eI))]⟩) [1, 3, 4] [101, 103] rfl ?_
    rintro ⟨out_2, k_3⟩ o3 h4 hy5
    refine Tri.seq ?_
    refine Tri.seq ?_
    refine Tri.regionL ?_
    refine OpsL.cons rfl (op_move rfl) ?_
    refine OpsL.cons rfl (op_lss rfl rfl) ?_
    refine OpsL.nilK [1, 3, 4, 6] [101, 103] (s' := ⟨[(1, .b (.ptr 101 0)), (3, .b (.row 103)), (4, I k_3), (6, B (decide (k_3 < 16)))], [(101, .box 25 (eBig x0)), (103, .row 3 1 (out_2.map eI))]⟩) rfl ?_
    refine Tri.ite h4 rfl (fun _ h4 => ?_) (fun _ h4 => ?_)
    · refine Tri.skip ?_
      refine Fin.keep [1, 3, 4] [101, 103] (s' := ⟨[(1, .b (.ptr 101 0)), (3, .b (.row 103)), (4, I k_3)], [(101, .box 25 (eBig x0)), (103, .row 3 1 (out_2.map eI))]⟩) rfl ?_
      refine Fin.then ?_
      refine Tri.seq ?_
      refine Tri.block ?_
      refine Tri.keep [1, 3, 4] [101, 103] (s' := ⟨[(1, .b (.ptr 101 0)), (3, .b (.row 103)), (4, I k_3)], [(101, .box 25 (eBig x0)), (103, .row 3 1 (out_2.map eI))]⟩) rfl ?_
      obtain ⟨x_5, e6, h4⟩ := bnd h4
      obtain ⟨x_6, e7, h4⟩ := bnd h4
      obtain ⟨x_7, e8, h4⟩ := bnd h4
      obtain ⟨x_8, e9, h4⟩ := bnd h4
      refine Tri.regionYF mixed 14 [.b (.row 103), I k_3, .b (.ptr 101 2), .b (.ptr 101 (2 + (k_3 : Int).toNat * 1)), .b (.one (.int .u32 x_5)), .b (.one (.int .u32 (Int.tmod x_5 65536))), I (IntKind.i64.wrap (Int.tmod x_5 65536)), I k_3, .b (.ptr 101 2), .b (.ptr 101 (2 + (k_3 : Int).toNat * 1)), .b (.one (.int .u32 x_6)), .b (.one (.int .u32 x_7)), I (IntKind.i64.wrap x_7), .b (.one (.sl 1 ([IntKind.i64.wrap (Int.tmod x_5 65536), IntKind.i64.wrap x_7].map eI)))] [1, 3, 4] [101, 103] (s' := ⟨[(1, .b (.ptr 101 0)), (3, .b (.row 103)), (4, I k_3)], [(101, .box 25 (eBig x0)), (103, .row 3 1 (x_8.map eI))]⟩) rfl ⟨fun _ => .plain rfl (op_move rfl), fun _ => .plain rfl (op_move rfl), fun _ => .plain rfl (op_field_p tyFld25_2 rfl rfl), fun _ => .plain rfl (op_index_p tyArr23 (ix_lo e6) (ix_hi e6) rfl rfl rfl), fun _ => .plain rfl (op_load_p1 tyOne22 rfl rfl (arr_get (post := []) (k := .u32) [.bool x0.Bad, .bool x0.Neg] e6 rfl rfl rfl)), fun _ => .plain rfl (op_rem (by decide) rfl rfl), fun _ => .plain rfl (op_conv_wrap undi22 undi3 rfl), fun _ => .plain rfl (op_move rfl), fun _ => .plain rfl (op_field_p tyFld25_2 rfl rfl), fun _ => .plain rfl (op_index_p tyArr23 (ix_lo e7) (ix_hi e7) rfl rfl rfl), fun _ => .plain rfl (op_load_p1 tyOne22 rfl rfl (arr_get (post := []) (k := .u32) [.bool x0.Bad, .bool x0.Neg] e7 rfl rfl rfl)), fun _ => .plain rfl (op_quo2 e8 rfl rfl), fun _ => .plain rfl (op_conv_wrap undi22 undi3 rfl), fun _ => .plain rfl (op_buildSliceP (es := [IntKind.i64.wrap (Int.tmod x_5 65536), IntKind.i64.wrap x_7].map eI) tySl54 rfl rfl (uni_map fun _ => rfl) rfl (by decide) (by decide)), trivial⟩ ⟨_, by exact .plain rfl (op_append tySl54 (app_b e9) (app_m e9) rfl rfl rfl (app_map e9) rfl), ⟨_, by exact .plain rfl (op_assign rfl), rfl⟩⟩ rfl ?_
      refine Fin.block_normal ?_
      refine Fin.keep [1, 3, 4] [101, 103] (s' := ⟨[(1, .b (.ptr 101 0)), (3, .b (.row 103)), (4, I k_3)], [(101, .box 25 (eBig x0)), (103, .row 3 1 (x_8.map eI))]⟩) rfl ?_
      refine Fin.then ?_
      refine Tri.regionL ?_
      refine OpsL.cons rfl (op_move rfl) ?_
      refine OpsL.cons rfl (op_add rfl rfl) ?_
      refine OpsL.cons rfl (op_assign rfl) ?_
      refine OpsL.nil ?_
      exact Fin.againJ [1, 3, 4] [101, 103] (x_8, IntKind.i64.wrap (k_3 + 1)) (Option.some.inj h4) rfl
    · refine Tri.exit ?_
      refine Fin.then_exit ?_
      obtain rfl := hy5 _ (Option.some.inj h4).symm
      refine Fin.then_exit ?_
      refine Fin.block_exit ?_
      exact Fin.join [3] [103] out_2 rfl rfl
  · rintro out_1 hv
    subst v1
    refine Tri.seq ?_
    refine Tri.regionL ?_
    refine OpsL.cons rfl (op_move rfl) ?_
    refine OpsL.persist 103 rfl ?_
    obtain ⟨x_9, e10, h⟩ := bnd h
    refine OpsL.cons rfl (op_call0 (skewbackref03_trim_spec e10) goes70 rfl rfl) ?_
    refine OpsL.cons rfl (op_assign rfl) ?_
    refine OpsL.nilK [2] [] (s' := ⟨[(2, .b (.one (.sl 1 (x_9.map eI))))], []⟩) rfl ?_
    refine Tri.ret ?_
    obtain rfl := Option.some.inj h
    refine Fin.keep [2] [] (s' := ⟨[(2, .b (.one (.sl 1 (x_9.map eI))))], []⟩) rfl ?_
    refine Fin.result' [.one (.sl 1 (x_9.map eI))] (.inl rfl) rfl (.cons (.tmp rfl) .nil) ⟨rfl, rfl⟩

def skewbackref03_times_S (F : Nat) (a0 : List Int) (b0 : List Int) : Option (List Int) :=
 letN (IntKind.i64.wrap ((a0.length : Int) + (b0.length : Int))) fun x_1 => Option.bind (mk? (0 : Int) (IntKind.i64.wrap (x_1 + 1)) (IntKind.i64.wrap (x_1 + 1))) (fun x_2 => Option.bind (iter F (un2 fun out_4 i_5 => if (decide (i_5 < (a0.length : Int))) = true then (Option.bind (Option.bind (iter F (un2 fun out_9 k_10 => if (decide (k_10 < (b0.length : Int))) = true then (Option.bind (idx? out_9 (IntKind.i64.wrap (i_5 + k_10))) (fun x_12 => Option.bind (idx? a0 i_5) (fun x_13 => Option.bind (idx? b0 k_10) (fun x_14 => Option.bind (idx? out_9 (IntKind.i64.wrap (i_5 + k_10))) (fun x_15 => some (.inl (out_9.set (IntKind.i64.wrap (i_5 + k_10) : Int).toNat (IntKind.i64.wrap (x_12 + (IntKind.i64.wrap (x_13 * x_14)))), IntKind.i64.wrap (k_10 + 1)))))))) else (some (.inr out_9))) (out_4, 0)) (fun out_8 => Option.bind (iter F (un3 fun out_16 carry_17 k_18 => if (decide (k_18 < (out_16.length : Int))) = true then (Option.bind (idx? out_16 k_18) (fun x_20 => letN (Int.tmod (IntKind.i64.wrap (x_20 + carry_17)) 65536) fun x_21 => Option.bind (idx? out_16 k_18) (fun x_22 => Option.bind (quo? .i64 (IntKind.i64.wrap (x_20 + carry_17)) 65536) (fun x_23 => some (.inl (out_16.set (k_18 : Int).toNat x_21, x_23, IntKind.i64.wrap (k_18 + 1))))))) else (some (.inr out_16))) (out_8, 0, 0)) (fun out_19 => some out_19))) (fun out_7 => some (.inl (out_7, IntKind.i64.wrap (i_5 + 1))))) else (some (.inr out_4))) (x_2, 0)) (fun out_3 => Option.bind (skewbackref03_trim_S F out_3) (fun x_24 => some x_24)))
theorem skewbackref03_times_spec {F : Nat} {a0 : List Int} {b0 : List Int} {r : (List Int)} (h : skewbackref03_times_S F a0 b0 = some r) : Meets Tryd.prog tabs 61 [] [.one (.sl 1 (a0.map eI)), .one (.sl 1 (b0.map eI))] (Is [] (.b (.one (.sl 1 (r.map eI))))) := by
  unfold skewbackref03_times_S at h
  refine Meets.intro 72 Tryd.func61 Tryd.ntmps61 rfl (by simp) fun E => ?_
  show Tri _ E ⟨72, [], []⟩ _ ⟨[(0, .b (.one (.sl 1 (a0.map eI)))), (1, .b (.one (.sl 1 (b0.map eI))))], []⟩ _
  refine Tri.seq ?_
  refine Tri.regionL ?_
  refine OpsL.cons rfl (op_assign rfl) ?_
  refine OpsL.nilK [0, 1] [] (s' := ⟨[(0, .b (.one (.sl 1 (a0.map eI)))), (1, .b (.one (.sl 1 (b0.map eI))))], []⟩) rfl ?_
  refine Tri.seq ?_
  refine Tri.regionL ?_
  refine OpsL.cons rfl (op_move rfl) ?_
  refine OpsL.cons rfl (op_len_e' und54 rfl (List.length_map _)) ?_
  refine OpsL.cons rfl (op_move rfl) ?_
  refine OpsL.cons rfl (op_len_e' und54 rfl (List.length_map _)) ?_
  refine OpsL.consI .i64 h rfl (op_add rfl rfl) (fun x_1 h => ?_)
  refine OpsL.keep [0, 1, 15] [] (s' := ⟨[(0, .b (.one (.sl 1 (a0.map eI)))), (1, .b (.one (.sl 1 (b0.map eI)))), (15, I x_1)], []⟩) rfl ?_
  refine OpsL.cons rfl (op_add rfl rfl) ?_
  obtain ⟨x_2, e1, h⟩ := bnd h
  refine OpsL.cons rfl (op_makeSlice (k := 101) (enc := eI) tySl54 e1 (by decide) (.cons .refl .nil) rfl rfl rfl) ?_
  refine OpsL.cons rfl (op_assign rfl) ?_
  refine OpsL.nilK [0, 1, 5] [101] (s' := ⟨[(0, .b (.one (.sl 1 (a0.map eI)))), (1, .b (.one (.sl 1 (b0.map eI)))), (5, .b (.row 101))], [(101, .row 3 1 (x_2.map eI))]⟩) rfl ?_
  obtain ⟨v2, h3, h⟩ := bnd h
  refine Tri.seqJ (v := v2) (fun (out_3 : List Int) => ⟨[(5, .b (.row 101))], [(101, .row 3 1 (out_3.map eI))]⟩) (fun z => z) ?_ ?_
  · refine Tri.seq ?_
    refine Tri.regionL ?_
    refine OpsL.cons rfl (op_assign rfl) ?_
    refine OpsL.nilK [0, 1, 5, 6] [101] (s' := ⟨[(0, .b (.one (.sl 1 (a0.map eI)))), (1, .b (.one (.sl 1 (b0.map eI)))), (5, .b (.row 101)), (6, I 0)], [(101, .row 3 1 (x_2.map eI))]⟩) rfl ?_
    refine Tri.block ?_
    refine Tri.loopJ h3 (un2 fun (out_4 : List Int) (i_5 : Int) => ⟨[(0, .b (.one (.sl 1 (a0.map eI)))), (1, .b (.one (.sl 1 (b0.map eI)))), (5, .b (.row 101)), (6, I i_5)], [(101, .row 3 1 (out_4.map eI))]⟩) [0, 1, 5, 6] [101] rfl ?_
    rintro ⟨out_4, i_5⟩ o4 h5 hy6
    refine Tri.seq ?_
    refine Tri.seq ?_
    refine Tri.regionL ?_
    refine OpsL.cons rfl (op_move rfl) ?_
    refine OpsL.cons rfl (op_move rfl) ?_
    refine OpsL.cons rfl (op_len_e' und54 rfl (List.length_map _)) ?_
    refine OpsL.cons rfl (op_lss rfl rfl) ?_
    refine OpsL.nilK [0, 1, 5, 6, 21] [101] (s' := ⟨[(0, .b (.one (.sl 1 (a0.map eI)))), (1, .b (.one (.sl 1 (b0.map eI)))), (5, .b (.row 101)), (6, I i_5), (21, B (decide (i_5 < (a0.length : Int))))], [(101, .row 3 1 (out_4.map eI))]⟩) rfl ?_
    refine Tri.ite h5 rfl (fun _ h5 => ?_) (fun _ h5 => ?_)
    · refine Tri.skip ?_
      refine Fin.keep [0, 1, 5, 6] [101] (s' := ⟨[(0, .b (.one (.sl 1 (a0.map eI)))), (1, .b (.one (.sl 1 (b0.map eI)))), (5, .b (.row 101)), (6, I i_5)], [(101, .row 3 1 (out_4.map eI))]⟩) rfl ?_
      refine Fin.then ?_
      obtain ⟨v7, h8, h5⟩ := bnd h5
      refine Tri.seqJ (v := v7) (fun (out_7 : List Int) => ⟨[(0, .b (.one (.sl 1 (a0.map eI)))), (1, .b (.one (.sl 1 (b0.map eI)))), (5, .b (.row 101)), (6, I i_5)], [(101, .row 3 1 (out_7.map eI))]⟩) (fun z => z) ?_ ?_
      · refine Tri.block ?_
        obtain ⟨v9, h10, h8⟩ := bnd h8
        refine Tri.seqJ (v := v9) (fun (out_8 : List Int) => ⟨[(0, .b (.one (.sl 1 (a0.map eI)))), (1, .b (.one (.sl 1 (b0.map eI)))), (5, .b (.row 101)), (6, I i_5)], [(101, .row 3 1 (out_8.map eI))]⟩) (fun z => z) ?_ ?_
        · refine Tri.seq ?_
          refine Tri.regionL ?_
          refine OpsL.cons rfl (op_assign rfl) ?_
          refine OpsL.nilK [0, 1, 5, 6, 7] [101] (s' := ⟨[(0, .b (.one (.sl 1 (a0.map eI)))), (1, .b (.one (.sl 1 (b0.map eI)))), (5, .b (.row 101)), (6, I i_5), (7, I 0)], [(101, .row 3 1 (out_4.map eI))]⟩) rfl ?_
          refine Tri.block ?_
          refine Tri.loopJ h10 (un2 fun (out_9 : List Int) (k_10 : Int) => ⟨[(0, .b (.one (.sl 1 (a0.map eI)))), (1, .b (.one (.sl 1 (b0.map eI)))), (5, .b (.row 101)), (6, I i_5), (7, I k_10)], [(101, .row 3 1 (out_9.map eI))]⟩) [0, 1, 5, 6, 7] [101] rfl ?_
          rintro ⟨out_9, k_10⟩ o11 h12 hy13
          refine Tri.seq ?_
          refine Tri.seq ?_
          refine Tri.regionL ?_
          refine OpsL.cons rfl (op_move rfl) ?_
          refine OpsL.cons rfl (op_move rfl) ?_
          refine OpsL.cons rfl (op_len_e' und54 rfl (List.length_map _)) ?_
          refine OpsL.cons rfl (op_lss rfl rfl) ?_
          refine OpsL.nilK [0, 1, 5, 6, 7, 27] [101] (s' := ⟨[(0, .b (.one (.sl 1 (a0.map eI)))), (1, .b (.one (.sl 1 (b0.map eI)))), (5, .b (.row 101)), (6, I i_5), (7, I k_10), (27, B (decide (k_10 < (b0.length : Int))))], [(101, .row 3 1 (out_9.map eI))]⟩) rfl ?_
          refine Tri.ite h12 rfl (fun _ h12 => ?_) (fun _ h12 => ?_)
          · refine Tri.skip ?_
            refine Fin.keep [0, 1, 5, 6, 7] [101] (s' := ⟨[(0, .b (.one (.sl 1 (a0.map eI)))), (1, .b (.one (.sl 1 (b0.map eI)))), (5, .b (.row 101)), (6, I i_5), (7, I k_10)], [(101, .row 3 1 (out_9.map eI))]⟩) rfl ?_
            refine Fin.then ?_
            refine Tri.seq ?_
            refine Tri.block ?_
            refine Tri.keep [0, 1, 5, 6, 7] [101] (s' := ⟨[(0, .b (.one (.sl 1 (a0.map eI)))), (1, .b (.one (.sl 1 (b0.map eI)))), (5, .b (.row 101)), (6, I i_5), (7, I k_10)], [(101, .row 3 1 (out_9.map eI))]⟩) rfl ?_
            obtain ⟨x_12, e14, h12⟩ := bnd h12
            obtain ⟨x_13, e15, h12⟩ := bnd h12
            obtain ⟨x_14, e16, h12⟩ := bnd h12
            obtain ⟨x_15, e17, h12⟩ := bnd h12
            refine Tri.regionYF mixed 21 [.b (.row 101), I i_5, I k_10, I (IntKind.i64.wrap (i_5 + k_10)), .b (.row 101), I i_5, I k_10, I (IntKind.i64.wrap (i_5 + k_10)), .b (.rptr 101 ((IntKind.i64.wrap (i_5 + k_10) : Int).toNat * 1)), I x_12, .b (.one (.sl 1 (a0.map eI))), I i_5, .b (.eptr [.i x_13]), I x_13, .b (.one (.sl 1 (b0.map eI))), I k_10, .b (.eptr [.i x_14]), I x_14, I (IntKind.i64.wrap (x_13 * x_14)), I (IntKind.i64.wrap (x_12 + (IntKind.i64.wrap (x_13 * x_14)))), .b (.rptr 101 ((IntKind.i64.wrap (i_5 + k_10) : Int).toNat * 1))] [0, 1, 5, 6, 7] [101] (s' := ⟨[(0, .b (.one (.sl 1 (a0.map eI)))), (1, .b (.one (.sl 1 (b0.map eI)))), (5, .b (.row 101)), (6, I i_5), (7, I k_10)], [(101, .row 3 1 ((out_9.set (IntKind.i64.wrap (i_5 + k_10) : Int).toNat (IntKind.i64.wrap (x_12 + (IntKind.i64.wrap (x_13 * x_14))))).map eI))]⟩) rfl ⟨fun _ => .plain rfl (op_move rfl), fun _ => .plain rfl (op_move rfl), fun _ => .plain rfl (op_move rfl), fun _ => .plain rfl (op_add rfl rfl), fun _ => .plain rfl (op_move rfl), fun _ => .plain rfl (op_move rfl), fun _ => .plain rfl (op_move rfl), fun _ => .plain rfl (op_add rfl rfl), fun _ => .plain rfl (op_index_r tySl54 (ix_lo e14) (ix_lt' e14) rfl rfl rfl rfl), fun _ => .plain rfl (op_load_r1 (i := (IntKind.i64.wrap (i_5 + k_10) : Int).toNat) (f := 0) tyOne3 rfl rfl rfl (ix_map (e := eI) e14) rfl), fun _ => .plain rfl (op_move rfl), fun _ => .plain rfl (op_move rfl), fun _ => .plain rfl (op_index_e tySl54 (ix_lo e15) (ix_map (e := eI) e15) rfl rfl), fun _ => .plain rfl (op_load_e1 tyOne3 rfl rfl), fun _ => .plain rfl (op_move rfl), fun _ => .plain rfl (op_move rfl), fun _ => .plain rfl (op_index_e tySl54 (ix_lo e16) (ix_map (e := eI) e16) rfl rfl), fun _ => .plain rfl (op_load_e1 tyOne3 rfl rfl), fun _ => .plain rfl (op_mul rfl rfl), fun _ => .plain rfl (op_add rfl rfl), fun _ => .plain rfl (op_index_r tySl54 (ix_lo e17) (ix_lt' e17) rfl rfl rfl rfl), trivial⟩ ⟨_, by exact .plain rfl (op_store_r1 (i := (IntKind.i64.wrap (i_5 + k_10) : Int).toNat) tyOne3 rfl rfl rfl rfl (ix_lt e17) (map_set _ _ _ _)), rfl⟩ rfl ?_
            refine Fin.block_normal ?_
            refine Fin.keep [0, 1, 5, 6, 7] [101] (s' := ⟨[(0, .b (.one (.sl 1 (a0.map eI)))), (1, .b (.one (.sl 1 (b0.map eI)))), (5, .b (.row 101)), (6, I i_5), (7, I k_10)], [(101, .row 3 1 ((out_9.set (IntKind.i64.wrap (i_5 + k_10) : Int).toNat (IntKind.i64.wrap (x_12 + (IntKind.i64.wrap (x_13 * x_14))))).map eI))]⟩) rfl ?_
            refine Fin.then ?_
            refine Tri.regionL ?_
            refine OpsL.cons rfl (op_move rfl) ?_
            refine OpsL.cons rfl (op_add rfl rfl) ?_
            refine OpsL.cons rfl (op_assign rfl) ?_
            refine OpsL.nil ?_
            exact Fin.againJ [0, 1, 5, 6, 7] [101] (out_9.set (IntKind.i64.wrap (i_5 + k_10) : Int).toNat (IntKind.i64.wrap (x_12 + (IntKind.i64.wrap (x_13 * x_14)))), IntKind.i64.wrap (k_10 + 1)) (Option.some.inj h12) rfl
          · refine Tri.exit ?_
            refine Fin.then_exit ?_
            obtain rfl := hy13 _ (Option.some.inj h12).symm
            refine Fin.then_exit ?_
            refine Fin.block_exit ?_
            exact Fin.join [0, 1, 5, 6] [101] out_9 rfl rfl
        · rintro out_8 hv
          subst v9
          refine Tri.seq ?_
          refine Tri.regionL ?_
          refine OpsL.cons rfl (op_assign rfl) ?_
          refine OpsL.nilK [0, 1, 5, 6, 8] [101] (s' := ⟨[(0, .b (.one (.sl 1 (a0.map eI)))), (1, .b (.one (.sl 1 (b0.map eI)))), (5, .b (.row 101)), (6, I i_5), (8, I 0)], [(101, .row 3 1 (out_8.map eI))]⟩) rfl ?_
          refine Tri.seq ?_
          refine Tri.regionL ?_
          refine OpsL.cons rfl (op_assign rfl) ?_
          refine OpsL.nilK [0, 1, 5, 6, 8, 9] [101] (s' := ⟨[(0, .b (.one (.sl 1 (a0.map eI)))), (1, .b (.one (.sl 1 (b0.map eI)))), (5, .b (.row 101)), (6, I i_5), (8, I 0), (9, I 0)], [(101, .row 3 1 (out_8.map eI))]⟩) rfl ?_
          refine Tri.block ?_
          obtain ⟨v18, h19, h8⟩ := bnd h8
          refine Tri.loopJ h19 (un3 fun (out_16 : List Int) (carry_17 : Int) (k_18 : Int) => ⟨[(0, .b (.one (.sl 1 (a0.map eI)))), (1, .b (.one (.sl 1 (b0.map eI)))), (5, .b (.row 101)), (6, I i_5), (8, I carry_17), (9, I k_18)], [(101, .row 3 1 (out_16.map eI))]⟩) [0, 1, 5, 6, 8, 9] [101] rfl ?_
          rintro ⟨out_16, carry_17, k_18⟩ o20 h21 hy22
          refine Tri.seq ?_
          refine Tri.seq ?_
          refine Tri.regionL ?_
          refine OpsL.cons rfl (op_move rfl) ?_
          refine OpsL.cons rfl (op_move rfl) ?_
          refine OpsL.cons rfl (op_len_r' und54 rfl rfl (List.length_map _)) ?_
          refine OpsL.cons rfl (op_lss rfl rfl) ?_
          refine OpsL.nilK [0, 1, 5, 6, 8, 9, 54] [101] (s' := ⟨[(0, .b (.one (.sl 1 (a0.map eI)))), (1, .b (.one (.sl 1 (b0.map eI)))), (5, .b (.row 101)), (6, I i_5), (8, I carry_17), (9, I k_18), (54, B (decide (k_18 < (out_16.length : Int))))], [(101, .row 3 1 (out_16.map eI))]⟩) rfl ?_
          refine Tri.ite h21 rfl (fun _ h21 => ?_) (fun _ h21 => ?_)
          · refine Tri.skip ?_
            refine Fin.keep [0, 1, 5, 6, 8, 9] [101] (s' := ⟨[(0, .b (.one (.sl 1 (a0.map eI)))), (1, .b (.one (.sl 1 (b0.map eI)))), (5, .b (.row 101)), (6, I i_5), (8, I carry_17), (9, I k_18)], [(101, .row 3 1 (out_16.map eI))]⟩) rfl ?_
            refine Fin.then ?_
            refine Tri.seq ?_
            refine Tri.block ?_
            refine Tri.seq ?_
            refine Tri.regionL ?_
            refine OpsL.cons rfl (op_move rfl) ?_
            refine OpsL.cons rfl (op_move rfl) ?_
            obtain ⟨x_20, e23, h21⟩ := bnd h21
            refine OpsL.cons rfl (op_index_r tySl54 (ix_lo e23) (ix_lt' e23) rfl rfl rfl rfl) ?_
            refine OpsL.cons rfl (op_load_r1 (i := (k_18 : Int).toNat) (f := 0) tyOne3 rfl rfl rfl (ix_map (e := eI) e23) rfl) ?_
            refine OpsL.cons rfl (op_move rfl) ?_
            refine OpsL.cons rfl (op_add rfl rfl) ?_
            refine OpsL.cons rfl (op_assign rfl) ?_
            refine OpsL.nilK [0, 1, 5, 6, 9, 10] [101] (s' := ⟨[(0, .b (.one (.sl 1 (a0.map eI)))), (1, .b (.one (.sl 1 (b0.map eI)))), (5, .b (.row 101)), (6, I i_5), (9, I k_18), (10, I (IntKind.i64.wrap (x_20 + carry_17)))], [(101, .row 3 1 (out_16.map eI))]⟩) rfl ?_
            refine Tri.seq ?_
            refine Tri.regionL ?_
            refine OpsL.cons rfl (op_move rfl) ?_
            refine OpsL.cons rfl (op_move rfl) ?_
            refine OpsL.cons rfl (op_move rfl) ?_
            refine OpsL.consI .i64 h21 rfl (op_rem (by decide) rfl rfl) (fun x_21 h21 => ?_)
            obtain ⟨x_22, e24, h21⟩ := bnd h21
            refine OpsL.cons rfl (op_index_r tySl54 (ix_lo e24) (ix_lt' e24) rfl rfl rfl rfl) ?_
            refine OpsL.cons rfl (op_store_r1 (i := (k_18 : Int).toNat) tyOne3 rfl rfl rfl rfl (ix_lt e24) (map_set _ _ _ _)) ?_
            refine OpsL.nilK [0, 1, 5, 6, 9, 10] [101] (s' := ⟨[(0, .b (.one (.sl 1 (a0.map eI)))), (1, .b (.one (.sl 1 (b0.map eI)))), (5, .b (.row 101)), (6, I i_5), (9, I k_18), (10, I (IntKind.i64.wrap (x_20 + carry_17)))], [(101, .row 3 1 ((out_16.set (k_18 : Int).toNat x_21).map eI))]⟩) rfl ?_
            refine Tri.regionL ?_
            refine OpsL.cons rfl (op_move rfl) ?_
            obtain ⟨x_23, e25, h21⟩ := bnd h21
            refine OpsL.cons rfl (op_quo2 e25 rfl rfl) ?_
            refine OpsL.cons rfl (op_assign rfl) ?_
            refine OpsL.nil ?_
            refine Fin.block_normal ?_
            refine Fin.keep [0, 1, 5, 6, 8, 9] [101] (s' := ⟨[(0, .b (.one (.sl 1 (a0.map eI)))), (1, .b (.one (.sl 1 (b0.map eI)))), (5, .b (.row 101)), (6, I i_5), (8, I x_23), (9, I k_18)], [(101, .row 3 1 ((out_16.set (k_18 : Int).toNat x_21).map eI))]⟩) rfl ?_
            refine Fin.then ?_
            refine Tri.regionL ?_
            refine OpsL.cons rfl (op_move rfl) ?_
            refine OpsL.cons rfl (op_add rfl rfl) ?_
            refine OpsL.cons rfl (op_assign rfl) ?_
            refine OpsL.nil ?_
            exact Fin.againJ [0, 1, 5, 6, 8, 9] [101] (out_16.set (k_18 : Int).toNat x_21, x_23, IntKind.i64.wrap (k_18 + 1)) (Option.some.inj h21) rfl
          · refine Tri.exit ?_
            refine Fin.then_exit ?_
            obtain rfl := hy22 _ (Option.some.inj h21).symm
            refine Fin.then_exit ?_
            refine Fin.block_exit ?_
            refine Fin.block_normal ?_
            exact Fin.join [0, 1, 5, 6] [101] out_16 (Option.some.inj h8) rfl
      · rintro out_7 hv
        subst v7
        refine Tri.regionL ?_
        refine OpsL.cons rfl (op_move rfl) ?_
        refine OpsL.cons rfl (op_add rfl rfl) ?_
        refine OpsL.cons rfl (op_assign rfl) ?_
        refine OpsL.nil ?_
        exact Fin.againJ [0, 1, 5, 6] [101] (out_7, IntKind.i64.wrap (i_5 + 1)) (Option.some.inj h5) rfl
    · refine Tri.exit ?_
      refine Fin.then_exit ?_
      obtain rfl := hy6 _ (Option.some.inj h5).symm
      refine Fin.then_exit ?_
      refine Fin.block_exit ?_
      exact Fin.join [5] [101] out_4 rfl rfl
  · rintro out_3 hv
    subst v2
    refine Tri.seq ?_
    refine Tri.regionL ?_
    refine OpsL.cons rfl (op_move rfl) ?_
    refine OpsL.persist 101 rfl ?_
    obtain ⟨x_24, e26, h⟩ := bnd h
    refine OpsL.cons rfl (op_call0 (skewbackref03_trim_spec e26) goes70 rfl rfl) ?_
    refine OpsL.cons rfl (op_assign rfl) ?_
    refine OpsL.nilK [4] [] (s' := ⟨[(4, .b (.one (.sl 1 (x_24.map eI))))], []⟩) rfl ?_
    refine Tri.ret ?_
    obtain rfl := Option.some.inj h
    refine Fin.keep [4] [] (s' := ⟨[(4, .b (.one (.sl 1 (x_24.map eI))))], []⟩) rfl ?_
    refine Fin.result' [.one (.sl 1 (x_24.map eI))] (.inl rfl) rfl (.cons (.tmp rfl) .nil) ⟨rfl, rfl⟩

def skewbackref03_Mul_S (F : Nat) (a0 : Big) (b0 : Big) : Option Big :=
 Option.bind (skewbackref03_word_S F a0) (un2 fun x_1 x_2 => Option.bind (skewbackref03_word_S F b0) (un2 fun x_3 x_4 => Option.bind (gcall (x_2 && x_4) (skewbackref03_half_S F x_1)) (fun x_5 => Option.bind (gcall ((x_2 && x_4) && x_5) (skewbackref03_half_S F x_3)) (fun x_6 => if (((x_2 && x_4) && x_5) && x_6) = true then (Option.bind (skewbackref03_Of_S F (IntKind.i64.wrap (x_1 * x_3))) (fun x_7 => some x_7)) else (Option.bind (skewbackref03_Good_S F a0) (fun x_8 => Option.bind (gcall (!(!x_8)) (skewbackref03_Good_S F b0)) (fun x_9 => if ((!x_8) || (!x_9)) = true then (Option.bind (skewbackref03_Bad_S F) (fun x_10 => some x_10)) else (Option.bind (skewbackref03_digits_S F a0) (fun x_11 => Option.bind (skewbackref03_digits_S F b0) (fun x_12 => Option.bind (skewbackref03_times_S F x_11 x_12) (fun x_13 => Option.bind (skewbackref03_number_S F (a0.Neg != b0.Neg) x_13) (fun x_14 => some x_14))))))))))))
theorem skewbackref03_Mul_spec {F : Nat} {a0 : Big} {b0 : Big} {r : Big} (h : skewbackref03_Mul_S F a0 b0 = some r) : Meets Tryd.prog tabs 28 [] [.agg (eBig a0), .agg (eBig b0)] (Is [] (.b (.agg (eBig r)))) := by
  unfold skewbackref03_Mul_S at h
  refine Meets.intro 55 Tryd.func28 Tryd.ntmps28 rfl (by simp) fun E => ?_
  show Tri _ E ⟨55, [], []⟩ _ ⟨[(0, .b (.agg (eBig a0))), (1, .b (.agg (eBig b0)))], []⟩ _
  refine Tri.seq ?_
  refine Tri.regionL ?_
  refine OpsL.cons rfl (op_box (k := 101) rfl rfl) ?_
  refine OpsL.cons rfl (op_box (k := 102) rfl rfl) ?_
  refine OpsL.cons rfl (op_alloc (k := 103) tyZero25 rfl) ?_
  refine OpsL.nilK [2, 3, 4] [101, 102, 103] (s' := ⟨[(2, .b (.ptr 101 0)), (3, .b (.ptr 102 0)), (4, .b (.ptr 103 0))], [(101, .box 25 (eBig a0)), (102, .box 25 (eBig b0)), (103, .box 25 (.bool false :: .bool false :: ((eA16 .u32) A16.zero)))]⟩) rfl ?_
  refine Tri.seq ?_
  refine Tri.regionL ?_
  refine OpsL.cons rfl (op_load_p tyAgg25 rfl rfl rfl rfl) ?_
  obtain ⟨⟨x_1, x_2⟩, e1, h⟩ := bnd h
  refine OpsL.cons rfl (op_call0 (skewbackref03_word_spec e1) goes49 rfl rfl) ?_
  refine OpsL.cons rfl (op_move rfl) ?_
  refine OpsL.cons rfl (op_extract rfl rfl) ?_
  refine OpsL.cons rfl (op_extract rfl rfl) ?_
  refine OpsL.cons rfl (op_assign rfl) ?_
  refine OpsL.cons rfl (op_assign rfl) ?_
  refine OpsL.nilK [2, 3, 4, 5, 6] [101, 102, 103] (s' := ⟨[(2, .b (.ptr 101 0)), (3, .b (.ptr 102 0)), (4, .b (.ptr 103 0)), (5, I x_1), (6, B x_2)], [(101, .box 25 (eBig a0)), (102, .box 25 (eBig b0)), (103, .box 25 (.bool false :: .bool false :: ((eA16 .u32) A16.zero)))]⟩) rfl ?_
  refine Tri.seq ?_
  refine Tri.regionL ?_
  refine OpsL.cons rfl (op_load_p tyAgg25 rfl rfl rfl rfl) ?_
  obtain ⟨⟨x_3, x_4⟩, e2, h⟩ := bnd h
  refine OpsL.cons rfl (op_call0 (skewbackref03_word_spec e2) goes49 rfl rfl) ?_
  refine OpsL.cons rfl (op_move rfl) ?_
  refine OpsL.cons rfl (op_extract rfl rfl) ?_
  refine OpsL.cons rfl (op_extract rfl rfl) ?_
  refine OpsL.cons rfl (op_assign rfl) ?_
  refine OpsL.cons rfl (op_assign rfl) ?_
  refine OpsL.nilK [2, 3, 4, 5, 6, 7, 8] [101, 102, 103] (s' := ⟨[(2, .b (.ptr 101 0)), (3, .b (.ptr 102 0)), (4, .b (.ptr 103 0)), (5, I x_1), (6, B x_2), (7, I x_3), (8, B x_4)], [(101, .box 25 (eBig a0)), (102, .box 25 (eBig b0)), (103, .box 25 (.bool false :: .bool false :: ((eA16 .u32) A16.zero)))]⟩) rfl ?_
  refine Tri.seq ?_
  refine Tri.seq ?_
  refine Tri.regionL ?_
  refine OpsL.cons rfl (op_move rfl) ?_
  refine OpsL.cons rfl (op_move rfl) ?_
  refine OpsL.consG x_2 99 [] (.plain rfl) (eq_t _) rfl rfl (fun g3 => trivial) (fun g3 => op_move rfl) ?_
  refine OpsL.cons rfl (op_pick_and (fun e => e) rfl rfl rfl rfl) ?_
  refine OpsL.cons rfl (op_move rfl) ?_
  refine OpsL.consG (x_2 && x_4) 99 [] (.plain rfl) (eq_t _) rfl rfl (fun g4 => trivial) (fun g4 => op_move rfl) ?_
  refine OpsL.keep [2, 3, 4, 5, 7, 23, 24] [101, 102, 103] (s' := ⟨[(2, .b (.ptr 101 0)), (3, .b (.ptr 102 0)), (4, .b (.ptr 103 0)), (5, I x_1), (7, I x_3), (23, B (x_2 && x_4)), (24, .opt (x_2 && x_4) (.one (.i x_1)))], [(101, .box 25 (eBig a0)), (102, .box 25 (eBig b0)), (103, .box 25 (.bool false :: .bool false :: ((eA16 .u32) A16.zero)))]⟩) rfl ?_
  obtain ⟨x_5, e6, h⟩ := bnd h
  refine OpsL.consG (x_2 && x_4) 99 [24] (.plain rfl) (eq_t _) rfl rfl (fun g5 => ⟨g5, trivial⟩) (fun g5 => op_call0 (skewbackref03_half_spec (gc e6 g5)) goes60 rfl rfl) ?_
  refine OpsL.cons rfl (op_pick_and (fun e => e) rfl rfl rfl rfl) ?_
  refine OpsL.cons rfl (op_move rfl) ?_
  refine OpsL.consG ((x_2 && x_4) && x_5) 99 [] (.plain rfl) (eq_t _) rfl rfl (fun g7 => trivial) (fun g7 => op_move rfl) ?_
  obtain ⟨x_6, e9, h⟩ := bnd h
  refine OpsL.consG ((x_2 && x_4) && x_5) 99 [28] (.plain rfl) (eq_t _) rfl rfl (fun g8 => ⟨g8, trivial⟩) (fun g8 => op_call0 (skewbackref03_half_spec (gc e9 g8)) goes60 rfl rfl) ?_
  refine OpsL.cons rfl (op_pick_and (fun e => e) rfl rfl rfl rfl) ?_
  refine OpsL.nilK [2, 3, 4, 5, 7, 30] [101, 102, 103] (s' := ⟨[(2, .b (.ptr 101 0)), (3, .b (.ptr 102 0)), (4, .b (.ptr 103 0)), (5, I x_1), (7, I x_3), (30, B (((x_2 && x_4) && x_5) && x_6))], [(101, .box 25 (eBig a0)), (102, .box 25 (eBig b0)), (103, .box 25 (.bool false :: .bool false :: ((eA16 .u32) A16.zero)))]⟩) rfl ?_
  refine Tri.ite h rfl (fun _ h => ?_) (fun _ h => ?_)
  · refine Tri.seq ?_
    refine Tri.regionL ?_
    refine OpsL.cons rfl (op_move rfl) ?_
    refine OpsL.cons rfl (op_move rfl) ?_
    refine OpsL.cons rfl (op_mul rfl rfl) ?_
    obtain ⟨x_7, e10, h⟩ := bnd h
    refine OpsL.cons rfl (op_call0 (skewbackref03_Of_spec e10) goes50 rfl rfl) ?_
    refine OpsL.cons rfl (op_store_p tyAgg25 rfl rfl rfl rfl (Nat.le_of_ble_eq_true rfl) rfl) ?_
    refine OpsL.nilK [4] [103] (s' := ⟨[(4, .b (.ptr 103 0))], [(103, .box 25 (eBig x_7))]⟩) rfl ?_
    refine Tri.ret ?_
    refine Fin.then_ret ?_
    obtain rfl := Option.some.inj h
    refine Fin.keep [4] [103] (s' := ⟨[(4, .b (.ptr 103 0))], [(103, .box 25 (eBig x_7))]⟩) rfl ?_
    refine Fin.result' [.agg (eBig x_7)] (.inl rfl) rfl (.cons (.agg tyAgg25 rfl rfl rfl rfl) .nil) ⟨rfl, rfl⟩
  · refine Tri.skip ?_
    refine Fin.keep [2, 3, 4] [101, 102, 103] (s' := ⟨[(2, .b (.ptr 101 0)), (3, .b (.ptr 102 0)), (4, .b (.ptr 103 0))], [(101, .box 25 (eBig a0)), (102, .box 25 (eBig b0)), (103, .box 25 (.bool false :: .bool false :: ((eA16 .u32) A16.zero)))]⟩) rfl ?_
    refine Fin.then ?_
    refine Tri.seq ?_
    refine Tri.seq ?_
    refine Tri.regionL ?_
    refine OpsL.cons rfl (op_load_p tyAgg25 rfl rfl rfl rfl) ?_
    obtain ⟨x_8, e11, h⟩ := bnd h
    refine OpsL.cons rfl (op_call0 (skewbackref03_Good_spec e11) goes35 rfl rfl) ?_
    refine OpsL.cons rfl (op_not rfl) ?_
    refine OpsL.cons rfl (op_move rfl) ?_
    refine OpsL.consG (!(!x_8)) 99 [] (.plain rfl) (eq_f _) rfl rfl (fun g12 => trivial) (fun g12 => op_load_p tyAgg25 rfl rfl rfl rfl) ?_
    refine OpsL.keep [2, 3, 4, 38, 39] [101, 102, 103] (s' := ⟨[(2, .b (.ptr 101 0)), (3, .b (.ptr 102 0)), (4, .b (.ptr 103 0)), (38, B (!x_8)), (39, .opt (!(!x_8)) (.agg (eBig b0)))], [(101, .box 25 (eBig a0)), (102, .box 25 (eBig b0)), (103, .box 25 (.bool false :: .bool false :: ((eA16 .u32) A16.zero)))]⟩) rfl ?_
    obtain ⟨x_9, e14, h⟩ := bnd h
    refine OpsL.consG (!(!x_8)) 99 [39] (.plain rfl) (eq_f _) rfl rfl (fun g13 => ⟨g13, trivial⟩) (fun g13 => op_call0 (skewbackref03_Good_spec (gc e14 g13)) goes35 rfl rfl) ?_
    refine OpsL.consG (!(!x_8)) 99 [40] (.plain rfl) (eq_f _) rfl rfl (fun g15 => ⟨g15, trivial⟩) (fun g15 => op_not rfl) ?_
    refine OpsL.cons rfl (op_pick_or (fun e => by rw [e]; rfl) rfl rfl rfl rfl) ?_
    refine OpsL.nilK [2, 3, 4, 42] [101, 102, 103] (s' := ⟨[(2, .b (.ptr 101 0)), (3, .b (.ptr 102 0)), (4, .b (.ptr 103 0)), (42, B ((!x_8) || (!x_9)))], [(101, .box 25 (eBig a0)), (102, .box 25 (eBig b0)), (103, .box 25 (.bool false :: .bool false :: ((eA16 .u32) A16.zero)))]⟩) rfl ?_
    refine Tri.ite h rfl (fun _ h => ?_) (fun _ h => ?_)
    · refine Tri.seq ?_
      refine Tri.regionL ?_
      obtain ⟨x_10, e16, h⟩ := bnd h
      refine OpsL.cons rfl (op_call0 (skewbackref03_Bad_spec e16) goes51 rfl rfl) ?_
      refine OpsL.cons rfl (op_store_p tyAgg25 rfl rfl rfl rfl (Nat.le_of_ble_eq_true rfl) rfl) ?_
      refine OpsL.nilK [4] [103] (s' := ⟨[(4, .b (.ptr 103 0))], [(103, .box 25 (eBig x_10))]⟩) rfl ?_
      refine Tri.ret ?_
      refine Fin.then_ret ?_
      obtain rfl := Option.some.inj h
      refine Fin.keep [4] [103] (s' := ⟨[(4, .b (.ptr 103 0))], [(103, .box 25 (eBig x_10))]⟩) rfl ?_
      refine Fin.result' [.agg (eBig x_10)] (.inl rfl) rfl (.cons (.agg tyAgg25 rfl rfl rfl rfl) .nil) ⟨rfl, rfl⟩
    · refine Tri.skip ?_
      refine Fin.keep [2, 3, 4] [101, 102, 103] (s' := ⟨[(2, .b (.ptr 101 0)), (3, .b (.ptr 102 0)), (4, .b (.ptr 103 0))], [(101, .box 25 (eBig a0)), (102, .box 25 (eBig b0)), (103, .box 25 (.bool false :: .bool false :: ((eA16 .u32) A16.zero)))]⟩) rfl ?_
      refine Fin.then ?_
      refine Tri.seq ?_
      refine Tri.keep [2, 3, 4] [101, 102, 103] (s' := ⟨[(2, .b (.ptr 101 0)), (3, .b (.ptr 102 0)), (4, .b (.ptr 103 0))], [(101, .box 25 (eBig a0)), (102, .box 25 (eBig b0)), (103, .box 25 (.bool false :: .bool false :: ((eA16 .u32) A16.zero)))]⟩) rfl ?_
      obtain ⟨x_11, e17, h⟩ := bnd h
      obtain ⟨x_12, e18, h⟩ := bnd h
      obtain ⟨x_13, e19, h⟩ := bnd h
      obtain ⟨x_14, e20, h⟩ := bnd h
      refine Tri.regionY mixed 11 [.b (.ptr 101 1), B a0.Neg, .b (.ptr 102 1), B b0.Neg, B (a0.Neg != b0.Neg), .b (.agg (eBig a0)), .b (.one (.sl 1 (x_11.map eI))), .b (.agg (eBig b0)), .b (.one (.sl 1 (x_12.map eI))), .b (.one (.sl 1 (x_13.map eI))), .b (.agg (eBig x_14))] [4] [103] (s' := ⟨[(4, .b (.ptr 103 0))], [(103, .box 25 (eBig x_14))]⟩) rfl ⟨fun _ => .plain rfl (op_field_p tyFld25_1 rfl rfl), fun _ => .plain rfl (op_load_p1 tyOne4 rfl rfl rfl), fun _ => .plain rfl (op_field_p tyFld25_1 rfl rfl), fun _ => .plain rfl (op_load_p1 tyOne4 rfl rfl rfl), fun _ => .plain rfl (op_neq_bool und4 rfl rfl), fun _ => .plain rfl (op_load_p tyAgg25 rfl rfl rfl rfl), fun _ => .plain rfl (op_call0 (skewbackref03_digits_spec e17) goes52 rfl rfl), fun _ => .plain rfl (op_load_p tyAgg25 rfl rfl rfl rfl), fun _ => .plain rfl (op_call0 (skewbackref03_digits_spec e18) goes52 rfl rfl), fun _ => .plain rfl (op_call0 (skewbackref03_times_spec e19) goes61 rfl rfl), fun _ => .plain rfl (op_call0 (skewbackref03_number_spec e20) goes53 rfl rfl), trivial⟩ ⟨_, by exact .plain rfl (op_store_p tyAgg25 rfl rfl rfl rfl (Nat.le_of_ble_eq_true rfl) rfl), rfl⟩ rfl ?_
      refine Tri.ret ?_
      obtain rfl := Option.some.inj h
      refine Fin.keep [4] [103] (s' := ⟨[(4, .b (.ptr 103 0))], [(103, .box 25 (eBig x_14))]⟩) rfl ?_
      refine Fin.result' [.agg (eBig x_14)] (.inl rfl) rfl (.cons (.agg tyAgg25 rfl rfl rfl rfl) .nil) ⟨rfl, rfl⟩

def skewbackref03_floor_S (F : Nat) (n0 : Int) (m0 : Int) : Option Int :=
 Option.bind (quo? .i64 n0 m0) (fun x_1 => Option.bind (Option.bind (rem? n0 m0) (fun x_3 => letN ((decide (x_3 ≠ 0)) && ((decide (n0 < 0)) != (decide (m0 < 0)))) fun x_4 => if x_4 = true then (some (IntKind.i64.wrap (x_1 - 1))) else (some x_1))) (fun q_2 => some q_2))
theorem skewbackref03_floor_spec {F : Nat} {n0 : Int} {m0 : Int} {r : Int} (h : skewbackref03_floor_S F n0 m0 = some r) : Meets Tryd.prog tabs 63 [] [.one (.i n0), .one (.i m0)] (Is [] (.b (.one (.i r)))) := by
  unfold skewbackref03_floor_S at h
  refine Meets.intro 23 Tryd.func63 Tryd.ntmps63 rfl (by simp) fun E => ?_
  show Tri _ E ⟨23, [], []⟩ _ ⟨[(0, I n0), (1, I m0)], []⟩ _
  refine Tri.seq ?_
  refine Tri.regionL ?_
  refine OpsL.cons rfl (op_assign rfl) ?_
  refine OpsL.nilK [0, 1] [] (s' := ⟨[(0, I n0), (1, I m0)], []⟩) rfl ?_
  refine Tri.seq ?_
  refine Tri.regionL ?_
  refine OpsL.cons rfl (op_move rfl) ?_
  refine OpsL.cons rfl (op_move rfl) ?_
  obtain ⟨x_1, e1, h⟩ := bnd h
  refine OpsL.cons rfl (op_quo2 e1 rfl rfl) ?_
  refine OpsL.cons rfl (op_assign rfl) ?_
  refine OpsL.nilK [0, 1, 5] [] (s' := ⟨[(0, I n0), (1, I m0), (5, I x_1)], []⟩) rfl ?_
  obtain ⟨v2, h3, h⟩ := bnd h
  refine Tri.seqJ (v := v2) (fun (q_2 : Int) => ⟨[(5, I q_2)], []⟩) (fun z => z) ?_ ?_
  · refine Tri.seq ?_
    refine Tri.regionL ?_
    refine OpsL.cons rfl (op_move rfl) ?_
    refine OpsL.cons rfl (op_move rfl) ?_
    obtain ⟨x_3, e4, h3⟩ := bnd h3
    refine OpsL.cons rfl (op_rem2 e4 rfl rfl) ?_
    refine OpsL.cons rfl (op_neq rfl rfl) ?_
    refine OpsL.cons rfl (op_move rfl) ?_
    refine OpsL.consG (decide (x_3 ≠ 0)) 99 [] (.plain rfl) (eq_t _) rfl rfl (fun g5 => trivial) (fun g5 => op_move rfl) ?_
    refine OpsL.consG (decide (x_3 ≠ 0)) 99 [14] (.plain rfl) (eq_t _) rfl rfl (fun g6 => ⟨g6, trivial⟩) (fun g6 => op_lss rfl rfl) ?_
    refine OpsL.keep [1, 5, 13, 15] [] (s' := ⟨[(1, I m0), (5, I x_1), (13, B (decide (x_3 ≠ 0))), (15, .opt (decide (x_3 ≠ 0)) (.one (.bool (decide (n0 < 0)))))], []⟩) rfl ?_
    refine OpsL.consG (decide (x_3 ≠ 0)) 99 [] (.plain rfl) (eq_t _) rfl rfl (fun g7 => trivial) (fun g7 => op_move rfl) ?_
    refine OpsL.consG (decide (x_3 ≠ 0)) 99 [16] (.plain rfl) (eq_t _) rfl rfl (fun g8 => ⟨g8, trivial⟩) (fun g8 => op_lss rfl rfl) ?_
    refine OpsL.consG (decide (x_3 ≠ 0)) 99 [15, 17] (.plain rfl) (eq_t _) rfl rfl (fun g9 => ⟨g9, g9, trivial⟩) (fun g9 => op_neq_bool und4 rfl rfl) ?_
    refine OpsL.consB h3 rfl (op_pick_and (fun e => e) rfl rfl rfl rfl) (fun x_4 h3 => ?_)
    refine OpsL.nilK [5, 19] [] (s' := ⟨[(5, I x_1), (19, B x_4)], []⟩) rfl ?_
    refine Tri.ite h3 rfl (fun _ h3 => ?_) (fun _ h3 => ?_)
    · refine Tri.regionL ?_
      refine OpsL.cons rfl (op_move rfl) ?_
      refine OpsL.cons rfl (op_sub rfl rfl) ?_
      refine OpsL.cons rfl (op_assign rfl) ?_
      refine OpsL.nil ?_
      exact Fin.join [5] [] (IntKind.i64.wrap (x_1 - 1)) (Option.some.inj h3) rfl
    · refine Tri.skip ?_
      exact Fin.join [5] [] x_1 (Option.some.inj h3) rfl
  · rintro q_2 hv
    subst v2
    refine Tri.seq ?_
    refine Tri.regionL ?_
    refine OpsL.cons rfl (op_move rfl) ?_
    refine OpsL.cons rfl (op_assign rfl) ?_
    refine OpsL.nilK [4] [] (s' := ⟨[(4, I q_2)], []⟩) rfl ?_
    refine Tri.ret ?_
    obtain rfl := Option.some.inj h
    refine Fin.keep [4] [] (s' := ⟨[(4, I q_2)], []⟩) rfl ?_
    refine Fin.result' [.one (.i q_2)] (.inl rfl) rfl (.cons (.tmp rfl) .nil) ⟨rfl, rfl⟩

def skewbackref03_at_S (F : Nat) (l0 : List Int) (k0 : Int) : Option Int :=
 if (decide (k0 < 0)) = true then (some 0) else (Option.bind (skewbackref03_digit_S F l0 k0) (fun x_1 => some x_1))
theorem skewbackref03_at_spec {F : Nat} {l0 : List Int} {k0 : Int} {r : Int} (h : skewbackref03_at_S F l0 k0 = some r) : Meets Tryd.prog tabs 77 [] [.one (.sl 1 (l0.map eI)), .one (.i k0)] (Is [] (.b (.one (.i r)))) := by
  unfold skewbackref03_at_S at h
  refine Meets.intro 10 Tryd.func77 Tryd.ntmps77 rfl (by simp) fun E => ?_
  show Tri _ E ⟨10, [], []⟩ _ ⟨[(0, .b (.one (.sl 1 (l0.map eI)))), (1, I k0)], []⟩ _
  refine Tri.seq ?_
  refine Tri.regionL ?_
  refine OpsL.cons rfl (op_assign rfl) ?_
  refine OpsL.nilK [0, 1] [] (s' := ⟨[(0, .b (.one (.sl 1 (l0.map eI)))), (1, I k0)], []⟩) rfl ?_
  refine Tri.seq ?_
  refine Tri.seq ?_
  refine Tri.regionL ?_
  refine OpsL.cons rfl (op_move rfl) ?_
  refine OpsL.cons rfl (op_lss rfl rfl) ?_
  refine OpsL.nilK [0, 1, 6] [] (s' := ⟨[(0, .b (.one (.sl 1 (l0.map eI)))), (1, I k0), (6, B (decide (k0 < 0)))], []⟩) rfl ?_
  refine Tri.ite h rfl (fun _ h => ?_) (fun _ h => ?_)
  · refine Tri.seq ?_
    refine Tri.regionL ?_
    refine OpsL.cons rfl (op_assign rfl) ?_
    refine OpsL.nilK [4] [] (s' := ⟨[(4, I 0)], []⟩) rfl ?_
    refine Tri.ret ?_
    refine Fin.then_ret ?_
    obtain rfl := Option.some.inj h
    refine Fin.keep [4] [] (s' := ⟨[(4, I 0)], []⟩) rfl ?_
    refine Fin.result' [.one (.i 0)] (.inl rfl) rfl (.cons (.tmp rfl) .nil) ⟨rfl, rfl⟩
  · refine Tri.skip ?_
    refine Fin.keep [0, 1] [] (s' := ⟨[(0, .b (.one (.sl 1 (l0.map eI)))), (1, I k0)], []⟩) rfl ?_
    refine Fin.then ?_
    refine Tri.seq ?_
    refine Tri.regionL ?_
    refine OpsL.cons rfl (op_move rfl) ?_
    refine OpsL.cons rfl (op_move rfl) ?_
    obtain ⟨x_1, e1, h⟩ := bnd h
    refine OpsL.cons rfl (op_call0 (skewbackref03_digit_spec e1) goes76 rfl rfl) ?_
    refine OpsL.cons rfl (op_assign rfl) ?_
    refine OpsL.nilK [4] [] (s' := ⟨[(4, I x_1)], []⟩) rfl ?_
    refine Tri.ret ?_
    obtain rfl := Option.some.inj h
    refine Fin.keep [4] [] (s' := ⟨[(4, I x_1)], []⟩) rfl ?_
    refine Fin.result' [.one (.i x_1)] (.inl rfl) rfl (.cons (.tmp rfl) .nil) ⟨rfl, rfl⟩

def skewbackref03_less_S (F : Nat) (a0 : List Int) (b0 : List Int) : Option Bool :=
 Option.bind (letN (max (a0.length : Int) (b0.length : Int)) fun x_1 => iter F (fun k_2 => if (decide (0 ≤ k_2)) = true then (Option.bind (skewbackref03_digit_S F a0 k_2) (fun x_3 => Option.bind (skewbackref03_digit_S F b0 k_2) (fun x_4 => if (decide (x_3 ≠ x_4)) = true then (Option.bind (skewbackref03_digit_S F a0 k_2) (fun x_5 => Option.bind (skewbackref03_digit_S F b0 k_2) (fun x_6 => some (.inr (.inr (decide (x_5 < x_6))))))) else (some (.inl (IntKind.i64.wrap (k_2 - 1))))))) else (some (.inr (.inl ())))) (IntKind.i64.wrap (x_1 - 1))) (alt2 (fun _ => some false) (fun y => some y))
theorem skewbackref03_less_spec {F : Nat} {a0 : List Int} {b0 : List Int} {r : Bool} (h : skewbackref03_less_S F a0 b0 = some r) : Meets Tryd.prog tabs 55 [] [.one (.sl 1 (a0.map eI)), .one (.sl 1 (b0.map eI))] (Is [] (.b (.one (.bool r)))) := by
  unfold skewbackref03_less_S at h
  refine Meets.intro 30 Tryd.func55 Tryd.ntmps55 rfl (by simp) fun E => ?_
  show Tri _ E ⟨30, [], []⟩ _ ⟨[(0, .b (.one (.sl 1 (a0.map eI)))), (1, .b (.one (.sl 1 (b0.map eI))))], []⟩ _
  refine Tri.seq ?_
  refine Tri.regionL ?_
  refine OpsL.cons rfl (op_assign rfl) ?_
  refine OpsL.nilK [0, 1] [] (s' := ⟨[(0, .b (.one (.sl 1 (a0.map eI)))), (1, .b (.one (.sl 1 (b0.map eI))))], []⟩) rfl ?_
  obtain ⟨v1, h2, h⟩ := bnd h
  refine Tri.seqJ (v := v1) (fun (_ : Unit) => ⟨[], []⟩) (fun z => .inl z) ?_ ?_
  · refine Tri.seq ?_
    refine Tri.regionL ?_
    refine OpsL.cons rfl (op_move rfl) ?_
    refine OpsL.cons rfl (op_len_e' und54 rfl (List.length_map _)) ?_
    refine OpsL.cons rfl (op_move rfl) ?_
    refine OpsL.cons rfl (op_len_e' und54 rfl (List.length_map _)) ?_
    refine OpsL.keep [0, 1, 7, 9] [] (s' := ⟨[(0, .b (.one (.sl 1 (a0.map eI)))), (1, .b (.one (.sl 1 (b0.map eI)))), (7, I (a0.length : Int)), (9, I (b0.length : Int))], []⟩) rfl ?_
    refine OpsL.consI .i64 h2 rfl (op_max rfl rfl) (fun x_1 h2 => ?_)
    refine OpsL.cons rfl (op_sub rfl rfl) ?_
    refine OpsL.cons rfl (op_assign rfl) ?_
    refine OpsL.nilK [0, 1, 5] [] (s' := ⟨[(0, .b (.one (.sl 1 (a0.map eI)))), (1, .b (.one (.sl 1 (b0.map eI)))), (5, I (IntKind.i64.wrap (x_1 - 1)))], []⟩) rfl ?_
    refine Tri.block ?_
    refine Tri.loopJ h2 (fun (k_2 : Int) => ⟨[(0, .b (.one (.sl 1 (a0.map eI)))), (1, .b (.one (.sl 1 (b0.map eI)))), (5, I k_2)], []⟩) [0, 1, 5] [] rfl ?_
    rintro k_2 o3 h4 hy5
    refine Tri.seq ?_
    refine Tri.seq ?_
    refine Tri.regionL ?_
    refine OpsL.cons rfl (op_move rfl) ?_
    refine OpsL.cons rfl (op_geq rfl rfl) ?_
    refine OpsL.nilK [0, 1, 5, 13] [] (s' := ⟨[(0, .b (.one (.sl 1 (a0.map eI)))), (1, .b (.one (.sl 1 (b0.map eI)))), (5, I k_2), (13, B (decide (0 ≤ k_2)))], []⟩) rfl ?_
    refine Tri.ite h4 rfl (fun _ h4 => ?_) (fun _ h4 => ?_)
    · refine Tri.skip ?_
      refine Fin.keep [0, 1, 5] [] (s' := ⟨[(0, .b (.one (.sl 1 (a0.map eI)))), (1, .b (.one (.sl 1 (b0.map eI)))), (5, I k_2)], []⟩) rfl ?_
      refine Fin.then ?_
      refine Tri.seq ?_
      refine Tri.block ?_
      refine Tri.seq ?_
      refine Tri.regionL ?_
      refine OpsL.cons rfl (op_move rfl) ?_
      refine OpsL.cons rfl (op_move rfl) ?_
      obtain ⟨x_3, e6, h4⟩ := bnd h4
      refine OpsL.cons rfl (op_call0 (skewbackref03_digit_spec e6) goes76 rfl rfl) ?_
      refine OpsL.cons rfl (op_move rfl) ?_
      refine OpsL.cons rfl (op_move rfl) ?_
      obtain ⟨x_4, e7, h4⟩ := bnd h4
      refine OpsL.cons rfl (op_call0 (skewbackref03_digit_spec e7) goes76 rfl rfl) ?_
      refine OpsL.cons rfl (op_neq rfl rfl) ?_
      refine OpsL.nilK [0, 1, 5, 22] [] (s' := ⟨[(0, .b (.one (.sl 1 (a0.map eI)))), (1, .b (.one (.sl 1 (b0.map eI)))), (5, I k_2), (22, B (decide (x_3 ≠ x_4)))], []⟩) rfl ?_
      refine Tri.ite h4 rfl (fun _ h4 => ?_) (fun _ h4 => ?_)
      · refine Tri.seq ?_
        refine Tri.regionL ?_
        refine OpsL.cons rfl (op_move rfl) ?_
        refine OpsL.cons rfl (op_move rfl) ?_
        obtain ⟨x_5, e8, h4⟩ := bnd h4
        refine OpsL.cons rfl (op_call0 (skewbackref03_digit_spec e8) goes76 rfl rfl) ?_
        refine OpsL.cons rfl (op_move rfl) ?_
        refine OpsL.cons rfl (op_move rfl) ?_
        refine OpsL.keep [25, 26, 27] [] (s' := ⟨[(25, I x_5), (26, .b (.one (.sl 1 (b0.map eI)))), (27, I k_2)], []⟩) rfl ?_
        obtain ⟨x_6, e9, h4⟩ := bnd h4
        refine OpsL.cons rfl (op_call0 (skewbackref03_digit_spec e9) goes76 rfl rfl) ?_
        refine OpsL.cons rfl (op_lss rfl rfl) ?_
        refine OpsL.cons rfl (op_assign rfl) ?_
        refine OpsL.nilK [4] [] (s' := ⟨[(4, B (decide (x_5 < x_6)))], []⟩) rfl ?_
        refine Tri.ret ?_
        refine Fin.block_ret ?_
        refine Fin.then_ret ?_
        obtain rfl := hy5 _ (Option.some.inj h4).symm
        refine Fin.then_ret ?_
        refine Fin.block_ret ?_
        refine Fin.then_ret ?_
        obtain rfl := Option.some.inj h
        refine Fin.keep [4] [] (s' := ⟨[(4, B (decide (x_5 < x_6)))], []⟩) rfl ?_
        refine Fin.result' [.one (.bool (decide (x_5 < x_6)))] (.inl rfl) rfl (.cons (.tmp rfl) .nil) ⟨rfl, rfl⟩
      · refine Tri.skip ?_
        refine Fin.block_normal ?_
        refine Fin.keep [0, 1, 5] [] (s' := ⟨[(0, .b (.one (.sl 1 (a0.map eI)))), (1, .b (.one (.sl 1 (b0.map eI)))), (5, I k_2)], []⟩) rfl ?_
        refine Fin.then ?_
        refine Tri.regionL ?_
        refine OpsL.cons rfl (op_move rfl) ?_
        refine OpsL.cons rfl (op_sub rfl rfl) ?_
        refine OpsL.cons rfl (op_assign rfl) ?_
        refine OpsL.nil ?_
        exact Fin.againJ [0, 1, 5] [] (IntKind.i64.wrap (k_2 - 1)) (Option.some.inj h4) rfl
    · refine Tri.exit ?_
      refine Fin.then_exit ?_
      obtain rfl := hy5 _ (Option.some.inj h4).symm
      refine Fin.then_exit ?_
      refine Fin.block_exit ?_
      exact Fin.join [] [] () rfl rfl
  · rintro _ hv
    subst v1
    refine Tri.seq ?_
    refine Tri.regionL ?_
    refine OpsL.cons rfl (op_assign rfl) ?_
    refine OpsL.nilK [4] [] (s' := ⟨[(4, B false)], []⟩) rfl ?_
    refine Tri.ret ?_
    obtain rfl := Option.some.inj h
    refine Fin.keep [4] [] (s' := ⟨[(4, B false)], []⟩) rfl ?_
    refine Fin.result' [.one (.bool false)] (.inl rfl) rfl (.cons (.tmp rfl) .nil) ⟨rfl, rfl⟩

def skewbackref03_minus_S (F : Nat) (a0 : List Int) (b0 : List Int) : Option (List Int) :=
 Option.bind (iter F (un3 fun out_2 borrow_3 k_4 => if (decide (k_4 < (a0.length : Int))) = true then (Option.bind (Option.bind (idx? a0 k_4) (fun x_8 => Option.bind (skewbackref03_digit_S F b0 k_4) (fun x_9 => Option.bind (letN (IntKind.i64.wrap ((IntKind.i64.wrap (x_8 - x_9)) - borrow_3)) fun x_12 => if (decide (x_12 < 0)) = true then (letN (IntKind.i64.wrap ((IntKind.i64.wrap (x_8 - x_9)) - borrow_3)) fun x_13 => some (1, IntKind.i64.wrap (x_13 + 65536))) else (some (0, IntKind.i64.wrap ((IntKind.i64.wrap (x_8 - x_9)) - borrow_3)))) (un2 fun borrow_10 n_11 => Option.bind (app? out_2 [n_11]) (fun x_14 => some (x_14, borrow_10)))))) (un2 fun out_6 borrow_7 => some (.inl (out_6, borrow_7, IntKind.i64.wrap (k_4 + 1))))) else (some (.inr out_2))) ([], 0, 0)) (fun out_1 => Option.bind (skewbackref03_trim_S F out_1) (fun x_15 => some x_15))
theorem skewbackref03_minus_spec {F : Nat} {a0 : List Int} {b0 : List Int} {r : (List Int)} (h : skewbackref03_minus_S F a0 b0 = some r) : Meets Tryd.prog tabs 56 [] [.one (.sl 1 (a0.map eI)), .one (.sl 1 (b0.map eI))] (Is [] (.b (.one (.sl 1 (r.map eI))))) := by
  unfold skewbackref03_minus_S at h
  refine Meets.intro 35 Tryd.func56 Tryd.ntmps56 rfl (by simp) fun E => ?_
  show Tri _ E ⟨35, [], []⟩ _ ⟨[(0, .b (.one (.sl 1 (a0.map eI)))), (1, .b (.one (.sl 1 (b0.map eI))))], []⟩ _
  refine Tri.seq ?_
  refine Tri.regionL ?_
  refine OpsL.cons rfl (op_assign rfl) ?_
  refine OpsL.nilK [0, 1] [] (s' := ⟨[(0, .b (.one (.sl 1 (a0.map eI)))), (1, .b (.one (.sl 1 (b0.map eI))))], []⟩) rfl ?_
  refine Tri.seq ?_
  refine Tri.regionL ?_
  refine OpsL.cons rfl (op_assign rfl) ?_
  refine OpsL.nilK [0, 1, 5] [] (s' := ⟨[(0, .b (.one (.sl 1 (a0.map eI)))), (1, .b (.one (.sl 1 (b0.map eI)))), (5, .b (.one (.nil)))], []⟩) rfl ?_
  refine Tri.seq ?_
  refine Tri.regionL ?_
  refine OpsL.cons rfl (op_assign rfl) ?_
  refine OpsL.nilK [0, 1, 5, 6] [] (s' := ⟨[(0, .b (.one (.sl 1 (a0.map eI)))), (1, .b (.one (.sl 1 (b0.map eI)))), (5, .b (.one (.nil))), (6, I 0)], []⟩) rfl ?_
  obtain ⟨v1, h2, h⟩ := bnd h
  refine Tri.seqJ (v := v1) (fun (out_1 : List Int) => ⟨[(5, .b (.row 102))], [(102, .row 3 1 (out_1.map eI))]⟩) (fun z => z) ?_ ?_
  · refine Tri.seq ?_
    refine Tri.regionL ?_
    refine OpsL.cons rfl (op_assign rfl) ?_
    refine OpsL.nilK [0, 1, 5, 6, 7] [] (s' := ⟨[(0, .b (.one (.sl 1 (a0.map eI)))), (1, .b (.one (.sl 1 (b0.map eI)))), (5, .b (.one (.nil))), (6, I 0), (7, I 0)], []⟩) rfl ?_
    refine Tri.block ?_
    refine Tri.keep [0, 1, 5, 6, 7] [] (s' := ⟨[(0, .b (.one (.sl 1 (a0.map eI)))), (1, .b (.one (.sl 1 (b0.map eI)))), (5, .b (.one (.nil))), (6, I 0), (7, I 0)], []⟩) rfl ?_
    refine Tri.nilrow 5 102 1 3 rfl (by decide) rfl ?_
    refine Tri.loopJ h2 (un3 fun (out_2 : List Int) (borrow_3 : Int) (k_4 : Int) => ⟨[(0, .b (.one (.sl 1 (a0.map eI)))), (1, .b (.one (.sl 1 (b0.map eI)))), (5, .b (.row 102)), (6, I borrow_3), (7, I k_4)], [(102, .row 3 1 (out_2.map eI))]⟩) [0, 1, 5, 6, 7] [102] rfl ?_
    rintro ⟨out_2, borrow_3, k_4⟩ o3 h4 hy5
    refine Tri.seq ?_
    refine Tri.seq ?_
    refine Tri.regionL ?_
    refine OpsL.cons rfl (op_move rfl) ?_
    refine OpsL.cons rfl (op_move rfl) ?_
    refine OpsL.cons rfl (op_len_e' und54 rfl (List.length_map _)) ?_
    refine OpsL.cons rfl (op_lss rfl rfl) ?_
    refine OpsL.nilK [0, 1, 5, 6, 7, 12] [102] (s' := ⟨[(0, .b (.one (.sl 1 (a0.map eI)))), (1, .b (.one (.sl 1 (b0.map eI)))), (5, .b (.row 102)), (6, I borrow_3), (7, I k_4), (12, B (decide (k_4 < (a0.length : Int))))], [(102, .row 3 1 (out_2.map eI))]⟩) rfl ?_
    refine Tri.ite h4 rfl (fun _ h4 => ?_) (fun _ h4 => ?_)
    · refine Tri.skip ?_
      refine Fin.keep [0, 1, 5, 6, 7] [102] (s' := ⟨[(0, .b (.one (.sl 1 (a0.map eI)))), (1, .b (.one (.sl 1 (b0.map eI)))), (5, .b (.row 102)), (6, I borrow_3), (7, I k_4)], [(102, .row 3 1 (out_2.map eI))]⟩) rfl ?_
      refine Fin.then ?_
      obtain ⟨v6, h7, h4⟩ := bnd h4
      refine Tri.seqJ (v := v6) (un2 fun (out_6 : List Int) (borrow_7 : Int) => ⟨[(0, .b (.one (.sl 1 (a0.map eI)))), (1, .b (.one (.sl 1 (b0.map eI)))), (5, .b (.row 102)), (6, I borrow_7), (7, I k_4)], [(102, .row 3 1 (out_6.map eI))]⟩) (fun z => z) ?_ ?_
      · refine Tri.block ?_
        refine Tri.seq ?_
        refine Tri.keep [0, 1, 5, 6, 7] [102] (s' := ⟨[(0, .b (.one (.sl 1 (a0.map eI)))), (1, .b (.one (.sl 1 (b0.map eI)))), (5, .b (.row 102)), (6, I borrow_3), (7, I k_4)], [(102, .row 3 1 (out_2.map eI))]⟩) rfl ?_
        obtain ⟨x_8, e8, h7⟩ := bnd h7
        obtain ⟨x_9, e9, h7⟩ := bnd h7
        refine Tri.regionY mixed 11 [.b (.one (.sl 1 (a0.map eI))), I k_4, .b (.eptr [.i x_8]), I x_8, .b (.one (.sl 1 (b0.map eI))), I k_4, I x_9, I (IntKind.i64.wrap (x_8 - x_9)), I borrow_3, I (IntKind.i64.wrap ((IntKind.i64.wrap (x_8 - x_9)) - borrow_3)), I (IntKind.i64.wrap ((IntKind.i64.wrap (x_8 - x_9)) - borrow_3))] [0, 1, 5, 7, 8] [102] (s' := ⟨[(0, .b (.one (.sl 1 (a0.map eI)))), (1, .b (.one (.sl 1 (b0.map eI)))), (5, .b (.row 102)), (7, I k_4), (8, I (IntKind.i64.wrap ((IntKind.i64.wrap (x_8 - x_9)) - borrow_3)))], [(102, .row 3 1 (out_2.map eI))]⟩) rfl ⟨fun _ => .plain rfl (op_move rfl), fun _ => .plain rfl (op_move rfl), fun _ => .plain rfl (op_index_e tySl54 (ix_lo e8) (ix_map (e := eI) e8) rfl rfl), fun _ => .plain rfl (op_load_e1 tyOne3 rfl rfl), fun _ => .plain rfl (op_move rfl), fun _ => .plain rfl (op_move rfl), fun _ => .plain rfl (op_call0 (skewbackref03_digit_spec e9) goes76 rfl rfl), fun _ => .plain rfl (op_sub rfl rfl), fun _ => .plain rfl (op_move rfl), fun _ => .plain rfl (op_sub rfl rfl), fun _ => .plain rfl (op_assign rfl), trivial⟩ rfl rfl ?_
        refine Tri.seq ?_
        refine Tri.regionL ?_
        refine OpsL.cons rfl (op_assign rfl) ?_
        refine OpsL.nilK [0, 1, 5, 6, 7, 8] [102] (s' := ⟨[(0, .b (.one (.sl 1 (a0.map eI)))), (1, .b (.one (.sl 1 (b0.map eI)))), (5, .b (.row 102)), (6, I 0), (7, I k_4), (8, I (IntKind.i64.wrap ((IntKind.i64.wrap (x_8 - x_9)) - borrow_3)))], [(102, .row 3 1 (out_2.map eI))]⟩) rfl ?_
        obtain ⟨v10, h11, h7⟩ := bnd h7
        refine Tri.seqJ (v := v10) (un2 fun (borrow_10 : Int) (n_11 : Int) => ⟨[(0, .b (.one (.sl 1 (a0.map eI)))), (1, .b (.one (.sl 1 (b0.map eI)))), (5, .b (.row 102)), (6, I borrow_10), (7, I k_4), (8, I n_11)], [(102, .row 3 1 (out_2.map eI))]⟩) (fun z => z) ?_ ?_
        · refine Tri.seq ?_
          refine Tri.regionL ?_
          refine OpsL.consI .i64 h11 rfl (op_move rfl) (fun x_12 h11 => ?_)
          refine OpsL.cons rfl (op_lss rfl rfl) ?_
          refine OpsL.nilK [0, 1, 5, 6, 7, 8, 26] [102] (s' := ⟨[(0, .b (.one (.sl 1 (a0.map eI)))), (1, .b (.one (.sl 1 (b0.map eI)))), (5, .b (.row 102)), (6, I 0), (7, I k_4), (8, I (IntKind.i64.wrap ((IntKind.i64.wrap (x_8 - x_9)) - borrow_3))), (26, B (decide (x_12 < 0)))], [(102, .row 3 1 (out_2.map eI))]⟩) rfl ?_
          refine Tri.ite h11 rfl (fun _ h11 => ?_) (fun _ h11 => ?_)
          · refine Tri.seq ?_
            refine Tri.regionL ?_
            refine OpsL.consI .i64 h11 rfl (op_move rfl) (fun x_13 h11 => ?_)
            refine OpsL.cons rfl (op_add rfl rfl) ?_
            refine OpsL.cons rfl (op_assign rfl) ?_
            refine OpsL.nilK [0, 1, 5, 7, 8] [102] (s' := ⟨[(0, .b (.one (.sl 1 (a0.map eI)))), (1, .b (.one (.sl 1 (b0.map eI)))), (5, .b (.row 102)), (7, I k_4), (8, I (IntKind.i64.wrap (x_13 + 65536)))], [(102, .row 3 1 (out_2.map eI))]⟩) rfl ?_
            refine Tri.regionL ?_
            refine OpsL.cons rfl (op_assign rfl) ?_
            refine OpsL.nil ?_
            exact Fin.join [0, 1, 5, 6, 7, 8] [102] (1, IntKind.i64.wrap (x_13 + 65536)) (Option.some.inj h11) rfl
          · refine Tri.skip ?_
            exact Fin.join [0, 1, 5, 6, 7, 8] [102] (0, IntKind.i64.wrap ((IntKind.i64.wrap (x_8 - x_9)) - borrow_3)) (Option.some.inj h11) rfl
        · rintro ⟨borrow_10, n_11⟩ hv
          subst v10
          refine Tri.regionL ?_
          refine OpsL.cons rfl (op_move rfl) ?_
          refine OpsL.cons rfl (op_move rfl) ?_
          refine OpsL.cons rfl (op_buildSlice (k := 103) (es := [n_11].map eI) tySl54 rfl rfl (uni_map fun _ => rfl) rfl (by decide) (by decide) rfl) ?_
          obtain ⟨x_14, e12, h7⟩ := bnd h7
          refine OpsL.cons rfl (op_append_r tySl54 (app_b e12) (app_m e12) rfl rfl rfl rfl (app_map e12) rfl) ?_
          refine OpsL.cons rfl (op_assign rfl) ?_
          refine OpsL.nil ?_
          refine Fin.block_normal ?_
          exact Fin.join [0, 1, 5, 6, 7] [102] (x_14, borrow_10) (Option.some.inj h7) rfl
      · rintro ⟨out_6, borrow_7⟩ hv
        subst v6
        refine Tri.regionL ?_
        refine OpsL.cons rfl (op_move rfl) ?_
        refine OpsL.cons rfl (op_add rfl rfl) ?_
        refine OpsL.cons rfl (op_assign rfl) ?_
        refine OpsL.nil ?_
        exact Fin.againJ [0, 1, 5, 6, 7] [102] (out_6, borrow_7, IntKind.i64.wrap (k_4 + 1)) (Option.some.inj h4) rfl
    · refine Tri.exit ?_
      refine Fin.then_exit ?_
      obtain rfl := hy5 _ (Option.some.inj h4).symm
      refine Fin.then_exit ?_
      refine Fin.block_exit ?_
      exact Fin.join [5] [102] out_2 rfl rfl
  · rintro out_1 hv
    subst v1
    refine Tri.seq ?_
    refine Tri.regionL ?_
    refine OpsL.cons rfl (op_move rfl) ?_
    refine OpsL.persist 102 rfl ?_
    obtain ⟨x_15, e13, h⟩ := bnd h
    refine OpsL.cons rfl (op_call0 (skewbackref03_trim_spec e13) goes70 rfl rfl) ?_
    refine OpsL.cons rfl (op_assign rfl) ?_
    refine OpsL.nilK [4] [] (s' := ⟨[(4, .b (.one (.sl 1 (x_15.map eI))))], []⟩) rfl ?_
    refine Tri.ret ?_
    obtain rfl := Option.some.inj h
    refine Fin.keep [4] [] (s' := ⟨[(4, .b (.one (.sl 1 (x_15.map eI))))], []⟩) rfl ?_
    refine Fin.result' [.one (.sl 1 (x_15.map eI))] (.inl rfl) rfl (.cons (.tmp rfl) .nil) ⟨rfl, rfl⟩

def skewbackref03_divide_S (F : Nat) (a0 : List Int) (b0 : List Int) : Option ((List Int) × (List Int)) :=
 Option.bind (mk? (0 : Int) (a0.length : Int) (a0.length : Int)) (fun x_1 => Option.bind (idx? b0 (IntKind.i64.wrap ((b0.length : Int) - 1))) (fun x_2 => Option.bind (skewbackref03_at_S F b0 (IntKind.i64.wrap ((b0.length : Int) - 2))) (fun x_3 => Option.bind (letN (IntKind.i64.wrap ((a0.length : Int) - 1)) fun x_6 => iter F (un3 fun q_7 r_8 k_9 => if (decide (0 ≤ k_9)) = true then (Option.bind (Option.bind (idx? a0 k_9) (fun x_14 => Option.bind (app? [x_14] r_8) (fun x_15 => Option.bind (skewbackref03_trim_S F x_15) (fun x_16 => Option.bind (skewbackref03_at_S F x_16 (b0.length : Int)) (fun x_17 => letN (IntKind.i64.wrap ((b0.length : Int) - 1)) fun x_18 => Option.bind (skewbackref03_at_S F x_16 x_18) (fun x_19 => letN (IntKind.i64.wrap ((IntKind.i64.wrap (x_17 * 4294967296)) + (IntKind.i64.wrap (x_19 * 65536)))) fun x_20 => letN (IntKind.i64.wrap ((b0.length : Int) - 2)) fun x_21 => Option.bind (skewbackref03_at_S F x_16 x_21) (fun x_22 => letN (IntKind.i64.wrap ((IntKind.i64.wrap (x_2 * 65536)) + x_3)) fun x_23 => Option.bind (quo? .i64 (IntKind.i64.wrap (x_20 + x_22)) x_23) (fun x_24 => Option.bind (skewbackref03_times_S F b0 [min 65535 x_24]) (fun x_25 => Option.bind (iter F (un2 fun d_28 part_29 => Option.bind (skewbackref03_less_S F x_16 part_29) (fun x_32 => if x_32 = true then (Option.bind (skewbackref03_minus_S F part_29 b0) (fun x_33 => some (.inl (IntKind.i64.wrap (d_28 - 1), x_33)))) else (some (.inr (d_28, part_29))))) (min 65535 x_24, x_25)) (un2 fun d_26 part_27 => Option.bind (idx? q_7 k_9) (fun x_34 => Option.bind (skewbackref03_minus_S F x_16 part_27) (fun x_35 => some (q_7.set (k_9 : Int).toNat d_26, x_35))))))))))))) (un2 fun q_12 r_13 => some (.inl (q_12, r_13, IntKind.i64.wrap (k_9 - 1))))) else (some (.inr (q_7, r_8)))) (x_1, [], x_6)) (un2 fun q_4 r_5 => Option.bind (skewbackref03_trim_S F q_4) (fun x_36 => some (x_36, r_5))))))
theorem skewbackref03_divide_spec {F : Nat} {a0 : List Int} {b0 : List Int} {r : (List Int) × (List Int)} (h : skewbackref03_divide_S F a0 b0 = some r) : Meets Tryd.prog tabs 64 [] [.one (.sl 1 (a0.map eI)), .one (.sl 1 (b0.map eI))] (Is [] (.tup [.one (.sl 1 (r.1.map eI)), .one (.sl 1 (r.2.map eI))])) := by
  unfold skewbackref03_divide_S at h
  refine Meets.intro 84 Tryd.func64 Tryd.ntmps64 rfl (by simp) fun E => ?_
  show Tri _ E ⟨84, [], []⟩ _ ⟨[(0, .b (.one (.sl 1 (a0.map eI)))), (1, .b (.one (.sl 1 (b0.map eI))))], []⟩ _
  refine Tri.seq ?_
  refine Tri.regionL ?_
  refine OpsL.cons rfl (op_assign rfl) ?_
  refine OpsL.cons rfl (op_assign rfl) ?_
  refine OpsL.nilK [0, 1] [] (s' := ⟨[(0, .b (.one (.sl 1 (a0.map eI)))), (1, .b (.one (.sl 1 (b0.map eI))))], []⟩) rfl ?_
  refine Tri.seq ?_
  refine Tri.regionL ?_
  refine OpsL.cons rfl (op_move rfl) ?_
  refine OpsL.cons rfl (op_len_e' und54 rfl (List.length_map _)) ?_
  obtain ⟨x_1, e1, h⟩ := bnd h
  refine OpsL.cons rfl (op_makeSlice (k := 101) (enc := eI) tySl54 e1 (by decide) (.cons .refl .nil) rfl rfl rfl) ?_
  refine OpsL.cons rfl (op_assign rfl) ?_
  refine OpsL.nilK [0, 1, 6] [101] (s' := ⟨[(0, .b (.one (.sl 1 (a0.map eI)))), (1, .b (.one (.sl 1 (b0.map eI)))), (6, .b (.row 101))], [(101, .row 3 1 (x_1.map eI))]⟩) rfl ?_
  refine Tri.seq ?_
  refine Tri.regionL ?_
  refine OpsL.cons rfl (op_move rfl) ?_
  refine OpsL.cons rfl (op_len_e' und54 rfl (List.length_map _)) ?_
  refine OpsL.cons rfl (op_assign rfl) ?_
  refine OpsL.nilK [0, 1, 6, 7] [101] (s' := ⟨[(0, .b (.one (.sl 1 (a0.map eI)))), (1, .b (.one (.sl 1 (b0.map eI)))), (6, .b (.row 101)), (7, I (b0.length : Int))], [(101, .row 3 1 (x_1.map eI))]⟩) rfl ?_
  refine Tri.seq ?_
  refine Tri.keep [0, 1, 6, 7] [101] (s' := ⟨[(0, .b (.one (.sl 1 (a0.map eI)))), (1, .b (.one (.sl 1 (b0.map eI)))), (6, .b (.row 101)), (7, I (b0.length : Int))], [(101, .row 3 1 (x_1.map eI))]⟩) rfl ?_
  obtain ⟨x_2, e2, h⟩ := bnd h
  obtain ⟨x_3, e3, h⟩ := bnd h
  refine Tri.regionY mixed 12 [.b (.one (.sl 1 (b0.map eI))), I (b0.length : Int), I (IntKind.i64.wrap ((b0.length : Int) - 1)), .b (.eptr [.i x_2]), I x_2, I (IntKind.i64.wrap (x_2 * 65536)), .b (.one (.sl 1 (b0.map eI))), I (b0.length : Int), I (IntKind.i64.wrap ((b0.length : Int) - 2)), I x_3, I (IntKind.i64.wrap ((IntKind.i64.wrap (x_2 * 65536)) + x_3)), I (IntKind.i64.wrap ((IntKind.i64.wrap (x_2 * 65536)) + x_3))] [0, 1, 6, 7, 8] [101] (s' := ⟨[(0, .b (.one (.sl 1 (a0.map eI)))), (1, .b (.one (.sl 1 (b0.map eI)))), (6, .b (.row 101)), (7, I (b0.length : Int)), (8, I (IntKind.i64.wrap ((IntKind.i64.wrap (x_2 * 65536)) + x_3)))], [(101, .row 3 1 (x_1.map eI))]⟩) rfl ⟨fun _ => .plain rfl (op_move rfl), fun _ => .plain rfl (op_move rfl), fun _ => .plain rfl (op_sub rfl rfl), fun _ => .plain rfl (op_index_e tySl54 (ix_lo e2) (ix_map (e := eI) e2) rfl rfl), fun _ => .plain rfl (op_load_e1 tyOne3 rfl rfl), fun _ => .plain rfl (op_mul rfl rfl), fun _ => .plain rfl (op_move rfl), fun _ => .plain rfl (op_move rfl), fun _ => .plain rfl (op_sub rfl rfl), fun _ => .plain rfl (op_call0 (skewbackref03_at_spec e3) goes77 rfl rfl), fun _ => .plain rfl (op_add rfl rfl), fun _ => .plain rfl (op_assign rfl), trivial⟩ rfl rfl ?_
  refine Tri.seq ?_
  refine Tri.regionL ?_
  refine OpsL.cons rfl (op_assign rfl) ?_
  refine OpsL.nilK [0, 1, 6, 7, 8, 9] [101] (s' := ⟨[(0, .b (.one (.sl 1 (a0.map eI)))), (1, .b (.one (.sl 1 (b0.map eI)))), (6, .b (.row 101)), (7, I (b0.length : Int)), (8, I (IntKind.i64.wrap ((IntKind.i64.wrap (x_2 * 65536)) + x_3))), (9, .b (.one (.nil)))], [(101, .row 3 1 (x_1.map eI))]⟩) rfl ?_
  obtain ⟨v4, h5, h⟩ := bnd h
  refine Tri.seqJ (v := v4) (un2 fun (q_4 : List Int) (r_5 : List Int) => ⟨[(6, .b (.row 101)), (9, .b (.one (.sl 1 (r_5.map eI))))], [(101, .row 3 1 (q_4.map eI))]⟩) (fun z => z) ?_ ?_
  · refine Tri.seq ?_
    refine Tri.regionL ?_
    refine OpsL.cons rfl (op_move rfl) ?_
    refine OpsL.cons rfl (op_len_e' und54 rfl (List.length_map _)) ?_
    refine OpsL.consI .i64 h5 rfl (op_sub rfl rfl) (fun x_6 h5 => ?_)
    refine OpsL.cons rfl (op_assign rfl) ?_
    refine OpsL.nilK [0, 1, 6, 7, 8, 9, 10] [101] (s' := ⟨[(0, .b (.one (.sl 1 (a0.map eI)))), (1, .b (.one (.sl 1 (b0.map eI)))), (6, .b (.row 101)), (7, I (b0.length : Int)), (8, I (IntKind.i64.wrap ((IntKind.i64.wrap (x_2 * 65536)) + x_3))), (9, .b (.one (.nil))), (10, I x_6)], [(101, .row 3 1 (x_1.map eI))]⟩) rfl ?_
    refine Tri.block ?_
    refine Tri.keep [0, 1, 6, 7, 8, 9, 10] [101] (s' := ⟨[(0, .b (.one (.sl 1 (a0.map eI)))), (1, .b (.one (.sl 1 (b0.map eI)))), (6, .b (.row 101)), (7, I (b0.length : Int)), (8, I (IntKind.i64.wrap ((IntKind.i64.wrap (x_2 * 65536)) + x_3))), (9, .b (.one (.nil))), (10, I x_6)], [(101, .row 3 1 (x_1.map eI))]⟩) rfl ?_
    refine Tri.nilsl 9 1 rfl (by decide) ?_
    refine Tri.loopJ h5 (un3 fun (q_7 : List Int) (r_8 : List Int) (k_9 : Int) => ⟨[(0, .b (.one (.sl 1 (a0.map eI)))), (1, .b (.one (.sl 1 (b0.map eI)))), (6, .b (.row 101)), (7, I (b0.length : Int)), (8, I (IntKind.i64.wrap ((IntKind.i64.wrap (x_2 * 65536)) + x_3))), (9, .b (.one (.sl 1 (r_8.map eI)))), (10, I k_9)], [(101, .row 3 1 (q_7.map eI))]⟩) [0, 1, 6, 7, 8, 9, 10] [101] rfl ?_
    rintro ⟨q_7, r_8, k_9⟩ o6 h7 hy8
    refine Tri.seq ?_
    refine Tri.seq ?_
    refine Tri.regionL ?_
    refine OpsL.cons rfl (op_move rfl) ?_
    refine OpsL.cons rfl (op_geq rfl rfl) ?_
    refine OpsL.nilK [0, 1, 6, 7, 8, 9, 10, 33] [101] (s' := ⟨[(0, .b (.one (.sl 1 (a0.map eI)))), (1, .b (.one (.sl 1 (b0.map eI)))), (6, .b (.row 101)), (7, I (b0.length : Int)), (8, I (IntKind.i64.wrap ((IntKind.i64.wrap (x_2 * 65536)) + x_3))), (9, .b (.one (.sl 1 (r_8.map eI)))), (10, I k_9), (33, B (decide (0 ≤ k_9)))], [(101, .row 3 1 (q_7.map eI))]⟩) rfl ?_
    refine Tri.ite h7 rfl (fun _ h7 => ?_) (fun _ h7 => ?_)
    · refine Tri.skip ?_
      refine Fin.keep [0, 1, 6, 7, 8, 9, 10] [101] (s' := ⟨[(0, .b (.one (.sl 1 (a0.map eI)))), (1, .b (.one (.sl 1 (b0.map eI)))), (6, .b (.row 101)), (7, I (b0.length : Int)), (8, I (IntKind.i64.wrap ((IntKind.i64.wrap (x_2 * 65536)) + x_3))), (9, .b (.one (.sl 1 (r_8.map eI)))), (10, I k_9)], [(101, .row 3 1 (q_7.map eI))]⟩) rfl ?_
      refine Fin.then ?_
      obtain ⟨v9, h10, h7⟩ := bnd h7
      refine Tri.seqJ (v := v9) (un2 fun (q_12 : List Int) (r_13 : List Int) => ⟨[(0, .b (.one (.sl 1 (a0.map eI)))), (1, .b (.one (.sl 1 (b0.map eI)))), (6, .b (.row 101)), (7, I (b0.length : Int)), (8, I (IntKind.i64.wrap ((IntKind.i64.wrap (x_2 * 65536)) + x_3))), (9, .b (.one (.sl 1 (r_13.map eI)))), (10, I k_9)], [(101, .row 3 1 (q_12.map eI))]⟩) (fun z => z) ?_ ?_
      · refine Tri.block ?_
        refine Tri.seq ?_
        refine Tri.regionL ?_
        refine OpsL.cons rfl (op_move rfl) ?_
        refine OpsL.cons rfl (op_move rfl) ?_
        obtain ⟨x_14, e11, h10⟩ := bnd h10
        refine OpsL.cons rfl (op_index_e tySl54 (ix_lo e11) (ix_map (e := eI) e11) rfl rfl) ?_
        refine OpsL.cons rfl (op_load_e1 tyOne3 rfl rfl) ?_
        refine OpsL.cons rfl (op_buildSlice (k := 102) (es := [x_14].map eI) tySl54 rfl rfl (uni_map fun _ => rfl) rfl (by decide) (by decide) rfl) ?_
        refine OpsL.cons rfl (op_move rfl) ?_
        refine OpsL.keep [0, 1, 6, 7, 8, 9, 10, 40, 41] [101, 102] (s' := ⟨[(0, .b (.one (.sl 1 (a0.map eI)))), (1, .b (.one (.sl 1 (b0.map eI)))), (6, .b (.row 101)), (7, I (b0.length : Int)), (8, I (IntKind.i64.wrap ((IntKind.i64.wrap (x_2 * 65536)) + x_3))), (9, .b (.one (.sl 1 (r_8.map eI)))), (10, I k_9), (40, .b (.row 102)), (41, .b (.one (.sl 1 (r_8.map eI))))], [(101, .row 3 1 (q_7.map eI)), (102, .row 3 1 ([x_14].map eI))]⟩) rfl ?_
        obtain ⟨x_15, e12, h10⟩ := bnd h10
        refine OpsL.cons rfl (op_append tySl54 (app_b e12) (app_m e12) rfl rfl rfl (app_map e12) rfl) ?_
        refine OpsL.persist 102 rfl ?_
        obtain ⟨x_16, e13, h10⟩ := bnd h10
        refine OpsL.cons rfl (op_call0 (skewbackref03_trim_spec e13) goes70 rfl rfl) ?_
        refine OpsL.cons rfl (op_assign rfl) ?_
        refine OpsL.nilK [0, 1, 6, 7, 8, 9, 10] [101] (s' := ⟨[(0, .b (.one (.sl 1 (a0.map eI)))), (1, .b (.one (.sl 1 (b0.map eI)))), (6, .b (.row 101)), (7, I (b0.length : Int)), (8, I (IntKind.i64.wrap ((IntKind.i64.wrap (x_2 * 65536)) + x_3))), (9, .b (.one (.sl 1 (x_16.map eI)))), (10, I k_9)], [(101, .row 3 1 (q_7.map eI))]⟩) rfl ?_
        refine Tri.seq ?_
        refine Tri.regionL ?_
        refine OpsL.cons rfl (op_move rfl) ?_
        refine OpsL.cons rfl (op_move rfl) ?_
        obtain ⟨x_17, e14, h10⟩ := bnd h10
        refine OpsL.cons rfl (op_call0 (skewbackref03_at_spec e14) goes77 rfl rfl) ?_
        refine OpsL.cons rfl (op_mul rfl rfl) ?_
        refine OpsL.cons rfl (op_move rfl) ?_
        refine OpsL.keep [0, 1, 6, 7, 8, 9, 10, 47, 48] [101] (s' := ⟨[(0, .b (.one (.sl 1 (a0.map eI)))), (1, .b (.one (.sl 1 (b0.map eI)))), (6, .b (.row 101)), (7, I (b0.length : Int)), (8, I (IntKind.i64.wrap ((IntKind.i64.wrap (x_2 * 65536)) + x_3))), (9, .b (.one (.sl 1 (x_16.map eI)))), (10, I k_9), (47, I (IntKind.i64.wrap (x_17 * 4294967296))), (48, .b (.one (.sl 1 (x_16.map eI))))], [(101, .row 3 1 (q_7.map eI))]⟩) rfl ?_
        refine OpsL.cons rfl (op_move rfl) ?_
        refine OpsL.consI .i64 h10 rfl (op_sub rfl rfl) (fun x_18 h10 => ?_)
        obtain ⟨x_19, e15, h10⟩ := bnd h10
        refine OpsL.cons rfl (op_call0 (skewbackref03_at_spec e15) goes77 rfl rfl) ?_
        refine OpsL.cons rfl (op_mul rfl rfl) ?_
        refine OpsL.consI .i64 h10 rfl (op_add rfl rfl) (fun x_20 h10 => ?_)
        refine OpsL.cons rfl (op_move rfl) ?_
        refine OpsL.keep [0, 1, 6, 7, 8, 9, 10, 53, 54] [101] (s' := ⟨[(0, .b (.one (.sl 1 (a0.map eI)))), (1, .b (.one (.sl 1 (b0.map eI)))), (6, .b (.row 101)), (7, I (b0.length : Int)), (8, I (IntKind.i64.wrap ((IntKind.i64.wrap (x_2 * 65536)) + x_3))), (9, .b (.one (.sl 1 (x_16.map eI)))), (10, I k_9), (53, I x_20), (54, .b (.one (.sl 1 (x_16.map eI))))], [(101, .row 3 1 (q_7.map eI))]⟩) rfl ?_
        refine OpsL.cons rfl (op_move rfl) ?_
        refine OpsL.consI .i64 h10 rfl (op_sub rfl rfl) (fun x_21 h10 => ?_)
        obtain ⟨x_22, e16, h10⟩ := bnd h10
        refine OpsL.cons rfl (op_call0 (skewbackref03_at_spec e16) goes77 rfl rfl) ?_
        refine OpsL.cons rfl (op_add rfl rfl) ?_
        refine OpsL.consI .i64 h10 rfl (op_move rfl) (fun x_23 h10 => ?_)
        obtain ⟨x_24, e17, h10⟩ := bnd h10
        refine OpsL.cons rfl (op_quo2 e17 rfl rfl) ?_
        refine OpsL.cons rfl (op_min rfl rfl) ?_
        refine OpsL.cons rfl (op_assign rfl) ?_
        refine OpsL.nilK [0, 1, 6, 7, 8, 9, 10, 11] [101] (s' := ⟨[(0, .b (.one (.sl 1 (a0.map eI)))), (1, .b (.one (.sl 1 (b0.map eI)))), (6, .b (.row 101)), (7, I (b0.length : Int)), (8, I (IntKind.i64.wrap ((IntKind.i64.wrap (x_2 * 65536)) + x_3))), (9, .b (.one (.sl 1 (x_16.map eI)))), (10, I k_9), (11, I (min 65535 x_24))], [(101, .row 3 1 (q_7.map eI))]⟩) rfl ?_
        refine Tri.seq ?_
        refine Tri.regionL ?_
        refine OpsL.cons rfl (op_move rfl) ?_
        refine OpsL.cons rfl (op_move rfl) ?_
        refine OpsL.cons rfl (op_buildSlice (k := 103) (es := [min 65535 x_24].map eI) tySl54 rfl rfl (uni_map fun _ => rfl) rfl (by decide) (by decide) rfl) ?_
        refine OpsL.persist 103 rfl ?_
        obtain ⟨x_25, e18, h10⟩ := bnd h10
        refine OpsL.cons rfl (op_call0 (skewbackref03_times_spec e18) goes61 rfl rfl) ?_
        refine OpsL.cons rfl (op_assign rfl) ?_
        refine OpsL.nilK [0, 1, 6, 7, 8, 9, 10, 11, 12] [101] (s' := ⟨[(0, .b (.one (.sl 1 (a0.map eI)))), (1, .b (.one (.sl 1 (b0.map eI)))), (6, .b (.row 101)), (7, I (b0.length : Int)), (8, I (IntKind.i64.wrap ((IntKind.i64.wrap (x_2 * 65536)) + x_3))), (9, .b (.one (.sl 1 (x_16.map eI)))), (10, I k_9), (11, I (min 65535 x_24)), (12, .b (.one (.sl 1 (x_25.map eI))))], [(101, .row 3 1 (q_7.map eI))]⟩) rfl ?_
        obtain ⟨v19, h20, h10⟩ := bnd h10
        refine Tri.seqJ (v := v19) (un2 fun (d_26 : Int) (part_27 : List Int) => ⟨[(0, .b (.one (.sl 1 (a0.map eI)))), (1, .b (.one (.sl 1 (b0.map eI)))), (6, .b (.row 101)), (7, I (b0.length : Int)), (8, I (IntKind.i64.wrap ((IntKind.i64.wrap (x_2 * 65536)) + x_3))), (9, .b (.one (.sl 1 (x_16.map eI)))), (10, I k_9), (11, I d_26), (12, .b (.one (.sl 1 (part_27.map eI))))], [(101, .row 3 1 (q_7.map eI))]⟩) (fun z => z) ?_ ?_
        · refine Tri.block ?_
          refine Tri.loopJ h20 (un2 fun (d_28 : Int) (part_29 : List Int) => ⟨[(0, .b (.one (.sl 1 (a0.map eI)))), (1, .b (.one (.sl 1 (b0.map eI)))), (6, .b (.row 101)), (7, I (b0.length : Int)), (8, I (IntKind.i64.wrap ((IntKind.i64.wrap (x_2 * 65536)) + x_3))), (9, .b (.one (.sl 1 (x_16.map eI)))), (10, I k_9), (11, I d_28), (12, .b (.one (.sl 1 (part_29.map eI))))], [(101, .row 3 1 (q_7.map eI))]⟩) [0, 1, 6, 7, 8, 9, 10, 11, 12] [101] rfl ?_
          rintro ⟨d_28, part_29⟩ o21 h22 hy23
          refine Tri.seq ?_
          refine Tri.seq ?_
          refine Tri.regionL ?_
          refine OpsL.cons rfl (op_move rfl) ?_
          refine OpsL.cons rfl (op_move rfl) ?_
          obtain ⟨x_32, e24, h22⟩ := bnd h22
          refine OpsL.cons rfl (op_call0 (skewbackref03_less_spec e24) goes55 rfl rfl) ?_
          refine OpsL.nilK [0, 1, 6, 7, 8, 9, 10, 11, 12, 68] [101] (s' := ⟨[(0, .b (.one (.sl 1 (a0.map eI)))), (1, .b (.one (.sl 1 (b0.map eI)))), (6, .b (.row 101)), (7, I (b0.length : Int)), (8, I (IntKind.i64.wrap ((IntKind.i64.wrap (x_2 * 65536)) + x_3))), (9, .b (.one (.sl 1 (x_16.map eI)))), (10, I k_9), (11, I d_28), (12, .b (.one (.sl 1 (part_29.map eI)))), (68, B x_32)], [(101, .row 3 1 (q_7.map eI))]⟩) rfl ?_
          refine Tri.ite h22 rfl (fun _ h22 => ?_) (fun _ h22 => ?_)
          · refine Tri.skip ?_
            refine Fin.keep [0, 1, 6, 7, 8, 9, 10, 11, 12] [101] (s' := ⟨[(0, .b (.one (.sl 1 (a0.map eI)))), (1, .b (.one (.sl 1 (b0.map eI)))), (6, .b (.row 101)), (7, I (b0.length : Int)), (8, I (IntKind.i64.wrap ((IntKind.i64.wrap (x_2 * 65536)) + x_3))), (9, .b (.one (.sl 1 (x_16.map eI)))), (10, I k_9), (11, I d_28), (12, .b (.one (.sl 1 (part_29.map eI))))], [(101, .row 3 1 (q_7.map eI))]⟩) rfl ?_
            refine Fin.then ?_
            refine Tri.block ?_
            refine Tri.seq ?_
            refine Tri.regionL ?_
            refine OpsL.cons rfl (op_move rfl) ?_
            refine OpsL.cons rfl (op_sub rfl rfl) ?_
            refine OpsL.cons rfl (op_assign rfl) ?_
            refine OpsL.nilK [0, 1, 6, 7, 8, 9, 10, 11, 12] [101] (s' := ⟨[(0, .b (.one (.sl 1 (a0.map eI)))), (1, .b (.one (.sl 1 (b0.map eI)))), (6, .b (.row 101)), (7, I (b0.length : Int)), (8, I (IntKind.i64.wrap ((IntKind.i64.wrap (x_2 * 65536)) + x_3))), (9, .b (.one (.sl 1 (x_16.map eI)))), (10, I k_9), (11, I (IntKind.i64.wrap (d_28 - 1))), (12, .b (.one (.sl 1 (part_29.map eI))))], [(101, .row 3 1 (q_7.map eI))]⟩) rfl ?_
            refine Tri.regionL ?_
            refine OpsL.cons rfl (op_move rfl) ?_
            refine OpsL.cons rfl (op_move rfl) ?_
            obtain ⟨x_33, e25, h22⟩ := bnd h22
            refine OpsL.cons rfl (op_call0 (skewbackref03_minus_spec e25) goes56 rfl rfl) ?_
            refine OpsL.cons rfl (op_assign rfl) ?_
            refine OpsL.nil ?_
            refine Fin.block_normal ?_
            exact Fin.againJ [0, 1, 6, 7, 8, 9, 10, 11, 12] [101] (IntKind.i64.wrap (d_28 - 1), x_33) (Option.some.inj h22) rfl
          · refine Tri.exit ?_
            refine Fin.then_exit ?_
            obtain rfl := hy23 _ (Option.some.inj h22).symm
            refine Fin.then_exit ?_
            refine Fin.block_exit ?_
            exact Fin.join [0, 1, 6, 7, 8, 9, 10, 11, 12] [101] (d_28, part_29) rfl rfl
        · rintro ⟨d_26, part_27⟩ hv
          subst v19
          refine Tri.seq ?_
          refine Tri.regionL ?_
          refine OpsL.cons rfl (op_move rfl) ?_
          refine OpsL.cons rfl (op_move rfl) ?_
          refine OpsL.cons rfl (op_move rfl) ?_
          obtain ⟨x_34, e26, h10⟩ := bnd h10
          refine OpsL.cons rfl (op_index_r tySl54 (ix_lo e26) (ix_lt' e26) rfl rfl rfl rfl) ?_
          refine OpsL.cons rfl (op_store_r1 (i := (k_9 : Int).toNat) tyOne3 rfl rfl rfl rfl (ix_lt e26) (map_set _ _ _ _)) ?_
          refine OpsL.nilK [0, 1, 6, 7, 8, 9, 10, 12] [101] (s' := ⟨[(0, .b (.one (.sl 1 (a0.map eI)))), (1, .b (.one (.sl 1 (b0.map eI)))), (6, .b (.row 101)), (7, I (b0.length : Int)), (8, I (IntKind.i64.wrap ((IntKind.i64.wrap (x_2 * 65536)) + x_3))), (9, .b (.one (.sl 1 (x_16.map eI)))), (10, I k_9), (12, .b (.one (.sl 1 (part_27.map eI))))], [(101, .row 3 1 ((q_7.set (k_9 : Int).toNat d_26).map eI))]⟩) rfl ?_
          refine Tri.regionL ?_
          refine OpsL.cons rfl (op_move rfl) ?_
          refine OpsL.cons rfl (op_move rfl) ?_
          obtain ⟨x_35, e27, h10⟩ := bnd h10
          refine OpsL.cons rfl (op_call0 (skewbackref03_minus_spec e27) goes56 rfl rfl) ?_
          refine OpsL.cons rfl (op_assign rfl) ?_
          refine OpsL.nil ?_
          refine Fin.block_normal ?_
          exact Fin.join [0, 1, 6, 7, 8, 9, 10] [101] (q_7.set (k_9 : Int).toNat d_26, x_35) (Option.some.inj h10) rfl
      · rintro ⟨q_12, r_13⟩ hv
        subst v9
        refine Tri.regionL ?_
        refine OpsL.cons rfl (op_move rfl) ?_
        refine OpsL.cons rfl (op_sub rfl rfl) ?_
        refine OpsL.cons rfl (op_assign rfl) ?_
        refine OpsL.nil ?_
        exact Fin.againJ [0, 1, 6, 7, 8, 9, 10] [101] (q_12, r_13, IntKind.i64.wrap (k_9 - 1)) (Option.some.inj h7) rfl
    · refine Tri.exit ?_
      refine Fin.then_exit ?_
      obtain rfl := hy8 _ (Option.some.inj h7).symm
      refine Fin.then_exit ?_
      refine Fin.block_exit ?_
      exact Fin.join [6, 9] [101] (q_7, r_8) rfl rfl
  · rintro ⟨q_4, r_5⟩ hv
    subst v4
    refine Tri.seq ?_
    refine Tri.regionL ?_
    refine OpsL.cons rfl (op_move rfl) ?_
    refine OpsL.persist 101 rfl ?_
    obtain ⟨x_36, e28, h⟩ := bnd h
    refine OpsL.cons rfl (op_call0 (skewbackref03_trim_spec e28) goes70 rfl rfl) ?_
    refine OpsL.cons rfl (op_move rfl) ?_
    refine OpsL.cons rfl (op_assign rfl) ?_
    refine OpsL.cons rfl (op_assign rfl) ?_
    refine OpsL.nilK [4, 5] [] (s' := ⟨[(4, .b (.one (.sl 1 (x_36.map eI)))), (5, .b (.one (.sl 1 (r_5.map eI))))], []⟩) rfl ?_
    refine Tri.ret ?_
    obtain rfl := Option.some.inj h
    refine Fin.keep [4, 5] [] (s' := ⟨[(4, .b (.one (.sl 1 (x_36.map eI)))), (5, .b (.one (.sl 1 (r_5.map eI))))], []⟩) rfl ?_
    refine Fin.result' [.one (.sl 1 (x_36.map eI)), .one (.sl 1 (r_5.map eI))] (.inl rfl) rfl (.cons (.tmp rfl) (.cons (.tmp rfl) .nil)) ⟨rfl, rfl⟩

def skewbackref03_Quo_S (F : Nat) (a0 : Big) (b0 : Big) : Option Big :=
 Option.bind (skewbackref03_word_S F a0) (un2 fun x_1 x_2 => Option.bind (skewbackref03_word_S F b0) (un2 fun x_3 x_4 => if ((x_2 && x_4) && (decide (x_3 ≠ 0))) = true then (Option.bind (skewbackref03_floor_S F x_1 x_3) (fun x_5 => Option.bind (skewbackref03_Of_S F x_5) (fun x_6 => some x_6))) else (Option.bind (skewbackref03_Good_S F a0) (fun x_7 => Option.bind (gcall (!(!x_7)) (skewbackref03_Good_S F b0)) (fun x_8 => Option.bind (gcall (!((!x_7) || (!x_8))) (skewbackref03_digits_S F b0)) (fun x_9 => if (((!x_7) || (!x_8)) || (decide ((x_9.length : Int) = 0))) = true then (Option.bind (skewbackref03_Bad_S F) (fun x_10 => some x_10)) else (Option.bind (skewbackref03_digits_S F a0) (fun x_11 => Option.bind (skewbackref03_digits_S F b0) (fun x_12 => Option.bind (skewbackref03_divide_S F x_11 x_12) (un2 fun x_13 x_14 => Option.bind (if ((a0.Neg != b0.Neg) && (decide (0 < (x_14.length : Int)))) = true then (Option.bind (skewbackref03_plus_S F x_13 [1]) (fun x_16 => some x_16)) else (some x_13)) (fun q_15 => Option.bind (skewbackref03_number_S F (a0.Neg != b0.Neg) q_15) (fun x_17 => some x_17))))))))))))
theorem skewbackref03_Quo_spec {F : Nat} {a0 : Big} {b0 : Big} {r : Big} (h : skewbackref03_Quo_S F a0 b0 = some r) : Meets Tryd.prog tabs 30 [] [.agg (eBig a0), .agg (eBig b0)] (Is [] (.b (.agg (eBig r)))) := by
  unfold skewbackref03_Quo_S at h
  refine Meets.intro 76 Tryd.func30 Tryd.ntmps30 rfl (by simp) fun E => ?_
  show Tri _ E ⟨76, [], []⟩ _ ⟨[(0, .b (.agg (eBig a0))), (1, .b (.agg (eBig b0)))], []⟩ _
  refine Tri.seq ?_
  refine Tri.regionL ?_
  refine OpsL.cons rfl (op_box (k := 101) rfl rfl) ?_
  refine OpsL.cons rfl (op_box (k := 102) rfl rfl) ?_
  refine OpsL.cons rfl (op_alloc (k := 103) tyZero25 rfl) ?_
  refine OpsL.nilK [2, 3, 4] [101, 102, 103] (s' := ⟨[(2, .b (.ptr 101 0)), (3, .b (.ptr 102 0)), (4, .b (.ptr 103 0))], [(101, .box 25 (eBig a0)), (102, .box 25 (eBig b0)), (103, .box 25 (.bool false :: .bool false :: ((eA16 .u32) A16.zero)))]⟩) rfl ?_
  refine Tri.seq ?_
  refine Tri.regionL ?_
  refine OpsL.cons rfl (op_load_p tyAgg25 rfl rfl rfl rfl) ?_
  obtain ⟨⟨x_1, x_2⟩, e1, h⟩ := bnd h
  refine OpsL.cons rfl (op_call0 (skewbackref03_word_spec e1) goes49 rfl rfl) ?_
  refine OpsL.cons rfl (op_move rfl) ?_
  refine OpsL.cons rfl (op_extract rfl rfl) ?_
  refine OpsL.cons rfl (op_extract rfl rfl) ?_
  refine OpsL.cons rfl (op_assign rfl) ?_
  refine OpsL.cons rfl (op_assign rfl) ?_
  refine OpsL.nilK [2, 3, 4, 5, 6] [101, 102, 103] (s' := ⟨[(2, .b (.ptr 101 0)), (3, .b (.ptr 102 0)), (4, .b (.ptr 103 0)), (5, I x_1), (6, B x_2)], [(101, .box 25 (eBig a0)), (102, .box 25 (eBig b0)), (103, .box 25 (.bool false :: .bool false :: ((eA16 .u32) A16.zero)))]⟩) rfl ?_
  refine Tri.seq ?_
  refine Tri.regionL ?_
  refine OpsL.cons rfl (op_load_p tyAgg25 rfl rfl rfl rfl) ?_
  obtain ⟨⟨x_3, x_4⟩, e2, h⟩ := bnd h
  refine OpsL.cons rfl (op_call0 (skewbackref03_word_spec e2) goes49 rfl rfl) ?_
  refine OpsL.cons rfl (op_move rfl) ?_
  refine OpsL.cons rfl (op_extract rfl rfl) ?_
  refine OpsL.cons rfl (op_extract rfl rfl) ?_
  refine OpsL.cons rfl (op_assign rfl) ?_
  refine OpsL.cons rfl (op_assign rfl) ?_
  refine OpsL.nilK [2, 3, 4, 5, 6, 7, 8] [101, 102, 103] (s' := ⟨[(2, .b (.ptr 101 0)), (3, .b (.ptr 102 0)), (4, .b (.ptr 103 0)), (5, I x_1), (6, B x_2), (7, I x_3), (8, B x_4)], [(101, .box 25 (eBig a0)), (102, .box 25 (eBig b0)), (103, .box 25 (.bool false :: .bool false :: ((eA16 .u32) A16.zero)))]⟩) rfl ?_
  refine Tri.seq ?_
  refine Tri.seq ?_
  refine Tri.regionL ?_
  refine OpsL.cons rfl (op_move rfl) ?_
  refine OpsL.cons rfl (op_move rfl) ?_
  refine OpsL.consG x_2 99 [] (.plain rfl) (eq_t _) rfl rfl (fun g3 => trivial) (fun g3 => op_move rfl) ?_
  refine OpsL.cons rfl (op_pick_and (fun e => e) rfl rfl rfl rfl) ?_
  refine OpsL.cons rfl (op_move rfl) ?_
  refine OpsL.consG (x_2 && x_4) 99 [] (.plain rfl) (eq_t _) rfl rfl (fun g4 => trivial) (fun g4 => op_move rfl) ?_
  refine OpsL.consG (x_2 && x_4) 99 [26] (.plain rfl) (eq_t _) rfl rfl (fun g5 => ⟨g5, trivial⟩) (fun g5 => op_neq rfl rfl) ?_
  refine OpsL.cons rfl (op_pick_and (fun e => e) rfl rfl rfl rfl) ?_
  refine OpsL.nilK [2, 3, 4, 5, 7, 28] [101, 102, 103] (s' := ⟨[(2, .b (.ptr 101 0)), (3, .b (.ptr 102 0)), (4, .b (.ptr 103 0)), (5, I x_1), (7, I x_3), (28, B ((x_2 && x_4) && (decide (x_3 ≠ 0))))], [(101, .box 25 (eBig a0)), (102, .box 25 (eBig b0)), (103, .box 25 (.bool false :: .bool false :: ((eA16 .u32) A16.zero)))]⟩) rfl ?_
  refine Tri.ite h rfl (fun _ h => ?_) (fun _ h => ?_)
  · refine Tri.seq ?_
    refine Tri.regionL ?_
    refine OpsL.cons rfl (op_move rfl) ?_
    refine OpsL.cons rfl (op_move rfl) ?_
    obtain ⟨x_5, e6, h⟩ := bnd h
    refine OpsL.cons rfl (op_call0 (skewbackref03_floor_spec e6) goes63 rfl rfl) ?_
    obtain ⟨x_6, e7, h⟩ := bnd h
    refine OpsL.cons rfl (op_call0 (skewbackref03_Of_spec e7) goes50 rfl rfl) ?_
    refine OpsL.cons rfl (op_store_p tyAgg25 rfl rfl rfl rfl (Nat.le_of_ble_eq_true rfl) rfl) ?_
    refine OpsL.nilK [4] [103] (s' := ⟨[(4, .b (.ptr 103 0))], [(103, .box 25 (eBig x_6))]⟩) rfl ?_
    refine Tri.ret ?_
    refine Fin.then_ret ?_
    obtain rfl := Option.some.inj h
    refine Fin.keep [4] [103] (s' := ⟨[(4, .b (.ptr 103 0))], [(103, .box 25 (eBig x_6))]⟩) rfl ?_
    refine Fin.result' [.agg (eBig x_6)] (.inl rfl) rfl (.cons (.agg tyAgg25 rfl rfl rfl rfl) .nil) ⟨rfl, rfl⟩
  · refine Tri.skip ?_
    refine Fin.keep [2, 3, 4] [101, 102, 103] (s' := ⟨[(2, .b (.ptr 101 0)), (3, .b (.ptr 102 0)), (4, .b (.ptr 103 0))], [(101, .box 25 (eBig a0)), (102, .box 25 (eBig b0)), (103, .box 25 (.bool false :: .bool false :: ((eA16 .u32) A16.zero)))]⟩) rfl ?_
    refine Fin.then ?_
    refine Tri.seq ?_
    refine Tri.seq ?_
    refine Tri.regionL ?_
    refine OpsL.cons rfl (op_load_p tyAgg25 rfl rfl rfl rfl) ?_
    obtain ⟨x_7, e8, h⟩ := bnd h
    refine OpsL.cons rfl (op_call0 (skewbackref03_Good_spec e8) goes35 rfl rfl) ?_
    refine OpsL.cons rfl (op_not rfl) ?_
    refine OpsL.cons rfl (op_move rfl) ?_
    refine OpsL.consG (!(!x_7)) 99 [] (.plain rfl) (eq_f _) rfl rfl (fun g9 => trivial) (fun g9 => op_load_p tyAgg25 rfl rfl rfl rfl) ?_
    refine OpsL.keep [2, 3, 4, 36, 37] [101, 102, 103] (s' := ⟨[(2, .b (.ptr 101 0)), (3, .b (.ptr 102 0)), (4, .b (.ptr 103 0)), (36, B (!x_7)), (37, .opt (!(!x_7)) (.agg (eBig b0)))], [(101, .box 25 (eBig a0)), (102, .box 25 (eBig b0)), (103, .box 25 (.bool false :: .bool false :: ((eA16 .u32) A16.zero)))]⟩) rfl ?_
    obtain ⟨x_8, e11, h⟩ := bnd h
    refine OpsL.consG (!(!x_7)) 99 [37] (.plain rfl) (eq_f _) rfl rfl (fun g10 => ⟨g10, trivial⟩) (fun g10 => op_call0 (skewbackref03_Good_spec (gc e11 g10)) goes35 rfl rfl) ?_
    refine OpsL.consG (!(!x_7)) 99 [38] (.plain rfl) (eq_f _) rfl rfl (fun g12 => ⟨g12, trivial⟩) (fun g12 => op_not rfl) ?_
    refine OpsL.cons rfl (op_pick_or (fun e => by rw [e]; rfl) rfl rfl rfl rfl) ?_
    refine OpsL.cons rfl (op_move rfl) ?_
    refine OpsL.consG (!((!x_7) || (!x_8))) 99 [] (.plain rfl) (eq_f _) rfl rfl (fun g13 => trivial) (fun g13 => op_load_p tyAgg25 rfl rfl rfl rfl) ?_
    obtain ⟨x_9, e15, h⟩ := bnd h
    refine OpsL.consG (!((!x_7) || (!x_8))) 99 [42] (.plain rfl) (eq_f _) rfl rfl (fun g14 => ⟨g14, trivial⟩) (fun g14 => op_call0 (skewbackref03_digits_spec (gc e15 g14)) goes52 rfl rfl) ?_
    refine OpsL.keep [2, 3, 4, 41, 43] [101, 102, 103] (s' := ⟨[(2, .b (.ptr 101 0)), (3, .b (.ptr 102 0)), (4, .b (.ptr 103 0)), (41, B ((!x_7) || (!x_8))), (43, .opt (!((!x_7) || (!x_8))) (.one (.sl 1 (x_9.map eI))))], [(101, .box 25 (eBig a0)), (102, .box 25 (eBig b0)), (103, .box 25 (.bool false :: .bool false :: ((eA16 .u32) A16.zero)))]⟩) rfl ?_
    refine OpsL.consG (!((!x_7) || (!x_8))) 99 [43] (.plain rfl) (eq_f _) rfl rfl (fun g16 => ⟨g16, trivial⟩) (fun g16 => op_len_e' und54 rfl (List.length_map _)) ?_
    refine OpsL.consG (!((!x_7) || (!x_8))) 99 [44] (.plain rfl) (eq_f _) rfl rfl (fun g17 => ⟨g17, trivial⟩) (fun g17 => op_eql rfl rfl) ?_
    refine OpsL.cons rfl (op_pick_or (fun e => by rw [e]; rfl) rfl rfl rfl rfl) ?_
    refine OpsL.nilK [2, 3, 4, 46] [101, 102, 103] (s' := ⟨[(2, .b (.ptr 101 0)), (3, .b (.ptr 102 0)), (4, .b (.ptr 103 0)), (46, B (((!x_7) || (!x_8)) || (decide ((x_9.length : Int) = 0))))], [(101, .box 25 (eBig a0)), (102, .box 25 (eBig b0)), (103, .box 25 (.bool false :: .bool false :: ((eA16 .u32) A16.zero)))]⟩) rfl ?_
    refine Tri.ite h rfl (fun _ h => ?_) (fun _ h => ?_)
    · refine Tri.seq ?_
      refine Tri.regionL ?_
      obtain ⟨x_10, e18, h⟩ := bnd h
      refine OpsL.cons rfl (op_call0 (skewbackref03_Bad_spec e18) goes51 rfl rfl) ?_
      refine OpsL.cons rfl (op_store_p tyAgg25 rfl rfl rfl rfl (Nat.le_of_ble_eq_true rfl) rfl) ?_
      refine OpsL.nilK [4] [103] (s' := ⟨[(4, .b (.ptr 103 0))], [(103, .box 25 (eBig x_10))]⟩) rfl ?_
      refine Tri.ret ?_
      refine Fin.then_ret ?_
      obtain rfl := Option.some.inj h
      refine Fin.keep [4] [103] (s' := ⟨[(4, .b (.ptr 103 0))], [(103, .box 25 (eBig x_10))]⟩) rfl ?_
      refine Fin.result' [.agg (eBig x_10)] (.inl rfl) rfl (.cons (.agg tyAgg25 rfl rfl rfl rfl) .nil) ⟨rfl, rfl⟩
    · refine Tri.skip ?_
      refine Fin.keep [2, 3, 4] [101, 102, 103] (s' := ⟨[(2, .b (.ptr 101 0)), (3, .b (.ptr 102 0)), (4, .b (.ptr 103 0))], [(101, .box 25 (eBig a0)), (102, .box 25 (eBig b0)), (103, .box 25 (.bool false :: .bool false :: ((eA16 .u32) A16.zero)))]⟩) rfl ?_
      refine Fin.then ?_
      refine Tri.seq ?_
      refine Tri.keep [2, 3, 4] [101, 102, 103] (s' := ⟨[(2, .b (.ptr 101 0)), (3, .b (.ptr 102 0)), (4, .b (.ptr 103 0))], [(101, .box 25 (eBig a0)), (102, .box 25 (eBig b0)), (103, .box 25 (.bool false :: .bool false :: ((eA16 .u32) A16.zero)))]⟩) rfl ?_
      obtain ⟨x_11, e19, h⟩ := bnd h
      obtain ⟨x_12, e20, h⟩ := bnd h
      obtain ⟨⟨x_13, x_14⟩, e21, h⟩ := bnd h
      refine Tri.regionY mixed 10 [.b (.agg (eBig a0)), .b (.one (.sl 1 (x_11.map eI))), .b (.agg (eBig b0)), .b (.one (.sl 1 (x_12.map eI))), .tup [.one (.sl 1 (x_13.map eI)), .one (.sl 1 (x_14.map eI))], .tup [.one (.sl 1 (x_13.map eI)), .one (.sl 1 (x_14.map eI))], .b (.one (.sl 1 (x_13.map eI))), .b (.one (.sl 1 (x_14.map eI))), .b (.one (.sl 1 (x_13.map eI))), .b (.one (.sl 1 (x_14.map eI)))] [2, 3, 4, 9, 10] [101, 102, 103] (s' := ⟨[(2, .b (.ptr 101 0)), (3, .b (.ptr 102 0)), (4, .b (.ptr 103 0)), (9, .b (.one (.sl 1 (x_13.map eI)))), (10, .b (.one (.sl 1 (x_14.map eI))))], [(101, .box 25 (eBig a0)), (102, .box 25 (eBig b0)), (103, .box 25 (.bool false :: .bool false :: ((eA16 .u32) A16.zero)))]⟩) rfl ⟨fun _ => .plain rfl (op_load_p tyAgg25 rfl rfl rfl rfl), fun _ => .plain rfl (op_call0 (skewbackref03_digits_spec e19) goes52 rfl rfl), fun _ => .plain rfl (op_load_p tyAgg25 rfl rfl rfl rfl), fun _ => .plain rfl (op_call0 (skewbackref03_digits_spec e20) goes52 rfl rfl), fun _ => .plain rfl (op_call0 (skewbackref03_divide_spec e21) goes64 rfl rfl), fun _ => .plain rfl (op_move rfl), fun _ => .plain rfl (op_extract rfl rfl), fun _ => .plain rfl (op_extract rfl rfl), fun _ => .plain rfl (op_assign rfl), fun _ => .plain rfl (op_assign rfl), trivial⟩ rfl rfl ?_
      obtain ⟨v22, h23, h⟩ := bnd h
      refine Tri.seqJ (v := v22) (fun (q_15 : List Int) => ⟨[(2, .b (.ptr 101 0)), (3, .b (.ptr 102 0)), (4, .b (.ptr 103 0)), (9, .b (.one (.sl 1 (q_15.map eI))))], [(101, .box 25 (eBig a0)), (102, .box 25 (eBig b0)), (103, .box 25 (.bool false :: .bool false :: ((eA16 .u32) A16.zero)))]⟩) (fun z => z) ?_ ?_
      · refine Tri.seq ?_
        refine Tri.regionL ?_
        refine OpsL.cons rfl (op_field_p tyFld25_1 rfl rfl) ?_
        refine OpsL.cons rfl (op_load_p1 tyOne4 rfl rfl rfl) ?_
        refine OpsL.cons rfl (op_field_p tyFld25_1 rfl rfl) ?_
        refine OpsL.cons rfl (op_load_p1 tyOne4 rfl rfl rfl) ?_
        refine OpsL.cons rfl (op_neq_bool und4 rfl rfl) ?_
        refine OpsL.cons rfl (op_move rfl) ?_
        refine OpsL.consG (a0.Neg != b0.Neg) 99 [] (.plain rfl) (eq_t _) rfl rfl (fun g24 => trivial) (fun g24 => op_move rfl) ?_
        refine OpsL.keep [2, 3, 4, 9, 61, 62] [101, 102, 103] (s' := ⟨[(2, .b (.ptr 101 0)), (3, .b (.ptr 102 0)), (4, .b (.ptr 103 0)), (9, .b (.one (.sl 1 (x_13.map eI)))), (61, B (a0.Neg != b0.Neg)), (62, .opt (a0.Neg != b0.Neg) (.one (.sl 1 (x_14.map eI))))], [(101, .box 25 (eBig a0)), (102, .box 25 (eBig b0)), (103, .box 25 (.bool false :: .bool false :: ((eA16 .u32) A16.zero)))]⟩) rfl ?_
        refine OpsL.consG (a0.Neg != b0.Neg) 99 [62] (.plain rfl) (eq_t _) rfl rfl (fun g25 => ⟨g25, trivial⟩) (fun g25 => op_len_e' und54 rfl (List.length_map _)) ?_
        refine OpsL.consG (a0.Neg != b0.Neg) 99 [63] (.plain rfl) (eq_t _) rfl rfl (fun g26 => ⟨g26, trivial⟩) (fun g26 => op_gtr rfl rfl) ?_
        refine OpsL.cons rfl (op_pick_and (fun e => e) rfl rfl rfl rfl) ?_
        refine OpsL.nilK [2, 3, 4, 9, 65] [101, 102, 103] (s' := ⟨[(2, .b (.ptr 101 0)), (3, .b (.ptr 102 0)), (4, .b (.ptr 103 0)), (9, .b (.one (.sl 1 (x_13.map eI)))), (65, B ((a0.Neg != b0.Neg) && (decide (0 < (x_14.length : Int)))))], [(101, .box 25 (eBig a0)), (102, .box 25 (eBig b0)), (103, .box 25 (.bool false :: .bool false :: ((eA16 .u32) A16.zero)))]⟩) rfl ?_
        refine Tri.ite h23 rfl (fun _ h23 => ?_) (fun _ h23 => ?_)
        · refine Tri.regionL ?_
          refine OpsL.cons rfl (op_move rfl) ?_
          refine OpsL.cons rfl (op_buildSlice (k := 104) (es := [1].map eI) tySl54 rfl rfl (uni_map fun _ => rfl) rfl (by decide) (by decide) rfl) ?_
          refine OpsL.persist 104 rfl ?_
          obtain ⟨x_16, e27, h23⟩ := bnd h23
          refine OpsL.cons rfl (op_call0 (skewbackref03_plus_spec e27) goes54 rfl rfl) ?_
          refine OpsL.cons rfl (op_assign rfl) ?_
          refine OpsL.nil ?_
          exact Fin.join [2, 3, 4, 9] [101, 102, 103] x_16 (Option.some.inj h23) rfl
        · refine Tri.skip ?_
          exact Fin.join [2, 3, 4, 9] [101, 102, 103] x_13 (Option.some.inj h23) rfl
      · rintro q_15 hv
        subst v22
        refine Tri.seq ?_
        refine Tri.regionL ?_
        refine OpsL.cons rfl (op_field_p tyFld25_1 rfl rfl) ?_
        refine OpsL.cons rfl (op_load_p1 tyOne4 rfl rfl rfl) ?_
        refine OpsL.cons rfl (op_field_p tyFld25_1 rfl rfl) ?_
        refine OpsL.cons rfl (op_load_p1 tyOne4 rfl rfl rfl) ?_
        refine OpsL.cons rfl (op_neq_bool und4 rfl rfl) ?_
        refine OpsL.cons rfl (op_move rfl) ?_
        obtain ⟨x_17, e28, h⟩ := bnd h
        refine OpsL.cons rfl (op_call0 (skewbackref03_number_spec e28) goes53 rfl rfl) ?_
        refine OpsL.cons rfl (op_store_p tyAgg25 rfl rfl rfl rfl (Nat.le_of_ble_eq_true rfl) rfl) ?_
        refine OpsL.nilK [4] [103] (s' := ⟨[(4, .b (.ptr 103 0))], [(103, .box 25 (eBig x_17))]⟩) rfl ?_
        refine Tri.ret ?_
        obtain rfl := Option.some.inj h
        refine Fin.keep [4] [103] (s' := ⟨[(4, .b (.ptr 103 0))], [(103, .box 25 (eBig x_17))]⟩) rfl ?_
        refine Fin.result' [.agg (eBig x_17)] (.inl rfl) rfl (.cons (.agg tyAgg25 rfl rfl rfl rfl) .nil) ⟨rfl, rfl⟩

def skewbackref03_Rem_S (F : Nat) (a0 : Big) (b0 : Big) : Option Big :=
 Option.bind (skewbackref03_word_S F a0) (un2 fun x_1 x_2 => Option.bind (skewbackref03_word_S F b0) (un2 fun x_3 x_4 => if ((x_2 && x_4) && (decide (x_3 ≠ 0))) = true then (Option.bind (skewbackref03_floor_S F x_1 x_3) (fun x_5 => letN (IntKind.i64.wrap (x_1 - (IntKind.i64.wrap (x_3 * x_5)))) fun x_6 => Option.bind (skewbackref03_Of_S F x_6) (fun x_7 => some x_7))) else (Option.bind (skewbackref03_Good_S F a0) (fun x_8 => Option.bind (gcall (!(!x_8)) (skewbackref03_Good_S F b0)) (fun x_9 => Option.bind (gcall (!((!x_8) || (!x_9))) (skewbackref03_digits_S F b0)) (fun x_10 => if (((!x_8) || (!x_9)) || (decide ((x_10.length : Int) = 0))) = true then (Option.bind (skewbackref03_Bad_S F) (fun x_11 => some x_11)) else (Option.bind (skewbackref03_digits_S F a0) (fun x_12 => Option.bind (skewbackref03_digits_S F b0) (fun x_13 => Option.bind (skewbackref03_divide_S F x_12 x_13) (un2 fun x_14 x_15 => Option.bind (if ((a0.Neg != b0.Neg) && (decide (0 < (x_15.length : Int)))) = true then (Option.bind (skewbackref03_digits_S F b0) (fun x_17 => Option.bind (skewbackref03_minus_S F x_17 x_15) (fun x_18 => some x_18))) else (some x_15)) (fun r_16 => Option.bind (skewbackref03_number_S F b0.Neg r_16) (fun x_19 => some x_19))))))))))))
theorem skewbackref03_Rem_spec {F : Nat} {a0 : Big} {b0 : Big} {r : Big} (h : skewbackref03_Rem_S F a0 b0 = some r) : Meets Tryd.prog tabs 32 [] [.agg (eBig a0), .agg (eBig b0)] (Is [] (.b (.agg (eBig r)))) := by
  unfold skewbackref03_Rem_S at h
  refine Meets.intro 78 Tryd.func32 Tryd.ntmps32 rfl (by simp) fun E => ?_
  show Tri _ E ⟨78, [], []⟩ _ ⟨[(0, .b (.agg (eBig a0))), (1, .b (.agg (eBig b0)))], []⟩ _
  refine Tri.seq ?_
  refine Tri.regionL ?_
  refine OpsL.cons rfl (op_box (k := 101) rfl rfl) ?_
  refine OpsL.cons rfl (op_box (k := 102) rfl rfl) ?_
  refine OpsL.cons rfl (op_alloc (k := 103) tyZero25 rfl) ?_
  refine OpsL.nilK [2, 3, 4] [101, 102, 103] (s' := ⟨[(2, .b (.ptr 101 0)), (3, .b (.ptr 102 0)), (4, .b (.ptr 103 0))], [(101, .box 25 (eBig a0)), (102, .box 25 (eBig b0)), (103, .box 25 (.bool false :: .bool false :: ((eA16 .u32) A16.zero)))]⟩) rfl ?_
  refine Tri.seq ?_
  refine Tri.regionL ?_
  refine OpsL.cons rfl (op_load_p tyAgg25 rfl rfl rfl rfl) ?_
  obtain ⟨⟨x_1, x_2⟩, e1, h⟩ := bnd h
  refine OpsL.cons rfl (op_call0 (skewbackref03_word_spec e1) goes49 rfl rfl) ?_
  refine OpsL.cons rfl (op_move rfl) ?_
  refine OpsL.cons rfl (op_extract rfl rfl) ?_
  refine OpsL.cons rfl (op_extract rfl rfl) ?_
  refine OpsL.cons rfl (op_assign rfl) ?_
  refine OpsL.cons rfl (op_assign rfl) ?_
  refine OpsL.nilK [2, 3, 4, 5, 6] [101, 102, 103] (s' := ⟨[(2, .b (.ptr 101 0)), (3, .b (.ptr 102 0)), (4, .b (.ptr 103 0)), (5, I x_1), (6, B x_2)], [(101, .box 25 (eBig a0)), (102, .box 25 (eBig b0)), (103, .box 25 (.bool false :: .bool false :: ((eA16 .u32) A16.zero)))]⟩) rfl ?_
  refine Tri.seq ?_
  refine Tri.regionL ?_
  refine OpsL.cons rfl (op_load_p tyAgg25 rfl rfl rfl rfl) ?_
  obtain ⟨⟨x_3, x_4⟩, e2, h⟩ := bnd h
  refine OpsL.cons rfl (op_call0 (skewbackref03_word_spec e2) goes49 rfl rfl) ?_
  refine OpsL.cons rfl (op_move rfl) ?_
  refine OpsL.cons rfl (op_extract rfl rfl) ?_
  refine OpsL.cons rfl (op_extract rfl rfl) ?_
  refine OpsL.cons rfl (op_assign rfl) ?_
  refine OpsL.cons rfl (op_assign rfl) ?_
  refine OpsL.nilK [2, 3, 4, 5, 6, 7, 8] [101, 102, 103] (s' := ⟨[(2, .b (.ptr 101 0)), (3, .b (.ptr 102 0)), (4, .b (.ptr 103 0)), (5, I x_1), (6, B x_2), (7, I x_3), (8, B x_4)], [(101, .box 25 (eBig a0)), (102, .box 25 (eBig b0)), (103, .box 25 (.bool false :: .bool false :: ((eA16 .u32) A16.zero)))]⟩) rfl ?_
  refine Tri.seq ?_
  refine Tri.seq ?_
  refine Tri.regionL ?_
  refine OpsL.cons rfl (op_move rfl) ?_
  refine OpsL.cons rfl (op_move rfl) ?_
  refine OpsL.consG x_2 99 [] (.plain rfl) (eq_t _) rfl rfl (fun g3 => trivial) (fun g3 => op_move rfl) ?_
  refine OpsL.cons rfl (op_pick_and (fun e => e) rfl rfl rfl rfl) ?_
  refine OpsL.cons rfl (op_move rfl) ?_
  refine OpsL.consG (x_2 && x_4) 99 [] (.plain rfl) (eq_t _) rfl rfl (fun g4 => trivial) (fun g4 => op_move rfl) ?_
  refine OpsL.consG (x_2 && x_4) 99 [26] (.plain rfl) (eq_t _) rfl rfl (fun g5 => ⟨g5, trivial⟩) (fun g5 => op_neq rfl rfl) ?_
  refine OpsL.cons rfl (op_pick_and (fun e => e) rfl rfl rfl rfl) ?_
  refine OpsL.nilK [2, 3, 4, 5, 7, 28] [101, 102, 103] (s' := ⟨[(2, .b (.ptr 101 0)), (3, .b (.ptr 102 0)), (4, .b (.ptr 103 0)), (5, I x_1), (7, I x_3), (28, B ((x_2 && x_4) && (decide (x_3 ≠ 0))))], [(101, .box 25 (eBig a0)), (102, .box 25 (eBig b0)), (103, .box 25 (.bool false :: .bool false :: ((eA16 .u32) A16.zero)))]⟩) rfl ?_
  refine Tri.ite h rfl (fun _ h => ?_) (fun _ h => ?_)
  · refine Tri.seq ?_
    refine Tri.regionL ?_
    refine OpsL.cons rfl (op_move rfl) ?_
    refine OpsL.cons rfl (op_move rfl) ?_
    refine OpsL.cons rfl (op_move rfl) ?_
    refine OpsL.cons rfl (op_move rfl) ?_
    obtain ⟨x_5, e6, h⟩ := bnd h
    refine OpsL.cons rfl (op_call0 (skewbackref03_floor_spec e6) goes63 rfl rfl) ?_
    refine OpsL.keep [4, 29, 30, 33] [103] (s' := ⟨[(4, .b (.ptr 103 0)), (29, I x_1), (30, I x_3), (33, I x_5)], [(103, .box 25 (.bool false :: .bool false :: ((eA16 .u32) A16.zero)))]⟩) rfl ?_
    refine OpsL.cons rfl (op_mul rfl rfl) ?_
    refine OpsL.consI .i64 h rfl (op_sub rfl rfl) (fun x_6 h => ?_)
    obtain ⟨x_7, e7, h⟩ := bnd h
    refine OpsL.cons rfl (op_call0 (skewbackref03_Of_spec e7) goes50 rfl rfl) ?_
    refine OpsL.cons rfl (op_store_p tyAgg25 rfl rfl rfl rfl (Nat.le_of_ble_eq_true rfl) rfl) ?_
    refine OpsL.nilK [4] [103] (s' := ⟨[(4, .b (.ptr 103 0))], [(103, .box 25 (eBig x_7))]⟩) rfl ?_
    refine Tri.ret ?_
    refine Fin.then_ret ?_
    obtain rfl := Option.some.inj h
    refine Fin.keep [4] [103] (s' := ⟨[(4, .b (.ptr 103 0))], [(103, .box 25 (eBig x_7))]⟩) rfl ?_
    refine Fin.result' [.agg (eBig x_7)] (.inl rfl) rfl (.cons (.agg tyAgg25 rfl rfl rfl rfl) .nil) ⟨rfl, rfl⟩
  · refine Tri.skip ?_
    refine Fin.keep [2, 3, 4] [101, 102, 103] (s' := ⟨[(2, .b (.ptr 101 0)), (3, .b (.ptr 102 0)), (4, .b (.ptr 103 0))], [(101, .box 25 (eBig a0)), (102, .box 25 (eBig b0)), (103, .box 25 (.bool false :: .bool false :: ((eA16 .u32) A16.zero)))]⟩) rfl ?_
    refine Fin.then ?_
    refine Tri.seq ?_
    refine Tri.seq ?_
    refine Tri.regionL ?_
    refine OpsL.cons rfl (op_load_p tyAgg25 rfl rfl rfl rfl) ?_
    obtain ⟨x_8, e8, h⟩ := bnd h
    refine OpsL.cons rfl (op_call0 (skewbackref03_Good_spec e8) goes35 rfl rfl) ?_
    refine OpsL.cons rfl (op_not rfl) ?_
    refine OpsL.cons rfl (op_move rfl) ?_
    refine OpsL.consG (!(!x_8)) 99 [] (.plain rfl) (eq_f _) rfl rfl (fun g9 => trivial) (fun g9 => op_load_p tyAgg25 rfl rfl rfl rfl) ?_
    refine OpsL.keep [2, 3, 4, 40, 41] [101, 102, 103] (s' := ⟨[(2, .b (.ptr 101 0)), (3, .b (.ptr 102 0)), (4, .b (.ptr 103 0)), (40, B (!x_8)), (41, .opt (!(!x_8)) (.agg (eBig b0)))], [(101, .box 25 (eBig a0)), (102, .box 25 (eBig b0)), (103, .box 25 (.bool false :: .bool false :: ((eA16 .u32) A16.zero)))]⟩) rfl ?_
    obtain ⟨x_9, e11, h⟩ := bnd h
    refine OpsL.consG (!(!x_8)) 99 [41] (.plain rfl) (eq_f _) rfl rfl (fun g10 => ⟨g10, trivial⟩) (fun g10 => op_call0 (skewbackref03_Good_spec (gc e11 g10)) goes35 rfl rfl) ?_
    refine OpsL.consG (!(!x_8)) 99 [42] (.plain rfl) (eq_f _) rfl rfl (fun g12 => ⟨g12, trivial⟩) (fun g12 => op_not rfl) ?_
    refine OpsL.cons rfl (op_pick_or (fun e => by rw [e]; rfl) rfl rfl rfl rfl) ?_
    refine OpsL.cons rfl (op_move rfl) ?_
    refine OpsL.consG (!((!x_8) || (!x_9))) 99 [] (.plain rfl) (eq_f _) rfl rfl (fun g13 => trivial) (fun g13 => op_load_p tyAgg25 rfl rfl rfl rfl) ?_
    obtain ⟨x_10, e15, h⟩ := bnd h
    refine OpsL.consG (!((!x_8) || (!x_9))) 99 [46] (.plain rfl) (eq_f _) rfl rfl (fun g14 => ⟨g14, trivial⟩) (fun g14 => op_call0 (skewbackref03_digits_spec (gc e15 g14)) goes52 rfl rfl) ?_
    refine OpsL.keep [2, 3, 4, 45, 47] [101, 102, 103] (s' := ⟨[(2, .b (.ptr 101 0)), (3, .b (.ptr 102 0)), (4, .b (.ptr 103 0)), (45, B ((!x_8) || (!x_9))), (47, .opt (!((!x_8) || (!x_9))) (.one (.sl 1 (x_10.map eI))))], [(101, .box 25 (eBig a0)), (102, .box 25 (eBig b0)), (103, .box 25 (.bool false :: .bool false :: ((eA16 .u32) A16.zero)))]⟩) rfl ?_
    refine OpsL.consG (!((!x_8) || (!x_9))) 99 [47] (.plain rfl) (eq_f _) rfl rfl (fun g16 => ⟨g16, trivial⟩) (fun g16 => op_len_e' und54 rfl (List.length_map _)) ?_
    refine OpsL.consG (!((!x_8) || (!x_9))) 99 [48] (.plain rfl) (eq_f _) rfl rfl (fun g17 => ⟨g17, trivial⟩) (fun g17 => op_eql rfl rfl) ?_
    refine OpsL.cons rfl (op_pick_or (fun e => by rw [e]; rfl) rfl rfl rfl rfl) ?_
    refine OpsL.nilK [2, 3, 4, 50] [101, 102, 103] (s' := ⟨[(2, .b (.ptr 101 0)), (3, .b (.ptr 102 0)), (4, .b (.ptr 103 0)), (50, B (((!x_8) || (!x_9)) || (decide ((x_10.length : Int) = 0))))], [(101, .box 25 (eBig a0)), (102, .box 25 (eBig b0)), (103, .box 25 (.bool false :: .bool false :: ((eA16 .u32) A16.zero)))]⟩) rfl ?_
    refine Tri.ite h rfl (fun _ h => ?_) (fun _ h => ?_)
    · refine Tri.seq ?_
      refine Tri.regionL ?_
      obtain ⟨x_11, e18, h⟩ := bnd h
      refine OpsL.cons rfl (op_call0 (skewbackref03_Bad_spec e18) goes51 rfl rfl) ?_
      refine OpsL.cons rfl (op_store_p tyAgg25 rfl rfl rfl rfl (Nat.le_of_ble_eq_true rfl) rfl) ?_
      refine OpsL.nilK [4] [103] (s' := ⟨[(4, .b (.ptr 103 0))], [(103, .box 25 (eBig x_11))]⟩) rfl ?_
      refine Tri.ret ?_
      refine Fin.then_ret ?_
      obtain rfl := Option.some.inj h
      refine Fin.keep [4] [103] (s' := ⟨[(4, .b (.ptr 103 0))], [(103, .box 25 (eBig x_11))]⟩) rfl ?_
      refine Fin.result' [.agg (eBig x_11)] (.inl rfl) rfl (.cons (.agg tyAgg25 rfl rfl rfl rfl) .nil) ⟨rfl, rfl⟩
    · refine Tri.skip ?_
      refine Fin.keep [2, 3, 4] [101, 102, 103] (s' := ⟨[(2, .b (.ptr 101 0)), (3, .b (.ptr 102 0)), (4, .b (.ptr 103 0))], [(101, .box 25 (eBig a0)), (102, .box 25 (eBig b0)), (103, .box 25 (.bool false :: .bool false :: ((eA16 .u32) A16.zero)))]⟩) rfl ?_
      refine Fin.then ?_
      refine Tri.seq ?_
      refine Tri.keep [2, 3, 4] [101, 102, 103] (s' := ⟨[(2, .b (.ptr 101 0)), (3, .b (.ptr 102 0)), (4, .b (.ptr 103 0))], [(101, .box 25 (eBig a0)), (102, .box 25 (eBig b0)), (103, .box 25 (.bool false :: .bool false :: ((eA16 .u32) A16.zero)))]⟩) rfl ?_
      obtain ⟨x_12, e19, h⟩ := bnd h
      obtain ⟨x_13, e20, h⟩ := bnd h
      obtain ⟨⟨x_14, x_15⟩, e21, h⟩ := bnd h
      refine Tri.regionY mixed 10 [.b (.agg (eBig a0)), .b (.one (.sl 1 (x_12.map eI))), .b (.agg (eBig b0)), .b (.one (.sl 1 (x_13.map eI))), .tup [.one (.sl 1 (x_14.map eI)), .one (.sl 1 (x_15.map eI))], .tup [.one (.sl 1 (x_14.map eI)), .one (.sl 1 (x_15.map eI))], .b (.one (.sl 1 (x_14.map eI))), .b (.one (.sl 1 (x_15.map eI))), .b (.one (.sl 1 (x_14.map eI))), .b (.one (.sl 1 (x_15.map eI)))] [2, 3, 4, 10] [101, 102, 103] (s' := ⟨[(2, .b (.ptr 101 0)), (3, .b (.ptr 102 0)), (4, .b (.ptr 103 0)), (10, .b (.one (.sl 1 (x_15.map eI))))], [(101, .box 25 (eBig a0)), (102, .box 25 (eBig b0)), (103, .box 25 (.bool false :: .bool false :: ((eA16 .u32) A16.zero)))]⟩) rfl ⟨fun _ => .plain rfl (op_load_p tyAgg25 rfl rfl rfl rfl), fun _ => .plain rfl (op_call0 (skewbackref03_digits_spec e19) goes52 rfl rfl), fun _ => .plain rfl (op_load_p tyAgg25 rfl rfl rfl rfl), fun _ => .plain rfl (op_call0 (skewbackref03_digits_spec e20) goes52 rfl rfl), fun _ => .plain rfl (op_call0 (skewbackref03_divide_spec e21) goes64 rfl rfl), fun _ => .plain rfl (op_move rfl), fun _ => .plain rfl (op_extract rfl rfl), fun _ => .plain rfl (op_extract rfl rfl), fun _ => .plain rfl (op_assign rfl), fun _ => .plain rfl (op_assign rfl), trivial⟩ rfl rfl ?_
      obtain ⟨v22, h23, h⟩ := bnd h
      refine Tri.seqJ (v := v22) (fun (r_16 : List Int) => ⟨[(3, .b (.ptr 102 0)), (4, .b (.ptr 103 0)), (10, .b (.one (.sl 1 (r_16.map eI))))], [(102, .box 25 (eBig b0)), (103, .box 25 (.bool false :: .bool false :: ((eA16 .u32) A16.zero)))]⟩) (fun z => z) ?_ ?_
      · refine Tri.seq ?_
        refine Tri.regionL ?_
        refine OpsL.cons rfl (op_field_p tyFld25_1 rfl rfl) ?_
        refine OpsL.cons rfl (op_load_p1 tyOne4 rfl rfl rfl) ?_
        refine OpsL.cons rfl (op_field_p tyFld25_1 rfl rfl) ?_
        refine OpsL.cons rfl (op_load_p1 tyOne4 rfl rfl rfl) ?_
        refine OpsL.cons rfl (op_neq_bool und4 rfl rfl) ?_
        refine OpsL.cons rfl (op_move rfl) ?_
        refine OpsL.consG (a0.Neg != b0.Neg) 99 [] (.plain rfl) (eq_t _) rfl rfl (fun g24 => trivial) (fun g24 => op_move rfl) ?_
        refine OpsL.keep [3, 4, 10, 65, 66] [102, 103] (s' := ⟨[(3, .b (.ptr 102 0)), (4, .b (.ptr 103 0)), (10, .b (.one (.sl 1 (x_15.map eI)))), (65, B (a0.Neg != b0.Neg)), (66, .opt (a0.Neg != b0.Neg) (.one (.sl 1 (x_15.map eI))))], [(102, .box 25 (eBig b0)), (103, .box 25 (.bool false :: .bool false :: ((eA16 .u32) A16.zero)))]⟩) rfl ?_
        refine OpsL.consG (a0.Neg != b0.Neg) 99 [66] (.plain rfl) (eq_t _) rfl rfl (fun g25 => ⟨g25, trivial⟩) (fun g25 => op_len_e' und54 rfl (List.length_map _)) ?_
        refine OpsL.consG (a0.Neg != b0.Neg) 99 [67] (.plain rfl) (eq_t _) rfl rfl (fun g26 => ⟨g26, trivial⟩) (fun g26 => op_gtr rfl rfl) ?_
        refine OpsL.cons rfl (op_pick_and (fun e => e) rfl rfl rfl rfl) ?_
        refine OpsL.nilK [3, 4, 10, 69] [102, 103] (s' := ⟨[(3, .b (.ptr 102 0)), (4, .b (.ptr 103 0)), (10, .b (.one (.sl 1 (x_15.map eI)))), (69, B ((a0.Neg != b0.Neg) && (decide (0 < (x_15.length : Int)))))], [(102, .box 25 (eBig b0)), (103, .box 25 (.bool false :: .bool false :: ((eA16 .u32) A16.zero)))]⟩) rfl ?_
        refine Tri.ite h23 rfl (fun _ h23 => ?_) (fun _ h23 => ?_)
        · refine Tri.regionL ?_
          refine OpsL.cons rfl (op_load_p tyAgg25 rfl rfl rfl rfl) ?_
          obtain ⟨x_17, e27, h23⟩ := bnd h23
          refine OpsL.cons rfl (op_call0 (skewbackref03_digits_spec e27) goes52 rfl rfl) ?_
          refine OpsL.cons rfl (op_move rfl) ?_
          obtain ⟨x_18, e28, h23⟩ := bnd h23
          refine OpsL.cons rfl (op_call0 (skewbackref03_minus_spec e28) goes56 rfl rfl) ?_
          refine OpsL.cons rfl (op_assign rfl) ?_
          refine OpsL.nil ?_
          exact Fin.join [3, 4, 10] [102, 103] x_18 (Option.some.inj h23) rfl
        · refine Tri.skip ?_
          exact Fin.join [3, 4, 10] [102, 103] x_15 (Option.some.inj h23) rfl
      · rintro r_16 hv
        subst v22
        refine Tri.seq ?_
        refine Tri.regionL ?_
        refine OpsL.cons rfl (op_field_p tyFld25_1 rfl rfl) ?_
        refine OpsL.cons rfl (op_load_p1 tyOne4 rfl rfl rfl) ?_
        refine OpsL.cons rfl (op_move rfl) ?_
        obtain ⟨x_19, e29, h⟩ := bnd h
        refine OpsL.cons rfl (op_call0 (skewbackref03_number_spec e29) goes53 rfl rfl) ?_
        refine OpsL.cons rfl (op_store_p tyAgg25 rfl rfl rfl rfl (Nat.le_of_ble_eq_true rfl) rfl) ?_
        refine OpsL.nilK [4] [103] (s' := ⟨[(4, .b (.ptr 103 0))], [(103, .box 25 (eBig x_19))]⟩) rfl ?_
        refine Tri.ret ?_
        obtain rfl := Option.some.inj h
        refine Fin.keep [4] [103] (s' := ⟨[(4, .b (.ptr 103 0))], [(103, .box 25 (eBig x_19))]⟩) rfl ?_
        refine Fin.result' [.agg (eBig x_19)] (.inl rfl) rfl (.cons (.agg tyAgg25 rfl rfl rfl rfl) .nil) ⟨rfl, rfl⟩

def skewbacklaw03_WholeProductsMatchSpec_S (F : Nat) (a0 : Big) (b0 : Big) : Option Bool :=
 Option.bind (skewbacklaw03_sanity_S F) (fun x_1 => Option.bind (gcall x_1 (whole_Mul_S F a0 b0)) (fun x_2 => Option.bind (gcall x_1 (skewbackref03_Mul_S F a0 b0)) (fun x_3 => Option.bind (gcall (x_1 && (decide (x_2 = x_3))) (whole_Quo_S F a0 b0)) (fun x_4 => Option.bind (gcall (x_1 && (decide (x_2 = x_3))) (skewbackref03_Quo_S F a0 b0)) (fun x_5 => Option.bind (gcall ((x_1 && (decide (x_2 = x_3))) && (decide (x_4 = x_5))) (whole_Rem_S F a0 b0)) (fun x_6 => Option.bind (gcall ((x_1 && (decide (x_2 = x_3))) && (decide (x_4 = x_5))) (skewbackref03_Rem_S F a0 b0)) (fun x_7 => some (((x_1 && (decide (x_2 = x_3))) && (decide (x_4 = x_5))) && (decide (x_6 = x_7))))))))))
theorem skewbacklaw03_WholeProductsMatchSpec_spec {F : Nat} {a0 : Big} {b0 : Big} {r : Bool} (h : skewbacklaw03_WholeProductsMatchSpec_S F a0 b0 = some r) : Meets Tryd.prog tabs 4 [] [.agg (eBig a0), .agg (eBig b0)] (Is [] (.b (.one (.bool r)))) := by
  unfold skewbacklaw03_WholeProductsMatchSpec_S at h
  refine Meets.intro 33 Tryd.func4 Tryd.ntmps4 rfl (by simp) fun E => ?_
  show Tri _ E ⟨33, [], []⟩ _ ⟨[(0, .b (.agg (eBig a0))), (1, .b (.agg (eBig b0)))], []⟩ _
  refine Tri.seq ?_
  refine Tri.regionL ?_
  refine OpsL.cons rfl (op_box (k := 101) rfl rfl) ?_
  refine OpsL.cons rfl (op_box (k := 102) rfl rfl) ?_
  refine OpsL.cons rfl (op_assign rfl) ?_
  refine OpsL.nilK [2, 3] [101, 102] (s' := ⟨[(2, .b (.ptr 101 0)), (3, .b (.ptr 102 0))], [(101, .box 25 (eBig a0)), (102, .box 25 (eBig b0))]⟩) rfl ?_
  refine Tri.seq ?_
  refine Tri.keep [2, 3] [101, 102] (s' := ⟨[(2, .b (.ptr 101 0)), (3, .b (.ptr 102 0))], [(101, .box 25 (eBig a0)), (102, .box 25 (eBig b0))]⟩) rfl ?_
  obtain ⟨x_1, e1, h⟩ := bnd h
  obtain ⟨x_2, e5, h⟩ := bnd h
  obtain ⟨x_3, e9, h⟩ := bnd h
  obtain ⟨x_4, e14, h⟩ := bnd h
  obtain ⟨x_5, e18, h⟩ := bnd h
  obtain ⟨x_6, e23, h⟩ := bnd h
  obtain ⟨x_7, e27, h⟩ := bnd h
  refine Tri.regionY mixed 29 [B x_1, B x_1, .opt x_1 (.agg (eBig a0)), .opt x_1 (.agg (eBig b0)), .opt x_1 (.agg (eBig x_2)), .opt x_1 (.agg (eBig a0)), .opt x_1 (.agg (eBig b0)), .opt x_1 (.agg (eBig x_3)), .opt x_1 (.one (.bool (decide (x_2 = x_3)))), B (x_1 && (decide (x_2 = x_3))), B (x_1 && (decide (x_2 = x_3))), .opt (x_1 && (decide (x_2 = x_3))) (.agg (eBig a0)), .opt (x_1 && (decide (x_2 = x_3))) (.agg (eBig b0)), .opt (x_1 && (decide (x_2 = x_3))) (.agg (eBig x_4)), .opt (x_1 && (decide (x_2 = x_3))) (.agg (eBig a0)), .opt (x_1 && (decide (x_2 = x_3))) (.agg (eBig b0)), .opt (x_1 && (decide (x_2 = x_3))) (.agg (eBig x_5)), .opt (x_1 && (decide (x_2 = x_3))) (.one (.bool (decide (x_4 = x_5)))), B ((x_1 && (decide (x_2 = x_3))) && (decide (x_4 = x_5))), B ((x_1 && (decide (x_2 = x_3))) && (decide (x_4 = x_5))), .opt ((x_1 && (decide (x_2 = x_3))) && (decide (x_4 = x_5))) (.agg (eBig a0)), .opt ((x_1 && (decide (x_2 = x_3))) && (decide (x_4 = x_5))) (.agg (eBig b0)), .opt ((x_1 && (decide (x_2 = x_3))) && (decide (x_4 = x_5))) (.agg (eBig x_6)), .opt ((x_1 && (decide (x_2 = x_3))) && (decide (x_4 = x_5))) (.agg (eBig a0)), .opt ((x_1 && (decide (x_2 = x_3))) && (decide (x_4 = x_5))) (.agg (eBig b0)), .opt ((x_1 && (decide (x_2 = x_3))) && (decide (x_4 = x_5))) (.agg (eBig x_7)), .opt ((x_1 && (decide (x_2 = x_3))) && (decide (x_4 = x_5))) (.one (.bool (decide (x_6 = x_7)))), B (((x_1 && (decide (x_2 = x_3))) && (decide (x_4 = x_5))) && (decide (x_6 = x_7))), B (((x_1 && (decide (x_2 = x_3))) && (decide (x_4 = x_5))) && (decide (x_6 = x_7)))] [4] [] (s' := ⟨[(4, B (((x_1 && (decide (x_2 = x_3))) && (decide (x_4 = x_5))) && (decide (x_6 = x_7))))], []⟩) rfl ⟨fun _ => .plain rfl (op_call0 (skewbacklaw03_sanity_spec e1) goes22 rfl rfl), fun _ => .plain rfl (op_move rfl), fun _ => by exact .guard x_1 1 [] (.plain rfl) (eq_t _) rfl rfl (fun g2 => trivial) (fun g2 => op_load_p tyAgg25 rfl rfl rfl rfl), fun _ => by exact .guard x_1 1 [] (.plain rfl) (eq_t _) rfl rfl (fun g3 => trivial) (fun g3 => op_load_p tyAgg25 rfl rfl rfl rfl), fun _ => by exact .guard x_1 4 [7, 8] (.plain rfl) (eq_t _) rfl rfl (fun g4 => ⟨g4, g4, trivial⟩) (fun g4 => op_call0 (whole_Mul_spec (gc e5 g4)) goes27 rfl rfl), fun _ => by exact .guard x_1 1 [] (.plain rfl) (eq_t _) rfl rfl (fun g6 => trivial) (fun g6 => op_load_p tyAgg25 rfl rfl rfl rfl), fun _ => by exact .guard x_1 1 [] (.plain rfl) (eq_t _) rfl rfl (fun g7 => trivial) (fun g7 => op_load_p tyAgg25 rfl rfl rfl rfl), fun _ => by exact .guard x_1 4 [10, 11] (.plain rfl) (eq_t _) rfl rfl (fun g8 => ⟨g8, g8, trivial⟩) (fun g8 => op_call0 (skewbackref03_Mul_spec (gc e9 g8)) goes28 rfl rfl), fun _ => by exact .guard x_1 3 [9, 12] (.plain rfl) (eq_t _) rfl rfl (fun g10 => ⟨g10, g10, trivial⟩) (fun g10 => op_eql_agg (eqAgg25 x_2 x_3) rfl rfl), fun _ => .plain rfl (op_pick_and (fun e => e) rfl rfl rfl rfl), fun _ => .plain rfl (op_move rfl), fun _ => by exact .guard (x_1 && (decide (x_2 = x_3))) 1 [] (.plain rfl) (eq_t _) rfl rfl (fun g11 => trivial) (fun g11 => op_load_p tyAgg25 rfl rfl rfl rfl), fun _ => by exact .guard (x_1 && (decide (x_2 = x_3))) 1 [] (.plain rfl) (eq_t _) rfl rfl (fun g12 => trivial) (fun g12 => op_load_p tyAgg25 rfl rfl rfl rfl), fun _ => by exact .guard (x_1 && (decide (x_2 = x_3))) 4 [16, 17] (.plain rfl) (eq_t _) rfl rfl (fun g13 => ⟨g13, g13, trivial⟩) (fun g13 => op_call0 (whole_Quo_spec (gc e14 g13)) goes29 rfl rfl), fun _ => by exact .guard (x_1 && (decide (x_2 = x_3))) 1 [] (.plain rfl) (eq_t _) rfl rfl (fun g15 => trivial) (fun g15 => op_load_p tyAgg25 rfl rfl rfl rfl), fun _ => by exact .guard (x_1 && (decide (x_2 = x_3))) 1 [] (.plain rfl) (eq_t _) rfl rfl (fun g16 => trivial) (fun g16 => op_load_p tyAgg25 rfl rfl rfl rfl), fun _ => by exact .guard (x_1 && (decide (x_2 = x_3))) 4 [19, 20] (.plain rfl) (eq_t _) rfl rfl (fun g17 => ⟨g17, g17, trivial⟩) (fun g17 => op_call0 (skewbackref03_Quo_spec (gc e18 g17)) goes30 rfl rfl), fun _ => by exact .guard (x_1 && (decide (x_2 = x_3))) 3 [18, 21] (.plain rfl) (eq_t _) rfl rfl (fun g19 => ⟨g19, g19, trivial⟩) (fun g19 => op_eql_agg (eqAgg25 x_4 x_5) rfl rfl), fun _ => .plain rfl (op_pick_and (fun e => e) rfl rfl rfl rfl), fun _ => .plain rfl (op_move rfl), fun _ => by exact .guard ((x_1 && (decide (x_2 = x_3))) && (decide (x_4 = x_5))) 1 [] (.plain rfl) (eq_t _) rfl rfl (fun g20 => trivial) (fun g20 => op_load_p tyAgg25 rfl rfl rfl rfl), fun _ => by exact .guard ((x_1 && (decide (x_2 = x_3))) && (decide (x_4 = x_5))) 1 [] (.plain rfl) (eq_t _) rfl rfl (fun g21 => trivial) (fun g21 => op_load_p tyAgg25 rfl rfl rfl rfl), fun _ => by exact .guard ((x_1 && (decide (x_2 = x_3))) && (decide (x_4 = x_5))) 4 [25, 26] (.plain rfl) (eq_t _) rfl rfl (fun g22 => ⟨g22, g22, trivial⟩) (fun g22 => op_call0 (whole_Rem_spec (gc e23 g22)) goes31 rfl rfl), fun _ => by exact .guard ((x_1 && (decide (x_2 = x_3))) && (decide (x_4 = x_5))) 1 [] (.plain rfl) (eq_t _) rfl rfl (fun g24 => trivial) (fun g24 => op_load_p tyAgg25 rfl rfl rfl rfl), fun _ => by exact .guard ((x_1 && (decide (x_2 = x_3))) && (decide (x_4 = x_5))) 1 [] (.plain rfl) (eq_t _) rfl rfl (fun g25 => trivial) (fun g25 => op_load_p tyAgg25 rfl rfl rfl rfl), fun _ => by exact .guard ((x_1 && (decide (x_2 = x_3))) && (decide (x_4 = x_5))) 4 [28, 29] (.plain rfl) (eq_t _) rfl rfl (fun g26 => ⟨g26, g26, trivial⟩) (fun g26 => op_call0 (skewbackref03_Rem_spec (gc e27 g26)) goes32 rfl rfl), fun _ => by exact .guard ((x_1 && (decide (x_2 = x_3))) && (decide (x_4 = x_5))) 3 [27, 30] (.plain rfl) (eq_t _) rfl rfl (fun g28 => ⟨g28, g28, trivial⟩) (fun g28 => op_eql_agg (eqAgg25 x_6 x_7) rfl rfl), fun _ => .plain rfl (op_pick_and (fun e => e) rfl rfl rfl rfl), fun _ => .plain rfl (op_assign rfl), trivial⟩ rfl rfl ?_
  refine Tri.ret ?_
  obtain rfl := Option.some.inj h
  refine Fin.keep [4] [] (s' := ⟨[(4, B (((x_1 && (decide (x_2 = x_3))) && (decide (x_4 = x_5))) && (decide (x_6 = x_7))))], []⟩) rfl ?_
  refine Fin.result' [.one (.bool (((x_1 && (decide (x_2 = x_3))) && (decide (x_4 = x_5))) && (decide (x_6 = x_7))))] (.inl rfl) rfl (.cons (.tmp rfl) .nil) ⟨rfl, rfl⟩

end Go.Proofs.YtaigaoifloldcaaDoor
