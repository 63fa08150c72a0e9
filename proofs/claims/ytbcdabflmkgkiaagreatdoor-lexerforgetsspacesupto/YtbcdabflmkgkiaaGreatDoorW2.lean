/- printed walks -/
import Derived.Test.YtbcdabflmkgkiaaGreatDoorW1
namespace Go.Proofs.YtbcdabflmkgkiaaGreatDoor
open Go.Sk
set_option maxHeartbeats 4000000
set_option maxRecDepth 4000
set_option linter.unusedSimpArgs false
set_option linter.unusedVariables false
variable {mx : Int}
def skewbackref28_Same_S (F : Nat) (a0 : List Token) (b0 : List Token) : Option Bool :=
 if (decide ((a0.length : Int) ≠ (b0.length : Int))) = true then (some false) else (Option.bind (iter F (fun i_1 => if (decide (i_1 < (a0.length : Int))) = true then ((idx? a0 i_1).bind fun x_2 => (idx? b0 i_1).bind fun x_3 => (gcall (!(decide (x_2.Kind ≠ x_3.Kind))) (idx? a0 i_1)).bind fun x_4 => (gcall (!(decide (x_2.Kind ≠ x_3.Kind))) (idx? b0 i_1)).bind fun x_5 => if ((decide (x_2.Kind ≠ x_3.Kind)) || (decide (x_4.S ≠ x_5.S))) = true then (some (.inr (.inr false))) else (some (.inl (IntKind.i64.wrap (i_1 + 1))))) else (some (.inr (.inl ())))) 0) (alt2 (fun _ => some true) (fun y => some y)))
theorem skewbackref28_Same_spec {F : Nat} {a0 : List Token} {b0 : List Token} {r : Bool} (h : skewbackref28_Same_S F a0 b0 = some r) : Meets Tryz.prog (tabs mx) 14 [] [.one (.sl 3 (a0.map eToken)), .one (.sl 3 (b0.map eToken))] (Is [] (.b (.one (.bool r)))) := by
 unfold skewbackref28_Same_S at h
 refine Meets.intro 41 Tryz.func14 Tryz.ntmps14 rfl (by simp) fun E => ?_
 show Tri _ E ⟨41, [], [], []⟩ _ ⟨[(0, .b (.one (.sl 3 (a0.map eToken)))), (1, .b (.one (.sl 3 (b0.map eToken))))], []⟩ _
 refine Tri.seq (Tri.regionL ?_)
 refine Oc oa (OpsL.nilS ⟨[(0, .b (.one (.sl 3 (a0.map eToken)))), (1, .b (.one (.sl 3 (b0.map eToken))))], []⟩ rfl (Tri.seq (Tri.seq (Tri.regionL ?_))))
 refine Oc om (Oc (op_len_e' und22 rfl (List.length_map _)) (Oc om (Oc (op_len_e' und22 rfl (List.length_map _)) (Oc (op_neq rfl rfl) ?_))))
 refine OpsL.nilS ⟨[(0, _), (1, _), (10, B (decide ((a0.length : Int) ≠ (b0.length : Int))))], []⟩ rfl (Tri.ite h rfl (fun _ h => ?_) (fun _ h => ?_))
 ·refine Tri.seq (Tri.regionL ?_)
  refine Oc oa (OpsL.nilS ⟨[(4, B false)], []⟩ rfl (Tri.ret (Fin.then_ret ?_)))
  obtain rfl := Option.some.inj h
  refine Fin.keepS ⟨[(4, _)], []⟩ rfl (Fin.result' [.one (.bool false)] (.inl rfl) rfl (.cons (.tmp rfl) .nil) ⟨rfl, rfl⟩)
 ·refine Tri.skip (Fin.keepS ⟨[(0, _), (1, _)], []⟩ rfl (Fin.then ?_))
  obtain ⟨v1, h2, h⟩ := bnd h
  refine Tri.seqJ (v := v1) (fun (_ : Unit) => ⟨[], []⟩) (fun z => .inl z) ?_ ?_
  ·refine Tri.seq (Tri.regionL ?_)
   refine Oc oa (OpsL.nilS ⟨[(0, _), (1, _), (5, I 0)], []⟩ rfl (Tri.block (Tri.loopJ h2 (fun (i_1 : Int) => ⟨[(0, .b (.one (.sl 3 (a0.map eToken)))), (1, .b (.one (.sl 3 (b0.map eToken)))), (5, I i_1)], []⟩) [0, 1, 5] [] rfl ?_)))
   rintro i_1 o3 h4 hy5
   refine Tri.seq (Tri.seq (Tri.regionL ?_))
   refine Oc om (Oc om (Oc (op_len_e' und22 rfl (List.length_map _)) (Oc (op_lss rfl rfl) ?_)))
   refine OpsL.nilS ⟨[(0, _), (1, _), (5, _), (14, B (decide (i_1 < (a0.length : Int))))], []⟩ rfl (Tri.ite h4 rfl (fun _ h4 => ?_) (fun _ h4 => ?_))
   ·refine Tri.skip (Fin.keepS ⟨[(0, _), (1, _), (5, _)], []⟩ rfl (Fin.then (Tri.seq (Tri.block (Tri.seq ?_)))))
    refine Tri.keepS ⟨[(0, _), (1, _), (5, _)], []⟩ rfl ?_
    obtain ⟨x_2, e6, h4⟩ := bnd h4
    obtain ⟨x_3, e7, h4⟩ := bnd h4
    obtain ⟨x_4, e11, h4⟩ := bnd h4
    obtain ⟨x_5, e17, h4⟩ := bnd h4
    refine Tri.regionY mixed 24 [.b (.one (.sl 3 (a0.map eToken))), I i_1, .b (.eptr (eToken x_2)), .b (.eptr (eToken x_2)), I x_2.Kind, .b (.one (.sl 3 (b0.map eToken))), I i_1, .b (.eptr (eToken x_3)), .b (.eptr (eToken x_3)), I x_3.Kind, B (decide (x_2.Kind ≠ x_3.Kind)), B (decide (x_2.Kind ≠ x_3.Kind)), .opt (!(decide (x_2.Kind ≠ x_3.Kind))) (.one (.sl 3 (a0.map eToken))), .opt (!(decide (x_2.Kind ≠ x_3.Kind))) (.one (.i i_1)), .opt (!(decide (x_2.Kind ≠ x_3.Kind))) (.eptr (eToken x_4)), .opt (!(decide (x_2.Kind ≠ x_3.Kind))) (.eptr [.str x_4.S]), .opt (!(decide (x_2.Kind ≠ x_3.Kind))) (.one (.str x_4.S)), .opt (!(decide (x_2.Kind ≠ x_3.Kind))) (.one (.sl 3 (b0.map eToken))), .opt (!(decide (x_2.Kind ≠ x_3.Kind))) (.one (.i i_1)), .opt (!(decide (x_2.Kind ≠ x_3.Kind))) (.eptr (eToken x_5)), .opt (!(decide (x_2.Kind ≠ x_3.Kind))) (.eptr [.str x_5.S]), .opt (!(decide (x_2.Kind ≠ x_3.Kind))) (.one (.str x_5.S)), .opt (!(decide (x_2.Kind ≠ x_3.Kind))) (.one (.bool (decide (x_4.S ≠ x_5.S)))), B ((decide (x_2.Kind ≠ x_3.Kind)) || (decide (x_4.S ≠ x_5.S)))] [0, 1, 5, 40] [] (s' := ⟨[(0, _), (1, _), (5, _), (40, B ((decide (x_2.Kind ≠ x_3.Kind)) || (decide (x_4.S ≠ x_5.S))))], []⟩) rfl ⟨fun _ => .p om, fun _ => .p om, fun _ => .p (op_index_e tySl22 (ix_lo e6) (ix_map (e := eToken) e6) rfl rfl), fun _ => by exact .p (op_field_e tyFld31_0 rfl rfl), fun _ => .p (op_load_e1 tyOne3 rfl rfl), fun _ => .p om, fun _ => .p om, fun _ => .p (op_index_e tySl22 (ix_lo e7) (ix_map (e := eToken) e7) rfl rfl), fun _ => by exact .p (op_field_e tyFld31_0 rfl rfl), fun _ => .p (op_load_e1 tyOne3 rfl rfl), fun _ => .p (op_neq rfl rfl), fun _ => .p om, fun _ => by exact .guard (!(decide (x_2.Kind ≠ x_3.Kind))) 1 [] (.plain rfl) (eq_f _) rfl rfl (fun g8 => trivial) (fun g8 => om), fun _ => by exact .guard (!(decide (x_2.Kind ≠ x_3.Kind))) 1 [] (.plain rfl) (eq_f _) rfl rfl (fun g9 => trivial) (fun g9 => om), fun _ => by exact .guard (!(decide (x_2.Kind ≠ x_3.Kind))) 3 [29, 30] (.plain rfl) (eq_f _) rfl rfl (fun g10 => ⟨g10, g10, trivial⟩) (fun g10 => op_index_e tySl22 (ix_lo (gc e11 g10)) (ix_map (e := eToken) (gc e11 g10)) rfl rfl), fun _ => by exact .guard (!(decide (x_2.Kind ≠ x_3.Kind))) 2 [31] (.plain rfl) (eq_f _) rfl rfl (fun g12 => ⟨g12, trivial⟩) (fun g12 => op_field_e tyFld31_2 rfl rfl), fun _ => by exact .guard (!(decide (x_2.Kind ≠ x_3.Kind))) 2 [32] (.plain rfl) (eq_f _) rfl rfl (fun g13 => ⟨g13, trivial⟩) (fun g13 => op_load_e1 tyOne9 rfl rfl), fun _ => by exact .guard (!(decide (x_2.Kind ≠ x_3.Kind))) 1 [] (.plain rfl) (eq_f _) rfl rfl (fun g14 => trivial) (fun g14 => om), fun _ => by exact .guard (!(decide (x_2.Kind ≠ x_3.Kind))) 1 [] (.plain rfl) (eq_f _) rfl rfl (fun g15 => trivial) (fun g15 => om), fun _ => by exact .guard (!(decide (x_2.Kind ≠ x_3.Kind))) 3 [34, 35] (.plain rfl) (eq_f _) rfl rfl (fun g16 => ⟨g16, g16, trivial⟩) (fun g16 => op_index_e tySl22 (ix_lo (gc e17 g16)) (ix_map (e := eToken) (gc e17 g16)) rfl rfl), fun _ => by exact .guard (!(decide (x_2.Kind ≠ x_3.Kind))) 2 [36] (.plain rfl) (eq_f _) rfl rfl (fun g18 => ⟨g18, trivial⟩) (fun g18 => op_field_e tyFld31_2 rfl rfl), fun _ => by exact .guard (!(decide (x_2.Kind ≠ x_3.Kind))) 2 [37] (.plain rfl) (eq_f _) rfl rfl (fun g19 => ⟨g19, trivial⟩) (fun g19 => op_load_e1 tyOne9 rfl rfl), fun _ => by exact .guard (!(decide (x_2.Kind ≠ x_3.Kind))) 3 [33, 38] (.plain rfl) (eq_f _) rfl rfl (fun g20 => ⟨g20, g20, trivial⟩) (fun g20 => op_neq_str rfl rfl), fun _ => .p (op_pick_or (fun e => by first | (rw [e]; rfl) | (simp only at e; rw [e]; rfl)) rfl rfl rfl rfl), trivial⟩ rfl rfl ?_
    refine Tri.ite h4 rfl (fun _ h4 => ?_) (fun _ h4 => ?_)
    ·refine Tri.seq (Tri.regionL ?_)
     refine Oc oa (OpsL.nilS ⟨[(4, B false)], []⟩ rfl (Tri.ret (Fin.block_ret (Fin.then_ret ?_))))
     obtain rfl := hy5 _ (Option.some.inj h4).symm
     refine Fin.then_ret (Fin.block_ret (Fin.then_ret ?_))
     obtain rfl := Option.some.inj h
     refine Fin.keepS ⟨[(4, _)], []⟩ rfl (Fin.result' [.one (.bool false)] (.inl rfl) rfl (.cons (.tmp rfl) .nil) ⟨rfl, rfl⟩)
    ·refine Tri.skip (Fin.block_normal (Fin.keepS ⟨[(0, _), (1, _), (5, _)], []⟩ rfl (Fin.then (Tri.regionL ?_))))
     refine Oc om (Oc (op_add rfl rfl) (Oc oa ?_))
     refine OpsL.nil ?_
     exact Fin.againJ [0, 1, 5] [] (IntKind.i64.wrap (i_1 + 1)) (Option.some.inj h4) rfl
   ·refine Tri.exit (Fin.then_exit ?_)
    obtain rfl := hy5 _ (Option.some.inj h4).symm
    refine Fin.then_exit (Fin.block_exit ?_)
    exact Fin.join [] [] () rfl rfl
  ·rintro _ hv
   subst v1
   refine Tri.seq (Tri.regionL ?_)
   refine Oc oa (OpsL.nilS ⟨[(4, B true)], []⟩ rfl (Tri.ret ?_))
   obtain rfl := Option.some.inj h
   refine Fin.keepS ⟨[(4, _)], []⟩ rfl (Fin.result' [.one (.bool true)] (.inl rfl) rfl (.cons (.tmp rfl) .nil) ⟨rfl, rfl⟩)
def lexer_written_S (F : Nat) (t0 : Token) : Option Str :=
 if (decide (t0.Kind ≠ 4)) = true then (some t0.S) else ((NewReplacer_S F).bind fun u_1 => (Replacer_Replace_S F t0.S 0).bind fun x_2 => (app? [34] x_2).bind fun x_3 => (app? x_3 [34]).bind fun x_4 => some x_4)
theorem lexer_written_spec {F : Nat} {t0 : Token} {r : Str} (h : lexer_written_S F t0 = some r) : Meets Tryz.prog (tabs mx) 27 [] [.agg (eToken t0)] (Is [] (.b (.one (.str r)))) := by
 unfold lexer_written_S at h
 refine Meets.intro 15 Tryz.func27 Tryz.ntmps27 rfl (by simp) fun E => ?_
 show Tri _ E ⟨15, [], [], []⟩ _ ⟨[(0, .b (.agg (eToken t0)))], []⟩ _
 refine Tri.seq (Tri.regionL ?_)
 refine Oc (op_box (k := 101) rfl rfl) (Oc oa ?_)
 refine OpsL.nilS ⟨[(1, Pt 101 0)], [(101, .box 31 (eToken t0))]⟩ rfl (Tri.seq (Tri.seq (Tri.regionL ?_)))
 refine Oc (op_field_p tyFld31_0 rfl rfl) (Oc (op_load_p1 tyOne3 rfl rfl rfl) (Oc (op_neq rfl rfl) ?_))
 refine OpsL.nilS ⟨[(1, _), (5, B (decide (t0.Kind ≠ 4)))], [(101, _)]⟩ rfl (Tri.ite h rfl (fun _ h => ?_) (fun _ h => ?_))
 ·refine Tri.seq (Tri.regionL ?_)
  refine Oc (op_field_p tyFld31_2 rfl rfl) (Oc (op_load_p1 tyOne9 rfl rfl rfl) (Oc oa ?_))
  refine OpsL.nilS ⟨[(2, .b (.one (.str t0.S)))], []⟩ rfl (Tri.ret (Fin.then_ret ?_))
  obtain rfl := Option.some.inj h
  refine Fin.keepS ⟨[(2, _)], []⟩ rfl (Fin.result' [.one (.str t0.S)] (.inl rfl) rfl (.cons (.tmp rfl) .nil) ⟨rfl, rfl⟩)
 ·refine Tri.skip (Fin.keepS ⟨[(1, _)], [(101, _)]⟩ rfl (Fin.then (Tri.seq ?_)))
  refine Tri.keepS ⟨[(1, _)], [(101, _)]⟩ rfl ?_
  obtain ⟨u_1, e1, h⟩ := bnd h
  obtain ⟨x_2, e2, h⟩ := bnd h
  obtain ⟨x_3, e3, h⟩ := bnd h
  obtain ⟨x_4, e4, h⟩ := bnd h
  refine Tri.regionW mixed [false, true, false, false, true, false, false, false] [.b (.one (.sl 1 ([[92], [92, 92], [34], [92, 34]].map eS))), Pt 103 0, Pt 101 2, .b (.one (.str t0.S)), .b (.one (.str x_2)), .b (.one (.str x_3)), .b (.one (.str x_4)), .b (.one (.str x_4))] [⟨[false, false, false, false, false, false, false, false], [(1, Pt 101 0)], [(101, .box 31 (eToken t0))], [true, true, true, true, true, true, true, true], [], [4, 5, 6, 7]⟩, ⟨[false, true, false, false, false, false, false, false], [(1, Pt 101 0)], [(101, .box 31 (eToken t0)), (103, .box 159 [.int .u32 0, .int .i32 0, .int .u32 0, .raw .nilIface, .sl 1 ([[92], [92, 92], [34], [92, 34]].map eS)])], [true, true, true, true, true, true, true, true], [0, 1], [5, 6, 7]⟩, ⟨[false, true, false, false, true, false, false, false], [(1, Pt 101 0)], [(101, .box 31 (eToken t0)), (103, .box 159 [.int .u32 1, .int .i32 0, .int .u32 0, .ifp 212 (tabB escB [.sl 1 ([toStr [34], toStr [92]].map eS)]), .sl 1 ([].map eS)])], [true, true, true, true, true, true, true, true], [0, 1, 2, 3, 4], []⟩] rfl (⟨by kernel_rfl, ⟨⟨.b (.one (.sl 1 ([[92], [92, 92], [34], [92, 34]].map eS))), fun _ => rfl, fun _ => .p (by exact op_buildSliceP (es := [[92], [92, 92], [34], [92, 34]].map eS) tySl44 rfl rfl (uni_map fun _ => rfl) rfl (by decide) (by decide))⟩, ⟨_, [103], Pt 103 0, rfl, fun _ => rfl, rfl, rfl, fun _ => .toO [101, 103] (by exact .p (by exact op_call (own_a := []) ((NewReplacer_spec e1).sw 60 103) goes57 rfl trivial rfl rfl)) (by exact rfl)⟩, ⟨Pt 101 2, fun _ => rfl, fun _ => .p (by exact op_field_p tyFld31_2 rfl rfl)⟩, ⟨.b (.one (.str t0.S)), fun _ => rfl, fun _ => .p (by exact op_load_p1 tyOne9 rfl rfl rfl)⟩, trivial, trivial, trivial, trivial, trivial⟩, ⟨by kernel_rfl, ⟨trivial, trivial, ⟨Pt 101 2, fun _ => rfl, fun _ => .p (by exact op_field_p tyFld31_2 rfl rfl)⟩, ⟨.b (.one (.str t0.S)), fun _ => rfl, fun _ => .p (by exact op_load_p1 tyOne9 rfl rfl rfl)⟩, ⟨_, [], .b (.one (.str x_2)), rfl, fun _ => rfl, rfl, rfl, fun _ => .toO [101, 103] (by exact .p (by exact op_call (own_a := [(103, _)]) ((Replacer_Replace_spec e2).sw 1 103) goes58 rfl ⟨rfl, trivial⟩ rfl rfl)) (by exact rfl)⟩, trivial, trivial, trivial, trivial⟩, ⟨by kernel_rfl, ⟨trivial, trivial, trivial, trivial, trivial, ⟨.b (.one (.str x_3)), fun _ => rfl, fun _ => .p (by exact op_add_str2 e3 rfl rfl)⟩, ⟨.b (.one (.str x_4)), fun _ => rfl, fun _ => .p (by exact op_add_str2 e4 rfl rfl)⟩, ⟨.b (.one (.str x_4)), fun _ => rfl, fun _ => .p (by exact op_assign rfl)⟩, trivial⟩, trivial⟩⟩⟩) rfl rfl rfl [2] [] (s' := ⟨[(2, .b (.one (.str x_4)))], []⟩) rfl (Tri.ret ?_)
  obtain rfl := Option.some.inj h
  refine Fin.keepS ⟨[(2, _)], []⟩ rfl (Fin.result' [.one (.str x_4)] (.inl rfl) rfl (.cons (.tmp rfl) .nil) ⟨rfl, rfl⟩)
def lexer_possible_S (F : Nat) (t0 : Token) : Option Bool :=
 (lexer_written_S F t0).bind fun x_1 => Option.bind (lexer_Tokens_S F x_1) (un2 fun x_2 x_3 => (gcall ((decide (x_3 = (⟨0, 0⟩ : Problem))) && (decide ((x_2.length : Int) = 1))) (idx? x_2 0)).bind fun x_4 => some (((decide (x_3 = (⟨0, 0⟩ : Problem))) && (decide ((x_2.length : Int) = 1))) && (decide (x_4 = (⟨t0.Kind, 0, t0.S⟩ : Token)))))
theorem lexer_possible_spec {F : Nat} {t0 : Token} {r : Bool} (h : lexer_possible_S F t0 = some r) : Meets Tryz.prog (tabs mx) 26 [] [.agg (eToken t0)] (Is [] (.b (.one (.bool r)))) := by
 unfold lexer_possible_S at h
 refine Meets.intro 27 Tryz.func26 Tryz.ntmps26 rfl (by simp) fun E => ?_
 show Tri _ E ⟨27, [], [], []⟩ _ ⟨[(0, .b (.agg (eToken t0)))], []⟩ _
 refine Tri.seq (Tri.regionL ?_)
 refine Oc (op_box (k := 101) rfl rfl) (Oc oa ?_)
 refine OpsL.nilS ⟨[(1, Pt 101 0)], [(101, .box 31 (eToken t0))]⟩ rfl (Tri.seq (Tri.regionL ?_))
 refine Oc (lp tyAgg31) ?_
 obtain ⟨x_1, e1, h⟩ := bnd h
 refine Oc (op_call0 (lexer_written_spec e1) goes27 rfl rfl) ?_
 obtain ⟨⟨x_2, x_3⟩, e2, h⟩ := bnd h
 refine Oc (op_call0 (lexer_Tokens_spec e2) goes13 rfl rfl) (OpsL.keepS ⟨[(1, _), (8, .tup [.one (.sl 3 (x_2.map eToken)), .agg (eProblem x_3)])], [(101, _)]⟩ rfl (Oc om (Oc (op_extract rfl rfl) (Oc (op_extract rfl rfl) (Oc (op_alloc (k := 102) tyZero46 rfl) (Oc oa (Oc (op_store_p tyAgg46 rfl rfl rfl rfl (Nat.le_of_ble_eq_true rfl) rfl) ?_)))))))
 refine OpsL.nilS ⟨[(1, _), (3, .b (.one (.sl 3 (x_2.map eToken)))), (4, Pt 102 0)], [(101, _), (102, .box 46 (eProblem x_3))]⟩ rfl (Tri.seq (Tri.regionL ?_))
 refine Oc (op_field_p tyFld31_1 rfl rfl) (Oc (op_store_p1 tyOne3 rfl rfl rfl (Nat.le_of_ble_eq_true rfl) rfl) ?_)
 refine OpsL.nilS ⟨[(1, _), (3, _), (4, _)], [(101, .box 31 [.i t0.Kind, .i 0, .str t0.S]), (102, _)]⟩ rfl (Tri.seq ?_)
 obtain ⟨x_4, e8, h⟩ := bnd h
 refine Tri.regionY mixed 16 [.b (.agg (eProblem x_3)), .b (.agg [.i 0, .i 0]), B (decide (x_3 = (⟨0, 0⟩ : Problem))), B (decide (x_3 = (⟨0, 0⟩ : Problem))), .opt (decide (x_3 = (⟨0, 0⟩ : Problem))) (.one (.sl 3 (x_2.map eToken))), .opt (decide (x_3 = (⟨0, 0⟩ : Problem))) (.one (.i (x_2.length : Int))), .opt (decide (x_3 = (⟨0, 0⟩ : Problem))) (.one (.bool (decide ((x_2.length : Int) = 1)))), B ((decide (x_3 = (⟨0, 0⟩ : Problem))) && (decide ((x_2.length : Int) = 1))), B ((decide (x_3 = (⟨0, 0⟩ : Problem))) && (decide ((x_2.length : Int) = 1))), .opt ((decide (x_3 = (⟨0, 0⟩ : Problem))) && (decide ((x_2.length : Int) = 1))) (.one (.sl 3 (x_2.map eToken))), .opt ((decide (x_3 = (⟨0, 0⟩ : Problem))) && (decide ((x_2.length : Int) = 1))) (.eptr (eToken x_4)), .opt ((decide (x_3 = (⟨0, 0⟩ : Problem))) && (decide ((x_2.length : Int) = 1))) (.agg (eToken x_4)), .opt ((decide (x_3 = (⟨0, 0⟩ : Problem))) && (decide ((x_2.length : Int) = 1))) (.agg [.i t0.Kind, .i 0, .str t0.S]), .opt ((decide (x_3 = (⟨0, 0⟩ : Problem))) && (decide ((x_2.length : Int) = 1))) (.one (.bool (decide (x_4 = (⟨t0.Kind, 0, t0.S⟩ : Token))))), B (((decide (x_3 = (⟨0, 0⟩ : Problem))) && (decide ((x_2.length : Int) = 1))) && (decide (x_4 = (⟨t0.Kind, 0, t0.S⟩ : Token)))), B (((decide (x_3 = (⟨0, 0⟩ : Problem))) && (decide ((x_2.length : Int) = 1))) && (decide (x_4 = (⟨t0.Kind, 0, t0.S⟩ : Token))))] [2] [] (s' := ⟨[(2, B (((decide (x_3 = (⟨0, 0⟩ : Problem))) && (decide ((x_2.length : Int) = 1))) && (decide (x_4 = (⟨t0.Kind, 0, t0.S⟩ : Token)))))], []⟩) rfl ⟨fun _ => .p (lp tyAgg46), fun _ => .p (op_build tyBuild46 rfl rfl), fun _ => .p (op_eql_agg (eqAgg46 x_3 (⟨0, 0⟩ : Problem)) rfl rfl), fun _ => .p om, fun _ => by exact .guard (decide (x_3 = (⟨0, 0⟩ : Problem))) 1 [] (.plain rfl) (eq_t _) rfl rfl (fun g3 => trivial) (fun g3 => om), fun _ => by exact .guard (decide (x_3 = (⟨0, 0⟩ : Problem))) 2 [16] (.plain rfl) (eq_t _) rfl rfl (fun g4 => ⟨g4, trivial⟩) (fun g4 => op_len_e' und22 rfl (List.length_map _)), fun _ => by exact .guard (decide (x_3 = (⟨0, 0⟩ : Problem))) 2 [17] (.plain rfl) (eq_t _) rfl rfl (fun g5 => ⟨g5, trivial⟩) (fun g5 => op_eql rfl rfl), fun _ => .p (op_pick_and (fun e => e) rfl rfl rfl rfl), fun _ => .p om, fun _ => by exact .guard ((decide (x_3 = (⟨0, 0⟩ : Problem))) && (decide ((x_2.length : Int) = 1))) 1 [] (.plain rfl) (eq_t _) rfl rfl (fun g6 => trivial) (fun g6 => om), fun _ => by exact .guard ((decide (x_3 = (⟨0, 0⟩ : Problem))) && (decide ((x_2.length : Int) = 1))) 2 [21] (.plain rfl) (eq_t _) rfl rfl (fun g7 => ⟨g7, trivial⟩) (fun g7 => op_index_e tySl22 (ix_lo (gc e8 g7)) (ix_map (e := eToken) (gc e8 g7)) rfl rfl), fun _ => by exact .guard ((decide (x_3 = (⟨0, 0⟩ : Problem))) && (decide ((x_2.length : Int) = 1))) 2 [22] (.plain rfl) (eq_t _) rfl rfl (fun g9 => ⟨g9, trivial⟩) (fun g9 => op_load_e tyAgg31 rfl rfl rfl), fun _ => by exact .guard ((decide (x_3 = (⟨0, 0⟩ : Problem))) && (decide ((x_2.length : Int) = 1))) 1 [] (.plain rfl) (eq_t _) rfl rfl (fun g10 => trivial) (fun g10 => lp tyAgg31), fun _ => by exact .guard ((decide (x_3 = (⟨0, 0⟩ : Problem))) && (decide ((x_2.length : Int) = 1))) 3 [23, 24] (.plain rfl) (eq_t _) rfl rfl (fun g11 => ⟨g11, g11, trivial⟩) (fun g11 => op_eql_agg (eqAgg31 x_4 (⟨t0.Kind, 0, t0.S⟩ : Token)) rfl rfl), fun _ => .p (op_pick_and (fun e => e) rfl rfl rfl rfl), fun _ => .p oa, trivial⟩ rfl rfl ?_
 refine Tri.ret ?_
 obtain rfl := Option.some.inj h
 refine Fin.keepS ⟨[(2, _)], []⟩ rfl (Fin.result' [.one (.bool (((decide (x_3 = (⟨0, 0⟩ : Problem))) && (decide ((x_2.length : Int) = 1))) && (decide (x_4 = (⟨t0.Kind, 0, t0.S⟩ : Token)))))] (.inl rfl) rfl (.cons (.tmp rfl) .nil) ⟨rfl, rfl⟩)
def strings_trimLeftByte_S (F : Nat) (s0 : Str) (c0 : Int) : Option Str :=
 Option.bind (iter F (fun s_2 => (gcall (decide (0 < (s_2.length : Int))) (idx? s_2 0)).bind fun x_4 => letN ((decide (0 < (s_2.length : Int))) && (decide ((x_4.toNat : Int) = c0))) fun x_5 => if x_5 = true then ((drop? s_2 1).bind fun x_6 => some (.inl x_6)) else (some (.inr s_2))) s0) (fun s_1 => some s_1)
theorem strings_trimLeftByte_spec {F : Nat} {s0 : Str} {c0 : Int} {r : Str} (h : strings_trimLeftByte_S F s0 c0 = some r) : Meets Tryz.prog (tabs mx) 64 [] [.one (.str s0), .one (.int .u8 c0)] (Is [] (.b (.one (.str r)))) := by
 unfold strings_trimLeftByte_S at h
 refine Meets.intro 17 Tryz.func64 Tryz.ntmps64 rfl (by simp) fun E => ?_
 show Tri _ E ⟨17, [], [], []⟩ _ ⟨[(0, .b (.one (.str s0))), (1, .b (.one (.int .u8 c0)))], []⟩ _
 refine Tri.seq (Tri.regionL ?_)
 refine Oc oa (OpsL.nilS ⟨[(0, .b (.one (.str s0))), (1, .b (.one (.int .u8 c0)))], []⟩ rfl ?_)
 obtain ⟨v1, h2, h⟩ := bnd h
 refine Tri.seqJ (v := v1) (fun (s_1 : Str) => ⟨[(0, .b (.one (.str s_1)))], []⟩) (fun z => z) ?_ ?_
 ·refine Tri.block (Tri.loopJ h2 (fun (s_2 : Str) => ⟨[(0, .b (.one (.str s_2))), (1, .b (.one (.int .u8 c0)))], []⟩) [0, 1] [] rfl ?_)
  rintro s_2 o3 h4 hy5
  refine Tri.seq (Tri.seq (Tri.regionL ?_))
  refine Oc om (Oc (op_len_str und9 rfl) (Oc (op_gtr rfl rfl) (Oc om ?_)))
  refine CgT (decide (0 < (s_2.length : Int))) [] (fun g6 => trivial) (fun g6 => om) ?_
  obtain ⟨x_4, e8, h4⟩ := bnd h4
  refine CgT (decide (0 < (s_2.length : Int))) [9] (fun g7 => ⟨g7, trivial⟩) (fun g7 => op_index_str und9 rfl rfl (ix_lo (gc e8 g7)) (ix_get (gc e8 g7))) (OpsL.keepS ⟨[(0, _), (1, _), (8, B (decide (0 < (s_2.length : Int)))), (10, .opt (decide (0 < (s_2.length : Int))) (.one (.int .u8 (x_4.toNat : Int))))], []⟩ rfl (CgT (decide (0 < (s_2.length : Int))) [] (fun g9 => trivial) (fun g9 => om) (CgT (decide (0 < (s_2.length : Int))) [10, 11] (fun g10 => by exact ⟨g10, g10, trivial⟩) (fun g10 => op_eql rfl rfl) (OpsL.consB h4 rfl (op_pick_and (fun e => e) rfl rfl rfl rfl) (fun x_5 h4 => ?_)))))
  refine OpsL.nilS ⟨[(0, _), (1, _), (13, B x_5)], []⟩ rfl (Tri.ite h4 rfl (fun _ h4 => ?_) (fun _ h4 => ?_))
  ·refine Tri.skip (Fin.keepS ⟨[(0, _), (1, _)], []⟩ rfl (Fin.then (Tri.block (Tri.regionL ?_))))
   refine Oc om ?_
   obtain ⟨x_6, e11, h4⟩ := bnd h4
   refine Oc (op_slice_str_l und9 e11 rfl rfl) (Oc oa ?_)
   refine OpsL.nil (Fin.block_normal ?_)
   exact Fin.againJ [0, 1] [] x_6 (Option.some.inj h4) rfl
  ·refine Tri.exit (Fin.then_exit ?_)
   obtain rfl := hy5 _ (Option.some.inj h4).symm
   refine Fin.then_exit (Fin.block_exit ?_)
   exact Fin.join [0] [] s_2 rfl rfl
 ·rintro s_1 hv
  subst v1
  refine Tri.seq (Tri.regionL ?_)
  refine Oc om (Oc oa ?_)
  refine OpsL.nilS ⟨[(4, .b (.one (.str s_1)))], []⟩ rfl (Tri.ret ?_)
  obtain rfl := Option.some.inj h
  refine Fin.keepS ⟨[(4, _)], []⟩ rfl (Fin.result' [.one (.str s_1)] (.inl rfl) rfl (.cons (.tmp rfl) .nil) ⟨rfl, rfl⟩)
def strings_TrimLeft_S (F : Nat) (s0 : Str) (cutset0 : Str) : Option Str :=
 if ((decide (s0 = [])) || (decide (cutset0 = []))) = true then (some s0) else ((gcall (decide ((cutset0.length : Int) = 1)) (idx? cutset0 0)).bind fun x_1 => letN ((decide ((cutset0.length : Int) = 1)) && (decide ((x_1.toNat : Int) < 128))) fun x_2 => if x_2 = true then ((idx? cutset0 0).bind fun x_3 => (strings_trimLeftByte_S F s0 (x_3.toNat : Int)).bind fun x_4 => some x_4) else (none))
theorem strings_TrimLeft_spec {F : Nat} {s0 : Str} {cutset0 : Str} {r : Str} (h : strings_TrimLeft_S F s0 cutset0 = some r) : Meets Tryz.prog (tabs mx) 32 [] [.one (.str s0), .one (.str cutset0)] (Is [] (.b (.one (.str r)))) := by
 unfold strings_TrimLeft_S at h
 refine Meets.intro 37 Tryz.func32 Tryz.ntmps32 rfl (by simp) fun E => ?_
 show Tri _ E ⟨37, [], [], []⟩ _ ⟨[(0, .b (.one (.str s0))), (1, .b (.one (.str cutset0)))], []⟩ _
 refine Tri.seq (Tri.regionL ?_)
 refine Oc oa (OpsL.nilS ⟨[(0, .b (.one (.str s0))), (1, .b (.one (.str cutset0)))], []⟩ rfl (Tri.seq (Tri.seq (Tri.regionL ?_))))
 refine Oc om (Oc (op_eql_str rfl rfl) (Oc om ?_))
 refine CgF (!(decide (s0 = []))) [] (fun g1 => trivial) (fun g1 => om) (CgF (!(decide (s0 = []))) [10] (fun g2 => by exact ⟨g2, trivial⟩) (fun g2 => op_eql_str rfl rfl) (Oc (op_pick_or (fun e => by first | (rw [e]; rfl) | (simp only at e; rw [e]; rfl)) rfl rfl rfl rfl) (OpsL.nilS ⟨[(0, _), (1, _), (12, B ((decide (s0 = [])) || (decide (cutset0 = []))))], []⟩ rfl (Tri.ite h rfl (fun _ h => ?_) (fun _ h => ?_)))))
 ·refine Tri.seq (Tri.regionL ?_)
  refine Oc om (Oc oa ?_)
  refine OpsL.nilS ⟨[(4, .b (.one (.str s0)))], []⟩ rfl (Tri.ret (Fin.then_ret ?_))
  obtain rfl := Option.some.inj h
  refine Fin.keepS ⟨[(4, _)], []⟩ rfl (Fin.result' [.one (.str s0)] (.inl rfl) rfl (.cons (.tmp rfl) .nil) ⟨rfl, rfl⟩)
 ·refine Tri.skip (Fin.keepS ⟨[(0, _), (1, _)], []⟩ rfl (Fin.then (Tri.seq (Tri.seq (Tri.regionL ?_)))))
  refine Oc om (Oc (op_len_str und9 rfl) (Oc (op_eql rfl rfl) (Oc om ?_)))
  refine CgT (decide ((cutset0.length : Int) = 1)) [] (fun g3 => trivial) (fun g3 => om) ?_
  obtain ⟨x_1, e5, h⟩ := bnd h
  refine CgT (decide ((cutset0.length : Int) = 1)) [18] (fun g4 => ⟨g4, trivial⟩) (fun g4 => op_index_str und9 rfl rfl (ix_lo (gc e5 g4)) (ix_get (gc e5 g4))) (CgT (decide ((cutset0.length : Int) = 1)) [19] (fun g6 => ⟨g6, trivial⟩) (fun g6 => op_lss rfl rfl) (OpsL.consB h rfl (op_pick_and (fun e => e) rfl rfl rfl rfl) (fun x_2 h => ?_)))
  refine OpsL.nilS ⟨[(0, _), (1, _), (21, B x_2)], []⟩ rfl (Tri.ite h rfl (fun _ h => ?_) (fun _ h => ?_))
  ·refine Tri.seq (Tri.regionL ?_)
   refine Oc om (Oc om ?_)
   obtain ⟨x_3, e7, h⟩ := bnd h
   refine Oc (op_index_str und9 rfl rfl (ix_lo e7) (ix_get e7)) ?_
   obtain ⟨x_4, e8, h⟩ := bnd h
   refine Oc (op_call0 (strings_trimLeftByte_spec e8) goes64 rfl rfl) (Oc oa ?_)
   refine OpsL.nilS ⟨[(4, .b (.one (.str x_4)))], []⟩ rfl (Tri.ret (Fin.then_ret ?_))
   obtain rfl := Option.some.inj h
   refine Fin.keepS ⟨[(4, _)], []⟩ rfl (Fin.result' [.one (.str x_4)] (.inl rfl) rfl (.cons (.tmp rfl) .nil) ⟨rfl, rfl⟩)
  ·cases h
def w_Bad_S (F : Nat) : Option Big :=
 some (⟨true, false, A16.zero⟩ : Big)
theorem w_Bad_spec {F : Nat} {r : Big} (h : w_Bad_S F = some r) : Meets Tryz.prog (tabs mx) 68 [] [] (Is [] (.b (.agg (eBig r)))) := by
 unfold w_Bad_S at h
 refine Meets.intro 2 Tryz.func68 Tryz.ntmps68 rfl (by simp) fun E => ?_
 show Tri _ E ⟨2, [], [], []⟩ _ ⟨[], []⟩ _
 refine Tri.seq (Tri.regionL ?_)
 refine Oc (op_alloc (k := 101) tyZero35 rfl) (OpsL.nilS ⟨[(0, Pt 101 0)], [(101, .box 35 zBig)]⟩ rfl (Tri.seq (Tri.regionL ?_)))
 refine Oc (op_build tyBuild35 rfl rfl) (Oc (op_store_p tyAgg35 rfl rfl rfl rfl (Nat.le_of_ble_eq_true rfl) rfl) ?_)
 refine OpsL.nilS ⟨[(0, _)], [(101, .box 35 (.bool true :: .bool false :: (eW A16.zero)))]⟩ rfl (Tri.ret ?_)
 obtain rfl := Option.some.inj h
 refine Fin.keepS ⟨[(0, _)], [(101, _)]⟩ rfl (Fin.result' [.agg (.bool true :: .bool false :: (eW A16.zero))] (.inl rfl) rfl (.cons (.agg tyAgg35 rfl rfl rfl rfl) .nil) ⟨rfl, rfl⟩)
def w_signed_S (F : Nat) (neg0 : Bool) (w0 : A16) : Option Big :=
 some (⟨false, neg0 && (decide (w0 ≠ A16.zero)), w0⟩ : Big)
theorem w_signed_spec {F : Nat} {neg0 : Bool} {w0 : A16} {r : Big} (h : w_signed_S F neg0 w0 = some r) : Meets Tryz.prog (tabs mx) 69 [] [.one (.bool neg0), .agg (eW w0)] (Is [] (.b (.agg (eBig r)))) := by
 unfold w_signed_S at h
 refine Meets.intro 13 Tryz.func69 Tryz.ntmps69 rfl (by simp) fun E => ?_
 show Tri _ E ⟨13, [], [], []⟩ _ ⟨[(0, B neg0), (1, .b (.agg (eW w0)))], []⟩ _
 refine Tri.seq (Tri.regionL ?_)
 refine Oc (op_box (k := 101) rfl rfl) (Oc (op_alloc (k := 102) tyZero35 rfl) ?_)
 refine OpsL.nilS ⟨[(0, B neg0), (3, Pt 101 0), (4, Pt 102 0)], [(101, .box 33 (eW w0)), (102, .box 35 zBig)]⟩ rfl (Tri.seq (Tri.regionY mixed 8 [B neg0, B neg0, .opt neg0 (.agg (eW w0)), .opt neg0 (.agg (eW A16.zero)), .opt neg0 (.one (.bool (decide (w0 ≠ A16.zero)))), B (neg0 && (decide (w0 ≠ A16.zero))), .b (.agg (eW w0)), .b (.agg (.bool false :: .bool (neg0 && (decide (w0 ≠ A16.zero))) :: (eW w0)))] [4] [102] (s' := ⟨[(4, _)], [(102, .box 35 (.bool false :: .bool (neg0 && (decide (w0 ≠ A16.zero))) :: (eW w0)))]⟩) rfl ⟨fun _ => .p om, fun _ => .p om, fun _ => by exact .guard neg0 1 [] (.plain rfl) (eq_t _) rfl rfl (fun g1 => trivial) (fun g1 => lp tyAgg33), fun _ => by exact .guard neg0 1 [] (.plain rfl) (eq_t _) rfl rfl (fun g2 => trivial) (fun g2 => op_buildA tyBuild33 rfl rfl), fun _ => by exact .guard neg0 3 [7, 8] (.plain rfl) (eq_t _) rfl rfl (fun g3 => ⟨g3, g3, trivial⟩) (fun g3 => op_neq_agg (eqAgg33 w0 A16.zero) rfl rfl neg_dec), fun _ => .p (op_pick_and (fun e => e) rfl rfl rfl rfl), fun _ => .p (lp tyAgg33), fun _ => .p (op_build tyBuild35 rfl rfl), trivial⟩ ⟨_, by exact .p (op_store_p tyAgg35 rfl rfl rfl rfl (Nat.le_of_ble_eq_true rfl) rfl), rfl⟩ rfl (Tri.ret ?_)))
 obtain rfl := Option.some.inj h
 refine Fin.keepS ⟨[(4, _)], [(102, _)]⟩ rfl (Fin.result' [.agg (.bool false :: .bool (neg0 && (decide (w0 ≠ A16.zero))) :: (eW w0))] (.inl rfl) rfl (.cons (.agg tyAgg35 rfl rfl rfl rfl) .nil) ⟨rfl, rfl⟩)
def w_Of_S (F : Nat) (n0 : Int) : Option Big :=
 Option.bind (if (decide (n0 < 0)) = true then (letN (IntKind.u64.wrap (-(IntKind.u64.wrap n0))) fun x_2 => some x_2) else (some (IntKind.u64.wrap n0))) (fun u_1 => letN (⟨IntKind.u32.wrap u_1, IntKind.u32.wrap (u_1 / 4294967296), 0, 0, 0, 0, 0, 0, 0, 0, 0, 0, 0, 0, 0, 0⟩ : A16) fun x_3 => (w_signed_S F (decide (n0 < 0)) x_3).bind fun x_4 => some x_4)
theorem w_Of_spec {F : Nat} {n0 : Int} {r : Big} (h : w_Of_S F n0 = some r) : Meets Tryz.prog (tabs mx) 47 [] [.one (.i n0)] (Is [] (.b (.agg (eBig r)))) := by
 unfold w_Of_S at h
 refine Meets.intro 19 Tryz.func47 Tryz.ntmps47 rfl (by simp) fun E => ?_
 show Tri _ E ⟨19, [], [], []⟩ _ ⟨[(0, I n0)], []⟩ _
 refine Tri.seq (Tri.regionL ?_)
 refine Oc (op_alloc (k := 101) tyZero35 rfl) (OpsL.nilS ⟨[(0, I n0), (2, Pt 101 0)], [(101, .box 35 zBig)]⟩ rfl (Tri.seq (Tri.regionL ?_)))
 refine Oc om (Oc (op_conv_wrap undi3 undi54 rfl) (Oc oa ?_))
 refine OpsL.nilS ⟨[(0, _), (2, _), (3, .b (.one (.int .u64 (IntKind.u64.wrap n0))))], [(101, _)]⟩ rfl ?_
 obtain ⟨v1, h2, h⟩ := bnd h
 refine Tri.seqJ (v := v1) (fun (u_1 : Int) => ⟨[(0, I n0), (2, Pt 101 0), (3, .b (.one (.int .u64 u_1)))], [(101, .box 35 zBig)]⟩) (fun z => z) ?_ ?_
 ·refine Tri.seq (Tri.regionL ?_)
  refine Oc om (Oc (op_lss rfl rfl) ?_)
  refine OpsL.nilS ⟨[(0, _), (2, _), (3, _), (7, B (decide (n0 < 0)))], [(101, _)]⟩ rfl (Tri.ite h2 rfl (fun _ h2 => ?_) (fun _ h2 => ?_))
  ·refine Tri.regionL (Oc om (OpsL.consI .u64 h2 rfl (op_neg rfl) (fun x_2 h2 => ?_)))
   refine Oc oa (OpsL.nil ?_)
   exact Fin.join [0, 2, 3] [101] x_2 (Option.some.inj h2) rfl
  ·refine Tri.skip ?_
   exact Fin.join [0, 2, 3] [101] (IntKind.u64.wrap n0) (Option.some.inj h2) rfl
 ·rintro u_1 hv
  subst v1
  refine Tri.seq (Tri.regionL ?_)
  refine Oc om (Oc (op_lss rfl rfl) (Oc om (Oc (op_conv_wrap undi54 undi32 rfl) (Oc om (Oc (op_shr2 (m := 32) (by decide) rfl rfl rfl) ?_)))))
  refine Oc (op_conv_wrap undi54 undi32 rfl) (OpsL.keepS ⟨[(2, _), (11, B (decide (n0 < 0))), (13, .b (.one (.int .u32 (IntKind.u32.wrap u_1)))), (16, .b (.one (.int .u32 (IntKind.u32.wrap (u_1 / 4294967296)))))], [(101, _)]⟩ rfl (OpsL.consA eW h rfl (op_buildA tyBuild33 rfl rfl) (fun x_3 h => ?_)))
  obtain ⟨x_4, e3, h⟩ := bnd h
  refine Oc (op_call0 (w_signed_spec e3) goes69 rfl rfl) (Oc (op_store_p tyAgg35 rfl rfl rfl rfl (Nat.le_of_ble_eq_true rfl) rfl) ?_)
  refine OpsL.nilS ⟨[(2, _)], [(101, .box 35 (eBig x_4))]⟩ rfl (Tri.ret ?_)
  obtain rfl := Option.some.inj h
  refine Fin.keepS ⟨[(2, _)], [(101, _)]⟩ rfl (Fin.result' [.agg (eBig x_4)] (.inl rfl) rfl (.cons (.agg tyAgg35 rfl rfl rfl rfl) .nil) ⟨rfl, rfl⟩)
def w_Valid_S (F : Nat) (x0 : Big) : Option Bool :=
 if x0.Bad = true then (some ((decide (x0.W = A16.zero)) && (!x0.Neg))) else (some ((!(decide (x0.W = A16.zero))) || (!x0.Neg)))
theorem w_Valid_spec {F : Nat} {x0 : Big} {r : Bool} (h : w_Valid_S F x0 = some r) : Meets Tryz.prog (tabs mx) 130 [] [.agg (eBig x0)] (Is [] (.b (.one (.bool r)))) := by
 unfold w_Valid_S at h
 refine Meets.intro 23 Tryz.func130 Tryz.ntmps130 rfl (by simp) fun E => ?_
 show Tri _ E ⟨23, [], [], []⟩ _ ⟨[(0, .b (.agg (eBig x0)))], []⟩ _
 refine Tri.seq (Tri.regionL ?_)
 refine Oc (op_box (k := 101) rfl rfl) (Oc oa ?_)
 refine OpsL.nilS ⟨[(1, Pt 101 0)], [(101, .box 35 (eBig x0))]⟩ rfl (Tri.seq (Tri.regionL ?_))
 refine Oc (op_field_p tyFld35_2 rfl rfl) (Oc (lp tyAgg33) (Oc (op_buildA tyBuild33 rfl rfl) (Oc (op_eql_agg (eqAgg33 x0.W A16.zero) rfl rfl) (Oc oa ?_))))
 refine OpsL.nilS ⟨[(1, _), (3, B (decide (x0.W = A16.zero)))], [(101, _)]⟩ rfl (Tri.seq (Tri.seq (Tri.regionL ?_)))
 refine Oc (op_field_p tyFld35_0 rfl rfl) (Oc (op_load_p1 tyOne4 rfl rfl rfl) ?_)
 refine OpsL.nilS ⟨[(1, _), (3, _), (9, B x0.Bad)], [(101, _)]⟩ rfl (Tri.ite h rfl (fun _ h => ?_) (fun _ h => ?_))
 ·refine Tri.seq (Tri.regionL ?_)
  refine Oc om (Oc om ?_)
  refine CgT (decide (x0.W = A16.zero)) [] (fun g1 => trivial) (fun g1 => op_field_p tyFld35_1 rfl rfl) (CgT (decide (x0.W = A16.zero)) [12] (fun g2 => ⟨g2, trivial⟩) (fun g2 => op_load_p1 tyOne4 rfl rfl rfl) (CgT (decide (x0.W = A16.zero)) [13] (fun g3 => ⟨g3, trivial⟩) (fun g3 => op_not rfl) (Oc (op_pick_and (fun e => e) rfl rfl rfl rfl) (Oc oa ?_))))
  refine OpsL.nilS ⟨[(2, B ((decide (x0.W = A16.zero)) && (!x0.Neg)))], []⟩ rfl (Tri.ret (Fin.then_ret ?_))
  obtain rfl := Option.some.inj h
  refine Fin.keepS ⟨[(2, _)], []⟩ rfl (Fin.result' [.one (.bool ((decide (x0.W = A16.zero)) && (!x0.Neg)))] (.inl rfl) rfl (.cons (.tmp rfl) .nil) ⟨rfl, rfl⟩)
 ·refine Tri.skip (Fin.keepS ⟨[(1, _), (3, _)], [(101, _)]⟩ rfl (Fin.then (Tri.seq (Tri.regionL ?_))))
  refine Oc om (Oc (op_not rfl) (Oc om ?_))
  refine CgF (!(!(decide (x0.W = A16.zero)))) [] (fun g4 => trivial) (fun g4 => op_field_p tyFld35_1 rfl rfl) (CgF (!(!(decide (x0.W = A16.zero)))) [19] (fun g5 => ⟨g5, trivial⟩) (fun g5 => op_load_p1 tyOne4 rfl rfl rfl) (CgF (!(!(decide (x0.W = A16.zero)))) [20] (fun g6 => ⟨g6, trivial⟩) (fun g6 => op_not rfl) (Oc (op_pick_or (fun e => by first | (rw [e]; rfl) | (simp only at e; rw [e]; rfl)) rfl rfl rfl rfl) (Oc oa ?_))))
  refine OpsL.nilS ⟨[(2, B ((!(decide (x0.W = A16.zero))) || (!x0.Neg)))], []⟩ rfl (Tri.ret ?_)
  obtain rfl := Option.some.inj h
  refine Fin.keepS ⟨[(2, _)], []⟩ rfl (Fin.result' [.one (.bool ((!(decide (x0.W = A16.zero))) || (!x0.Neg)))] (.inl rfl) rfl (.cons (.tmp rfl) .nil) ⟨rfl, rfl⟩)
def w_good_S (F : Nat) (l0 : List Big) : Option Bool :=
 Option.bind (iter F (fun x_1 => if (decide (x_1 < (l0.length : Int))) = true then ((idx? l0 x_1).bind fun x_2 => (gcall (!x_2.Bad) (w_Valid_S F x_2)).bind fun x_3 => if (x_2.Bad || (!x_3)) = true then (some (.inr (.inr false))) else (some (.inl (IntKind.i64.wrap (x_1 + 1))))) else (some (.inr (.inl ())))) 0) (alt2 (fun _ => some true) (fun y => some y))
theorem w_good_spec {F : Nat} {l0 : List Big} {r : Bool} (h : w_good_S F l0 = some r) : Meets Tryz.prog (tabs mx) 103 [] [.one (.sl 18 (l0.map eBig))] (Is [] (.b (.one (.bool r)))) := by
 unfold w_good_S at h
 refine Meets.intro 19 Tryz.func103 Tryz.ntmps103 rfl (by simp) fun E => ?_
 show Tri _ E ⟨19, [], [], []⟩ _ ⟨[(0, .b (.one (.sl 18 (l0.map eBig))))], []⟩ _
 refine Tri.seq (Tri.regionL ?_)
 refine Oc oa (OpsL.nilS ⟨[(0, .b (.one (.sl 18 (l0.map eBig))))], []⟩ rfl ?_)
 obtain ⟨v1, h2, h⟩ := bnd h
 refine Tri.seqJ (v := v1) (fun (_ : Unit) => ⟨[], []⟩) (fun z => .inl z) ?_ ?_
 ·refine Tri.seq (Tri.regionL ?_)
  refine Oc om (Oc (op_len_e' und178 rfl (List.length_map _)) (Oc om ?_))
  refine OpsL.nilS ⟨[(5, .b (.one (.sl 18 (l0.map eBig)))), (6, I (l0.length : Int)), (7, I 0)], []⟩ rfl (Tri.block (Tri.loopJ h2 (fun (x_1 : Int) => ⟨[(5, .b (.one (.sl 18 (l0.map eBig)))), (6, I (l0.length : Int)), (7, I x_1)], []⟩) [5, 6, 7] [] rfl ?_))
  rintro x_1 o3 h4 hy5
  refine Tri.seq (Tri.regionL ?_)
  refine Oc (op_lss rfl rfl) (OpsL.nilS ⟨[(5, _), (6, _), (7, _), (8, B (decide (x_1 < (l0.length : Int))))], []⟩ rfl (Tri.seq (Tri.ite h4 rfl (fun _ h4 => ?_) (fun _ h4 => ?_))))
  ·refine Tri.skip (Fin.keepS ⟨[(5, _), (6, _), (7, _)], []⟩ rfl (Fin.then (Tri.seq (Tri.block (Tri.seq (Tri.regionL ?_))))))
   obtain ⟨x_2, e6, h4⟩ := bnd h4
   refine Oc (op_index_e tySl178 (ix_lo e6) (ix_map (e := eBig) e6) rfl rfl) (Oc (op_load_e tyAgg35 rfl rfl rfl) (Oc (op_alloc (k := 101) tyZero35 rfl) (Oc (op_store_p tyAgg35 rfl rfl rfl rfl (Nat.le_of_ble_eq_true rfl) rfl) ?_)))
   refine OpsL.nilS ⟨[(4, Pt 101 0), (5, _), (6, _), (7, _)], [(101, .box 35 (eBig x_2))]⟩ rfl (Tri.seq (Tri.regionL ?_))
   refine Oc (op_field_p tyFld35_0 rfl rfl) (Oc (op_load_p1 tyOne4 rfl rfl rfl) (Oc om ?_))
   refine CgF (!x_2.Bad) [] (fun g7 => trivial) (fun g7 => lp tyAgg35) ?_
   obtain ⟨x_3, e9, h4⟩ := bnd h4
   refine CgF (!x_2.Bad) [14] (fun g8 => ⟨g8, trivial⟩) (fun g8 => op_call0 (w_Valid_spec (gc e9 g8)) goes130 rfl rfl) (CgF (!x_2.Bad) [15] (fun g10 => ⟨g10, trivial⟩) (fun g10 => op_not rfl) (Oc (op_pick_or (fun e => by first | (rw [e]; rfl) | (simp only at e; rw [e]; rfl)) rfl rfl rfl rfl) (OpsL.nilS ⟨[(5, _), (6, _), (7, _), (17, B (x_2.Bad || (!x_3)))], []⟩ rfl (Tri.ite h4 rfl (fun _ h4 => ?_) (fun _ h4 => ?_)))))
   ·refine Tri.seq (Tri.regionL ?_)
    refine Oc oa (OpsL.nilS ⟨[(2, B false)], []⟩ rfl (Tri.ret (Fin.block_ret (Fin.then_ret ?_))))
    obtain rfl := hy5 _ (Option.some.inj h4).symm
    refine Fin.then_ret (Fin.block_ret (Fin.then_ret ?_))
    obtain rfl := Option.some.inj h
    refine Fin.keepS ⟨[(2, _)], []⟩ rfl (Fin.result' [.one (.bool false)] (.inl rfl) rfl (.cons (.tmp rfl) .nil) ⟨rfl, rfl⟩)
   ·refine Tri.skip (Fin.block_normal (Fin.keepS ⟨[(5, _), (6, _), (7, _)], []⟩ rfl (Fin.then (Tri.regionL ?_))))
    refine Oc (op_add rfl rfl) (Oc om ?_)
    refine OpsL.nil ?_
    exact Fin.againJ [5, 6, 7] [] (IntKind.i64.wrap (x_1 + 1)) (Option.some.inj h4) rfl
  ·refine Tri.exit (Fin.then_exit ?_)
   obtain rfl := hy5 _ (Option.some.inj h4).symm
   refine Fin.then_exit (Fin.block_exit ?_)
   exact Fin.join [] [] () rfl rfl
 ·rintro _ hv
  subst v1
  refine Tri.seq (Tri.regionL ?_)
  refine Oc oa (OpsL.nilS ⟨[(2, B true)], []⟩ rfl (Tri.ret ?_))
  obtain rfl := Option.some.inj h
  refine Fin.keepS ⟨[(2, _)], []⟩ rfl (Fin.result' [.one (.bool true)] (.inl rfl) rfl (.cons (.tmp rfl) .nil) ⟨rfl, rfl⟩)
def w_size_S (F : Nat) (w0 : A16) : Option Int :=
 Option.bind (iter F (fun n_2 => (gcall (decide (0 < n_2)) (idx? w0.l (IntKind.i64.wrap (n_2 - 1)))).bind fun x_4 => if ((decide (0 < n_2)) && (decide (x_4 = 0))) = true then (some (.inl (IntKind.i64.wrap (n_2 - 1)))) else (some (.inr n_2))) 16) (fun n_1 => some n_1)
theorem w_size_spec {F : Nat} {w0 : A16} {r : Int} (h : w_size_S F w0 = some r) : Meets Tryz.prog (tabs mx) 104 [] [.agg (eW w0)] (Is [] (.b (.one (.i r)))) := by
 unfold w_size_S at h
 refine Meets.intro 16 Tryz.func104 Tryz.ntmps104 rfl (by simp) fun E => ?_
 show Tri _ E ⟨16, [], [], []⟩ _ ⟨[(0, .b (.agg (eW w0)))], []⟩ _
 refine Tri.seq (Tri.regionL ?_)
 refine Oc (op_box (k := 101) rfl rfl) (Oc oa ?_)
 refine OpsL.nilS ⟨[(1, Pt 101 0)], [(101, .box 33 (eW w0))]⟩ rfl (Tri.seq (Tri.regionL ?_))
 refine Oc oa (OpsL.nilS ⟨[(1, _), (3, I 16)], [(101, _)]⟩ rfl ?_)
 obtain ⟨v1, h2, h⟩ := bnd h
 refine Tri.seqJ (v := v1) (fun (n_1 : Int) => ⟨[(3, I n_1)], []⟩) (fun z => z) ?_ ?_
 ·refine Tri.block (Tri.loopJ h2 (fun (n_2 : Int) => ⟨[(1, Pt 101 0), (3, I n_2)], [(101, .box 33 (eW w0))]⟩) [1, 3] [101] rfl ?_)
  rintro n_2 o3 h4 hy5
  refine Tri.seq (Tri.seq (Tri.regionL ?_))
  refine Oc om (Oc (op_gtr rfl rfl) (Oc om ?_))
  refine CgT (decide (0 < n_2)) [] (fun g6 => trivial) (fun g6 => om) (CgT (decide (0 < n_2)) [7] (fun g7 => by exact ⟨g7, trivial⟩) (fun g7 => op_sub rfl rfl) ?_)
  obtain ⟨x_4, e9, h4⟩ := bnd h4
  refine CgT (decide (0 < n_2)) [8] (fun g8 => ⟨g8, trivial⟩) (fun g8 => op_index_p tyArr33 (ix_lo (gc e9 g8)) (ix_hi (gc e9 g8)) rfl rfl rfl) (CgT (decide (0 < n_2)) [9] (fun g10 => ⟨g10, trivial⟩) (fun g10 => op_load_p1 tyOne32 rfl rfl (arr_get (post := []) (k := .u32) [] (gc e9 g10) rfl rfl rfl)) (CgT (decide (0 < n_2)) [10] (fun g11 => ⟨g11, trivial⟩) (fun g11 => op_eql rfl rfl) (Oc (op_pick_and (fun e => e) rfl rfl rfl rfl) (OpsL.nilS ⟨[(1, _), (3, _), (12, B ((decide (0 < n_2)) && (decide (x_4 = 0))))], [(101, _)]⟩ rfl (Tri.ite h4 rfl (fun _ h4 => ?_) (fun _ h4 => ?_))))))
  ·refine Tri.skip (Fin.keepS ⟨[(1, _), (3, _)], [(101, _)]⟩ rfl (Fin.then (Tri.block (Tri.regionL ?_))))
   refine Oc om (Oc (op_sub rfl rfl) (Oc oa ?_))
   refine OpsL.nil (Fin.block_normal ?_)
   exact Fin.againJ [1, 3] [101] (IntKind.i64.wrap (n_2 - 1)) (Option.some.inj h4) rfl
  ·refine Tri.exit (Fin.then_exit ?_)
   obtain rfl := hy5 _ (Option.some.inj h4).symm
   refine Fin.then_exit (Fin.block_exit ?_)
   exact Fin.join [3] [] n_2 rfl rfl
 ·rintro n_1 hv
  subst v1
  refine Tri.seq (Tri.regionL ?_)
  refine Oc om (Oc oa ?_)
  refine OpsL.nilS ⟨[(2, I n_1)], []⟩ rfl (Tri.ret ?_)
  obtain rfl := Option.some.inj h
  refine Fin.keepS ⟨[(2, _)], []⟩ rfl (Fin.result' [.one (.i n_1)] (.inl rfl) rfl (.cons (.tmp rfl) .nil) ⟨rfl, rfl⟩)
def w_Mul_S (F : Nat) (a0 : Big) (b0 : Big) : Option Big :=
 (w_good_S F [a0, b0]).bind fun x_1 => if (!x_1) = true then ((w_Bad_S F).bind fun x_2 => some x_2) else ((w_size_S F a0.W).bind fun x_3 => (w_size_S F b0.W).bind fun x_4 => Option.bind (iter F (un2 fun out_6 x_7 => if (decide (x_7 < x_3)) = true then (Option.bind (Option.bind (iter F (un3 fun out_12 carry_13 x_14 => if (decide (x_14 < x_4)) = true then ((idx? a0.W.l x_7).bind fun x_17 => (idx? b0.W.l x_14).bind fun x_18 => (idx? out_12.l (IntKind.i64.wrap (x_7 + x_14))).bind fun x_19 => letN (IntKind.u64.wrap (carry_13 + (IntKind.u64.wrap ((IntKind.u64.wrap ((IntKind.u64.wrap x_17) * (IntKind.u64.wrap x_18))) + (IntKind.u64.wrap x_19))))) fun x_20 => (idx? out_12.l (IntKind.i64.wrap (x_7 + x_14))).bind fun x_21 => letN (IntKind.u64.wrap (carry_13 + (IntKind.u64.wrap ((IntKind.u64.wrap ((IntKind.u64.wrap x_17) * (IntKind.u64.wrap x_18))) + (IntKind.u64.wrap x_19))))) fun x_22 => some (.inl (out_12.set (IntKind.i64.wrap (x_7 + x_14)) (IntKind.u32.wrap x_20), x_22 / 4294967296, IntKind.i64.wrap (x_14 + 1)))) else (some (.inr (out_12, carry_13)))) (out_6, 0, 0)) (un2 fun out_10 carry_11 => (idx? out_10.l (IntKind.i64.wrap (x_7 + x_4))).bind fun x_23 => some (out_10.set (IntKind.i64.wrap (x_7 + x_4)) (IntKind.u32.wrap carry_11)))) (fun out_9 => some (.inl (out_9, IntKind.i64.wrap (x_7 + 1))))) else (some (.inr out_6))) (A32.zero, 0)) (fun out_5 => letN (⟨out_5.a16, out_5.a17, out_5.a18, out_5.a19, out_5.a20, out_5.a21, out_5.a22, out_5.a23, out_5.a24, out_5.a25, out_5.a26, out_5.a27, out_5.a28, out_5.a29, out_5.a30, out_5.a31⟩ : A16) fun x_24 => if (decide (x_24 ≠ A16.zero)) = true then ((w_Bad_S F).bind fun x_25 => some x_25) else ((w_signed_S F (a0.Neg != b0.Neg) (⟨out_5.a0, out_5.a1, out_5.a2, out_5.a3, out_5.a4, out_5.a5, out_5.a6, out_5.a7, out_5.a8, out_5.a9, out_5.a10, out_5.a11, out_5.a12, out_5.a13, out_5.a14, out_5.a15⟩ : A16)).bind fun x_26 => some x_26)))
theorem w_Mul_spec {F : Nat} {a0 : Big} {b0 : Big} {r : Big} (h : w_Mul_S F a0 b0 = some r) : Meets Tryz.prog (tabs mx) 50 [] [.agg (eBig a0), .agg (eBig b0)] (Is [] (.b (.agg (eBig r)))) := by
 unfold w_Mul_S at h
 refine Meets.intro 82 Tryz.func50 Tryz.ntmps50 rfl (by simp) fun E => ?_
 show Tri _ E ⟨82, [], [], []⟩ _ ⟨[(0, .b (.agg (eBig a0))), (1, .b (.agg (eBig b0)))], []⟩ _
 refine Tri.seq (Tri.regionL ?_)
 refine Oc (op_box (k := 101) rfl rfl) (Oc (op_box (k := 102) rfl rfl) (Oc (op_alloc (k := 103) tyZero35 rfl) ?_))
 refine OpsL.nilS ⟨[(2, Pt 101 0), (3, Pt 102 0), (4, Pt 103 0)], [(101, .box 35 (eBig a0)), (102, .box 35 (eBig b0)), (103, .box 35 zBig)]⟩ rfl (Tri.seq (Tri.seq (Tri.regionL ?_)))
 refine Oc (lp tyAgg35) (Oc (lp tyAgg35) (Oc (op_buildSlice (k := 104) (es := [a0, b0].map eBig) tySl178 rfl rfl (uni_map fun _ => rfl) rfl (by decide) (by decide) rfl) ?_))
 obtain ⟨x_1, e1, h⟩ := bnd h
 refine Oc (op_callB (w_good_spec e1) goes103 rfl CP.flat_bool) (Oc (op_not rfl) ?_)
 refine OpsL.nilS ⟨[(2, _), (3, _), (4, _), (15, B (!x_1))], [(101, _), (102, _), (103, _)]⟩ rfl (Tri.ite h rfl (fun _ h => ?_) (fun _ h => ?_))
 ·refine Tri.seq (Tri.regionL ?_)
  obtain ⟨x_2, e2, h⟩ := bnd h
  refine Oc (op_call0 (w_Bad_spec e2) goes68 rfl rfl) (Oc (op_store_p tyAgg35 rfl rfl rfl rfl (Nat.le_of_ble_eq_true rfl) rfl) ?_)
  refine OpsL.nilS ⟨[(4, _)], [(103, .box 35 (eBig x_2))]⟩ rfl (Tri.ret (Fin.then_ret ?_))
  obtain rfl := Option.some.inj h
  refine Fin.keepS ⟨[(4, _)], [(103, _)]⟩ rfl (Fin.result' [.agg (eBig x_2)] (.inl rfl) rfl (.cons (.agg tyAgg35 rfl rfl rfl rfl) .nil) ⟨rfl, rfl⟩)
 ·refine Tri.skip (Fin.keepS ⟨[(2, _), (3, _), (4, _)], [(101, _), (102, _), (103, _)]⟩ rfl (Fin.then (Tri.seq (Tri.regionL ?_))))
  refine Oc (op_alloc (k := 105) tyZero133 rfl) (OpsL.nilS ⟨[(2, _), (3, _), (4, _), (5, Pt 105 0)], [(101, _), (102, _), (103, _), (105, .box 133 ((eA32 .u32) A32.zero))]⟩ rfl (Tri.seq ?_))
  obtain ⟨x_3, e3, h⟩ := bnd h
  obtain ⟨x_4, e4, h⟩ := bnd h
  refine Tri.regionY mixed 8 [Pt 101 2, .b (.agg (eW a0.W)), I x_3, Pt 102 2, .b (.agg (eW b0.W)), I x_4, I x_3, I x_4] [2, 3, 4, 5, 6, 7] [101, 102, 103, 105] (s' := ⟨[(2, _), (3, _), (4, _), (5, _), (6, I x_3), (7, I x_4)], [(101, _), (102, _), (103, _), (105, _)]⟩) rfl ⟨fun _ => .p (op_field_p tyFld35_2 rfl rfl), fun _ => .p (lp tyAgg33), fun _ => .p (op_call0 (w_size_spec e3) goes104 rfl rfl), fun _ => .p (op_field_p tyFld35_2 rfl rfl), fun _ => .p (lp tyAgg33), fun _ => .p (op_call0 (w_size_spec e4) goes104 rfl rfl), fun _ => .p oa, fun _ => .p oa, trivial⟩ rfl rfl ?_
  obtain ⟨v5, h6, h⟩ := bnd h
  refine Tri.seqJ (v := v5) (fun (out_5 : A32) => ⟨[(2, Pt 101 0), (3, Pt 102 0), (4, Pt 103 0), (5, Pt 105 0)], [(101, .box 35 (eBig a0)), (102, .box 35 (eBig b0)), (103, .box 35 zBig), (105, .box 133 ((eA32 .u32) out_5))]⟩) (fun z => z) ?_ ?_
  ·refine Tri.seq (Tri.regionL ?_)
   refine Oc om (Oc om ?_)
   refine OpsL.nilS ⟨[(2, _), (3, _), (4, _), (5, _), (7, _), (23, I x_3), (24, I 0)], [(101, _), (102, _), (103, _), (105, _)]⟩ rfl (Tri.block (Tri.loopJ h6 (un2 fun (out_6 : A32) (x_7 : Int) => ⟨[(2, Pt 101 0), (3, Pt 102 0), (4, Pt 103 0), (5, Pt 105 0), (7, I x_4), (23, I x_3), (24, I x_7)], [(101, .box 35 (eBig a0)), (102, .box 35 (eBig b0)), (103, .box 35 zBig), (105, .box 133 ((eA32 .u32) out_6))]⟩) [2, 3, 4, 5, 7, 23, 24] [101, 102, 103, 105] rfl ?_))
   rintro ⟨out_6, x_7⟩ o7 h8 hy9
   refine Tri.seq (Tri.regionL ?_)
   refine Oc (op_lss rfl rfl) (OpsL.nilS ⟨[(2, _), (3, _), (4, _), (5, _), (7, _), (23, _), (24, _), (25, B (decide (x_7 < x_3)))], [(101, _), (102, _), (103, _), (105, _)]⟩ rfl (Tri.seq (Tri.ite h8 rfl (fun _ h8 => ?_) (fun _ h8 => ?_))))
   ·refine Tri.skip (Fin.keepS ⟨[(2, _), (3, _), (4, _), (5, _), (7, _), (23, _), (24, _)], [(101, _), (102, _), (103, _), (105, _)]⟩ rfl (Fin.then ?_))
    obtain ⟨v10, h11, h8⟩ := bnd h8
    refine Tri.seqJ (v := v10) (fun (out_9 : A32) => ⟨[(2, Pt 101 0), (3, Pt 102 0), (4, Pt 103 0), (5, Pt 105 0), (7, I x_4), (23, I x_3), (24, I x_7)], [(101, .box 35 (eBig a0)), (102, .box 35 (eBig b0)), (103, .box 35 zBig), (105, .box 133 ((eA32 .u32) out_9))]⟩) (fun z => z) ?_ ?_
    ·refine Tri.block (Tri.seq (Tri.regionL ?_))
     refine Oc om (Oc oa ?_)
     refine OpsL.nilS ⟨[(2, _), (3, _), (4, _), (5, _), (7, _), (8, I x_7), (23, _), (24, _)], [(101, _), (102, _), (103, _), (105, _)]⟩ rfl (Tri.seq (Tri.regionL ?_))
     refine Oc oa (OpsL.nilS ⟨[(2, _), (3, _), (4, _), (5, _), (7, _), (8, _), (9, .b (.one (.int .u64 0))), (23, _), (24, _)], [(101, _), (102, _), (103, _), (105, _)]⟩ rfl ?_)
     obtain ⟨v12, h13, h11⟩ := bnd h11
     refine Tri.seqJ (v := v12) (un2 fun (out_10 : A32) (carry_11 : Int) => ⟨[(2, Pt 101 0), (3, Pt 102 0), (4, Pt 103 0), (5, Pt 105 0), (7, I x_4), (8, I x_7), (9, .b (.one (.int .u64 carry_11))), (23, I x_3), (24, I x_7)], [(101, .box 35 (eBig a0)), (102, .box 35 (eBig b0)), (103, .box 35 zBig), (105, .box 133 ((eA32 .u32) out_10))]⟩) (fun z => z) ?_ ?_
     ·refine Tri.seq (Tri.regionL ?_)
      refine Oc om (Oc om ?_)
      refine OpsL.nilS ⟨[(2, _), (3, _), (4, _), (5, _), (7, _), (8, _), (9, _), (23, _), (24, _), (27, I x_4), (28, I 0)], [(101, _), (102, _), (103, _), (105, _)]⟩ rfl (Tri.block (Tri.loopJ h13 (un3 fun (out_12 : A32) (carry_13 : Int) (x_14 : Int) => ⟨[(2, Pt 101 0), (3, Pt 102 0), (4, Pt 103 0), (5, Pt 105 0), (7, I x_4), (8, I x_7), (9, .b (.one (.int .u64 carry_13))), (23, I x_3), (24, I x_7), (27, I x_4), (28, I x_14)], [(101, .box 35 (eBig a0)), (102, .box 35 (eBig b0)), (103, .box 35 zBig), (105, .box 133 ((eA32 .u32) out_12))]⟩) [2, 3, 4, 5, 7, 8, 9, 23, 24, 27, 28] [101, 102, 103, 105] rfl ?_))
      rintro ⟨out_12, carry_13, x_14⟩ o14 h15 hy16
      refine Tri.seq (Tri.regionL ?_)
      refine Oc (op_lss rfl rfl) (OpsL.nilS ⟨[(2, _), (3, _), (4, _), (5, _), (7, _), (8, _), (9, _), (23, _), (24, _), (27, _), (28, _), (29, B (decide (x_14 < x_4)))], [(101, _), (102, _), (103, _), (105, _)]⟩ rfl (Tri.seq (Tri.ite h15 rfl (fun _ h15 => ?_) (fun _ h15 => ?_))))
      ·refine Tri.skip (Fin.keepS ⟨[(2, _), (3, _), (4, _), (5, _), (7, _), (8, _), (9, _), (23, _), (24, _), (27, _), (28, _)], [(101, _), (102, _), (103, _), (105, _)]⟩ rfl (Fin.then (Tri.seq (Tri.block (Tri.seq (Tri.regionL ?_))))))
       refine Oc om (Oc oa ?_)
       refine OpsL.nilS ⟨[(2, _), (3, _), (4, _), (5, _), (7, _), (8, _), (9, _), (10, I x_14), (23, _), (24, _), (27, _), (28, _)], [(101, _), (102, _), (103, _), (105, _)]⟩ rfl (Tri.seq ?_)
       obtain ⟨x_17, e17, h15⟩ := bnd h15
       obtain ⟨x_18, e18, h15⟩ := bnd h15
       obtain ⟨x_19, e19, h15⟩ := bnd h15
       refine Tri.regionY mixed 20 [.b (.one (.int .u64 carry_13)), I x_7, Pt 101 2, .b (.ptr 101 (2 + (x_7 : Int).toNat * 1)), .b (.one (.int .u32 x_17)), .b (.one (.int .u64 (IntKind.u64.wrap x_17))), I x_14, Pt 102 2, .b (.ptr 102 (2 + (x_14 : Int).toNat * 1)), .b (.one (.int .u32 x_18)), .b (.one (.int .u64 (IntKind.u64.wrap x_18))), .b (.one (.int .u64 (IntKind.u64.wrap ((IntKind.u64.wrap x_17) * (IntKind.u64.wrap x_18))))), I x_7, I x_14, I (IntKind.i64.wrap (x_7 + x_14)), .b (.ptr 105 (0 + (IntKind.i64.wrap (x_7 + x_14) : Int).toNat * 1)), .b (.one (.int .u32 x_19)), .b (.one (.int .u64 (IntKind.u64.wrap x_19))), .b (.one (.int .u64 (IntKind.u64.wrap ((IntKind.u64.wrap ((IntKind.u64.wrap x_17) * (IntKind.u64.wrap x_18))) + (IntKind.u64.wrap x_19))))), .b (.one (.int .u64 (IntKind.u64.wrap (carry_13 + (IntKind.u64.wrap ((IntKind.u64.wrap ((IntKind.u64.wrap x_17) * (IntKind.u64.wrap x_18))) + (IntKind.u64.wrap x_19)))))))] [2, 3, 4, 5, 7, 8, 9, 10, 23, 24, 27, 28] [101, 102, 103, 105] (s' := ⟨[(2, _), (3, _), (4, _), (5, _), (7, _), (8, _), (9, .b (.one (.int .u64 (IntKind.u64.wrap (carry_13 + (IntKind.u64.wrap ((IntKind.u64.wrap ((IntKind.u64.wrap x_17) * (IntKind.u64.wrap x_18))) + (IntKind.u64.wrap x_19)))))))), (10, _), (23, _), (24, _), (27, _), (28, _)], [(101, _), (102, _), (103, _), (105, _)]⟩) rfl ⟨fun _ => .p om, fun _ => .p om, fun _ => .p (op_field_p tyFld35_2 rfl rfl), fun _ => .p (op_index_p tyArr33 (ix_lo e17) (ix_hi e17) rfl rfl rfl), fun _ => .p (op_load_p1 tyOne32 rfl rfl (arr_get (post := []) (k := .u32) [.bool a0.Bad, .bool a0.Neg] e17 rfl rfl rfl)), fun _ => .p (op_conv_wrap undi32 undi54 rfl), fun _ => .p om, fun _ => .p (op_field_p tyFld35_2 rfl rfl), fun _ => .p (op_index_p tyArr33 (ix_lo e18) (ix_hi e18) rfl rfl rfl), fun _ => .p (op_load_p1 tyOne32 rfl rfl (arr_get (post := []) (k := .u32) [.bool b0.Bad, .bool b0.Neg] e18 rfl rfl rfl)), fun _ => .p (op_conv_wrap undi32 undi54 rfl), fun _ => .p (op_mul rfl rfl), fun _ => .p om, fun _ => .p om, fun _ => .p (op_add rfl rfl), fun _ => .p (op_index_p tyArr133 (ix_lo e19) (ix_hi e19) rfl rfl rfl), fun _ => .p (op_load_p1 tyOne32 rfl rfl (arr_get (post := []) (k := .u32) [] e19 rfl rfl rfl)), fun _ => .p (op_conv_wrap undi32 undi54 rfl), fun _ => .p (op_add rfl rfl), fun _ => .p (op_add rfl rfl), trivial⟩ ⟨_, by exact .p oa, rfl⟩ rfl (Tri.seq (Tri.regionL ?_))
       refine Oc om (Oc om (Oc (op_add rfl rfl) ?_))
       refine OpsL.consI .u64 h15 rfl om (fun x_20 h15 => ?_)
       refine Oc (op_conv_wrap undi54 undi32 rfl) ?_
       obtain ⟨x_21, e20, h15⟩ := bnd h15
       refine Oc (op_index_p tyArr133 (ix_lo e20) (ix_hi e20) rfl rfl rfl) (Oc (op_store_p1 tyOne32 rfl rfl rfl (arr_lt (post := []) (k := .u32) [] e20 rfl rfl rfl) (arr_set (post := []) (k := .u32) [] e20 rfl rfl (A32.set_l out_12 (IntKind.i64.wrap (x_7 + x_14)) (IntKind.u32.wrap x_20)) rfl rfl)) ?_)
       refine OpsL.nilS ⟨[(2, _), (3, _), (4, _), (5, _), (7, _), (8, _), (9, _), (23, _), (24, _), (27, _), (28, _)], [(101, _), (102, _), (103, _), (105, .box 133 ((eA32 .u32) (out_12.set (IntKind.i64.wrap (x_7 + x_14)) (IntKind.u32.wrap x_20))))]⟩ rfl (Tri.regionL (OpsL.consI .u64 h15 rfl om (fun x_22 h15 => ?_)))
       refine Oc (op_shr2 (m := 32) (by decide) rfl rfl rfl) (Oc oa ?_)
       refine OpsL.nil (Fin.block_normal (Fin.keepS ⟨[(2, _), (3, _), (4, _), (5, _), (7, _), (8, _), (9, .b (.one (.int .u64 (x_22 / 4294967296)))), (23, _), (24, _), (27, _), (28, _)], [(101, _), (102, _), (103, _), (105, _)]⟩ rfl (Fin.then (Tri.regionL ?_))))
       refine Oc (op_add rfl rfl) (Oc om ?_)
       refine OpsL.nil ?_
       exact Fin.againJ [2, 3, 4, 5, 7, 8, 9, 23, 24, 27, 28] [101, 102, 103, 105] (out_12.set (IntKind.i64.wrap (x_7 + x_14)) (IntKind.u32.wrap x_20), x_22 / 4294967296, IntKind.i64.wrap (x_14 + 1)) (Option.some.inj h15) rfl
      ·refine Tri.exit (Fin.then_exit ?_)
       obtain rfl := hy16 _ (Option.some.inj h15).symm
       refine Fin.then_exit (Fin.block_exit ?_)
       exact Fin.join [2, 3, 4, 5, 7, 8, 9, 23, 24] [101, 102, 103, 105] (out_12, carry_13) rfl rfl
     ·rintro ⟨out_10, carry_11⟩ hv
      subst v12
      refine Tri.regionL (Oc om (Oc om (Oc (op_add rfl rfl) (Oc om (Oc (op_conv_wrap undi54 undi32 rfl) ?_)))))
      obtain ⟨x_23, e21, h11⟩ := bnd h11
      refine Oc (op_index_p tyArr133 (ix_lo e21) (ix_hi e21) rfl rfl rfl) (Oc (op_store_p1 tyOne32 rfl rfl rfl (arr_lt (post := []) (k := .u32) [] e21 rfl rfl rfl) (arr_set (post := []) (k := .u32) [] e21 rfl rfl (A32.set_l out_10 (IntKind.i64.wrap (x_7 + x_4)) (IntKind.u32.wrap carry_11)) rfl rfl)) ?_)
      refine OpsL.nil (Fin.block_normal ?_)
      exact Fin.join [2, 3, 4, 5, 7, 23, 24] [101, 102, 103, 105] (out_10.set (IntKind.i64.wrap (x_7 + x_4)) (IntKind.u32.wrap carry_11)) (Option.some.inj h11) rfl
    ·rintro out_9 hv
     subst v10
     refine Tri.regionL (Oc (op_add rfl rfl) (Oc om ?_))
     refine OpsL.nil ?_
     exact Fin.againJ [2, 3, 4, 5, 7, 23, 24] [101, 102, 103, 105] (out_9, IntKind.i64.wrap (x_7 + 1)) (Option.some.inj h8) rfl
   ·refine Tri.exit (Fin.then_exit ?_)
    obtain rfl := hy9 _ (Option.some.inj h8).symm
    refine Fin.then_exit (Fin.block_exit ?_)
    exact Fin.join [2, 3, 4, 5] [101, 102, 103, 105] out_6 rfl rfl
  ·rintro out_5 hv
   subst v5
   refine Tri.seq (Tri.seq (Tri.regionL ?_))
   refine Oc (op_slice_al (i := 16) tyArr133 (by decide) (by decide) rfl rfl) (Oc (op_toArr tyArr33 (by decide) rfl) ?_)
   refine OpsL.consA eW h rfl (lp tyAgg33) (fun x_24 h => ?_)
   refine Oc (op_buildA tyBuild33 rfl rfl) (Oc (op_neq_agg (eqAgg33 x_24 A16.zero) rfl rfl neg_dec) ?_)
   refine OpsL.nilS ⟨[(2, _), (3, _), (4, _), (5, _), (71, B (decide (x_24 ≠ A16.zero)))], [(101, _), (102, _), (103, _), (105, _)]⟩ rfl (Tri.ite h rfl (fun _ h => ?_) (fun _ h => ?_))
   ·refine Tri.seq (Tri.regionL ?_)
    obtain ⟨x_25, e22, h⟩ := bnd h
    refine Oc (op_call0 (w_Bad_spec e22) goes68 rfl rfl) (Oc (op_store_p tyAgg35 rfl rfl rfl rfl (Nat.le_of_ble_eq_true rfl) rfl) ?_)
    refine OpsL.nilS ⟨[(4, _)], [(103, .box 35 (eBig x_25))]⟩ rfl (Tri.ret (Fin.then_ret ?_))
    obtain rfl := Option.some.inj h
    refine Fin.keepS ⟨[(4, _)], [(103, _)]⟩ rfl (Fin.result' [.agg (eBig x_25)] (.inl rfl) rfl (.cons (.agg tyAgg35 rfl rfl rfl rfl) .nil) ⟨rfl, rfl⟩)
   ·refine Tri.skip (Fin.keepS ⟨[(2, _), (3, _), (4, _), (5, _)], [(101, _), (102, _), (103, _), (105, _)]⟩ rfl (Fin.then (Tri.seq ?_)))
    refine Tri.keepS ⟨[(2, _), (3, _), (4, _), (5, _)], [(101, _), (102, _), (103, _), (105, _)]⟩ rfl ?_
    obtain ⟨x_26, e23, h⟩ := bnd h
    refine Tri.regionY mixed 9 [Pt 101 1, B a0.Neg, Pt 102 1, B b0.Neg, B (a0.Neg != b0.Neg), .b (.psl 105 0 16 32), Pt 105 0, .b (.agg [.int .u32 out_5.a0, .int .u32 out_5.a1, .int .u32 out_5.a2, .int .u32 out_5.a3, .int .u32 out_5.a4, .int .u32 out_5.a5, .int .u32 out_5.a6, .int .u32 out_5.a7, .int .u32 out_5.a8, .int .u32 out_5.a9, .int .u32 out_5.a10, .int .u32 out_5.a11, .int .u32 out_5.a12, .int .u32 out_5.a13, .int .u32 out_5.a14, .int .u32 out_5.a15]), .b (.agg (eBig x_26))] [4] [103] (s' := ⟨[(4, _)], [(103, .box 35 (eBig x_26))]⟩) rfl ⟨fun _ => .p (op_field_p tyFld35_1 rfl rfl), fun _ => .p (op_load_p1 tyOne4 rfl rfl rfl), fun _ => .p (op_field_p tyFld35_1 rfl rfl), fun _ => .p (op_load_p1 tyOne4 rfl rfl rfl), fun _ => .p (op_neq_bool und4 rfl rfl), fun _ => .p (op_slice_ah (i := 16) tyArr133 (by decide) (by decide) rfl rfl), fun _ => .p (op_toArr tyArr33 (by decide) rfl), fun _ => .p (lp tyAgg33), fun _ => .p (op_call0 (w_signed_spec e23) goes69 rfl rfl), trivial⟩ ⟨_, by exact .p (op_store_p tyAgg35 rfl rfl rfl rfl (Nat.le_of_ble_eq_true rfl) rfl), rfl⟩ rfl (Tri.ret ?_)
    obtain rfl := Option.some.inj h
    refine Fin.keepS ⟨[(4, _)], [(103, _)]⟩ rfl (Fin.result' [.agg (eBig x_26)] (.inl rfl) rfl (.cons (.agg tyAgg35 rfl rfl rfl rfl) .nil) ⟨rfl, rfl⟩)
def w_plus_S (F : Nat) (a0 : A16) (b0 : A16) : Option (A16 × Bool) :=
 Option.bind (iter F (un3 fun out_3 carry_4 x_5 => if (decide (x_5 < 16)) = true then ((idx? a0.l x_5).bind fun x_8 => (idx? b0.l x_5).bind fun x_9 => letN (IntKind.u64.wrap (carry_4 + (IntKind.u64.wrap ((IntKind.u64.wrap x_8) + (IntKind.u64.wrap x_9))))) fun x_10 => (idx? out_3.l x_5).bind fun x_11 => letN (IntKind.u64.wrap (carry_4 + (IntKind.u64.wrap ((IntKind.u64.wrap x_8) + (IntKind.u64.wrap x_9))))) fun x_12 => some (.inl (out_3.set x_5 (IntKind.u32.wrap x_10), x_12 / 4294967296, IntKind.i64.wrap (x_5 + 1)))) else (some (.inr (out_3, carry_4)))) (A16.zero, 0, 0)) (un2 fun out_1 carry_2 => some (out_1, decide (carry_2 = 0)))
theorem w_plus_spec {F : Nat} {a0 : A16} {b0 : A16} {r : A16 × Bool} (h : w_plus_S F a0 b0 = some r) : Meets Tryz.prog (tabs mx) 108 [] [.agg (eW a0), .agg (eW b0)] (Is [] (.tup [.agg (eW r.1), .one (.bool r.2)])) := by
 unfold w_plus_S at h
 refine Meets.intro 33 Tryz.func108 Tryz.ntmps108 rfl (by simp) fun E => ?_
 show Tri _ E ⟨33, [], [], []⟩ _ ⟨[(0, .b (.agg (eW a0))), (1, .b (.agg (eW b0)))], []⟩ _
 refine Tri.seq (Tri.regionL ?_)
 refine Oc (op_box (k := 101) rfl rfl) (Oc (op_box (k := 102) rfl rfl) (Oc (op_alloc (k := 103) tyZero33 rfl) (Oc oa ?_)))
 refine OpsL.nilS ⟨[(2, Pt 101 0), (3, Pt 102 0), (4, Pt 103 0)], [(101, .box 33 (eW a0)), (102, .box 33 (eW b0)), (103, .box 33 (eW A16.zero))]⟩ rfl (Tri.seq (Tri.regionL ?_))
 refine Oc (op_alloc (k := 104) tyZero33 rfl) (OpsL.nilS ⟨[(2, _), (3, _), (4, _), (6, Pt 104 0)], [(101, _), (102, _), (103, _), (104, .box 33 (eW A16.zero))]⟩ rfl (Tri.seq (Tri.regionL ?_)))
 refine Oc oa (OpsL.nilS ⟨[(2, _), (3, _), (4, _), (6, _), (7, .b (.one (.int .u64 0)))], [(101, _), (102, _), (103, _), (104, _)]⟩ rfl ?_)
 obtain ⟨v1, h2, h⟩ := bnd h
 refine Tri.seqJ (v := v1) (un2 fun (out_1 : A16) (carry_2 : Int) => ⟨[(4, Pt 103 0), (6, Pt 104 0), (7, .b (.one (.int .u64 carry_2)))], [(103, .box 33 (eW A16.zero)), (104, .box 33 (eW out_1))]⟩) (fun z => z) ?_ ?_
 ·refine Tri.seq (Tri.regionL ?_)
  refine Oc om (OpsL.nilS ⟨[(2, _), (3, _), (4, _), (6, _), (7, _), (9, I 0)], [(101, _), (102, _), (103, _), (104, _)]⟩ rfl (Tri.block (Tri.loopJ h2 (un3 fun (out_3 : A16) (carry_4 : Int) (x_5 : Int) => ⟨[(2, Pt 101 0), (3, Pt 102 0), (4, Pt 103 0), (6, Pt 104 0), (7, .b (.one (.int .u64 carry_4))), (9, I x_5)], [(101, .box 33 (eW a0)), (102, .box 33 (eW b0)), (103, .box 33 (eW A16.zero)), (104, .box 33 (eW out_3))]⟩) [2, 3, 4, 6, 7, 9] [101, 102, 103, 104] rfl ?_)))
  rintro ⟨out_3, carry_4, x_5⟩ o3 h4 hy5
  refine Tri.seq (Tri.regionL ?_)
  refine Oc (op_lss rfl rfl) (OpsL.nilS ⟨[(2, _), (3, _), (4, _), (6, _), (7, _), (9, _), (10, B (decide (x_5 < 16)))], [(101, _), (102, _), (103, _), (104, _)]⟩ rfl (Tri.seq (Tri.ite h4 rfl (fun _ h4 => ?_) (fun _ h4 => ?_))))
  ·refine Tri.skip (Fin.keepS ⟨[(2, _), (3, _), (4, _), (6, _), (7, _), (9, _)], [(101, _), (102, _), (103, _), (104, _)]⟩ rfl (Fin.then (Tri.seq (Tri.block (Tri.seq (Tri.regionL ?_))))))
   refine Oc om (Oc oa ?_)
   refine OpsL.nilS ⟨[(2, _), (3, _), (4, _), (6, _), (7, _), (8, I x_5), (9, _)], [(101, _), (102, _), (103, _), (104, _)]⟩ rfl (Tri.seq ?_)
   obtain ⟨x_8, e6, h4⟩ := bnd h4
   obtain ⟨x_9, e7, h4⟩ := bnd h4
   refine Tri.regionY mixed 11 [.b (.one (.int .u64 carry_4)), I x_5, .b (.ptr 101 (0 + (x_5 : Int).toNat * 1)), .b (.one (.int .u32 x_8)), .b (.one (.int .u64 (IntKind.u64.wrap x_8))), I x_5, .b (.ptr 102 (0 + (x_5 : Int).toNat * 1)), .b (.one (.int .u32 x_9)), .b (.one (.int .u64 (IntKind.u64.wrap x_9))), .b (.one (.int .u64 (IntKind.u64.wrap ((IntKind.u64.wrap x_8) + (IntKind.u64.wrap x_9))))), .b (.one (.int .u64 (IntKind.u64.wrap (carry_4 + (IntKind.u64.wrap ((IntKind.u64.wrap x_8) + (IntKind.u64.wrap x_9)))))))] [2, 3, 4, 6, 7, 8, 9] [101, 102, 103, 104] (s' := ⟨[(2, _), (3, _), (4, _), (6, _), (7, .b (.one (.int .u64 (IntKind.u64.wrap (carry_4 + (IntKind.u64.wrap ((IntKind.u64.wrap x_8) + (IntKind.u64.wrap x_9)))))))), (8, _), (9, _)], [(101, _), (102, _), (103, _), (104, _)]⟩) rfl ⟨fun _ => .p om, fun _ => .p om, fun _ => .p (op_index_p tyArr33 (ix_lo e6) (ix_hi e6) rfl rfl rfl), fun _ => .p (op_load_p1 tyOne32 rfl rfl (arr_get (post := []) (k := .u32) [] e6 rfl rfl rfl)), fun _ => .p (op_conv_wrap undi32 undi54 rfl), fun _ => .p om, fun _ => .p (op_index_p tyArr33 (ix_lo e7) (ix_hi e7) rfl rfl rfl), fun _ => .p (op_load_p1 tyOne32 rfl rfl (arr_get (post := []) (k := .u32) [] e7 rfl rfl rfl)), fun _ => .p (op_conv_wrap undi32 undi54 rfl), fun _ => .p (op_add rfl rfl), fun _ => .p (op_add rfl rfl), trivial⟩ ⟨_, by exact .p oa, rfl⟩ rfl (Tri.seq (Tri.regionL ?_))
   refine Oc om (OpsL.consI .u64 h4 rfl om (fun x_10 h4 => ?_))
   refine Oc (op_conv_wrap undi54 undi32 rfl) ?_
   obtain ⟨x_11, e8, h4⟩ := bnd h4
   refine Oc (op_index_p tyArr33 (ix_lo e8) (ix_hi e8) rfl rfl rfl) (Oc (op_store_p1 tyOne32 rfl rfl rfl (arr_lt (post := []) (k := .u32) [] e8 rfl rfl rfl) (arr_set (post := []) (k := .u32) [] e8 rfl rfl (A16.set_l out_3 x_5 (IntKind.u32.wrap x_10)) rfl rfl)) ?_)
   refine OpsL.nilS ⟨[(2, _), (3, _), (4, _), (6, _), (7, _), (9, _)], [(101, _), (102, _), (103, _), (104, .box 33 (eW (out_3.set x_5 (IntKind.u32.wrap x_10))))]⟩ rfl (Tri.regionL (OpsL.consI .u64 h4 rfl om (fun x_12 h4 => ?_)))
   refine Oc (op_shr2 (m := 32) (by decide) rfl rfl rfl) (Oc oa ?_)
   refine OpsL.nil (Fin.block_normal (Fin.keepS ⟨[(2, _), (3, _), (4, _), (6, _), (7, .b (.one (.int .u64 (x_12 / 4294967296)))), (9, _)], [(101, _), (102, _), (103, _), (104, _)]⟩ rfl (Fin.then (Tri.regionL ?_))))
   refine Oc (op_add rfl rfl) (Oc om ?_)
   refine OpsL.nil ?_
   exact Fin.againJ [2, 3, 4, 6, 7, 9] [101, 102, 103, 104] (out_3.set x_5 (IntKind.u32.wrap x_10), x_12 / 4294967296, IntKind.i64.wrap (x_5 + 1)) (Option.some.inj h4) rfl
  ·refine Tri.exit (Fin.then_exit ?_)
   obtain rfl := hy5 _ (Option.some.inj h4).symm
   refine Fin.then_exit (Fin.block_exit ?_)
   exact Fin.join [4, 6, 7] [103, 104] (out_3, carry_4) rfl rfl
 ·rintro ⟨out_1, carry_2⟩ hv
  subst v1
  refine Tri.seq (Tri.regionL ?_)
  refine Oc (lp tyAgg33) (Oc om (Oc (op_eql rfl rfl) (Oc (op_store_p tyAgg33 rfl rfl rfl rfl (Nat.le_of_ble_eq_true rfl) rfl) (Oc oa ?_))))
  refine OpsL.nilS ⟨[(4, _), (5, B (decide (carry_2 = 0)))], [(103, .box 33 (eW out_1))]⟩ rfl (Tri.ret ?_)
  obtain rfl := Option.some.inj h
  refine Fin.keepS ⟨[(4, _), (5, _)], [(103, _)]⟩ rfl (Fin.result' [.agg (eW out_1), .one (.bool (decide (carry_2 = 0)))] (.inl rfl) rfl (.cons (.agg tyAgg33 rfl rfl rfl rfl) (.cons (.tmp rfl) .nil)) ⟨rfl, rfl⟩)
def cmp_isNaN170_S (F : Nat) (x0 : Int) : Option Bool :=
 some (decide (x0 ≠ x0))
theorem cmp_isNaN170_spec {F : Nat} {x0 : Int} {r : Bool} (h : cmp_isNaN170_S F x0 = some r) : Meets Tryz.prog (tabs mx) 170 [] [.one (.int .u32 x0)] (Is [] (.b (.one (.bool r)))) := by
 unfold cmp_isNaN170_S at h
 refine Meets.intro 6 Tryz.func170 Tryz.ntmps170 rfl (by simp) fun E => ?_
 show Tri _ E ⟨6, [], [], []⟩ _ ⟨[(0, .b (.one (.int .u32 x0)))], []⟩ _
 refine Tri.seq (Tri.regionL ?_)
 refine Oc oa (OpsL.nilS ⟨[(0, .b (.one (.int .u32 x0)))], []⟩ rfl (Tri.seq (Tri.regionL ?_)))
 refine Oc om (Oc om (Oc (op_neq rfl rfl) (Oc oa ?_)))
 refine OpsL.nilS ⟨[(2, B (decide (x0 ≠ x0)))], []⟩ rfl (Tri.ret ?_)
 obtain rfl := Option.some.inj h
 refine Fin.keepS ⟨[(2, _)], []⟩ rfl (Fin.result' [.one (.bool (decide (x0 ≠ x0)))] (.inl rfl) rfl (.cons (.tmp rfl) .nil) ⟨rfl, rfl⟩)
def cmp_Compare_S (F : Nat) (x0 : Int) (y0 : Int) : Option Int :=
 (cmp_isNaN170_S F x0).bind fun x_1 => (cmp_isNaN170_S F y0).bind fun x_2 => if x_1 = true then (if x_2 = true then (some 0) else (some (-1))) else (if x_2 = true then (some 1) else (if (decide (x0 < y0)) = true then (some (-1)) else (if (decide (y0 < x0)) = true then (some 1) else (some 0))))
theorem cmp_Compare_spec {F : Nat} {x0 : Int} {y0 : Int} {r : Int} (h : cmp_Compare_S F x0 y0 = some r) : Meets Tryz.prog (tabs mx) 148 [] [.one (.int .u32 x0), .one (.int .u32 y0)] (Is [] (.b (.one (.i r)))) := by
 unfold cmp_Compare_S at h
 refine Meets.intro 20 Tryz.func148 Tryz.ntmps148 rfl (by simp) fun E => ?_
 show Tri _ E ⟨20, [], [], []⟩ _ ⟨[(0, .b (.one (.int .u32 x0))), (1, .b (.one (.int .u32 y0)))], []⟩ _
 refine Tri.seq (Tri.regionL ?_)
 refine Oc oa (OpsL.nilS ⟨[(0, .b (.one (.int .u32 x0))), (1, .b (.one (.int .u32 y0)))], []⟩ rfl (Tri.seq (Tri.regionL ?_)))
 refine Oc om ?_
 obtain ⟨x_1, e1, h⟩ := bnd h
 refine Oc (op_call0 (cmp_isNaN170_spec e1) goes170 rfl rfl) (Oc oa ?_)
 refine OpsL.nilS ⟨[(0, _), (1, _), (5, B x_1)], []⟩ rfl (Tri.seq (Tri.regionL ?_))
 refine Oc om ?_
 obtain ⟨x_2, e2, h⟩ := bnd h
 refine Oc (op_call0 (cmp_isNaN170_spec e2) goes170 rfl rfl) (Oc oa ?_)
 refine OpsL.nilS ⟨[(0, _), (1, _), (5, _), (6, B x_2)], []⟩ rfl (Tri.seq (Tri.seq (Tri.regionL ?_)))
 refine Oc om (OpsL.nilS ⟨[(0, _), (1, _), (6, _), (11, B x_1)], []⟩ rfl (Tri.ite h rfl (fun _ h => ?_) (fun _ h => ?_)))
 ·refine Tri.seq (Tri.seq (Tri.regionL ?_))
  refine Oc om (OpsL.nilS ⟨[(12, B x_2)], []⟩ rfl (Tri.ite h rfl (fun _ h => ?_) (fun _ h => ?_)))
  ·refine Tri.seq (Tri.regionL ?_)
   refine Oc oa (OpsL.nilS ⟨[(4, I 0)], []⟩ rfl (Tri.ret (Fin.then_ret (Fin.then_ret ?_))))
   obtain rfl := Option.some.inj h
   refine Fin.keepS ⟨[(4, _)], []⟩ rfl (Fin.result' [.one (.i 0)] (.inl rfl) rfl (.cons (.tmp rfl) .nil) ⟨rfl, rfl⟩)
  ·refine Tri.skip (Fin.keepS ⟨[], []⟩ rfl (Fin.then (Tri.seq (Tri.regionL ?_))))
   refine Oc oa (OpsL.nilS ⟨[(4, I (-1))], []⟩ rfl (Tri.ret (Fin.then_ret ?_)))
   obtain rfl := Option.some.inj h
   refine Fin.keepS ⟨[(4, _)], []⟩ rfl (Fin.result' [.one (.i (-1))] (.inl rfl) rfl (.cons (.tmp rfl) .nil) ⟨rfl, rfl⟩)
 ·refine Tri.skip (Fin.keepS ⟨[(0, _), (1, _), (6, _)], []⟩ rfl (Fin.then (Tri.seq (Tri.seq (Tri.regionL ?_)))))
  refine Oc om (OpsL.nilS ⟨[(0, _), (1, _), (13, B x_2)], []⟩ rfl (Tri.ite h rfl (fun _ h => ?_) (fun _ h => ?_)))
  ·refine Tri.seq (Tri.regionL ?_)
   refine Oc oa (OpsL.nilS ⟨[(4, I 1)], []⟩ rfl (Tri.ret (Fin.then_ret ?_)))
   obtain rfl := Option.some.inj h
   refine Fin.keepS ⟨[(4, _)], []⟩ rfl (Fin.result' [.one (.i 1)] (.inl rfl) rfl (.cons (.tmp rfl) .nil) ⟨rfl, rfl⟩)
  ·refine Tri.skip (Fin.keepS ⟨[(0, _), (1, _)], []⟩ rfl (Fin.then (Tri.seq (Tri.seq (Tri.regionL ?_)))))
   refine Oc om (Oc om (Oc (op_lss rfl rfl) ?_))
   refine OpsL.nilS ⟨[(0, _), (1, _), (16, B (decide (x0 < y0)))], []⟩ rfl (Tri.ite h rfl (fun _ h => ?_) (fun _ h => ?_))
   ·refine Tri.seq (Tri.regionL ?_)
    refine Oc oa (OpsL.nilS ⟨[(4, I (-1))], []⟩ rfl (Tri.ret (Fin.then_ret ?_)))
    obtain rfl := Option.some.inj h
    refine Fin.keepS ⟨[(4, _)], []⟩ rfl (Fin.result' [.one (.i (-1))] (.inl rfl) rfl (.cons (.tmp rfl) .nil) ⟨rfl, rfl⟩)
   ·refine Tri.skip (Fin.keepS ⟨[(0, _), (1, _)], []⟩ rfl (Fin.then (Tri.seq (Tri.seq (Tri.regionL ?_)))))
    refine Oc om (Oc om (Oc (op_gtr rfl rfl) ?_))
    refine OpsL.nilS ⟨[(19, B (decide (y0 < x0)))], []⟩ rfl (Tri.ite h rfl (fun _ h => ?_) (fun _ h => ?_))
    ·refine Tri.seq (Tri.regionL ?_)
     refine Oc oa (OpsL.nilS ⟨[(4, I 1)], []⟩ rfl (Tri.ret (Fin.then_ret ?_)))
     obtain rfl := Option.some.inj h
     refine Fin.keepS ⟨[(4, _)], []⟩ rfl (Fin.result' [.one (.i 1)] (.inl rfl) rfl (.cons (.tmp rfl) .nil) ⟨rfl, rfl⟩)
    ·refine Tri.skip (Fin.keepS ⟨[], []⟩ rfl (Fin.then (Tri.seq (Tri.regionL ?_))))
     refine Oc oa (OpsL.nilS ⟨[(4, I 0)], []⟩ rfl (Tri.ret ?_))
     obtain rfl := Option.some.inj h
     refine Fin.keepS ⟨[(4, _)], []⟩ rfl (Fin.result' [.one (.i 0)] (.inl rfl) rfl (.cons (.tmp rfl) .nil) ⟨rfl, rfl⟩)
def w_order_S (F : Nat) (a0 : A16) (b0 : A16) : Option Int :=
 Option.bind (iter F (fun k_1 => if (decide (0 ≤ k_1)) = true then ((idx? a0.l k_1).bind fun x_2 => (idx? b0.l k_1).bind fun x_3 => if (decide (x_2 ≠ x_3)) = true then ((idx? a0.l k_1).bind fun x_4 => (idx? b0.l k_1).bind fun x_5 => (cmp_Compare_S F x_4 x_5).bind fun x_6 => some (.inr (.inr x_6))) else (some (.inl (IntKind.i64.wrap (k_1 - 1))))) else (some (.inr (.inl ())))) 15) (alt2 (fun _ => some 0) (fun y => some y))
theorem w_order_spec {F : Nat} {a0 : A16} {b0 : A16} {r : Int} (h : w_order_S F a0 b0 = some r) : Meets Tryz.prog (tabs mx) 109 [] [.agg (eW a0), .agg (eW b0)] (Is [] (.b (.one (.i r)))) := by
 unfold w_order_S at h
 refine Meets.intro 24 Tryz.func109 Tryz.ntmps109 rfl (by simp) fun E => ?_
 show Tri _ E ⟨24, [], [], []⟩ _ ⟨[(0, .b (.agg (eW a0))), (1, .b (.agg (eW b0)))], []⟩ _
 refine Tri.seq (Tri.regionL ?_)
 refine Oc (op_box (k := 101) rfl rfl) (Oc (op_box (k := 102) rfl rfl) (Oc oa ?_))
 refine OpsL.nilS ⟨[(2, Pt 101 0), (3, Pt 102 0)], [(101, .box 33 (eW a0)), (102, .box 33 (eW b0))]⟩ rfl ?_
 obtain ⟨v1, h2, h⟩ := bnd h
 refine Tri.seqJ (v := v1) (fun (_ : Unit) => ⟨[], []⟩) (fun z => .inl z) ?_ ?_
 ·refine Tri.seq (Tri.regionL ?_)
  refine Oc oa (OpsL.nilS ⟨[(2, _), (3, _), (5, I 15)], [(101, _), (102, _)]⟩ rfl (Tri.block (Tri.loopJ h2 (fun (k_1 : Int) => ⟨[(2, Pt 101 0), (3, Pt 102 0), (5, I k_1)], [(101, .box 33 (eW a0)), (102, .box 33 (eW b0))]⟩) [2, 3, 5] [101, 102] rfl ?_)))
  rintro k_1 o3 h4 hy5
  refine Tri.seq (Tri.seq (Tri.regionL ?_))
  refine Oc om (Oc (op_geq rfl rfl) ?_)
  refine OpsL.nilS ⟨[(2, _), (3, _), (5, _), (7, B (decide (0 ≤ k_1)))], [(101, _), (102, _)]⟩ rfl (Tri.ite h4 rfl (fun _ h4 => ?_) (fun _ h4 => ?_))
  ·refine Tri.skip (Fin.keepS ⟨[(2, _), (3, _), (5, _)], [(101, _), (102, _)]⟩ rfl (Fin.then (Tri.seq (Tri.block (Tri.seq ?_)))))
   refine Tri.keepS ⟨[(2, _), (3, _), (5, _)], [(101, _), (102, _)]⟩ rfl ?_
   obtain ⟨x_2, e6, h4⟩ := bnd h4
   obtain ⟨x_3, e7, h4⟩ := bnd h4
   refine Tri.regionY mixed 7 [I k_1, .b (.ptr 101 (0 + (k_1 : Int).toNat * 1)), .b (.one (.int .u32 x_2)), I k_1, .b (.ptr 102 (0 + (k_1 : Int).toNat * 1)), .b (.one (.int .u32 x_3)), B (decide (x_2 ≠ x_3))] [2, 3, 5, 16] [101, 102] (s' := ⟨[(2, _), (3, _), (5, _), (16, B (decide (x_2 ≠ x_3)))], [(101, _), (102, _)]⟩) rfl ⟨fun _ => .p om, fun _ => .p (op_index_p tyArr33 (ix_lo e6) (ix_hi e6) rfl rfl rfl), fun _ => .p (op_load_p1 tyOne32 rfl rfl (arr_get (post := []) (k := .u32) [] e6 rfl rfl rfl)), fun _ => .p om, fun _ => .p (op_index_p tyArr33 (ix_lo e7) (ix_hi e7) rfl rfl rfl), fun _ => .p (op_load_p1 tyOne32 rfl rfl (arr_get (post := []) (k := .u32) [] e7 rfl rfl rfl)), fun _ => .p (op_neq rfl rfl), trivial⟩ rfl rfl (Tri.ite h4 rfl (fun _ h4 => ?_) (fun _ h4 => ?_))
   ·refine Tri.seq (Tri.keepS ⟨[(2, _), (3, _), (5, _)], [(101, _), (102, _)]⟩ rfl ?_)
    obtain ⟨x_4, e8, h4⟩ := bnd h4
    obtain ⟨x_5, e9, h4⟩ := bnd h4
    obtain ⟨x_6, e10, h4⟩ := bnd h4
    refine Tri.regionY mixed 8 [I k_1, .b (.ptr 101 (0 + (k_1 : Int).toNat * 1)), .b (.one (.int .u32 x_4)), I k_1, .b (.ptr 102 (0 + (k_1 : Int).toNat * 1)), .b (.one (.int .u32 x_5)), I x_6, I x_6] [4] [] (s' := ⟨[(4, I x_6)], []⟩) rfl ⟨fun _ => .p om, fun _ => .p (op_index_p tyArr33 (ix_lo e8) (ix_hi e8) rfl rfl rfl), fun _ => .p (op_load_p1 tyOne32 rfl rfl (arr_get (post := []) (k := .u32) [] e8 rfl rfl rfl)), fun _ => .p om, fun _ => .p (op_index_p tyArr33 (ix_lo e9) (ix_hi e9) rfl rfl rfl), fun _ => .p (op_load_p1 tyOne32 rfl rfl (arr_get (post := []) (k := .u32) [] e9 rfl rfl rfl)), fun _ => .p (op_call0 (cmp_Compare_spec e10) goes148 rfl rfl), fun _ => .p oa, trivial⟩ rfl rfl (Tri.ret (Fin.block_ret (Fin.then_ret ?_)))
    obtain rfl := hy5 _ (Option.some.inj h4).symm
    refine Fin.then_ret (Fin.block_ret (Fin.then_ret ?_))
    obtain rfl := Option.some.inj h
    refine Fin.keepS ⟨[(4, _)], []⟩ rfl (Fin.result' [.one (.i x_6)] (.inl rfl) rfl (.cons (.tmp rfl) .nil) ⟨rfl, rfl⟩)
   ·refine Tri.skip (Fin.block_normal (Fin.keepS ⟨[(2, _), (3, _), (5, _)], [(101, _), (102, _)]⟩ rfl (Fin.then (Tri.regionL ?_))))
    refine Oc om (Oc (op_sub rfl rfl) (Oc oa ?_))
    refine OpsL.nil ?_
    exact Fin.againJ [2, 3, 5] [101, 102] (IntKind.i64.wrap (k_1 - 1)) (Option.some.inj h4) rfl
  ·refine Tri.exit (Fin.then_exit ?_)
   obtain rfl := hy5 _ (Option.some.inj h4).symm
   refine Fin.then_exit (Fin.block_exit ?_)
   exact Fin.join [] [] () rfl rfl
 ·rintro _ hv
  subst v1
  refine Tri.seq (Tri.regionL ?_)
  refine Oc oa (OpsL.nilS ⟨[(4, I 0)], []⟩ rfl (Tri.ret ?_))
  obtain rfl := Option.some.inj h
  refine Fin.keepS ⟨[(4, _)], []⟩ rfl (Fin.result' [.one (.i 0)] (.inl rfl) rfl (.cons (.tmp rfl) .nil) ⟨rfl, rfl⟩)
def w_minus_S (F : Nat) (a0 : A16) (b0 : A16) : Option A16 :=
 Option.bind (iter F (un3 fun out_2 borrow_3 x_4 => if (decide (x_4 < 16)) = true then ((idx? a0.l x_4).bind fun x_6 => (idx? b0.l x_4).bind fun x_7 => letN (IntKind.u64.wrap ((IntKind.u64.wrap ((IntKind.u64.wrap x_6) - (IntKind.u64.wrap x_7))) - borrow_3)) fun x_8 => (idx? out_2.l x_4).bind fun x_9 => letN (IntKind.u64.wrap ((IntKind.u64.wrap ((IntKind.u64.wrap x_6) - (IntKind.u64.wrap x_7))) - borrow_3)) fun x_10 => some (.inl (out_2.set x_4 (IntKind.u32.wrap x_8), x_10 / 9223372036854775808, IntKind.i64.wrap (x_4 + 1)))) else (some (.inr out_2))) (A16.zero, 0, 0)) (fun out_1 => some out_1)
theorem w_minus_spec {F : Nat} {a0 : A16} {b0 : A16} {r : A16} (h : w_minus_S F a0 b0 = some r) : Meets Tryz.prog (tabs mx) 110 [] [.agg (eW a0), .agg (eW b0)] (Is [] (.b (.agg (eW r)))) := by
 unfold w_minus_S at h
 refine Meets.intro 31 Tryz.func110 Tryz.ntmps110 rfl (by simp) fun E => ?_
 show Tri _ E ⟨31, [], [], []⟩ _ ⟨[(0, .b (.agg (eW a0))), (1, .b (.agg (eW b0)))], []⟩ _
 refine Tri.seq (Tri.regionL ?_)
 refine Oc (op_box (k := 101) rfl rfl) (Oc (op_box (k := 102) rfl rfl) (Oc (op_alloc (k := 103) tyZero33 rfl) ?_))
 refine OpsL.nilS ⟨[(2, Pt 101 0), (3, Pt 102 0), (4, Pt 103 0)], [(101, .box 33 (eW a0)), (102, .box 33 (eW b0)), (103, .box 33 (eW A16.zero))]⟩ rfl (Tri.seq (Tri.regionL ?_))
 refine Oc (op_alloc (k := 104) tyZero33 rfl) (OpsL.nilS ⟨[(2, _), (3, _), (4, _), (5, Pt 104 0)], [(101, _), (102, _), (103, _), (104, .box 33 (eW A16.zero))]⟩ rfl (Tri.seq (Tri.regionL ?_)))
 refine Oc oa (OpsL.nilS ⟨[(2, _), (3, _), (4, _), (5, _), (6, .b (.one (.int .u64 0)))], [(101, _), (102, _), (103, _), (104, _)]⟩ rfl ?_)
 obtain ⟨v1, h2, h⟩ := bnd h
 refine Tri.seqJ (v := v1) (fun (out_1 : A16) => ⟨[(4, Pt 103 0), (5, Pt 104 0)], [(103, .box 33 (eW A16.zero)), (104, .box 33 (eW out_1))]⟩) (fun z => z) ?_ ?_
 ·refine Tri.seq (Tri.regionL ?_)
  refine Oc om (OpsL.nilS ⟨[(2, _), (3, _), (4, _), (5, _), (6, _), (9, I 0)], [(101, _), (102, _), (103, _), (104, _)]⟩ rfl (Tri.block (Tri.loopJ h2 (un3 fun (out_2 : A16) (borrow_3 : Int) (x_4 : Int) => ⟨[(2, Pt 101 0), (3, Pt 102 0), (4, Pt 103 0), (5, Pt 104 0), (6, .b (.one (.int .u64 borrow_3))), (9, I x_4)], [(101, .box 33 (eW a0)), (102, .box 33 (eW b0)), (103, .box 33 (eW A16.zero)), (104, .box 33 (eW out_2))]⟩) [2, 3, 4, 5, 6, 9] [101, 102, 103, 104] rfl ?_)))
  rintro ⟨out_2, borrow_3, x_4⟩ o3 h4 hy5
  refine Tri.seq (Tri.regionL ?_)
  refine Oc (op_lss rfl rfl) (OpsL.nilS ⟨[(2, _), (3, _), (4, _), (5, _), (6, _), (9, _), (10, B (decide (x_4 < 16)))], [(101, _), (102, _), (103, _), (104, _)]⟩ rfl (Tri.seq (Tri.ite h4 rfl (fun _ h4 => ?_) (fun _ h4 => ?_))))
  ·refine Tri.skip (Fin.keepS ⟨[(2, _), (3, _), (4, _), (5, _), (6, _), (9, _)], [(101, _), (102, _), (103, _), (104, _)]⟩ rfl (Fin.then (Tri.seq (Tri.block (Tri.seq (Tri.regionL ?_))))))
   refine Oc om (Oc oa ?_)
   refine OpsL.nilS ⟨[(2, _), (3, _), (4, _), (5, _), (6, _), (7, I x_4), (9, _)], [(101, _), (102, _), (103, _), (104, _)]⟩ rfl (Tri.seq ?_)
   obtain ⟨x_6, e6, h4⟩ := bnd h4
   obtain ⟨x_7, e7, h4⟩ := bnd h4
   refine Tri.regionY mixed 12 [I x_4, .b (.ptr 101 (0 + (x_4 : Int).toNat * 1)), .b (.one (.int .u32 x_6)), .b (.one (.int .u64 (IntKind.u64.wrap x_6))), I x_4, .b (.ptr 102 (0 + (x_4 : Int).toNat * 1)), .b (.one (.int .u32 x_7)), .b (.one (.int .u64 (IntKind.u64.wrap x_7))), .b (.one (.int .u64 (IntKind.u64.wrap ((IntKind.u64.wrap x_6) - (IntKind.u64.wrap x_7))))), .b (.one (.int .u64 borrow_3)), .b (.one (.int .u64 (IntKind.u64.wrap ((IntKind.u64.wrap ((IntKind.u64.wrap x_6) - (IntKind.u64.wrap x_7))) - borrow_3)))), .b (.one (.int .u64 (IntKind.u64.wrap ((IntKind.u64.wrap ((IntKind.u64.wrap x_6) - (IntKind.u64.wrap x_7))) - borrow_3))))] [2, 3, 4, 5, 7, 8, 9] [101, 102, 103, 104] (s' := ⟨[(2, _), (3, _), (4, _), (5, _), (7, _), (8, .b (.one (.int .u64 (IntKind.u64.wrap ((IntKind.u64.wrap ((IntKind.u64.wrap x_6) - (IntKind.u64.wrap x_7))) - borrow_3))))), (9, _)], [(101, _), (102, _), (103, _), (104, _)]⟩) rfl ⟨fun _ => .p om, fun _ => .p (op_index_p tyArr33 (ix_lo e6) (ix_hi e6) rfl rfl rfl), fun _ => .p (op_load_p1 tyOne32 rfl rfl (arr_get (post := []) (k := .u32) [] e6 rfl rfl rfl)), fun _ => .p (op_conv_wrap undi32 undi54 rfl), fun _ => .p om, fun _ => .p (op_index_p tyArr33 (ix_lo e7) (ix_hi e7) rfl rfl rfl), fun _ => .p (op_load_p1 tyOne32 rfl rfl (arr_get (post := []) (k := .u32) [] e7 rfl rfl rfl)), fun _ => .p (op_conv_wrap undi32 undi54 rfl), fun _ => .p (op_sub rfl rfl), fun _ => .p om, fun _ => .p (op_sub rfl rfl), fun _ => .p oa, trivial⟩ rfl rfl (Tri.seq (Tri.regionL ?_))
   refine Oc om (OpsL.consI .u64 h4 rfl om (fun x_8 h4 => ?_))
   refine Oc (op_conv_wrap undi54 undi32 rfl) ?_
   obtain ⟨x_9, e8, h4⟩ := bnd h4
   refine Oc (op_index_p tyArr33 (ix_lo e8) (ix_hi e8) rfl rfl rfl) (Oc (op_store_p1 tyOne32 rfl rfl rfl (arr_lt (post := []) (k := .u32) [] e8 rfl rfl rfl) (arr_set (post := []) (k := .u32) [] e8 rfl rfl (A16.set_l out_2 x_4 (IntKind.u32.wrap x_8)) rfl rfl)) ?_)
   refine OpsL.nilS ⟨[(2, _), (3, _), (4, _), (5, _), (8, _), (9, _)], [(101, _), (102, _), (103, _), (104, .box 33 (eW (out_2.set x_4 (IntKind.u32.wrap x_8))))]⟩ rfl (Tri.regionL (OpsL.consI .u64 h4 rfl om (fun x_10 h4 => ?_)))
   refine Oc (op_shr2 (m := 63) (by decide) rfl rfl rfl) (Oc oa ?_)
   refine OpsL.nil (Fin.block_normal (Fin.keepS ⟨[(2, _), (3, _), (4, _), (5, _), (6, .b (.one (.int .u64 (x_10 / 9223372036854775808)))), (9, _)], [(101, _), (102, _), (103, _), (104, _)]⟩ rfl (Fin.then (Tri.regionL ?_))))
   refine Oc (op_add rfl rfl) (Oc om ?_)
   refine OpsL.nil ?_
   exact Fin.againJ [2, 3, 4, 5, 6, 9] [101, 102, 103, 104] (out_2.set x_4 (IntKind.u32.wrap x_8), x_10 / 9223372036854775808, IntKind.i64.wrap (x_4 + 1)) (Option.some.inj h4) rfl
  ·refine Tri.exit (Fin.then_exit ?_)
   obtain rfl := hy5 _ (Option.some.inj h4).symm
   refine Fin.then_exit (Fin.block_exit ?_)
   exact Fin.join [4, 5] [103, 104] out_2 rfl rfl
 ·rintro out_1 hv
  subst v1
  refine Tri.seq (Tri.regionL ?_)
  refine Oc (lp tyAgg33) (Oc (op_store_p tyAgg33 rfl rfl rfl rfl (Nat.le_of_ble_eq_true rfl) rfl) ?_)
  refine OpsL.nilS ⟨[(4, _)], [(103, .box 33 (eW out_1))]⟩ rfl (Tri.ret ?_)
  obtain rfl := Option.some.inj h
  refine Fin.keepS ⟨[(4, _)], [(103, _)]⟩ rfl (Fin.result' [.agg (eW out_1)] (.inl rfl) rfl (.cons (.agg tyAgg33 rfl rfl rfl rfl) .nil) ⟨rfl, rfl⟩)
def w_Add_S (F : Nat) (a0 : Big) (b0 : Big) : Option Big :=
 (w_good_S F [a0, b0]).bind fun x_1 => if (!x_1) = true then ((w_Bad_S F).bind fun x_2 => some x_2) else (if (a0.Neg == b0.Neg) = true then (Option.bind (w_plus_S F a0.W b0.W) (un2 fun x_3 x_4 => if (!x_4) = true then ((w_Bad_S F).bind fun x_5 => some x_5) else ((w_signed_S F a0.Neg x_3).bind fun x_6 => some x_6))) else ((w_order_S F a0.W b0.W).bind fun x_7 => if (decide (0 ≤ x_7)) = true then ((w_minus_S F a0.W b0.W).bind fun x_8 => (w_signed_S F a0.Neg x_8).bind fun x_9 => some x_9) else ((w_minus_S F b0.W a0.W).bind fun x_10 => (w_signed_S F b0.Neg x_10).bind fun x_11 => some x_11)))
theorem w_Add_spec {F : Nat} {a0 : Big} {b0 : Big} {r : Big} (h : w_Add_S F a0 b0 = some r) : Meets Tryz.prog (tabs mx) 53 [] [.agg (eBig a0), .agg (eBig b0)] (Is [] (.b (.agg (eBig r)))) := by
 unfold w_Add_S at h
 refine Meets.intro 55 Tryz.func53 Tryz.ntmps53 rfl (by simp) fun E => ?_
 show Tri _ E ⟨55, [], [], []⟩ _ ⟨[(0, .b (.agg (eBig a0))), (1, .b (.agg (eBig b0)))], []⟩ _
 refine Tri.seq (Tri.regionL ?_)
 refine Oc (op_box (k := 101) rfl rfl) (Oc (op_box (k := 102) rfl rfl) (Oc (op_alloc (k := 103) tyZero35 rfl) ?_))
 refine OpsL.nilS ⟨[(2, Pt 101 0), (3, Pt 102 0), (4, Pt 103 0)], [(101, .box 35 (eBig a0)), (102, .box 35 (eBig b0)), (103, .box 35 zBig)]⟩ rfl (Tri.seq (Tri.seq (Tri.regionL ?_)))
 refine Oc (lp tyAgg35) (Oc (lp tyAgg35) (Oc (op_buildSlice (k := 104) (es := [a0, b0].map eBig) tySl178 rfl rfl (uni_map fun _ => rfl) rfl (by decide) (by decide) rfl) ?_))
 obtain ⟨x_1, e1, h⟩ := bnd h
 refine Oc (op_callB (w_good_spec e1) goes103 rfl CP.flat_bool) (Oc (op_not rfl) ?_)
 refine OpsL.nilS ⟨[(2, _), (3, _), (4, _), (11, B (!x_1))], [(101, _), (102, _), (103, _)]⟩ rfl (Tri.ite h rfl (fun _ h => ?_) (fun _ h => ?_))
 ·refine Tri.seq (Tri.regionL ?_)
  obtain ⟨x_2, e2, h⟩ := bnd h
  refine Oc (op_call0 (w_Bad_spec e2) goes68 rfl rfl) (Oc (op_store_p tyAgg35 rfl rfl rfl rfl (Nat.le_of_ble_eq_true rfl) rfl) ?_)
  refine OpsL.nilS ⟨[(4, _)], [(103, .box 35 (eBig x_2))]⟩ rfl (Tri.ret (Fin.then_ret ?_))
  obtain rfl := Option.some.inj h
  refine Fin.keepS ⟨[(4, _)], [(103, _)]⟩ rfl (Fin.result' [.agg (eBig x_2)] (.inl rfl) rfl (.cons (.agg tyAgg35 rfl rfl rfl rfl) .nil) ⟨rfl, rfl⟩)
 ·refine Tri.skip (Fin.keepS ⟨[(2, _), (3, _), (4, _)], [(101, _), (102, _), (103, _)]⟩ rfl (Fin.then (Tri.seq (Tri.seq (Tri.regionL ?_)))))
  refine Oc (op_field_p tyFld35_1 rfl rfl) (Oc (op_load_p1 tyOne4 rfl rfl rfl) (Oc (op_field_p tyFld35_1 rfl rfl) (Oc (op_load_p1 tyOne4 rfl rfl rfl) (Oc (op_eql_bool und4 rfl rfl) ?_))))
  refine OpsL.nilS ⟨[(2, _), (3, _), (4, _), (17, B (a0.Neg == b0.Neg))], [(101, _), (102, _), (103, _)]⟩ rfl (Tri.ite h rfl (fun _ h => ?_) (fun _ h => ?_))
  ·refine Tri.seq (Tri.regionL ?_)
   refine Oc (op_field_p tyFld35_2 rfl rfl) (Oc (lp tyAgg33) (Oc (op_field_p tyFld35_2 rfl rfl) (Oc (lp tyAgg33) ?_)))
   obtain ⟨⟨x_3, x_4⟩, e3, h⟩ := bnd h
   refine Oc (op_call0 (w_plus_spec e3) goes108 rfl rfl) (OpsL.keepS ⟨[(2, _), (4, _), (23, .tup [.agg (eW x_3), .one (.bool x_4)])], [(101, _), (103, _)]⟩ rfl (Oc om (Oc (op_extract rfl rfl) (Oc (op_extract rfl rfl) (Oc (op_alloc (k := 105) tyZero33 rfl) (Oc (op_store_p tyAgg33 rfl rfl rfl rfl (Nat.le_of_ble_eq_true rfl) rfl) (Oc oa ?_)))))))
   refine OpsL.nilS ⟨[(2, _), (4, _), (5, Pt 105 0), (6, B x_4)], [(101, _), (103, _), (105, .box 33 (eW x_3))]⟩ rfl (Tri.seq (Tri.seq (Tri.regionL ?_)))
   refine Oc om (Oc (op_not rfl) ?_)
   refine OpsL.nilS ⟨[(2, _), (4, _), (5, _), (27, B (!x_4))], [(101, _), (103, _), (105, _)]⟩ rfl (Tri.ite h rfl (fun _ h => ?_) (fun _ h => ?_))
   ·refine Tri.seq (Tri.regionL ?_)
    obtain ⟨x_5, e4, h⟩ := bnd h
    refine Oc (op_call0 (w_Bad_spec e4) goes68 rfl rfl) (Oc (op_store_p tyAgg35 rfl rfl rfl rfl (Nat.le_of_ble_eq_true rfl) rfl) ?_)
    refine OpsL.nilS ⟨[(4, _)], [(103, .box 35 (eBig x_5))]⟩ rfl (Tri.ret (Fin.then_ret (Fin.then_ret ?_)))
    obtain rfl := Option.some.inj h
    refine Fin.keepS ⟨[(4, _)], [(103, _)]⟩ rfl (Fin.result' [.agg (eBig x_5)] (.inl rfl) rfl (.cons (.agg tyAgg35 rfl rfl rfl rfl) .nil) ⟨rfl, rfl⟩)
   ·refine Tri.skip (Fin.keepS ⟨[(2, _), (4, _), (5, _)], [(101, _), (103, _), (105, _)]⟩ rfl (Fin.then (Tri.seq (Tri.regionL ?_))))
    refine Oc (op_field_p tyFld35_1 rfl rfl) (Oc (op_load_p1 tyOne4 rfl rfl rfl) (Oc (lp tyAgg33) ?_))
    obtain ⟨x_6, e5, h⟩ := bnd h
    refine Oc (op_call0 (w_signed_spec e5) goes69 rfl rfl) (Oc (op_store_p tyAgg35 rfl rfl rfl rfl (Nat.le_of_ble_eq_true rfl) rfl) ?_)
    refine OpsL.nilS ⟨[(4, _)], [(103, .box 35 (eBig x_6))]⟩ rfl (Tri.ret (Fin.then_ret ?_))
    obtain rfl := Option.some.inj h
    refine Fin.keepS ⟨[(4, _)], [(103, _)]⟩ rfl (Fin.result' [.agg (eBig x_6)] (.inl rfl) rfl (.cons (.agg tyAgg35 rfl rfl rfl rfl) .nil) ⟨rfl, rfl⟩)
  ·refine Tri.skip (Fin.keepS ⟨[(2, _), (3, _), (4, _)], [(101, _), (102, _), (103, _)]⟩ rfl (Fin.then (Tri.seq (Tri.seq (Tri.regionL ?_)))))
   refine Oc (op_field_p tyFld35_2 rfl rfl) (Oc (lp tyAgg33) (Oc (op_field_p tyFld35_2 rfl rfl) (Oc (lp tyAgg33) ?_)))
   obtain ⟨x_7, e6, h⟩ := bnd h
   refine Oc (op_call0 (w_order_spec e6) goes109 rfl rfl) (Oc (op_geq rfl rfl) ?_)
   refine OpsL.nilS ⟨[(2, _), (3, _), (4, _), (38, B (decide (0 ≤ x_7)))], [(101, _), (102, _), (103, _)]⟩ rfl (Tri.ite h rfl (fun _ h => ?_) (fun _ h => ?_))
   ·refine Tri.seq (Tri.keepS ⟨[(2, _), (3, _), (4, _)], [(101, _), (102, _), (103, _)]⟩ rfl ?_)
    obtain ⟨x_8, e7, h⟩ := bnd h
    obtain ⟨x_9, e8, h⟩ := bnd h
    refine Tri.regionY mixed 8 [Pt 101 1, B a0.Neg, Pt 101 2, .b (.agg (eW a0.W)), Pt 102 2, .b (.agg (eW b0.W)), .b (.agg (eW x_8)), .b (.agg (eBig x_9))] [4] [103] (s' := ⟨[(4, _)], [(103, .box 35 (eBig x_9))]⟩) rfl ⟨fun _ => .p (op_field_p tyFld35_1 rfl rfl), fun _ => .p (op_load_p1 tyOne4 rfl rfl rfl), fun _ => .p (op_field_p tyFld35_2 rfl rfl), fun _ => .p (lp tyAgg33), fun _ => .p (op_field_p tyFld35_2 rfl rfl), fun _ => .p (lp tyAgg33), fun _ => .p (op_call0 (w_minus_spec e7) goes110 rfl rfl), fun _ => .p (op_call0 (w_signed_spec e8) goes69 rfl rfl), trivial⟩ ⟨_, by exact .p (op_store_p tyAgg35 rfl rfl rfl rfl (Nat.le_of_ble_eq_true rfl) rfl), rfl⟩ rfl (Tri.ret (Fin.then_ret ?_))
    obtain rfl := Option.some.inj h
    refine Fin.keepS ⟨[(4, _)], [(103, _)]⟩ rfl (Fin.result' [.agg (eBig x_9)] (.inl rfl) rfl (.cons (.agg tyAgg35 rfl rfl rfl rfl) .nil) ⟨rfl, rfl⟩)
   ·refine Tri.skip (Fin.keepS ⟨[(2, _), (3, _), (4, _)], [(101, _), (102, _), (103, _)]⟩ rfl (Fin.then (Tri.seq ?_)))
    refine Tri.keepS ⟨[(2, _), (3, _), (4, _)], [(101, _), (102, _), (103, _)]⟩ rfl ?_
    obtain ⟨x_10, e9, h⟩ := bnd h
    obtain ⟨x_11, e10, h⟩ := bnd h
    refine Tri.regionY mixed 8 [Pt 102 1, B b0.Neg, Pt 102 2, .b (.agg (eW b0.W)), Pt 101 2, .b (.agg (eW a0.W)), .b (.agg (eW x_10)), .b (.agg (eBig x_11))] [4] [103] (s' := ⟨[(4, _)], [(103, .box 35 (eBig x_11))]⟩) rfl ⟨fun _ => .p (op_field_p tyFld35_1 rfl rfl), fun _ => .p (op_load_p1 tyOne4 rfl rfl rfl), fun _ => .p (op_field_p tyFld35_2 rfl rfl), fun _ => .p (lp tyAgg33), fun _ => .p (op_field_p tyFld35_2 rfl rfl), fun _ => .p (lp tyAgg33), fun _ => .p (op_call0 (w_minus_spec e9) goes110 rfl rfl), fun _ => .p (op_call0 (w_signed_spec e10) goes69 rfl rfl), trivial⟩ ⟨_, by exact .p (op_store_p tyAgg35 rfl rfl rfl rfl (Nat.le_of_ble_eq_true rfl) rfl), rfl⟩ rfl (Tri.ret ?_)
    obtain rfl := Option.some.inj h
    refine Fin.keepS ⟨[(4, _)], [(103, _)]⟩ rfl (Fin.result' [.agg (eBig x_11)] (.inl rfl) rfl (.cons (.agg tyAgg35 rfl rfl rfl rfl) .nil) ⟨rfl, rfl⟩)
def w_Parse_S (F : Nat) (s0 : Str) : Option (Big × Int) :=
 Option.bind ((gcall (decide (0 < (s0.length : Int))) (idx? s0 0)).bind fun x_2 => letN ((decide (0 < (s0.length : Int))) && (decide ((x_2.toNat : Int) = 45))) fun x_3 => if x_3 = true then ((drop? s0 1).bind fun x_4 => some x_4) else (some s0)) (fun digits_1 => (gcall (!(decide (digits_1 = []))) (idx? digits_1 0)).bind fun x_5 => letN ((decide (digits_1 = [])) || ((decide ((x_5.toNat : Int) = 48)) && (decide (s0 ≠ [48])))) fun x_6 => if x_6 = true then ((w_Bad_S F).bind fun x_7 => some (x_7, 281)) else (Option.bind (iter F (fun x_8 => if (decide (x_8 < ((ofStr digits_1).length : Int))) = true then ((idx? (ofStr digits_1) x_8).bind fun x_9 => if ((decide (x_9 < 48)) || (decide (57 < x_9))) = true then ((w_Bad_S F).bind fun x_10 => some (.inr (.inr (x_10, 281)))) else (some (.inl (IntKind.i64.wrap (x_8 + 1))))) else (some (.inr (.inl ())))) 0) (alt2 (fun _ => if (decide (512 < (digits_1.length : Int))) = true then ((w_Bad_S F).bind fun x_11 => some (x_11, 30)) else ((w_Of_S F 0).bind fun x_12 => (w_Of_S F 10).bind fun x_13 => Option.bind (iter F (un2 fun x_15 x_16 => if (decide (x_16 < ((ofStr digits_1).length : Int))) = true then ((idx? (ofStr digits_1) x_16).bind fun x_18 => (w_Mul_S F x_15 x_13).bind fun x_19 => letN (IntKind.i64.wrap (IntKind.u8.wrap (x_18 - 48))) fun x_20 => (w_Of_S F x_20).bind fun x_21 => (w_Add_S F x_19 x_21).bind fun x_22 => some (.inl (x_22, IntKind.i64.wrap (x_16 + 1)))) else (some (.inr x_15))) (x_12, 0)) (fun x_14 => if x_14.Bad = true then (some (x_14, 30)) else ((w_signed_S F (decide (digits_1 ≠ s0)) x_14.W).bind fun x_23 => some (x_23, 0))))) (fun y => some y))))
theorem w_Parse_spec {F : Nat} {s0 : Str} {r : Big × Int} (h : w_Parse_S F s0 = some r) : Meets Tryz.prog (tabs mx) 33 [] [.one (.str s0)] (Is [] (.tup [.agg (eBig r.1), .one (.i r.2)])) := by
 unfold w_Parse_S at h
 refine Meets.intro 80 Tryz.func33 Tryz.ntmps33 rfl (by simp) fun E => ?_
 show Tri _ E ⟨80, [], [], []⟩ _ ⟨[(0, .b (.one (.str s0)))], []⟩ _
 refine Tri.seq (Tri.regionL ?_)
 refine Oc (op_alloc (k := 101) tyZero35 rfl) (Oc oa ?_)
 refine OpsL.nilS ⟨[(0, .b (.one (.str s0))), (2, Pt 101 0)], [(101, .box 35 zBig)]⟩ rfl (Tri.seq (Tri.regionL ?_))
 refine Oc om (Oc oa ?_)
 refine OpsL.nilS ⟨[(0, _), (2, _), (4, .b (.one (.str s0)))], [(101, _)]⟩ rfl ?_
 obtain ⟨v1, h2, h⟩ := bnd h
 refine Tri.seqJ (v := v1) (fun (digits_1 : Str) => ⟨[(0, .b (.one (.str s0))), (2, Pt 101 0), (4, .b (.one (.str digits_1)))], [(101, .box 35 zBig)]⟩) (fun z => z) ?_ ?_
 ·refine Tri.seq (Tri.regionL ?_)
  refine Oc om (Oc (op_len_str und9 rfl) (Oc (op_gtr rfl rfl) (Oc om ?_)))
  refine CgT (decide (0 < (s0.length : Int))) [] (fun g3 => trivial) (fun g3 => om) ?_
  obtain ⟨x_2, e5, h2⟩ := bnd h2
  refine CgT (decide (0 < (s0.length : Int))) [16] (fun g4 => ⟨g4, trivial⟩) (fun g4 => op_index_str und9 rfl rfl (ix_lo (gc e5 g4)) (ix_get (gc e5 g4))) (CgT (decide (0 < (s0.length : Int))) [17] (fun g6 => ⟨g6, trivial⟩) (fun g6 => op_eql rfl rfl) (OpsL.consB h2 rfl (op_pick_and (fun e => e) rfl rfl rfl rfl) (fun x_3 h2 => ?_)))
  refine OpsL.nilS ⟨[(0, _), (2, _), (4, _), (19, B x_3)], [(101, _)]⟩ rfl (Tri.ite h2 rfl (fun _ h2 => ?_) (fun _ h2 => ?_))
  ·refine Tri.regionL (Oc om ?_)
   obtain ⟨x_4, e7, h2⟩ := bnd h2
   refine Oc (op_slice_str_l und9 e7 rfl rfl) (Oc oa ?_)
   refine OpsL.nil ?_
   exact Fin.join [0, 2, 4] [101] x_4 (Option.some.inj h2) rfl
  ·refine Tri.skip ?_
   exact Fin.join [0, 2, 4] [101] s0 (Option.some.inj h2) rfl
 ·rintro digits_1 hv
  subst v1
  refine Tri.seq (Tri.seq (Tri.regionL ?_))
  refine Oc om (Oc (op_eql_str rfl rfl) (Oc om ?_))
  refine CgF (!(decide (digits_1 = []))) [] (fun g8 => trivial) (fun g8 => om) ?_
  obtain ⟨x_5, e10, h⟩ := bnd h
  refine CgF (!(decide (digits_1 = []))) [25] (fun g9 => ⟨g9, trivial⟩) (fun g9 => op_index_str und9 rfl rfl (ix_lo (gc e10 g9)) (ix_get (gc e10 g9))) (CgF (!(decide (digits_1 = []))) [26] (fun g11 => ⟨g11, trivial⟩) (fun g11 => op_eql rfl rfl) (CgF (!(decide (digits_1 = []))) [27] (fun g12 => ⟨g12, trivial⟩) (fun g12 => om) (OpsL.keepS ⟨[(0, _), (2, _), (4, _), (24, B (decide (digits_1 = []))), (28, .opt (!(decide (digits_1 = []))) (.one (.bool (decide ((x_5.toNat : Int) = 48)))))], [(101, _)]⟩ rfl (OpsL.consG ((!(decide (digits_1 = []))) && (decide ((x_5.toNat : Int) = 48))) 99 [] (.under rfl) (and_t _ _) rfl rfl (fun g13 => by exact trivial) (fun g13 => om) (OpsL.consG ((!(decide (digits_1 = []))) && (decide ((x_5.toNat : Int) = 48))) 99 [29] (.under rfl) (and_t _ _) rfl rfl (fun g14 => by exact ⟨g14, trivial⟩) (fun g14 => op_neq_str rfl rfl) ?_)))))
  refine CgF (!(decide (digits_1 = []))) [28] (fun g15 => ⟨g15, trivial⟩) (fun g15 => op_pick_and (fun e => by rw [g15, e]; rfl) rfl rfl rfl rfl) (OpsL.consB h rfl (op_pick_or (fun e => by first | (rw [e]; rfl) | (simp only at e; rw [e]; rfl)) rfl rfl rfl rfl) (fun x_6 h => ?_))
  refine OpsL.nilS ⟨[(0, _), (2, _), (4, _), (32, B x_6)], [(101, _)]⟩ rfl (Tri.ite h rfl (fun _ h => ?_) (fun _ h => ?_))
  ·refine Tri.seq (Tri.regionL ?_)
   obtain ⟨x_7, e16, h⟩ := bnd h
   refine Oc (op_call0 (w_Bad_spec e16) goes68 rfl rfl) (Oc (op_store_p tyAgg35 rfl rfl rfl rfl (Nat.le_of_ble_eq_true rfl) rfl) (Oc oa ?_))
   refine OpsL.nilS ⟨[(2, _), (3, I 281)], [(101, .box 35 (eBig x_7))]⟩ rfl (Tri.ret (Fin.then_ret ?_))
   obtain rfl := Option.some.inj h
   refine Fin.keepS ⟨[(2, _), (3, _)], [(101, _)]⟩ rfl (Fin.result' [.agg (eBig x_7), .one (.i 281)] (.inl rfl) rfl (.cons (.agg tyAgg35 rfl rfl rfl rfl) (.cons (.tmp rfl) .nil)) ⟨rfl, rfl⟩)
  ·refine Tri.skip (Fin.keepS ⟨[(0, _), (2, _), (4, _)], [(101, _)]⟩ rfl (Fin.then ?_))
   obtain ⟨v17, h18, h⟩ := bnd h
   refine Tri.seqJ (v := v17) (fun (_ : Unit) => ⟨[(0, .b (.one (.str s0))), (2, Pt 101 0), (4, .b (.one (.str digits_1)))], [(101, .box 35 zBig)]⟩) (fun z => .inl z) ?_ ?_
   ·refine Tri.seq (Tri.regionL ?_)
    refine Oc om (Oc (op_conv_str und9 und50 undi5 rfl) (Oc (op_len_e' und50 rfl (List.length_map _)) (Oc om ?_)))
    refine OpsL.nilS ⟨[(0, _), (2, _), (4, _), (35, .b (.one (.sl 1 ((ofStr digits_1).map (eK .u8))))), (36, I ((ofStr digits_1).length : Int)), (37, I 0)], [(101, _)]⟩ rfl (Tri.block (Tri.loopJ h18 (fun (x_8 : Int) => ⟨[(0, .b (.one (.str s0))), (2, Pt 101 0), (4, .b (.one (.str digits_1))), (35, .b (.one (.sl 1 ((ofStr digits_1).map (eK .u8))))), (36, I ((ofStr digits_1).length : Int)), (37, I x_8)], [(101, .box 35 zBig)]⟩) [0, 2, 4, 35, 36, 37] [101] rfl ?_))
    rintro x_8 o19 h20 hy21
    refine Tri.seq (Tri.regionL ?_)
    refine Oc (op_lss rfl rfl) (OpsL.nilS ⟨[(0, _), (2, _), (4, _), (35, _), (36, _), (37, _), (38, B (decide (x_8 < ((ofStr digits_1).length : Int))))], [(101, _)]⟩ rfl (Tri.seq (Tri.ite h20 rfl (fun _ h20 => ?_) (fun _ h20 => ?_))))
    ·refine Tri.skip (Fin.keepS ⟨[(0, _), (2, _), (4, _), (35, _), (36, _), (37, _)], [(101, _)]⟩ rfl (Fin.then (Tri.seq (Tri.block (Tri.seq (Tri.regionL ?_))))))
     obtain ⟨x_9, e22, h20⟩ := bnd h20
     refine Oc (op_index_e tySl50 (ix_lo e22) (ix_map (e := (eK .u8)) e22) rfl rfl) (Oc (op_load_e1 tyOne5 rfl rfl) (Oc oa ?_))
     refine OpsL.nilS ⟨[(0, _), (2, _), (4, _), (6, .b (.one (.int .u8 x_9))), (35, _), (36, _), (37, _)], [(101, _)]⟩ rfl (Tri.seq (Tri.regionL ?_))
     refine Oc om (Oc (op_lss rfl rfl) (Oc om ?_))
     refine CgF (!(decide (x_9 < 48))) [] (fun g23 => trivial) (fun g23 => om) (CgF (!(decide (x_9 < 48))) [44] (fun g24 => by exact ⟨g24, trivial⟩) (fun g24 => op_gtr rfl rfl) (Oc (op_pick_or (fun e => by first | (rw [e]; rfl) | (simp only at e; rw [e]; rfl)) rfl rfl rfl rfl) (OpsL.nilS ⟨[(0, _), (2, _), (4, _), (35, _), (36, _), (37, _), (46, B ((decide (x_9 < 48)) || (decide (57 < x_9))))], [(101, _)]⟩ rfl (Tri.ite h20 rfl (fun _ h20 => ?_) (fun _ h20 => ?_)))))
     ·refine Tri.seq (Tri.regionL ?_)
      obtain ⟨x_10, e25, h20⟩ := bnd h20
      refine Oc (op_call0 (w_Bad_spec e25) goes68 rfl rfl) (Oc (op_store_p tyAgg35 rfl rfl rfl rfl (Nat.le_of_ble_eq_true rfl) rfl) (Oc oa ?_))
      refine OpsL.nilS ⟨[(2, _), (3, I 281)], [(101, .box 35 (eBig x_10))]⟩ rfl (Tri.ret (Fin.block_ret (Fin.then_ret ?_)))
      obtain rfl := hy21 _ (Option.some.inj h20).symm
      refine Fin.then_ret (Fin.block_ret (Fin.then_ret ?_))
      obtain rfl := Option.some.inj h
      refine Fin.keepS ⟨[(2, _), (3, _)], [(101, _)]⟩ rfl (Fin.result' [.agg (eBig x_10), .one (.i 281)] (.inl rfl) rfl (.cons (.agg tyAgg35 rfl rfl rfl rfl) (.cons (.tmp rfl) .nil)) ⟨rfl, rfl⟩)
     ·refine Tri.skip (Fin.block_normal (Fin.keepS ⟨[(0, _), (2, _), (4, _), (35, _), (36, _), (37, _)], [(101, _)]⟩ rfl (Fin.then (Tri.regionL ?_))))
      refine Oc (op_add rfl rfl) (Oc om ?_)
      refine OpsL.nil ?_
      exact Fin.againJ [0, 2, 4, 35, 36, 37] [101] (IntKind.i64.wrap (x_8 + 1)) (Option.some.inj h20) rfl
    ·refine Tri.exit (Fin.then_exit ?_)
     obtain rfl := hy21 _ (Option.some.inj h20).symm
     refine Fin.then_exit (Fin.block_exit ?_)
     exact Fin.join [0, 2, 4] [101] () rfl rfl
   ·rintro _ hv
    subst v17
    refine Tri.seq (Tri.seq (Tri.regionL ?_))
    refine Oc om (Oc (op_len_str und9 rfl) (Oc (op_gtr rfl rfl) ?_))
    refine OpsL.nilS ⟨[(0, _), (2, _), (4, _), (51, B (decide (512 < (digits_1.length : Int))))], [(101, _)]⟩ rfl (Tri.ite h rfl (fun _ h => ?_) (fun _ h => ?_))
    ·refine Tri.seq (Tri.regionL ?_)
     obtain ⟨x_11, e26, h⟩ := bnd h
     refine Oc (op_call0 (w_Bad_spec e26) goes68 rfl rfl) (Oc (op_store_p tyAgg35 rfl rfl rfl rfl (Nat.le_of_ble_eq_true rfl) rfl) (Oc oa ?_))
     refine OpsL.nilS ⟨[(2, _), (3, I 30)], [(101, .box 35 (eBig x_11))]⟩ rfl (Tri.ret (Fin.then_ret ?_))
     obtain rfl := Option.some.inj h
     refine Fin.keepS ⟨[(2, _), (3, _)], [(101, _)]⟩ rfl (Fin.result' [.agg (eBig x_11), .one (.i 30)] (.inl rfl) rfl (.cons (.agg tyAgg35 rfl rfl rfl rfl) (.cons (.tmp rfl) .nil)) ⟨rfl, rfl⟩)
    ·refine Tri.skip (Fin.keepS ⟨[(0, _), (2, _), (4, _)], [(101, _)]⟩ rfl (Fin.then (Tri.seq (Tri.regionL ?_))))
     obtain ⟨x_12, e27, h⟩ := bnd h
     refine Oc (op_call0 (w_Of_spec e27) goes47 rfl rfl) ?_
     obtain ⟨x_13, e28, h⟩ := bnd h
     refine Oc (op_call0 (w_Of_spec e28) goes47 rfl rfl) (OpsL.keepS ⟨[(0, _), (2, _), (4, _), (53, .b (.agg (eBig x_12))), (54, .b (.agg (eBig x_13)))], [(101, _)]⟩ rfl (Oc (op_alloc (k := 102) tyZero35 rfl) (Oc (op_alloc (k := 103) tyZero35 rfl) (Oc (op_store_p tyAgg35 rfl rfl rfl rfl (Nat.le_of_ble_eq_true rfl) rfl) (Oc (op_store_p tyAgg35 rfl rfl rfl rfl (Nat.le_of_ble_eq_true rfl) rfl) ?_)))))
     refine OpsL.nilS ⟨[(0, _), (2, _), (4, _), (7, Pt 102 0), (8, Pt 103 0)], [(101, _), (102, .box 35 (eBig x_12)), (103, .box 35 (eBig x_13))]⟩ rfl ?_
     obtain ⟨v29, h30, h⟩ := bnd h
     refine Tri.seqJ (v := v29) (fun (x_14 : Big) => ⟨[(0, .b (.one (.str s0))), (2, Pt 101 0), (4, .b (.one (.str digits_1))), (7, Pt 102 0)], [(101, .box 35 zBig), (102, .box 35 (eBig x_14))]⟩) (fun z => z) ?_ ?_
     ·refine Tri.seq (Tri.regionL ?_)
      refine Oc om (Oc (op_conv_str und9 und50 undi5 rfl) (Oc (op_len_e' und50 rfl (List.length_map _)) (Oc om ?_)))
      refine OpsL.nilS ⟨[(0, _), (2, _), (4, _), (7, _), (8, _), (56, .b (.one (.sl 1 ((ofStr digits_1).map (eK .u8))))), (57, I ((ofStr digits_1).length : Int)), (58, I 0)], [(101, _), (102, _), (103, _)]⟩ rfl (Tri.block (Tri.loopJ h30 (un2 fun (x_15 : Big) (x_16 : Int) => ⟨[(0, .b (.one (.str s0))), (2, Pt 101 0), (4, .b (.one (.str digits_1))), (7, Pt 102 0), (8, Pt 103 0), (56, .b (.one (.sl 1 ((ofStr digits_1).map (eK .u8))))), (57, I ((ofStr digits_1).length : Int)), (58, I x_16)], [(101, .box 35 zBig), (102, .box 35 (eBig x_15)), (103, .box 35 (eBig x_13))]⟩) [0, 2, 4, 7, 8, 56, 57, 58] [101, 102, 103] rfl ?_))
      rintro ⟨x_15, x_16⟩ o31 h32 hy33
      refine Tri.seq (Tri.regionL ?_)
      refine Oc (op_lss rfl rfl) (OpsL.nilS ⟨[(0, _), (2, _), (4, _), (7, _), (8, _), (56, _), (57, _), (58, _), (59, B (decide (x_16 < ((ofStr digits_1).length : Int))))], [(101, _), (102, _), (103, _)]⟩ rfl (Tri.seq (Tri.ite h32 rfl (fun _ h32 => ?_) (fun _ h32 => ?_))))
      ·refine Tri.skip (Fin.keepS ⟨[(0, _), (2, _), (4, _), (7, _), (8, _), (56, _), (57, _), (58, _)], [(101, _), (102, _), (103, _)]⟩ rfl (Fin.then (Tri.seq (Tri.block (Tri.seq (Tri.regionL ?_))))))
       obtain ⟨x_18, e34, h32⟩ := bnd h32
       refine Oc (op_index_e tySl50 (ix_lo e34) (ix_map (e := (eK .u8)) e34) rfl rfl) (Oc (op_load_e1 tyOne5 rfl rfl) (Oc oa ?_))
       refine OpsL.nilS ⟨[(0, _), (2, _), (4, _), (7, _), (8, _), (10, .b (.one (.int .u8 x_18))), (56, _), (57, _), (58, _)], [(101, _), (102, _), (103, _)]⟩ rfl (Tri.regionL (Oc (lp tyAgg35) (Oc (lp tyAgg35) ?_)))
       obtain ⟨x_19, e35, h32⟩ := bnd h32
       refine Oc (op_call0 (w_Mul_spec e35) goes50 rfl rfl) (Oc om (Oc (op_sub rfl rfl) ?_))
       refine OpsL.keepS ⟨[(0, _), (2, _), (4, _), (7, _), (8, _), (56, _), (57, _), (58, _), (64, .b (.agg (eBig x_19))), (66, .b (.one (.int .u8 (IntKind.u8.wrap (x_18 - 48)))))], [(101, _), (102, _), (103, _)]⟩ rfl (OpsL.consI .i64 h32 rfl (op_conv_wrap undi5 undi3 rfl) (fun x_20 h32 => ?_))
       obtain ⟨x_21, e36, h32⟩ := bnd h32
       refine Oc (op_call0 (w_Of_spec e36) goes47 rfl rfl) ?_
       obtain ⟨x_22, e37, h32⟩ := bnd h32
       refine Oc (op_call0 (w_Add_spec e37) goes53 rfl rfl) (Oc (op_store_p tyAgg35 rfl rfl rfl rfl (Nat.le_of_ble_eq_true rfl) rfl) ?_)
       refine OpsL.nil (Fin.block_normal (Fin.keepS ⟨[(0, _), (2, _), (4, _), (7, _), (8, _), (56, _), (57, _), (58, _)], [(101, _), (102, .box 35 (eBig x_22)), (103, _)]⟩ rfl (Fin.then (Tri.regionL ?_))))
       refine Oc (op_add rfl rfl) (Oc om ?_)
       refine OpsL.nil ?_
       exact Fin.againJ [0, 2, 4, 7, 8, 56, 57, 58] [101, 102, 103] (x_22, IntKind.i64.wrap (x_16 + 1)) (Option.some.inj h32) rfl
      ·refine Tri.exit (Fin.then_exit ?_)
       obtain rfl := hy33 _ (Option.some.inj h32).symm
       refine Fin.then_exit (Fin.block_exit ?_)
       exact Fin.join [0, 2, 4, 7] [101, 102] x_15 rfl rfl
     ·rintro x_14 hv
      subst v29
      refine Tri.seq (Tri.seq (Tri.regionL ?_))
      refine Oc (op_field_p tyFld35_0 rfl rfl) (Oc (op_load_p1 tyOne4 rfl rfl rfl) ?_)
      refine OpsL.nilS ⟨[(0, _), (2, _), (4, _), (7, _), (72, B x_14.Bad)], [(101, _), (102, _)]⟩ rfl (Tri.ite h rfl (fun _ h => ?_) (fun _ h => ?_))
      ·refine Tri.seq (Tri.regionL ?_)
       refine Oc (lp tyAgg35) (Oc (op_store_p tyAgg35 rfl rfl rfl rfl (Nat.le_of_ble_eq_true rfl) rfl) (Oc oa ?_))
       refine OpsL.nilS ⟨[(2, _), (3, I 30)], [(101, .box 35 (eBig x_14))]⟩ rfl (Tri.ret (Fin.then_ret ?_))
       obtain rfl := Option.some.inj h
       refine Fin.keepS ⟨[(2, _), (3, _)], [(101, _)]⟩ rfl (Fin.result' [.agg (eBig x_14), .one (.i 30)] (.inl rfl) rfl (.cons (.agg tyAgg35 rfl rfl rfl rfl) (.cons (.tmp rfl) .nil)) ⟨rfl, rfl⟩)
      ·refine Tri.skip (Fin.keepS ⟨[(0, _), (2, _), (4, _), (7, _)], [(101, _), (102, _)]⟩ rfl (Fin.then (Tri.seq (Tri.regionL ?_))))
       refine Oc om (Oc om (Oc (op_neq_str rfl rfl) (Oc (op_field_p tyFld35_2 rfl rfl) (Oc (lp tyAgg33) ?_))))
       refine OpsL.keepS ⟨[(2, _), (76, B (decide (digits_1 ≠ s0))), (78, .b (.agg (eW x_14.W)))], [(101, _)]⟩ rfl ?_
       obtain ⟨x_23, e38, h⟩ := bnd h
       refine Oc (op_call0 (w_signed_spec e38) goes69 rfl rfl) (Oc (op_store_p tyAgg35 rfl rfl rfl rfl (Nat.le_of_ble_eq_true rfl) rfl) (Oc oa ?_))
       refine OpsL.nilS ⟨[(2, _), (3, I 0)], [(101, .box 35 (eBig x_23))]⟩ rfl (Tri.ret ?_)
       obtain rfl := Option.some.inj h
       refine Fin.keepS ⟨[(2, _), (3, _)], [(101, _)]⟩ rfl (Fin.result' [.agg (eBig x_23), .one (.i 0)] (.inl rfl) rfl (.cons (.agg tyAgg35 rfl rfl rfl rfl) (.cons (.tmp rfl) .nil)) ⟨rfl, rfl⟩)
def q_good_S (F : Nat) (x0 : Big) : Option Bool :=
 (gcall (!x0.Bad) (w_Valid_S F x0)).bind fun x_1 => some ((!x0.Bad) && x_1)
theorem q_good_spec {F : Nat} {x0 : Big} {r : Bool} (h : q_good_S F x0 = some r) : Meets Tryz.prog (tabs mx) 73 [] [.agg (eBig x0)] (Is [] (.b (.one (.bool r)))) := by
 unfold q_good_S at h
 refine Meets.intro 10 Tryz.func73 Tryz.ntmps73 rfl (by simp) fun E => ?_
 show Tri _ E ⟨10, [], [], []⟩ _ ⟨[(0, .b (.agg (eBig x0)))], []⟩ _
 refine Tri.seq (Tri.regionL ?_)
 refine Oc (op_box (k := 101) rfl rfl) (Oc oa ?_)
 refine OpsL.nilS ⟨[(1, Pt 101 0)], [(101, .box 35 (eBig x0))]⟩ rfl (Tri.seq (Tri.regionL ?_))
 refine Oc (op_field_p tyFld35_0 rfl rfl) (Oc (op_load_p1 tyOne4 rfl rfl rfl) (Oc (op_not rfl) (Oc om ?_)))
 refine CgT (!x0.Bad) [] (fun g1 => trivial) (fun g1 => lp tyAgg35) (OpsL.keepS ⟨[(6, B (!x0.Bad)), (7, .opt (!x0.Bad) (.agg (eBig x0)))], []⟩ rfl ?_)
 obtain ⟨x_1, e3, h⟩ := bnd h
 refine CgT (!x0.Bad) [7] (fun g2 => ⟨g2, trivial⟩) (fun g2 => op_call0 (w_Valid_spec (gc e3 g2)) goes130 rfl rfl) (Oc (op_pick_and (fun e => e) rfl rfl rfl rfl) (Oc oa ?_))
 refine OpsL.nilS ⟨[(2, B ((!x0.Bad) && x_1))], []⟩ rfl (Tri.ret ?_)
 obtain rfl := Option.some.inj h
 refine Fin.keepS ⟨[(2, _)], []⟩ rfl (Fin.result' [.one (.bool ((!x0.Bad) && x_1))] (.inl rfl) rfl (.cons (.tmp rfl) .nil) ⟨rfl, rfl⟩)
def w_Sign_S (F : Nat) (x0 : Big) : Option Int :=
 (w_good_S F [x0]).bind fun x_1 => if ((!x_1) || (decide (x0.W = A16.zero))) = true then (some 0) else (if x0.Neg = true then (some (-1)) else (some 1))
theorem w_Sign_spec {F : Nat} {x0 : Big} {r : Int} (h : w_Sign_S F x0 = some r) : Meets Tryz.prog (tabs mx) 74 [] [.agg (eBig x0)] (Is [] (.b (.one (.i r)))) := by
 unfold w_Sign_S at h
 refine Meets.intro 17 Tryz.func74 Tryz.ntmps74 rfl (by simp) fun E => ?_
 show Tri _ E ⟨17, [], [], []⟩ _ ⟨[(0, .b (.agg (eBig x0)))], []⟩ _
 refine Tri.seq (Tri.regionL ?_)
 refine Oc (op_box (k := 101) rfl rfl) (Oc oa ?_)
 refine OpsL.nilS ⟨[(1, Pt 101 0)], [(101, .box 35 (eBig x0))]⟩ rfl (Tri.seq (Tri.block (Tri.seq (Tri.regionL ?_))))
 refine Oc (lp tyAgg35) (Oc (op_buildSlice (k := 102) (es := [x0].map eBig) tySl178 rfl rfl (uni_map fun _ => rfl) rfl (by decide) (by decide) rfl) ?_)
 obtain ⟨x_1, e1, h⟩ := bnd h
 refine Oc (op_callB (w_good_spec e1) goes103 rfl CP.flat_bool) (Oc (op_not rfl) ?_)
 refine OpsL.keepS ⟨[(1, _), (7, B (!x_1))], [(101, _)]⟩ rfl (Oc om (CgF (!(!x_1)) [] (fun g2 => by exact trivial) (fun g2 => op_field_p tyFld35_2 rfl rfl) (CgF (!(!x_1)) [9] (fun g3 => by exact ⟨g3, trivial⟩) (fun g3 => lp tyAgg33) (CgF (!(!x_1)) [] (fun g4 => by exact trivial) (fun g4 => op_buildA tyBuild33 rfl rfl) (CgF (!(!x_1)) [10, 11] (fun g5 => by exact ⟨g5, g5, trivial⟩) (fun g5 => op_eql_agg (eqAgg33 x0.W A16.zero) rfl rfl) ?_)))))
 refine Oc (op_pick_or (fun e => by first | (rw [e]; rfl) | (simp only at e; rw [e]; rfl)) rfl rfl rfl rfl) (Oc oa ?_)
 refine OpsL.nilS ⟨[(1, _), (3, B ((!x_1) || (decide (x0.W = A16.zero))))], [(101, _)]⟩ rfl (Tri.ite h rfl (fun _ h => ?_) (fun _ h => ?_))
 ·refine Tri.seq (Tri.regionL ?_)
  refine Oc oa (OpsL.nilS ⟨[(2, I 0)], []⟩ rfl (Tri.ret (Fin.block_ret (Fin.then_ret ?_))))
  obtain rfl := Option.some.inj h
  refine Fin.keepS ⟨[(2, _)], []⟩ rfl (Fin.result' [.one (.i 0)] (.inl rfl) rfl (.cons (.tmp rfl) .nil) ⟨rfl, rfl⟩)
 ·refine Tri.seq (Tri.regionL ?_)
  refine Oc (op_field_p tyFld35_1 rfl rfl) (Oc (op_load_p1 tyOne4 rfl rfl rfl) (Oc oa ?_))
  refine OpsL.nilS ⟨[(14, B x0.Neg)], []⟩ rfl (Tri.ite h rfl (fun _ h => ?_) (fun _ h => ?_))
  ·refine Tri.seq (Tri.regionL ?_)
   refine Oc oa (OpsL.nilS ⟨[(2, I (-1))], []⟩ rfl (Tri.ret (Fin.block_ret (Fin.then_ret ?_))))
   obtain rfl := Option.some.inj h
   refine Fin.keepS ⟨[(2, _)], []⟩ rfl (Fin.result' [.one (.i (-1))] (.inl rfl) rfl (.cons (.tmp rfl) .nil) ⟨rfl, rfl⟩)
  ·refine Tri.skip (Fin.block_normal (Fin.keepS ⟨[], []⟩ rfl (Fin.then (Tri.seq (Tri.regionL ?_)))))
   refine Oc oa (OpsL.nilS ⟨[(2, I 1)], []⟩ rfl (Tri.ret ?_))
   obtain rfl := Option.some.inj h
   refine Fin.keepS ⟨[(2, _)], []⟩ rfl (Fin.result' [.one (.i 1)] (.inl rfl) rfl (.cons (.tmp rfl) .nil) ⟨rfl, rfl⟩)
def q_one_S (F : Nat) : Option Big :=
 (w_Of_S F 1).bind fun x_1 => some x_1
theorem q_one_spec {F : Nat} {r : Big} (h : q_one_S F = some r) : Meets Tryz.prog (tabs mx) 102 [] [] (Is [] (.b (.agg (eBig r)))) := by
 unfold q_one_S at h
 refine Meets.intro 2 Tryz.func102 Tryz.ntmps102 rfl (by simp) fun E => ?_
 show Tri _ E ⟨2, [], [], []⟩ _ ⟨[], []⟩ _
 refine Tri.seq (Tri.regionL ?_)
 refine Oc (op_alloc (k := 101) tyZero35 rfl) (OpsL.nilS ⟨[(0, Pt 101 0)], [(101, .box 35 zBig)]⟩ rfl (Tri.seq (Tri.regionL ?_)))
 obtain ⟨x_1, e1, h⟩ := bnd h
 refine Oc (op_call0 (w_Of_spec e1) goes47 rfl rfl) (Oc (op_store_p tyAgg35 rfl rfl rfl rfl (Nat.le_of_ble_eq_true rfl) rfl) ?_)
 refine OpsL.nilS ⟨[(0, _)], [(101, .box 35 (eBig x_1))]⟩ rfl (Tri.ret ?_)
 obtain rfl := Option.some.inj h
 refine Fin.keepS ⟨[(0, _)], [(101, _)]⟩ rfl (Fin.result' [.agg (eBig x_1)] (.inl rfl) rfl (.cons (.agg tyAgg35 rfl rfl rfl rfl) .nil) ⟨rfl, rfl⟩)
def q_Bad_S (F : Nat) : Option Frc :=
 (w_Bad_S F).bind fun x_1 => (q_one_S F).bind fun x_2 => some (⟨x_1, x_2⟩ : Frc)
theorem q_Bad_spec {F : Nat} {r : Frc} (h : q_Bad_S F = some r) : Meets Tryz.prog (tabs mx) 49 [] [] (Is [] (.b (.agg (eFrc r)))) := by
 unfold q_Bad_S at h
 refine Meets.intro 4 Tryz.func49 Tryz.ntmps49 rfl (by simp) fun E => ?_
 show Tri _ E ⟨4, [], [], []⟩ _ ⟨[], []⟩ _
 refine Tri.seq (Tri.regionL ?_)
 refine Oc (op_alloc (k := 101) tyZero37 rfl) (OpsL.nilS ⟨[(0, Pt 101 0)], [(101, .box 37 zFrc)]⟩ rfl (Tri.seq (Tri.regionL ?_)))
 obtain ⟨x_1, e1, h⟩ := bnd h
 refine Oc (op_call0 (w_Bad_spec e1) goes68 rfl rfl) ?_
 obtain ⟨x_2, e2, h⟩ := bnd h
 refine Oc (op_call0 (q_one_spec e2) goes102 rfl rfl) (Oc (op_build tyBuild37 rfl rfl) (Oc (op_store_p tyAgg37 rfl rfl rfl rfl (Nat.le_of_ble_eq_true rfl) rfl) ?_))
 refine OpsL.nilS ⟨[(0, _)], [(101, .box 37 (eBig x_1 ++ (eBig x_2)))]⟩ rfl (Tri.ret ?_)
 obtain rfl := Option.some.inj h
 refine Fin.keepS ⟨[(0, _)], [(101, _)]⟩ rfl (Fin.result' [.agg (eBig x_1 ++ (eBig x_2))] (.inl rfl) rfl (.cons (.agg tyAgg37 rfl rfl rfl rfl) .nil) ⟨rfl, rfl⟩)
def w_short_S (F : Nat) (a0 : A16) (b0 : Int) : Option (A16 × Int) :=
 Option.bind (iter F (un3 fun q_3 r_4 k_5 => if (decide (0 ≤ k_5)) = true then ((idx? a0.l k_5).bind fun x_8 => letN (ior .u64 (IntKind.u64.wrap (r_4 * 4294967296)) (IntKind.u64.wrap x_8)) fun x_9 => (quo? .u64 x_9 (IntKind.u64.wrap b0)).bind fun x_10 => (idx? q_3.l k_5).bind fun x_11 => (rem? x_9 (IntKind.u64.wrap b0)).bind fun x_12 => some (.inl (q_3.set k_5 (IntKind.u32.wrap x_10), x_12, IntKind.i64.wrap (k_5 - 1)))) else (some (.inr (q_3, r_4)))) (A16.zero, 0, 15)) (un2 fun q_1 r_2 => some (q_1, IntKind.u32.wrap r_2))
theorem w_short_spec {F : Nat} {a0 : A16} {b0 : Int} {r : A16 × Int} (h : w_short_S F a0 b0 = some r) : Meets Tryz.prog (tabs mx) 139 [] [.agg (eW a0), .one (.int .u32 b0)] (Is [] (.tup [.agg (eW r.1), .one (.int .u32 r.2)])) := by
 unfold w_short_S at h
 refine Meets.intro 33 Tryz.func139 Tryz.ntmps139 rfl (by simp) fun E => ?_
 show Tri _ E ⟨33, [], [], []⟩ _ ⟨[(0, .b (.agg (eW a0))), (1, .b (.one (.int .u32 b0)))], []⟩ _
 refine Tri.seq (Tri.regionL ?_)
 refine Oc (op_box (k := 101) rfl rfl) (Oc (op_alloc (k := 102) tyZero33 rfl) (Oc oa ?_))
 refine OpsL.nilS ⟨[(1, .b (.one (.int .u32 b0))), (2, Pt 101 0), (4, Pt 102 0)], [(101, .box 33 (eW a0)), (102, .box 33 (eW A16.zero))]⟩ rfl (Tri.seq (Tri.regionL ?_))
 refine Oc oa (OpsL.nilS ⟨[(1, _), (2, _), (4, _), (6, .b (.one (.int .u64 0)))], [(101, _), (102, _)]⟩ rfl ?_)
 obtain ⟨v1, h2, h⟩ := bnd h
 refine Tri.seqJ (v := v1) (un2 fun (q_1 : A16) (r_2 : Int) => ⟨[(4, Pt 102 0), (6, .b (.one (.int .u64 r_2)))], [(102, .box 33 (eW q_1))]⟩) (fun z => z) ?_ ?_
 ·refine Tri.seq (Tri.regionL ?_)
  refine Oc oa (OpsL.nilS ⟨[(1, _), (2, _), (4, _), (6, _), (7, I 15)], [(101, _), (102, _)]⟩ rfl (Tri.block (Tri.loopJ h2 (un3 fun (q_3 : A16) (r_4 : Int) (k_5 : Int) => ⟨[(1, .b (.one (.int .u32 b0))), (2, Pt 101 0), (4, Pt 102 0), (6, .b (.one (.int .u64 r_4))), (7, I k_5)], [(101, .box 33 (eW a0)), (102, .box 33 (eW q_3))]⟩) [1, 2, 4, 6, 7] [101, 102] rfl ?_)))
  rintro ⟨q_3, r_4, k_5⟩ o3 h4 hy5
  refine Tri.seq (Tri.seq (Tri.regionL ?_))
  refine Oc om (Oc (op_geq rfl rfl) ?_)
  refine OpsL.nilS ⟨[(1, _), (2, _), (4, _), (6, _), (7, _), (9, B (decide (0 ≤ k_5)))], [(101, _), (102, _)]⟩ rfl (Tri.ite h4 rfl (fun _ h4 => ?_) (fun _ h4 => ?_))
  ·refine Tri.skip (Fin.keepS ⟨[(1, _), (2, _), (4, _), (6, _), (7, _)], [(101, _), (102, _)]⟩ rfl (Fin.then (Tri.seq (Tri.block (Tri.seq (Tri.regionL ?_))))))
   refine Oc om (Oc (op_shl0 (m := 32) (q := 4294967296) (by decide) rfl rfl (by decide)) (Oc om ?_))
   obtain ⟨x_8, e6, h4⟩ := bnd h4
   refine Oc (op_index_p tyArr33 (ix_lo e6) (ix_hi e6) rfl rfl rfl) (Oc (op_load_p1 tyOne32 rfl rfl (arr_get (post := []) (k := .u32) [] e6 rfl rfl rfl)) (Oc (op_conv_wrap undi32 undi54 rfl) ?_))
   refine OpsL.consI .u64 h4 rfl (op_or rfl rfl) (fun x_9 h4 => ?_)
   refine Oc oa (OpsL.nilS ⟨[(1, _), (2, _), (4, _), (6, .b (.one (.int .u64 x_9))), (7, _)], [(101, _), (102, _)]⟩ rfl (Tri.seq (Tri.regionL ?_)))
   refine Oc om (Oc om (Oc om (Oc (op_conv_wrap undi32 undi54 rfl) ?_)))
   obtain ⟨x_10, e7, h4⟩ := bnd h4
   refine Oc (op_quo2 e7 rfl rfl) (Oc (op_conv_wrap undi54 undi32 rfl) ?_)
   obtain ⟨x_11, e8, h4⟩ := bnd h4
   refine Oc (op_index_p tyArr33 (ix_lo e8) (ix_hi e8) rfl rfl rfl) (Oc (op_store_p1 tyOne32 rfl rfl rfl (arr_lt (post := []) (k := .u32) [] e8 rfl rfl rfl) (arr_set (post := []) (k := .u32) [] e8 rfl rfl (A16.set_l q_3 k_5 (IntKind.u32.wrap x_10)) rfl rfl)) ?_)
   refine OpsL.nilS ⟨[(1, _), (2, _), (4, _), (6, _), (7, _)], [(101, _), (102, .box 33 (eW (q_3.set k_5 (IntKind.u32.wrap x_10))))]⟩ rfl (Tri.regionL (Oc om (Oc om (Oc (op_conv_wrap undi32 undi54 rfl) ?_))))
   obtain ⟨x_12, e9, h4⟩ := bnd h4
   refine Oc (op_rem2 e9 rfl rfl) (Oc oa ?_)
   refine OpsL.nil (Fin.block_normal (Fin.keepS ⟨[(1, _), (2, _), (4, _), (6, .b (.one (.int .u64 x_12))), (7, _)], [(101, _), (102, _)]⟩ rfl (Fin.then (Tri.regionL ?_))))
   refine Oc om (Oc (op_sub rfl rfl) (Oc oa ?_))
   refine OpsL.nil ?_
   exact Fin.againJ [1, 2, 4, 6, 7] [101, 102] (q_3.set k_5 (IntKind.u32.wrap x_10), x_12, IntKind.i64.wrap (k_5 - 1)) (Option.some.inj h4) rfl
  ·refine Tri.exit (Fin.then_exit ?_)
   obtain rfl := hy5 _ (Option.some.inj h4).symm
   refine Fin.then_exit (Fin.block_exit ?_)
   exact Fin.join [4, 6] [102] (q_3, r_4) rfl rfl
 ·rintro ⟨q_1, r_2⟩ hv
  subst v1
  refine Tri.seq (Tri.regionL ?_)
  refine Oc (lp tyAgg33) (Oc om (Oc (op_conv_wrap undi54 undi32 rfl) (Oc (op_store_p tyAgg33 rfl rfl rfl rfl (Nat.le_of_ble_eq_true rfl) rfl) (Oc oa ?_))))
  refine OpsL.nilS ⟨[(4, _), (5, .b (.one (.int .u32 (IntKind.u32.wrap r_2))))], [(102, _)]⟩ rfl (Tri.ret ?_)
  obtain rfl := Option.some.inj h
  refine Fin.keepS ⟨[(4, _), (5, _)], [(102, _)]⟩ rfl (Fin.result' [.agg (eW q_1), .one (.int .u32 (IntKind.u32.wrap r_2))] (.inl rfl) rfl (.cons (.agg tyAgg33 rfl rfl rfl rfl) (.cons (.tmp rfl) .nil)) ⟨rfl, rfl⟩)
def bits_Len32_S (F : Nat) (x0 : Int) : Option Int :=
 Option.bind (if (decide (65536 ≤ x0)) = true then (some (x0 / 65536, 16)) else (some (x0, 0))) (un2 fun x_1 n_2 => Option.bind (if (decide (256 ≤ x_1)) = true then (some (x_1 / 256, IntKind.i64.wrap (n_2 + 8))) else (some (x_1, n_2))) (un2 fun x_3 n_4 => (idx? ([0, 1, 2, 2, 3, 3, 3, 3, 4, 4, 4, 4, 4, 4, 4, 4, 5, 5, 5, 5, 5, 5, 5, 5, 5, 5, 5, 5, 5, 5, 5, 5, 6, 6, 6, 6, 6, 6, 6, 6, 6, 6, 6, 6, 6, 6, 6, 6, 6, 6, 6, 6, 6, 6, 6, 6, 6, 6, 6, 6, 6, 6, 6, 6, 7, 7, 7, 7, 7, 7, 7, 7, 7, 7, 7, 7, 7, 7, 7, 7, 7, 7, 7, 7, 7, 7, 7, 7, 7, 7, 7, 7, 7, 7, 7, 7, 7, 7, 7, 7, 7, 7, 7, 7, 7, 7, 7, 7, 7, 7, 7, 7, 7, 7, 7, 7, 7, 7, 7, 7, 7, 7, 7, 7, 7, 7, 7, 7, 8, 8, 8, 8, 8, 8, 8, 8, 8, 8, 8, 8, 8, 8, 8, 8, 8, 8, 8, 8, 8, 8, 8, 8, 8, 8, 8, 8, 8, 8, 8, 8, 8, 8, 8, 8, 8, 8, 8, 8, 8, 8, 8, 8, 8, 8, 8, 8, 8, 8, 8, 8, 8, 8, 8, 8, 8, 8, 8, 8, 8, 8, 8, 8, 8, 8, 8, 8, 8, 8, 8, 8, 8, 8, 8, 8, 8, 8, 8, 8, 8, 8, 8, 8, 8, 8, 8, 8, 8, 8, 8, 8, 8, 8, 8, 8, 8, 8, 8, 8, 8, 8, 8, 8, 8, 8, 8, 8, 8, 8, 8, 8, 8, 8, 8, 8, 8, 8, 8, 8, 8, 8, 8, 8, 8, 8, 8, 8] : Str) (IntKind.u8.wrap x_3)).bind fun x_5 => letN (IntKind.i64.wrap (n_4 + (IntKind.i64.wrap (x_5.toNat : Int)))) fun x_6 => some x_6))
theorem bits_Len32_spec {F : Nat} {x0 : Int} {r : Int} (h : bits_Len32_S F x0 = some r) : Meets Tryz.prog (tabs mx) 168 [] [.one (.int .u32 x0)] (Is [] (.b (.one (.i r)))) := by
 unfold bits_Len32_S at h
 refine Meets.intro 19 Tryz.func168 Tryz.ntmps168 rfl (by simp) fun E => ?_
 show Tri _ E ⟨19, [], [], []⟩ _ ⟨[(0, .b (.one (.int .u32 x0)))], []⟩ _
 refine Tri.seq (Tri.regionL ?_)
 refine Oc oa (OpsL.nilS ⟨[(0, .b (.one (.int .u32 x0))), (2, I 0)], []⟩ rfl ?_)
 obtain ⟨v1, h2, h⟩ := bnd h
 refine Tri.seqJ (v := v1) (un2 fun (x_1 : Int) (n_2 : Int) => ⟨[(0, .b (.one (.int .u32 x_1))), (2, I n_2)], []⟩) (fun z => z) ?_ ?_
 ·refine Tri.seq (Tri.regionL ?_)
  refine Oc om (Oc (op_geq rfl rfl) ?_)
  refine OpsL.nilS ⟨[(0, _), (2, _), (4, B (decide (65536 ≤ x0)))], []⟩ rfl (Tri.ite h2 rfl (fun _ h2 => ?_) (fun _ h2 => ?_))
  ·refine Tri.seq (Tri.regionL ?_)
   refine Oc om (Oc (op_shr2 (m := 16) (by decide) rfl rfl rfl) (Oc oa ?_))
   refine OpsL.nilS ⟨[(0, .b (.one (.int .u32 (x0 / 65536))))], []⟩ rfl (Tri.regionL (Oc oa (OpsL.nil ?_)))
   exact Fin.join [0, 2] [] (x0 / 65536, 16) (Option.some.inj h2) rfl
  ·refine Tri.skip ?_
   exact Fin.join [0, 2] [] (x0, 0) (Option.some.inj h2) rfl
 ·rintro ⟨x_1, n_2⟩ hv
  subst v1
  obtain ⟨v3, h4, h⟩ := bnd h
  refine Tri.seqJ (v := v3) (un2 fun (x_3 : Int) (n_4 : Int) => ⟨[(0, .b (.one (.int .u32 x_3))), (2, I n_4)], []⟩) (fun z => z) ?_ ?_
  ·refine Tri.seq (Tri.regionL ?_)
   refine Oc om (Oc (op_geq rfl rfl) ?_)
   refine OpsL.nilS ⟨[(0, _), (2, _), (8, B (decide (256 ≤ x_1)))], []⟩ rfl (Tri.ite h4 rfl (fun _ h4 => ?_) (fun _ h4 => ?_))
   ·refine Tri.seq (Tri.regionL ?_)
    refine Oc om (Oc (op_shr2 (m := 8) (by decide) rfl rfl rfl) (Oc oa ?_))
    refine OpsL.nilS ⟨[(0, .b (.one (.int .u32 (x_1 / 256)))), (2, _)], []⟩ rfl (Tri.regionL (Oc om (Oc (op_add rfl rfl) (Oc oa ?_))))
    refine OpsL.nil ?_
    exact Fin.join [0, 2] [] (x_1 / 256, IntKind.i64.wrap (n_2 + 8)) (Option.some.inj h4) rfl
   ·refine Tri.skip ?_
    exact Fin.join [0, 2] [] (x_1, n_2) (Option.some.inj h4) rfl
  ·rintro ⟨x_3, n_4⟩ hv
   subst v3
   refine Tri.seq (Tri.regionL ?_)
   refine Oc om (Oc om (Oc (op_conv_wrap undi32 undi5 rfl) ?_))
   obtain ⟨x_5, e5, h⟩ := bnd h
   refine Oc (op_index_str und9 rfl rfl (ix_lo e5) (ix_get e5)) (Oc (op_conv_wrap undi5 undi3 rfl) ?_)
   refine OpsL.consI .i64 h rfl (op_add rfl rfl) (fun x_6 h => ?_)
   refine Oc oa (OpsL.nilS ⟨[(2, I x_6)], []⟩ rfl (Tri.ret ?_))
   obtain rfl := Option.some.inj h
   refine Fin.keepS ⟨[(2, _)], []⟩ rfl (Fin.result' [.one (.i x_6)] (.inl rfl) rfl (.cons (.tmp rfl) .nil) ⟨rfl, rfl⟩)
def bits_LeadingZeros32_S (F : Nat) (x0 : Int) : Option Int :=
 (bits_Len32_S F x0).bind fun x_1 => some (IntKind.i64.wrap (32 - x_1))
theorem bits_LeadingZeros32_spec {F : Nat} {x0 : Int} {r : Int} (h : bits_LeadingZeros32_S F x0 = some r) : Meets Tryz.prog (tabs mx) 140 [] [.one (.int .u32 x0)] (Is [] (.b (.one (.i r)))) := by
 unfold bits_LeadingZeros32_S at h
 refine Meets.intro 6 Tryz.func140 Tryz.ntmps140 rfl (by simp) fun E => ?_
 show Tri _ E ⟨6, [], [], []⟩ _ ⟨[(0, .b (.one (.int .u32 x0)))], []⟩ _
 refine Tri.seq (Tri.regionL ?_)
 refine Oc oa (OpsL.nilS ⟨[(0, .b (.one (.int .u32 x0)))], []⟩ rfl (Tri.seq (Tri.regionL ?_)))
 refine Oc om ?_
 obtain ⟨x_1, e1, h⟩ := bnd h
 refine Oc (op_call0 (bits_Len32_spec e1) goes168 rfl rfl) (Oc (op_sub rfl rfl) (Oc oa ?_))
 refine OpsL.nilS ⟨[(2, I (IntKind.i64.wrap (32 - x_1)))], []⟩ rfl (Tri.ret ?_)
 obtain rfl := Option.some.inj h
 refine Fin.keepS ⟨[(2, _)], []⟩ rfl (Fin.result' [.one (.i (IntKind.i64.wrap (32 - x_1)))] (.inl rfl) rfl (.cons (.tmp rfl) .nil) ⟨rfl, rfl⟩)
def w_up_S (F : Nat) (w0 : A16) (n0 : Int) : Option (A16 × Int) :=
 Option.bind (iter F (un3 fun out_3 carry_4 x_5 => if (decide (x_5 < 16)) = true then ((idx? w0.l x_5).bind fun x_8 => Option.bind (shl? .u64 (IntKind.u64.wrap x_8) n0) (fun x_9 => letN (IntKind.u32.wrap (ior .u64 carry_4 x_9)) fun x_10 => (idx? out_3.l x_5).bind fun x_11 => some (.inl (out_3.set x_5 x_10, (ior .u64 carry_4 x_9) / 4294967296, IntKind.i64.wrap (x_5 + 1))))) else (some (.inr (out_3, carry_4)))) (A16.zero, 0, 0)) (un2 fun out_1 carry_2 => some (out_1, IntKind.u32.wrap carry_2))
theorem w_up_spec {F : Nat} {w0 : A16} {n0 : Int} {r : A16 × Int} (h : w_up_S F w0 n0 = some r) : Meets Tryz.prog (tabs mx) 141 [] [.agg (eW w0), .one (.i n0)] (Is [] (.tup [.agg (eW r.1), .one (.int .u32 r.2)])) := by
 unfold w_up_S at h
 refine Meets.intro 30 Tryz.func141 Tryz.ntmps141 rfl (by simp) fun E => ?_
 show Tri _ E ⟨30, [], [], []⟩ _ ⟨[(0, .b (.agg (eW w0))), (1, I n0)], []⟩ _
 refine Tri.seq (Tri.regionL ?_)
 refine Oc (op_box (k := 101) rfl rfl) (Oc (op_alloc (k := 102) tyZero33 rfl) (Oc oa ?_))
 refine OpsL.nilS ⟨[(1, I n0), (2, Pt 101 0), (4, Pt 102 0)], [(101, .box 33 (eW w0)), (102, .box 33 (eW A16.zero))]⟩ rfl (Tri.seq (Tri.regionL ?_))
 refine Oc (op_alloc (k := 103) tyZero33 rfl) (OpsL.nilS ⟨[(1, _), (2, _), (4, _), (6, Pt 103 0)], [(101, _), (102, _), (103, .box 33 (eW A16.zero))]⟩ rfl (Tri.seq (Tri.regionL ?_)))
 refine Oc oa (OpsL.nilS ⟨[(1, _), (2, _), (4, _), (6, _), (7, .b (.one (.int .u64 0)))], [(101, _), (102, _), (103, _)]⟩ rfl ?_)
 obtain ⟨v1, h2, h⟩ := bnd h
 refine Tri.seqJ (v := v1) (un2 fun (out_1 : A16) (carry_2 : Int) => ⟨[(4, Pt 102 0), (6, Pt 103 0), (7, .b (.one (.int .u64 carry_2)))], [(102, .box 33 (eW A16.zero)), (103, .box 33 (eW out_1))]⟩) (fun z => z) ?_ ?_
 ·refine Tri.seq (Tri.regionL ?_)
  refine Oc om (OpsL.nilS ⟨[(1, _), (2, _), (4, _), (6, _), (7, _), (9, I 0)], [(101, _), (102, _), (103, _)]⟩ rfl (Tri.block (Tri.loopJ h2 (un3 fun (out_3 : A16) (carry_4 : Int) (x_5 : Int) => ⟨[(1, I n0), (2, Pt 101 0), (4, Pt 102 0), (6, Pt 103 0), (7, .b (.one (.int .u64 carry_4))), (9, I x_5)], [(101, .box 33 (eW w0)), (102, .box 33 (eW A16.zero)), (103, .box 33 (eW out_3))]⟩) [1, 2, 4, 6, 7, 9] [101, 102, 103] rfl ?_)))
  rintro ⟨out_3, carry_4, x_5⟩ o3 h4 hy5
  refine Tri.seq (Tri.regionL ?_)
  refine Oc (op_lss rfl rfl) (OpsL.nilS ⟨[(1, _), (2, _), (4, _), (6, _), (7, _), (9, _), (10, B (decide (x_5 < 16)))], [(101, _), (102, _), (103, _)]⟩ rfl (Tri.seq (Tri.ite h4 rfl (fun _ h4 => ?_) (fun _ h4 => ?_))))
  ·refine Tri.skip (Fin.keepS ⟨[(1, _), (2, _), (4, _), (6, _), (7, _), (9, _)], [(101, _), (102, _), (103, _)]⟩ rfl (Fin.then (Tri.seq (Tri.block (Tri.seq (Tri.regionL ?_))))))
   refine Oc om (Oc oa ?_)
   refine OpsL.nilS ⟨[(1, _), (2, _), (4, _), (6, _), (7, _), (8, I x_5), (9, _)], [(101, _), (102, _), (103, _)]⟩ rfl (Tri.seq (Tri.regionL ?_))
   refine Oc om (Oc om ?_)
   obtain ⟨x_8, e6, h4⟩ := bnd h4
   refine Oc (op_index_p tyArr33 (ix_lo e6) (ix_hi e6) rfl rfl rfl) (Oc (op_load_p1 tyOne32 rfl rfl (arr_get (post := []) (k := .u32) [] e6 rfl rfl rfl)) (Oc (op_conv_wrap undi32 undi54 rfl) (Oc om ?_)))
   obtain ⟨x_9, e7, h4⟩ := bnd h4
   refine Oc (op_shl e7 rfl rfl) (Oc (op_or rfl rfl) (Oc oa ?_))
   refine OpsL.nilS ⟨[(1, _), (2, _), (4, _), (6, _), (7, .b (.one (.int .u64 (ior .u64 carry_4 x_9)))), (8, _), (9, _)], [(101, _), (102, _), (103, _)]⟩ rfl (Tri.seq (Tri.regionL ?_))
   refine Oc om (Oc om ?_)
   refine OpsL.consI .u32 h4 rfl (op_conv_wrap undi54 undi32 rfl) (fun x_10 h4 => ?_)
   obtain ⟨x_11, e8, h4⟩ := bnd h4
   refine Oc (op_index_p tyArr33 (ix_lo e8) (ix_hi e8) rfl rfl rfl) (Oc (op_store_p1 tyOne32 rfl rfl rfl (arr_lt (post := []) (k := .u32) [] e8 rfl rfl rfl) (arr_set (post := []) (k := .u32) [] e8 rfl rfl (A16.set_l out_3 x_5 x_10) rfl rfl)) ?_)
   refine OpsL.nilS ⟨[(1, _), (2, _), (4, _), (6, _), (7, _), (9, _)], [(101, _), (102, _), (103, .box 33 (eW (out_3.set x_5 x_10)))]⟩ rfl (Tri.regionL (Oc om (Oc (op_shr2 (m := 32) (by decide) rfl rfl rfl) (Oc oa ?_))))
   refine OpsL.nil (Fin.block_normal (Fin.keepS ⟨[(1, _), (2, _), (4, _), (6, _), (7, .b (.one (.int .u64 ((ior .u64 carry_4 x_9) / 4294967296)))), (9, _)], [(101, _), (102, _), (103, _)]⟩ rfl (Fin.then (Tri.regionL ?_))))
   refine Oc (op_add rfl rfl) (Oc om ?_)
   refine OpsL.nil ?_
   exact Fin.againJ [1, 2, 4, 6, 7, 9] [101, 102, 103] (out_3.set x_5 x_10, (ior .u64 carry_4 x_9) / 4294967296, IntKind.i64.wrap (x_5 + 1)) (Option.some.inj h4) rfl
  ·refine Tri.exit (Fin.then_exit ?_)
   obtain rfl := hy5 _ (Option.some.inj h4).symm
   refine Fin.then_exit (Fin.block_exit ?_)
   exact Fin.join [4, 6, 7] [102, 103] (out_3, carry_4) rfl rfl
 ·rintro ⟨out_1, carry_2⟩ hv
  subst v1
  refine Tri.seq (Tri.regionL ?_)
  refine Oc (lp tyAgg33) (Oc om (Oc (op_conv_wrap undi54 undi32 rfl) (Oc (op_store_p tyAgg33 rfl rfl rfl rfl (Nat.le_of_ble_eq_true rfl) rfl) (Oc oa ?_))))
  refine OpsL.nilS ⟨[(4, _), (5, .b (.one (.int .u32 (IntKind.u32.wrap carry_2))))], [(102, .box 33 (eW out_1))]⟩ rfl (Tri.ret ?_)
  obtain rfl := Option.some.inj h
  refine Fin.keepS ⟨[(4, _), (5, _)], [(102, _)]⟩ rfl (Fin.result' [.agg (eW out_1), .one (.int .u32 (IntKind.u32.wrap carry_2))] (.inl rfl) rfl (.cons (.agg tyAgg33 rfl rfl rfl rfl) (.cons (.tmp rfl) .nil)) ⟨rfl, rfl⟩)
def w_guess_S (F : Nat) (v0 : A16) (n0 : Int) (j0 : Int) (u0v : A17) : Option Int :=
 (idx? u0v.l (IntKind.i64.wrap (j0 + n0))).bind fun x_1 => (idx? u0v.l (IntKind.i64.wrap ((IntKind.i64.wrap (j0 + n0)) - 1))).bind fun x_2 => (idx? v0.l (IntKind.i64.wrap (n0 - 1))).bind fun x_3 => (quo? .u64 (ior .u64 (IntKind.u64.wrap ((IntKind.u64.wrap x_1) * 4294967296)) (IntKind.u64.wrap x_2)) (IntKind.u64.wrap x_3)).bind fun x_4 => (rem? (ior .u64 (IntKind.u64.wrap ((IntKind.u64.wrap x_1) * 4294967296)) (IntKind.u64.wrap x_2)) (IntKind.u64.wrap x_3)).bind fun x_5 => Option.bind (iter F (un2 fun d_7 rest_8 => (gcall ((decide (rest_8 < 4294967296)) && !(decide (4294967296 ≤ d_7))) (idx? v0.l (IntKind.i64.wrap (n0 - 2)))).bind fun x_10 => (gcall ((decide (rest_8 < 4294967296)) && !(decide (4294967296 ≤ d_7))) (idx? u0v.l (IntKind.i64.wrap ((IntKind.i64.wrap (j0 + n0)) - 2)))).bind fun x_11 => if ((decide (rest_8 < 4294967296)) && ((decide (4294967296 ≤ d_7)) || (decide ((ior .u64 (IntKind.u64.wrap (rest_8 * 4294967296)) (IntKind.u64.wrap x_11)) < (IntKind.u64.wrap (d_7 * (IntKind.u64.wrap x_10))))))) = true then (letN (IntKind.u64.wrap (rest_8 + (IntKind.u64.wrap x_3))) fun x_12 => some (.inl (IntKind.u64.wrap (d_7 - 1), x_12))) else (some (.inr d_7))) (x_4, x_5)) (fun d_6 => some d_6)
theorem w_guess_spec {F : Nat} {v0 : A16} {n0 : Int} {j0 : Int} {u0v : A17} {r : Int} (h : w_guess_S F v0 n0 j0 u0v = some r) : Meets Tryz.prog (tabs mx) 142 [(1, .box 183 ((eA17 .u32) u0v))] [.ptr 1 0, .agg (eW v0), .one (.i n0), .one (.i j0)] (Is [(1, .box 183 ((eA17 .u32) u0v))] (.b (.one (.int .u64 r)))) := by
 unfold w_guess_S at h
 refine Meets.intro 77 Tryz.func142 Tryz.ntmps142 rfl (by simp) fun E => ?_
 show Tri _ E ⟨77, [1], [1], []⟩ _ ⟨[(0, Pt 1 0), (1, .b (.agg (eW v0))), (2, I n0), (3, I j0)], [(1, .box 183 ((eA17 .u32) u0v))]⟩ _
 refine Tri.seq (Tri.regionL ?_)
 refine Oc (op_box (k := 101) rfl rfl) (Oc oa ?_)
 refine OpsL.nilS ⟨[(0, Pt 1 0), (2, I n0), (3, I j0), (5, Pt 101 0)], [(1, .box 183 ((eA17 .u32) u0v)), (101, .box 33 (eW v0))]⟩ rfl (Tri.seq ?_)
 obtain ⟨x_1, e1, h⟩ := bnd h
 obtain ⟨x_2, e2, h⟩ := bnd h
 refine Tri.regionY mixed 20 [Pt 1 0, I j0, I n0, I (IntKind.i64.wrap (j0 + n0)), Pt 1 0, .b (.ptr 1 (0 + (IntKind.i64.wrap (j0 + n0) : Int).toNat * 1)), .b (.one (.int .u32 x_1)), .b (.one (.int .u64 (IntKind.u64.wrap x_1))), .b (.one (.int .u64 (IntKind.u64.wrap ((IntKind.u64.wrap x_1) * 4294967296)))), Pt 1 0, I j0, I n0, I (IntKind.i64.wrap (j0 + n0)), I (IntKind.i64.wrap ((IntKind.i64.wrap (j0 + n0)) - 1)), Pt 1 0, .b (.ptr 1 (0 + (IntKind.i64.wrap ((IntKind.i64.wrap (j0 + n0)) - 1) : Int).toNat * 1)), .b (.one (.int .u32 x_2)), .b (.one (.int .u64 (IntKind.u64.wrap x_2))), .b (.one (.int .u64 (ior .u64 (IntKind.u64.wrap ((IntKind.u64.wrap x_1) * 4294967296)) (IntKind.u64.wrap x_2)))), .b (.one (.int .u64 (ior .u64 (IntKind.u64.wrap ((IntKind.u64.wrap x_1) * 4294967296)) (IntKind.u64.wrap x_2))))] [0, 2, 3, 5, 9] [1, 101] (s' := ⟨[(0, _), (2, _), (3, _), (5, _), (9, .b (.one (.int .u64 (ior .u64 (IntKind.u64.wrap ((IntKind.u64.wrap x_1) * 4294967296)) (IntKind.u64.wrap x_2)))))], [(1, _), (101, _)]⟩) rfl ⟨fun _ => .p om, fun _ => .p om, fun _ => .p om, fun _ => .p (op_add rfl rfl), fun _ => .p (op_nilCheck_p rfl), fun _ => .p (op_index_p tyArr183 (ix_lo e1) (ix_hi e1) rfl rfl rfl), fun _ => .p (op_load_p1 tyOne32 rfl rfl (arr_get (post := []) (k := .u32) [] e1 rfl rfl rfl)), fun _ => .p (op_conv_wrap undi32 undi54 rfl), fun _ => .p (op_shl0 (m := 32) (q := 4294967296) (by decide) rfl rfl (by decide)), fun _ => .p om, fun _ => .p om, fun _ => .p om, fun _ => .p (op_add rfl rfl), fun _ => .p (op_sub rfl rfl), fun _ => .p (op_nilCheck_p rfl), fun _ => .p (op_index_p tyArr183 (ix_lo e2) (ix_hi e2) rfl rfl rfl), fun _ => .p (op_load_p1 tyOne32 rfl rfl (arr_get (post := []) (k := .u32) [] e2 rfl rfl rfl)), fun _ => .p (op_conv_wrap undi32 undi54 rfl), fun _ => .p (op_or rfl rfl), fun _ => .p oa, trivial⟩ rfl rfl (Tri.seq (Tri.regionL ?_))
 refine Oc om (Oc (op_sub rfl rfl) ?_)
 obtain ⟨x_3, e3, h⟩ := bnd h
 refine Oc (op_index_p tyArr33 (ix_lo e3) (ix_hi e3) rfl rfl rfl) (Oc (op_load_p1 tyOne32 rfl rfl (arr_get (post := []) (k := .u32) [] e3 rfl rfl rfl)) (Oc (op_conv_wrap undi32 undi54 rfl) (Oc oa ?_)))
 refine OpsL.nilS ⟨[(0, _), (2, _), (3, _), (5, _), (9, _), (10, .b (.one (.int .u64 (IntKind.u64.wrap x_3))))], [(1, _), (101, _)]⟩ rfl (Tri.seq ?_)
 obtain ⟨x_4, e4, h⟩ := bnd h
 obtain ⟨x_5, e5, h⟩ := bnd h
 refine Tri.regionY mixed 8 [.b (.one (.int .u64 (ior .u64 (IntKind.u64.wrap ((IntKind.u64.wrap x_1) * 4294967296)) (IntKind.u64.wrap x_2)))), .b (.one (.int .u64 (IntKind.u64.wrap x_3))), .b (.one (.int .u64 x_4)), .b (.one (.int .u64 (ior .u64 (IntKind.u64.wrap ((IntKind.u64.wrap x_1) * 4294967296)) (IntKind.u64.wrap x_2)))), .b (.one (.int .u64 (IntKind.u64.wrap x_3))), .b (.one (.int .u64 x_5)), .b (.one (.int .u64 x_4)), .b (.one (.int .u64 x_5))] [0, 2, 3, 5, 10, 11, 12] [1, 101] (s' := ⟨[(0, _), (2, _), (3, _), (5, _), (10, _), (11, .b (.one (.int .u64 x_4))), (12, .b (.one (.int .u64 x_5)))], [(1, _), (101, _)]⟩) rfl ⟨fun _ => .p om, fun _ => .p om, fun _ => .p (op_quo2 e4 rfl rfl), fun _ => .p om, fun _ => .p om, fun _ => .p (op_rem2 e5 rfl rfl), fun _ => .p oa, fun _ => .p oa, trivial⟩ rfl rfl ?_
 obtain ⟨v6, h7, h⟩ := bnd h
 refine Tri.seqJ (v := v6) (fun (d_6 : Int) => ⟨[(11, .b (.one (.int .u64 d_6)))], [(1, .box 183 ((eA17 .u32) u0v))]⟩) (fun z => z) ?_ ?_
 ·refine Tri.block (Tri.loopJ h7 (un2 fun (d_7 : Int) (rest_8 : Int) => ⟨[(0, Pt 1 0), (2, I n0), (3, I j0), (5, Pt 101 0), (10, .b (.one (.int .u64 (IntKind.u64.wrap x_3)))), (11, .b (.one (.int .u64 d_7))), (12, .b (.one (.int .u64 rest_8)))], [(1, .box 183 ((eA17 .u32) u0v)), (101, .box 33 (eW v0))]⟩) [0, 2, 3, 5, 10, 11, 12] [1, 101] rfl ?_)
  rintro ⟨d_7, rest_8⟩ o8 h9 hy10
  refine Tri.seq (Tri.seq ?_)
  refine Tri.keepS ⟨[(0, _), (2, _), (3, _), (5, _), (10, _), (11, _), (12, _)], [(1, _), (101, _)]⟩ rfl ?_
  obtain ⟨x_10, e18, h9⟩ := bnd h9
  obtain ⟨x_11, e31, h9⟩ := bnd h9
  refine Tri.regionY mixed 28 [.b (.one (.int .u64 rest_8)), B (decide (rest_8 < 4294967296)), B (decide (rest_8 < 4294967296)), .opt (decide (rest_8 < 4294967296)) (.one (.int .u64 d_7)), .opt (decide (rest_8 < 4294967296)) (.one (.bool (decide (4294967296 ≤ d_7)))), .opt (decide (rest_8 < 4294967296)) (.one (.bool (decide (4294967296 ≤ d_7)))), .opt ((decide (rest_8 < 4294967296)) && !(decide (4294967296 ≤ d_7))) (.one (.int .u64 d_7)), .opt ((decide (rest_8 < 4294967296)) && !(decide (4294967296 ≤ d_7))) (.one (.i n0)), .opt ((decide (rest_8 < 4294967296)) && !(decide (4294967296 ≤ d_7))) (.one (.i (IntKind.i64.wrap (n0 - 2)))), .opt ((decide (rest_8 < 4294967296)) && !(decide (4294967296 ≤ d_7))) (.ptr 101 (0 + (IntKind.i64.wrap (n0 - 2) : Int).toNat * 1)), .opt ((decide (rest_8 < 4294967296)) && !(decide (4294967296 ≤ d_7))) (.one (.int .u32 x_10)), .opt ((decide (rest_8 < 4294967296)) && !(decide (4294967296 ≤ d_7))) (.one (.int .u64 (IntKind.u64.wrap x_10))), .opt ((decide (rest_8 < 4294967296)) && !(decide (4294967296 ≤ d_7))) (.one (.int .u64 (IntKind.u64.wrap (d_7 * (IntKind.u64.wrap x_10))))), .opt ((decide (rest_8 < 4294967296)) && !(decide (4294967296 ≤ d_7))) (.one (.int .u64 rest_8)), .opt ((decide (rest_8 < 4294967296)) && !(decide (4294967296 ≤ d_7))) (.one (.int .u64 (IntKind.u64.wrap (rest_8 * 4294967296)))), .opt ((decide (rest_8 < 4294967296)) && !(decide (4294967296 ≤ d_7))) (.ptr 1 0), .opt ((decide (rest_8 < 4294967296)) && !(decide (4294967296 ≤ d_7))) (.one (.i j0)), .opt ((decide (rest_8 < 4294967296)) && !(decide (4294967296 ≤ d_7))) (.one (.i n0)), .opt ((decide (rest_8 < 4294967296)) && !(decide (4294967296 ≤ d_7))) (.one (.i (IntKind.i64.wrap (j0 + n0)))), .opt ((decide (rest_8 < 4294967296)) && !(decide (4294967296 ≤ d_7))) (.one (.i (IntKind.i64.wrap ((IntKind.i64.wrap (j0 + n0)) - 2)))), .opt ((decide (rest_8 < 4294967296)) && !(decide (4294967296 ≤ d_7))) (.ptr 1 0), .opt ((decide (rest_8 < 4294967296)) && !(decide (4294967296 ≤ d_7))) (.ptr 1 (0 + (IntKind.i64.wrap ((IntKind.i64.wrap (j0 + n0)) - 2) : Int).toNat * 1)), .opt ((decide (rest_8 < 4294967296)) && !(decide (4294967296 ≤ d_7))) (.one (.int .u32 x_11)), .opt ((decide (rest_8 < 4294967296)) && !(decide (4294967296 ≤ d_7))) (.one (.int .u64 (IntKind.u64.wrap x_11))), .opt ((decide (rest_8 < 4294967296)) && !(decide (4294967296 ≤ d_7))) (.one (.int .u64 (ior .u64 (IntKind.u64.wrap (rest_8 * 4294967296)) (IntKind.u64.wrap x_11)))), .opt ((decide (rest_8 < 4294967296)) && !(decide (4294967296 ≤ d_7))) (.one (.bool (decide ((ior .u64 (IntKind.u64.wrap (rest_8 * 4294967296)) (IntKind.u64.wrap x_11)) < (IntKind.u64.wrap (d_7 * (IntKind.u64.wrap x_10))))))), .opt (decide (rest_8 < 4294967296)) (.one (.bool ((decide (4294967296 ≤ d_7)) || (decide ((ior .u64 (IntKind.u64.wrap (rest_8 * 4294967296)) (IntKind.u64.wrap x_11)) < (IntKind.u64.wrap (d_7 * (IntKind.u64.wrap x_10)))))))), B ((decide (rest_8 < 4294967296)) && ((decide (4294967296 ≤ d_7)) || (decide ((ior .u64 (IntKind.u64.wrap (rest_8 * 4294967296)) (IntKind.u64.wrap x_11)) < (IntKind.u64.wrap (d_7 * (IntKind.u64.wrap x_10)))))))] [0, 2, 3, 5, 10, 11, 12, 70] [1, 101] (s' := ⟨[(0, _), (2, _), (3, _), (5, _), (10, _), (11, _), (12, _), (70, B ((decide (rest_8 < 4294967296)) && ((decide (4294967296 ≤ d_7)) || (decide ((ior .u64 (IntKind.u64.wrap (rest_8 * 4294967296)) (IntKind.u64.wrap x_11)) < (IntKind.u64.wrap (d_7 * (IntKind.u64.wrap x_10))))))))], [(1, _), (101, _)]⟩) rfl ⟨fun _ => .p om, fun _ => .p (op_lss rfl rfl), fun _ => .p om, fun _ => by exact .guard (decide (rest_8 < 4294967296)) 1 [] (.plain rfl) (eq_t _) rfl rfl (fun g11 => trivial) (fun g11 => om), fun _ => by exact .guard (decide (rest_8 < 4294967296)) 2 [46] (.plain rfl) (eq_t _) rfl rfl (fun g12 => ⟨g12, trivial⟩) (fun g12 => op_geq rfl rfl), fun _ => by exact .guard (decide (rest_8 < 4294967296)) 3 [47] (.plain rfl) (eq_t _) rfl rfl (fun g13 => ⟨g13, trivial⟩) (fun g13 => om), fun _ => by exact .guard ((decide (rest_8 < 4294967296)) && !(decide (4294967296 ≤ d_7))) 1 [] (.under rfl) (and_f _ _) rfl rfl (fun g14 => trivial) (fun g14 => om), fun _ => by exact .guard ((decide (rest_8 < 4294967296)) && !(decide (4294967296 ≤ d_7))) 1 [] (.under rfl) (and_f _ _) rfl rfl (fun g15 => trivial) (fun g15 => om), fun _ => by exact .guard ((decide (rest_8 < 4294967296)) && !(decide (4294967296 ≤ d_7))) 2 [50] (.under rfl) (and_f _ _) rfl rfl (fun g16 => ⟨g16, trivial⟩) (fun g16 => op_sub rfl rfl), fun _ => by exact .guard ((decide (rest_8 < 4294967296)) && !(decide (4294967296 ≤ d_7))) 2 [51] (.under rfl) (and_f _ _) rfl rfl (fun g17 => ⟨g17, trivial⟩) (fun g17 => op_index_p tyArr33 (ix_lo (gc e18 g17)) (ix_hi (gc e18 g17)) rfl rfl rfl), fun _ => by exact .guard ((decide (rest_8 < 4294967296)) && !(decide (4294967296 ≤ d_7))) 2 [52] (.under rfl) (and_f _ _) rfl rfl (fun g19 => ⟨g19, trivial⟩) (fun g19 => op_load_p1 tyOne32 rfl rfl (arr_get (post := []) (k := .u32) [] (gc e18 g19) rfl rfl rfl)), fun _ => by exact .guard ((decide (rest_8 < 4294967296)) && !(decide (4294967296 ≤ d_7))) 2 [53] (.under rfl) (and_f _ _) rfl rfl (fun g20 => ⟨g20, trivial⟩) (fun g20 => op_conv_wrap undi32 undi54 rfl), fun _ => by exact .guard ((decide (rest_8 < 4294967296)) && !(decide (4294967296 ≤ d_7))) 3 [49, 54] (.under rfl) (and_f _ _) rfl rfl (fun g21 => ⟨g21, g21, trivial⟩) (fun g21 => op_mul rfl rfl), fun _ => by exact .guard ((decide (rest_8 < 4294967296)) && !(decide (4294967296 ≤ d_7))) 1 [] (.under rfl) (and_f _ _) rfl rfl (fun g22 => trivial) (fun g22 => om), fun _ => by exact .guard ((decide (rest_8 < 4294967296)) && !(decide (4294967296 ≤ d_7))) 2 [56] (.under rfl) (and_f _ _) rfl rfl (fun g23 => ⟨g23, trivial⟩) (fun g23 => op_shl0 (m := 32) (q := 4294967296) (by decide) rfl rfl (by decide)), fun _ => by exact .guard ((decide (rest_8 < 4294967296)) && !(decide (4294967296 ≤ d_7))) 1 [] (.under rfl) (and_f _ _) rfl rfl (fun g24 => trivial) (fun g24 => om), fun _ => by exact .guard ((decide (rest_8 < 4294967296)) && !(decide (4294967296 ≤ d_7))) 1 [] (.under rfl) (and_f _ _) rfl rfl (fun g25 => trivial) (fun g25 => om), fun _ => by exact .guard ((decide (rest_8 < 4294967296)) && !(decide (4294967296 ≤ d_7))) 1 [] (.under rfl) (and_f _ _) rfl rfl (fun g26 => trivial) (fun g26 => om), fun _ => by exact .guard ((decide (rest_8 < 4294967296)) && !(decide (4294967296 ≤ d_7))) 3 [59, 60] (.under rfl) (and_f _ _) rfl rfl (fun g27 => ⟨g27, g27, trivial⟩) (fun g27 => op_add rfl rfl), fun _ => by exact .guard ((decide (rest_8 < 4294967296)) && !(decide (4294967296 ≤ d_7))) 2 [61] (.under rfl) (and_f _ _) rfl rfl (fun g28 => ⟨g28, trivial⟩) (fun g28 => op_sub rfl rfl), fun _ => by exact .guard ((decide (rest_8 < 4294967296)) && !(decide (4294967296 ≤ d_7))) 2 [58] (.under rfl) (and_f _ _) rfl rfl (fun g29 => ⟨g29, trivial⟩) (fun g29 => op_nilCheck_p rfl), fun _ => by exact .guard ((decide (rest_8 < 4294967296)) && !(decide (4294967296 ≤ d_7))) 3 [62, 63] (.under rfl) (and_f _ _) rfl rfl (fun g30 => ⟨g30, g30, trivial⟩) (fun g30 => op_index_p tyArr183 (ix_lo (gc e31 g30)) (ix_hi (gc e31 g30)) rfl rfl rfl), fun _ => by exact .guard ((decide (rest_8 < 4294967296)) && !(decide (4294967296 ≤ d_7))) 2 [64] (.under rfl) (and_f _ _) rfl rfl (fun g32 => ⟨g32, trivial⟩) (fun g32 => op_load_p1 tyOne32 rfl rfl (arr_get (post := []) (k := .u32) [] (gc e31 g32) rfl rfl rfl)), fun _ => by exact .guard ((decide (rest_8 < 4294967296)) && !(decide (4294967296 ≤ d_7))) 2 [65] (.under rfl) (and_f _ _) rfl rfl (fun g33 => ⟨g33, trivial⟩) (fun g33 => op_conv_wrap undi32 undi54 rfl), fun _ => by exact .guard ((decide (rest_8 < 4294967296)) && !(decide (4294967296 ≤ d_7))) 3 [57, 66] (.under rfl) (and_f _ _) rfl rfl (fun g34 => ⟨g34, g34, trivial⟩) (fun g34 => op_or rfl rfl), fun _ => by exact .guard ((decide (rest_8 < 4294967296)) && !(decide (4294967296 ≤ d_7))) 3 [55, 67] (.under rfl) (and_f _ _) rfl rfl (fun g35 => ⟨g35, g35, trivial⟩) (fun g35 => op_gtr rfl rfl), fun _ => by exact .guard (decide (rest_8 < 4294967296)) 3 [48] (.plain rfl) (eq_t _) rfl rfl (fun g36 => ⟨g36, trivial⟩) (fun g36 => op_pick_or (fun e => by rw [g36, e]; rfl) rfl rfl rfl rfl), fun _ => .p (op_pick_and (fun e => e) rfl rfl rfl rfl), trivial⟩ rfl rfl ?_
  refine Tri.ite h9 rfl (fun _ h9 => ?_) (fun _ h9 => ?_)
  ·refine Tri.skip (Fin.keepS ⟨[(0, _), (2, _), (3, _), (5, _), (10, _), (11, _), (12, _)], [(1, _), (101, _)]⟩ rfl (Fin.then (Tri.block (Tri.seq (Tri.regionL ?_)))))
   refine Oc om (Oc (op_sub rfl rfl) (Oc oa ?_))
   refine OpsL.nilS ⟨[(0, _), (2, _), (3, _), (5, _), (10, _), (11, .b (.one (.int .u64 (IntKind.u64.wrap (d_7 - 1))))), (12, _)], [(1, _), (101, _)]⟩ rfl (Tri.regionL (Oc om (Oc om ?_)))
   refine OpsL.consI .u64 h9 rfl (op_add rfl rfl) (fun x_12 h9 => ?_)
   refine Oc oa (OpsL.nil (Fin.block_normal ?_))
   exact Fin.againJ [0, 2, 3, 5, 10, 11, 12] [1, 101] (IntKind.u64.wrap (d_7 - 1), x_12) (Option.some.inj h9) rfl
  ·refine Tri.exit (Fin.then_exit ?_)
   obtain rfl := hy10 _ (Option.some.inj h9).symm
   refine Fin.then_exit (Fin.block_exit ?_)
   exact Fin.join [11] [1] d_7 rfl rfl
 ·rintro d_6 hv
  subst v6
  refine Tri.seq (Tri.regionL ?_)
  refine Oc om (Oc oa ?_)
  refine OpsL.nilS ⟨[(8, .b (.one (.int .u64 d_6)))], [(1, _)]⟩ rfl (Tri.ret ?_)
  obtain rfl := Option.some.inj h
  refine Fin.keepS ⟨[(8, _)], [(1, _)]⟩ rfl ?_
  exact Fin.result [.one (.int .u64 d_6)] (.inl rfl) rfl (.cons (.tmp rfl) .nil) ⟨rfl, rfl⟩
def w_take_S (F : Nat) (v0 : A16) (n0 : Int) (j0 : Int) (d0 : Int) (u0v : A17) : Option (Bool × A17) :=
 Option.bind (iter F (un4 fun u_4 carry_5 borrow_6 x_7 => if (decide (x_7 < n0)) = true then ((idx? v0.l x_7).bind fun x_11 => letN (IntKind.u64.wrap (d0 * (IntKind.u64.wrap x_11))) fun x_12 => (idx? u_4.l (IntKind.i64.wrap (j0 + x_7))).bind fun x_13 => letN (IntKind.u32.wrap (IntKind.u64.wrap (carry_5 + x_12))) fun x_14 => letN (IntKind.u64.wrap ((IntKind.u64.wrap x_13) - (IntKind.u64.wrap x_14))) fun x_15 => letN (IntKind.u32.wrap (IntKind.u64.wrap (x_15 - borrow_6))) fun x_16 => (idx? u_4.l (IntKind.i64.wrap (j0 + x_7))).bind fun x_17 => letN ((IntKind.u64.wrap (x_15 - borrow_6)) / 9223372036854775808) fun x_18 => letN ((IntKind.u64.wrap (carry_5 + x_12)) / 4294967296) fun x_19 => some (.inl (u_4.set (IntKind.i64.wrap (j0 + x_7)) x_16, x_19, x_18, IntKind.i64.wrap (x_7 + 1)))) else (some (.inr (u_4, carry_5, borrow_6)))) (u0v, 0, 0, 0)) (un3 fun u_1 carry_2 borrow_3 => (idx? u_1.l (IntKind.i64.wrap (j0 + n0))).bind fun x_20 => letN (IntKind.u64.wrap ((IntKind.u64.wrap x_20) - carry_2)) fun x_21 => letN (IntKind.u32.wrap (IntKind.u64.wrap (x_21 - borrow_3))) fun x_22 => (idx? u_1.l (IntKind.i64.wrap (j0 + n0))).bind fun x_23 => letN ((IntKind.u64.wrap (x_21 - borrow_3)) / 9223372036854775808) fun x_24 => some (decide (x_24 = 1), u_1.set (IntKind.i64.wrap (j0 + n0)) x_22))
theorem w_take_spec {F : Nat} {v0 : A16} {n0 : Int} {j0 : Int} {d0 : Int} {u0v : A17} {r : Bool × A17} (h : w_take_S F v0 n0 j0 d0 u0v = some r) : Meets Tryz.prog (tabs mx) 143 [(1, .box 183 ((eA17 .u32) u0v))] [.ptr 1 0, .agg (eW v0), .one (.i n0), .one (.i j0), .one (.int .u64 d0)] (Is [(1, .box 183 ((eA17 .u32) r.2))] (.b (.one (.bool r.1)))) := by
 unfold w_take_S at h
 refine Meets.intro 78 Tryz.func143 Tryz.ntmps143 rfl (by simp) fun E => ?_
 show Tri _ E ⟨78, [1], [1], []⟩ _ ⟨[(0, Pt 1 0), (1, .b (.agg (eW v0))), (2, I n0), (3, I j0), (4, .b (.one (.int .u64 d0)))], [(1, .box 183 ((eA17 .u32) u0v))]⟩ _
 refine Tri.seq (Tri.regionL ?_)
 refine Oc (op_box (k := 101) rfl rfl) (Oc oa ?_)
 refine OpsL.nilS ⟨[(0, Pt 1 0), (2, I n0), (3, I j0), (4, .b (.one (.int .u64 d0))), (6, Pt 101 0)], [(1, .box 183 ((eA17 .u32) u0v)), (101, .box 33 (eW v0))]⟩ rfl (Tri.seq (Tri.regionL ?_))
 refine Oc oa (Oc oa ?_)
 refine OpsL.nilS ⟨[(0, _), (2, _), (3, _), (4, _), (6, _), (11, .b (.one (.int .u64 0))), (12, .b (.one (.int .u64 0)))], [(1, _), (101, _)]⟩ rfl ?_
 obtain ⟨v1, h2, h⟩ := bnd h
 refine Tri.seqJ (v := v1) (un3 fun (u_1 : A17) (carry_2 : Int) (borrow_3 : Int) => ⟨[(0, Pt 1 0), (2, I n0), (3, I j0), (11, .b (.one (.int .u64 carry_2))), (12, .b (.one (.int .u64 borrow_3)))], [(1, .box 183 ((eA17 .u32) u_1))]⟩) (fun z => z) ?_ ?_
 ·refine Tri.seq (Tri.regionL ?_)
  refine Oc om (Oc om ?_)
  refine OpsL.nilS ⟨[(0, _), (2, _), (3, _), (4, _), (6, _), (11, _), (12, _), (16, I n0), (17, I 0)], [(1, _), (101, _)]⟩ rfl (Tri.block (Tri.loopJ h2 (un4 fun (u_4 : A17) (carry_5 : Int) (borrow_6 : Int) (x_7 : Int) => ⟨[(0, Pt 1 0), (2, I n0), (3, I j0), (4, .b (.one (.int .u64 d0))), (6, Pt 101 0), (11, .b (.one (.int .u64 carry_5))), (12, .b (.one (.int .u64 borrow_6))), (16, I n0), (17, I x_7)], [(1, .box 183 ((eA17 .u32) u_4)), (101, .box 33 (eW v0))]⟩) [0, 2, 3, 4, 6, 11, 12, 16, 17] [1, 101] rfl ?_))
  rintro ⟨u_4, carry_5, borrow_6, x_7⟩ o3 h4 hy5
  refine Tri.seq (Tri.regionL ?_)
  refine Oc (op_lss rfl rfl) (OpsL.nilS ⟨[(0, _), (2, _), (3, _), (4, _), (6, _), (11, _), (12, _), (16, _), (17, _), (18, B (decide (x_7 < n0)))], [(1, _), (101, _)]⟩ rfl (Tri.seq (Tri.ite h4 rfl (fun _ h4 => ?_) (fun _ h4 => ?_))))
  ·refine Tri.skip (Fin.keepS ⟨[(0, _), (2, _), (3, _), (4, _), (6, _), (11, _), (12, _), (16, _), (17, _)], [(1, _), (101, _)]⟩ rfl (Fin.then (Tri.seq (Tri.block (Tri.seq (Tri.regionL ?_))))))
   refine Oc om (Oc oa ?_)
   refine OpsL.nilS ⟨[(0, _), (2, _), (3, _), (4, _), (6, _), (11, _), (12, _), (13, I x_7), (16, _), (17, _)], [(1, _), (101, _)]⟩ rfl (Tri.seq (Tri.regionL ?_))
   refine Oc om (Oc om (Oc om ?_))
   obtain ⟨x_11, e6, h4⟩ := bnd h4
   refine Oc (op_index_p tyArr33 (ix_lo e6) (ix_hi e6) rfl rfl rfl) (Oc (op_load_p1 tyOne32 rfl rfl (arr_get (post := []) (k := .u32) [] e6 rfl rfl rfl)) (Oc (op_conv_wrap undi32 undi54 rfl) ?_))
   refine OpsL.consI .u64 h4 rfl (op_mul rfl rfl) (fun x_12 h4 => ?_)
   refine Oc (op_add rfl rfl) (Oc oa ?_)
   refine OpsL.nilS ⟨[(0, _), (2, _), (3, _), (4, _), (6, _), (11, .b (.one (.int .u64 (IntKind.u64.wrap (carry_5 + x_12))))), (12, _), (13, _), (16, _), (17, _)], [(1, _), (101, _)]⟩ rfl (Tri.seq (Tri.regionL ?_))
   refine Oc om (Oc om (Oc om (Oc (op_add rfl rfl) (Oc (op_nilCheck_p rfl) ?_))))
   obtain ⟨x_13, e7, h4⟩ := bnd h4
   refine Oc (op_index_p tyArr183 (ix_lo e7) (ix_hi e7) rfl rfl rfl) (Oc (op_load_p1 tyOne32 rfl rfl (arr_get (post := []) (k := .u32) [] e7 rfl rfl rfl)) ?_)
   refine OpsL.keepS ⟨[(0, _), (2, _), (3, _), (4, _), (6, _), (11, _), (12, _), (13, _), (16, _), (17, _), (34, .b (.one (.int .u32 x_13)))], [(1, _), (101, _)]⟩ rfl (Oc (op_conv_wrap undi32 undi54 rfl) (Oc om ?_))
   refine OpsL.consI .u32 h4 rfl (op_conv_wrap undi54 undi32 rfl) (fun x_14 h4 => ?_)
   refine Oc (op_conv_wrap undi32 undi54 rfl) (OpsL.consI .u64 h4 rfl (op_sub rfl rfl) (fun x_15 h4 => ?_))
   refine Oc om (Oc (op_sub rfl rfl) (Oc oa ?_))
   refine OpsL.nilS ⟨[(0, _), (2, _), (3, _), (4, _), (6, _), (11, _), (13, _), (14, .b (.one (.int .u64 (IntKind.u64.wrap (x_15 - borrow_6))))), (16, _), (17, _)], [(1, _), (101, _)]⟩ rfl (Tri.seq (Tri.regionL ?_))
   refine Oc om (Oc om (Oc om (Oc (op_add rfl rfl) (Oc om ?_))))
   refine OpsL.consI .u32 h4 rfl (op_conv_wrap undi54 undi32 rfl) (fun x_16 h4 => ?_)
   refine Oc (op_nilCheck_p rfl) ?_
   obtain ⟨x_17, e8, h4⟩ := bnd h4
   refine Oc (op_index_p tyArr183 (ix_lo e8) (ix_hi e8) rfl rfl rfl) (Oc (op_store_p1 tyOne32 rfl rfl rfl (arr_lt (post := []) (k := .u32) [] e8 rfl rfl rfl) (arr_set (post := []) (k := .u32) [] e8 rfl rfl (A17.set_l u_4 (IntKind.i64.wrap (j0 + x_7)) x_16) rfl rfl)) ?_)
   refine OpsL.nilS ⟨[(0, _), (2, _), (3, _), (4, _), (6, _), (11, _), (14, _), (16, _), (17, _)], [(1, .box 183 ((eA17 .u32) (u_4.set (IntKind.i64.wrap (j0 + x_7)) x_16))), (101, _)]⟩ rfl (Tri.seq (Tri.regionL ?_))
   refine Oc om (OpsL.consI .u64 h4 rfl (op_shr2 (m := 63) (by decide) rfl rfl rfl) (fun x_18 h4 => ?_))
   refine Oc oa (OpsL.nilS ⟨[(0, _), (2, _), (3, _), (4, _), (6, _), (11, _), (12, .b (.one (.int .u64 x_18))), (16, _), (17, _)], [(1, _), (101, _)]⟩ rfl (Tri.regionL (Oc om (OpsL.consI .u64 h4 rfl (op_shr2 (m := 32) (by decide) rfl rfl rfl) (fun x_19 h4 => ?_)))))
   refine Oc oa (OpsL.nil (Fin.block_normal (Fin.keepS ⟨[(0, _), (2, _), (3, _), (4, _), (6, _), (11, .b (.one (.int .u64 x_19))), (12, _), (16, _), (17, _)], [(1, _), (101, _)]⟩ rfl (Fin.then (Tri.regionL ?_)))))
   refine Oc (op_add rfl rfl) (Oc om ?_)
   refine OpsL.nil ?_
   exact Fin.againJ [0, 2, 3, 4, 6, 11, 12, 16, 17] [1, 101] (u_4.set (IntKind.i64.wrap (j0 + x_7)) x_16, x_19, x_18, IntKind.i64.wrap (x_7 + 1)) (Option.some.inj h4) rfl
  ·refine Tri.exit (Fin.then_exit ?_)
   obtain rfl := hy5 _ (Option.some.inj h4).symm
   refine Fin.then_exit (Fin.block_exit ?_)
   exact Fin.join [0, 2, 3, 11, 12] [1] (u_4, carry_5, borrow_6) rfl rfl
 ·rintro ⟨u_1, carry_2, borrow_3⟩ hv
  subst v1
  refine Tri.seq (Tri.regionL ?_)
  refine Oc om (Oc om (Oc om (Oc (op_add rfl rfl) (Oc (op_nilCheck_p rfl) ?_))))
  obtain ⟨x_20, e9, h⟩ := bnd h
  refine Oc (op_index_p tyArr183 (ix_lo e9) (ix_hi e9) rfl rfl rfl) (Oc (op_load_p1 tyOne32 rfl rfl (arr_get (post := []) (k := .u32) [] e9 rfl rfl rfl)) ?_)
  refine OpsL.keepS ⟨[(0, _), (2, _), (3, _), (11, _), (12, _), (61, .b (.one (.int .u32 x_20)))], [(1, _)]⟩ rfl (Oc (op_conv_wrap undi32 undi54 rfl) (Oc om ?_))
  refine OpsL.consI .u64 h rfl (op_sub rfl rfl) (fun x_21 h => ?_)
  refine Oc om (Oc (op_sub rfl rfl) (Oc oa ?_))
  refine OpsL.nilS ⟨[(0, _), (2, _), (3, _), (15, .b (.one (.int .u64 (IntKind.u64.wrap (x_21 - borrow_3)))))], [(1, _)]⟩ rfl (Tri.seq (Tri.regionL ?_))
  refine Oc om (Oc om (Oc om (Oc (op_add rfl rfl) (Oc om ?_))))
  refine OpsL.consI .u32 h rfl (op_conv_wrap undi54 undi32 rfl) (fun x_22 h => ?_)
  refine Oc (op_nilCheck_p rfl) ?_
  obtain ⟨x_23, e10, h⟩ := bnd h
  refine Oc (op_index_p tyArr183 (ix_lo e10) (ix_hi e10) rfl rfl rfl) (Oc (op_store_p1 tyOne32 rfl rfl rfl (arr_lt (post := []) (k := .u32) [] e10 rfl rfl rfl) (arr_set (post := []) (k := .u32) [] e10 rfl rfl (A17.set_l u_1 (IntKind.i64.wrap (j0 + n0)) x_22) rfl rfl)) ?_)
  refine OpsL.nilS ⟨[(15, _)], [(1, .box 183 ((eA17 .u32) (u_1.set (IntKind.i64.wrap (j0 + n0)) x_22)))]⟩ rfl (Tri.seq (Tri.regionL ?_))
  refine Oc om (OpsL.consI .u64 h rfl (op_shr2 (m := 63) (by decide) rfl rfl rfl) (fun x_24 h => ?_))
  refine Oc (op_eql rfl rfl) (Oc oa ?_)
  refine OpsL.nilS ⟨[(10, B (decide (x_24 = 1)))], [(1, _)]⟩ rfl (Tri.ret ?_)
  obtain rfl := Option.some.inj h
  refine Fin.keepS ⟨[(10, _)], [(1, _)]⟩ rfl ?_
  exact Fin.result [.one (.bool (decide (x_24 = 1)))] (.inl rfl) rfl (.cons (.tmp rfl) .nil) ⟨rfl, rfl⟩
def w_give_S (F : Nat) (v0 : A16) (n0 : Int) (j0 : Int) (u0v : A17) : Option A17 :=
 Option.bind (iter F (un3 fun u_3 carry_4 x_5 => if (decide (x_5 < n0)) = true then ((idx? u_3.l (IntKind.i64.wrap (j0 + x_5))).bind fun x_8 => (idx? v0.l x_5).bind fun x_9 => letN (IntKind.u64.wrap (carry_4 + (IntKind.u64.wrap ((IntKind.u64.wrap x_8) + (IntKind.u64.wrap x_9))))) fun x_10 => (idx? u_3.l (IntKind.i64.wrap (j0 + x_5))).bind fun x_11 => letN (IntKind.u64.wrap (carry_4 + (IntKind.u64.wrap ((IntKind.u64.wrap x_8) + (IntKind.u64.wrap x_9))))) fun x_12 => some (.inl (u_3.set (IntKind.i64.wrap (j0 + x_5)) (IntKind.u32.wrap x_10), x_12 / 4294967296, IntKind.i64.wrap (x_5 + 1)))) else (some (.inr (u_3, carry_4)))) (u0v, 0, 0)) (un2 fun u_1 carry_2 => (idx? u_1.l (IntKind.i64.wrap (j0 + n0))).bind fun x_13 => (idx? u_1.l (IntKind.i64.wrap (j0 + n0))).bind fun x_14 => some (u_1.set (IntKind.i64.wrap (j0 + n0)) (IntKind.u32.wrap (x_13 + (IntKind.u32.wrap carry_2)))))
theorem w_give_spec {F : Nat} {v0 : A16} {n0 : Int} {j0 : Int} {u0v : A17} {r : A17} (h : w_give_S F v0 n0 j0 u0v = some r) : Meets Tryz.prog (tabs mx) 144 [(1, .box 183 ((eA17 .u32) u0v))] [.ptr 1 0, .agg (eW v0), .one (.i n0), .one (.i j0)] (Is [(1, .box 183 ((eA17 .u32) r))] (.tup [])) := by
 unfold w_give_S at h
 refine Meets.intro 52 Tryz.func144 Tryz.ntmps144 rfl (by simp) fun E => ?_
 show Tri _ E ⟨52, [1], [1], []⟩ _ ⟨[(0, Pt 1 0), (1, .b (.agg (eW v0))), (2, I n0), (3, I j0)], [(1, .box 183 ((eA17 .u32) u0v))]⟩ _
 refine Tri.seq (Tri.regionL ?_)
 refine Oc (op_box (k := 101) rfl rfl) (OpsL.nilS ⟨[(0, Pt 1 0), (2, I n0), (3, I j0), (5, Pt 101 0)], [(1, .box 183 ((eA17 .u32) u0v)), (101, .box 33 (eW v0))]⟩ rfl (Tri.seq (Tri.regionL ?_)))
 refine Oc oa (OpsL.nilS ⟨[(0, _), (2, _), (3, _), (5, _), (8, .b (.one (.int .u64 0)))], [(1, _), (101, _)]⟩ rfl ?_)
 obtain ⟨v1, h2, h⟩ := bnd h
 refine Tri.seqJ (v := v1) (un2 fun (u_1 : A17) (carry_2 : Int) => ⟨[(0, Pt 1 0), (2, I n0), (3, I j0), (8, .b (.one (.int .u64 carry_2)))], [(1, .box 183 ((eA17 .u32) u_1))]⟩) (fun z => z) ?_ ?_
 ·refine Tri.seq (Tri.regionL ?_)
  refine Oc om (Oc om ?_)
  refine OpsL.nilS ⟨[(0, _), (2, _), (3, _), (5, _), (8, _), (10, I n0), (11, I 0)], [(1, _), (101, _)]⟩ rfl (Tri.block (Tri.loopJ h2 (un3 fun (u_3 : A17) (carry_4 : Int) (x_5 : Int) => ⟨[(0, Pt 1 0), (2, I n0), (3, I j0), (5, Pt 101 0), (8, .b (.one (.int .u64 carry_4))), (10, I n0), (11, I x_5)], [(1, .box 183 ((eA17 .u32) u_3)), (101, .box 33 (eW v0))]⟩) [0, 2, 3, 5, 8, 10, 11] [1, 101] rfl ?_))
  rintro ⟨u_3, carry_4, x_5⟩ o3 h4 hy5
  refine Tri.seq (Tri.regionL ?_)
  refine Oc (op_lss rfl rfl) (OpsL.nilS ⟨[(0, _), (2, _), (3, _), (5, _), (8, _), (10, _), (11, _), (12, B (decide (x_5 < n0)))], [(1, _), (101, _)]⟩ rfl (Tri.seq (Tri.ite h4 rfl (fun _ h4 => ?_) (fun _ h4 => ?_))))
  ·refine Tri.skip (Fin.keepS ⟨[(0, _), (2, _), (3, _), (5, _), (8, _), (10, _), (11, _)], [(1, _), (101, _)]⟩ rfl (Fin.then (Tri.seq (Tri.block (Tri.seq (Tri.regionL ?_))))))
   refine Oc om (Oc oa ?_)
   refine OpsL.nilS ⟨[(0, _), (2, _), (3, _), (5, _), (8, _), (9, I x_5), (10, _), (11, _)], [(1, _), (101, _)]⟩ rfl (Tri.seq ?_)
   obtain ⟨x_8, e6, h4⟩ := bnd h4
   obtain ⟨x_9, e7, h4⟩ := bnd h4
   refine Tri.regionY mixed 15 [.b (.one (.int .u64 carry_4)), Pt 1 0, I j0, I x_5, I (IntKind.i64.wrap (j0 + x_5)), Pt 1 0, .b (.ptr 1 (0 + (IntKind.i64.wrap (j0 + x_5) : Int).toNat * 1)), .b (.one (.int .u32 x_8)), .b (.one (.int .u64 (IntKind.u64.wrap x_8))), I x_5, .b (.ptr 101 (0 + (x_5 : Int).toNat * 1)), .b (.one (.int .u32 x_9)), .b (.one (.int .u64 (IntKind.u64.wrap x_9))), .b (.one (.int .u64 (IntKind.u64.wrap ((IntKind.u64.wrap x_8) + (IntKind.u64.wrap x_9))))), .b (.one (.int .u64 (IntKind.u64.wrap (carry_4 + (IntKind.u64.wrap ((IntKind.u64.wrap x_8) + (IntKind.u64.wrap x_9)))))))] [0, 2, 3, 5, 8, 9, 10, 11] [1, 101] (s' := ⟨[(0, _), (2, _), (3, _), (5, _), (8, .b (.one (.int .u64 (IntKind.u64.wrap (carry_4 + (IntKind.u64.wrap ((IntKind.u64.wrap x_8) + (IntKind.u64.wrap x_9)))))))), (9, _), (10, _), (11, _)], [(1, _), (101, _)]⟩) rfl ⟨fun _ => .p om, fun _ => .p om, fun _ => .p om, fun _ => .p om, fun _ => .p (op_add rfl rfl), fun _ => .p (op_nilCheck_p rfl), fun _ => .p (op_index_p tyArr183 (ix_lo e6) (ix_hi e6) rfl rfl rfl), fun _ => .p (op_load_p1 tyOne32 rfl rfl (arr_get (post := []) (k := .u32) [] e6 rfl rfl rfl)), fun _ => .p (op_conv_wrap undi32 undi54 rfl), fun _ => .p om, fun _ => .p (op_index_p tyArr33 (ix_lo e7) (ix_hi e7) rfl rfl rfl), fun _ => .p (op_load_p1 tyOne32 rfl rfl (arr_get (post := []) (k := .u32) [] e7 rfl rfl rfl)), fun _ => .p (op_conv_wrap undi32 undi54 rfl), fun _ => .p (op_add rfl rfl), fun _ => .p (op_add rfl rfl), trivial⟩ ⟨_, by exact .p oa, rfl⟩ rfl (Tri.seq (Tri.regionL ?_))
   refine Oc om (Oc om (Oc om (Oc (op_add rfl rfl) ?_)))
   refine OpsL.consI .u64 h4 rfl om (fun x_10 h4 => ?_)
   refine Oc (op_conv_wrap undi54 undi32 rfl) (Oc (op_nilCheck_p rfl) ?_)
   obtain ⟨x_11, e8, h4⟩ := bnd h4
   refine Oc (op_index_p tyArr183 (ix_lo e8) (ix_hi e8) rfl rfl rfl) (Oc (op_store_p1 tyOne32 rfl rfl rfl (arr_lt (post := []) (k := .u32) [] e8 rfl rfl rfl) (arr_set (post := []) (k := .u32) [] e8 rfl rfl (A17.set_l u_3 (IntKind.i64.wrap (j0 + x_5)) (IntKind.u32.wrap x_10)) rfl rfl)) ?_)
   refine OpsL.nilS ⟨[(0, _), (2, _), (3, _), (5, _), (8, _), (10, _), (11, _)], [(1, .box 183 ((eA17 .u32) (u_3.set (IntKind.i64.wrap (j0 + x_5)) (IntKind.u32.wrap x_10)))), (101, _)]⟩ rfl (Tri.regionL (OpsL.consI .u64 h4 rfl om (fun x_12 h4 => ?_)))
   refine Oc (op_shr2 (m := 32) (by decide) rfl rfl rfl) (Oc oa ?_)
   refine OpsL.nil (Fin.block_normal (Fin.keepS ⟨[(0, _), (2, _), (3, _), (5, _), (8, .b (.one (.int .u64 (x_12 / 4294967296)))), (10, _), (11, _)], [(1, _), (101, _)]⟩ rfl (Fin.then (Tri.regionL ?_))))
   refine Oc (op_add rfl rfl) (Oc om ?_)
   refine OpsL.nil ?_
   exact Fin.againJ [0, 2, 3, 5, 8, 10, 11] [1, 101] (u_3.set (IntKind.i64.wrap (j0 + x_5)) (IntKind.u32.wrap x_10), x_12 / 4294967296, IntKind.i64.wrap (x_5 + 1)) (Option.some.inj h4) rfl
  ·refine Tri.exit (Fin.then_exit ?_)
   obtain rfl := hy5 _ (Option.some.inj h4).symm
   refine Fin.then_exit (Fin.block_exit ?_)
   exact Fin.join [0, 2, 3, 8] [1] (u_3, carry_4) rfl rfl
 ·rintro ⟨u_1, carry_2⟩ hv
  subst v1
  refine Tri.keepS ⟨[(0, _), (2, _), (3, _), (8, _)], [(1, _)]⟩ rfl ?_
  obtain ⟨x_13, e9, h⟩ := bnd h
  obtain ⟨x_14, e10, h⟩ := bnd h
  refine Tri.regionYF mixed 12 [Pt 1 0, I j0, I n0, I (IntKind.i64.wrap (j0 + n0)), Pt 1 0, .b (.ptr 1 (0 + (IntKind.i64.wrap (j0 + n0) : Int).toNat * 1)), .b (.one (.int .u32 x_13)), .b (.one (.int .u64 carry_2)), .b (.one (.int .u32 (IntKind.u32.wrap carry_2))), .b (.one (.int .u32 (IntKind.u32.wrap (x_13 + (IntKind.u32.wrap carry_2))))), Pt 1 0, .b (.ptr 1 (0 + (IntKind.i64.wrap (j0 + n0) : Int).toNat * 1))] [] [1] (s' := ⟨[], [(1, .box 183 ((eA17 .u32) (u_1.set (IntKind.i64.wrap (j0 + n0)) (IntKind.u32.wrap (x_13 + (IntKind.u32.wrap carry_2))))))]⟩) rfl ⟨fun _ => .p om, fun _ => .p om, fun _ => .p om, fun _ => .p (op_add rfl rfl), fun _ => .p (op_nilCheck_p rfl), fun _ => .p (op_index_p tyArr183 (ix_lo e9) (ix_hi e9) rfl rfl rfl), fun _ => .p (op_load_p1 tyOne32 rfl rfl (arr_get (post := []) (k := .u32) [] e9 rfl rfl rfl)), fun _ => .p om, fun _ => .p (op_conv_wrap undi54 undi32 rfl), fun _ => .p (op_add rfl rfl), fun _ => .p (op_nilCheck_p rfl), fun _ => .p (op_index_p tyArr183 (ix_lo e10) (ix_hi e10) rfl rfl rfl), trivial⟩ ⟨_, by exact .p (op_store_p1 tyOne32 rfl rfl rfl (arr_lt (post := []) (k := .u32) [] e10 rfl rfl rfl) (arr_set (post := []) (k := .u32) [] e10 rfl rfl (A17.set_l u_1 (IntKind.i64.wrap (j0 + n0)) (IntKind.u32.wrap (x_13 + (IntKind.u32.wrap carry_2)))) rfl rfl)), rfl⟩ rfl ?_
  obtain rfl := Option.some.inj h
  refine Fin.keepS ⟨[], [(1, _)]⟩ rfl ?_
  exact Fin.result [] (.inr rfl) rfl (.nil) ⟨rfl, rfl⟩
def w_down_S (F : Nat) (w0 : A16) (n0 : Int) : Option A16 :=
 Option.bind (iter F (un2 fun out_2 x_3 => if (decide (x_3 < 16)) = true then (Option.bind (Option.bind (if (decide ((IntKind.i64.wrap (x_3 + 1)) < 16)) = true then ((idx? w0.l (IntKind.i64.wrap (x_3 + 1))).bind fun x_7 => some (IntKind.u64.wrap x_7)) else (some 0)) (fun next_6 => letN (IntKind.u64.wrap (next_6 * 4294967296)) fun x_8 => (idx? w0.l x_3).bind fun x_9 => Option.bind (shr? .u64 (ior .u64 x_8 (IntKind.u64.wrap x_9)) n0) (fun x_10 => (idx? out_2.l x_3).bind fun x_11 => some (out_2.set x_3 (IntKind.u32.wrap x_10))))) (fun out_5 => some (.inl (out_5, IntKind.i64.wrap (x_3 + 1))))) else (some (.inr out_2))) (A16.zero, 0)) (fun out_1 => some out_1)
theorem w_down_spec {F : Nat} {w0 : A16} {n0 : Int} {r : A16} (h : w_down_S F w0 n0 = some r) : Meets Tryz.prog (tabs mx) 145 [] [.agg (eW w0), .one (.i n0)] (Is [] (.b (.agg (eW r)))) := by
 unfold w_down_S at h
 refine Meets.intro 33 Tryz.func145 Tryz.ntmps145 rfl (by simp) fun E => ?_
 show Tri _ E ⟨33, [], [], []⟩ _ ⟨[(0, .b (.agg (eW w0))), (1, I n0)], []⟩ _
 refine Tri.seq (Tri.regionL ?_)
 refine Oc (op_box (k := 101) rfl rfl) (Oc (op_alloc (k := 102) tyZero33 rfl) ?_)
 refine OpsL.nilS ⟨[(1, I n0), (2, Pt 101 0), (4, Pt 102 0)], [(101, .box 33 (eW w0)), (102, .box 33 (eW A16.zero))]⟩ rfl (Tri.seq (Tri.regionL ?_))
 refine Oc (op_alloc (k := 103) tyZero33 rfl) (OpsL.nilS ⟨[(1, _), (2, _), (4, _), (5, Pt 103 0)], [(101, _), (102, _), (103, .box 33 (eW A16.zero))]⟩ rfl ?_)
 obtain ⟨v1, h2, h⟩ := bnd h
 refine Tri.seqJ (v := v1) (fun (out_1 : A16) => ⟨[(4, Pt 102 0), (5, Pt 103 0)], [(102, .box 33 (eW A16.zero)), (103, .box 33 (eW out_1))]⟩) (fun z => z) ?_ ?_
 ·refine Tri.seq (Tri.regionL ?_)
  refine Oc om (OpsL.nilS ⟨[(1, _), (2, _), (4, _), (5, _), (8, I 0)], [(101, _), (102, _), (103, _)]⟩ rfl (Tri.block (Tri.loopJ h2 (un2 fun (out_2 : A16) (x_3 : Int) => ⟨[(1, I n0), (2, Pt 101 0), (4, Pt 102 0), (5, Pt 103 0), (8, I x_3)], [(101, .box 33 (eW w0)), (102, .box 33 (eW A16.zero)), (103, .box 33 (eW out_2))]⟩) [1, 2, 4, 5, 8] [101, 102, 103] rfl ?_)))
  rintro ⟨out_2, x_3⟩ o3 h4 hy5
  refine Tri.seq (Tri.regionL ?_)
  refine Oc (op_lss rfl rfl) (OpsL.nilS ⟨[(1, _), (2, _), (4, _), (5, _), (8, _), (9, B (decide (x_3 < 16)))], [(101, _), (102, _), (103, _)]⟩ rfl (Tri.seq (Tri.ite h4 rfl (fun _ h4 => ?_) (fun _ h4 => ?_))))
  ·refine Tri.skip (Fin.keepS ⟨[(1, _), (2, _), (4, _), (5, _), (8, _)], [(101, _), (102, _), (103, _)]⟩ rfl (Fin.then ?_))
   obtain ⟨v6, h7, h4⟩ := bnd h4
   refine Tri.seqJ (v := v6) (fun (out_5 : A16) => ⟨[(1, I n0), (2, Pt 101 0), (4, Pt 102 0), (5, Pt 103 0), (8, I x_3)], [(101, .box 33 (eW w0)), (102, .box 33 (eW A16.zero)), (103, .box 33 (eW out_5))]⟩) (fun z => z) ?_ ?_
   ·refine Tri.block (Tri.seq (Tri.regionL ?_))
    refine Oc om (Oc oa ?_)
    refine OpsL.nilS ⟨[(1, _), (2, _), (4, _), (5, _), (6, I x_3), (8, _)], [(101, _), (102, _), (103, _)]⟩ rfl (Tri.seq (Tri.regionL ?_))
    refine Oc oa (OpsL.nilS ⟨[(1, _), (2, _), (4, _), (5, _), (6, _), (7, .b (.one (.int .u64 0))), (8, _)], [(101, _), (102, _), (103, _)]⟩ rfl ?_)
    obtain ⟨v8, h9, h7⟩ := bnd h7
    refine Tri.seqJ (v := v8) (fun (next_6 : Int) => ⟨[(1, I n0), (2, Pt 101 0), (4, Pt 102 0), (5, Pt 103 0), (6, I x_3), (7, .b (.one (.int .u64 next_6))), (8, I x_3)], [(101, .box 33 (eW w0)), (102, .box 33 (eW A16.zero)), (103, .box 33 (eW out_2))]⟩) (fun z => z) ?_ ?_
    ·refine Tri.seq (Tri.regionL ?_)
     refine Oc om (Oc (op_add rfl rfl) (Oc (op_lss rfl rfl) ?_))
     refine OpsL.nilS ⟨[(1, _), (2, _), (4, _), (5, _), (6, _), (7, _), (8, _), (13, B (decide ((IntKind.i64.wrap (x_3 + 1)) < 16)))], [(101, _), (102, _), (103, _)]⟩ rfl (Tri.ite h9 rfl (fun _ h9 => ?_) (fun _ h9 => ?_))
     ·refine Tri.regionL (Oc om (Oc (op_add rfl rfl) ?_))
      obtain ⟨x_7, e10, h9⟩ := bnd h9
      refine Oc (op_index_p tyArr33 (ix_lo e10) (ix_hi e10) rfl rfl rfl) (Oc (op_load_p1 tyOne32 rfl rfl (arr_get (post := []) (k := .u32) [] e10 rfl rfl rfl)) (Oc (op_conv_wrap undi32 undi54 rfl) (Oc oa ?_)))
      refine OpsL.nil ?_
      exact Fin.join [1, 2, 4, 5, 6, 7, 8] [101, 102, 103] (IntKind.u64.wrap x_7) (Option.some.inj h9) rfl
     ·refine Tri.skip ?_
      exact Fin.join [1, 2, 4, 5, 6, 7, 8] [101, 102, 103] 0 (Option.some.inj h9) rfl
    ·rintro next_6 hv
     subst v8
     refine Tri.regionL (Oc om (Oc om ?_))
     refine OpsL.consI .u64 h7 rfl (op_shl0 (m := 32) (q := 4294967296) (by decide) rfl rfl (by decide)) (fun x_8 h7 => ?_)
     refine Oc om ?_
     obtain ⟨x_9, e11, h7⟩ := bnd h7
     refine Oc (op_index_p tyArr33 (ix_lo e11) (ix_hi e11) rfl rfl rfl) (Oc (op_load_p1 tyOne32 rfl rfl (arr_get (post := []) (k := .u32) [] e11 rfl rfl rfl)) (Oc (op_conv_wrap undi32 undi54 rfl) ?_))
     refine OpsL.keepS ⟨[(1, _), (2, _), (4, _), (5, _), (8, _), (19, I x_3), (21, .b (.one (.int .u64 x_8))), (25, .b (.one (.int .u64 (IntKind.u64.wrap x_9))))], [(101, _), (102, _), (103, _)]⟩ rfl (Oc (op_or rfl rfl) (Oc om ?_))
     obtain ⟨x_10, e12, h7⟩ := bnd h7
     refine Oc (op_shr3 e12 rfl rfl) (Oc (op_conv_wrap undi54 undi32 rfl) ?_)
     obtain ⟨x_11, e13, h7⟩ := bnd h7
     refine Oc (op_index_p tyArr33 (ix_lo e13) (ix_hi e13) rfl rfl rfl) (Oc (op_store_p1 tyOne32 rfl rfl rfl (arr_lt (post := []) (k := .u32) [] e13 rfl rfl rfl) (arr_set (post := []) (k := .u32) [] e13 rfl rfl (A16.set_l out_2 x_3 (IntKind.u32.wrap x_10)) rfl rfl)) ?_)
     refine OpsL.nil (Fin.block_normal ?_)
     exact Fin.join [1, 2, 4, 5, 8] [101, 102, 103] (out_2.set x_3 (IntKind.u32.wrap x_10)) (Option.some.inj h7) rfl
   ·rintro out_5 hv
    subst v6
    refine Tri.regionL (Oc (op_add rfl rfl) (Oc om ?_))
    refine OpsL.nil ?_
    exact Fin.againJ [1, 2, 4, 5, 8] [101, 102, 103] (out_5, IntKind.i64.wrap (x_3 + 1)) (Option.some.inj h4) rfl
  ·refine Tri.exit (Fin.then_exit ?_)
   obtain rfl := hy5 _ (Option.some.inj h4).symm
   refine Fin.then_exit (Fin.block_exit ?_)
   exact Fin.join [4, 5] [102, 103] out_2 rfl rfl
 ·rintro out_1 hv
  subst v1
  refine Tri.seq (Tri.regionL ?_)
  refine Oc (lp tyAgg33) (Oc (op_store_p tyAgg33 rfl rfl rfl rfl (Nat.le_of_ble_eq_true rfl) rfl) ?_)
  refine OpsL.nilS ⟨[(4, _)], [(102, .box 33 (eW out_1))]⟩ rfl (Tri.ret ?_)
  obtain rfl := Option.some.inj h
  refine Fin.keepS ⟨[(4, _)], [(102, _)]⟩ rfl (Fin.result' [.agg (eW out_1)] (.inl rfl) rfl (.cons (.agg tyAgg33 rfl rfl rfl rfl) .nil) ⟨rfl, rfl⟩)
def w_quotient_S (F : Nat) (a0 : A16) (b0 : A16) : Option (A16 × A16) :=
 (w_size_S F b0).bind fun x_1 => (w_size_S F a0).bind fun x_2 => (w_order_S F a0 b0).bind fun x_3 => if (decide (x_3 < 0)) = true then (some (A16.zero, a0)) else (if (decide (x_1 = 1)) = true then (Option.bind (w_short_S F a0 b0.a0) (un2 fun x_4 x_5 => letN (⟨x_5, 0, 0, 0, 0, 0, 0, 0, 0, 0, 0, 0, 0, 0, 0, 0⟩ : A16) fun x_6 => some (x_4, x_6))) else ((idx? b0.l (IntKind.i64.wrap (x_1 - 1))).bind fun x_7 => (bits_LeadingZeros32_S F x_7).bind fun x_8 => Option.bind (w_up_S F b0 x_8) (un2 fun x_9 x_10 => Option.bind (w_up_S F a0 x_8) (un2 fun x_11 x_12 => Option.bind (iter F (un3 fun q_15 u_16 j_17 => if (decide (0 ≤ j_17)) = true then (Option.bind ((w_guess_S F x_9 x_1 j_17 u_16).bind fun x_22 => Option.bind (Option.bind (w_take_S F x_9 x_1 j_17 x_22 u_16) (un2 fun x_25 x_26 => if x_25 = true then ((w_give_S F x_9 x_1 j_17 x_26).bind fun x_27 => some (x_27, IntKind.u64.wrap (x_22 - 1))) else (some (x_26, x_22)))) (un2 fun u_23 d_24 => (idx? q_15.l j_17).bind fun x_28 => some (q_15.set j_17 (IntKind.u32.wrap d_24), u_23))) (un2 fun q_20 u_21 => some (.inl (q_20, u_21, IntKind.i64.wrap (j_17 - 1))))) else (some (.inr (q_15, u_16)))) (A16.zero, (⟨(A17.of (spliceE A17.zero.l 0 ((x_11.l.drop 0).take 16))).a0, (A17.of (spliceE A17.zero.l 0 ((x_11.l.drop 0).take 16))).a1, (A17.of (spliceE A17.zero.l 0 ((x_11.l.drop 0).take 16))).a2, (A17.of (spliceE A17.zero.l 0 ((x_11.l.drop 0).take 16))).a3, (A17.of (spliceE A17.zero.l 0 ((x_11.l.drop 0).take 16))).a4, (A17.of (spliceE A17.zero.l 0 ((x_11.l.drop 0).take 16))).a5, (A17.of (spliceE A17.zero.l 0 ((x_11.l.drop 0).take 16))).a6, (A17.of (spliceE A17.zero.l 0 ((x_11.l.drop 0).take 16))).a7, (A17.of (spliceE A17.zero.l 0 ((x_11.l.drop 0).take 16))).a8, (A17.of (spliceE A17.zero.l 0 ((x_11.l.drop 0).take 16))).a9, (A17.of (spliceE A17.zero.l 0 ((x_11.l.drop 0).take 16))).a10, (A17.of (spliceE A17.zero.l 0 ((x_11.l.drop 0).take 16))).a11, (A17.of (spliceE A17.zero.l 0 ((x_11.l.drop 0).take 16))).a12, (A17.of (spliceE A17.zero.l 0 ((x_11.l.drop 0).take 16))).a13, (A17.of (spliceE A17.zero.l 0 ((x_11.l.drop 0).take 16))).a14, (A17.of (spliceE A17.zero.l 0 ((x_11.l.drop 0).take 16))).a15, x_12⟩ : A17), IntKind.i64.wrap (x_2 - x_1))) (un2 fun q_13 u_14 => (w_down_S F (⟨u_14.a0, u_14.a1, u_14.a2, u_14.a3, u_14.a4, u_14.a5, u_14.a6, u_14.a7, u_14.a8, u_14.a9, u_14.a10, u_14.a11, u_14.a12, u_14.a13, u_14.a14, u_14.a15⟩ : A16) x_8).bind fun x_29 => some (q_13, x_29))))))
theorem w_quotient_spec {F : Nat} {a0 : A16} {b0 : A16} {r : A16 × A16} (h : w_quotient_S F a0 b0 = some r) : Meets Tryz.prog (tabs mx) 105 [] [.agg (eW a0), .agg (eW b0)] (Is [] (.tup [.agg (eW r.1), .agg (eW r.2)])) := by
 unfold w_quotient_S at h
 refine Meets.intro 94 Tryz.func105 Tryz.ntmps105 rfl (by simp) fun E => ?_
 show Tri _ E ⟨94, [], [], []⟩ _ ⟨[(0, .b (.agg (eW a0))), (1, .b (.agg (eW b0)))], []⟩ _
 refine Tri.seq (Tri.regionL ?_)
 refine Oc (op_box (k := 101) rfl rfl) (Oc (op_box (k := 102) rfl rfl) (Oc (op_alloc (k := 103) tyZero33 rfl) (Oc (op_alloc (k := 104) tyZero33 rfl) ?_)))
 refine OpsL.nilS ⟨[(2, Pt 101 0), (3, Pt 102 0), (4, Pt 103 0), (5, Pt 104 0)], [(101, .box 33 (eW a0)), (102, .box 33 (eW b0)), (103, .box 33 (eW A16.zero)), (104, .box 33 (eW A16.zero))]⟩ rfl (Tri.seq ?_)
 obtain ⟨x_1, e1, h⟩ := bnd h
 obtain ⟨x_2, e2, h⟩ := bnd h
 refine Tri.regionY mixed 6 [.b (.agg (eW b0)), I x_1, .b (.agg (eW a0)), I x_2, I x_1, I x_2] [2, 3, 4, 5, 6, 7] [101, 102, 103, 104] (s' := ⟨[(2, _), (3, _), (4, _), (5, _), (6, I x_1), (7, I x_2)], [(101, _), (102, _), (103, _), (104, _)]⟩) rfl ⟨fun _ => .p (lp tyAgg33), fun _ => .p (op_call0 (w_size_spec e1) goes104 rfl rfl), fun _ => .p (lp tyAgg33), fun _ => .p (op_call0 (w_size_spec e2) goes104 rfl rfl), fun _ => .p oa, fun _ => .p oa, trivial⟩ rfl rfl (Tri.seq (Tri.seq (Tri.regionL ?_)))
 refine Oc (lp tyAgg33) (Oc (lp tyAgg33) ?_)
 obtain ⟨x_3, e3, h⟩ := bnd h
 refine Oc (op_call0 (w_order_spec e3) goes109 rfl rfl) (Oc (op_lss rfl rfl) ?_)
 refine OpsL.nilS ⟨[(2, _), (3, _), (4, _), (5, _), (6, _), (7, _), (25, B (decide (x_3 < 0)))], [(101, _), (102, _), (103, _), (104, _)]⟩ rfl (Tri.ite h rfl (fun _ h => ?_) (fun _ h => ?_))
 ·refine Tri.seq (Tri.keepS ⟨[(2, _), (4, _), (5, _)], [(101, _), (103, _), (104, _)]⟩ rfl (Tri.regionW mixed [false, false, true, true] [.b (.agg (eW A16.zero)), .b (.agg (eW a0)), B true, B true] [⟨[false, false, false, false], [(2, Pt 101 0), (4, Pt 103 0), (5, Pt 104 0)], [(101, .box 33 (eW a0)), (103, .box 33 (eW A16.zero)), (104, .box 33 (eW A16.zero))], [true, true, true, true], [], [3]⟩, ⟨[false, false, true, false], [(2, Pt 101 0), (4, Pt 103 0), (5, Pt 104 0)], [(101, .box 33 (eW a0)), (103, .box 33 (eW A16.zero)), (104, .box 33 (eW A16.zero))], [true, true, true, true], [0, 2], []⟩, ⟨[false, false, true, true], [(2, Pt 101 0), (4, Pt 103 0), (5, Pt 104 0)], [(101, .box 33 (eW a0)), (103, .box 33 (eW A16.zero)), (104, .box 33 (eW a0))], [true, true, true, true], [0, 1, 2, 3], []⟩] rfl (⟨by kernel_rfl, ⟨⟨.b (.agg (eW A16.zero)), fun _ => rfl, fun _ => .p (by exact op_buildA tyBuild33 rfl rfl)⟩, ⟨.b (.agg (eW a0)), fun _ => rfl, fun _ => .p (by exact op_load_p tyAgg33 rfl rfl rfl rfl)⟩, ⟨_, [], .b (.one .any), rfl, (fun e => by simp at e), rfl, rfl, fun _ => .toO [101, 103, 104] (by exact .p (by exact op_store_p tyAgg33 rfl rfl rfl rfl (Nat.le_of_ble_eq_true rfl) rfl)) (by exact rfl)⟩, trivial, trivial⟩, ⟨by kernel_rfl, ⟨trivial, ⟨.b (.agg (eW a0)), fun _ => rfl, fun _ => .p (by exact op_load_p tyAgg33 rfl rfl rfl rfl)⟩, trivial, ⟨_, [], .b (.one .any), rfl, (fun e => by simp at e), rfl, rfl, fun _ => .toO [101, 103, 104] (by exact .p (by exact op_store_p tyAgg33 rfl rfl rfl rfl (Nat.le_of_ble_eq_true rfl) rfl)) (by exact rfl)⟩, trivial⟩, ⟨by kernel_rfl, ⟨trivial, trivial, trivial, trivial, trivial⟩, trivial⟩⟩⟩) rfl rfl rfl [4, 5] [103, 104] (s' := ⟨[(4, _), (5, _)], [(103, _), (104, .box 33 (eW a0))]⟩) rfl (Tri.ret (Fin.then_ret ?_))))
  obtain rfl := Option.some.inj h
  refine Fin.keepS ⟨[(4, _), (5, _)], [(103, _), (104, _)]⟩ rfl (Fin.result' [.agg (eW A16.zero), .agg (eW a0)] (.inl rfl) rfl (.cons (.agg tyAgg33 rfl rfl rfl rfl) (.cons (.agg tyAgg33 rfl rfl rfl rfl) .nil)) ⟨rfl, rfl⟩)
 ·refine Tri.skip (Fin.keepS ⟨[(2, _), (3, _), (4, _), (5, _), (6, _), (7, _)], [(101, _), (102, _), (103, _), (104, _)]⟩ rfl (Fin.then (Tri.seq (Tri.seq (Tri.regionL ?_)))))
  refine Oc om (Oc (op_eql rfl rfl) ?_)
  refine OpsL.nilS ⟨[(2, _), (3, _), (4, _), (5, _), (6, _), (7, _), (29, B (decide (x_1 = 1)))], [(101, _), (102, _), (103, _), (104, _)]⟩ rfl (Tri.ite h rfl (fun _ h => ?_) (fun _ h => ?_))
  ·refine Tri.seq (Tri.regionL ?_)
   refine Oc (lp tyAgg33) (Oc (op_index_p tyArr33 (by decide) (by decide) rfl rfl rfl) (Oc (op_load_p1 tyOne32 rfl rfl rfl) ?_))
   obtain ⟨⟨x_4, x_5⟩, e4, h⟩ := bnd h
   refine Oc (op_call0 (w_short_spec e4) goes139 rfl rfl) (Oc om ?_)
   refine OpsL.keepS ⟨[(4, _), (5, _), (30, .tup [.agg (eW x_4), .one (.int .u32 x_5)])], [(103, _), (104, _)]⟩ rfl (Oc (op_extract rfl rfl) (Oc (op_extract rfl rfl) (Oc (op_alloc (k := 105) tyZero33 rfl) (Oc (op_store_p tyAgg33 rfl rfl rfl rfl (Nat.le_of_ble_eq_true rfl) rfl) (Oc oa ?_)))))
   refine OpsL.nilS ⟨[(4, _), (5, _), (8, Pt 105 0), (9, .b (.one (.int .u32 x_5)))], [(103, _), (104, _), (105, .box 33 (eW x_4))]⟩ rfl (Tri.seq (Tri.regionL ?_))
   refine Oc (lp tyAgg33) (Oc om ?_)
   refine OpsL.consA eW h rfl (op_buildA tyBuild33 rfl rfl) (fun x_6 h => ?_)
   refine Oc (op_store_p tyAgg33 rfl rfl rfl rfl (Nat.le_of_ble_eq_true rfl) rfl) (Oc (op_store_p tyAgg33 rfl rfl rfl rfl (Nat.le_of_ble_eq_true rfl) rfl) ?_)
   refine OpsL.nilS ⟨[(4, _), (5, _)], [(103, .box 33 (eW x_4)), (104, .box 33 (eW x_6))]⟩ rfl (Tri.ret (Fin.then_ret ?_))
   obtain rfl := Option.some.inj h
   refine Fin.keepS ⟨[(4, _), (5, _)], [(103, _), (104, _)]⟩ rfl (Fin.result' [.agg (eW x_4), .agg (eW x_6)] (.inl rfl) rfl (.cons (.agg tyAgg33 rfl rfl rfl rfl) (.cons (.agg tyAgg33 rfl rfl rfl rfl) .nil)) ⟨rfl, rfl⟩)
  ·refine Tri.skip (Fin.keepS ⟨[(2, _), (3, _), (4, _), (5, _), (6, _), (7, _)], [(101, _), (102, _), (103, _), (104, _)]⟩ rfl (Fin.then (Tri.seq (Tri.regionL ?_))))
   refine Oc om (Oc (op_sub rfl rfl) ?_)
   obtain ⟨x_7, e5, h⟩ := bnd h
   refine Oc (op_index_p tyArr33 (ix_lo e5) (ix_hi e5) rfl rfl rfl) (Oc (op_load_p1 tyOne32 rfl rfl (arr_get (post := []) (k := .u32) [] e5 rfl rfl rfl)) ?_)
   obtain ⟨x_8, e6, h⟩ := bnd h
   refine Oc (op_call0 (bits_LeadingZeros32_spec e6) goes140 rfl rfl) (Oc oa ?_)
   refine OpsL.nilS ⟨[(2, _), (3, _), (4, _), (5, _), (6, _), (7, _), (10, I x_8)], [(101, _), (102, _), (103, _), (104, _)]⟩ rfl (Tri.seq (Tri.regionL ?_))
   refine Oc (lp tyAgg33) (Oc om ?_)
   obtain ⟨⟨x_9, x_10⟩, e7, h⟩ := bnd h
   refine Oc (op_call0 (w_up_spec e7) goes141 rfl rfl) (Oc om (Oc (op_extract rfl rfl) ?_))
   refine OpsL.keepS ⟨[(2, _), (4, _), (5, _), (6, _), (7, _), (10, _), (45, .tup [.agg (eW x_9), .one (.int .u32 x_10)]), (49, .b (.agg (eW x_9)))], [(101, _), (103, _), (104, _)]⟩ rfl (Oc (op_extract rfl rfl) (Oc (op_alloc (k := 106) tyZero33 rfl) (Oc (op_store_p tyAgg33 rfl rfl rfl rfl (Nat.le_of_ble_eq_true rfl) rfl) (Oc oa ?_))))
   refine OpsL.nilS ⟨[(2, _), (4, _), (5, _), (6, _), (7, _), (10, _), (11, Pt 106 0)], [(101, _), (103, _), (104, _), (106, .box 33 (eW x_9))]⟩ rfl (Tri.seq (Tri.regionL ?_))
   refine Oc (lp tyAgg33) (Oc om ?_)
   obtain ⟨⟨x_11, x_12⟩, e8, h⟩ := bnd h
   refine Oc (op_call0 (w_up_spec e8) goes141 rfl rfl) (Oc om (Oc (op_extract rfl rfl) ?_))
   refine OpsL.keepS ⟨[(4, _), (5, _), (6, _), (7, _), (10, _), (11, _), (51, .tup [.agg (eW x_11), .one (.int .u32 x_12)]), (55, .b (.agg (eW x_11)))], [(103, _), (104, _), (106, _)]⟩ rfl (Oc (op_extract rfl rfl) (Oc (op_alloc (k := 107) tyZero33 rfl) (Oc (op_store_p tyAgg33 rfl rfl rfl rfl (Nat.le_of_ble_eq_true rfl) rfl) (Oc oa ?_))))
   refine OpsL.nilS ⟨[(4, _), (5, _), (6, _), (7, _), (10, _), (11, _), (13, Pt 107 0), (14, .b (.one (.int .u32 x_12)))], [(103, _), (104, _), (106, _), (107, .box 33 (eW x_11))]⟩ rfl (Tri.seq (Tri.regionL ?_))
   refine Oc (op_alloc (k := 108) tyZero183 rfl) (OpsL.nilS ⟨[(4, _), (5, _), (6, _), (7, _), (10, _), (11, _), (13, _), (14, _), (15, Pt 108 0)], [(103, _), (104, _), (106, _), (107, _), (108, .box 183 ((eA17 .u32) A17.zero))]⟩ rfl (Tri.seq (Tri.regionY mixed 2 [.b (.psl 108 0 17 17), .b (.psl 107 0 16 16)] [4, 5, 6, 7, 10, 11, 14, 15] [103, 104, 106, 108] (s' := ⟨[(4, _), (5, _), (6, _), (7, _), (10, _), (11, _), (14, _), (15, _)], [(103, _), (104, _), (106, _), (108, .box 183 ((eA17 .u32) (A17.of (spliceE A17.zero.l 0 ((x_11.l.drop 0).take 16)))))]⟩) rfl ⟨fun _ => .p (op_slice_a tyArr183 (by decide) rfl), fun _ => .p (op_slice_a tyArr33 (by decide) rfl), trivial⟩ ⟨_, by exact .p (op_copy_psl (m := 16) tySl135 (by decide) (by first | decide | (show 16 ≤ 9223372036854775807; omega)) rfl rfl rfl rfl (by first | decide | (show 0 + 16 ≤ 17; omega)) (by first | decide | (show 0 + 16 ≤ 16; omega)) (splice_arr (a := 0) (a2 := 0) (off := 0) (off2 := 0) (post := []) (post2 := []) (l := A17.zero.l) (l2 := x_11.l) (kd := .u32) (lo := 0) (lo2 := 0) [] [] rfl rfl rfl rfl (by rfl) (by rfl) (by first | decide | (show 0 + 16 ≤ 17; omega)) (by first | decide | (show 0 + 16 ≤ 16; omega)) (A17.l_of (spliceE_lenA rfl (by first | decide | (show 0 + 16 ≤ 17; omega)) (by first | decide | (show 0 + 16 ≤ 16; omega)))) rfl)), rfl⟩ rfl (Tri.seq (Tri.regionL ?_)))))
   refine Oc om (Oc (op_index_p tyArr183 (by decide) (by decide) rfl rfl rfl) (Oc (op_store_p1 tyOne32 rfl rfl rfl (Nat.le_of_ble_eq_true rfl) rfl) ?_))
   refine OpsL.nilS ⟨[(4, _), (5, _), (6, _), (7, _), (10, _), (11, _), (15, _)], [(103, _), (104, _), (106, _), (108, .box 183 [.int .u32 ((A17.of (spliceE A17.zero.l 0 ((x_11.l.drop 0).take 16))).a0), .int .u32 ((A17.of (spliceE A17.zero.l 0 ((x_11.l.drop 0).take 16))).a1), .int .u32 ((A17.of (spliceE A17.zero.l 0 ((x_11.l.drop 0).take 16))).a2), .int .u32 ((A17.of (spliceE A17.zero.l 0 ((x_11.l.drop 0).take 16))).a3), .int .u32 ((A17.of (spliceE A17.zero.l 0 ((x_11.l.drop 0).take 16))).a4), .int .u32 ((A17.of (spliceE A17.zero.l 0 ((x_11.l.drop 0).take 16))).a5), .int .u32 ((A17.of (spliceE A17.zero.l 0 ((x_11.l.drop 0).take 16))).a6), .int .u32 ((A17.of (spliceE A17.zero.l 0 ((x_11.l.drop 0).take 16))).a7), .int .u32 ((A17.of (spliceE A17.zero.l 0 ((x_11.l.drop 0).take 16))).a8), .int .u32 ((A17.of (spliceE A17.zero.l 0 ((x_11.l.drop 0).take 16))).a9), .int .u32 ((A17.of (spliceE A17.zero.l 0 ((x_11.l.drop 0).take 16))).a10), .int .u32 ((A17.of (spliceE A17.zero.l 0 ((x_11.l.drop 0).take 16))).a11), .int .u32 ((A17.of (spliceE A17.zero.l 0 ((x_11.l.drop 0).take 16))).a12), .int .u32 ((A17.of (spliceE A17.zero.l 0 ((x_11.l.drop 0).take 16))).a13), .int .u32 ((A17.of (spliceE A17.zero.l 0 ((x_11.l.drop 0).take 16))).a14), .int .u32 ((A17.of (spliceE A17.zero.l 0 ((x_11.l.drop 0).take 16))).a15), .int .u32 x_12])]⟩ rfl ?_
   obtain ⟨v9, h10, h⟩ := bnd h
   refine Tri.seqJ (v := v9) (un2 fun (q_13 : A16) (u_14 : A17) => ⟨[(4, Pt 103 0), (5, Pt 104 0), (10, I x_8), (15, Pt 108 0)], [(103, .box 33 (eW q_13)), (104, .box 33 (eW A16.zero)), (108, .box 183 ((eA17 .u32) u_14))]⟩) (fun z => z) ?_ ?_
   ·refine Tri.seq (Tri.regionL ?_)
    refine Oc om (Oc om (Oc (op_sub rfl rfl) (Oc oa ?_)))
    refine OpsL.nilS ⟨[(4, _), (5, _), (6, _), (10, _), (11, _), (15, _), (16, I (IntKind.i64.wrap (x_2 - x_1)))], [(103, _), (104, _), (106, _), (108, _)]⟩ rfl (Tri.block (Tri.loopJ h10 (un3 fun (q_15 : A16) (u_16 : A17) (j_17 : Int) => ⟨[(4, Pt 103 0), (5, Pt 104 0), (6, I x_1), (10, I x_8), (11, Pt 106 0), (15, Pt 108 0), (16, I j_17)], [(103, .box 33 (eW q_15)), (104, .box 33 (eW A16.zero)), (106, .box 33 (eW x_9)), (108, .box 183 ((eA17 .u32) u_16))]⟩) [4, 5, 6, 10, 11, 15, 16] [103, 104, 106, 108] rfl ?_))
    rintro ⟨q_15, u_16, j_17⟩ o11 h12 hy13
    refine Tri.seq (Tri.seq (Tri.regionL ?_))
    refine Oc om (Oc (op_geq rfl rfl) ?_)
    refine OpsL.nilS ⟨[(4, _), (5, _), (6, _), (10, _), (11, _), (15, _), (16, _), (66, B (decide (0 ≤ j_17)))], [(103, _), (104, _), (106, _), (108, _)]⟩ rfl (Tri.ite h12 rfl (fun _ h12 => ?_) (fun _ h12 => ?_))
    ·refine Tri.skip (Fin.keepS ⟨[(4, _), (5, _), (6, _), (10, _), (11, _), (15, _), (16, _)], [(103, _), (104, _), (106, _), (108, _)]⟩ rfl (Fin.then ?_))
     obtain ⟨v14, h15, h12⟩ := bnd h12
     refine Tri.seqJ (v := v14) (un2 fun (q_20 : A16) (u_21 : A17) => ⟨[(4, Pt 103 0), (5, Pt 104 0), (6, I x_1), (10, I x_8), (11, Pt 106 0), (15, Pt 108 0), (16, I j_17)], [(103, .box 33 (eW q_20)), (104, .box 33 (eW A16.zero)), (106, .box 33 (eW x_9)), (108, .box 183 ((eA17 .u32) u_21))]⟩) (fun z => z) ?_ ?_
     ·refine Tri.block (Tri.seq (Tri.regionL ?_))
      refine Oc (lp tyAgg33) (Oc om (Oc om ?_))
      obtain ⟨x_22, e16, h15⟩ := bnd h15
      refine Oc (op_call (own_a := [(108, _)]) ((w_guess_spec e16).sw 1 108) goes142 rfl ⟨rfl, trivial⟩ rfl rfl) (Oc oa ?_)
      refine OpsL.nilS ⟨[(4, _), (5, _), (6, _), (10, _), (11, _), (15, _), (16, _), (17, .b (.one (.int .u64 x_22)))], [(103, _), (104, _), (106, _), (108, _)]⟩ rfl ?_
      obtain ⟨v17, h18, h15⟩ := bnd h15
      refine Tri.seqJ (v := v17) (un2 fun (u_23 : A17) (d_24 : Int) => ⟨[(4, Pt 103 0), (5, Pt 104 0), (6, I x_1), (10, I x_8), (11, Pt 106 0), (15, Pt 108 0), (16, I j_17), (17, .b (.one (.int .u64 d_24)))], [(103, .box 33 (eW q_15)), (104, .box 33 (eW A16.zero)), (106, .box 33 (eW x_9)), (108, .box 183 ((eA17 .u32) u_23))]⟩) (fun z => z) ?_ ?_
      ·refine Tri.seq (Tri.regionL ?_)
       refine Oc (lp tyAgg33) (Oc om (Oc om (Oc om ?_)))
       obtain ⟨⟨x_25, x_26⟩, e19, h18⟩ := bnd h18
       refine Oc (op_call (own_a := [(108, _)]) ((w_take_spec e19).sw 1 108) goes143 rfl ⟨rfl, trivial⟩ rfl rfl) (OpsL.nilS ⟨[(4, _), (5, _), (6, _), (10, _), (11, _), (15, _), (16, _), (17, _), (77, B x_25)], [(103, _), (104, _), (106, _), (108, .box 183 ((eA17 .u32) x_26))]⟩ rfl (Tri.ite h18 rfl (fun _ h18 => ?_) (fun _ h18 => ?_)))
       ·refine Tri.seq (Tri.regionL ?_)
        refine Oc om (Oc (op_sub rfl rfl) (Oc oa ?_))
        refine OpsL.nilS ⟨[(4, _), (5, _), (6, _), (10, _), (11, _), (15, _), (16, _), (17, .b (.one (.int .u64 (IntKind.u64.wrap (x_22 - 1)))))], [(103, _), (104, _), (106, _), (108, _)]⟩ rfl (Tri.regionL (Oc (lp tyAgg33) (Oc om (Oc om ?_))))
        obtain ⟨x_27, e20, h18⟩ := bnd h18
        refine Oc (op_call (own_a := [(108, _)]) ((w_give_spec e20).sw 1 108) goes144 rfl ⟨rfl, trivial⟩ rfl rfl) (OpsL.nil ?_)
        exact Fin.join [4, 5, 6, 10, 11, 15, 16, 17] [103, 104, 106, 108] (x_27, IntKind.u64.wrap (x_22 - 1)) (Option.some.inj h18) rfl
       ·refine Tri.skip ?_
        exact Fin.join [4, 5, 6, 10, 11, 15, 16, 17] [103, 104, 106, 108] (x_26, x_22) (Option.some.inj h18) rfl
      ·rintro ⟨u_23, d_24⟩ hv
       subst v17
       refine Tri.regionL (Oc om (Oc om (Oc (op_conv_wrap undi54 undi32 rfl) ?_)))
       obtain ⟨x_28, e21, h15⟩ := bnd h15
       refine Oc (op_index_p tyArr33 (ix_lo e21) (ix_hi e21) rfl rfl rfl) (Oc (op_store_p1 tyOne32 rfl rfl rfl (arr_lt (post := []) (k := .u32) [] e21 rfl rfl rfl) (arr_set (post := []) (k := .u32) [] e21 rfl rfl (A16.set_l q_15 j_17 (IntKind.u32.wrap d_24)) rfl rfl)) ?_)
       refine OpsL.nil (Fin.block_normal ?_)
       exact Fin.join [4, 5, 6, 10, 11, 15, 16] [103, 104, 106, 108] (q_15.set j_17 (IntKind.u32.wrap d_24), u_23) (Option.some.inj h15) rfl
     ·rintro ⟨q_20, u_21⟩ hv
      subst v14
      refine Tri.regionL (Oc om (Oc (op_sub rfl rfl) (Oc oa ?_)))
      refine OpsL.nil ?_
      exact Fin.againJ [4, 5, 6, 10, 11, 15, 16] [103, 104, 106, 108] (q_20, u_21, IntKind.i64.wrap (j_17 - 1)) (Option.some.inj h12) rfl
    ·refine Tri.exit (Fin.then_exit ?_)
     obtain rfl := hy13 _ (Option.some.inj h12).symm
     refine Fin.then_exit (Fin.block_exit ?_)
     exact Fin.join [4, 5, 10, 15] [103, 104, 108] (q_15, u_16) rfl rfl
   ·rintro ⟨q_13, u_14⟩ hv
    subst v9
    refine Tri.seq (Tri.keepS ⟨[(4, _), (5, _), (10, _), (15, _)], [(103, _), (104, _), (108, _)]⟩ rfl ?_)
    obtain ⟨x_29, e22, h⟩ := bnd h
    refine Tri.regionY mixed 6 [.b (.agg (eW q_13)), .b (.psl 108 0 16 17), Pt 108 0, .b (.agg [.int .u32 u_14.a0, .int .u32 u_14.a1, .int .u32 u_14.a2, .int .u32 u_14.a3, .int .u32 u_14.a4, .int .u32 u_14.a5, .int .u32 u_14.a6, .int .u32 u_14.a7, .int .u32 u_14.a8, .int .u32 u_14.a9, .int .u32 u_14.a10, .int .u32 u_14.a11, .int .u32 u_14.a12, .int .u32 u_14.a13, .int .u32 u_14.a14, .int .u32 u_14.a15]), I x_8, .b (.agg (eW x_29))] [4, 5] [103, 104] (s' := ⟨[(4, _), (5, _)], [(103, _), (104, .box 33 (eW x_29))]⟩) rfl ⟨fun _ => .p (lp tyAgg33), fun _ => .p (op_slice_ah (i := 16) tyArr183 (by decide) (by decide) rfl rfl), fun _ => .p (op_toArr tyArr33 (by decide) rfl), fun _ => .p (lp tyAgg33), fun _ => .p om, fun _ => .p (op_call0 (w_down_spec e22) goes145 rfl rfl), trivial⟩ ⟨_, by exact .p (op_store_p tyAgg33 rfl rfl rfl rfl (Nat.le_of_ble_eq_true rfl) rfl), ⟨_, by exact .p (op_store_p tyAgg33 rfl rfl rfl rfl (Nat.le_of_ble_eq_true rfl) rfl), rfl⟩⟩ rfl (Tri.ret ?_)
    obtain rfl := Option.some.inj h
    refine Fin.keepS ⟨[(4, _), (5, _)], [(103, _), (104, _)]⟩ rfl (Fin.result' [.agg (eW q_13), .agg (eW x_29)] (.inl rfl) rfl (.cons (.agg tyAgg33 rfl rfl rfl rfl) (.cons (.agg tyAgg33 rfl rfl rfl rfl) .nil)) ⟨rfl, rfl⟩)
def w_Abs_S (F : Nat) (x0 : Big) : Option Big :=
 (w_good_S F [x0]).bind fun x_1 => if (!x_1) = true then ((w_Bad_S F).bind fun x_2 => some x_2) else ((w_signed_S F false x0.W).bind fun x_3 => some x_3)
theorem w_Abs_spec {F : Nat} {x0 : Big} {r : Big} (h : w_Abs_S F x0 = some r) : Meets Tryz.prog (tabs mx) 106 [] [.agg (eBig x0)] (Is [] (.b (.agg (eBig r)))) := by
 unfold w_Abs_S at h
 refine Meets.intro 11 Tryz.func106 Tryz.ntmps106 rfl (by simp) fun E => ?_
 show Tri _ E ⟨11, [], [], []⟩ _ ⟨[(0, .b (.agg (eBig x0)))], []⟩ _
 refine Tri.seq (Tri.regionL ?_)
 refine Oc (op_box (k := 101) rfl rfl) (Oc (op_alloc (k := 102) tyZero35 rfl) ?_)
 refine OpsL.nilS ⟨[(1, Pt 101 0), (2, Pt 102 0)], [(101, .box 35 (eBig x0)), (102, .box 35 zBig)]⟩ rfl (Tri.seq (Tri.seq (Tri.regionL ?_)))
 refine Oc (lp tyAgg35) (Oc (op_buildSlice (k := 103) (es := [x0].map eBig) tySl178 rfl rfl (uni_map fun _ => rfl) rfl (by decide) (by decide) rfl) ?_)
 obtain ⟨x_1, e1, h⟩ := bnd h
 refine Oc (op_callB (w_good_spec e1) goes103 rfl CP.flat_bool) (Oc (op_not rfl) ?_)
 refine OpsL.nilS ⟨[(1, _), (2, _), (6, B (!x_1))], [(101, _), (102, _)]⟩ rfl (Tri.ite h rfl (fun _ h => ?_) (fun _ h => ?_))
 ·refine Tri.seq (Tri.regionL ?_)
  obtain ⟨x_2, e2, h⟩ := bnd h
  refine Oc (op_call0 (w_Bad_spec e2) goes68 rfl rfl) (Oc (op_store_p tyAgg35 rfl rfl rfl rfl (Nat.le_of_ble_eq_true rfl) rfl) ?_)
  refine OpsL.nilS ⟨[(2, _)], [(102, .box 35 (eBig x_2))]⟩ rfl (Tri.ret (Fin.then_ret ?_))
  obtain rfl := Option.some.inj h
  refine Fin.keepS ⟨[(2, _)], [(102, _)]⟩ rfl (Fin.result' [.agg (eBig x_2)] (.inl rfl) rfl (.cons (.agg tyAgg35 rfl rfl rfl rfl) .nil) ⟨rfl, rfl⟩)
 ·refine Tri.skip (Fin.keepS ⟨[(1, _), (2, _)], [(101, _), (102, _)]⟩ rfl (Fin.then (Tri.seq (Tri.regionL ?_))))
  refine Oc (op_field_p tyFld35_2 rfl rfl) (Oc (lp tyAgg33) ?_)
  obtain ⟨x_3, e3, h⟩ := bnd h
  refine Oc (op_call0 (w_signed_spec e3) goes69 rfl rfl) (Oc (op_store_p tyAgg35 rfl rfl rfl rfl (Nat.le_of_ble_eq_true rfl) rfl) ?_)
  refine OpsL.nilS ⟨[(2, _)], [(102, .box 35 (eBig x_3))]⟩ rfl (Tri.ret ?_)
  obtain rfl := Option.some.inj h
  refine Fin.keepS ⟨[(2, _)], [(102, _)]⟩ rfl (Fin.result' [.agg (eBig x_3)] (.inl rfl) rfl (.cons (.agg tyAgg35 rfl rfl rfl rfl) .nil) ⟨rfl, rfl⟩)
def w_Gcd_R (F : Nat) : Nat → Big → Big → Option Big
 | 0, _, _ => none
 | n + 1, a0, b0 => (w_good_S F [a0, b0]).bind fun x_1 => if (!x_1) = true then ((w_Bad_S F).bind fun x_2 => some x_2) else (Option.bind ((w_size_S F a0.W).bind fun x_3 => (gcall (decide (x_3 ≤ 2)) (w_size_S F b0.W)).bind fun x_4 => if ((decide (x_3 ≤ 2)) && (decide (x_4 ≤ 2))) = true then (Option.bind (iter F (un2 fun x_6 y_7 => if (decide (y_7 ≠ 0)) = true then ((rem? x_6 y_7).bind fun x_9 => some (.inl (y_7, x_9))) else (some (.inr x_6))) (ior .u64 (IntKind.u64.wrap ((IntKind.u64.wrap a0.W.a1) * 4294967296)) (IntKind.u64.wrap a0.W.a0), ior .u64 (IntKind.u64.wrap ((IntKind.u64.wrap b0.W.a1) * 4294967296)) (IntKind.u64.wrap b0.W.a0))) (fun x_5 => letN (⟨IntKind.u32.wrap x_5, IntKind.u32.wrap (x_5 / 4294967296), 0, 0, 0, 0, 0, 0, 0, 0, 0, 0, 0, 0, 0, 0⟩ : A16) fun x_10 => (w_signed_S F false x_10).bind fun x_11 => some (.inr x_11))) else (some (.inl ()))) (alt2 (fun _ => if (decide (b0.W ≠ A16.zero)) = true then (Option.bind (w_quotient_S F a0.W b0.W) (un2 fun x_12 x_13 => (w_signed_S F false b0.W).bind fun x_14 => (w_signed_S F false x_13).bind fun x_15 => (w_Gcd_R F n x_14 x_15).bind fun x_16 => some x_16)) else ((w_Abs_S F a0).bind fun x_17 => some x_17)) (fun y => some y)))
def w_Gcd_S (F : Nat) (a0 : Big) (b0 : Big) : Option Big := w_Gcd_R F F a0 b0
theorem w_Gcd_specR {F : Nat} : ∀ (n : Nat) {a0 : Big} {b0 : Big} {r : Big} (h : w_Gcd_R F n a0 b0 = some r), Meets Tryz.prog (tabs mx) 51 [] [.agg (eBig a0), .agg (eBig b0)] (Is [] (.b (.agg (eBig r)))) := by
 intro n
 induction n with
 | zero => intro a0 b0 r h; simp [w_Gcd_R] at h
 | succ n ih =>
 intro a0 b0 r h
 unfold w_Gcd_R at h
 refine Meets.intro 80 Tryz.func51 Tryz.ntmps51 rfl (by simp) fun E => ?_
 show Tri _ E ⟨80, [], [], []⟩ _ ⟨[(0, .b (.agg (eBig a0))), (1, .b (.agg (eBig b0)))], []⟩ _
 refine Tri.seq (Tri.regionL ?_)
 refine Oc (op_box (k := 101) rfl rfl) (Oc (op_box (k := 102) rfl rfl) (Oc (op_alloc (k := 103) tyZero35 rfl) ?_))
 refine OpsL.nilS ⟨[(2, Pt 101 0), (3, Pt 102 0), (4, Pt 103 0)], [(101, .box 35 (eBig a0)), (102, .box 35 (eBig b0)), (103, .box 35 zBig)]⟩ rfl (Tri.seq (Tri.seq (Tri.regionL ?_)))
 refine Oc (lp tyAgg35) (Oc (lp tyAgg35) (Oc (op_buildSlice (k := 104) (es := [a0, b0].map eBig) tySl178 rfl rfl (uni_map fun _ => rfl) rfl (by decide) (by decide) rfl) ?_))
 obtain ⟨x_1, e1, h⟩ := bnd h
 refine Oc (op_callB (w_good_spec e1) goes103 rfl CP.flat_bool) (Oc (op_not rfl) ?_)
 refine OpsL.nilS ⟨[(2, _), (3, _), (4, _), (15, B (!x_1))], [(101, _), (102, _), (103, _)]⟩ rfl (Tri.ite h rfl (fun _ h => ?_) (fun _ h => ?_))
 ·refine Tri.seq (Tri.regionL ?_)
  obtain ⟨x_2, e2, h⟩ := bnd h
  refine Oc (op_call0 (w_Bad_spec e2) goes68 rfl rfl) (Oc (op_store_p tyAgg35 rfl rfl rfl rfl (Nat.le_of_ble_eq_true rfl) rfl) ?_)
  refine OpsL.nilS ⟨[(4, _)], [(103, .box 35 (eBig x_2))]⟩ rfl (Tri.ret (Fin.then_ret ?_))
  obtain rfl := Option.some.inj h
  refine Fin.keepS ⟨[(4, _)], [(103, _)]⟩ rfl (Fin.result' [.agg (eBig x_2)] (.inl rfl) rfl (.cons (.agg tyAgg35 rfl rfl rfl rfl) .nil) ⟨rfl, rfl⟩)
 ·refine Tri.skip (Fin.keepS ⟨[(2, _), (3, _), (4, _)], [(101, _), (102, _), (103, _)]⟩ rfl (Fin.then ?_))
  obtain ⟨v3, h4, h⟩ := bnd h
  refine Tri.seqJ (v := v3) (fun (_ : Unit) => ⟨[(2, Pt 101 0), (3, Pt 102 0), (4, Pt 103 0)], [(101, .box 35 (eBig a0)), (102, .box 35 (eBig b0)), (103, .box 35 zBig)]⟩) (fun z => .inl z) ?_ ?_
  ·refine Tri.seq (Tri.regionL ?_)
   refine Oc (op_field_p tyFld35_2 rfl rfl) (Oc (lp tyAgg33) ?_)
   obtain ⟨x_3, e5, h4⟩ := bnd h4
   refine Oc (op_call0 (w_size_spec e5) goes104 rfl rfl) (Oc (op_leq rfl rfl) (Oc om ?_))
   refine OpsL.keepS ⟨[(2, _), (3, _), (4, _), (21, B (decide (x_3 ≤ 2)))], [(101, _), (102, _), (103, _)]⟩ rfl (CgT (decide (x_3 ≤ 2)) [] (fun g6 => trivial) (fun g6 => op_field_p tyFld35_2 rfl rfl) (CgT (decide (x_3 ≤ 2)) [22] (fun g7 => ⟨g7, trivial⟩) (fun g7 => lp tyAgg33) ?_))
   obtain ⟨x_4, e9, h4⟩ := bnd h4
   refine CgT (decide (x_3 ≤ 2)) [23] (fun g8 => ⟨g8, trivial⟩) (fun g8 => op_call0 (w_size_spec (gc e9 g8)) goes104 rfl rfl) (CgT (decide (x_3 ≤ 2)) [24] (fun g10 => ⟨g10, trivial⟩) (fun g10 => op_leq rfl rfl) (Oc (op_pick_and (fun e => e) rfl rfl rfl rfl) (OpsL.nilS ⟨[(2, _), (3, _), (4, _), (26, B ((decide (x_3 ≤ 2)) && (decide (x_4 ≤ 2))))], [(101, _), (102, _), (103, _)]⟩ rfl (Tri.ite h4 rfl (fun _ h4 => ?_) (fun _ h4 => ?_)))))
   ·refine Tri.seq (Tri.keepS ⟨[(2, _), (3, _), (4, _)], [(101, _), (102, _), (103, _)]⟩ rfl (Tri.regionY mixed 22 [Pt 101 2, Pt 101 3, .b (.one (.int .u32 a0.W.a1)), .b (.one (.int .u64 (IntKind.u64.wrap a0.W.a1))), .b (.one (.int .u64 (IntKind.u64.wrap ((IntKind.u64.wrap a0.W.a1) * 4294967296)))), Pt 101 2, Pt 101 2, .b (.one (.int .u32 a0.W.a0)), .b (.one (.int .u64 (IntKind.u64.wrap a0.W.a0))), .b (.one (.int .u64 (ior .u64 (IntKind.u64.wrap ((IntKind.u64.wrap a0.W.a1) * 4294967296)) (IntKind.u64.wrap a0.W.a0)))), Pt 102 2, Pt 102 3, .b (.one (.int .u32 b0.W.a1)), .b (.one (.int .u64 (IntKind.u64.wrap b0.W.a1))), .b (.one (.int .u64 (IntKind.u64.wrap ((IntKind.u64.wrap b0.W.a1) * 4294967296)))), Pt 102 2, Pt 102 2, .b (.one (.int .u32 b0.W.a0)), .b (.one (.int .u64 (IntKind.u64.wrap b0.W.a0))), .b (.one (.int .u64 (ior .u64 (IntKind.u64.wrap ((IntKind.u64.wrap b0.W.a1) * 4294967296)) (IntKind.u64.wrap b0.W.a0)))), .b (.one (.int .u64 (ior .u64 (IntKind.u64.wrap ((IntKind.u64.wrap a0.W.a1) * 4294967296)) (IntKind.u64.wrap a0.W.a0)))), .b (.one (.int .u64 (ior .u64 (IntKind.u64.wrap ((IntKind.u64.wrap b0.W.a1) * 4294967296)) (IntKind.u64.wrap b0.W.a0))))] [4, 5, 6] [103] (s' := ⟨[(4, _), (5, .b (.one (.int .u64 (ior .u64 (IntKind.u64.wrap ((IntKind.u64.wrap a0.W.a1) * 4294967296)) (IntKind.u64.wrap a0.W.a0))))), (6, .b (.one (.int .u64 (ior .u64 (IntKind.u64.wrap ((IntKind.u64.wrap b0.W.a1) * 4294967296)) (IntKind.u64.wrap b0.W.a0)))))], [(103, _)]⟩) rfl ⟨fun _ => .p (op_field_p tyFld35_2 rfl rfl), fun _ => .p (op_index_p tyArr33 (by decide) (by decide) rfl rfl rfl), fun _ => .p (op_load_p1 tyOne32 rfl rfl rfl), fun _ => .p (op_conv_wrap undi32 undi54 rfl), fun _ => .p (op_shl0 (m := 32) (q := 4294967296) (by decide) rfl rfl (by decide)), fun _ => .p (op_field_p tyFld35_2 rfl rfl), fun _ => .p (op_index_p tyArr33 (by decide) (by decide) rfl rfl rfl), fun _ => .p (op_load_p1 tyOne32 rfl rfl rfl), fun _ => .p (op_conv_wrap undi32 undi54 rfl), fun _ => .p (op_or rfl rfl), fun _ => .p (op_field_p tyFld35_2 rfl rfl), fun _ => .p (op_index_p tyArr33 (by decide) (by decide) rfl rfl rfl), fun _ => .p (op_load_p1 tyOne32 rfl rfl rfl), fun _ => .p (op_conv_wrap undi32 undi54 rfl), fun _ => .p (op_shl0 (m := 32) (q := 4294967296) (by decide) rfl rfl (by decide)), fun _ => .p (op_field_p tyFld35_2 rfl rfl), fun _ => .p (op_index_p tyArr33 (by decide) (by decide) rfl rfl rfl), fun _ => .p (op_load_p1 tyOne32 rfl rfl rfl), fun _ => .p (op_conv_wrap undi32 undi54 rfl), fun _ => .p (op_or rfl rfl), fun _ => .p oa, fun _ => .p oa, trivial⟩ rfl rfl ?_))
    obtain ⟨v11, h12, h4⟩ := bnd h4
    refine Tri.seqJ (v := v11) (fun (x_5 : Int) => ⟨[(4, Pt 103 0), (5, .b (.one (.int .u64 x_5)))], [(103, .box 35 zBig)]⟩) (fun z => z) ?_ ?_
    ·refine Tri.block (Tri.loopJ h12 (un2 fun (x_6 : Int) (y_7 : Int) => ⟨[(4, Pt 103 0), (5, .b (.one (.int .u64 x_6))), (6, .b (.one (.int .u64 y_7)))], [(103, .box 35 zBig)]⟩) [4, 5, 6] [103] rfl ?_)
     rintro ⟨x_6, y_7⟩ o13 h14 hy15
     refine Tri.seq (Tri.seq (Tri.regionL ?_))
     refine Oc om (Oc (op_neq rfl rfl) ?_)
     refine OpsL.nilS ⟨[(4, _), (5, _), (6, _), (48, B (decide (y_7 ≠ 0)))], [(103, _)]⟩ rfl (Tri.ite h14 rfl (fun _ h14 => ?_) (fun _ h14 => ?_))
     ·refine Tri.skip (Fin.keepS ⟨[(4, _), (5, _), (6, _)], [(103, _)]⟩ rfl (Fin.then (Tri.block ?_)))
      refine Tri.keepS ⟨[(4, _), (5, _), (6, _)], [(103, _)]⟩ rfl ?_
      obtain ⟨x_9, e16, h14⟩ := bnd h14
      refine Tri.regionYF mixed 5 [.b (.one (.int .u64 y_7)), .b (.one (.int .u64 x_6)), .b (.one (.int .u64 y_7)), .b (.one (.int .u64 x_9)), .b (.one (.int .u64 y_7))] [4, 5, 6] [103] (s' := ⟨[(4, _), (5, .b (.one (.int .u64 y_7))), (6, .b (.one (.int .u64 x_9)))], [(103, _)]⟩) rfl ⟨fun _ => .p om, fun _ => .p om, fun _ => .p om, fun _ => .p (op_rem2 e16 rfl rfl), fun _ => .p oa, trivial⟩ ⟨_, by exact .p oa, rfl⟩ rfl (Fin.block_normal ?_)
      exact Fin.againJ [4, 5, 6] [103] (y_7, x_9) (Option.some.inj h14) rfl
     ·refine Tri.exit (Fin.then_exit ?_)
      obtain rfl := hy15 _ (Option.some.inj h14).symm
      refine Fin.then_exit (Fin.block_exit ?_)
      exact Fin.join [4, 5] [103] x_6 rfl rfl
    ·rintro x_5 hv
     subst v11
     refine Tri.seq (Tri.regionL ?_)
     refine Oc om (Oc (op_conv_wrap undi54 undi32 rfl) (Oc om (Oc (op_shr2 (m := 32) (by decide) rfl rfl rfl) (Oc (op_conv_wrap undi54 undi32 rfl) ?_))))
     refine OpsL.consA eW h4 rfl (op_buildA tyBuild33 rfl rfl) (fun x_10 h4 => ?_)
     obtain ⟨x_11, e17, h4⟩ := bnd h4
     refine Oc (op_call0 (w_signed_spec e17) goes69 rfl rfl) (Oc (op_store_p tyAgg35 rfl rfl rfl rfl (Nat.le_of_ble_eq_true rfl) rfl) ?_)
     refine OpsL.nilS ⟨[(4, _)], [(103, .box 35 (eBig x_11))]⟩ rfl (Tri.ret ?_)
     obtain rfl := Option.some.inj h4
     refine Fin.then_ret ?_
     obtain rfl := Option.some.inj h
     refine Fin.keepS ⟨[(4, _)], [(103, _)]⟩ rfl (Fin.result' [.agg (eBig x_11)] (.inl rfl) rfl (.cons (.agg tyAgg35 rfl rfl rfl rfl) .nil) ⟨rfl, rfl⟩)
   ·refine Tri.skip ?_
    exact Fin.join [2, 3, 4] [101, 102, 103] () (Option.some.inj h4) rfl
  ·rintro _ hv
   subst v3
   refine Tri.seq (Tri.seq ?_)
   refine Tri.keepS ⟨[(2, _), (3, _), (4, _)], [(101, _), (102, _), (103, _)]⟩ rfl (Tri.regionW mixed [false, false, false, false, true, true, true, true] [Pt 101 2, .b (.agg (eW a0.W)), Pt 102 2, .b (.agg (eW b0.W)), Pt 105 0, Pt 106 0, B true, B true] [⟨[false, false, false, false, false, false, false, false], [(2, Pt 101 0), (3, Pt 102 0), (4, Pt 103 0)], [(101, .box 35 (eBig a0)), (102, .box 35 (eBig b0)), (103, .box 35 zBig)], [true, true, true, true, true, true, true, true], [], [6, 7]⟩, ⟨[false, false, false, false, true, false, false, false], [(2, Pt 101 0), (3, Pt 102 0), (4, Pt 103 0)], [(101, .box 35 (eBig a0)), (102, .box 35 (eBig b0)), (103, .box 35 zBig), (105, .box 33 (eW A16.zero))], [true, true, true, true, true, true, true, true], [4], [6, 7]⟩, ⟨[false, false, false, false, false, true, false, false], [(2, Pt 101 0), (3, Pt 102 0), (4, Pt 103 0)], [(101, .box 35 (eBig a0)), (102, .box 35 (eBig b0)), (103, .box 35 zBig), (106, .box 33 (eW A16.zero))], [true, true, true, true, true, true, true, true], [5], [6, 7]⟩, ⟨[false, false, false, false, true, true, false, false], [(2, Pt 101 0), (3, Pt 102 0), (4, Pt 103 0)], [(101, .box 35 (eBig a0)), (102, .box 35 (eBig b0)), (103, .box 35 zBig), (105, .box 33 (eW A16.zero)), (106, .box 33 (eW A16.zero))], [true, true, true, true, true, true, true, true], [4, 5], [7]⟩, ⟨[false, false, false, false, true, true, true, false], [(2, Pt 101 0), (3, Pt 102 0), (4, Pt 103 0)], [(101, .box 35 (eBig a0)), (102, .box 35 (eBig b0)), (103, .box 35 zBig), (105, .box 33 (eW a0.W)), (106, .box 33 (eW A16.zero))], [true, true, true, true, true, true, true, true], [0, 1, 4, 5, 6], []⟩, ⟨[false, false, false, false, true, true, true, true], [(2, Pt 101 0), (3, Pt 102 0), (4, Pt 103 0)], [(101, .box 35 (eBig a0)), (102, .box 35 (eBig b0)), (103, .box 35 zBig), (105, .box 33 (eW a0.W)), (106, .box 33 (eW b0.W))], [true, true, true, true, true, true, true, true], [0, 1, 2, 3, 4, 5, 6, 7], []⟩] rfl (⟨by kernel_rfl, ⟨⟨Pt 101 2, fun _ => rfl, fun _ => .p (by exact op_field_p tyFld35_2 rfl rfl)⟩, ⟨.b (.agg (eW a0.W)), fun _ => rfl, fun _ => .p (by exact op_load_p tyAgg33 rfl rfl rfl rfl)⟩, ⟨Pt 102 2, fun _ => rfl, fun _ => .p (by exact op_field_p tyFld35_2 rfl rfl)⟩, ⟨.b (.agg (eW b0.W)), fun _ => rfl, fun _ => .p (by exact op_load_p tyAgg33 rfl rfl rfl rfl)⟩, ⟨_, [105], Pt 105 0, rfl, fun _ => rfl, rfl, rfl, fun _ => .toO [101, 102, 103, 105] (by exact .p (by exact op_alloc (k := 105) tyZero33 rfl)) (by exact rfl)⟩, ⟨_, [106], Pt 106 0, rfl, fun _ => rfl, rfl, rfl, fun _ => .toO [101, 102, 103, 106] (by exact .p (by exact op_alloc (k := 106) tyZero33 rfl)) (by exact rfl)⟩, trivial, trivial, trivial⟩, ⟨by kernel_rfl, ⟨⟨Pt 101 2, fun _ => rfl, fun _ => .p (by exact op_field_p tyFld35_2 rfl rfl)⟩, ⟨.b (.agg (eW a0.W)), fun _ => rfl, fun _ => .p (by exact op_load_p tyAgg33 rfl rfl rfl rfl)⟩, ⟨Pt 102 2, fun _ => rfl, fun _ => .p (by exact op_field_p tyFld35_2 rfl rfl)⟩, ⟨.b (.agg (eW b0.W)), fun _ => rfl, fun _ => .p (by exact op_load_p tyAgg33 rfl rfl rfl rfl)⟩, trivial, ⟨_, [106], Pt 106 0, rfl, fun _ => rfl, rfl, rfl, fun _ => .toO [101, 102, 103, 105, 106] (by exact .p (by exact op_alloc (k := 106) tyZero33 rfl)) (by exact rfl)⟩, trivial, trivial, trivial⟩, ⟨by kernel_rfl, ⟨⟨Pt 101 2, fun _ => rfl, fun _ => .p (by exact op_field_p tyFld35_2 rfl rfl)⟩, ⟨.b (.agg (eW a0.W)), fun _ => rfl, fun _ => .p (by exact op_load_p tyAgg33 rfl rfl rfl rfl)⟩, ⟨Pt 102 2, fun _ => rfl, fun _ => .p (by exact op_field_p tyFld35_2 rfl rfl)⟩, ⟨.b (.agg (eW b0.W)), fun _ => rfl, fun _ => .p (by exact op_load_p tyAgg33 rfl rfl rfl rfl)⟩, ⟨_, [105], Pt 105 0, rfl, fun _ => rfl, rfl, rfl, fun _ => .toO [101, 102, 103, 105, 106] (by exact .p (by exact op_alloc (k := 105) tyZero33 rfl)) (by exact rfl)⟩, trivial, trivial, trivial, trivial⟩, ⟨by kernel_rfl, ⟨⟨Pt 101 2, fun _ => rfl, fun _ => .p (by exact op_field_p tyFld35_2 rfl rfl)⟩, ⟨.b (.agg (eW a0.W)), fun _ => rfl, fun _ => .p (by exact op_load_p tyAgg33 rfl rfl rfl rfl)⟩, ⟨Pt 102 2, fun _ => rfl, fun _ => .p (by exact op_field_p tyFld35_2 rfl rfl)⟩, ⟨.b (.agg (eW b0.W)), fun _ => rfl, fun _ => .p (by exact op_load_p tyAgg33 rfl rfl rfl rfl)⟩, trivial, trivial, ⟨_, [], .b (.one .any), rfl, (fun e => by simp at e), rfl, rfl, fun _ => .toO [101, 102, 103, 105, 106] (by exact .p (by exact op_store_p tyAgg33 rfl rfl rfl rfl (Nat.le_of_ble_eq_true rfl) rfl)) (by exact rfl)⟩, trivial, trivial⟩, ⟨by kernel_rfl, ⟨trivial, trivial, ⟨Pt 102 2, fun _ => rfl, fun _ => .p (by exact op_field_p tyFld35_2 rfl rfl)⟩, ⟨.b (.agg (eW b0.W)), fun _ => rfl, fun _ => .p (by exact op_load_p tyAgg33 rfl rfl rfl rfl)⟩, trivial, trivial, trivial, ⟨_, [], .b (.one .any), rfl, (fun e => by simp at e), rfl, rfl, fun _ => .toO [101, 102, 103, 105, 106] (by exact .p (by exact op_store_p tyAgg33 rfl rfl rfl rfl (Nat.le_of_ble_eq_true rfl) rfl)) (by exact rfl)⟩, trivial⟩, ⟨by kernel_rfl, ⟨trivial, trivial, trivial, trivial, trivial, trivial, trivial, trivial, trivial⟩, trivial⟩⟩⟩⟩⟩⟩) rfl rfl rfl [2, 4, 7, 8] [101, 103, 105, 106] (s' := ⟨[(2, _), (4, _), (7, Pt 105 0), (8, Pt 106 0)], [(101, _), (103, _), (105, .box 33 (eW a0.W)), (106, .box 33 (eW b0.W))]⟩) rfl ?_)
   refine Tri.seq (Tri.regionL ?_)
   refine Oc (lp tyAgg33) (Oc (op_buildA tyBuild33 rfl rfl) (Oc (op_neq_agg (eqAgg33 b0.W A16.zero) rfl rfl neg_dec) ?_))
   refine OpsL.nilS ⟨[(2, _), (4, _), (7, _), (8, _), (66, B (decide (b0.W ≠ A16.zero)))], [(101, _), (103, _), (105, _), (106, _)]⟩ rfl (Tri.ite h rfl (fun _ h => ?_) (fun _ h => ?_))
   ·refine Tri.seq (Tri.regionL ?_)
    refine Oc (lp tyAgg33) (Oc (lp tyAgg33) ?_)
    obtain ⟨⟨x_12, x_13⟩, e18, h⟩ := bnd h
    refine Oc (op_call0 (w_quotient_spec e18) goes105 rfl rfl) (Oc om (Oc (op_extract rfl rfl) ?_))
    refine OpsL.keepS ⟨[(4, _), (8, _), (67, .tup [.agg (eW x_12), .agg (eW x_13)]), (71, .b (.agg (eW x_12)))], [(103, _), (106, _)]⟩ rfl (Oc (op_extract rfl rfl) (Oc (op_alloc (k := 107) tyZero33 rfl) (Oc (op_alloc (k := 108) tyZero33 rfl) (Oc (op_store_p tyAgg33 rfl rfl rfl rfl (Nat.le_of_ble_eq_true rfl) rfl) (Oc (op_store_p tyAgg33 rfl rfl rfl rfl (Nat.le_of_ble_eq_true rfl) rfl) ?_)))))
    refine OpsL.nilS ⟨[(4, _), (8, _), (10, Pt 108 0)], [(103, _), (106, _), (108, .box 33 (eW x_13))]⟩ rfl (Tri.seq ?_)
    obtain ⟨x_14, e19, h⟩ := bnd h
    obtain ⟨x_15, e20, h⟩ := bnd h
    obtain ⟨x_16, e21, h⟩ := bnd h
    refine Tri.regionY mixed 5 [.b (.agg (eW b0.W)), .b (.agg (eBig x_14)), .b (.agg (eW x_13)), .b (.agg (eBig x_15)), .b (.agg (eBig x_16))] [4] [103] (s' := ⟨[(4, _)], [(103, .box 35 (eBig x_16))]⟩) rfl ⟨fun _ => .p (lp tyAgg33), fun _ => .p (op_call0 (w_signed_spec e19) goes69 rfl rfl), fun _ => .p (lp tyAgg33), fun _ => .p (op_call0 (w_signed_spec e20) goes69 rfl rfl), fun _ => .p (op_call0 (ih e21) goes51 rfl rfl), trivial⟩ ⟨_, by exact .p (op_store_p tyAgg35 rfl rfl rfl rfl (Nat.le_of_ble_eq_true rfl) rfl), rfl⟩ rfl (Tri.ret (Fin.then_ret ?_))
    obtain rfl := Option.some.inj h
    refine Fin.keepS ⟨[(4, _)], [(103, _)]⟩ rfl (Fin.result' [.agg (eBig x_16)] (.inl rfl) rfl (.cons (.agg tyAgg35 rfl rfl rfl rfl) .nil) ⟨rfl, rfl⟩)
   ·refine Tri.skip (Fin.keepS ⟨[(2, _), (4, _)], [(101, _), (103, _)]⟩ rfl (Fin.then (Tri.seq (Tri.regionL ?_))))
    refine Oc (lp tyAgg35) ?_
    obtain ⟨x_17, e22, h⟩ := bnd h
    refine Oc (op_call0 (w_Abs_spec e22) goes106 rfl rfl) (Oc (op_store_p tyAgg35 rfl rfl rfl rfl (Nat.le_of_ble_eq_true rfl) rfl) ?_)
    refine OpsL.nilS ⟨[(4, _)], [(103, .box 35 (eBig x_17))]⟩ rfl (Tri.ret ?_)
    obtain rfl := Option.some.inj h
    refine Fin.keepS ⟨[(4, _)], [(103, _)]⟩ rfl (Fin.result' [.agg (eBig x_17)] (.inl rfl) rfl (.cons (.agg tyAgg35 rfl rfl rfl rfl) .nil) ⟨rfl, rfl⟩)
theorem w_Gcd_spec {F : Nat} {a0 : Big} {b0 : Big} {r : Big} (h : w_Gcd_S F a0 b0 = some r) : Meets Tryz.prog (tabs mx) 51 [] [.agg (eBig a0), .agg (eBig b0)] (Is [] (.b (.agg (eBig r)))) := w_Gcd_specR F h
def w_Neg_S (F : Nat) (x0 : Big) : Option Big :=
 (w_good_S F [x0]).bind fun x_1 => if (!x_1) = true then ((w_Bad_S F).bind fun x_2 => some x_2) else ((w_signed_S F (!x0.Neg) x0.W).bind fun x_3 => some x_3)
theorem w_Neg_spec {F : Nat} {x0 : Big} {r : Big} (h : w_Neg_S F x0 = some r) : Meets Tryz.prog (tabs mx) 75 [] [.agg (eBig x0)] (Is [] (.b (.agg (eBig r)))) := by
 unfold w_Neg_S at h
 refine Meets.intro 14 Tryz.func75 Tryz.ntmps75 rfl (by simp) fun E => ?_
 show Tri _ E ⟨14, [], [], []⟩ _ ⟨[(0, .b (.agg (eBig x0)))], []⟩ _
 refine Tri.seq (Tri.regionL ?_)
 refine Oc (op_box (k := 101) rfl rfl) (Oc (op_alloc (k := 102) tyZero35 rfl) ?_)
 refine OpsL.nilS ⟨[(1, Pt 101 0), (2, Pt 102 0)], [(101, .box 35 (eBig x0)), (102, .box 35 zBig)]⟩ rfl (Tri.seq (Tri.seq (Tri.regionL ?_)))
 refine Oc (lp tyAgg35) (Oc (op_buildSlice (k := 103) (es := [x0].map eBig) tySl178 rfl rfl (uni_map fun _ => rfl) rfl (by decide) (by decide) rfl) ?_)
 obtain ⟨x_1, e1, h⟩ := bnd h
 refine Oc (op_callB (w_good_spec e1) goes103 rfl CP.flat_bool) (Oc (op_not rfl) ?_)
 refine OpsL.nilS ⟨[(1, _), (2, _), (6, B (!x_1))], [(101, _), (102, _)]⟩ rfl (Tri.ite h rfl (fun _ h => ?_) (fun _ h => ?_))
 ·refine Tri.seq (Tri.regionL ?_)
  obtain ⟨x_2, e2, h⟩ := bnd h
  refine Oc (op_call0 (w_Bad_spec e2) goes68 rfl rfl) (Oc (op_store_p tyAgg35 rfl rfl rfl rfl (Nat.le_of_ble_eq_true rfl) rfl) ?_)
  refine OpsL.nilS ⟨[(2, _)], [(102, .box 35 (eBig x_2))]⟩ rfl (Tri.ret (Fin.then_ret ?_))
  obtain rfl := Option.some.inj h
  refine Fin.keepS ⟨[(2, _)], [(102, _)]⟩ rfl (Fin.result' [.agg (eBig x_2)] (.inl rfl) rfl (.cons (.agg tyAgg35 rfl rfl rfl rfl) .nil) ⟨rfl, rfl⟩)
 ·refine Tri.skip (Fin.keepS ⟨[(1, _), (2, _)], [(101, _), (102, _)]⟩ rfl (Fin.then (Tri.seq (Tri.regionL ?_))))
  refine Oc (op_field_p tyFld35_1 rfl rfl) (Oc (op_load_p1 tyOne4 rfl rfl rfl) (Oc (op_not rfl) (Oc (op_field_p tyFld35_2 rfl rfl) (Oc (lp tyAgg33) ?_))))
  obtain ⟨x_3, e3, h⟩ := bnd h
  refine Oc (op_call0 (w_signed_spec e3) goes69 rfl rfl) (Oc (op_store_p tyAgg35 rfl rfl rfl rfl (Nat.le_of_ble_eq_true rfl) rfl) ?_)
  refine OpsL.nilS ⟨[(2, _)], [(102, .box 35 (eBig x_3))]⟩ rfl (Tri.ret ?_)
  obtain rfl := Option.some.inj h
  refine Fin.keepS ⟨[(2, _)], [(102, _)]⟩ rfl (Fin.result' [.agg (eBig x_3)] (.inl rfl) rfl (.cons (.agg tyAgg35 rfl rfl rfl rfl) .nil) ⟨rfl, rfl⟩)
def w_Bits_S (F : Nat) (x0 : Big) : Option Int :=
 (w_size_S F x0.W).bind fun x_1 => (w_good_S F [x0]).bind fun x_2 => if ((!x_2) || (decide (x_1 = 0))) = true then (some 0) else (letN (IntKind.i64.wrap (32 * (IntKind.i64.wrap (x_1 - 1)))) fun x_3 => (idx? x0.W.l (IntKind.i64.wrap (x_1 - 1))).bind fun x_4 => (bits_Len32_S F x_4).bind fun x_5 => some (IntKind.i64.wrap (x_3 + x_5)))
theorem w_Bits_spec {F : Nat} {x0 : Big} {r : Int} (h : w_Bits_S F x0 = some r) : Meets Tryz.prog (tabs mx) 169 [] [.agg (eBig x0)] (Is [] (.b (.one (.i r)))) := by
 unfold w_Bits_S at h
 refine Meets.intro 25 Tryz.func169 Tryz.ntmps169 rfl (by simp) fun E => ?_
 show Tri _ E ⟨25, [], [], []⟩ _ ⟨[(0, .b (.agg (eBig x0)))], []⟩ _
 refine Tri.seq (Tri.regionL ?_)
 refine Oc (op_box (k := 101) rfl rfl) (Oc oa ?_)
 refine OpsL.nilS ⟨[(1, Pt 101 0)], [(101, .box 35 (eBig x0))]⟩ rfl (Tri.seq (Tri.regionL ?_))
 refine Oc (op_field_p tyFld35_2 rfl rfl) (Oc (lp tyAgg33) ?_)
 obtain ⟨x_1, e1, h⟩ := bnd h
 refine Oc (op_call0 (w_size_spec e1) goes104 rfl rfl) (Oc oa ?_)
 refine OpsL.nilS ⟨[(1, _), (3, I x_1)], [(101, _)]⟩ rfl (Tri.seq (Tri.seq (Tri.regionL ?_)))
 refine Oc (lp tyAgg35) (Oc (op_buildSlice (k := 102) (es := [x0].map eBig) tySl178 rfl rfl (uni_map fun _ => rfl) rfl (by decide) (by decide) rfl) ?_)
 obtain ⟨x_2, e2, h⟩ := bnd h
 refine Oc (op_callB (w_good_spec e2) goes103 rfl CP.flat_bool) (Oc (op_not rfl) ?_)
 refine OpsL.keepS ⟨[(1, _), (3, _), (10, B (!x_2))], [(101, _)]⟩ rfl (Oc om (CgF (!(!x_2)) [] (fun g3 => by exact trivial) (fun g3 => om) (CgF (!(!x_2)) [12] (fun g4 => by exact ⟨g4, trivial⟩) (fun g4 => op_eql rfl rfl) (Oc (op_pick_or (fun e => by first | (rw [e]; rfl) | (simp only at e; rw [e]; rfl)) rfl rfl rfl rfl) (OpsL.nilS ⟨[(1, _), (3, _), (14, B ((!x_2) || (decide (x_1 = 0))))], [(101, _)]⟩ rfl ?_)))))
 refine Tri.ite h rfl (fun _ h => ?_) (fun _ h => ?_)
 ·refine Tri.seq (Tri.regionL ?_)
  refine Oc oa (OpsL.nilS ⟨[(2, I 0)], []⟩ rfl (Tri.ret (Fin.then_ret ?_)))
  obtain rfl := Option.some.inj h
  refine Fin.keepS ⟨[(2, _)], []⟩ rfl (Fin.result' [.one (.i 0)] (.inl rfl) rfl (.cons (.tmp rfl) .nil) ⟨rfl, rfl⟩)
 ·refine Tri.skip (Fin.keepS ⟨[(1, _), (3, _)], [(101, _)]⟩ rfl (Fin.then (Tri.seq (Tri.regionL ?_))))
  refine Oc om (Oc (op_sub rfl rfl) ?_)
  refine OpsL.consI .i64 h rfl (op_mul rfl rfl) (fun x_3 h => ?_)
  refine Oc om (Oc (op_sub rfl rfl) (Oc (op_field_p tyFld35_2 rfl rfl) ?_))
  obtain ⟨x_4, e5, h⟩ := bnd h
  refine Oc (op_index_p tyArr33 (ix_lo e5) (ix_hi e5) rfl rfl rfl) (OpsL.keepS ⟨[(17, I x_3), (21, .b (.ptr 101 (2 + (IntKind.i64.wrap (x_1 - 1) : Int).toNat * 1)))], [(101, _)]⟩ rfl (Oc (op_load_p1 tyOne32 rfl rfl (arr_get (post := []) (k := .u32) [.bool x0.Bad, .bool x0.Neg] e5 rfl rfl rfl)) ?_))
  obtain ⟨x_5, e6, h⟩ := bnd h
  refine Oc (op_call0 (bits_Len32_spec e6) goes168 rfl rfl) (Oc (op_add rfl rfl) (Oc oa ?_))
  refine OpsL.nilS ⟨[(2, I (IntKind.i64.wrap (x_3 + x_5)))], []⟩ rfl (Tri.ret ?_)
  obtain rfl := Option.some.inj h
  refine Fin.keepS ⟨[(2, _)], []⟩ rfl (Fin.result' [.one (.i (IntKind.i64.wrap (x_3 + x_5)))] (.inl rfl) rfl (.cons (.tmp rfl) .nil) ⟨rfl, rfl⟩)
def w_Small_S (F : Nat) (x0 : Big) : Option (Int × Bool) :=
 (w_good_S F [x0]).bind fun x_1 => (gcall (!(!x_1)) (w_Bits_S F x0)).bind fun x_2 => if ((!x_1) || (decide (64 < x_2))) = true then (some (0, false)) else (letN (IntKind.u64.wrap ((IntKind.u64.wrap x0.W.a1) * 4294967296)) fun x_3 => letN (ior .u64 x_3 (IntKind.u64.wrap x0.W.a0)) fun x_4 => if (x0.Neg && (decide (x_4 ≤ 9223372036854775808))) = true then (letN (IntKind.i64.wrap (IntKind.u64.wrap (-x_4))) fun x_5 => some (x_5, true)) else (if ((!x0.Neg) && (decide (x_4 < 9223372036854775808))) = true then (some (IntKind.i64.wrap x_4, true)) else (some (0, false))))
theorem w_Small_spec {F : Nat} {x0 : Big} {r : Int × Bool} (h : w_Small_S F x0 = some r) : Meets Tryz.prog (tabs mx) 146 [] [.agg (eBig x0)] (Is [] (.tup [.one (.i r.1), .one (.bool r.2)])) := by
 unfold w_Small_S at h
 refine Meets.intro 44 Tryz.func146 Tryz.ntmps146 rfl (by simp) fun E => ?_
 show Tri _ E ⟨44, [], [], []⟩ _ ⟨[(0, .b (.agg (eBig x0)))], []⟩ _
 refine Tri.seq (Tri.regionL ?_)
 refine Oc (op_box (k := 101) rfl rfl) (Oc oa (Oc oa ?_))
 refine OpsL.nilS ⟨[(1, Pt 101 0)], [(101, .box 35 (eBig x0))]⟩ rfl (Tri.seq (Tri.seq (Tri.regionL ?_)))
 refine Oc (lp tyAgg35) (Oc (op_buildSlice (k := 102) (es := [x0].map eBig) tySl178 rfl rfl (uni_map fun _ => rfl) rfl (by decide) (by decide) rfl) ?_)
 obtain ⟨x_1, e1, h⟩ := bnd h
 refine Oc (op_callB (w_good_spec e1) goes103 rfl CP.flat_bool) (Oc (op_not rfl) ?_)
 refine OpsL.keepS ⟨[(1, _), (8, B (!x_1))], [(101, _)]⟩ rfl (Oc om (CgF (!(!x_1)) [] (fun g2 => by exact trivial) (fun g2 => lp tyAgg35) ?_))
 obtain ⟨x_2, e4, h⟩ := bnd h
 refine CgF (!(!x_1)) [10] (fun g3 => ⟨g3, trivial⟩) (fun g3 => op_call0 (w_Bits_spec (gc e4 g3)) goes169 rfl rfl) (CgF (!(!x_1)) [11] (fun g5 => ⟨g5, trivial⟩) (fun g5 => op_gtr rfl rfl) (Oc (op_pick_or (fun e => by first | (rw [e]; rfl) | (simp only at e; rw [e]; rfl)) rfl rfl rfl rfl) (OpsL.nilS ⟨[(1, _), (13, B ((!x_1) || (decide (64 < x_2))))], [(101, _)]⟩ rfl (Tri.ite h rfl (fun _ h => ?_) (fun _ h => ?_)))))
 ·refine Tri.seq (Tri.regionL ?_)
  refine Oc oa (Oc oa ?_)
  refine OpsL.nilS ⟨[(2, I 0), (3, B false)], []⟩ rfl (Tri.ret (Fin.then_ret ?_))
  obtain rfl := Option.some.inj h
  refine Fin.keepS ⟨[(2, _), (3, _)], []⟩ rfl (Fin.result' [.one (.i 0), .one (.bool false)] (.inl rfl) rfl (.cons (.tmp rfl) (.cons (.tmp rfl) .nil)) ⟨rfl, rfl⟩)
 ·refine Tri.skip (Fin.keepS ⟨[(1, _)], [(101, _)]⟩ rfl (Fin.then (Tri.seq (Tri.regionL ?_))))
  refine Oc (op_field_p tyFld35_2 rfl rfl) (Oc (op_index_p tyArr33 (by decide) (by decide) rfl rfl rfl) (Oc (op_load_p1 tyOne32 rfl rfl rfl) (Oc (op_conv_wrap undi32 undi54 rfl) ?_)))
  refine OpsL.consI .u64 h rfl (op_shl0 (m := 32) (q := 4294967296) (by decide) rfl rfl (by decide)) (fun x_3 h => ?_)
  refine Oc (op_field_p tyFld35_2 rfl rfl) (Oc (op_index_p tyArr33 (by decide) (by decide) rfl rfl rfl) ?_)
  refine OpsL.keepS ⟨[(1, _), (18, .b (.one (.int .u64 x_3))), (20, Pt 101 2)], [(101, _)]⟩ rfl (Oc (op_load_p1 tyOne32 rfl rfl rfl) (Oc (op_conv_wrap undi32 undi54 rfl) ?_))
  refine OpsL.consI .u64 h rfl (op_or rfl rfl) (fun x_4 h => ?_)
  refine Oc oa (OpsL.nilS ⟨[(1, _), (4, .b (.one (.int .u64 x_4)))], [(101, _)]⟩ rfl (Tri.seq (Tri.block (Tri.seq (Tri.regionL ?_)))))
  refine Oc (op_field_p tyFld35_1 rfl rfl) (Oc (op_load_p1 tyOne4 rfl rfl rfl) (Oc om ?_))
  refine CgT x0.Neg [] (fun g6 => trivial) (fun g6 => om) (CgT x0.Neg [28] (fun g7 => by exact ⟨g7, trivial⟩) (fun g7 => op_leq rfl rfl) (Oc (op_pick_and (fun e => e) rfl rfl rfl rfl) (Oc oa ?_)))
  refine OpsL.nilS ⟨[(1, _), (4, _), (24, B (x0.Neg && (decide (x_4 ≤ 9223372036854775808))))], [(101, _)]⟩ rfl (Tri.ite h rfl (fun _ h => ?_) (fun _ h => ?_))
  ·refine Tri.seq (Tri.regionL ?_)
   refine Oc om (Oc (op_neg rfl) ?_)
   refine OpsL.consI .i64 h rfl (op_conv_wrap undi54 undi3 rfl) (fun x_5 h => ?_)
   refine Oc oa (Oc oa ?_)
   refine OpsL.nilS ⟨[(2, I x_5), (3, B true)], []⟩ rfl (Tri.ret (Fin.block_ret (Fin.then_ret ?_)))
   obtain rfl := Option.some.inj h
   refine Fin.keepS ⟨[(2, _), (3, _)], []⟩ rfl (Fin.result' [.one (.i x_5), .one (.bool true)] (.inl rfl) rfl (.cons (.tmp rfl) (.cons (.tmp rfl) .nil)) ⟨rfl, rfl⟩)
  ·refine Tri.seq (Tri.regionL ?_)
   refine Oc (op_field_p tyFld35_1 rfl rfl) (Oc (op_load_p1 tyOne4 rfl rfl rfl) (Oc (op_not rfl) (Oc om ?_)))
   refine CgT (!x0.Neg) [] (fun g8 => trivial) (fun g8 => om) (CgT (!x0.Neg) [39] (fun g9 => by exact ⟨g9, trivial⟩) (fun g9 => op_lss rfl rfl) (Oc (op_pick_and (fun e => e) rfl rfl rfl rfl) (Oc oa ?_)))
   refine OpsL.nilS ⟨[(4, _), (34, B ((!x0.Neg) && (decide (x_4 < 9223372036854775808))))], []⟩ rfl (Tri.ite h rfl (fun _ h => ?_) (fun _ h => ?_))
   ·refine Tri.seq (Tri.regionL ?_)
    refine Oc om (Oc (op_conv_wrap undi54 undi3 rfl) (Oc oa (Oc oa ?_)))
    refine OpsL.nilS ⟨[(2, I (IntKind.i64.wrap x_4)), (3, B true)], []⟩ rfl (Tri.ret (Fin.block_ret (Fin.then_ret ?_)))
    obtain rfl := Option.some.inj h
    refine Fin.keepS ⟨[(2, _), (3, _)], []⟩ rfl (Fin.result' [.one (.i (IntKind.i64.wrap x_4)), .one (.bool true)] (.inl rfl) rfl (.cons (.tmp rfl) (.cons (.tmp rfl) .nil)) ⟨rfl, rfl⟩)
   ·refine Tri.skip (Fin.block_normal (Fin.keepS ⟨[], []⟩ rfl (Fin.then (Tri.seq (Tri.regionL ?_)))))
    refine Oc oa (Oc oa ?_)
    refine OpsL.nilS ⟨[(2, I 0), (3, B false)], []⟩ rfl (Tri.ret ?_)
    obtain rfl := Option.some.inj h
    refine Fin.keepS ⟨[(2, _), (3, _)], []⟩ rfl (Fin.result' [.one (.i 0), .one (.bool false)] (.inl rfl) rfl (.cons (.tmp rfl) (.cons (.tmp rfl) .nil)) ⟨rfl, rfl⟩)
def w_Sub_S (F : Nat) (a0 : Big) (b0 : Big) : Option Big :=
 (w_Neg_S F b0).bind fun x_1 => (w_Add_S F a0 x_1).bind fun x_2 => some x_2
theorem w_Sub_spec {F : Nat} {a0 : Big} {b0 : Big} {r : Big} (h : w_Sub_S F a0 b0 = some r) : Meets Tryz.prog (tabs mx) 147 [] [.agg (eBig a0), .agg (eBig b0)] (Is [] (.b (.agg (eBig r)))) := by
 unfold w_Sub_S at h
 refine Meets.intro 9 Tryz.func147 Tryz.ntmps147 rfl (by simp) fun E => ?_
 show Tri _ E ⟨9, [], [], []⟩ _ ⟨[(0, .b (.agg (eBig a0))), (1, .b (.agg (eBig b0)))], []⟩ _
 refine Tri.seq (Tri.regionL ?_)
 refine Oc (op_box (k := 101) rfl rfl) (Oc (op_box (k := 102) rfl rfl) (Oc (op_alloc (k := 103) tyZero35 rfl) ?_))
 refine OpsL.nilS ⟨[(2, Pt 101 0), (3, Pt 102 0), (4, Pt 103 0)], [(101, .box 35 (eBig a0)), (102, .box 35 (eBig b0)), (103, .box 35 zBig)]⟩ rfl (Tri.seq ?_)
 obtain ⟨x_1, e1, h⟩ := bnd h
 obtain ⟨x_2, e2, h⟩ := bnd h
 refine Tri.regionY mixed 4 [.b (.agg (eBig a0)), .b (.agg (eBig b0)), .b (.agg (eBig x_1)), .b (.agg (eBig x_2))] [4] [103] (s' := ⟨[(4, _)], [(103, .box 35 (eBig x_2))]⟩) rfl ⟨fun _ => .p (lp tyAgg35), fun _ => .p (lp tyAgg35), fun _ => .p (op_call0 (w_Neg_spec e1) goes75 rfl rfl), fun _ => .p (op_call0 (w_Add_spec e2) goes53 rfl rfl), trivial⟩ ⟨_, by exact .p (op_store_p tyAgg35 rfl rfl rfl rfl (Nat.le_of_ble_eq_true rfl) rfl), rfl⟩ rfl (Tri.ret ?_)
 obtain rfl := Option.some.inj h
 refine Fin.keepS ⟨[(4, _)], [(103, _)]⟩ rfl (Fin.result' [.agg (eBig x_2)] (.inl rfl) rfl (.cons (.agg tyAgg35 rfl rfl rfl rfl) .nil) ⟨rfl, rfl⟩)
end Go.Proofs.YtbcdabflmkgkiaaGreatDoor

