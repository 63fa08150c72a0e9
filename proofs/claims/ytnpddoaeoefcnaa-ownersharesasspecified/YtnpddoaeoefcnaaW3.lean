/- printed walks -/
import Derived.Test.YtnpddoaeoefcnaaW2
namespace Go.Proofs.Ytnpddoaeoefcnaa
open Go.Sk Go
set_option maxHeartbeats 4000000
set_option maxRecDepth 4000
set_option linter.unusedSimpArgs false
set_option linter.unusedVariables false
def owner_Shares_S (F : Nat) (borders0 : List Int) (home0 : List Int) (boxes0 : List Box) : Option ((List Share) × Int) :=
 Option.bind (iter F (fun x_1 => if (decide (x_1 < (borders0.length : Int))) = true then ((gcall (decide (0 < x_1)) (idx? borders0 x_1)).bind fun x_2 => (gcall (decide (0 < x_1)) (idx? borders0 (IntKind.i64.wrap (x_1 - 1)))).bind fun x_3 => if ((decide (0 < x_1)) && (decide (x_2 ≤ x_3))) = true then (some (.inr (.inr ([], 1)))) else (some (.inl (IntKind.i64.wrap (x_1 + 1))))) else (some (.inr (.inl ())))) 0) (alt2 (fun _ => letN (IntKind.i64.wrap ((borders0.length : Int) + 1)) fun x_4 => (owner_isHome_S F home0 x_4).bind fun x_5 => letN ((!x_5) || (decide ((boxes0.length : Int) ≠ (home0.length : Int)))) fun x_6 => if x_6 = true then (some ([], 1)) else (Option.bind (iter F (un2 fun out_8 x_9 => if (decide (x_9 < (home0.length : Int))) = true then (Option.bind ((idx? home0 x_9).bind fun x_12 => if (decide (x_12 < 0)) = true then (some (.inl out_8)) else ((idx? boxes0 x_9).bind fun x_13 => (broad_Valid_S F x_13).bind fun x_14 => if (!x_14) = true then (some (.inr ([], 1))) else ((idx? boxes0 x_9).bind fun x_15 => (idx? boxes0 x_9).bind fun x_16 => Option.bind (owner_Reach_S F borders0 x_15.Lo.a0 x_16.Hi.a0) (un2 fun x_17 x_18 => Option.bind (iter F (un2 fun out_19 r_20 => if (decide (r_20 ≤ x_18)) = true then (Option.bind (if (decide (r_20 ≠ x_12)) = true then ((app? out_19 [(⟨x_9, x_12, r_20⟩ : Share)]).bind fun x_23 => some x_23) else (some out_19)) (fun out_22 => some (.inl (out_22, IntKind.i64.wrap (r_20 + 1))))) else (some (.inr out_19))) (out_8, x_17)) (fun out_21 => some (.inl out_21)))))) (alt2 (fun out_11 => some (.inl (out_11, IntKind.i64.wrap (x_9 + 1)))) (fun y => some (.inr (.inr y))))) else (some (.inr (.inl out_8)))) ([], 0)) (alt2 (fun out_7 => some (out_7, 0)) (fun y => some y)))) (fun y => some y))
theorem owner_Shares_spec (kr0 : Nat) {F : Nat} {borders0 : List Int} {home0 : List Int} {boxes0 : List Box} {r : (List Share) × Int} (h : owner_Shares_S F borders0 home0 boxes0 = some r) : Meets Try.prog [] 33 [] [.one (.sl 1 (borders0.map eI)), .one (.sl 1 (home0.map eI)), .one (.sl 6 (boxes0.map eBox))] (Is [(kr0, .row 83 3 (r.1.map eShare))] (.tup [.row kr0, .one (.i r.2)])) := by
 unfold owner_Shares_S at h
 refine Meets.intro 98 Try.func33 Try.ntmps33 rfl (by simp) fun E => ?_
 show Tri _ E ⟨98, [], [], []⟩ _ ⟨[(0, .b (.one (.sl 1 (borders0.map eI)))), (1, .b (.one (.sl 1 (home0.map eI)))), (2, .b (.one (.sl 6 (boxes0.map eBox))))], []⟩ _
 refine Tri.seq (Tri.regionL ?_)
 refine Oc oa (Oc oa ?_)
 refine OpsL.nilS ⟨[(0, .b (.one (.sl 1 (borders0.map eI)))), (1, .b (.one (.sl 1 (home0.map eI)))), (2, .b (.one (.sl 6 (boxes0.map eBox))))], []⟩ rfl ?_
 obtain ⟨v1, h2, h⟩ := bnd h
 refine Tri.seqJ (v := v1) (fun (_ : Unit) => ⟨[(0, .b (.one (.sl 1 (borders0.map eI)))), (1, .b (.one (.sl 1 (home0.map eI)))), (2, .b (.one (.sl 6 (boxes0.map eBox))))], []⟩) (fun z => .inl z) ?_ ?_
 ·refine Tri.seq (Tri.regionL ?_)
  refine Oc om (Oc (op_len_e' und22 rfl (List.length_map _)) (Oc om ?_))
  refine OpsL.nilS ⟨[(0, _), (1, _), (2, _), (16, I (borders0.length : Int)), (17, I 0)], []⟩ rfl (Tri.block (Tri.loopJ h2 (fun (x_1 : Int) => ⟨[(0, .b (.one (.sl 1 (borders0.map eI)))), (1, .b (.one (.sl 1 (home0.map eI)))), (2, .b (.one (.sl 6 (boxes0.map eBox)))), (16, I (borders0.length : Int)), (17, I x_1)], []⟩) [0, 1, 2, 16, 17] [] rfl ?_))
  rintro x_1 o3 h4 hy5
  refine Tri.seq (Tri.regionL ?_)
  refine Oc (op_lss rfl rfl) (OpsL.nilS ⟨[(0, _), (1, _), (2, _), (16, _), (17, _), (18, B (decide (x_1 < (borders0.length : Int))))], []⟩ rfl (Tri.seq (Tri.ite h4 rfl (fun _ h4 => ?_) (fun _ h4 => ?_))))
  ·refine Tri.skip (Fin.keepS ⟨[(0, _), (1, _), (2, _), (16, _), (17, _)], []⟩ rfl (Fin.then (Tri.seq (Tri.block (Tri.seq (Tri.regionL ?_))))))
   refine Oc om (Oc oa ?_)
   refine OpsL.nilS ⟨[(0, _), (1, _), (2, _), (8, I x_1), (16, _), (17, _)], []⟩ rfl (Tri.seq ?_)
   obtain ⟨x_2, e9, h4⟩ := bnd h4
   obtain ⟨x_3, e15, h4⟩ := bnd h4
   refine Tri.regionY mixed 14 [I x_1, B (decide (0 < x_1)), B (decide (0 < x_1)), .opt (decide (0 < x_1)) (.one (.sl 1 (borders0.map eI))), .opt (decide (0 < x_1)) (.one (.i x_1)), .opt (decide (0 < x_1)) (.eptr [.i x_2]), .opt (decide (0 < x_1)) (.one (.i x_2)), .opt (decide (0 < x_1)) (.one (.sl 1 (borders0.map eI))), .opt (decide (0 < x_1)) (.one (.i x_1)), .opt (decide (0 < x_1)) (.one (.i (IntKind.i64.wrap (x_1 - 1)))), .opt (decide (0 < x_1)) (.eptr [.i x_3]), .opt (decide (0 < x_1)) (.one (.i x_3)), .opt (decide (0 < x_1)) (.one (.bool (decide (x_2 ≤ x_3)))), B ((decide (0 < x_1)) && (decide (x_2 ≤ x_3)))] [0, 1, 2, 16, 17, 33] [] (s' := ⟨[(0, _), (1, _), (2, _), (16, _), (17, _), (33, B ((decide (0 < x_1)) && (decide (x_2 ≤ x_3))))], []⟩) rfl ⟨fun _ => .p om, fun _ => .p (op_gtr rfl rfl), fun _ => .p om, fun _ => by exact .guard (decide (0 < x_1)) 1 [] (.plain rfl) (eq_t _) rfl rfl (fun g6 => trivial) (fun g6 => om), fun _ => by exact .guard (decide (0 < x_1)) 1 [] (.plain rfl) (eq_t _) rfl rfl (fun g7 => trivial) (fun g7 => om), fun _ => by exact .guard (decide (0 < x_1)) 3 [23, 24] (.plain rfl) (eq_t _) rfl rfl (fun g8 => ⟨g8, g8, trivial⟩) (fun g8 => op_index_e tySl22 (ix_lo (gc e9 g8)) (ix_map (e := eI) (gc e9 g8)) rfl rfl), fun _ => by exact .guard (decide (0 < x_1)) 2 [25] (.plain rfl) (eq_t _) rfl rfl (fun g10 => ⟨g10, trivial⟩) (fun g10 => op_load_e1 tyOne3 rfl rfl), fun _ => by exact .guard (decide (0 < x_1)) 1 [] (.plain rfl) (eq_t _) rfl rfl (fun g11 => trivial) (fun g11 => om), fun _ => by exact .guard (decide (0 < x_1)) 1 [] (.plain rfl) (eq_t _) rfl rfl (fun g12 => trivial) (fun g12 => om), fun _ => by exact .guard (decide (0 < x_1)) 2 [28] (.plain rfl) (eq_t _) rfl rfl (fun g13 => ⟨g13, trivial⟩) (fun g13 => op_sub rfl rfl), fun _ => by exact .guard (decide (0 < x_1)) 3 [27, 29] (.plain rfl) (eq_t _) rfl rfl (fun g14 => ⟨g14, g14, trivial⟩) (fun g14 => op_index_e tySl22 (ix_lo (gc e15 g14)) (ix_map (e := eI) (gc e15 g14)) rfl rfl), fun _ => by exact .guard (decide (0 < x_1)) 2 [30] (.plain rfl) (eq_t _) rfl rfl (fun g16 => ⟨g16, trivial⟩) (fun g16 => op_load_e1 tyOne3 rfl rfl), fun _ => by exact .guard (decide (0 < x_1)) 3 [26, 31] (.plain rfl) (eq_t _) rfl rfl (fun g17 => ⟨g17, g17, trivial⟩) (fun g17 => op_leq rfl rfl), fun _ => .p (op_pick_and (fun e => e) rfl rfl rfl rfl), trivial⟩ rfl rfl (Tri.ite h4 rfl (fun _ h4 => ?_) (fun _ h4 => ?_))
   ·refine Tri.seq (Tri.regionL ?_)
    refine Oc oa (Oc oa ?_)
    refine OpsL.nilS ⟨[(6, .b (.one (.nil))), (7, I 1)], []⟩ rfl (Tri.ret (Fin.block_ret (Fin.then_ret ?_)))
    obtain rfl := hy5 _ (Option.some.inj h4).symm
    refine Fin.then_ret (Fin.block_ret (Fin.then_ret ?_))
    obtain rfl := Option.some.inj h
    refine Fin.keepS ⟨[(6, _), (7, _)], []⟩ rfl (Fin.nilrow 6 101 3 83 rfl (by decide) rfl (Fin.resultK 101 kr0 [.row 101, .one (.i 1)] (.inl rfl) rfl (.cons (.tmp rfl) (.cons (.tmp rfl) .nil)) rfl rfl rfl rfl ⟨rfl, rfl⟩))
   ·refine Tri.skip (Fin.block_normal (Fin.keepS ⟨[(0, _), (1, _), (2, _), (16, _), (17, _)], []⟩ rfl (Fin.then (Tri.regionL ?_))))
    refine Oc (op_add rfl rfl) (Oc om ?_)
    refine OpsL.nil ?_
    exact Fin.againJ [0, 1, 2, 16, 17] [] (IntKind.i64.wrap (x_1 + 1)) (Option.some.inj h4) rfl
  ·refine Tri.exit (Fin.then_exit ?_)
   obtain rfl := hy5 _ (Option.some.inj h4).symm
   refine Fin.then_exit (Fin.block_exit ?_)
   exact Fin.join [0, 1, 2] [] () rfl rfl
 ·rintro _ hv
  subst v1
  refine Tri.seq (Tri.seq (Tri.regionL ?_))
  refine Oc om (Oc om (Oc (op_len_e' und22 rfl (List.length_map _)) ?_))
  refine OpsL.consI .i64 h rfl (op_add rfl rfl) (fun x_4 h => ?_)
  refine OpsL.keepS ⟨[(0, _), (1, _), (2, _), (35, .b (.one (.sl 1 (home0.map eI)))), (38, I x_4)], []⟩ rfl ?_
  obtain ⟨x_5, e18, h⟩ := bnd h
  refine Oc (op_call0 (owner_isHome_spec e18) goes41 rfl rfl) (Oc (op_not rfl) (Oc om ?_))
  refine CgF (!(!x_5)) [] (fun g19 => trivial) (fun g19 => om) (CgF (!(!x_5)) [42] (fun g20 => by exact ⟨g20, trivial⟩) (fun g20 => op_len_e' und70 rfl (List.length_map _)) (CgF (!(!x_5)) [] (fun g21 => by exact trivial) (fun g21 => om) (OpsL.keepS ⟨[(0, _), (1, _), (2, _), (41, B (!x_5)), (43, .opt (!(!x_5)) (.one (.i (boxes0.length : Int)))), (44, .opt (!(!x_5)) (.one (.sl 1 (home0.map eI))))], []⟩ rfl (CgF (!(!x_5)) [44] (fun g22 => by exact ⟨g22, trivial⟩) (fun g22 => op_len_e' und22 rfl (List.length_map _)) (CgF (!(!x_5)) [43, 45] (fun g23 => by exact ⟨g23, g23, trivial⟩) (fun g23 => op_neq rfl rfl) ?_)))))
  refine OpsL.consB h rfl (op_pick_or (fun e => by first | (rw [e]; rfl) | (simp only at e; rw [e]; rfl)) rfl rfl rfl rfl) (fun x_6 h => ?_)
  refine OpsL.nilS ⟨[(0, _), (1, _), (2, _), (47, B x_6)], []⟩ rfl (Tri.ite h rfl (fun _ h => ?_) (fun _ h => ?_))
  ·refine Tri.seq (Tri.regionL ?_)
   refine Oc oa (Oc oa ?_)
   refine OpsL.nilS ⟨[(6, .b (.one (.nil))), (7, I 1)], []⟩ rfl (Tri.ret (Fin.then_ret ?_))
   obtain rfl := Option.some.inj h
   refine Fin.keepS ⟨[(6, _), (7, _)], []⟩ rfl (Fin.nilrow 6 101 3 83 rfl (by decide) rfl (Fin.resultK 101 kr0 [.row 101, .one (.i 1)] (.inl rfl) rfl (.cons (.tmp rfl) (.cons (.tmp rfl) .nil)) rfl rfl rfl rfl ⟨rfl, rfl⟩))
  ·refine Tri.skip (Fin.keepS ⟨[(0, _), (1, _), (2, _)], []⟩ rfl (Fin.then (Tri.seq (Tri.regionL ?_))))
   refine Oc oa (OpsL.nilS ⟨[(0, _), (1, _), (2, _), (9, .b (.one (.nil)))], []⟩ rfl ?_)
   obtain ⟨v24, h25, h⟩ := bnd h
   refine Tri.seqJ (v := v24) (fun (out_7 : List Share) => ⟨[(9, .b (.row 103))], [(103, .row 83 3 (out_7.map eShare))]⟩) (fun z => .inl z) ?_ ?_
   ·refine Tri.seq (Tri.regionL ?_)
    refine Oc om (Oc (op_len_e' und22 rfl (List.length_map _)) (Oc om ?_))
    refine OpsL.nilS ⟨[(0, _), (2, _), (9, _), (48, .b (.one (.sl 1 (home0.map eI)))), (49, I (home0.length : Int)), (50, I 0)], []⟩ rfl (Tri.block (Tri.nilrow 9 103 3 83 rfl (by decide) rfl (Tri.loopJ h25 (un2 fun (out_8 : List Share) (x_9 : Int) => ⟨[(0, .b (.one (.sl 1 (borders0.map eI)))), (2, .b (.one (.sl 6 (boxes0.map eBox)))), (9, .b (.row 103)), (48, .b (.one (.sl 1 (home0.map eI)))), (49, I (home0.length : Int)), (50, I x_9)], [(103, .row 83 3 (out_8.map eShare))]⟩) [0, 2, 9, 48, 49, 50] [103] rfl ?_)))
    rintro ⟨out_8, x_9⟩ o26 h27 hy28
    refine Tri.seq (Tri.regionL ?_)
    refine Oc (op_lss rfl rfl) (OpsL.nilS ⟨[(0, _), (2, _), (9, _), (48, _), (49, _), (50, _), (51, B (decide (x_9 < (home0.length : Int))))], [(103, _)]⟩ rfl (Tri.seq (Tri.ite h27 rfl (fun _ h27 => ?_) (fun _ h27 => ?_))))
    ·refine Tri.skip (Fin.keepS ⟨[(0, _), (2, _), (9, _), (48, _), (49, _), (50, _)], [(103, _)]⟩ rfl (Fin.then ?_))
     obtain ⟨v29, h30, h27⟩ := bnd h27
     refine Tri.seqJ (v := v29) (fun (out_11 : List Share) => ⟨[(0, .b (.one (.sl 1 (borders0.map eI)))), (2, .b (.one (.sl 6 (boxes0.map eBox)))), (9, .b (.row 103)), (48, .b (.one (.sl 1 (home0.map eI)))), (49, I (home0.length : Int)), (50, I x_9)], [(103, .row 83 3 (out_11.map eShare))]⟩) (fun z => .inl z) ?_ ?_
     ·refine Tri.block (Tri.seq (Tri.regionL ?_))
      refine Oc om ?_
      obtain ⟨x_12, e31, h30⟩ := bnd h30
      refine Oc (op_index_e tySl22 (ix_lo e31) (ix_map (e := eI) e31) rfl rfl) (Oc (op_load_e1 tyOne3 rfl rfl) (Oc oa (Oc oa ?_)))
      refine OpsL.nilS ⟨[(0, _), (2, _), (9, _), (10, I x_9), (11, I x_12), (48, _), (49, _), (50, _)], [(103, _)]⟩ rfl (Tri.seq (Tri.seq (Tri.regionL ?_)))
      refine Oc om (Oc (op_lss rfl rfl) ?_)
      refine OpsL.nilS ⟨[(0, _), (2, _), (9, _), (10, _), (11, _), (48, _), (49, _), (50, _), (56, B (decide (x_12 < 0)))], [(103, _)]⟩ rfl (Tri.ite h30 rfl (fun _ h30 => ?_) (fun _ h30 => ?_))
      ·refine Tri.exit (Fin.then_exit (Fin.block_exit ?_))
       exact Fin.join [0, 2, 9, 48, 49, 50] [103] out_8 (Option.some.inj h30) rfl
      ·refine Tri.skip (Fin.keepS ⟨[(0, _), (2, _), (9, _), (10, _), (11, _), (48, _), (49, _), (50, _)], [(103, _)]⟩ rfl (Fin.then (Tri.seq (Tri.seq (Tri.regionL ?_)))))
       refine Oc om (Oc om ?_)
       obtain ⟨x_13, e32, h30⟩ := bnd h30
       refine Oc (op_index_e tySl70 (ix_lo e32) (ix_map (e := eBox) e32) rfl rfl) (Oc (op_load_e tyAgg89 rfl rfl rfl) ?_)
       obtain ⟨x_14, e33, h30⟩ := bnd h30
       refine Oc (op_call0 (broad_Valid_spec e33) goes73 rfl rfl) (Oc (op_not rfl) ?_)
       refine OpsL.nilS ⟨[(0, _), (2, _), (9, _), (10, _), (11, _), (48, _), (49, _), (50, _), (62, B (!x_14))], [(103, _)]⟩ rfl (Tri.ite h30 rfl (fun _ h30 => ?_) (fun _ h30 => ?_))
       ·refine Tri.seq (Tri.regionL ?_)
        refine Oc oa (Oc oa ?_)
        refine OpsL.nilS ⟨[(6, .b (.one (.nil))), (7, I 1)], []⟩ rfl (Tri.ret (Fin.then_ret (Fin.block_ret ?_)))
        obtain rfl := Option.some.inj h30
        refine Fin.then_ret ?_
        obtain rfl := hy28 _ (Option.some.inj h27).symm
        refine Fin.then_ret (Fin.block_ret (Fin.then_ret ?_))
        obtain rfl := Option.some.inj h
        refine Fin.keepS ⟨[(6, _), (7, _)], []⟩ rfl (Fin.nilrow 6 104 3 83 rfl (by decide) rfl (Fin.resultK 104 kr0 [.row 104, .one (.i 1)] (.inl rfl) rfl (.cons (.tmp rfl) (.cons (.tmp rfl) .nil)) rfl rfl rfl rfl ⟨rfl, rfl⟩))
       ·refine Tri.skip (Fin.keepS ⟨[(0, _), (2, _), (9, _), (10, _), (11, _), (48, _), (49, _), (50, _)], [(103, _)]⟩ rfl (Fin.then (Tri.seq ?_)))
        refine Tri.keepS ⟨[(0, _), (2, _), (9, _), (10, _), (11, _), (48, _), (49, _), (50, _)], [(103, _)]⟩ rfl ?_
        obtain ⟨x_15, e34, h30⟩ := bnd h30
        obtain ⟨x_16, e35, h30⟩ := bnd h30
        obtain ⟨⟨x_17, x_18⟩, e36, h30⟩ := bnd h30
        refine Tri.regionY mixed 19 [.b (.one (.sl 1 (borders0.map eI))), .b (.one (.sl 6 (boxes0.map eBox))), I x_9, .b (.eptr (eBox x_15)), .b (.eptr (eBox x_15)), .b (.eptr [.i x_15.Lo.a0]), I x_15.Lo.a0, .b (.one (.sl 6 (boxes0.map eBox))), I x_9, .b (.eptr (eBox x_16)), .b (.eptr ((eA3 .i64) x_16.Hi)), .b (.eptr [.i x_16.Hi.a0]), I x_16.Hi.a0, .tup [.one (.i x_17), .one (.i x_18)], .tup [.one (.i x_17), .one (.i x_18)], I x_17, I x_18, I x_17, I x_18] [0, 2, 9, 10, 11, 12, 13, 48, 49, 50] [103] (s' := ⟨[(0, _), (2, _), (9, _), (10, _), (11, _), (12, I x_17), (13, I x_18), (48, _), (49, _), (50, _)], [(103, _)]⟩) rfl ⟨fun _ => .p om, fun _ => .p om, fun _ => .p om, fun _ => .p (op_index_e tySl70 (ix_lo e34) (ix_map (e := eBox) e34) rfl rfl), fun _ => by exact .p (op_field_e tyFld89_0 rfl rfl), fun _ => .p (op_index_ea tyArr87 (by decide) (by decide) rfl rfl rfl), fun _ => .p (op_load_e1 tyOne3 rfl rfl), fun _ => .p om, fun _ => .p om, fun _ => .p (op_index_e tySl70 (ix_lo e35) (ix_map (e := eBox) e35) rfl rfl), fun _ => by exact .p (op_field_e tyFld89_1 rfl rfl), fun _ => .p (op_index_ea tyArr87 (by decide) (by decide) rfl rfl rfl), fun _ => .p (op_load_e1 tyOne3 rfl rfl), fun _ => .p (op_call0 (owner_Reach_spec e36) goes36 rfl rfl), fun _ => .p om, fun _ => .p (op_extract rfl rfl), fun _ => .p (op_extract rfl rfl), fun _ => .p oa, fun _ => .p oa, trivial⟩ rfl rfl (Tri.seq (Tri.regionL ?_))
        refine Oc om (Oc oa ?_)
        refine OpsL.nilS ⟨[(0, _), (2, _), (9, _), (10, _), (11, _), (13, _), (14, I x_17), (48, _), (49, _), (50, _)], [(103, _)]⟩ rfl (Tri.block ?_)
        obtain ⟨v37, h38, h30⟩ := bnd h30
        refine Tri.loopJ h38 (un2 fun (out_19 : List Share) (r_20 : Int) => ⟨[(0, .b (.one (.sl 1 (borders0.map eI)))), (2, .b (.one (.sl 6 (boxes0.map eBox)))), (9, .b (.row 103)), (10, I x_9), (11, I x_12), (13, I x_18), (14, I r_20), (48, .b (.one (.sl 1 (home0.map eI)))), (49, I (home0.length : Int)), (50, I x_9)], [(103, .row 83 3 (out_19.map eShare))]⟩) [0, 2, 9, 10, 11, 13, 14, 48, 49, 50] [103] rfl ?_
        rintro ⟨out_19, r_20⟩ o39 h40 hy41
        refine Tri.seq (Tri.seq (Tri.regionL ?_))
        refine Oc om (Oc om (Oc (op_leq rfl rfl) ?_))
        refine OpsL.nilS ⟨[(0, _), (2, _), (9, _), (10, _), (11, _), (13, _), (14, _), (48, _), (49, _), (50, _), (83, B (decide (r_20 ≤ x_18)))], [(103, _)]⟩ rfl (Tri.ite h40 rfl (fun _ h40 => ?_) (fun _ h40 => ?_))
        ·refine Tri.skip (Fin.keepS ⟨[(0, _), (2, _), (9, _), (10, _), (11, _), (13, _), (14, _), (48, _), (49, _), (50, _)], [(103, _)]⟩ rfl (Fin.then ?_))
         obtain ⟨v42, h43, h40⟩ := bnd h40
         refine Tri.seqJ (v := v42) (fun (out_22 : List Share) => ⟨[(0, .b (.one (.sl 1 (borders0.map eI)))), (2, .b (.one (.sl 6 (boxes0.map eBox)))), (9, .b (.row 103)), (10, I x_9), (11, I x_12), (13, I x_18), (14, I r_20), (48, .b (.one (.sl 1 (home0.map eI)))), (49, I (home0.length : Int)), (50, I x_9)], [(103, .row 83 3 (out_22.map eShare))]⟩) (fun z => z) ?_ ?_
         ·refine Tri.block (Tri.seq (Tri.regionL ?_))
          refine Oc om (Oc om (Oc (op_neq rfl rfl) ?_))
          refine OpsL.nilS ⟨[(0, _), (2, _), (9, _), (10, _), (11, _), (13, _), (14, _), (48, _), (49, _), (50, _), (88, B (decide (r_20 ≠ x_12)))], [(103, _)]⟩ rfl (Tri.ite h43 rfl (fun _ h43 => ?_) (fun _ h43 => ?_))
          ·refine Tri.regionL (Oc om (Oc om (Oc om (Oc om (Oc (op_build tyBuild83 rfl rfl) (Oc (op_buildSlice (k := 104) (es := [(⟨x_9, x_12, r_20⟩ : Share)].map eShare) tySl71 rfl rfl (uni_map fun _ => rfl) rfl (by decide) (by decide) rfl) ?_))))))
           obtain ⟨x_23, e44, h43⟩ := bnd h43
           refine Oc (op_append_r tySl71 (app_b e44) (app_m e44) rfl rfl rfl rfl (app_map e44) rfl) (Oc oa ?_)
           refine OpsL.nil (Fin.block_normal ?_)
           exact Fin.join [0, 2, 9, 10, 11, 13, 14, 48, 49, 50] [103] x_23 (Option.some.inj h43) rfl
          ·refine Tri.skip (Fin.block_normal ?_)
           exact Fin.join [0, 2, 9, 10, 11, 13, 14, 48, 49, 50] [103] out_19 (Option.some.inj h43) rfl
         ·rintro out_22 hv
          subst v42
          refine Tri.regionL (Oc om (Oc (op_add rfl rfl) (Oc oa ?_)))
          refine OpsL.nil ?_
          exact Fin.againJ [0, 2, 9, 10, 11, 13, 14, 48, 49, 50] [103] (out_22, IntKind.i64.wrap (r_20 + 1)) (Option.some.inj h40) rfl
        ·refine Tri.exit (Fin.then_exit ?_)
         obtain rfl := hy41 _ (Option.some.inj h40).symm
         refine Fin.then_exit (Fin.block_exit (Fin.block_normal ?_))
         exact Fin.join [0, 2, 9, 48, 49, 50] [103] out_19 (Option.some.inj h30) rfl
     ·rintro out_11 hv
      subst v29
      refine Tri.regionL (Oc (op_add rfl rfl) (Oc om ?_))
      refine OpsL.nil ?_
      exact Fin.againJ [0, 2, 9, 48, 49, 50] [103] (out_11, IntKind.i64.wrap (x_9 + 1)) (Option.some.inj h27) rfl
    ·refine Tri.exit (Fin.then_exit ?_)
     obtain rfl := hy28 _ (Option.some.inj h27).symm
     refine Fin.then_exit (Fin.block_exit ?_)
     exact Fin.join [9] [103] out_8 rfl rfl
   ·rintro out_7 hv
    subst v24
    refine Tri.seq (Tri.regionL ?_)
    refine Oc om (Oc oa (Oc oa ?_))
    refine OpsL.nilS ⟨[(6, .b (.row 103)), (7, I 0)], [(103, _)]⟩ rfl (Tri.ret ?_)
    obtain rfl := Option.some.inj h
    refine Fin.keepS ⟨[(6, _), (7, _)], [(103, _)]⟩ rfl (Fin.resultK 103 kr0 [.row 103, .one (.i 0)] (.inl rfl) rfl (.cons (.tmp rfl) (.cons (.tmp rfl) .nil)) rfl rfl rfl rfl ⟨rfl, rfl⟩)
def skewbackref44_Ascending_S (F : Nat) (borders0 : List Int) : Option Bool :=
 Option.bind (iter F (fun i_1 => if (decide (i_1 < (borders0.length : Int))) = true then ((idx? borders0 i_1).bind fun x_2 => (idx? borders0 (IntKind.i64.wrap (i_1 - 1))).bind fun x_3 => if (decide (x_2 ≤ x_3)) = true then (some (.inr (.inr false))) else (some (.inl (IntKind.i64.wrap (i_1 + 1))))) else (some (.inr (.inl ())))) 1) (alt2 (fun _ => some true) (fun y => some y))
theorem skewbackref44_Ascending_spec {F : Nat} {borders0 : List Int} {r : Bool} (h : skewbackref44_Ascending_S F borders0 = some r) : Meets Try.prog [] 35 [] [.one (.sl 1 (borders0.map eI))] (Is [] (.b (.one (.bool r)))) := by
 unfold skewbackref44_Ascending_S at h
 refine Meets.intro 20 Try.func35 Try.ntmps35 rfl (by simp) fun E => ?_
 show Tri _ E ⟨20, [], [], []⟩ _ ⟨[(0, .b (.one (.sl 1 (borders0.map eI))))], []⟩ _
 refine Tri.seq (Tri.regionL ?_)
 refine Oc oa (OpsL.nilS ⟨[(0, .b (.one (.sl 1 (borders0.map eI))))], []⟩ rfl ?_)
 obtain ⟨v1, h2, h⟩ := bnd h
 refine Tri.seqJ (v := v1) (fun (_ : Unit) => ⟨[], []⟩) (fun z => .inl z) ?_ ?_
 ·refine Tri.seq (Tri.regionL ?_)
  refine Oc oa (OpsL.nilS ⟨[(0, _), (3, I 1)], []⟩ rfl (Tri.block (Tri.loopJ h2 (fun (i_1 : Int) => ⟨[(0, .b (.one (.sl 1 (borders0.map eI)))), (3, I i_1)], []⟩) [0, 3] [] rfl ?_)))
  rintro i_1 o3 h4 hy5
  refine Tri.seq (Tri.seq (Tri.regionL ?_))
  refine Oc om (Oc om (Oc (op_len_e' und22 rfl (List.length_map _)) (Oc (op_lss rfl rfl) ?_)))
  refine OpsL.nilS ⟨[(0, _), (3, _), (7, B (decide (i_1 < (borders0.length : Int))))], []⟩ rfl (Tri.ite h4 rfl (fun _ h4 => ?_) (fun _ h4 => ?_))
  ·refine Tri.skip (Fin.keepS ⟨[(0, _), (3, _)], []⟩ rfl (Fin.then (Tri.seq (Tri.block (Tri.seq ?_)))))
   refine Tri.keepS ⟨[(0, _), (3, _)], []⟩ rfl ?_
   obtain ⟨x_2, e6, h4⟩ := bnd h4
   obtain ⟨x_3, e7, h4⟩ := bnd h4
   refine Tri.regionY mixed 10 [.b (.one (.sl 1 (borders0.map eI))), I i_1, .b (.eptr [.i x_2]), I x_2, .b (.one (.sl 1 (borders0.map eI))), I i_1, I (IntKind.i64.wrap (i_1 - 1)), .b (.eptr [.i x_3]), I x_3, B (decide (x_2 ≤ x_3))] [0, 3, 19] [] (s' := ⟨[(0, _), (3, _), (19, B (decide (x_2 ≤ x_3)))], []⟩) rfl ⟨fun _ => .p om, fun _ => .p om, fun _ => .p (op_index_e tySl22 (ix_lo e6) (ix_map (e := eI) e6) rfl rfl), fun _ => .p (op_load_e1 tyOne3 rfl rfl), fun _ => .p om, fun _ => .p om, fun _ => .p (op_sub rfl rfl), fun _ => .p (op_index_e tySl22 (ix_lo e7) (ix_map (e := eI) e7) rfl rfl), fun _ => .p (op_load_e1 tyOne3 rfl rfl), fun _ => .p (op_leq rfl rfl), trivial⟩ rfl rfl (Tri.ite h4 rfl (fun _ h4 => ?_) (fun _ h4 => ?_))
   ·refine Tri.seq (Tri.regionL ?_)
    refine Oc oa (OpsL.nilS ⟨[(2, B false)], []⟩ rfl (Tri.ret (Fin.block_ret (Fin.then_ret ?_))))
    obtain rfl := hy5 _ (Option.some.inj h4).symm
    refine Fin.then_ret (Fin.block_ret (Fin.then_ret ?_))
    obtain rfl := Option.some.inj h
    refine Fin.keepS ⟨[(2, _)], []⟩ rfl (Fin.result' [.one (.bool false)] (.inl rfl) rfl (.cons (.tmp rfl) .nil) ⟨rfl, rfl⟩)
   ·refine Tri.skip (Fin.block_normal (Fin.keepS ⟨[(0, _), (3, _)], []⟩ rfl (Fin.then (Tri.regionL ?_))))
    refine Oc om (Oc (op_add rfl rfl) (Oc oa ?_))
    refine OpsL.nil ?_
    exact Fin.againJ [0, 3] [] (IntKind.i64.wrap (i_1 + 1)) (Option.some.inj h4) rfl
  ·refine Tri.exit (Fin.then_exit ?_)
   obtain rfl := hy5 _ (Option.some.inj h4).symm
   refine Fin.then_exit (Fin.block_exit ?_)
   exact Fin.join [] [] () rfl rfl
 ·rintro _ hv
  subst v1
  refine Tri.seq (Tri.regionL ?_)
  refine Oc oa (OpsL.nilS ⟨[(2, B true)], []⟩ rfl (Tri.ret ?_))
  obtain rfl := Option.some.inj h
  refine Fin.keepS ⟨[(2, _)], []⟩ rfl (Fin.result' [.one (.bool true)] (.inl rfl) rfl (.cons (.tmp rfl) .nil) ⟨rfl, rfl⟩)
def skewbackref17_Valid_S (F : Nat) (b0 : Box) : Option Bool :=
 Option.bind (iter F (fun i_1 => if (decide (i_1 < 3)) = true then ((idx? b0.Lo.l i_1).bind fun x_2 => (idx? b0.Hi.l i_1).bind fun x_3 => (gcall (!(decide (x_3 < x_2))) (idx? b0.Lo.l i_1)).bind fun x_4 => (gcall (!((decide (x_3 < x_2)) || (decide (x_4 < (-1125899906842624))))) (idx? b0.Hi.l i_1)).bind fun x_5 => if (((decide (x_3 < x_2)) || (decide (x_4 < (-1125899906842624)))) || (decide (1125899906842624 < x_5))) = true then (some (.inr (.inr false))) else (some (.inl (IntKind.i64.wrap (i_1 + 1))))) else (some (.inr (.inl ())))) 0) (alt2 (fun _ => some true) (fun y => some y))
theorem skewbackref17_Valid_spec {F : Nat} {b0 : Box} {r : Bool} (h : skewbackref17_Valid_S F b0 = some r) : Meets Try.prog [] 74 [] [.agg (eBox b0)] (Is [] (.b (.one (.bool r)))) := by
 unfold skewbackref17_Valid_S at h
 refine Meets.intro 31 Try.func74 Try.ntmps74 rfl (by simp) fun E => ?_
 show Tri _ E ⟨31, [], [], []⟩ _ ⟨[(0, .b (.agg (eBox b0)))], []⟩ _
 refine Tri.seq (Tri.regionL ?_)
 refine Oc (op_box (k := 101) rfl rfl) (Oc oa ?_)
 refine OpsL.nilS ⟨[(1, Pt 101 0)], [(101, .box 89 (eBox b0))]⟩ rfl ?_
 obtain ⟨v1, h2, h⟩ := bnd h
 refine Tri.seqJ (v := v1) (fun (_ : Unit) => ⟨[], []⟩) (fun z => .inl z) ?_ ?_
 ·refine Tri.seq (Tri.regionL ?_)
  refine Oc oa (OpsL.nilS ⟨[(1, _), (3, I 0)], [(101, _)]⟩ rfl (Tri.block (Tri.loopJ h2 (fun (i_1 : Int) => ⟨[(1, Pt 101 0), (3, I i_1)], [(101, .box 89 (eBox b0))]⟩) [1, 3] [101] rfl ?_)))
  rintro i_1 o3 h4 hy5
  refine Tri.seq (Tri.seq (Tri.regionL ?_))
  refine Oc om (Oc (op_lss rfl rfl) ?_)
  refine OpsL.nilS ⟨[(1, _), (3, _), (5, B (decide (i_1 < 3)))], [(101, _)]⟩ rfl (Tri.ite h4 rfl (fun _ h4 => ?_) (fun _ h4 => ?_))
  ·refine Tri.skip (Fin.keepS ⟨[(1, _), (3, _)], [(101, _)]⟩ rfl (Fin.then (Tri.seq (Tri.block (Tri.seq ?_)))))
   refine Tri.keepS ⟨[(1, _), (3, _)], [(101, _)]⟩ rfl ?_
   obtain ⟨x_2, e6, h4⟩ := bnd h4
   obtain ⟨x_3, e7, h4⟩ := bnd h4
   obtain ⟨x_4, e11, h4⟩ := bnd h4
   obtain ⟨x_5, e17, h4⟩ := bnd h4
   refine Tri.regionY mixed 23 [I i_1, Pt 101 0, .b (.ptr 101 (0 + (i_1 : Int).toNat * 1)), I x_2, I i_1, Pt 101 3, .b (.ptr 101 (3 + (i_1 : Int).toNat * 1)), I x_3, B (decide (x_3 < x_2)), B (decide (x_3 < x_2)), .opt (!(decide (x_3 < x_2))) (.one (.i i_1)), .opt (!(decide (x_3 < x_2))) (.ptr 101 0), .opt (!(decide (x_3 < x_2))) (.ptr 101 (0 + (i_1 : Int).toNat * 1)), .opt (!(decide (x_3 < x_2))) (.one (.i x_4)), .opt (!(decide (x_3 < x_2))) (.one (.bool (decide (x_4 < (-1125899906842624))))), B ((decide (x_3 < x_2)) || (decide (x_4 < (-1125899906842624)))), B ((decide (x_3 < x_2)) || (decide (x_4 < (-1125899906842624)))), .opt (!((decide (x_3 < x_2)) || (decide (x_4 < (-1125899906842624))))) (.one (.i i_1)), .opt (!((decide (x_3 < x_2)) || (decide (x_4 < (-1125899906842624))))) (.ptr 101 3), .opt (!((decide (x_3 < x_2)) || (decide (x_4 < (-1125899906842624))))) (.ptr 101 (3 + (i_1 : Int).toNat * 1)), .opt (!((decide (x_3 < x_2)) || (decide (x_4 < (-1125899906842624))))) (.one (.i x_5)), .opt (!((decide (x_3 < x_2)) || (decide (x_4 < (-1125899906842624))))) (.one (.bool (decide (1125899906842624 < x_5)))), B (((decide (x_3 < x_2)) || (decide (x_4 < (-1125899906842624)))) || (decide (1125899906842624 < x_5)))] [1, 3, 30] [101] (s' := ⟨[(1, _), (3, _), (30, B (((decide (x_3 < x_2)) || (decide (x_4 < (-1125899906842624)))) || (decide (1125899906842624 < x_5))))], [(101, _)]⟩) rfl ⟨fun _ => .p om, fun _ => .p (op_field_p tyFld89_0 rfl rfl), fun _ => .p (op_index_p tyArr87 (ix_lo e6) (ix_hi e6) rfl rfl rfl), fun _ => .p (op_load_p1 tyOne3 rfl rfl (arr_get (post := ((eA3 .i64) b0.Hi)) (k := .i64) [] e6 rfl rfl rfl)), fun _ => .p om, fun _ => .p (op_field_p tyFld89_1 rfl rfl), fun _ => .p (op_index_p tyArr87 (ix_lo e7) (ix_hi e7) rfl rfl rfl), fun _ => .p (op_load_p1 tyOne3 rfl rfl (arr_get (post := []) (k := .i64) ((eA3 .i64) b0.Lo) e7 rfl rfl rfl)), fun _ => .p (op_gtr rfl rfl), fun _ => .p om, fun _ => by exact .guard (!(decide (x_3 < x_2))) 1 [] (.plain rfl) (eq_f _) rfl rfl (fun g8 => trivial) (fun g8 => om), fun _ => by exact .guard (!(decide (x_3 < x_2))) 1 [] (.plain rfl) (eq_f _) rfl rfl (fun g9 => trivial) (fun g9 => op_field_p tyFld89_0 rfl rfl), fun _ => by exact .guard (!(decide (x_3 < x_2))) 3 [18, 19] (.plain rfl) (eq_f _) rfl rfl (fun g10 => ⟨g10, g10, trivial⟩) (fun g10 => op_index_p tyArr87 (ix_lo (gc e11 g10)) (ix_hi (gc e11 g10)) rfl rfl rfl), fun _ => by exact .guard (!(decide (x_3 < x_2))) 2 [20] (.plain rfl) (eq_f _) rfl rfl (fun g12 => ⟨g12, trivial⟩) (fun g12 => op_load_p1 tyOne3 rfl rfl (arr_get (post := ((eA3 .i64) b0.Hi)) (k := .i64) [] (gc e11 g12) rfl rfl rfl)), fun _ => by exact .guard (!(decide (x_3 < x_2))) 2 [21] (.plain rfl) (eq_f _) rfl rfl (fun g13 => ⟨g13, trivial⟩) (fun g13 => op_lss rfl rfl), fun _ => .p (op_pick_or (fun e => by first | (rw [e]; rfl) | (simp only at e; rw [e]; rfl)) rfl rfl rfl rfl), fun _ => .p om, fun _ => by exact .guard (!((decide (x_3 < x_2)) || (decide (x_4 < (-1125899906842624))))) 1 [] (.plain rfl) (eq_f _) rfl rfl (fun g14 => trivial) (fun g14 => om), fun _ => by exact .guard (!((decide (x_3 < x_2)) || (decide (x_4 < (-1125899906842624))))) 1 [] (.plain rfl) (eq_f _) rfl rfl (fun g15 => trivial) (fun g15 => op_field_p tyFld89_1 rfl rfl), fun _ => by exact .guard (!((decide (x_3 < x_2)) || (decide (x_4 < (-1125899906842624))))) 3 [25, 26] (.plain rfl) (eq_f _) rfl rfl (fun g16 => ⟨g16, g16, trivial⟩) (fun g16 => op_index_p tyArr87 (ix_lo (gc e17 g16)) (ix_hi (gc e17 g16)) rfl rfl rfl), fun _ => by exact .guard (!((decide (x_3 < x_2)) || (decide (x_4 < (-1125899906842624))))) 2 [27] (.plain rfl) (eq_f _) rfl rfl (fun g18 => ⟨g18, trivial⟩) (fun g18 => op_load_p1 tyOne3 rfl rfl (arr_get (post := []) (k := .i64) ((eA3 .i64) b0.Lo) (gc e17 g18) rfl rfl rfl)), fun _ => by exact .guard (!((decide (x_3 < x_2)) || (decide (x_4 < (-1125899906842624))))) 2 [28] (.plain rfl) (eq_f _) rfl rfl (fun g19 => ⟨g19, trivial⟩) (fun g19 => op_gtr rfl rfl), fun _ => .p (op_pick_or (fun e => by first | (rw [e]; rfl) | (simp only at e; rw [e]; rfl)) rfl rfl rfl rfl), trivial⟩ rfl rfl ?_
   refine Tri.ite h4 rfl (fun _ h4 => ?_) (fun _ h4 => ?_)
   ·refine Tri.seq (Tri.regionL ?_)
    refine Oc oa (OpsL.nilS ⟨[(2, B false)], []⟩ rfl (Tri.ret (Fin.block_ret (Fin.then_ret ?_))))
    obtain rfl := hy5 _ (Option.some.inj h4).symm
    refine Fin.then_ret (Fin.block_ret (Fin.then_ret ?_))
    obtain rfl := Option.some.inj h
    refine Fin.keepS ⟨[(2, _)], []⟩ rfl (Fin.result' [.one (.bool false)] (.inl rfl) rfl (.cons (.tmp rfl) .nil) ⟨rfl, rfl⟩)
   ·refine Tri.skip (Fin.block_normal (Fin.keepS ⟨[(1, _), (3, _)], [(101, _)]⟩ rfl (Fin.then (Tri.regionL ?_))))
    refine Oc om (Oc (op_add rfl rfl) (Oc oa ?_))
    refine OpsL.nil ?_
    exact Fin.againJ [1, 3] [101] (IntKind.i64.wrap (i_1 + 1)) (Option.some.inj h4) rfl
  ·refine Tri.exit (Fin.then_exit ?_)
   obtain rfl := hy5 _ (Option.some.inj h4).symm
   refine Fin.then_exit (Fin.block_exit ?_)
   exact Fin.join [] [] () rfl rfl
 ·rintro _ hv
  subst v1
  refine Tri.seq (Tri.regionL ?_)
  refine Oc oa (OpsL.nilS ⟨[(2, B true)], []⟩ rfl (Tri.ret ?_))
  obtain rfl := Option.some.inj h
  refine Fin.keepS ⟨[(2, _)], []⟩ rfl (Fin.result' [.one (.bool true)] (.inl rfl) rfl (.cons (.tmp rfl) .nil) ⟨rfl, rfl⟩)
def skewbackref44_region_S (F : Nat) (borders0 : List Int) (x0 : Int) : Option Int :=
 Option.bind (iter F (un2 fun n_2 i_3 => if (decide (i_3 < (borders0.length : Int))) = true then (Option.bind ((idx? borders0 i_3).bind fun x_6 => if (decide (x_6 ≤ x0)) = true then (some (IntKind.i64.wrap (n_2 + 1))) else (some n_2)) (fun n_5 => some (.inl (n_5, IntKind.i64.wrap (i_3 + 1))))) else (some (.inr n_2))) (0, 0)) (fun n_1 => some n_1)
theorem skewbackref44_region_spec {F : Nat} {borders0 : List Int} {x0 : Int} {r : Int} (h : skewbackref44_region_S F borders0 x0 = some r) : Meets Try.prog [] 78 [] [.one (.sl 1 (borders0.map eI)), .one (.i x0)] (Is [] (.b (.one (.i r)))) := by
 unfold skewbackref44_region_S at h
 refine Meets.intro 22 Try.func78 Try.ntmps78 rfl (by simp) fun E => ?_
 show Tri _ E ⟨22, [], [], []⟩ _ ⟨[(0, .b (.one (.sl 1 (borders0.map eI)))), (1, I x0)], []⟩ _
 refine Tri.seq (Tri.regionL ?_)
 refine Oc oa (OpsL.nilS ⟨[(0, .b (.one (.sl 1 (borders0.map eI)))), (1, I x0)], []⟩ rfl (Tri.seq (Tri.regionL ?_)))
 refine Oc oa (OpsL.nilS ⟨[(0, _), (1, _), (5, I 0)], []⟩ rfl ?_)
 obtain ⟨v1, h2, h⟩ := bnd h
 refine Tri.seqJ (v := v1) (fun (n_1 : Int) => ⟨[(5, I n_1)], []⟩) (fun z => z) ?_ ?_
 ·refine Tri.seq (Tri.regionL ?_)
  refine Oc oa (OpsL.nilS ⟨[(0, _), (1, _), (5, _), (6, I 0)], []⟩ rfl (Tri.block (Tri.loopJ h2 (un2 fun (n_2 : Int) (i_3 : Int) => ⟨[(0, .b (.one (.sl 1 (borders0.map eI)))), (1, I x0), (5, I n_2), (6, I i_3)], []⟩) [0, 1, 5, 6] [] rfl ?_)))
  rintro ⟨n_2, i_3⟩ o3 h4 hy5
  refine Tri.seq (Tri.seq (Tri.regionL ?_))
  refine Oc om (Oc om (Oc (op_len_e' und22 rfl (List.length_map _)) (Oc (op_lss rfl rfl) ?_)))
  refine OpsL.nilS ⟨[(0, _), (1, _), (5, _), (6, _), (10, B (decide (i_3 < (borders0.length : Int))))], []⟩ rfl (Tri.ite h4 rfl (fun _ h4 => ?_) (fun _ h4 => ?_))
  ·refine Tri.skip (Fin.keepS ⟨[(0, _), (1, _), (5, _), (6, _)], []⟩ rfl (Fin.then ?_))
   obtain ⟨v6, h7, h4⟩ := bnd h4
   refine Tri.seqJ (v := v6) (fun (n_5 : Int) => ⟨[(0, .b (.one (.sl 1 (borders0.map eI)))), (1, I x0), (5, I n_5), (6, I i_3)], []⟩) (fun z => z) ?_ ?_
   ·refine Tri.block (Tri.seq (Tri.regionL ?_))
    refine Oc om (Oc om ?_)
    obtain ⟨x_6, e8, h7⟩ := bnd h7
    refine Oc (op_index_e tySl22 (ix_lo e8) (ix_map (e := eI) e8) rfl rfl) (Oc (op_load_e1 tyOne3 rfl rfl) (Oc om (Oc (op_leq rfl rfl) ?_)))
    refine OpsL.nilS ⟨[(0, _), (1, _), (5, _), (6, _), (18, B (decide (x_6 ≤ x0)))], []⟩ rfl (Tri.ite h7 rfl (fun _ h7 => ?_) (fun _ h7 => ?_))
    ·refine Tri.regionL (Oc om (Oc (op_add rfl rfl) (Oc oa ?_)))
     refine OpsL.nil (Fin.block_normal ?_)
     exact Fin.join [0, 1, 5, 6] [] (IntKind.i64.wrap (n_2 + 1)) (Option.some.inj h7) rfl
    ·refine Tri.skip (Fin.block_normal ?_)
     exact Fin.join [0, 1, 5, 6] [] n_2 (Option.some.inj h7) rfl
   ·rintro n_5 hv
    subst v6
    refine Tri.regionL (Oc om (Oc (op_add rfl rfl) (Oc oa ?_)))
    refine OpsL.nil ?_
    exact Fin.againJ [0, 1, 5, 6] [] (n_5, IntKind.i64.wrap (i_3 + 1)) (Option.some.inj h4) rfl
  ·refine Tri.exit (Fin.then_exit ?_)
   obtain rfl := hy5 _ (Option.some.inj h4).symm
   refine Fin.then_exit (Fin.block_exit ?_)
   exact Fin.join [5] [] n_2 rfl rfl
 ·rintro n_1 hv
  subst v1
  refine Tri.seq (Tri.regionL ?_)
  refine Oc om (Oc oa ?_)
  refine OpsL.nilS ⟨[(4, I n_1)], []⟩ rfl (Tri.ret ?_)
  obtain rfl := Option.some.inj h
  refine Fin.keepS ⟨[(4, _)], []⟩ rfl (Fin.result' [.one (.i n_1)] (.inl rfl) rfl (.cons (.tmp rfl) .nil) ⟨rfl, rfl⟩)
def skewbackref44_Reach_S (F : Nat) (borders0 : List Int) (lo0 : Int) (hi0 : Int) : Option A2 :=
 (skewbackref44_region_S F borders0 lo0).bind fun x_1 => (skewbackref44_region_S F borders0 hi0).bind fun x_2 => some (⟨x_1, x_2⟩ : A2)
theorem skewbackref44_Reach_spec {F : Nat} {borders0 : List Int} {lo0 : Int} {hi0 : Int} {r : A2} (h : skewbackref44_Reach_S F borders0 lo0 hi0 = some r) : Meets Try.prog [] 37 [] [.one (.sl 1 (borders0.map eI)), .one (.i lo0), .one (.i hi0)] (Is [] (.b (.agg ((eA2 .i64) r)))) := by
 unfold skewbackref44_Reach_S at h
 refine Meets.intro 14 Try.func37 Try.ntmps37 rfl (by simp) fun E => ?_
 show Tri _ E ⟨14, [], [], []⟩ _ ⟨[(0, .b (.one (.sl 1 (borders0.map eI)))), (1, I lo0), (2, I hi0)], []⟩ _
 refine Tri.seq (Tri.regionL ?_)
 refine Oc (op_alloc (k := 101) tyZero80 rfl) (OpsL.nilS ⟨[(0, .b (.one (.sl 1 (borders0.map eI)))), (1, I lo0), (2, I hi0), (6, Pt 101 0)], [(101, .box 80 ((eA2 .i64) A2.zero))]⟩ rfl (Tri.seq (Tri.regionL ?_)))
 refine Oc om (Oc om ?_)
 obtain ⟨x_1, e1, h⟩ := bnd h
 refine Oc (op_call0 (skewbackref44_region_spec e1) goes78 rfl rfl) (Oc om (Oc om ?_))
 refine OpsL.keepS ⟨[(6, _), (9, I x_1), (10, .b (.one (.sl 1 (borders0.map eI)))), (11, I hi0)], [(101, _)]⟩ rfl ?_
 obtain ⟨x_2, e2, h⟩ := bnd h
 refine Oc (op_call0 (skewbackref44_region_spec e2) goes78 rfl rfl) (Oc (op_buildA tyBuild80 rfl rfl) (Oc (op_store_p tyAgg80 rfl rfl rfl rfl (Nat.le_of_ble_eq_true rfl) rfl) ?_))
 refine OpsL.nilS ⟨[(6, _)], [(101, .box 80 [.i x_1, .i x_2])]⟩ rfl (Tri.ret ?_)
 obtain rfl := Option.some.inj h
 refine Fin.keepS ⟨[(6, _)], [(101, _)]⟩ rfl (Fin.result' [.agg [.i x_1, .i x_2]] (.inl rfl) rfl (.cons (.agg tyAgg80 rfl rfl rfl rfl) .nil) ⟨rfl, rfl⟩)
def skewbackref44_Shares_S (F : Nat) (borders0 : List Int) (home0 : List Int) (boxes0 : List Box) : Option Shared :=
 (skewbackref44_Ascending_S F borders0).bind fun x_1 => (gcall (!(!x_1)) (skewbackref44_Homely_S F home0 (IntKind.i64.wrap ((borders0.length : Int) + 1)))).bind fun x_2 => letN (((!x_1) || (!x_2)) || (decide ((boxes0.length : Int) ≠ (home0.length : Int)))) fun x_3 => if x_3 = true then (some (⟨[], 1⟩ : Shared)) else (Option.bind (iter F (un2 fun out_5 b_6 => if (decide (b_6 < (home0.length : Int))) = true then (Option.bind ((idx? home0 b_6).bind fun x_9 => if (decide (x_9 < 0)) = true then (some (.inl out_5)) else ((idx? boxes0 b_6).bind fun x_10 => (skewbackref17_Valid_S F x_10).bind fun x_11 => if (!x_11) = true then (some (.inr (⟨[], 1⟩ : Shared))) else ((idx? boxes0 b_6).bind fun x_12 => (idx? boxes0 b_6).bind fun x_13 => (skewbackref44_Reach_S F borders0 x_12.Lo.a0 x_13.Hi.a0).bind fun x_14 => Option.bind (iter F (un2 fun out_15 r_16 => if (decide (r_16 ≤ x_14.a1)) = true then (Option.bind ((idx? home0 b_6).bind fun x_19 => if (decide (r_16 ≠ x_19)) = true then ((idx? home0 b_6).bind fun x_20 => (app? out_15 [(⟨b_6, x_20, r_16⟩ : Share)]).bind fun x_21 => some x_21) else (some out_15)) (fun out_18 => some (.inl (out_18, IntKind.i64.wrap (r_16 + 1))))) else (some (.inr out_15))) (out_5, x_14.a0)) (fun out_17 => some (.inl out_17))))) (alt2 (fun out_8 => some (.inl (out_8, IntKind.i64.wrap (b_6 + 1)))) (fun y => some (.inr (.inr y))))) else (some (.inr (.inl out_5)))) ([], 0)) (alt2 (fun out_4 => some (⟨out_4, 0⟩ : Shared)) (fun y => some y)))
theorem skewbackref44_Shares_spec {F : Nat} {borders0 : List Int} {home0 : List Int} {boxes0 : List Box} {r : Shared} (h : skewbackref44_Shares_S F borders0 home0 boxes0 = some r) : Meets Try.prog [] 34 [] [.one (.sl 1 (borders0.map eI)), .one (.sl 1 (home0.map eI)), .one (.sl 6 (boxes0.map eBox))] (Is [] (.b (.agg (eShared r)))) := by
 unfold skewbackref44_Shares_S at h
 refine Meets.intro 88 Try.func34 Try.ntmps34 rfl (by simp) fun E => ?_
 show Tri _ E ⟨88, [], [], []⟩ _ ⟨[(0, .b (.one (.sl 1 (borders0.map eI)))), (1, .b (.one (.sl 1 (home0.map eI)))), (2, .b (.one (.sl 6 (boxes0.map eBox))))], []⟩ _
 refine Tri.seq (Tri.regionL ?_)
 refine Oc (op_alloc (k := 101) tyZero75 rfl) (OpsL.nilS ⟨[(0, .b (.one (.sl 1 (borders0.map eI)))), (1, .b (.one (.sl 1 (home0.map eI)))), (2, .b (.one (.sl 6 (boxes0.map eBox)))), (6, Pt 101 0)], [(101, .box 75 [.nil, .i 0])]⟩ rfl (Tri.seq (Tri.seq (Tri.regionL ?_))))
 refine Oc om ?_
 obtain ⟨x_1, e1, h⟩ := bnd h
 refine Oc (op_call0 (skewbackref44_Ascending_spec e1) goes35 rfl rfl) (Oc (op_not rfl) (Oc om ?_))
 refine CgF (!(!x_1)) [] (fun g2 => trivial) (fun g2 => om) (OpsL.keepS ⟨[(0, _), (1, _), (2, _), (6, _), (14, B (!x_1)), (15, .opt (!(!x_1)) (.one (.sl 1 (home0.map eI))))], [(101, _)]⟩ rfl (CgF (!(!x_1)) [] (fun g3 => by exact trivial) (fun g3 => om) (CgF (!(!x_1)) [16] (fun g4 => by exact ⟨g4, trivial⟩) (fun g4 => op_len_e' und22 rfl (List.length_map _)) (CgF (!(!x_1)) [17] (fun g5 => by exact ⟨g5, trivial⟩) (fun g5 => op_add rfl rfl) ?_))))
 obtain ⟨x_2, e7, h⟩ := bnd h
 refine CgF (!(!x_1)) [15, 18] (fun g6 => ⟨g6, g6, trivial⟩) (fun g6 => op_call0 (skewbackref44_Homely_spec (gc e7 g6)) goes24 rfl rfl) (CgF (!(!x_1)) [19] (fun g8 => ⟨g8, trivial⟩) (fun g8 => op_not rfl) (OpsL.keepS ⟨[(0, _), (1, _), (2, _), (6, _), (14, _), (20, .opt (!(!x_1)) (.one (.bool (!x_2))))], [(101, _)]⟩ rfl (Oc (op_pick_or (fun e => by first | (rw [e]; rfl) | (simp only at e; rw [e]; rfl)) rfl rfl rfl rfl) (Oc om ?_))))
 refine CgF (!((!x_1) || (!x_2))) [] (fun g9 => trivial) (fun g9 => om) (CgF (!((!x_1) || (!x_2))) [23] (fun g10 => by exact ⟨g10, trivial⟩) (fun g10 => op_len_e' und70 rfl (List.length_map _)) (CgF (!((!x_1) || (!x_2))) [] (fun g11 => by exact trivial) (fun g11 => om) (CgF (!((!x_1) || (!x_2))) [25] (fun g12 => by exact ⟨g12, trivial⟩) (fun g12 => op_len_e' und22 rfl (List.length_map _)) (CgF (!((!x_1) || (!x_2))) [24, 26] (fun g13 => by exact ⟨g13, g13, trivial⟩) (fun g13 => op_neq rfl rfl) (OpsL.consB h rfl (op_pick_or (fun e => by first | (rw [e]; rfl) | (simp only at e; rw [e]; rfl)) rfl rfl rfl rfl) (fun x_3 h => ?_))))))
 refine OpsL.nilS ⟨[(0, _), (1, _), (2, _), (6, _), (28, B x_3)], [(101, _)]⟩ rfl (Tri.ite h rfl (fun _ h => ?_) (fun _ h => ?_))
 ·refine Tri.seq (Tri.regionL ?_)
  refine Oc (Op1.nilA (.sl (size := 3) (by decide) (.same (.nil))) (op_build tyBuild75 rfl rfl)) (Oc (op_store_p tyAgg75 rfl rfl rfl rfl (Nat.le_of_ble_eq_true rfl) rfl) ?_)
  refine OpsL.nilS ⟨[(6, _)], [(101, .box 75 [.sl 3 ([].map eShare), .i 1])]⟩ rfl (Tri.ret (Fin.then_ret ?_))
  obtain rfl := Option.some.inj h
  refine Fin.keepS ⟨[(6, _)], [(101, _)]⟩ rfl (Fin.result' [.agg [.sl 3 ([].map eShare), .i 1]] (.inl rfl) rfl (.cons (.agg tyAgg75 rfl rfl rfl rfl) .nil) ⟨rfl, rfl⟩)
 ·refine Tri.skip (Fin.keepS ⟨[(0, _), (1, _), (2, _), (6, _)], [(101, _)]⟩ rfl (Fin.then (Tri.seq (Tri.regionL ?_))))
  refine Oc oa (OpsL.nilS ⟨[(0, _), (1, _), (2, _), (6, _), (7, .b (.one (.nil)))], [(101, _)]⟩ rfl ?_)
  obtain ⟨v14, h15, h⟩ := bnd h
  refine Tri.seqJ (v := v14) (fun (out_4 : List Share) => ⟨[(6, Pt 101 0), (7, .b (.row 104))], [(101, .box 75 [.nil, .i 0]), (104, .row 83 3 (out_4.map eShare))]⟩) (fun z => .inl z) ?_ ?_
  ·refine Tri.seq (Tri.regionL ?_)
   refine Oc oa (OpsL.nilS ⟨[(0, _), (1, _), (2, _), (6, _), (7, _), (8, I 0)], [(101, _)]⟩ rfl (Tri.block (Tri.nilrow 7 104 3 83 rfl (by decide) rfl (Tri.loopJ h15 (un2 fun (out_5 : List Share) (b_6 : Int) => ⟨[(0, .b (.one (.sl 1 (borders0.map eI)))), (1, .b (.one (.sl 1 (home0.map eI)))), (2, .b (.one (.sl 6 (boxes0.map eBox)))), (6, Pt 101 0), (7, .b (.row 104)), (8, I b_6)], [(101, .box 75 [.nil, .i 0]), (104, .row 83 3 (out_5.map eShare))]⟩) [0, 1, 2, 6, 7, 8] [101, 104] rfl ?_))))
   rintro ⟨out_5, b_6⟩ o16 h17 hy18
   refine Tri.seq (Tri.seq (Tri.regionL ?_))
   refine Oc om (Oc om (Oc (op_len_e' und22 rfl (List.length_map _)) (Oc (op_lss rfl rfl) ?_)))
   refine OpsL.nilS ⟨[(0, _), (1, _), (2, _), (6, _), (7, _), (8, _), (33, B (decide (b_6 < (home0.length : Int))))], [(101, _), (104, _)]⟩ rfl (Tri.ite h17 rfl (fun _ h17 => ?_) (fun _ h17 => ?_))
   ·refine Tri.skip (Fin.keepS ⟨[(0, _), (1, _), (2, _), (6, _), (7, _), (8, _)], [(101, _), (104, _)]⟩ rfl (Fin.then ?_))
    obtain ⟨v19, h20, h17⟩ := bnd h17
    refine Tri.seqJ (v := v19) (fun (out_8 : List Share) => ⟨[(0, .b (.one (.sl 1 (borders0.map eI)))), (1, .b (.one (.sl 1 (home0.map eI)))), (2, .b (.one (.sl 6 (boxes0.map eBox)))), (6, Pt 101 0), (7, .b (.row 104)), (8, I b_6)], [(101, .box 75 [.nil, .i 0]), (104, .row 83 3 (out_8.map eShare))]⟩) (fun z => .inl z) ?_ ?_
    ·refine Tri.block (Tri.seq (Tri.seq (Tri.regionL ?_)))
     refine Oc om (Oc om ?_)
     obtain ⟨x_9, e21, h20⟩ := bnd h20
     refine Oc (op_index_e tySl22 (ix_lo e21) (ix_map (e := eI) e21) rfl rfl) (Oc (op_load_e1 tyOne3 rfl rfl) (Oc (op_lss rfl rfl) ?_))
     refine OpsL.nilS ⟨[(0, _), (1, _), (2, _), (6, _), (7, _), (8, _), (40, B (decide (x_9 < 0)))], [(101, _), (104, _)]⟩ rfl (Tri.ite h20 rfl (fun _ h20 => ?_) (fun _ h20 => ?_))
     ·refine Tri.exit (Fin.then_exit (Fin.block_exit ?_))
      exact Fin.join [0, 1, 2, 6, 7, 8] [101, 104] out_5 (Option.some.inj h20) rfl
     ·refine Tri.skip (Fin.keepS ⟨[(0, _), (1, _), (2, _), (6, _), (7, _), (8, _)], [(101, _), (104, _)]⟩ rfl (Fin.then (Tri.seq (Tri.seq (Tri.regionL ?_)))))
      refine Oc om (Oc om ?_)
      obtain ⟨x_10, e22, h20⟩ := bnd h20
      refine Oc (op_index_e tySl70 (ix_lo e22) (ix_map (e := eBox) e22) rfl rfl) (Oc (op_load_e tyAgg89 rfl rfl rfl) ?_)
      obtain ⟨x_11, e23, h20⟩ := bnd h20
      refine Oc (op_call0 (skewbackref17_Valid_spec e23) goes74 rfl rfl) (Oc (op_not rfl) ?_)
      refine OpsL.nilS ⟨[(0, _), (1, _), (2, _), (6, _), (7, _), (8, _), (46, B (!x_11))], [(101, _), (104, _)]⟩ rfl (Tri.ite h20 rfl (fun _ h20 => ?_) (fun _ h20 => ?_))
      ·refine Tri.seq (Tri.regionL ?_)
       refine Oc (Op1.nilA (.sl (size := 3) (by decide) (.same (.nil))) (op_build tyBuild75 rfl rfl)) (Oc (op_store_p tyAgg75 rfl rfl rfl rfl (Nat.le_of_ble_eq_true rfl) rfl) ?_)
       refine OpsL.nilS ⟨[(6, _)], [(101, .box 75 [.sl 3 ([].map eShare), .i 1])]⟩ rfl (Tri.ret (Fin.then_ret (Fin.block_ret ?_)))
       obtain rfl := Option.some.inj h20
       refine Fin.then_ret ?_
       obtain rfl := hy18 _ (Option.some.inj h17).symm
       refine Fin.then_ret (Fin.block_ret (Fin.then_ret ?_))
       obtain rfl := Option.some.inj h
       refine Fin.keepS ⟨[(6, _)], [(101, _)]⟩ rfl (Fin.result' [.agg [.sl 3 ([].map eShare), .i 1]] (.inl rfl) rfl (.cons (.agg tyAgg75 rfl rfl rfl rfl) .nil) ⟨rfl, rfl⟩)
      ·refine Tri.skip (Fin.keepS ⟨[(0, _), (1, _), (2, _), (6, _), (7, _), (8, _)], [(101, _), (104, _)]⟩ rfl (Fin.then (Tri.seq ?_)))
       refine Tri.keepS ⟨[(0, _), (1, _), (2, _), (6, _), (7, _), (8, _)], [(101, _), (104, _)]⟩ rfl ?_
       obtain ⟨x_12, e24, h20⟩ := bnd h20
       obtain ⟨x_13, e25, h20⟩ := bnd h20
       obtain ⟨x_14, e26, h20⟩ := bnd h20
       refine Tri.regionW mixed [false, false, false, false, false, false, false, false, false, false, false, false, false, false, true, true] [.b (.one (.sl 1 (borders0.map eI))), .b (.one (.sl 6 (boxes0.map eBox))), I b_6, .b (.eptr (eBox x_12)), .b (.eptr (eBox x_12)), .b (.eptr [.i x_12.Lo.a0]), I x_12.Lo.a0, .b (.one (.sl 6 (boxes0.map eBox))), I b_6, .b (.eptr (eBox x_13)), .b (.eptr ((eA3 .i64) x_13.Hi)), .b (.eptr [.i x_13.Hi.a0]), I x_13.Hi.a0, .b (.agg ((eA2 .i64) x_14)), Pt 105 0, B true] [⟨[false, false, false, false, false, false, false, false, false, false, false, false, false, false, false, false], [(0, .b (.one (.sl 1 (borders0.map eI)))), (1, .b (.one (.sl 1 (home0.map eI)))), (2, .b (.one (.sl 6 (boxes0.map eBox)))), (6, Pt 101 0), (7, .b (.row 104)), (8, I b_6)], [(101, .box 75 [.nil, .i 0]), (104, .row 83 3 (out_5.map eShare))], [true, true, true, true, true, true, true, true, true, true, true, true, true, true, true, true], [], [15]⟩, ⟨[false, false, false, false, false, false, false, false, false, false, false, false, false, false, true, false], [(0, .b (.one (.sl 1 (borders0.map eI)))), (1, .b (.one (.sl 1 (home0.map eI)))), (2, .b (.one (.sl 6 (boxes0.map eBox)))), (6, Pt 101 0), (7, .b (.row 104)), (8, I b_6)], [(101, .box 75 [.nil, .i 0]), (104, .row 83 3 (out_5.map eShare)), (105, .box 80 ((eA2 .i64) A2.zero))], [true, true, true, true, true, true, true, true, true, true, true, true, true, true, true, true], [14], []⟩, ⟨[false, false, false, false, false, false, false, false, false, false, false, false, false, false, true, true], [(0, .b (.one (.sl 1 (borders0.map eI)))), (1, .b (.one (.sl 1 (home0.map eI)))), (2, .b (.one (.sl 6 (boxes0.map eBox)))), (6, Pt 101 0), (7, .b (.row 104)), (8, I b_6)], [(101, .box 75 [.nil, .i 0]), (104, .row 83 3 (out_5.map eShare)), (105, .box 80 ((eA2 .i64) x_14))], [true, true, true, true, true, true, true, true, true, true, true, true, true, true, true, true], [0, 1, 2, 3, 4, 5, 6, 7, 8, 9, 10, 11, 12, 13, 14, 15], []⟩] rfl (⟨by kernel_rfl, ⟨⟨.b (.one (.sl 1 (borders0.map eI))), fun _ => rfl, fun _ => .p (by exact op_move rfl)⟩, ⟨.b (.one (.sl 6 (boxes0.map eBox))), fun _ => rfl, fun _ => .p (by exact op_move rfl)⟩, ⟨I b_6, fun _ => rfl, fun _ => .p (by exact op_move rfl)⟩, ⟨.b (.eptr (eBox x_12)), fun _ => rfl, fun _ => .p (by exact op_index_e tySl70 (ix_lo e24) (ix_map (e := eBox) e24) rfl rfl)⟩, ⟨.b (.eptr (eBox x_12)), fun _ => rfl, fun _ => .p (by exact op_field_e tyFld89_0 rfl rfl)⟩, ⟨.b (.eptr [.i x_12.Lo.a0]), fun _ => rfl, fun _ => .p (by exact op_index_ea tyArr87 (by decide) (by decide) rfl rfl rfl)⟩, ⟨I x_12.Lo.a0, fun _ => rfl, fun _ => .p (by exact op_load_e1 tyOne3 rfl rfl)⟩, ⟨.b (.one (.sl 6 (boxes0.map eBox))), fun _ => rfl, fun _ => .p (by exact op_move rfl)⟩, ⟨I b_6, fun _ => rfl, fun _ => .p (by exact op_move rfl)⟩, ⟨.b (.eptr (eBox x_13)), fun _ => rfl, fun _ => .p (by exact op_index_e tySl70 (ix_lo e25) (ix_map (e := eBox) e25) rfl rfl)⟩, ⟨.b (.eptr ((eA3 .i64) x_13.Hi)), fun _ => rfl, fun _ => .p (by exact op_field_e tyFld89_1 rfl rfl)⟩, ⟨.b (.eptr [.i x_13.Hi.a0]), fun _ => rfl, fun _ => .p (by exact op_index_ea tyArr87 (by decide) (by decide) rfl rfl rfl)⟩, ⟨I x_13.Hi.a0, fun _ => rfl, fun _ => .p (by exact op_load_e1 tyOne3 rfl rfl)⟩, ⟨.b (.agg ((eA2 .i64) x_14)), fun _ => rfl, fun _ => .p (by exact op_call0 (skewbackref44_Reach_spec e26) goes37 rfl rfl)⟩, ⟨_, [105], Pt 105 0, rfl, fun _ => rfl, rfl, rfl, fun _ => .toO [101, 104, 105] (by exact .p (by exact op_alloc (k := 105) tyZero80 rfl)) (by exact rfl)⟩, trivial, trivial⟩, ⟨by kernel_rfl, ⟨⟨.b (.one (.sl 1 (borders0.map eI))), fun _ => rfl, fun _ => .p (by exact op_move rfl)⟩, ⟨.b (.one (.sl 6 (boxes0.map eBox))), fun _ => rfl, fun _ => .p (by exact op_move rfl)⟩, ⟨I b_6, fun _ => rfl, fun _ => .p (by exact op_move rfl)⟩, ⟨.b (.eptr (eBox x_12)), fun _ => rfl, fun _ => .p (by exact op_index_e tySl70 (ix_lo e24) (ix_map (e := eBox) e24) rfl rfl)⟩, ⟨.b (.eptr (eBox x_12)), fun _ => rfl, fun _ => .p (by exact op_field_e tyFld89_0 rfl rfl)⟩, ⟨.b (.eptr [.i x_12.Lo.a0]), fun _ => rfl, fun _ => .p (by exact op_index_ea tyArr87 (by decide) (by decide) rfl rfl rfl)⟩, ⟨I x_12.Lo.a0, fun _ => rfl, fun _ => .p (by exact op_load_e1 tyOne3 rfl rfl)⟩, ⟨.b (.one (.sl 6 (boxes0.map eBox))), fun _ => rfl, fun _ => .p (by exact op_move rfl)⟩, ⟨I b_6, fun _ => rfl, fun _ => .p (by exact op_move rfl)⟩, ⟨.b (.eptr (eBox x_13)), fun _ => rfl, fun _ => .p (by exact op_index_e tySl70 (ix_lo e25) (ix_map (e := eBox) e25) rfl rfl)⟩, ⟨.b (.eptr ((eA3 .i64) x_13.Hi)), fun _ => rfl, fun _ => .p (by exact op_field_e tyFld89_1 rfl rfl)⟩, ⟨.b (.eptr [.i x_13.Hi.a0]), fun _ => rfl, fun _ => .p (by exact op_index_ea tyArr87 (by decide) (by decide) rfl rfl rfl)⟩, ⟨I x_13.Hi.a0, fun _ => rfl, fun _ => .p (by exact op_load_e1 tyOne3 rfl rfl)⟩, ⟨.b (.agg ((eA2 .i64) x_14)), fun _ => rfl, fun _ => .p (by exact op_call0 (skewbackref44_Reach_spec e26) goes37 rfl rfl)⟩, trivial, ⟨_, [], .b (.one .any), rfl, (fun e => by simp at e), rfl, rfl, fun _ => .toO [101, 104, 105] (by exact .p (by exact op_store_p tyAgg80 rfl rfl rfl rfl (Nat.le_of_ble_eq_true rfl) rfl)) (by exact rfl)⟩, trivial⟩, ⟨by kernel_rfl, ⟨trivial, trivial, trivial, trivial, trivial, trivial, trivial, trivial, trivial, trivial, trivial, trivial, trivial, trivial, trivial, trivial, trivial⟩, trivial⟩⟩⟩) rfl rfl rfl [0, 1, 2, 6, 7, 8, 9] [101, 104, 105] (s' := ⟨[(0, _), (1, _), (2, _), (6, _), (7, _), (8, _), (9, Pt 105 0)], [(101, _), (104, _), (105, .box 80 ((eA2 .i64) x_14))]⟩) rfl ?_
       refine Tri.seq (Tri.regionL ?_)
       refine Oc (op_index_p tyArr80 (by decide) (by decide) rfl rfl rfl) (Oc (op_load_p1 tyOne3 rfl rfl rfl) (Oc oa ?_))
       refine OpsL.nilS ⟨[(0, _), (1, _), (2, _), (6, _), (7, _), (8, _), (9, _), (10, I x_14.a0)], [(101, _), (104, _), (105, _)]⟩ rfl (Tri.block ?_)
       obtain ⟨v27, h28, h20⟩ := bnd h20
       refine Tri.loopJ h28 (un2 fun (out_15 : List Share) (r_16 : Int) => ⟨[(0, .b (.one (.sl 1 (borders0.map eI)))), (1, .b (.one (.sl 1 (home0.map eI)))), (2, .b (.one (.sl 6 (boxes0.map eBox)))), (6, Pt 101 0), (7, .b (.row 104)), (8, I b_6), (9, Pt 105 0), (10, I r_16)], [(101, .box 75 [.nil, .i 0]), (104, .row 83 3 (out_15.map eShare)), (105, .box 80 ((eA2 .i64) x_14))]⟩) [0, 1, 2, 6, 7, 8, 9, 10] [101, 104, 105] rfl ?_
       rintro ⟨out_15, r_16⟩ o29 h30 hy31
       refine Tri.seq (Tri.seq (Tri.regionL ?_))
       refine Oc om (Oc (op_index_p tyArr80 (by decide) (by decide) rfl rfl rfl) (Oc (op_load_p1 tyOne3 rfl rfl rfl) (Oc (op_leq rfl rfl) ?_)))
       refine OpsL.nilS ⟨[(0, _), (1, _), (2, _), (6, _), (7, _), (8, _), (9, _), (10, _), (67, B (decide (r_16 ≤ x_14.a1)))], [(101, _), (104, _), (105, _)]⟩ rfl (Tri.ite h30 rfl (fun _ h30 => ?_) (fun _ h30 => ?_))
       ·refine Tri.skip (Fin.keepS ⟨[(0, _), (1, _), (2, _), (6, _), (7, _), (8, _), (9, _), (10, _)], [(101, _), (104, _), (105, _)]⟩ rfl (Fin.then ?_))
        obtain ⟨v32, h33, h30⟩ := bnd h30
        refine Tri.seqJ (v := v32) (fun (out_18 : List Share) => ⟨[(0, .b (.one (.sl 1 (borders0.map eI)))), (1, .b (.one (.sl 1 (home0.map eI)))), (2, .b (.one (.sl 6 (boxes0.map eBox)))), (6, Pt 101 0), (7, .b (.row 104)), (8, I b_6), (9, Pt 105 0), (10, I r_16)], [(101, .box 75 [.nil, .i 0]), (104, .row 83 3 (out_18.map eShare)), (105, .box 80 ((eA2 .i64) x_14))]⟩) (fun z => z) ?_ ?_
        ·refine Tri.block (Tri.seq (Tri.regionL ?_))
         refine Oc om (Oc om (Oc om ?_))
         obtain ⟨x_19, e34, h33⟩ := bnd h33
         refine Oc (op_index_e tySl22 (ix_lo e34) (ix_map (e := eI) e34) rfl rfl) (Oc (op_load_e1 tyOne3 rfl rfl) (Oc (op_neq rfl rfl) ?_))
         refine OpsL.nilS ⟨[(0, _), (1, _), (2, _), (6, _), (7, _), (8, _), (9, _), (10, _), (75, B (decide (r_16 ≠ x_19)))], [(101, _), (104, _), (105, _)]⟩ rfl (Tri.ite h33 rfl (fun _ h33 => ?_) (fun _ h33 => ?_))
         ·refine Tri.regionL (Oc om (Oc om (Oc om (Oc om ?_))))
          obtain ⟨x_20, e35, h33⟩ := bnd h33
          refine Oc (op_index_e tySl22 (ix_lo e35) (ix_map (e := eI) e35) rfl rfl) (Oc (op_load_e1 tyOne3 rfl rfl) (Oc om ?_))
          refine OpsL.keepS ⟨[(0, _), (1, _), (2, _), (6, _), (7, _), (8, _), (9, _), (10, _), (76, .b (.row 104)), (77, I b_6), (81, I x_20), (82, I r_16)], [(101, _), (104, _), (105, _)]⟩ rfl (Oc (op_build tyBuild83 rfl rfl) (Oc (op_buildSlice (k := 106) (es := [(⟨b_6, x_20, r_16⟩ : Share)].map eShare) tySl71 rfl rfl (uni_map fun _ => rfl) rfl (by decide) (by decide) rfl) ?_))
          obtain ⟨x_21, e36, h33⟩ := bnd h33
          refine Oc (op_append_r tySl71 (app_b e36) (app_m e36) rfl rfl rfl rfl (app_map e36) rfl) (Oc oa ?_)
          refine OpsL.nil (Fin.block_normal ?_)
          exact Fin.join [0, 1, 2, 6, 7, 8, 9, 10] [101, 104, 105] x_21 (Option.some.inj h33) rfl
         ·refine Tri.skip (Fin.block_normal ?_)
          exact Fin.join [0, 1, 2, 6, 7, 8, 9, 10] [101, 104, 105] out_15 (Option.some.inj h33) rfl
        ·rintro out_18 hv
         subst v32
         refine Tri.regionL (Oc om (Oc (op_add rfl rfl) (Oc oa ?_)))
         refine OpsL.nil ?_
         exact Fin.againJ [0, 1, 2, 6, 7, 8, 9, 10] [101, 104, 105] (out_18, IntKind.i64.wrap (r_16 + 1)) (Option.some.inj h30) rfl
       ·refine Tri.exit (Fin.then_exit ?_)
        obtain rfl := hy31 _ (Option.some.inj h30).symm
        refine Fin.then_exit (Fin.block_exit (Fin.block_normal ?_))
        exact Fin.join [0, 1, 2, 6, 7, 8] [101, 104] out_15 (Option.some.inj h20) rfl
    ·rintro out_8 hv
     subst v19
     refine Tri.regionL (Oc om (Oc (op_add rfl rfl) (Oc oa ?_)))
     refine OpsL.nil ?_
     exact Fin.againJ [0, 1, 2, 6, 7, 8] [101, 104] (out_8, IntKind.i64.wrap (b_6 + 1)) (Option.some.inj h17) rfl
   ·refine Tri.exit (Fin.then_exit ?_)
    obtain rfl := hy18 _ (Option.some.inj h17).symm
    refine Fin.then_exit (Fin.block_exit ?_)
    exact Fin.join [6, 7] [101, 104] out_5 rfl rfl
  ·rintro out_4 hv
   subst v14
   refine Tri.seq (Tri.regionL ?_)
   refine Oc om (OpsL.persist 104 rfl (Oc (op_build tyBuild75 rfl rfl) (Oc (op_store_p tyAgg75 rfl rfl rfl rfl (Nat.le_of_ble_eq_true rfl) rfl) ?_)))
   refine OpsL.nilS ⟨[(6, Pt 101 0)], [(101, .box 75 [.sl 3 (out_4.map eShare), .i 0])]⟩ rfl (Tri.ret ?_)
   obtain rfl := Option.some.inj h
   refine Fin.keepS ⟨[(6, _)], [(101, _)]⟩ rfl (Fin.result' [.agg [.sl 3 (out_4.map eShare), .i 0]] (.inl rfl) rfl (.cons (.agg tyAgg75 rfl rfl rfl rfl) .nil) ⟨rfl, rfl⟩)
def owner_Known_S (F : Nat) (home0 : List Int) (shares0 : List Share) (region0 : Int) : Option (List Int) :=
 Option.bind (iter F (un2 fun told_2 x_3 => if (decide (x_3 < (shares0.length : Int))) = true then ((idx? shares0 x_3).bind fun x_5 => some (.inl (mset told_2 x_5.Body ((mGetB told_2 x_5.Body) || (decide (x_5.To = region0))), IntKind.i64.wrap (x_3 + 1)))) else (some (.inr told_2))) (([] : MapB), 0)) (fun told_1 => Option.bind (iter F (un2 fun out_7 x_8 => if (decide (x_8 < (home0.length : Int))) = true then (Option.bind ((idx? home0 x_8).bind fun x_11 => if ((decide (x_11 = region0)) || (mGetB told_1 x_8)) = true then ((app? out_7 [x_8]).bind fun x_12 => some x_12) else (some out_7)) (fun out_10 => some (.inl (out_10, IntKind.i64.wrap (x_8 + 1))))) else (some (.inr out_7))) ([], 0)) (fun out_6 => some out_6))
theorem owner_Known_spec (kr0 : Nat) {F : Nat} {home0 : List Int} {shares0 : List Share} {region0 : Int} {r : (List Int)} (h : owner_Known_S F home0 shares0 region0 = some r) : Meets Try.prog [] 38 [] [.one (.sl 1 (home0.map eI)), .one (.sl 3 (shares0.map eShare)), .one (.i region0)] (Is [(kr0, .row 3 1 (r.map eI))] (.b (.row kr0))) := by
 unfold owner_Known_S at h
 refine Meets.intro 55 Try.func38 Try.ntmps38 rfl (by simp) fun E => ?_
 show Tri _ E ⟨55, [], [], []⟩ _ ⟨[(0, .b (.one (.sl 1 (home0.map eI)))), (1, .b (.one (.sl 3 (shares0.map eShare)))), (2, I region0)], []⟩ _
 refine Tri.seq (Tri.regionL ?_)
 refine Oc oa (OpsL.nilS ⟨[(0, .b (.one (.sl 1 (home0.map eI)))), (1, .b (.one (.sl 3 (shares0.map eShare)))), (2, I region0)], []⟩ rfl (Tri.seq (Tri.regionL ?_)))
 refine Oc (op_makeMap (k := 101) undm127 rfl) (Oc oa ?_)
 refine OpsL.nilS ⟨[(0, _), (1, _), (2, _), (7, .b (.row 101))], [(101, .mp (eM .i64 (mB ([] : MapB))))]⟩ rfl ?_
 obtain ⟨v1, h2, h⟩ := bnd h
 refine Tri.seqJ (v := v1) (fun (told_1 : MapB) => ⟨[(0, .b (.one (.sl 1 (home0.map eI)))), (2, I region0), (7, .b (.row 101))], [(101, .mp (eM .i64 (mB told_1)))]⟩) (fun z => z) ?_ ?_
 ·refine Tri.seq (Tri.regionL ?_)
  refine Oc om (Oc (op_len_e' und71 rfl (List.length_map _)) (Oc om ?_))
  refine OpsL.nilS ⟨[(0, _), (2, _), (7, _), (14, .b (.one (.sl 3 (shares0.map eShare)))), (15, I (shares0.length : Int)), (16, I 0)], [(101, _)]⟩ rfl (Tri.block (Tri.loopJ h2 (un2 fun (told_2 : MapB) (x_3 : Int) => ⟨[(0, .b (.one (.sl 1 (home0.map eI)))), (2, I region0), (7, .b (.row 101)), (14, .b (.one (.sl 3 (shares0.map eShare)))), (15, I (shares0.length : Int)), (16, I x_3)], [(101, .mp (eM .i64 (mB told_2)))]⟩) [0, 2, 7, 14, 15, 16] [101] rfl ?_))
  rintro ⟨told_2, x_3⟩ o3 h4 hy5
  refine Tri.seq (Tri.regionL ?_)
  refine Oc (op_lss rfl rfl) (OpsL.nilS ⟨[(0, _), (2, _), (7, _), (14, _), (15, _), (16, _), (17, B (decide (x_3 < (shares0.length : Int))))], [(101, _)]⟩ rfl (Tri.seq (Tri.ite h4 rfl (fun _ h4 => ?_) (fun _ h4 => ?_))))
  ·refine Tri.skip (Fin.keepS ⟨[(0, _), (2, _), (7, _), (14, _), (15, _), (16, _)], [(101, _)]⟩ rfl (Fin.then (Tri.seq (Tri.block (Tri.seq (Tri.regionL ?_))))))
   obtain ⟨x_5, e6, h4⟩ := bnd h4
   refine Oc (op_index_e tySl71 (ix_lo e6) (ix_map (e := eShare) e6) rfl rfl) (Oc (op_load_e tyAgg83 rfl rfl rfl) (Oc (op_alloc (hnu := by first | rfl | exact nuI rfl | exact nuC rfl (nuI rfl) | exact nuC rfl (nuC rfl (nuI rfl)) | exact nuC rfl (nuC rfl (nuC rfl (nuI rfl)))) (k := 102) tyZero83 rfl) (Oc (op_store_p tyAgg83 rfl rfl rfl rfl (Nat.le_of_ble_eq_true rfl) rfl) ?_)))
   refine OpsL.nilS ⟨[(0, _), (2, _), (7, _), (9, Pt 102 0), (14, _), (15, _), (16, _)], [(101, _), (102, .box 83 (eShare x_5))]⟩ rfl (Tri.regionL (Oc om (Oc (op_field_p tyFld83_0 rfl rfl) (Oc (op_load_p1 tyOne3 rfl rfl rfl) (Oc om (Oc (op_field_p tyFld83_0 rfl rfl) (Oc (op_load_p1 tyOne3 rfl rfl rfl) ?_)))))))
   refine Oc (op_mgetB1 tyMap127 rfl rfl rfl) (OpsL.keepS ⟨[(0, _), (2, _), (7, _), (9, _), (14, _), (15, _), (16, _), (20, .b (.row 101)), (22, I x_5.Body), (26, B (mGetB told_2 x_5.Body))], [(101, _), (102, _)]⟩ rfl (Oc om (CgF (!(mGetB told_2 x_5.Body)) [] (fun g7 => by exact trivial) (fun g7 => op_field_p tyFld83_2 rfl rfl) (CgF (!(mGetB told_2 x_5.Body)) [28] (fun g8 => by exact ⟨g8, trivial⟩) (fun g8 => op_load_p1 tyOne3 rfl rfl rfl) (CgF (!(mGetB told_2 x_5.Body)) [] (fun g9 => by exact trivial) (fun g9 => om) ?_)))))
   refine CgF (!(mGetB told_2 x_5.Body)) [29, 30] (fun g10 => ⟨g10, g10, trivial⟩) (fun g10 => op_eql rfl rfl) (Oc (op_pick_or (fun e => by first | (rw [e]; rfl) | (simp only at e; rw [e]; rfl)) rfl rfl rfl rfl) (Oc (op_msetB tyMap127 rfl rfl rfl rfl) ?_))
   refine OpsL.nil (Fin.block_normal (Fin.keepS ⟨[(0, _), (2, _), (7, _), (14, _), (15, _), (16, _)], [(101, .mp (eM .i64 (mB (mset told_2 x_5.Body ((mGetB told_2 x_5.Body) || (decide (x_5.To = region0)))))))]⟩ rfl (Fin.then (Tri.regionL ?_))))
   refine Oc (op_add rfl rfl) (Oc om ?_)
   refine OpsL.nil ?_
   exact Fin.againJ [0, 2, 7, 14, 15, 16] [101] (mset told_2 x_5.Body ((mGetB told_2 x_5.Body) || (decide (x_5.To = region0))), IntKind.i64.wrap (x_3 + 1)) (Option.some.inj h4) rfl
  ·refine Tri.exit (Fin.then_exit ?_)
   obtain rfl := hy5 _ (Option.some.inj h4).symm
   refine Fin.then_exit (Fin.block_exit ?_)
   exact Fin.join [0, 2, 7] [101] told_2 rfl rfl
 ·rintro told_1 hv
  subst v1
  refine Tri.seq (Tri.regionL ?_)
  refine Oc oa (OpsL.nilS ⟨[(0, _), (2, _), (7, _), (10, .b (.one (.nil)))], [(101, _)]⟩ rfl ?_)
  obtain ⟨v11, h12, h⟩ := bnd h
  refine Tri.seqJ (v := v11) (fun (out_6 : List Int) => ⟨[(10, .b (.row 104))], [(104, .row 3 1 (out_6.map eI))]⟩) (fun z => z) ?_ ?_
  ·refine Tri.seq (Tri.regionL ?_)
   refine Oc om (Oc (op_len_e' und22 rfl (List.length_map _)) (Oc om ?_))
   refine OpsL.nilS ⟨[(2, _), (7, _), (10, _), (34, .b (.one (.sl 1 (home0.map eI)))), (35, I (home0.length : Int)), (36, I 0)], [(101, _)]⟩ rfl (Tri.block (Tri.nilrow (hnu := by first | rfl | exact nuI rfl | exact nuC rfl (nuI rfl) | exact nuC rfl (nuC rfl (nuI rfl)) | exact nuC rfl (nuC rfl (nuC rfl (nuI rfl)))) 10 104 1 3 rfl (by decide) rfl (Tri.loopJ h12 (un2 fun (out_7 : List Int) (x_8 : Int) => ⟨[(2, I region0), (7, .b (.row 101)), (10, .b (.row 104)), (34, .b (.one (.sl 1 (home0.map eI)))), (35, I (home0.length : Int)), (36, I x_8)], [(101, .mp (eM .i64 (mB told_1))), (104, .row 3 1 (out_7.map eI))]⟩) [2, 7, 10, 34, 35, 36] [101, 104] rfl ?_)))
   rintro ⟨out_7, x_8⟩ o13 h14 hy15
   refine Tri.seq (Tri.regionL ?_)
   refine Oc (op_lss rfl rfl) (OpsL.nilS ⟨[(2, _), (7, _), (10, _), (34, _), (35, _), (36, _), (37, B (decide (x_8 < (home0.length : Int))))], [(101, _), (104, _)]⟩ rfl (Tri.seq (Tri.ite h14 rfl (fun _ h14 => ?_) (fun _ h14 => ?_))))
   ·refine Tri.skip (Fin.keepS ⟨[(2, _), (7, _), (10, _), (34, _), (35, _), (36, _)], [(101, _), (104, _)]⟩ rfl (Fin.then ?_))
    obtain ⟨v16, h17, h14⟩ := bnd h14
    refine Tri.seqJ (v := v16) (fun (out_10 : List Int) => ⟨[(2, I region0), (7, .b (.row 101)), (10, .b (.row 104)), (34, .b (.one (.sl 1 (home0.map eI)))), (35, I (home0.length : Int)), (36, I x_8)], [(101, .mp (eM .i64 (mB told_1))), (104, .row 3 1 (out_10.map eI))]⟩) (fun z => z) ?_ ?_
    ·refine Tri.block (Tri.seq (Tri.regionL ?_))
     refine Oc om ?_
     obtain ⟨x_11, e18, h17⟩ := bnd h17
     refine Oc (op_index_e tySl22 (ix_lo e18) (ix_map (e := eI) e18) rfl rfl) (Oc (op_load_e1 tyOne3 rfl rfl) (Oc oa (Oc oa ?_)))
     refine OpsL.nilS ⟨[(2, _), (7, _), (10, _), (11, I x_8), (12, I x_11), (34, _), (35, _), (36, _)], [(101, _), (104, _)]⟩ rfl (Tri.seq (Tri.regionL ?_))
     refine Oc om (Oc om (Oc (op_eql rfl rfl) (Oc om ?_)))
     refine CgF (!(decide (x_11 = region0))) [] (fun g19 => trivial) (fun g19 => om) (CgF (!(decide (x_11 = region0))) [] (fun g20 => by exact trivial) (fun g20 => om) (CgF (!(decide (x_11 = region0))) [45, 46] (fun g21 => by exact ⟨g21, g21, trivial⟩) (fun g21 => op_mgetB1 tyMap127 rfl rfl rfl) (Oc (op_pick_or (fun e => by first | (rw [e]; rfl) | (simp only at e; rw [e]; rfl)) rfl rfl rfl rfl) (OpsL.nilS ⟨[(2, _), (7, _), (10, _), (11, _), (34, _), (35, _), (36, _), (48, B ((decide (x_11 = region0)) || (mGetB told_1 x_8)))], [(101, _), (104, _)]⟩ rfl (Tri.ite h17 rfl (fun _ h17 => ?_) (fun _ h17 => ?_))))))
     ·refine Tri.regionL (Oc om (Oc om (Oc (op_buildSlice (hnu := by first | rfl | exact nuI rfl | exact nuC rfl (nuI rfl) | exact nuC rfl (nuC rfl (nuI rfl)) | exact nuC rfl (nuC rfl (nuC rfl (nuI rfl)))) (k := 105) (es := [x_8].map eI) tySl22 rfl rfl (uni_map fun _ => rfl) rfl (by decide) (by decide) rfl) ?_)))
      obtain ⟨x_12, e22, h17⟩ := bnd h17
      refine Oc (op_append_r (hnu := by first | rfl | exact nuI rfl | exact nuC rfl (nuI rfl) | exact nuC rfl (nuC rfl (nuI rfl)) | exact nuC rfl (nuC rfl (nuC rfl (nuI rfl)))) tySl22 (app_b e22) (app_m e22) rfl rfl rfl rfl (app_map e22) rfl) (Oc oa ?_)
      refine OpsL.nil (Fin.block_normal ?_)
      exact Fin.join [2, 7, 10, 34, 35, 36] [101, 104] x_12 (Option.some.inj h17) rfl
     ·refine Tri.skip (Fin.block_normal ?_)
      exact Fin.join [2, 7, 10, 34, 35, 36] [101, 104] out_7 (Option.some.inj h17) rfl
    ·rintro out_10 hv
     subst v16
     refine Tri.regionL (Oc (op_add rfl rfl) (Oc om ?_))
     refine OpsL.nil ?_
     exact Fin.againJ [2, 7, 10, 34, 35, 36] [101, 104] (out_10, IntKind.i64.wrap (x_8 + 1)) (Option.some.inj h14) rfl
   ·refine Tri.exit (Fin.then_exit ?_)
    obtain rfl := hy15 _ (Option.some.inj h14).symm
    refine Fin.then_exit (Fin.block_exit ?_)
    exact Fin.join [10] [104] out_7 rfl rfl
  ·rintro out_6 hv
   subst v11
   refine Tri.seq (Tri.regionL ?_)
   refine Oc om (Oc oa ?_)
   refine OpsL.nilS ⟨[(6, .b (.row 104))], [(104, _)]⟩ rfl (Tri.ret ?_)
   obtain rfl := Option.some.inj h
   refine Fin.keepS ⟨[(6, _)], [(104, _)]⟩ rfl (Fin.resultK 104 kr0 [.row 104] (.inl rfl) rfl (.cons (.tmp rfl) .nil) rfl rfl rfl rfl ⟨rfl, rfl⟩)
def skewbackref44_Known_S (F : Nat) (home0 : List Int) (shares0 : List Share) (region0 : Int) : Option (List Int) :=
 Option.bind (iter F (un2 fun out_2 b_3 => if (decide (b_3 < (home0.length : Int))) = true then (Option.bind ((idx? home0 b_3).bind fun x_6 => Option.bind (iter F (un2 fun is_8 i_9 => if (decide (i_9 < (shares0.length : Int))) = true then ((gcall (!is_8) (idx? shares0 i_9)).bind fun x_11 => (gcall ((!is_8) && (decide (x_11.Body = b_3))) (idx? shares0 i_9)).bind fun x_12 => letN (is_8 || ((decide (x_11.Body = b_3)) && (decide (x_12.To = region0)))) fun x_13 => some (.inl (x_13, IntKind.i64.wrap (i_9 + 1)))) else (some (.inr is_8))) (decide (x_6 = region0), 0)) (fun is_7 => if is_7 = true then ((app? out_2 [b_3]).bind fun x_14 => some x_14) else (some out_2))) (fun out_5 => some (.inl (out_5, IntKind.i64.wrap (b_3 + 1))))) else (some (.inr out_2))) ([], 0)) (fun out_1 => some out_1)
theorem skewbackref44_Known_spec (kr0 : Nat) {F : Nat} {home0 : List Int} {shares0 : List Share} {region0 : Int} {r : (List Int)} (h : skewbackref44_Known_S F home0 shares0 region0 = some r) : Meets Try.prog [] 39 [] [.one (.sl 1 (home0.map eI)), .one (.sl 3 (shares0.map eShare)), .one (.i region0)] (Is [(kr0, .row 3 1 (r.map eI))] (.b (.row kr0))) := by
 unfold skewbackref44_Known_S at h
 refine Meets.intro 54 Try.func39 Try.ntmps39 rfl (by simp) fun E => ?_
 show Tri _ E ⟨54, [], [], []⟩ _ ⟨[(0, .b (.one (.sl 1 (home0.map eI)))), (1, .b (.one (.sl 3 (shares0.map eShare)))), (2, I region0)], []⟩ _
 refine Tri.seq (Tri.regionL ?_)
 refine Oc oa (OpsL.nilS ⟨[(0, .b (.one (.sl 1 (home0.map eI)))), (1, .b (.one (.sl 3 (shares0.map eShare)))), (2, I region0)], []⟩ rfl (Tri.seq (Tri.regionL ?_)))
 refine Oc oa (OpsL.nilS ⟨[(0, _), (1, _), (2, _), (7, .b (.one (.nil)))], []⟩ rfl ?_)
 obtain ⟨v1, h2, h⟩ := bnd h
 refine Tri.seqJ (v := v1) (fun (out_1 : List Int) => ⟨[(7, .b (.row 102))], [(102, .row 3 1 (out_1.map eI))]⟩) (fun z => z) ?_ ?_
 ·refine Tri.seq (Tri.regionL ?_)
  refine Oc oa (OpsL.nilS ⟨[(0, _), (1, _), (2, _), (7, _), (8, I 0)], []⟩ rfl (Tri.block (Tri.nilrow 7 102 1 3 rfl (by decide) rfl (Tri.loopJ h2 (un2 fun (out_2 : List Int) (b_3 : Int) => ⟨[(0, .b (.one (.sl 1 (home0.map eI)))), (1, .b (.one (.sl 3 (shares0.map eShare)))), (2, I region0), (7, .b (.row 102)), (8, I b_3)], [(102, .row 3 1 (out_2.map eI))]⟩) [0, 1, 2, 7, 8] [102] rfl ?_))))
  rintro ⟨out_2, b_3⟩ o3 h4 hy5
  refine Tri.seq (Tri.seq (Tri.regionL ?_))
  refine Oc om (Oc om (Oc (op_len_e' und22 rfl (List.length_map _)) (Oc (op_lss rfl rfl) ?_)))
  refine OpsL.nilS ⟨[(0, _), (1, _), (2, _), (7, _), (8, _), (14, B (decide (b_3 < (home0.length : Int))))], [(102, _)]⟩ rfl (Tri.ite h4 rfl (fun _ h4 => ?_) (fun _ h4 => ?_))
  ·refine Tri.skip (Fin.keepS ⟨[(0, _), (1, _), (2, _), (7, _), (8, _)], [(102, _)]⟩ rfl (Fin.then ?_))
   obtain ⟨v6, h7, h4⟩ := bnd h4
   refine Tri.seqJ (v := v6) (fun (out_5 : List Int) => ⟨[(0, .b (.one (.sl 1 (home0.map eI)))), (1, .b (.one (.sl 3 (shares0.map eShare)))), (2, I region0), (7, .b (.row 102)), (8, I b_3)], [(102, .row 3 1 (out_5.map eI))]⟩) (fun z => z) ?_ ?_
   ·refine Tri.block (Tri.seq (Tri.regionL ?_))
    refine Oc om (Oc om ?_)
    obtain ⟨x_6, e8, h7⟩ := bnd h7
    refine Oc (op_index_e tySl22 (ix_lo e8) (ix_map (e := eI) e8) rfl rfl) (Oc (op_load_e1 tyOne3 rfl rfl) (Oc om (Oc (op_eql rfl rfl) (Oc oa ?_))))
    refine OpsL.nilS ⟨[(0, _), (1, _), (2, _), (7, _), (8, _), (9, B (decide (x_6 = region0)))], [(102, _)]⟩ rfl ?_
    obtain ⟨v9, h10, h7⟩ := bnd h7
    refine Tri.seqJ (v := v9) (fun (is_7 : Bool) => ⟨[(0, .b (.one (.sl 1 (home0.map eI)))), (1, .b (.one (.sl 3 (shares0.map eShare)))), (2, I region0), (7, .b (.row 102)), (8, I b_3), (9, B is_7)], [(102, .row 3 1 (out_2.map eI))]⟩) (fun z => z) ?_ ?_
    ·refine Tri.seq (Tri.regionL ?_)
     refine Oc oa (OpsL.nilS ⟨[(0, _), (1, _), (2, _), (7, _), (8, _), (9, _), (10, I 0)], [(102, _)]⟩ rfl (Tri.block (Tri.loopJ h10 (un2 fun (is_8 : Bool) (i_9 : Int) => ⟨[(0, .b (.one (.sl 1 (home0.map eI)))), (1, .b (.one (.sl 3 (shares0.map eShare)))), (2, I region0), (7, .b (.row 102)), (8, I b_3), (9, B is_8), (10, I i_9)], [(102, .row 3 1 (out_2.map eI))]⟩) [0, 1, 2, 7, 8, 9, 10] [102] rfl ?_)))
     rintro ⟨is_8, i_9⟩ o11 h12 hy13
     refine Tri.seq (Tri.seq (Tri.regionL ?_))
     refine Oc om (Oc om (Oc (op_len_e' und71 rfl (List.length_map _)) (Oc (op_lss rfl rfl) ?_)))
     refine OpsL.nilS ⟨[(0, _), (1, _), (2, _), (7, _), (8, _), (9, _), (10, _), (26, B (decide (i_9 < (shares0.length : Int))))], [(102, _)]⟩ rfl (Tri.ite h12 rfl (fun _ h12 => ?_) (fun _ h12 => ?_))
     ·refine Tri.skip (Fin.keepS ⟨[(0, _), (1, _), (2, _), (7, _), (8, _), (9, _), (10, _)], [(102, _)]⟩ rfl (Fin.then (Tri.seq (Tri.block (Tri.regionL ?_)))))
      refine Oc om (Oc om ?_)
      refine CgF (!is_8) [] (fun g14 => trivial) (fun g14 => om) (CgF (!is_8) [] (fun g15 => by exact trivial) (fun g15 => om) ?_)
      obtain ⟨x_11, e17, h12⟩ := bnd h12
      refine CgF (!is_8) [31, 32] (fun g16 => ⟨g16, g16, trivial⟩) (fun g16 => op_index_e tySl71 (ix_lo (gc e17 g16)) (ix_map (e := eShare) (gc e17 g16)) rfl rfl) (CgF (!is_8) [33] (fun g18 => ⟨g18, trivial⟩) (fun g18 => op_field_e tyFld83_0 rfl rfl) (CgF (!is_8) [34] (fun g19 => ⟨g19, trivial⟩) (fun g19 => op_load_e1 tyOne3 rfl rfl) (OpsL.keepS ⟨[(0, _), (1, _), (2, _), (7, _), (8, _), (9, _), (10, _), (30, B is_8), (35, .opt (!is_8) (.one (.i x_11.Body)))], [(102, _)]⟩ rfl (CgF (!is_8) [] (fun g20 => trivial) (fun g20 => om) (CgF (!is_8) [35, 36] (fun g21 => by exact ⟨g21, g21, trivial⟩) (fun g21 => op_eql rfl rfl) ?_)))))
      refine CgF (!is_8) [37] (fun g22 => ⟨g22, trivial⟩) (fun g22 => om) (OpsL.consG ((!is_8) && (decide (x_11.Body = b_3))) 99 [] (.under rfl) (and_t _ _) rfl rfl (fun g23 => by exact trivial) (fun g23 => om) (OpsL.consG ((!is_8) && (decide (x_11.Body = b_3))) 99 [] (.under rfl) (and_t _ _) rfl rfl (fun g24 => by exact trivial) (fun g24 => om) ?_))
      obtain ⟨x_12, e26, h12⟩ := bnd h12
      refine OpsL.consG ((!is_8) && (decide (x_11.Body = b_3))) 99 [39, 40] (.under rfl) (and_t _ _) rfl rfl (fun g25 => ⟨g25, g25, trivial⟩) (fun g25 => op_index_e tySl71 (ix_lo (gc e26 g25)) (ix_map (e := eShare) (gc e26 g25)) rfl rfl) (OpsL.consG ((!is_8) && (decide (x_11.Body = b_3))) 99 [41] (.under rfl) (and_t _ _) rfl rfl (fun g27 => ⟨g27, trivial⟩) (fun g27 => op_field_e tyFld83_2 rfl rfl) (OpsL.consG ((!is_8) && (decide (x_11.Body = b_3))) 99 [42] (.under rfl) (and_t _ _) rfl rfl (fun g28 => ⟨g28, trivial⟩) (fun g28 => op_load_e1 tyOne3 rfl rfl) (OpsL.keepS ⟨[(0, _), (1, _), (2, _), (7, _), (8, _), (9, _), (10, _), (30, _), (38, .opt (!is_8) (.one (.bool (decide (x_11.Body = b_3))))), (43, .opt ((!is_8) && (decide (x_11.Body = b_3))) (.one (.i x_12.To)))], [(102, _)]⟩ rfl (OpsL.consG ((!is_8) && (decide (x_11.Body = b_3))) 99 [] (.under rfl) (and_t _ _) rfl rfl (fun g29 => trivial) (fun g29 => om) (OpsL.consG ((!is_8) && (decide (x_11.Body = b_3))) 99 [43, 44] (.under rfl) (and_t _ _) rfl rfl (fun g30 => ⟨g30, g30, trivial⟩) (fun g30 => op_eql rfl rfl) ?_)))))
      refine CgF (!is_8) [38] (fun g31 => ⟨g31, trivial⟩) (fun g31 => op_pick_and (fun e => by rw [g31, e]; rfl) rfl rfl rfl rfl) (OpsL.consB h12 rfl (op_pick_or (fun e => by first | (rw [e]; rfl) | (simp only at e; rw [e]; rfl)) rfl rfl rfl rfl) (fun x_13 h12 => ?_))
      refine Oc oa (OpsL.nil (Fin.block_normal (Fin.keepS ⟨[(0, _), (1, _), (2, _), (7, _), (8, _), (9, B x_13), (10, _)], [(102, _)]⟩ rfl (Fin.then (Tri.regionL ?_)))))
      refine Oc om (Oc (op_add rfl rfl) (Oc oa ?_))
      refine OpsL.nil ?_
      exact Fin.againJ [0, 1, 2, 7, 8, 9, 10] [102] (x_13, IntKind.i64.wrap (i_9 + 1)) (Option.some.inj h12) rfl
     ·refine Tri.exit (Fin.then_exit ?_)
      obtain rfl := hy13 _ (Option.some.inj h12).symm
      refine Fin.then_exit (Fin.block_exit ?_)
      exact Fin.join [0, 1, 2, 7, 8, 9] [102] is_8 rfl rfl
    ·rintro is_7 hv
     subst v9
     refine Tri.seq (Tri.regionL ?_)
     refine Oc om (OpsL.nilS ⟨[(0, _), (1, _), (2, _), (7, _), (8, _), (48, B is_7)], [(102, _)]⟩ rfl (Tri.ite h7 rfl (fun _ h7 => ?_) (fun _ h7 => ?_)))
     ·refine Tri.regionL (Oc om (Oc om (Oc (op_buildSlice (k := 103) (es := [b_3].map eI) tySl22 rfl rfl (uni_map fun _ => rfl) rfl (by decide) (by decide) rfl) ?_)))
      obtain ⟨x_14, e32, h7⟩ := bnd h7
      refine Oc (op_append_r tySl22 (app_b e32) (app_m e32) rfl rfl rfl rfl (app_map e32) rfl) (Oc oa ?_)
      refine OpsL.nil (Fin.block_normal ?_)
      exact Fin.join [0, 1, 2, 7, 8] [102] x_14 (Option.some.inj h7) rfl
     ·refine Tri.skip (Fin.block_normal ?_)
      exact Fin.join [0, 1, 2, 7, 8] [102] out_2 (Option.some.inj h7) rfl
   ·rintro out_5 hv
    subst v6
    refine Tri.regionL (Oc om (Oc (op_add rfl rfl) (Oc oa ?_)))
    refine OpsL.nil ?_
    exact Fin.againJ [0, 1, 2, 7, 8] [102] (out_5, IntKind.i64.wrap (b_3 + 1)) (Option.some.inj h4) rfl
  ·refine Tri.exit (Fin.then_exit ?_)
   obtain rfl := hy5 _ (Option.some.inj h4).symm
   refine Fin.then_exit (Fin.block_exit ?_)
   exact Fin.join [7] [102] out_2 rfl rfl
 ·rintro out_1 hv
  subst v1
  refine Tri.seq (Tri.regionL ?_)
  refine Oc om (Oc oa ?_)
  refine OpsL.nilS ⟨[(6, .b (.row 102))], [(102, _)]⟩ rfl (Tri.ret ?_)
  obtain rfl := Option.some.inj h
  refine Fin.keepS ⟨[(6, _)], [(102, _)]⟩ rfl (Fin.resultK 102 kr0 [.row 102] (.inl rfl) rfl (.cons (.tmp rfl) .nil) rfl rfl rfl rfl ⟨rfl, rfl⟩)
def skewbacklaw44_OwnerSharesAsSpecified_S (F : Nat) (borders0 : List Int) (home0 : List Int) (boxes0 : List Box) (x0 : Int) (y0 : Int) : Option Bool :=
 letN ((decide (20 < (borders0.length : Int))) || (decide (40 < (home0.length : Int)))) fun x_1 => if (x_1 || (decide (40 < (boxes0.length : Int)))) = true then ((skewbacklaw44_sanity_S F).bind fun x_2 => some x_2) else (Option.bind (owner_Shares_S F borders0 home0 boxes0) (un2 fun x_3 x_4 => (skewbackref44_Shares_S F borders0 home0 boxes0).bind fun x_5 => letN ((decide (x_4 ≠ x_5.E)) || (decide ((x_3.length : Int) ≠ (x_5.L.length : Int)))) fun x_6 => if x_6 = true then (some false) else (Option.bind ((skewbackref44_Ascending_S F borders0).bind fun x_7 => if x_7 = true then (Option.bind (owner_Reach_S F borders0 x0 y0) (un2 fun x_8 x_9 => (skewbackref44_Reach_S F borders0 x0 y0).bind fun x_10 => if (decide ((⟨x_8, x_9⟩ : A2) ≠ x_10)) = true then (some (.inr false)) else (some (.inl ())))) else (some (.inl ()))) (alt2 (fun _ => Option.bind (iter F (fun i_11 => if (decide (i_11 < (x_3.length : Int))) = true then ((idx? x_3 i_11).bind fun x_12 => (idx? x_5.L i_11).bind fun x_13 => if (decide (x_12 ≠ x_13)) = true then (some (.inr (.inr false))) else (some (.inl (IntKind.i64.wrap (i_11 + 1))))) else (some (.inr (.inl ())))) 0) (alt2 (fun _ => Option.bind (iter F (fun r_14 => if (decide (r_14 ≤ (borders0.length : Int))) = true then ((owner_Known_S F home0 x_5.L r_14).bind fun x_15 => (skewbackref44_Known_S F home0 x_5.L r_14).bind fun x_16 => (skewbackref35_Same_S F x_15 x_16).bind fun x_17 => if (!x_17) = true then (some (.inr (.inr false))) else (some (.inl (IntKind.i64.wrap (r_14 + 1))))) else (some (.inr (.inl ())))) 0) (alt2 (fun _ => (skewbacklaw44_sanity_S F).bind fun x_18 => some x_18) (fun y => some y))) (fun y => some y))) (fun y => some y)))))
theorem skewbacklaw44_OwnerSharesAsSpecified_spec {F : Nat} {borders0 : List Int} {home0 : List Int} {boxes0 : List Box} {x0 : Int} {y0 : Int} {r : Bool} (h : skewbacklaw44_OwnerSharesAsSpecified_S F borders0 home0 boxes0 x0 y0 = some r) : Meets Try.prog [] 7 [] [.one (.sl 1 (borders0.map eI)), .one (.sl 1 (home0.map eI)), .one (.sl 6 (boxes0.map eBox)), .one (.i x0), .one (.i y0)] (Is [] (.b (.one (.bool r)))) := by
 unfold skewbacklaw44_OwnerSharesAsSpecified_S at h
 refine Meets.intro 107 Try.func7 Try.ntmps7 rfl (by simp) fun E => ?_
 show Tri _ E ⟨107, [], [], []⟩ _ ⟨[(0, .b (.one (.sl 1 (borders0.map eI)))), (1, .b (.one (.sl 1 (home0.map eI)))), (2, .b (.one (.sl 6 (boxes0.map eBox)))), (3, I x0), (4, I y0)], []⟩ _
 refine Tri.seq (Tri.regionL ?_)
 refine Oc oa (OpsL.nilS ⟨[(0, .b (.one (.sl 1 (borders0.map eI)))), (1, .b (.one (.sl 1 (home0.map eI)))), (2, .b (.one (.sl 6 (boxes0.map eBox)))), (3, I x0), (4, I y0)], []⟩ rfl (Tri.seq (Tri.seq (Tri.regionL ?_))))
 refine Oc om (Oc (op_len_e' und22 rfl (List.length_map _)) (Oc (op_gtr rfl rfl) (Oc om ?_)))
 refine CgF (!(decide (20 < (borders0.length : Int)))) [] (fun g1 => trivial) (fun g1 => om) (OpsL.keepS ⟨[(0, _), (1, _), (2, _), (3, _), (4, _), (21, B (decide (20 < (borders0.length : Int)))), (22, .opt (!(decide (20 < (borders0.length : Int)))) (.one (.sl 1 (home0.map eI))))], []⟩ rfl (CgF (!(decide (20 < (borders0.length : Int)))) [22] (fun g2 => by exact ⟨g2, trivial⟩) (fun g2 => op_len_e' und22 rfl (List.length_map _)) (CgF (!(decide (20 < (borders0.length : Int)))) [23] (fun g3 => by exact ⟨g3, trivial⟩) (fun g3 => op_gtr rfl rfl) (OpsL.consB h rfl (op_pick_or (fun e => by first | (rw [e]; rfl) | (simp only at e; rw [e]; rfl)) rfl rfl rfl rfl) (fun x_1 h => ?_)))))
 refine Oc om (CgF (!x_1) [] (fun g4 => by exact trivial) (fun g4 => om) (CgF (!x_1) [27] (fun g5 => by exact ⟨g5, trivial⟩) (fun g5 => op_len_e' und70 rfl (List.length_map _)) (CgF (!x_1) [28] (fun g6 => by exact ⟨g6, trivial⟩) (fun g6 => op_gtr rfl rfl) (Oc (op_pick_or (fun e => by first | (rw [e]; rfl) | (simp only at e; rw [e]; rfl)) rfl rfl rfl rfl) (OpsL.nilS ⟨[(0, _), (1, _), (2, _), (3, _), (4, _), (30, B (x_1 || (decide (40 < (boxes0.length : Int)))))], []⟩ rfl ?_)))))
 refine Tri.ite h rfl (fun _ h => ?_) (fun _ h => ?_)
 ·refine Tri.seq (Tri.regionL ?_)
  obtain ⟨x_2, e7, h⟩ := bnd h
  refine Oc (op_call0 (skewbacklaw44_sanity_spec e7) goes10 rfl rfl) (Oc oa ?_)
  refine OpsL.nilS ⟨[(10, B x_2)], []⟩ rfl (Tri.ret (Fin.then_ret ?_))
  obtain rfl := Option.some.inj h
  refine Fin.keepS ⟨[(10, _)], []⟩ rfl (Fin.result' [.one (.bool x_2)] (.inl rfl) rfl (.cons (.tmp rfl) .nil) ⟨rfl, rfl⟩)
 ·refine Tri.skip (Fin.keepS ⟨[(0, _), (1, _), (2, _), (3, _), (4, _)], []⟩ rfl (Fin.then (Tri.seq (Tri.regionL ?_))))
  refine Oc om (Oc om (Oc om ?_))
  obtain ⟨⟨x_3, x_4⟩, e8, h⟩ := bnd h
  refine Oc (op_call (owner_Shares_spec 101 e8) goes33 rfl trivial rfl rfl) (Oc om ?_)
  refine OpsL.keepS ⟨[(0, _), (1, _), (2, _), (3, _), (4, _), (32, .tup [.row 101, .one (.i x_4)])], [(101, .row 83 3 (x_3.map eShare))]⟩ rfl (Oc (op_extract rfl rfl) (Oc (op_extract rfl rfl) (Oc oa (Oc oa ?_))))
  refine OpsL.nilS ⟨[(0, _), (1, _), (2, _), (3, _), (4, _), (11, .b (.row 101)), (12, I x_4)], [(101, _)]⟩ rfl (Tri.seq (Tri.regionL ?_))
  refine Oc om (Oc om (Oc om ?_))
  obtain ⟨x_5, e9, h⟩ := bnd h
  refine Oc (op_call0 (skewbackref44_Shares_spec e9) goes34 rfl rfl) (Oc (op_alloc (k := 102) tyZero75 rfl) (Oc (op_store_p tyAgg75 rfl rfl rfl rfl (Nat.le_of_ble_eq_true rfl) rfl) ?_))
  refine OpsL.nilS ⟨[(0, _), (1, _), (3, _), (4, _), (11, _), (12, _), (13, Pt 102 0)], [(101, _), (102, .box 75 (eShared x_5))]⟩ rfl (Tri.seq (Tri.seq (Tri.regionL ?_)))
  refine Oc om (Oc (op_field_p tyFld75_1 rfl rfl) (Oc (op_load_p1 tyOne33 rfl rfl rfl) (Oc (op_neq rfl rfl) (Oc om ?_))))
  refine CgF (!(decide (x_4 ≠ x_5.E))) [] (fun g10 => trivial) (fun g10 => om) (OpsL.keepS ⟨[(0, _), (1, _), (3, _), (4, _), (11, _), (13, _), (47, B (decide (x_4 ≠ x_5.E))), (48, .opt (!(decide (x_4 ≠ x_5.E))) (.row 101))], [(101, _), (102, _)]⟩ rfl (CgF (!(decide (x_4 ≠ x_5.E))) [48] (fun g11 => by exact ⟨g11, trivial⟩) (fun g11 => op_len_r' und71 rfl rfl (List.length_map _)) (CgF (!(decide (x_4 ≠ x_5.E))) [] (fun g12 => by exact trivial) (fun g12 => op_field_p tyFld75_0 rfl rfl) (CgF (!(decide (x_4 ≠ x_5.E))) [50] (fun g13 => by exact ⟨g13, trivial⟩) (fun g13 => op_load_p1 tyOne71 rfl rfl rfl) (CgF (!(decide (x_4 ≠ x_5.E))) [51] (fun g14 => by exact ⟨g14, trivial⟩) (fun g14 => op_len_e' und71 rfl (List.length_map _)) ?_)))))
  refine CgF (!(decide (x_4 ≠ x_5.E))) [49, 52] (fun g15 => ⟨g15, g15, trivial⟩) (fun g15 => op_neq rfl rfl) (OpsL.consB h rfl (op_pick_or (fun e => by first | (rw [e]; rfl) | (simp only at e; rw [e]; rfl)) rfl rfl rfl rfl) (fun x_6 h => ?_))
  refine OpsL.nilS ⟨[(0, _), (1, _), (3, _), (4, _), (11, _), (13, _), (54, B x_6)], [(101, _), (102, _)]⟩ rfl (Tri.ite h rfl (fun _ h => ?_) (fun _ h => ?_))
  ·refine Tri.seq (Tri.regionL ?_)
   refine Oc oa (OpsL.nilS ⟨[(10, B false)], []⟩ rfl (Tri.ret (Fin.then_ret ?_)))
   obtain rfl := Option.some.inj h
   refine Fin.keepS ⟨[(10, _)], []⟩ rfl (Fin.result' [.one (.bool false)] (.inl rfl) rfl (.cons (.tmp rfl) .nil) ⟨rfl, rfl⟩)
  ·refine Tri.skip (Fin.keepS ⟨[(0, _), (1, _), (3, _), (4, _), (11, _), (13, _)], [(101, _), (102, _)]⟩ rfl (Fin.then ?_))
   obtain ⟨v16, h17, h⟩ := bnd h
   refine Tri.seqJ (v := v16) (fun (_ : Unit) => ⟨[(0, .b (.one (.sl 1 (borders0.map eI)))), (1, .b (.one (.sl 1 (home0.map eI)))), (11, .b (.row 101)), (13, Pt 102 0)], [(101, .row 83 3 (x_3.map eShare)), (102, .box 75 (eShared x_5))]⟩) (fun z => .inl z) ?_ ?_
   ·refine Tri.seq (Tri.regionL ?_)
    refine Oc om ?_
    obtain ⟨x_7, e18, h17⟩ := bnd h17
    refine Oc (op_call0 (skewbackref44_Ascending_spec e18) goes35 rfl rfl) (OpsL.nilS ⟨[(0, _), (1, _), (3, _), (4, _), (11, _), (13, _), (56, B x_7)], [(101, _), (102, _)]⟩ rfl (Tri.ite h17 rfl (fun _ h17 => ?_) (fun _ h17 => ?_)))
    ·refine Tri.seq (Tri.regionL ?_)
     refine Oc om (Oc om (Oc om ?_))
     obtain ⟨⟨x_8, x_9⟩, e19, h17⟩ := bnd h17
     refine Oc (op_call0 (owner_Reach_spec e19) goes36 rfl rfl) (Oc om ?_)
     refine OpsL.keepS ⟨[(0, _), (1, _), (3, _), (4, _), (11, _), (13, _), (57, .tup [.one (.i x_8), .one (.i x_9)])], [(101, _), (102, _)]⟩ rfl (Oc (op_extract rfl rfl) (Oc (op_extract rfl rfl) (Oc oa (Oc oa ?_))))
     refine OpsL.nilS ⟨[(0, _), (1, _), (3, _), (4, _), (11, _), (13, _), (14, I x_8), (15, I x_9)], [(101, _), (102, _)]⟩ rfl (Tri.seq (Tri.regionL ?_))
     refine Oc om (Oc om (Oc (op_buildA tyBuild80 rfl rfl) (Oc om (Oc om (Oc om ?_)))))
     obtain ⟨x_10, e20, h17⟩ := bnd h17
     refine Oc (op_call0 (skewbackref44_Reach_spec e20) goes37 rfl rfl) (Oc (op_neq_agg (eqAgg80 (⟨x_8, x_9⟩ : A2) x_10) rfl rfl neg_dec) ?_)
     refine OpsL.nilS ⟨[(0, _), (1, _), (11, _), (13, _), (71, B (decide ((⟨x_8, x_9⟩ : A2) ≠ x_10)))], [(101, _), (102, _)]⟩ rfl (Tri.ite h17 rfl (fun _ h17 => ?_) (fun _ h17 => ?_))
     ·refine Tri.seq (Tri.regionL ?_)
      refine Oc oa (OpsL.nilS ⟨[(10, B false)], []⟩ rfl (Tri.ret ?_))
      obtain rfl := Option.some.inj h17
      refine Fin.then_ret ?_
      obtain rfl := Option.some.inj h
      refine Fin.keepS ⟨[(10, _)], []⟩ rfl (Fin.result' [.one (.bool false)] (.inl rfl) rfl (.cons (.tmp rfl) .nil) ⟨rfl, rfl⟩)
     ·refine Tri.skip ?_
      exact Fin.join [0, 1, 11, 13] [101, 102] () (Option.some.inj h17) rfl
    ·refine Tri.skip ?_
     exact Fin.join [0, 1, 11, 13] [101, 102] () (Option.some.inj h17) rfl
   ·rintro _ hv
    subst v16
    obtain ⟨v21, h22, h⟩ := bnd h
    refine Tri.seqJ (v := v21) (fun (_ : Unit) => ⟨[(0, .b (.one (.sl 1 (borders0.map eI)))), (1, .b (.one (.sl 1 (home0.map eI)))), (13, Pt 102 0)], [(102, .box 75 (eShared x_5))]⟩) (fun z => .inl z) ?_ ?_
    ·refine Tri.seq (Tri.regionL ?_)
     refine Oc oa (OpsL.nilS ⟨[(0, _), (1, _), (11, _), (13, _), (16, I 0)], [(101, _), (102, _)]⟩ rfl (Tri.block (Tri.loopJ h22 (fun (i_11 : Int) => ⟨[(0, .b (.one (.sl 1 (borders0.map eI)))), (1, .b (.one (.sl 1 (home0.map eI)))), (11, .b (.row 101)), (13, Pt 102 0), (16, I i_11)], [(101, .row 83 3 (x_3.map eShare)), (102, .box 75 (eShared x_5))]⟩) [0, 1, 11, 13, 16] [101, 102] rfl ?_)))
     rintro i_11 o23 h24 hy25
     refine Tri.seq (Tri.seq (Tri.regionL ?_))
     refine Oc om (Oc om (Oc (op_len_r' und71 rfl rfl (List.length_map _)) (Oc (op_lss rfl rfl) ?_)))
     refine OpsL.nilS ⟨[(0, _), (1, _), (11, _), (13, _), (16, _), (75, B (decide (i_11 < (x_3.length : Int))))], [(101, _), (102, _)]⟩ rfl (Tri.ite h24 rfl (fun _ h24 => ?_) (fun _ h24 => ?_))
     ·refine Tri.skip (Fin.keepS ⟨[(0, _), (1, _), (11, _), (13, _), (16, _)], [(101, _), (102, _)]⟩ rfl (Fin.then (Tri.seq (Tri.block (Tri.seq ?_)))))
      refine Tri.keepS ⟨[(0, _), (1, _), (11, _), (13, _), (16, _)], [(101, _), (102, _)]⟩ rfl ?_
      obtain ⟨x_12, e26, h24⟩ := bnd h24
      obtain ⟨x_13, e27, h24⟩ := bnd h24
      refine Tri.regionY mixed 10 [.b (.row 101), I i_11, .b (.rptr 101 ((i_11 : Int).toNat * 3)), .b (.agg (eShare x_12)), Pt 102 0, .b (.one (.sl 3 (x_5.L.map eShare))), I i_11, .b (.eptr (eShare x_13)), .b (.agg (eShare x_13)), B (decide (x_12 ≠ x_13))] [0, 1, 11, 13, 16, 87] [101, 102] (s' := ⟨[(0, _), (1, _), (11, _), (13, _), (16, _), (87, B (decide (x_12 ≠ x_13)))], [(101, _), (102, _)]⟩) rfl ⟨fun _ => .p om, fun _ => .p om, fun _ => .p (op_index_r tySl71 (ix_lo e26) (ix_lt' e26) rfl rfl rfl rfl), fun _ => .p (op_load_r (i := (i_11 : Int).toNat) (f := 0) tyAgg83 rfl rfl rfl (ix_map (e := eShare) e26) rfl rfl), fun _ => .p (op_field_p tyFld75_0 rfl rfl), fun _ => .p (op_load_p1 tyOne71 rfl rfl rfl), fun _ => .p om, fun _ => .p (op_index_e tySl71 (ix_lo e27) (ix_map (e := eShare) e27) rfl rfl), fun _ => .p (op_load_e tyAgg83 rfl rfl rfl), fun _ => .p (op_neq_agg (eqAgg83 x_12 x_13) rfl rfl neg_dec), trivial⟩ rfl rfl (Tri.ite h24 rfl (fun _ h24 => ?_) (fun _ h24 => ?_))
      ·refine Tri.seq (Tri.regionL ?_)
       refine Oc oa (OpsL.nilS ⟨[(10, B false)], []⟩ rfl (Tri.ret (Fin.block_ret (Fin.then_ret ?_))))
       obtain rfl := hy25 _ (Option.some.inj h24).symm
       refine Fin.then_ret (Fin.block_ret (Fin.then_ret ?_))
       obtain rfl := Option.some.inj h
       refine Fin.keepS ⟨[(10, _)], []⟩ rfl (Fin.result' [.one (.bool false)] (.inl rfl) rfl (.cons (.tmp rfl) .nil) ⟨rfl, rfl⟩)
      ·refine Tri.skip (Fin.block_normal (Fin.keepS ⟨[(0, _), (1, _), (11, _), (13, _), (16, _)], [(101, _), (102, _)]⟩ rfl (Fin.then (Tri.regionL ?_))))
       refine Oc om (Oc (op_add rfl rfl) (Oc oa ?_))
       refine OpsL.nil ?_
       exact Fin.againJ [0, 1, 11, 13, 16] [101, 102] (IntKind.i64.wrap (i_11 + 1)) (Option.some.inj h24) rfl
     ·refine Tri.exit (Fin.then_exit ?_)
      obtain rfl := hy25 _ (Option.some.inj h24).symm
      refine Fin.then_exit (Fin.block_exit ?_)
      exact Fin.join [0, 1, 13] [102] () rfl rfl
    ·rintro _ hv
     subst v21
     obtain ⟨v28, h29, h⟩ := bnd h
     refine Tri.seqJ (v := v28) (fun (_ : Unit) => ⟨[], []⟩) (fun z => .inl z) ?_ ?_
     ·refine Tri.seq (Tri.regionL ?_)
      refine Oc oa (OpsL.nilS ⟨[(0, _), (1, _), (13, _), (17, I 0)], [(102, _)]⟩ rfl (Tri.block (Tri.loopJ h29 (fun (r_14 : Int) => ⟨[(0, .b (.one (.sl 1 (borders0.map eI)))), (1, .b (.one (.sl 1 (home0.map eI)))), (13, Pt 102 0), (17, I r_14)], [(102, .box 75 (eShared x_5))]⟩) [0, 1, 13, 17] [102] rfl ?_)))
      rintro r_14 o30 h31 hy32
      refine Tri.seq (Tri.seq (Tri.regionL ?_))
      refine Oc om (Oc om (Oc (op_len_e' und22 rfl (List.length_map _)) (Oc (op_leq rfl rfl) ?_)))
      refine OpsL.nilS ⟨[(0, _), (1, _), (13, _), (17, _), (91, B (decide (r_14 ≤ (borders0.length : Int))))], [(102, _)]⟩ rfl (Tri.ite h31 rfl (fun _ h31 => ?_) (fun _ h31 => ?_))
      ·refine Tri.skip (Fin.keepS ⟨[(0, _), (1, _), (13, _), (17, _)], [(102, _)]⟩ rfl (Fin.then (Tri.seq (Tri.block (Tri.seq ?_)))))
       refine Tri.keepS ⟨[(0, _), (1, _), (13, _), (17, _)], [(102, _)]⟩ rfl ?_
       obtain ⟨x_15, e33, h31⟩ := bnd h31
       obtain ⟨x_16, e34, h31⟩ := bnd h31
       obtain ⟨x_17, e35, h31⟩ := bnd h31
       refine Tri.regionY mixed 12 [.b (.one (.sl 1 (home0.map eI))), Pt 102 0, .b (.one (.sl 3 (x_5.L.map eShare))), I r_14, .b (.one (.sl 1 (x_15.map eI))), .b (.one (.sl 1 (home0.map eI))), Pt 102 0, .b (.one (.sl 3 (x_5.L.map eShare))), I r_14, .b (.one (.sl 1 (x_16.map eI))), B x_17, B (!x_17)] [0, 1, 13, 17, 105] [102] (s' := ⟨[(0, _), (1, _), (13, _), (17, _), (105, B (!x_17))], [(102, _)]⟩) rfl ⟨fun _ => .p om, fun _ => .p (op_field_p tyFld75_0 rfl rfl), fun _ => .p (op_load_p1 tyOne71 rfl rfl rfl), fun _ => .p om, fun _ => .p (op_call0 (owner_Known_spec 0 e33).persG goes38 rfl rfl), fun _ => .p om, fun _ => .p (op_field_p tyFld75_0 rfl rfl), fun _ => .p (op_load_p1 tyOne71 rfl rfl rfl), fun _ => .p om, fun _ => .p (op_call0 (skewbackref44_Known_spec 0 e34).persG goes39 rfl rfl), fun _ => .p (op_call0 (skewbackref35_Same_spec e35) goes19 rfl rfl), fun _ => .p (op_not rfl), trivial⟩ rfl rfl (Tri.ite h31 rfl (fun _ h31 => ?_) (fun _ h31 => ?_))
       ·refine Tri.seq (Tri.regionL ?_)
        refine Oc oa (OpsL.nilS ⟨[(10, B false)], []⟩ rfl (Tri.ret (Fin.block_ret (Fin.then_ret ?_))))
        obtain rfl := hy32 _ (Option.some.inj h31).symm
        refine Fin.then_ret (Fin.block_ret (Fin.then_ret ?_))
        obtain rfl := Option.some.inj h
        refine Fin.keepS ⟨[(10, _)], []⟩ rfl (Fin.result' [.one (.bool false)] (.inl rfl) rfl (.cons (.tmp rfl) .nil) ⟨rfl, rfl⟩)
       ·refine Tri.skip (Fin.block_normal (Fin.keepS ⟨[(0, _), (1, _), (13, _), (17, _)], [(102, _)]⟩ rfl (Fin.then (Tri.regionL ?_))))
        refine Oc om (Oc (op_add rfl rfl) (Oc oa ?_))
        refine OpsL.nil ?_
        exact Fin.againJ [0, 1, 13, 17] [102] (IntKind.i64.wrap (r_14 + 1)) (Option.some.inj h31) rfl
      ·refine Tri.exit (Fin.then_exit ?_)
       obtain rfl := hy32 _ (Option.some.inj h31).symm
       refine Fin.then_exit (Fin.block_exit ?_)
       exact Fin.join [] [] () rfl rfl
     ·rintro _ hv
      subst v28
      refine Tri.seq (Tri.regionL ?_)
      obtain ⟨x_18, e36, h⟩ := bnd h
      refine Oc (op_call0 (skewbacklaw44_sanity_spec e36) goes10 rfl rfl) (Oc oa ?_)
      refine OpsL.nilS ⟨[(10, B x_18)], []⟩ rfl (Tri.ret ?_)
      obtain rfl := Option.some.inj h
      refine Fin.keepS ⟨[(10, _)], []⟩ rfl (Fin.result' [.one (.bool x_18)] (.inl rfl) rfl (.cons (.tmp rfl) .nil) ⟨rfl, rfl⟩)
end Go.Proofs.Ytnpddoaeoefcnaa

