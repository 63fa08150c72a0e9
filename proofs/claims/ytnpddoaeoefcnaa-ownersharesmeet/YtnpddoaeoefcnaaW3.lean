/- printed walks -/
import Derived.Test.YtnpddoaeoefcnaaW2
namespace Go.Proofs.Ytnpddoaeoefcnaa
open Go.Sk Go
set_option maxHeartbeats 4000000
set_option maxRecDepth 4000
set_option linter.unusedSimpArgs false
set_option linter.unusedVariables false
def owner_Shares_S (F : Nat) (borders0 : List Int) (home0 : List Int) (boxes0 : List Box) : Option ((List Share) × Int) :=
 Option.bind (iter F (fun x_1 => if (decide (x_1 < (borders0.length : Int))) = true then ((gcall (decide (0 < x_1)) (idx? borders0 x_1)).bind fun x_2 => (gcall (decide (0 < x_1)) (idx? borders0 (IntKind.i64.wrap (x_1 - 1)))).bind fun x_3 => if ((decide (0 < x_1)) && (decide (x_2 ≤ x_3))) = true then (some (.inr (.inr ([], 1)))) else (some (.inl (IntKind.i64.wrap (x_1 + 1))))) else (some (.inr (.inl ())))) 0) (alt2 (fun _ => letN (IntKind.i64.wrap ((borders0.length : Int) + 1)) fun x_4 => (owner_isHome_S F home0 x_4).bind fun x_5 => letN ((!x_5) || (decide ((boxes0.length : Int) ≠ (home0.length : Int)))) fun x_6 => if x_6 = true then (some ([], 1)) else (Option.bind (iter F (un2 fun out_8 x_9 => if (decide (x_9 < (home0.length : Int))) = true then (Option.bind ((idx? home0 x_9).bind fun x_12 => if (decide (x_12 < 0)) = true then (some (.inl out_8)) else ((idx? boxes0 x_9).bind fun x_13 => (broad_Valid_S F x_13).bind fun x_14 => if (!x_14) = true then (some (.inr ([], 1))) else ((idx? boxes0 x_9).bind fun x_15 => (idx? boxes0 x_9).bind fun x_16 => Option.bind (owner_Reach_S F borders0 x_15.Lo.a0 x_16.Hi.a0) (un2 fun x_17 x_18 => Option.bind (iter F (un2 fun out_19 r_20 => if (decide (r_20 ≤ x_18)) = true then (Option.bind (if (decide (r_20 ≠ x_12)) = true then ((app? out_19 [(⟨x_9, x_12, r_20⟩ : Share)]).bind fun x_23 => some x_23) else (some out_19)) (fun out_22 => some (.inl (out_22, IntKind.i64.wrap (r_20 + 1))))) else (some (.inr out_19))) (out_8, x_17)) (fun out_21 => some (.inl out_21)))))) (alt2 (fun out_11 => some (.inl (out_11, IntKind.i64.wrap (x_9 + 1)))) (fun y => some (.inr (.inr y))))) else (some (.inr (.inl out_8)))) ([], 0)) (alt2 (fun out_7 => some (out_7, 0)) (fun y => some y)))) (fun y => some y))
theorem owner_Shares_spec (kr0 : Nat) {F : Nat} {borders0 : List Int} {home0 : List Int} {boxes0 : List Box} {r : (List Share) × Int} (h : owner_Shares_S F borders0 home0 boxes0 = some r) : Meets Try.prog [] 33 [] [.one (.sl 1 (borders0.map eI)), .one (.sl 1 (home0.map eI)), .one (.sl 6 (boxes0.map eBox))] (Is [(kr0, .row 83 3 (r.1.map eShare))] (.tup [.row kr0, .one (.i r.2)])) := by
 unfold owner_Shares_S at h
 refine Meets.intro 98 Try.func33 Try.ntmps33 rfl (by simp) fun E => ?_
 show Tri _ E ⟨98, [], [], []⟩ _ ⟨[(0, .b (.one (.sl 1 (borders0.map eI)))), (1, .b (.one (.sl 1 (home0.map eI)))), (2, .b (.one (.sl 6 (boxes0.map eBox))))], []⟩ _
 refine Tri.seq (Tri.regionL ?_)
 refine Oc oa (Oc oa ?_)
 refine OpsL.nilS ⟨[(0, .b (.one (.sl 1 (borders0.map eI)))), (1, .b (.one (.sl 1 (home0.map eI)))), (2, .b (.one (.sl 6 (boxes0.map eBox))))], []⟩ rfl ?_
 obtain ⟨v1, h2, h⟩ := bnd h
 refine Tri.seqJ (v := v1) (fun (_ : Unit) => ⟨[(0, .b (.one (.sl 1 (borders0.map eI)))), (1, .b (.one (.sl 1 (home0.map eI)))), (2, .b (.one (.sl 6 (boxes0.map eBox))))], []⟩) (fun z => .inl z) ?_ ?_
 ·refine Tri.seq (Tri.regionL ?_)
  refine Oc om (Oc (op_len_e' und22 rfl (List.length_map _)) (Oc om ?_))
  refine OpsL.nilS ⟨[(0, _), (1, _), (2, _), (16, I (borders0.length : Int)), (17, I 0)], []⟩ rfl (Tri.block (Tri.loopJ h2 (fun (x_1 : Int) => ⟨[(0, .b (.one (.sl 1 (borders0.map eI)))), (1, .b (.one (.sl 1 (home0.map eI)))), (2, .b (.one (.sl 6 (boxes0.map eBox)))), (16, I (borders0.length : Int)), (17, I x_1)], []⟩) [0, 1, 2, 16, 17] [] rfl ?_))
  rintro x_1 o3 h4 hy5
  refine Tri.seq (Tri.regionL ?_)
  refine Oc (op_lss rfl rfl) (OpsL.nilS ⟨[(0, _), (1, _), (2, _), (16, _), (17, _), (18, B (decide (x_1 < (borders0.length : Int))))], []⟩ rfl (Tri.seq (Tri.ite h4 rfl (fun _ h4 => ?_) (fun _ h4 => ?_))))
  ·refine Tri.skip (Fin.keepS ⟨[(0, _), (1, _), (2, _), (16, _), (17, _)], []⟩ rfl (Fin.then (Tri.seq (Tri.block (Tri.seq (Tri.regionL ?_))))))
   refine Oc om (Oc oa ?_)
   refine OpsL.nilS ⟨[(0, _), (1, _), (2, _), (8, I x_1), (16, _), (17, _)], []⟩ rfl (Tri.seq ?_)
   obtain ⟨x_2, e9, h4⟩ := bnd h4
   obtain ⟨x_3, e15, h4⟩ := bnd h4
   refine Tri.regionY mixed 14 [I x_1, B (decide (0 < x_1)), B (decide (0 < x_1)), .opt (decide (0 < x_1)) (.one (.sl 1 (borders0.map eI))), .opt (decide (0 < x_1)) (.one (.i x_1)), .opt (decide (0 < x_1)) (.eptr [.i x_2]), .opt (decide (0 < x_1)) (.one (.i x_2)), .opt (decide (0 < x_1)) (.one (.sl 1 (borders0.map eI))), .opt (decide (0 < x_1)) (.one (.i x_1)), .opt (decide (0 < x_1)) (.one (.i (IntKind.i64.wrap (x_1 - 1)))), .opt (decide (0 < x_1)) (.eptr [.i x_3]), .opt (decide (0 < x_1)) (.one (.i x_3)), .opt (decide (0 < x_1)) (.one (.bool (decide (x_2 ≤ x_3)))), B ((decide (0 < x_1)) && (decide (x_2 ≤ x_3)))] [0, 1, 2, 16, 17, 33] [] (s' := ⟨[(0, _), (1, _), (2, _), (16, _), (17, _), (33, B ((decide (0 < x_1)) && (decide (x_2 ≤ x_3))))], []⟩) rfl ⟨fun _ => .p om, fun _ => .p (op_gtr rfl rfl), fun _ => .p om, fun _ => by exact .guard (decide (0 < x_1)) 1 [] (.plain rfl) (eq_t _) rfl rfl (fun g6 => trivial) (fun g6 => om), fun _ => by exact .guard (decide (0 < x_1)) 1 [] (.plain rfl) (eq_t _) rfl rfl (fun g7 => trivial) (fun g7 => om), fun _ => by exact .guard (decide (0 < x_1)) 3 [23, 24] (.plain rfl) (eq_t _) rfl rfl (fun g8 => ⟨g8, g8, trivial⟩) (fun g8 => op_index_e tySl22 (ix_lo (gc e9 g8)) (ix_map (e := eI) (gc e9 g8)) rfl rfl), fun _ => by exact .guard (decide (0 < x_1)) 2 [25] (.plain rfl) (eq_t _) rfl rfl (fun g10 => ⟨g10, trivial⟩) (fun g10 => op_load_e1 tyOne3 rfl rfl), fun _ => by exact .guard (decide (0 < x_1)) 1 [] (.plain rfl) (eq_t _) rfl rfl (fun g11 => trivial) (fun g11 => om), fun _ => by exact .guard (decide (0 < x_1)) 1 [] (.plain rfl) (eq_t _) rfl rfl (fun g12 => trivial) (fun g12 => om), fun _ => by exact .guard (decide (0 < x_1)) 2 [28] (.plain rfl) (eq_t _) rfl rfl (fun g13 => ⟨g13, trivial⟩) (fun g13 => op_sub rfl rfl), fun _ => by exact .guard (decide (0 < x_1)) 3 [27, 29] (.plain rfl) (eq_t _) rfl rfl (fun g14 => ⟨g14, g14, trivial⟩) (fun g14 => op_index_e tySl22 (ix_lo (gc e15 g14)) (ix_map (e := eI) (gc e15 g14)) rfl rfl), fun _ => by exact .guard (decide (0 < x_1)) 2 [30] (.plain rfl) (eq_t _) rfl rfl (fun g16 => ⟨g16, trivial⟩) (fun g16 => op_load_e1 tyOne3 rfl rfl), fun _ => by exact .guard (decide (0 < x_1)) 3 [26, 31] (.plain rfl) (eq_t _) rfl rfl (fun g17 => ⟨g17, g17, trivial⟩) (fun g17 => op_leq rfl rfl), fun _ => .p (op_pick_and (fun e => e) rfl rfl rfl rfl), trivial⟩ rfl rfl (Tri.ite h4 rfl (fun _ h4 => ?_) (fun _ h4 => ?_))
   ·refine Tri.seq (Tri.regionL ?_)
    refine Oc oa (Oc oa ?_)
    refine OpsL.nilS ⟨[(6, .b (.one (.nil))), (7, I 1)], []⟩ rfl (Tri.ret (Fin.block_ret (Fin.then_ret ?_)))
    obtain rfl := hy5 _ (Option.some.inj h4).symm
    refine Fin.then_ret (Fin.block_ret (Fin.then_ret ?_))
    obtain rfl := Option.some.inj h
    refine Fin.keepS ⟨[(6, _), (7, _)], []⟩ rfl (Fin.nilrow 6 101 3 83 rfl (by decide) rfl (Fin.resultK 101 kr0 [.row 101, .one (.i 1)] (.inl rfl) rfl (.cons (.tmp rfl) (.cons (.tmp rfl) .nil)) rfl rfl rfl rfl ⟨rfl, rfl⟩))
   ·refine Tri.skip (Fin.block_normal (Fin.keepS ⟨[(0, _), (1, _), (2, _), (16, _), (17, _)], []⟩ rfl (Fin.then (Tri.regionL ?_))))
    refine Oc (op_add rfl rfl) (Oc om ?_)
    refine OpsL.nil ?_
    exact Fin.againJ [0, 1, 2, 16, 17] [] (IntKind.i64.wrap (x_1 + 1)) (Option.some.inj h4) rfl
  ·refine Tri.exit (Fin.then_exit ?_)
   obtain rfl := hy5 _ (Option.some.inj h4).symm
   refine Fin.then_exit (Fin.block_exit ?_)
   exact Fin.join [0, 1, 2] [] () rfl rfl
 ·rintro _ hv
  subst v1
  refine Tri.seq (Tri.seq (Tri.regionL ?_))
  refine Oc om (Oc om (Oc (op_len_e' und22 rfl (List.length_map _)) ?_))
  refine OpsL.consI .i64 h rfl (op_add rfl rfl) (fun x_4 h => ?_)
  refine OpsL.keepS ⟨[(0, _), (1, _), (2, _), (35, .b (.one (.sl 1 (home0.map eI)))), (38, I x_4)], []⟩ rfl ?_
  obtain ⟨x_5, e18, h⟩ := bnd h
  refine Oc (op_call0 (owner_isHome_spec e18) goes41 rfl rfl) (Oc (op_not rfl) (Oc om ?_))
  refine CgF (!(!x_5)) [] (fun g19 => trivial) (fun g19 => om) (CgF (!(!x_5)) [42] (fun g20 => by exact ⟨g20, trivial⟩) (fun g20 => op_len_e' und70 rfl (List.length_map _)) (CgF (!(!x_5)) [] (fun g21 => by exact trivial) (fun g21 => om) (OpsL.keepS ⟨[(0, _), (1, _), (2, _), (41, B (!x_5)), (43, .opt (!(!x_5)) (.one (.i (boxes0.length : Int)))), (44, .opt (!(!x_5)) (.one (.sl 1 (home0.map eI))))], []⟩ rfl (CgF (!(!x_5)) [44] (fun g22 => by exact ⟨g22, trivial⟩) (fun g22 => op_len_e' und22 rfl (List.length_map _)) (CgF (!(!x_5)) [43, 45] (fun g23 => by exact ⟨g23, g23, trivial⟩) (fun g23 => op_neq rfl rfl) ?_)))))
  refine OpsL.consB h rfl (op_pick_or (fun e => by first | (rw [e]; rfl) | (simp only at e; rw [e]; rfl)) rfl rfl rfl rfl) (fun x_6 h => ?_)
  refine OpsL.nilS ⟨[(0, _), (1, _), (2, _), (47, B x_6)], []⟩ rfl (Tri.ite h rfl (fun _ h => ?_) (fun _ h => ?_))
  ·refine Tri.seq (Tri.regionL ?_)
   refine Oc oa (Oc oa ?_)
   refine OpsL.nilS ⟨[(6, .b (.one (.nil))), (7, I 1)], []⟩ rfl (Tri.ret (Fin.then_ret ?_))
   obtain rfl := Option.some.inj h
   refine Fin.keepS ⟨[(6, _), (7, _)], []⟩ rfl (Fin.nilrow 6 101 3 83 rfl (by decide) rfl (Fin.resultK 101 kr0 [.row 101, .one (.i 1)] (.inl rfl) rfl (.cons (.tmp rfl) (.cons (.tmp rfl) .nil)) rfl rfl rfl rfl ⟨rfl, rfl⟩))
  ·refine Tri.skip (Fin.keepS ⟨[(0, _), (1, _), (2, _)], []⟩ rfl (Fin.then (Tri.seq (Tri.regionL ?_))))
   refine Oc oa (OpsL.nilS ⟨[(0, _), (1, _), (2, _), (9, .b (.one (.nil)))], []⟩ rfl ?_)
   obtain ⟨v24, h25, h⟩ := bnd h
   refine Tri.seqJ (v := v24) (fun (out_7 : List Share) => ⟨[(9, .b (.row 103))], [(103, .row 83 3 (out_7.map eShare))]⟩) (fun z => .inl z) ?_ ?_
   ·refine Tri.seq (Tri.regionL ?_)
    refine Oc om (Oc (op_len_e' und22 rfl (List.length_map _)) (Oc om ?_))
    refine OpsL.nilS ⟨[(0, _), (2, _), (9, _), (48, .b (.one (.sl 1 (home0.map eI)))), (49, I (home0.length : Int)), (50, I 0)], []⟩ rfl (Tri.block (Tri.nilrow 9 103 3 83 rfl (by decide) rfl (Tri.loopJ h25 (un2 fun (out_8 : List Share) (x_9 : Int) => ⟨[(0, .b (.one (.sl 1 (borders0.map eI)))), (2, .b (.one (.sl 6 (boxes0.map eBox)))), (9, .b (.row 103)), (48, .b (.one (.sl 1 (home0.map eI)))), (49, I (home0.length : Int)), (50, I x_9)], [(103, .row 83 3 (out_8.map eShare))]⟩) [0, 2, 9, 48, 49, 50] [103] rfl ?_)))
    rintro ⟨out_8, x_9⟩ o26 h27 hy28
    refine Tri.seq (Tri.regionL ?_)
    refine Oc (op_lss rfl rfl) (OpsL.nilS ⟨[(0, _), (2, _), (9, _), (48, _), (49, _), (50, _), (51, B (decide (x_9 < (home0.length : Int))))], [(103, _)]⟩ rfl (Tri.seq (Tri.ite h27 rfl (fun _ h27 => ?_) (fun _ h27 => ?_))))
    ·refine Tri.skip (Fin.keepS ⟨[(0, _), (2, _), (9, _), (48, _), (49, _), (50, _)], [(103, _)]⟩ rfl (Fin.then ?_))
     obtain ⟨v29, h30, h27⟩ := bnd h27
     refine Tri.seqJ (v := v29) (fun (out_11 : List Share) => ⟨[(0, .b (.one (.sl 1 (borders0.map eI)))), (2, .b (.one (.sl 6 (boxes0.map eBox)))), (9, .b (.row 103)), (48, .b (.one (.sl 1 (home0.map eI)))), (49, I (home0.length : Int)), (50, I x_9)], [(103, .row 83 3 (out_11.map eShare))]⟩) (fun z => .inl z) ?_ ?_
     ·refine Tri.block (Tri.seq (Tri.regionL ?_))
      refine Oc om ?_
      obtain ⟨x_12, e31, h30⟩ := bnd h30
      refine Oc (op_index_e tySl22 (ix_lo e31) (ix_map (e := eI) e31) rfl rfl) (Oc (op_load_e1 tyOne3 rfl rfl) (Oc oa (Oc oa ?_)))
      refine OpsL.nilS ⟨[(0, _), (2, _), (9, _), (10, I x_9), (11, I x_12), (48, _), (49, _), (50, _)], [(103, _)]⟩ rfl (Tri.seq (Tri.seq (Tri.regionL ?_)))
      refine Oc om (Oc (op_lss rfl rfl) ?_)
      refine OpsL.nilS ⟨[(0, _), (2, _), (9, _), (10, _), (11, _), (48, _), (49, _), (50, _), (56, B (decide (x_12 < 0)))], [(103, _)]⟩ rfl (Tri.ite h30 rfl (fun _ h30 => ?_) (fun _ h30 => ?_))
      ·refine Tri.exit (Fin.then_exit (Fin.block_exit ?_))
       exact Fin.join [0, 2, 9, 48, 49, 50] [103] out_8 (Option.some.inj h30) rfl
      ·refine Tri.skip (Fin.keepS ⟨[(0, _), (2, _), (9, _), (10, _), (11, _), (48, _), (49, _), (50, _)], [(103, _)]⟩ rfl (Fin.then (Tri.seq (Tri.seq (Tri.regionL ?_)))))
       refine Oc om (Oc om ?_)
       obtain ⟨x_13, e32, h30⟩ := bnd h30
       refine Oc (op_index_e tySl70 (ix_lo e32) (ix_map (e := eBox) e32) rfl rfl) (Oc (op_load_e tyAgg89 rfl rfl rfl) ?_)
       obtain ⟨x_14, e33, h30⟩ := bnd h30
       refine Oc (op_call0 (broad_Valid_spec e33) goes73 rfl rfl) (Oc (op_not rfl) ?_)
       refine OpsL.nilS ⟨[(0, _), (2, _), (9, _), (10, _), (11, _), (48, _), (49, _), (50, _), (62, B (!x_14))], [(103, _)]⟩ rfl (Tri.ite h30 rfl (fun _ h30 => ?_) (fun _ h30 => ?_))
       ·refine Tri.seq (Tri.regionL ?_)
        refine Oc oa (Oc oa ?_)
        refine OpsL.nilS ⟨[(6, .b (.one (.nil))), (7, I 1)], []⟩ rfl (Tri.ret (Fin.then_ret (Fin.block_ret ?_)))
        obtain rfl := Option.some.inj h30
        refine Fin.then_ret ?_
        obtain rfl := hy28 _ (Option.some.inj h27).symm
        refine Fin.then_ret (Fin.block_ret (Fin.then_ret ?_))
        obtain rfl := Option.some.inj h
        refine Fin.keepS ⟨[(6, _), (7, _)], []⟩ rfl (Fin.nilrow 6 104 3 83 rfl (by decide) rfl (Fin.resultK 104 kr0 [.row 104, .one (.i 1)] (.inl rfl) rfl (.cons (.tmp rfl) (.cons (.tmp rfl) .nil)) rfl rfl rfl rfl ⟨rfl, rfl⟩))
       ·refine Tri.skip (Fin.keepS ⟨[(0, _), (2, _), (9, _), (10, _), (11, _), (48, _), (49, _), (50, _)], [(103, _)]⟩ rfl (Fin.then (Tri.seq ?_)))
        refine Tri.keepS ⟨[(0, _), (2, _), (9, _), (10, _), (11, _), (48, _), (49, _), (50, _)], [(103, _)]⟩ rfl ?_
        obtain ⟨x_15, e34, h30⟩ := bnd h30
        obtain ⟨x_16, e35, h30⟩ := bnd h30
        obtain ⟨⟨x_17, x_18⟩, e36, h30⟩ := bnd h30
        refine Tri.regionY mixed 19 [.b (.one (.sl 1 (borders0.map eI))), .b (.one (.sl 6 (boxes0.map eBox))), I x_9, .b (.eptr (eBox x_15)), .b (.eptr (eBox x_15)), .b (.eptr [.i x_15.Lo.a0]), I x_15.Lo.a0, .b (.one (.sl 6 (boxes0.map eBox))), I x_9, .b (.eptr (eBox x_16)), .b (.eptr ((eA3 .i64) x_16.Hi)), .b (.eptr [.i x_16.Hi.a0]), I x_16.Hi.a0, .tup [.one (.i x_17), .one (.i x_18)], .tup [.one (.i x_17), .one (.i x_18)], I x_17, I x_18, I x_17, I x_18] [0, 2, 9, 10, 11, 12, 13, 48, 49, 50] [103] (s' := ⟨[(0, _), (2, _), (9, _), (10, _), (11, _), (12, I x_17), (13, I x_18), (48, _), (49, _), (50, _)], [(103, _)]⟩) rfl ⟨fun _ => .p om, fun _ => .p om, fun _ => .p om, fun _ => .p (op_index_e tySl70 (ix_lo e34) (ix_map (e := eBox) e34) rfl rfl), fun _ => by exact .p (op_field_e tyFld89_0 rfl rfl), fun _ => .p (op_index_ea tyArr87 (by decide) (by decide) rfl rfl rfl), fun _ => .p (op_load_e1 tyOne3 rfl rfl), fun _ => .p om, fun _ => .p om, fun _ => .p (op_index_e tySl70 (ix_lo e35) (ix_map (e := eBox) e35) rfl rfl), fun _ => by exact .p (op_field_e tyFld89_1 rfl rfl), fun _ => .p (op_index_ea tyArr87 (by decide) (by decide) rfl rfl rfl), fun _ => .p (op_load_e1 tyOne3 rfl rfl), fun _ => .p (op_call0 (owner_Reach_spec e36) goes36 rfl rfl), fun _ => .p om, fun _ => .p (op_extract rfl rfl), fun _ => .p (op_extract rfl rfl), fun _ => .p oa, fun _ => .p oa, trivial⟩ rfl rfl (Tri.seq (Tri.regionL ?_))
        refine Oc om (Oc oa ?_)
        refine OpsL.nilS ⟨[(0, _), (2, _), (9, _), (10, _), (11, _), (13, _), (14, I x_17), (48, _), (49, _), (50, _)], [(103, _)]⟩ rfl (Tri.block ?_)
        obtain ⟨v37, h38, h30⟩ := bnd h30
        refine Tri.loopJ h38 (un2 fun (out_19 : List Share) (r_20 : Int) => ⟨[(0, .b (.one (.sl 1 (borders0.map eI)))), (2, .b (.one (.sl 6 (boxes0.map eBox)))), (9, .b (.row 103)), (10, I x_9), (11, I x_12), (13, I x_18), (14, I r_20), (48, .b (.one (.sl 1 (home0.map eI)))), (49, I (home0.length : Int)), (50, I x_9)], [(103, .row 83 3 (out_19.map eShare))]⟩) [0, 2, 9, 10, 11, 13, 14, 48, 49, 50] [103] rfl ?_
        rintro ⟨out_19, r_20⟩ o39 h40 hy41
        refine Tri.seq (Tri.seq (Tri.regionL ?_))
        refine Oc om (Oc om (Oc (op_leq rfl rfl) ?_))
        refine OpsL.nilS ⟨[(0, _), (2, _), (9, _), (10, _), (11, _), (13, _), (14, _), (48, _), (49, _), (50, _), (83, B (decide (r_20 ≤ x_18)))], [(103, _)]⟩ rfl (Tri.ite h40 rfl (fun _ h40 => ?_) (fun _ h40 => ?_))
        ·refine Tri.skip (Fin.keepS ⟨[(0, _), (2, _), (9, _), (10, _), (11, _), (13, _), (14, _), (48, _), (49, _), (50, _)], [(103, _)]⟩ rfl (Fin.then ?_))
         obtain ⟨v42, h43, h40⟩ := bnd h40
         refine Tri.seqJ (v := v42) (fun (out_22 : List Share) => ⟨[(0, .b (.one (.sl 1 (borders0.map eI)))), (2, .b (.one (.sl 6 (boxes0.map eBox)))), (9, .b (.row 103)), (10, I x_9), (11, I x_12), (13, I x_18), (14, I r_20), (48, .b (.one (.sl 1 (home0.map eI)))), (49, I (home0.length : Int)), (50, I x_9)], [(103, .row 83 3 (out_22.map eShare))]⟩) (fun z => z) ?_ ?_
         ·refine Tri.block (Tri.seq (Tri.regionL ?_))
          refine Oc om (Oc om (Oc (op_neq rfl rfl) ?_))
          refine OpsL.nilS ⟨[(0, _), (2, _), (9, _), (10, _), (11, _), (13, _), (14, _), (48, _), (49, _), (50, _), (88, B (decide (r_20 ≠ x_12)))], [(103, _)]⟩ rfl (Tri.ite h43 rfl (fun _ h43 => ?_) (fun _ h43 => ?_))
          ·refine Tri.regionL (Oc om (Oc om (Oc om (Oc om (Oc (op_build tyBuild83 rfl rfl) (Oc (op_buildSlice (k := 104) (es := [(⟨x_9, x_12, r_20⟩ : Share)].map eShare) tySl71 rfl rfl (uni_map fun _ => rfl) rfl (by decide) (by decide) rfl) ?_))))))
           obtain ⟨x_23, e44, h43⟩ := bnd h43
           refine Oc (op_append_r tySl71 (app_b e44) (app_m e44) rfl rfl rfl rfl (app_map e44) rfl) (Oc oa ?_)
           refine OpsL.nil (Fin.block_normal ?_)
           exact Fin.join [0, 2, 9, 10, 11, 13, 14, 48, 49, 50] [103] x_23 (Option.some.inj h43) rfl
          ·refine Tri.skip (Fin.block_normal ?_)
           exact Fin.join [0, 2, 9, 10, 11, 13, 14, 48, 49, 50] [103] out_19 (Option.some.inj h43) rfl
         ·rintro out_22 hv
          subst v42
          refine Tri.regionL (Oc om (Oc (op_add rfl rfl) (Oc oa ?_)))
          refine OpsL.nil ?_
          exact Fin.againJ [0, 2, 9, 10, 11, 13, 14, 48, 49, 50] [103] (out_22, IntKind.i64.wrap (r_20 + 1)) (Option.some.inj h40) rfl
        ·refine Tri.exit (Fin.then_exit ?_)
         obtain rfl := hy41 _ (Option.some.inj h40).symm
         refine Fin.then_exit (Fin.block_exit (Fin.block_normal ?_))
         exact Fin.join [0, 2, 9, 48, 49, 50] [103] out_19 (Option.some.inj h30) rfl
     ·rintro out_11 hv
      subst v29
      refine Tri.regionL (Oc (op_add rfl rfl) (Oc om ?_))
      refine OpsL.nil ?_
      exact Fin.againJ [0, 2, 9, 48, 49, 50] [103] (out_11, IntKind.i64.wrap (x_9 + 1)) (Option.some.inj h27) rfl
    ·refine Tri.exit (Fin.then_exit ?_)
     obtain rfl := hy28 _ (Option.some.inj h27).symm
     refine Fin.then_exit (Fin.block_exit ?_)
     exact Fin.join [9] [103] out_8 rfl rfl
   ·rintro out_7 hv
    subst v24
    refine Tri.seq (Tri.regionL ?_)
    refine Oc om (Oc oa (Oc oa ?_))
    refine OpsL.nilS ⟨[(6, .b (.row 103)), (7, I 0)], [(103, _)]⟩ rfl (Tri.ret ?_)
    obtain rfl := Option.some.inj h
    refine Fin.keepS ⟨[(6, _), (7, _)], [(103, _)]⟩ rfl (Fin.resultK 103 kr0 [.row 103, .one (.i 0)] (.inl rfl) rfl (.cons (.tmp rfl) (.cons (.tmp rfl) .nil)) rfl rfl rfl rfl ⟨rfl, rfl⟩)
def skewbackref44_Ascending_S (F : Nat) (borders0 : List Int) : Option Bool :=
 Option.bind (iter F (fun i_1 => if (decide (i_1 < (borders0.length : Int))) = true then ((idx? borders0 i_1).bind fun x_2 => (idx? borders0 (IntKind.i64.wrap (i_1 - 1))).bind fun x_3 => if (decide (x_2 ≤ x_3)) = true then (some (.inr (.inr false))) else (some (.inl (IntKind.i64.wrap (i_1 + 1))))) else (some (.inr (.inl ())))) 1) (alt2 (fun _ => some true) (fun y => some y))
theorem skewbackref44_Ascending_spec {F : Nat} {borders0 : List Int} {r : Bool} (h : skewbackref44_Ascending_S F borders0 = some r) : Meets Try.prog [] 35 [] [.one (.sl 1 (borders0.map eI))] (Is [] (.b (.one (.bool r)))) := by
 unfold skewbackref44_Ascending_S at h
 refine Meets.intro 20 Try.func35 Try.ntmps35 rfl (by simp) fun E => ?_
 show Tri _ E ⟨20, [], [], []⟩ _ ⟨[(0, .b (.one (.sl 1 (borders0.map eI))))], []⟩ _
 refine Tri.seq (Tri.regionL ?_)
 refine Oc oa (OpsL.nilS ⟨[(0, .b (.one (.sl 1 (borders0.map eI))))], []⟩ rfl ?_)
 obtain ⟨v1, h2, h⟩ := bnd h
 refine Tri.seqJ (v := v1) (fun (_ : Unit) => ⟨[], []⟩) (fun z => .inl z) ?_ ?_
 ·refine Tri.seq (Tri.regionL ?_)
  refine Oc oa (OpsL.nilS ⟨[(0, _), (3, I 1)], []⟩ rfl (Tri.block (Tri.loopJ h2 (fun (i_1 : Int) => ⟨[(0, .b (.one (.sl 1 (borders0.map eI)))), (3, I i_1)], []⟩) [0, 3] [] rfl ?_)))
  rintro i_1 o3 h4 hy5
  refine Tri.seq (Tri.seq (Tri.regionL ?_))
  refine Oc om (Oc om (Oc (op_len_e' und22 rfl (List.length_map _)) (Oc (op_lss rfl rfl) ?_)))
  refine OpsL.nilS ⟨[(0, _), (3, _), (7, B (decide (i_1 < (borders0.length : Int))))], []⟩ rfl (Tri.ite h4 rfl (fun _ h4 => ?_) (fun _ h4 => ?_))
  ·refine Tri.skip (Fin.keepS ⟨[(0, _), (3, _)], []⟩ rfl (Fin.then (Tri.seq (Tri.block (Tri.seq ?_)))))
   refine Tri.keepS ⟨[(0, _), (3, _)], []⟩ rfl ?_
   obtain ⟨x_2, e6, h4⟩ := bnd h4
   obtain ⟨x_3, e7, h4⟩ := bnd h4
   refine Tri.regionY mixed 10 [.b (.one (.sl 1 (borders0.map eI))), I i_1, .b (.eptr [.i x_2]), I x_2, .b (.one (.sl 1 (borders0.map eI))), I i_1, I (IntKind.i64.wrap (i_1 - 1)), .b (.eptr [.i x_3]), I x_3, B (decide (x_2 ≤ x_3))] [0, 3, 19] [] (s' := ⟨[(0, _), (3, _), (19, B (decide (x_2 ≤ x_3)))], []⟩) rfl ⟨fun _ => .p om, fun _ => .p om, fun _ => .p (op_index_e tySl22 (ix_lo e6) (ix_map (e := eI) e6) rfl rfl), fun _ => .p (op_load_e1 tyOne3 rfl rfl), fun _ => .p om, fun _ => .p om, fun _ => .p (op_sub rfl rfl), fun _ => .p (op_index_e tySl22 (ix_lo e7) (ix_map (e := eI) e7) rfl rfl), fun _ => .p (op_load_e1 tyOne3 rfl rfl), fun _ => .p (op_leq rfl rfl), trivial⟩ rfl rfl (Tri.ite h4 rfl (fun _ h4 => ?_) (fun _ h4 => ?_))
   ·refine Tri.seq (Tri.regionL ?_)
    refine Oc oa (OpsL.nilS ⟨[(2, B false)], []⟩ rfl (Tri.ret (Fin.block_ret (Fin.then_ret ?_))))
    obtain rfl := hy5 _ (Option.some.inj h4).symm
    refine Fin.then_ret (Fin.block_ret (Fin.then_ret ?_))
    obtain rfl := Option.some.inj h
    refine Fin.keepS ⟨[(2, _)], []⟩ rfl (Fin.result' [.one (.bool false)] (.inl rfl) rfl (.cons (.tmp rfl) .nil) ⟨rfl, rfl⟩)
   ·refine Tri.skip (Fin.block_normal (Fin.keepS ⟨[(0, _), (3, _)], []⟩ rfl (Fin.then (Tri.regionL ?_))))
    refine Oc om (Oc (op_add rfl rfl) (Oc oa ?_))
    refine OpsL.nil ?_
    exact Fin.againJ [0, 3] [] (IntKind.i64.wrap (i_1 + 1)) (Option.some.inj h4) rfl
  ·refine Tri.exit (Fin.then_exit ?_)
   obtain rfl := hy5 _ (Option.some.inj h4).symm
   refine Fin.then_exit (Fin.block_exit ?_)
   exact Fin.join [] [] () rfl rfl
 ·rintro _ hv
  subst v1
  refine Tri.seq (Tri.regionL ?_)
  refine Oc oa (OpsL.nilS ⟨[(2, B true)], []⟩ rfl (Tri.ret ?_))
  obtain rfl := Option.some.inj h
  refine Fin.keepS ⟨[(2, _)], []⟩ rfl (Fin.result' [.one (.bool true)] (.inl rfl) rfl (.cons (.tmp rfl) .nil) ⟨rfl, rfl⟩)
def skewbackref17_Valid_S (F : Nat) (b0 : Box) : Option Bool :=
 Option.bind (iter F (fun i_1 => if (decide (i_1 < 3)) = true then ((idx? b0.Lo.l i_1).bind fun x_2 => (idx? b0.Hi.l i_1).bind fun x_3 => (gcall (!(decide (x_3 < x_2))) (idx? b0.Lo.l i_1)).bind fun x_4 => (gcall (!((decide (x_3 < x_2)) || (decide (x_4 < (-1125899906842624))))) (idx? b0.Hi.l i_1)).bind fun x_5 => if (((decide (x_3 < x_2)) || (decide (x_4 < (-1125899906842624)))) || (decide (1125899906842624 < x_5))) = true then (some (.inr (.inr false))) else (some (.inl (IntKind.i64.wrap (i_1 + 1))))) else (some (.inr (.inl ())))) 0) (alt2 (fun _ => some true) (fun y => some y))
def skewbackref44_region_S (F : Nat) (borders0 : List Int) (x0 : Int) : Option Int :=
 Option.bind (iter F (un2 fun n_2 i_3 => if (decide (i_3 < (borders0.length : Int))) = true then (Option.bind ((idx? borders0 i_3).bind fun x_6 => if (decide (x_6 ≤ x0)) = true then (some (IntKind.i64.wrap (n_2 + 1))) else (some n_2)) (fun n_5 => some (.inl (n_5, IntKind.i64.wrap (i_3 + 1))))) else (some (.inr n_2))) (0, 0)) (fun n_1 => some n_1)
def skewbackref44_Reach_S (F : Nat) (borders0 : List Int) (lo0 : Int) (hi0 : Int) : Option A2 :=
 (skewbackref44_region_S F borders0 lo0).bind fun x_1 => (skewbackref44_region_S F borders0 hi0).bind fun x_2 => some (⟨x_1, x_2⟩ : A2)
def skewbackref44_Shares_S (F : Nat) (borders0 : List Int) (home0 : List Int) (boxes0 : List Box) : Option Shared :=
 (skewbackref44_Ascending_S F borders0).bind fun x_1 => (gcall (!(!x_1)) (skewbackref44_Homely_S F home0 (IntKind.i64.wrap ((borders0.length : Int) + 1)))).bind fun x_2 => letN (((!x_1) || (!x_2)) || (decide ((boxes0.length : Int) ≠ (home0.length : Int)))) fun x_3 => if x_3 = true then (some (⟨[], 1⟩ : Shared)) else (Option.bind (iter F (un2 fun out_5 b_6 => if (decide (b_6 < (home0.length : Int))) = true then (Option.bind ((idx? home0 b_6).bind fun x_9 => if (decide (x_9 < 0)) = true then (some (.inl out_5)) else ((idx? boxes0 b_6).bind fun x_10 => (skewbackref17_Valid_S F x_10).bind fun x_11 => if (!x_11) = true then (some (.inr (⟨[], 1⟩ : Shared))) else ((idx? boxes0 b_6).bind fun x_12 => (idx? boxes0 b_6).bind fun x_13 => (skewbackref44_Reach_S F borders0 x_12.Lo.a0 x_13.Hi.a0).bind fun x_14 => Option.bind (iter F (un2 fun out_15 r_16 => if (decide (r_16 ≤ x_14.a1)) = true then (Option.bind ((idx? home0 b_6).bind fun x_19 => if (decide (r_16 ≠ x_19)) = true then ((idx? home0 b_6).bind fun x_20 => (app? out_15 [(⟨b_6, x_20, r_16⟩ : Share)]).bind fun x_21 => some x_21) else (some out_15)) (fun out_18 => some (.inl (out_18, IntKind.i64.wrap (r_16 + 1))))) else (some (.inr out_15))) (out_5, x_14.a0)) (fun out_17 => some (.inl out_17))))) (alt2 (fun out_8 => some (.inl (out_8, IntKind.i64.wrap (b_6 + 1)))) (fun y => some (.inr (.inr y))))) else (some (.inr (.inl out_5)))) ([], 0)) (alt2 (fun out_4 => some (⟨out_4, 0⟩ : Shared)) (fun y => some y)))
def owner_Known_S (F : Nat) (home0 : List Int) (shares0 : List Share) (region0 : Int) : Option (List Int) :=
 Option.bind (iter F (un2 fun told_2 x_3 => if (decide (x_3 < (shares0.length : Int))) = true then ((idx? shares0 x_3).bind fun x_5 => some (.inl (mset told_2 x_5.Body ((mGetB told_2 x_5.Body) || (decide (x_5.To = region0))), IntKind.i64.wrap (x_3 + 1)))) else (some (.inr told_2))) (([] : MapB), 0)) (fun told_1 => Option.bind (iter F (un2 fun out_7 x_8 => if (decide (x_8 < (home0.length : Int))) = true then (Option.bind ((idx? home0 x_8).bind fun x_11 => if ((decide (x_11 = region0)) || (mGetB told_1 x_8)) = true then ((app? out_7 [x_8]).bind fun x_12 => some x_12) else (some out_7)) (fun out_10 => some (.inl (out_10, IntKind.i64.wrap (x_8 + 1))))) else (some (.inr out_7))) ([], 0)) (fun out_6 => some out_6))
theorem owner_Known_spec (kr0 : Nat) {F : Nat} {home0 : List Int} {shares0 : List Share} {region0 : Int} {r : (List Int)} (h : owner_Known_S F home0 shares0 region0 = some r) : Meets Try.prog [] 38 [] [.one (.sl 1 (home0.map eI)), .one (.sl 3 (shares0.map eShare)), .one (.i region0)] (Is [(kr0, .row 3 1 (r.map eI))] (.b (.row kr0))) := by
 unfold owner_Known_S at h
 refine Meets.intro 55 Try.func38 Try.ntmps38 rfl (by simp) fun E => ?_
 show Tri _ E ⟨55, [], [], []⟩ _ ⟨[(0, .b (.one (.sl 1 (home0.map eI)))), (1, .b (.one (.sl 3 (shares0.map eShare)))), (2, I region0)], []⟩ _
 refine Tri.seq (Tri.regionL ?_)
 refine Oc oa (OpsL.nilS ⟨[(0, .b (.one (.sl 1 (home0.map eI)))), (1, .b (.one (.sl 3 (shares0.map eShare)))), (2, I region0)], []⟩ rfl (Tri.seq (Tri.regionL ?_)))
 refine Oc (op_makeMap (k := 101) undm127 rfl) (Oc oa ?_)
 refine OpsL.nilS ⟨[(0, _), (1, _), (2, _), (7, .b (.row 101))], [(101, .mp (eM .i64 (mB ([] : MapB))))]⟩ rfl ?_
 obtain ⟨v1, h2, h⟩ := bnd h
 refine Tri.seqJ (v := v1) (fun (told_1 : MapB) => ⟨[(0, .b (.one (.sl 1 (home0.map eI)))), (2, I region0), (7, .b (.row 101))], [(101, .mp (eM .i64 (mB told_1)))]⟩) (fun z => z) ?_ ?_
 ·refine Tri.seq (Tri.regionL ?_)
  refine Oc om (Oc (op_len_e' und71 rfl (List.length_map _)) (Oc om ?_))
  refine OpsL.nilS ⟨[(0, _), (2, _), (7, _), (14, .b (.one (.sl 3 (shares0.map eShare)))), (15, I (shares0.length : Int)), (16, I 0)], [(101, _)]⟩ rfl (Tri.block (Tri.loopJ h2 (un2 fun (told_2 : MapB) (x_3 : Int) => ⟨[(0, .b (.one (.sl 1 (home0.map eI)))), (2, I region0), (7, .b (.row 101)), (14, .b (.one (.sl 3 (shares0.map eShare)))), (15, I (shares0.length : Int)), (16, I x_3)], [(101, .mp (eM .i64 (mB told_2)))]⟩) [0, 2, 7, 14, 15, 16] [101] rfl ?_))
  rintro ⟨told_2, x_3⟩ o3 h4 hy5
  refine Tri.seq (Tri.regionL ?_)
  refine Oc (op_lss rfl rfl) (OpsL.nilS ⟨[(0, _), (2, _), (7, _), (14, _), (15, _), (16, _), (17, B (decide (x_3 < (shares0.length : Int))))], [(101, _)]⟩ rfl (Tri.seq (Tri.ite h4 rfl (fun _ h4 => ?_) (fun _ h4 => ?_))))
  ·refine Tri.skip (Fin.keepS ⟨[(0, _), (2, _), (7, _), (14, _), (15, _), (16, _)], [(101, _)]⟩ rfl (Fin.then (Tri.seq (Tri.block (Tri.seq (Tri.regionL ?_))))))
   obtain ⟨x_5, e6, h4⟩ := bnd h4
   refine Oc (op_index_e tySl71 (ix_lo e6) (ix_map (e := eShare) e6) rfl rfl) (Oc (op_load_e tyAgg83 rfl rfl rfl) (Oc (op_alloc (hnu := by first | rfl | exact nuI rfl | exact nuC rfl (nuI rfl) | exact nuC rfl (nuC rfl (nuI rfl)) | exact nuC rfl (nuC rfl (nuC rfl (nuI rfl)))) (k := 102) tyZero83 rfl) (Oc (op_store_p tyAgg83 rfl rfl rfl rfl (Nat.le_of_ble_eq_true rfl) rfl) ?_)))
   refine OpsL.nilS ⟨[(0, _), (2, _), (7, _), (9, Pt 102 0), (14, _), (15, _), (16, _)], [(101, _), (102, .box 83 (eShare x_5))]⟩ rfl (Tri.regionL (Oc om (Oc (op_field_p tyFld83_0 rfl rfl) (Oc (op_load_p1 tyOne3 rfl rfl rfl) (Oc om (Oc (op_field_p tyFld83_0 rfl rfl) (Oc (op_load_p1 tyOne3 rfl rfl rfl) ?_)))))))
   refine Oc (op_mgetB1 tyMap127 rfl rfl rfl) (OpsL.keepS ⟨[(0, _), (2, _), (7, _), (9, _), (14, _), (15, _), (16, _), (20, .b (.row 101)), (22, I x_5.Body), (26, B (mGetB told_2 x_5.Body))], [(101, _), (102, _)]⟩ rfl (Oc om (CgF (!(mGetB told_2 x_5.Body)) [] (fun g7 => by exact trivial) (fun g7 => op_field_p tyFld83_2 rfl rfl) (CgF (!(mGetB told_2 x_5.Body)) [28] (fun g8 => by exact ⟨g8, trivial⟩) (fun g8 => op_load_p1 tyOne3 rfl rfl rfl) (CgF (!(mGetB told_2 x_5.Body)) [] (fun g9 => by exact trivial) (fun g9 => om) ?_)))))
   refine CgF (!(mGetB told_2 x_5.Body)) [29, 30] (fun g10 => ⟨g10, g10, trivial⟩) (fun g10 => op_eql rfl rfl) (Oc (op_pick_or (fun e => by first | (rw [e]; rfl) | (simp only at e; rw [e]; rfl)) rfl rfl rfl rfl) (Oc (op_msetB tyMap127 rfl rfl rfl rfl) ?_))
   refine OpsL.nil (Fin.block_normal (Fin.keepS ⟨[(0, _), (2, _), (7, _), (14, _), (15, _), (16, _)], [(101, .mp (eM .i64 (mB (mset told_2 x_5.Body ((mGetB told_2 x_5.Body) || (decide (x_5.To = region0)))))))]⟩ rfl (Fin.then (Tri.regionL ?_))))
   refine Oc (op_add rfl rfl) (Oc om ?_)
   refine OpsL.nil ?_
   exact Fin.againJ [0, 2, 7, 14, 15, 16] [101] (mset told_2 x_5.Body ((mGetB told_2 x_5.Body) || (decide (x_5.To = region0))), IntKind.i64.wrap (x_3 + 1)) (Option.some.inj h4) rfl
  ·refine Tri.exit (Fin.then_exit ?_)
   obtain rfl := hy5 _ (Option.some.inj h4).symm
   refine Fin.then_exit (Fin.block_exit ?_)
   exact Fin.join [0, 2, 7] [101] told_2 rfl rfl
 ·rintro told_1 hv
  subst v1
  refine Tri.seq (Tri.regionL ?_)
  refine Oc oa (OpsL.nilS ⟨[(0, _), (2, _), (7, _), (10, .b (.one (.nil)))], [(101, _)]⟩ rfl ?_)
  obtain ⟨v11, h12, h⟩ := bnd h
  refine Tri.seqJ (v := v11) (fun (out_6 : List Int) => ⟨[(10, .b (.row 104))], [(104, .row 3 1 (out_6.map eI))]⟩) (fun z => z) ?_ ?_
  ·refine Tri.seq (Tri.regionL ?_)
   refine Oc om (Oc (op_len_e' und22 rfl (List.length_map _)) (Oc om ?_))
   refine OpsL.nilS ⟨[(2, _), (7, _), (10, _), (34, .b (.one (.sl 1 (home0.map eI)))), (35, I (home0.length : Int)), (36, I 0)], [(101, _)]⟩ rfl (Tri.block (Tri.nilrow (hnu := by first | rfl | exact nuI rfl | exact nuC rfl (nuI rfl) | exact nuC rfl (nuC rfl (nuI rfl)) | exact nuC rfl (nuC rfl (nuC rfl (nuI rfl)))) 10 104 1 3 rfl (by decide) rfl (Tri.loopJ h12 (un2 fun (out_7 : List Int) (x_8 : Int) => ⟨[(2, I region0), (7, .b (.row 101)), (10, .b (.row 104)), (34, .b (.one (.sl 1 (home0.map eI)))), (35, I (home0.length : Int)), (36, I x_8)], [(101, .mp (eM .i64 (mB told_1))), (104, .row 3 1 (out_7.map eI))]⟩) [2, 7, 10, 34, 35, 36] [101, 104] rfl ?_)))
   rintro ⟨out_7, x_8⟩ o13 h14 hy15
   refine Tri.seq (Tri.regionL ?_)
   refine Oc (op_lss rfl rfl) (OpsL.nilS ⟨[(2, _), (7, _), (10, _), (34, _), (35, _), (36, _), (37, B (decide (x_8 < (home0.length : Int))))], [(101, _), (104, _)]⟩ rfl (Tri.seq (Tri.ite h14 rfl (fun _ h14 => ?_) (fun _ h14 => ?_))))
   ·refine Tri.skip (Fin.keepS ⟨[(2, _), (7, _), (10, _), (34, _), (35, _), (36, _)], [(101, _), (104, _)]⟩ rfl (Fin.then ?_))
    obtain ⟨v16, h17, h14⟩ := bnd h14
    refine Tri.seqJ (v := v16) (fun (out_10 : List Int) => ⟨[(2, I region0), (7, .b (.row 101)), (10, .b (.row 104)), (34, .b (.one (.sl 1 (home0.map eI)))), (35, I (home0.length : Int)), (36, I x_8)], [(101, .mp (eM .i64 (mB told_1))), (104, .row 3 1 (out_10.map eI))]⟩) (fun z => z) ?_ ?_
    ·refine Tri.block (Tri.seq (Tri.regionL ?_))
     refine Oc om ?_
     obtain ⟨x_11, e18, h17⟩ := bnd h17
     refine Oc (op_index_e tySl22 (ix_lo e18) (ix_map (e := eI) e18) rfl rfl) (Oc (op_load_e1 tyOne3 rfl rfl) (Oc oa (Oc oa ?_)))
     refine OpsL.nilS ⟨[(2, _), (7, _), (10, _), (11, I x_8), (12, I x_11), (34, _), (35, _), (36, _)], [(101, _), (104, _)]⟩ rfl (Tri.seq (Tri.regionL ?_))
     refine Oc om (Oc om (Oc (op_eql rfl rfl) (Oc om ?_)))
     refine CgF (!(decide (x_11 = region0))) [] (fun g19 => trivial) (fun g19 => om) (CgF (!(decide (x_11 = region0))) [] (fun g20 => by exact trivial) (fun g20 => om) (CgF (!(decide (x_11 = region0))) [45, 46] (fun g21 => by exact ⟨g21, g21, trivial⟩) (fun g21 => op_mgetB1 tyMap127 rfl rfl rfl) (Oc (op_pick_or (fun e => by first | (rw [e]; rfl) | (simp only at e; rw [e]; rfl)) rfl rfl rfl rfl) (OpsL.nilS ⟨[(2, _), (7, _), (10, _), (11, _), (34, _), (35, _), (36, _), (48, B ((decide (x_11 = region0)) || (mGetB told_1 x_8)))], [(101, _), (104, _)]⟩ rfl (Tri.ite h17 rfl (fun _ h17 => ?_) (fun _ h17 => ?_))))))
     ·refine Tri.regionL (Oc om (Oc om (Oc (op_buildSlice (hnu := by first | rfl | exact nuI rfl | exact nuC rfl (nuI rfl) | exact nuC rfl (nuC rfl (nuI rfl)) | exact nuC rfl (nuC rfl (nuC rfl (nuI rfl)))) (k := 105) (es := [x_8].map eI) tySl22 rfl rfl (uni_map fun _ => rfl) rfl (by decide) (by decide) rfl) ?_)))
      obtain ⟨x_12, e22, h17⟩ := bnd h17
      refine Oc (op_append_r (hnu := by first | rfl | exact nuI rfl | exact nuC rfl (nuI rfl) | exact nuC rfl (nuC rfl (nuI rfl)) | exact nuC rfl (nuC rfl (nuC rfl (nuI rfl)))) tySl22 (app_b e22) (app_m e22) rfl rfl rfl rfl (app_map e22) rfl) (Oc oa ?_)
      refine OpsL.nil (Fin.block_normal ?_)
      exact Fin.join [2, 7, 10, 34, 35, 36] [101, 104] x_12 (Option.some.inj h17) rfl
     ·refine Tri.skip (Fin.block_normal ?_)
      exact Fin.join [2, 7, 10, 34, 35, 36] [101, 104] out_7 (Option.some.inj h17) rfl
    ·rintro out_10 hv
     subst v16
     refine Tri.regionL (Oc (op_add rfl rfl) (Oc om ?_))
     refine OpsL.nil ?_
     exact Fin.againJ [2, 7, 10, 34, 35, 36] [101, 104] (out_10, IntKind.i64.wrap (x_8 + 1)) (Option.some.inj h14) rfl
   ·refine Tri.exit (Fin.then_exit ?_)
    obtain rfl := hy15 _ (Option.some.inj h14).symm
    refine Fin.then_exit (Fin.block_exit ?_)
    exact Fin.join [10] [104] out_7 rfl rfl
  ·rintro out_6 hv
   subst v11
   refine Tri.seq (Tri.regionL ?_)
   refine Oc om (Oc oa ?_)
   refine OpsL.nilS ⟨[(6, .b (.row 104))], [(104, _)]⟩ rfl (Tri.ret ?_)
   obtain rfl := Option.some.inj h
   refine Fin.keepS ⟨[(6, _)], [(104, _)]⟩ rfl (Fin.resultK 104 kr0 [.row 104] (.inl rfl) rfl (.cons (.tmp rfl) .nil) rfl rfl rfl rfl ⟨rfl, rfl⟩)
def broad_Meet_S (F : Nat) (a0 : Box) (b0 : Box) : Option Bool :=
 Option.bind (iter F (fun x_1 => if (decide (x_1 < 3)) = true then ((idx? a0.Hi.l x_1).bind fun x_2 => (idx? b0.Lo.l x_1).bind fun x_3 => (gcall (!(decide (x_2 < x_3))) (idx? b0.Hi.l x_1)).bind fun x_4 => (gcall (!(decide (x_2 < x_3))) (idx? a0.Lo.l x_1)).bind fun x_5 => if ((decide (x_2 < x_3)) || (decide (x_4 < x_5))) = true then (some (.inr (.inr false))) else (some (.inl (IntKind.i64.wrap (x_1 + 1))))) else (some (.inr (.inl ())))) 0) (alt2 (fun _ => some true) (fun y => some y))
theorem broad_Meet_spec {F : Nat} {a0 : Box} {b0 : Box} {r : Bool} (h : broad_Meet_S F a0 b0 = some r) : Meets Try.prog [] 40 [] [.agg (eBox a0), .agg (eBox b0)] (Is [] (.b (.one (.bool r)))) := by
 unfold broad_Meet_S at h
 refine Meets.intro 30 Try.func40 Try.ntmps40 rfl (by simp) fun E => ?_
 show Tri _ E ⟨30, [], [], []⟩ _ ⟨[(0, .b (.agg (eBox a0))), (1, .b (.agg (eBox b0)))], []⟩ _
 refine Tri.seq (Tri.regionL ?_)
 refine Oc (op_box (k := 101) rfl rfl) (Oc (op_box (k := 102) rfl rfl) (Oc oa ?_))
 refine OpsL.nilS ⟨[(2, Pt 101 0), (3, Pt 102 0)], [(101, .box 89 (eBox a0)), (102, .box 89 (eBox b0))]⟩ rfl ?_
 obtain ⟨v1, h2, h⟩ := bnd h
 refine Tri.seqJ (v := v1) (fun (_ : Unit) => ⟨[], []⟩) (fun z => .inl z) ?_ ?_
 ·refine Tri.seq (Tri.regionL ?_)
  refine Oc om (OpsL.nilS ⟨[(2, _), (3, _), (6, I 0)], [(101, _), (102, _)]⟩ rfl (Tri.block (Tri.loopJ h2 (fun (x_1 : Int) => ⟨[(2, Pt 101 0), (3, Pt 102 0), (6, I x_1)], [(101, .box 89 (eBox a0)), (102, .box 89 (eBox b0))]⟩) [2, 3, 6] [101, 102] rfl ?_)))
  rintro x_1 o3 h4 hy5
  refine Tri.seq (Tri.regionL ?_)
  refine Oc (op_lss rfl rfl) (OpsL.nilS ⟨[(2, _), (3, _), (6, _), (7, B (decide (x_1 < 3)))], [(101, _), (102, _)]⟩ rfl (Tri.seq (Tri.ite h4 rfl (fun _ h4 => ?_) (fun _ h4 => ?_))))
  ·refine Tri.skip (Fin.keepS ⟨[(2, _), (3, _), (6, _)], [(101, _), (102, _)]⟩ rfl (Fin.then (Tri.seq (Tri.block (Tri.seq (Tri.regionL ?_))))))
   refine Oc om (Oc oa ?_)
   refine OpsL.nilS ⟨[(2, _), (3, _), (5, I x_1), (6, _)], [(101, _), (102, _)]⟩ rfl (Tri.seq ?_)
   obtain ⟨x_2, e6, h4⟩ := bnd h4
   obtain ⟨x_3, e7, h4⟩ := bnd h4
   obtain ⟨x_4, e11, h4⟩ := bnd h4
   obtain ⟨x_5, e16, h4⟩ := bnd h4
   refine Tri.regionY mixed 20 [I x_1, Pt 101 3, .b (.ptr 101 (3 + (x_1 : Int).toNat * 1)), I x_2, I x_1, Pt 102 0, .b (.ptr 102 (0 + (x_1 : Int).toNat * 1)), I x_3, B (decide (x_2 < x_3)), B (decide (x_2 < x_3)), .opt (!(decide (x_2 < x_3))) (.one (.i x_1)), .opt (!(decide (x_2 < x_3))) (.ptr 102 3), .opt (!(decide (x_2 < x_3))) (.ptr 102 (3 + (x_1 : Int).toNat * 1)), .opt (!(decide (x_2 < x_3))) (.one (.i x_4)), .opt (!(decide (x_2 < x_3))) (.one (.i x_1)), .opt (!(decide (x_2 < x_3))) (.ptr 101 0), .opt (!(decide (x_2 < x_3))) (.ptr 101 (0 + (x_1 : Int).toNat * 1)), .opt (!(decide (x_2 < x_3))) (.one (.i x_5)), .opt (!(decide (x_2 < x_3))) (.one (.bool (decide (x_4 < x_5)))), B ((decide (x_2 < x_3)) || (decide (x_4 < x_5)))] [2, 3, 6, 28] [101, 102] (s' := ⟨[(2, _), (3, _), (6, _), (28, B ((decide (x_2 < x_3)) || (decide (x_4 < x_5))))], [(101, _), (102, _)]⟩) rfl ⟨fun _ => .p om, fun _ => .p (op_field_p tyFld89_1 rfl rfl), fun _ => .p (op_index_p tyArr87 (ix_lo e6) (ix_hi e6) rfl rfl rfl), fun _ => .p (op_load_p1 tyOne3 rfl rfl (arr_get (post := []) (k := .i64) ((eA3 .i64) a0.Lo) e6 rfl rfl rfl)), fun _ => .p om, fun _ => .p (op_field_p tyFld89_0 rfl rfl), fun _ => .p (op_index_p tyArr87 (ix_lo e7) (ix_hi e7) rfl rfl rfl), fun _ => .p (op_load_p1 tyOne3 rfl rfl (arr_get (post := ((eA3 .i64) b0.Hi)) (k := .i64) [] e7 rfl rfl rfl)), fun _ => .p (op_lss rfl rfl), fun _ => .p om, fun _ => by exact .guard (!(decide (x_2 < x_3))) 1 [] (.plain rfl) (eq_f _) rfl rfl (fun g8 => trivial) (fun g8 => om), fun _ => by exact .guard (!(decide (x_2 < x_3))) 1 [] (.plain rfl) (eq_f _) rfl rfl (fun g9 => trivial) (fun g9 => op_field_p tyFld89_1 rfl rfl), fun _ => by exact .guard (!(decide (x_2 < x_3))) 3 [19, 20] (.plain rfl) (eq_f _) rfl rfl (fun g10 => ⟨g10, g10, trivial⟩) (fun g10 => op_index_p tyArr87 (ix_lo (gc e11 g10)) (ix_hi (gc e11 g10)) rfl rfl rfl), fun _ => by exact .guard (!(decide (x_2 < x_3))) 2 [21] (.plain rfl) (eq_f _) rfl rfl (fun g12 => ⟨g12, trivial⟩) (fun g12 => op_load_p1 tyOne3 rfl rfl (arr_get (post := []) (k := .i64) ((eA3 .i64) b0.Lo) (gc e11 g12) rfl rfl rfl)), fun _ => by exact .guard (!(decide (x_2 < x_3))) 1 [] (.plain rfl) (eq_f _) rfl rfl (fun g13 => trivial) (fun g13 => om), fun _ => by exact .guard (!(decide (x_2 < x_3))) 1 [] (.plain rfl) (eq_f _) rfl rfl (fun g14 => trivial) (fun g14 => op_field_p tyFld89_0 rfl rfl), fun _ => by exact .guard (!(decide (x_2 < x_3))) 3 [23, 24] (.plain rfl) (eq_f _) rfl rfl (fun g15 => ⟨g15, g15, trivial⟩) (fun g15 => op_index_p tyArr87 (ix_lo (gc e16 g15)) (ix_hi (gc e16 g15)) rfl rfl rfl), fun _ => by exact .guard (!(decide (x_2 < x_3))) 2 [25] (.plain rfl) (eq_f _) rfl rfl (fun g17 => ⟨g17, trivial⟩) (fun g17 => op_load_p1 tyOne3 rfl rfl (arr_get (post := ((eA3 .i64) a0.Hi)) (k := .i64) [] (gc e16 g17) rfl rfl rfl)), fun _ => by exact .guard (!(decide (x_2 < x_3))) 3 [22, 26] (.plain rfl) (eq_f _) rfl rfl (fun g18 => ⟨g18, g18, trivial⟩) (fun g18 => op_lss rfl rfl), fun _ => .p (op_pick_or (fun e => by first | (rw [e]; rfl) | (simp only at e; rw [e]; rfl)) rfl rfl rfl rfl), trivial⟩ rfl rfl ?_
   refine Tri.ite h4 rfl (fun _ h4 => ?_) (fun _ h4 => ?_)
   ·refine Tri.seq (Tri.regionL ?_)
    refine Oc oa (OpsL.nilS ⟨[(4, B false)], []⟩ rfl (Tri.ret (Fin.block_ret (Fin.then_ret ?_))))
    obtain rfl := hy5 _ (Option.some.inj h4).symm
    refine Fin.then_ret (Fin.block_ret (Fin.then_ret ?_))
    obtain rfl := Option.some.inj h
    refine Fin.keepS ⟨[(4, _)], []⟩ rfl (Fin.result' [.one (.bool false)] (.inl rfl) rfl (.cons (.tmp rfl) .nil) ⟨rfl, rfl⟩)
   ·refine Tri.skip (Fin.block_normal (Fin.keepS ⟨[(2, _), (3, _), (6, _)], [(101, _), (102, _)]⟩ rfl (Fin.then (Tri.regionL ?_))))
    refine Oc (op_add rfl rfl) (Oc om ?_)
    refine OpsL.nil ?_
    exact Fin.againJ [2, 3, 6] [101, 102] (IntKind.i64.wrap (x_1 + 1)) (Option.some.inj h4) rfl
  ·refine Tri.exit (Fin.then_exit ?_)
   obtain rfl := hy5 _ (Option.some.inj h4).symm
   refine Fin.then_exit (Fin.block_exit ?_)
   exact Fin.join [] [] () rfl rfl
 ·rintro _ hv
  subst v1
  refine Tri.seq (Tri.regionL ?_)
  refine Oc oa (OpsL.nilS ⟨[(4, B true)], []⟩ rfl (Tri.ret ?_))
  obtain rfl := Option.some.inj h
  refine Fin.keepS ⟨[(4, _)], []⟩ rfl (Fin.result' [.one (.bool true)] (.inl rfl) rfl (.cons (.tmp rfl) .nil) ⟨rfl, rfl⟩)
def skewbacklaw44_OwnerSharesMeet_S (F : Nat) (borders0 : List Int) (home0 : List Int) (boxes0 : List Box) : Option Bool :=
 letN ((decide (20 < (borders0.length : Int))) || (decide (40 < (home0.length : Int)))) fun x_1 => (gcall (!(x_1 || (decide (40 < (boxes0.length : Int))))) (skewbackref44_Ascending_S F borders0)).bind fun x_2 => if ((x_1 || (decide (40 < (boxes0.length : Int)))) || (!x_2)) = true then ((skewbacklaw44_sanity_S F).bind fun x_3 => some x_3) else (Option.bind (owner_Shares_S F borders0 home0 boxes0) (un2 fun x_4 x_5 => if (decide (x_5 ≠ 0)) = true then ((skewbacklaw44_sanity_S F).bind fun x_6 => some (x_6 && (decide ((x_4.length : Int) = 0)))) else (Option.bind (iter F (un3 fun shares_8 known_9 r_10 => if (decide (r_10 ≤ (borders0.length : Int))) = true then ((owner_Known_S F home0 shares_8 r_10).bind fun x_12 => (app? known_9 [x_12]).bind fun x_13 => some (.inl (shares_8, x_13, IntKind.i64.wrap (r_10 + 1)))) else (some (.inr known_9))) (x_4, [], 0)) (fun known_7 => Option.bind (iter F (fun a_14 => if (decide (a_14 < (home0.length : Int))) = true then (Option.bind ((idx? home0 a_14).bind fun x_15 => if (decide (x_15 < 0)) = true then (some (.inl ())) else ((idx? boxes0 a_14).bind fun x_16 => (idx? boxes0 a_14).bind fun x_17 => Option.bind (owner_Reach_S F borders0 x_16.Lo.a0 x_17.Hi.a0) (un2 fun x_18 x_19 => Option.bind (iter F (fun r_20 => if (decide (r_20 ≤ (borders0.length : Int))) = true then ((idx? known_7 r_20).bind fun x_21 => (skewbackref35_Has_S F x_21 a_14).bind fun x_22 => (idx? home0 a_14).bind fun x_23 => if (x_22 != ((decide (r_20 = x_23)) || ((decide (x_18 ≤ r_20)) && (decide (r_20 ≤ x_19))))) = true then (some (.inr (.inr false))) else (some (.inl (IntKind.i64.wrap (r_20 + 1))))) else (some (.inr (.inl ())))) 0) (alt2 (fun _ => Option.bind (iter F (fun b_24 => if (decide (b_24 < a_14)) = true then (Option.bind ((idx? home0 b_24).bind fun x_25 => (gcall (!(decide (x_25 < 0))) (idx? boxes0 a_14)).bind fun x_26 => (gcall (!(decide (x_25 < 0))) (idx? boxes0 b_24)).bind fun x_27 => (gcall (!(decide (x_25 < 0))) (broad_Meet_S F x_26 x_27)).bind fun x_28 => if ((decide (x_25 < 0)) || (!x_28)) = true then (some (.inl ())) else ((idx? boxes0 b_24).bind fun x_29 => (idx? boxes0 b_24).bind fun x_30 => Option.bind (owner_Reach_S F borders0 x_29.Lo.a0 x_30.Hi.a0) (un2 fun x_31 x_32 => if (decide ((min x_19 x_32) < (max x_18 x_31))) = true then (some (.inr false)) else (some (.inl ()))))) (alt2 (fun _ => some (.inl (IntKind.i64.wrap (b_24 + 1)))) (fun y => some (.inr (.inr y))))) else (some (.inr (.inl ())))) 0) (alt2 (fun _ => some (.inl ())) (fun y => some (.inr y)))) (fun y => some (.inr y)))))) (alt2 (fun _ => some (.inl (IntKind.i64.wrap (a_14 + 1)))) (fun y => some (.inr (.inr y))))) else (some (.inr (.inl ())))) 0) (alt2 (fun _ => (skewbacklaw44_sanity_S F).bind fun x_33 => some x_33) (fun y => some y))))))
theorem skewbacklaw44_OwnerSharesMeet_spec {F : Nat} {borders0 : List Int} {home0 : List Int} {boxes0 : List Box} {r : Bool} (h : skewbacklaw44_OwnerSharesMeet_S F borders0 home0 boxes0 = some r) : Meets Try.prog [] 8 [] [.one (.sl 1 (borders0.map eI)), .one (.sl 1 (home0.map eI)), .one (.sl 6 (boxes0.map eBox))] (Is [] (.b (.one (.bool r)))) := by
 unfold skewbacklaw44_OwnerSharesMeet_S at h
 refine Meets.intro 169 Try.func8 Try.ntmps8 rfl (by simp) fun E => ?_
 show Tri _ E ⟨169, [], [], []⟩ _ ⟨[(0, .b (.one (.sl 1 (borders0.map eI)))), (1, .b (.one (.sl 1 (home0.map eI)))), (2, .b (.one (.sl 6 (boxes0.map eBox))))], []⟩ _
 refine Tri.seq (Tri.regionL ?_)
 refine Oc oa (OpsL.nilS ⟨[(0, .b (.one (.sl 1 (borders0.map eI)))), (1, .b (.one (.sl 1 (home0.map eI)))), (2, .b (.one (.sl 6 (boxes0.map eBox))))], []⟩ rfl (Tri.seq (Tri.seq (Tri.regionL ?_))))
 refine Oc om (Oc (op_len_e' und22 rfl (List.length_map _)) (Oc (op_gtr rfl rfl) (Oc om ?_)))
 refine CgF (!(decide (20 < (borders0.length : Int)))) [] (fun g1 => trivial) (fun g1 => om) (OpsL.keepS ⟨[(0, _), (1, _), (2, _), (21, B (decide (20 < (borders0.length : Int)))), (22, .opt (!(decide (20 < (borders0.length : Int)))) (.one (.sl 1 (home0.map eI))))], []⟩ rfl (CgF (!(decide (20 < (borders0.length : Int)))) [22] (fun g2 => by exact ⟨g2, trivial⟩) (fun g2 => op_len_e' und22 rfl (List.length_map _)) (CgF (!(decide (20 < (borders0.length : Int)))) [23] (fun g3 => by exact ⟨g3, trivial⟩) (fun g3 => op_gtr rfl rfl) (OpsL.consB h rfl (op_pick_or (fun e => by first | (rw [e]; rfl) | (simp only at e; rw [e]; rfl)) rfl rfl rfl rfl) (fun x_1 h => ?_)))))
 refine Oc om (CgF (!x_1) [] (fun g4 => by exact trivial) (fun g4 => om) (CgF (!x_1) [27] (fun g5 => by exact ⟨g5, trivial⟩) (fun g5 => op_len_e' und70 rfl (List.length_map _)) (CgF (!x_1) [28] (fun g6 => by exact ⟨g6, trivial⟩) (fun g6 => op_gtr rfl rfl) (OpsL.keepS ⟨[(0, _), (1, _), (2, _), (26, B x_1), (29, .opt (!x_1) (.one (.bool (decide (40 < (boxes0.length : Int))))))], []⟩ rfl (Oc (op_pick_or (fun e => by first | (rw [e]; rfl) | (simp only at e; rw [e]; rfl)) rfl rfl rfl rfl) (Oc om ?_))))))
 refine CgF (!(x_1 || (decide (40 < (boxes0.length : Int))))) [] (fun g7 => trivial) (fun g7 => om) ?_
 obtain ⟨x_2, e9, h⟩ := bnd h
 refine CgF (!(x_1 || (decide (40 < (boxes0.length : Int))))) [32] (fun g8 => ⟨g8, trivial⟩) (fun g8 => op_call0 (skewbackref44_Ascending_spec (gc e9 g8)) goes35 rfl rfl) (CgF (!(x_1 || (decide (40 < (boxes0.length : Int))))) [33] (fun g10 => ⟨g10, trivial⟩) (fun g10 => op_not rfl) (Oc (op_pick_or (fun e => by first | (rw [e]; rfl) | (simp only at e; rw [e]; rfl)) rfl rfl rfl rfl) (OpsL.nilS ⟨[(0, _), (1, _), (2, _), (35, B ((x_1 || (decide (40 < (boxes0.length : Int)))) || (!x_2)))], []⟩ rfl (Tri.ite h rfl (fun _ h => ?_) (fun _ h => ?_)))))
 ·refine Tri.seq (Tri.regionL ?_)
  obtain ⟨x_3, e11, h⟩ := bnd h
  refine Oc (op_call0 (skewbacklaw44_sanity_spec e11) goes10 rfl rfl) (Oc oa ?_)
  refine OpsL.nilS ⟨[(6, B x_3)], []⟩ rfl (Tri.ret (Fin.then_ret ?_))
  obtain rfl := Option.some.inj h
  refine Fin.keepS ⟨[(6, _)], []⟩ rfl (Fin.result' [.one (.bool x_3)] (.inl rfl) rfl (.cons (.tmp rfl) .nil) ⟨rfl, rfl⟩)
 ·refine Tri.skip (Fin.keepS ⟨[(0, _), (1, _), (2, _)], []⟩ rfl (Fin.then (Tri.seq (Tri.regionL ?_))))
  refine Oc om (Oc om (Oc om ?_))
  obtain ⟨⟨x_4, x_5⟩, e12, h⟩ := bnd h
  refine Oc (op_call (owner_Shares_spec 101 e12) goes33 rfl trivial rfl rfl) (Oc om ?_)
  refine OpsL.keepS ⟨[(0, _), (1, _), (2, _), (37, .tup [.row 101, .one (.i x_5)])], [(101, .row 83 3 (x_4.map eShare))]⟩ rfl (Oc (op_extract rfl rfl) (Oc (op_extract rfl rfl) (Oc oa (Oc oa ?_))))
  refine OpsL.nilS ⟨[(0, _), (1, _), (2, _), (7, .b (.row 101)), (8, I x_5)], [(101, _)]⟩ rfl (Tri.seq (Tri.seq (Tri.regionL ?_)))
  refine Oc om (Oc (op_neq rfl rfl) ?_)
  refine OpsL.nilS ⟨[(0, _), (1, _), (2, _), (7, _), (45, B (decide (x_5 ≠ 0)))], [(101, _)]⟩ rfl (Tri.ite h rfl (fun _ h => ?_) (fun _ h => ?_))
  ·refine Tri.seq (Tri.regionL ?_)
   obtain ⟨x_6, e13, h⟩ := bnd h
   refine Oc (op_call0 (skewbacklaw44_sanity_spec e13) goes10 rfl rfl) (Oc om ?_)
   refine CgT x_6 [] (fun g14 => trivial) (fun g14 => om) (CgT x_6 [48] (fun g15 => by exact ⟨g15, trivial⟩) (fun g15 => op_len_r' und71 rfl rfl (List.length_map _)) (OpsL.keepS ⟨[(47, B x_6), (49, .opt x_6 (.one (.i (x_4.length : Int))))], []⟩ rfl (CgT x_6 [49] (fun g16 => by exact ⟨g16, trivial⟩) (fun g16 => op_eql rfl rfl) (Oc (op_pick_and (fun e => e) rfl rfl rfl rfl) (Oc oa ?_)))))
   refine OpsL.nilS ⟨[(6, B (x_6 && (decide ((x_4.length : Int) = 0))))], []⟩ rfl (Tri.ret (Fin.then_ret ?_))
   obtain rfl := Option.some.inj h
   refine Fin.keepS ⟨[(6, _)], []⟩ rfl (Fin.result' [.one (.bool (x_6 && (decide ((x_4.length : Int) = 0))))] (.inl rfl) rfl (.cons (.tmp rfl) .nil) ⟨rfl, rfl⟩)
  ·refine Tri.skip (Fin.keepS ⟨[(0, _), (1, _), (2, _), (7, _)], [(101, _)]⟩ rfl (Fin.then (Tri.seq (Tri.regionL ?_))))
   refine Oc oa (OpsL.nilS ⟨[(0, _), (1, _), (2, _), (7, _), (9, .b (.one (.nil)))], [(101, _)]⟩ rfl ?_)
   obtain ⟨v17, h18, h⟩ := bnd h
   refine Tri.seqJ (v := v17) (fun (known_7 : List (List Int)) => ⟨[(0, .b (.one (.sl 1 (borders0.map eI)))), (1, .b (.one (.sl 1 (home0.map eI)))), (2, .b (.one (.sl 6 (boxes0.map eBox)))), (9, .b (.row 104))], [(104, .row 22 1 (known_7.map (eL 1 eI)))]⟩) (fun z => z) ?_ ?_
   ·refine Tri.seq (Tri.regionL ?_)
    refine Oc oa (OpsL.nilS ⟨[(0, .b (.one (.sl 1 (borders0.map eI)))), (1, .b (.one (.sl 1 (home0.map eI)))), (2, .b (.one (.sl 6 (boxes0.map eBox)))), (7, .b (.row 101)), (9, .b (.one (.nil))), (10, I 0)], [(101, .row 83 3 (x_4.map eShare))]⟩ rfl (Tri.block (Tri.persist 101 rfl (Tri.nilrow 9 104 1 22 rfl (by decide) rfl (Tri.loopJ h18 (un3 fun (shares_8 : List Share) (known_9 : List (List Int)) (r_10 : Int) => ⟨[(0, .b (.one (.sl 1 (borders0.map eI)))), (1, .b (.one (.sl 1 (home0.map eI)))), (2, .b (.one (.sl 6 (boxes0.map eBox)))), (7, .b (.one (.sl 3 (shares_8.map eShare)))), (9, .b (.row 104)), (10, I r_10)], [(104, .row 22 1 (known_9.map (eL 1 eI)))]⟩) [0, 1, 2, 7, 9, 10] [104] rfl ?_)))))
    rintro ⟨shares_8, known_9, r_10⟩ o19 h20 hy21
    refine Tri.seq (Tri.seq (Tri.regionL ?_))
    refine Oc om (Oc om (Oc (op_len_e' und22 rfl (List.length_map _)) (Oc (op_leq rfl rfl) ?_)))
    refine OpsL.nilS ⟨[(0, _), (1, _), (2, _), (7, _), (9, _), (10, _), (55, B (decide (r_10 ≤ (borders0.length : Int))))], [(104, _)]⟩ rfl (Tri.ite h20 rfl (fun _ h20 => ?_) (fun _ h20 => ?_))
    ·refine Tri.skip (Fin.keepS ⟨[(0, _), (1, _), (2, _), (7, _), (9, _), (10, _)], [(104, _)]⟩ rfl (Fin.then (Tri.seq (Tri.block (Tri.regionL ?_)))))
     refine Oc om (Oc om (Oc om (Oc om ?_)))
     obtain ⟨x_12, e22, h20⟩ := bnd h20
     refine Oc (op_call (owner_Known_spec 105 e22) goes38 rfl trivial rfl rfl) (OpsL.persist 105 rfl (OpsL.keepS ⟨[(0, .b (.one (.sl 1 (borders0.map eI)))), (1, .b (.one (.sl 1 (home0.map eI)))), (2, .b (.one (.sl 6 (boxes0.map eBox)))), (7, .b (.one (.sl 3 (shares_8.map eShare)))), (9, .b (.row 104)), (10, I r_10), (58, .b (.row 104)), (62, .b (.one (.sl 1 (x_12.map eI))))], [(104, .row 22 1 (known_9.map (eL 1 eI)))]⟩ rfl (Oc (op_buildSlice (k := 106) (es := [x_12].map (eL 1 eI)) tySl23 rfl rfl (uni_map fun _ => rfl) rfl (by decide) (by decide) rfl) ?_)))
     obtain ⟨x_13, e23, h20⟩ := bnd h20
     refine Oc (op_append_r tySl23 (app_b e23) (app_m e23) rfl rfl rfl rfl (app_map e23) rfl) (Oc oa ?_)
     refine OpsL.nil (Fin.block_normal (Fin.keepS ⟨[(0, _), (1, _), (2, _), (7, _), (9, _), (10, _)], [(104, .row 22 1 (x_13.map (eL 1 eI)))]⟩ rfl (Fin.then (Tri.regionL ?_))))
     refine Oc om (Oc (op_add rfl rfl) (Oc oa ?_))
     refine OpsL.nil ?_
     exact Fin.againJ [0, 1, 2, 7, 9, 10] [104] (shares_8, x_13, IntKind.i64.wrap (r_10 + 1)) (Option.some.inj h20) rfl
    ·refine Tri.exit (Fin.then_exit ?_)
     obtain rfl := hy21 _ (Option.some.inj h20).symm
     refine Fin.then_exit (Fin.block_exit ?_)
     exact Fin.join [0, 1, 2, 9] [104] known_9 rfl rfl
   ·rintro known_7 hv
    subst v17
    obtain ⟨v24, h25, h⟩ := bnd h
    refine Tri.seqJ (v := v24) (fun (_ : Unit) => ⟨[], []⟩) (fun z => .inl z) ?_ ?_
    ·refine Tri.seq (Tri.regionL ?_)
     refine Oc oa (OpsL.nilS ⟨[(0, _), (1, _), (2, _), (9, _), (11, I 0)], [(104, _)]⟩ rfl (Tri.block (Tri.loopJ h25 (fun (a_14 : Int) => ⟨[(0, .b (.one (.sl 1 (borders0.map eI)))), (1, .b (.one (.sl 1 (home0.map eI)))), (2, .b (.one (.sl 6 (boxes0.map eBox)))), (9, .b (.row 104)), (11, I a_14)], [(104, .row 22 1 (known_7.map (eL 1 eI)))]⟩) [0, 1, 2, 9, 11] [104] rfl ?_)))
     rintro a_14 o26 h27 hy28
     refine Tri.seq (Tri.seq (Tri.regionL ?_))
     refine Oc om (Oc om (Oc (op_len_e' und22 rfl (List.length_map _)) (Oc (op_lss rfl rfl) ?_)))
     refine OpsL.nilS ⟨[(0, _), (1, _), (2, _), (9, _), (11, _), (68, B (decide (a_14 < (home0.length : Int))))], [(104, _)]⟩ rfl (Tri.ite h27 rfl (fun _ h27 => ?_) (fun _ h27 => ?_))
     ·refine Tri.skip (Fin.keepS ⟨[(0, _), (1, _), (2, _), (9, _), (11, _)], [(104, _)]⟩ rfl (Fin.then ?_))
      obtain ⟨v29, h30, h27⟩ := bnd h27
      refine Tri.seqJ (v := v29) (fun (_ : Unit) => ⟨[(0, .b (.one (.sl 1 (borders0.map eI)))), (1, .b (.one (.sl 1 (home0.map eI)))), (2, .b (.one (.sl 6 (boxes0.map eBox)))), (9, .b (.row 104)), (11, I a_14)], [(104, .row 22 1 (known_7.map (eL 1 eI)))]⟩) (fun z => .inl z) ?_ ?_
      ·refine Tri.block (Tri.seq (Tri.seq (Tri.regionL ?_)))
       refine Oc om (Oc om ?_)
       obtain ⟨x_15, e31, h30⟩ := bnd h30
       refine Oc (op_index_e tySl22 (ix_lo e31) (ix_map (e := eI) e31) rfl rfl) (Oc (op_load_e1 tyOne3 rfl rfl) (Oc (op_lss rfl rfl) ?_))
       refine OpsL.nilS ⟨[(0, _), (1, _), (2, _), (9, _), (11, _), (75, B (decide (x_15 < 0)))], [(104, _)]⟩ rfl (Tri.ite h30 rfl (fun _ h30 => ?_) (fun _ h30 => ?_))
       ·refine Tri.exit (Fin.then_exit (Fin.block_exit ?_))
        exact Fin.join [0, 1, 2, 9, 11] [104] () (Option.some.inj h30) rfl
       ·refine Tri.skip (Fin.keepS ⟨[(0, _), (1, _), (2, _), (9, _), (11, _)], [(104, _)]⟩ rfl (Fin.then (Tri.seq ?_)))
        refine Tri.keepS ⟨[(0, _), (1, _), (2, _), (9, _), (11, _)], [(104, _)]⟩ rfl ?_
        obtain ⟨x_16, e32, h30⟩ := bnd h30
        obtain ⟨x_17, e33, h30⟩ := bnd h30
        obtain ⟨⟨x_18, x_19⟩, e34, h30⟩ := bnd h30
        refine Tri.regionY mixed 19 [.b (.one (.sl 1 (borders0.map eI))), .b (.one (.sl 6 (boxes0.map eBox))), I a_14, .b (.eptr (eBox x_16)), .b (.eptr (eBox x_16)), .b (.eptr [.i x_16.Lo.a0]), I x_16.Lo.a0, .b (.one (.sl 6 (boxes0.map eBox))), I a_14, .b (.eptr (eBox x_17)), .b (.eptr ((eA3 .i64) x_17.Hi)), .b (.eptr [.i x_17.Hi.a0]), I x_17.Hi.a0, .tup [.one (.i x_18), .one (.i x_19)], .tup [.one (.i x_18), .one (.i x_19)], I x_18, I x_19, I x_18, I x_19] [0, 1, 2, 9, 11, 12, 13] [104] (s' := ⟨[(0, _), (1, _), (2, _), (9, _), (11, _), (12, I x_18), (13, I x_19)], [(104, _)]⟩) rfl ⟨fun _ => .p om, fun _ => .p om, fun _ => .p om, fun _ => .p (op_index_e tySl70 (ix_lo e32) (ix_map (e := eBox) e32) rfl rfl), fun _ => by exact .p (op_field_e tyFld89_0 rfl rfl), fun _ => .p (op_index_ea tyArr87 (by decide) (by decide) rfl rfl rfl), fun _ => .p (op_load_e1 tyOne3 rfl rfl), fun _ => .p om, fun _ => .p om, fun _ => .p (op_index_e tySl70 (ix_lo e33) (ix_map (e := eBox) e33) rfl rfl), fun _ => by exact .p (op_field_e tyFld89_1 rfl rfl), fun _ => .p (op_index_ea tyArr87 (by decide) (by decide) rfl rfl rfl), fun _ => .p (op_load_e1 tyOne3 rfl rfl), fun _ => .p (op_call0 (owner_Reach_spec e34) goes36 rfl rfl), fun _ => .p om, fun _ => .p (op_extract rfl rfl), fun _ => .p (op_extract rfl rfl), fun _ => .p oa, fun _ => .p oa, trivial⟩ rfl rfl ?_
        obtain ⟨v35, h36, h30⟩ := bnd h30
        refine Tri.seqJ (v := v35) (fun (_ : Unit) => ⟨[(0, .b (.one (.sl 1 (borders0.map eI)))), (1, .b (.one (.sl 1 (home0.map eI)))), (2, .b (.one (.sl 6 (boxes0.map eBox)))), (9, .b (.row 104)), (11, I a_14), (12, I x_18), (13, I x_19)], [(104, .row 22 1 (known_7.map (eL 1 eI)))]⟩) (fun z => .inl z) ?_ ?_
        ·refine Tri.seq (Tri.regionL ?_)
         refine Oc oa (OpsL.nilS ⟨[(0, _), (1, _), (2, _), (9, _), (11, _), (12, _), (13, _), (14, I 0)], [(104, _)]⟩ rfl (Tri.block (Tri.loopJ h36 (fun (r_20 : Int) => ⟨[(0, .b (.one (.sl 1 (borders0.map eI)))), (1, .b (.one (.sl 1 (home0.map eI)))), (2, .b (.one (.sl 6 (boxes0.map eBox)))), (9, .b (.row 104)), (11, I a_14), (12, I x_18), (13, I x_19), (14, I r_20)], [(104, .row 22 1 (known_7.map (eL 1 eI)))]⟩) [0, 1, 2, 9, 11, 12, 13, 14] [104] rfl ?_)))
         rintro r_20 o37 h38 hy39
         refine Tri.seq (Tri.seq (Tri.regionL ?_))
         refine Oc om (Oc om (Oc (op_len_e' und22 rfl (List.length_map _)) (Oc (op_leq rfl rfl) ?_)))
         refine OpsL.nilS ⟨[(0, _), (1, _), (2, _), (9, _), (11, _), (12, _), (13, _), (14, _), (96, B (decide (r_20 ≤ (borders0.length : Int))))], [(104, _)]⟩ rfl (Tri.ite h38 rfl (fun _ h38 => ?_) (fun _ h38 => ?_))
         ·refine Tri.skip (Fin.keepS ⟨[(0, _), (1, _), (2, _), (9, _), (11, _), (12, _), (13, _), (14, _)], [(104, _)]⟩ rfl (Fin.then (Tri.seq (Tri.block (Tri.seq ?_)))))
          refine Tri.keepS ⟨[(0, _), (1, _), (2, _), (9, _), (11, _), (12, _), (13, _), (14, _)], [(104, _)]⟩ rfl ?_
          obtain ⟨x_21, e40, h38⟩ := bnd h38
          obtain ⟨x_22, e41, h38⟩ := bnd h38
          obtain ⟨x_23, e42, h38⟩ := bnd h38
          refine Tri.regionY mixed 23 [.b (.row 104), I r_20, .b (.rptr 104 ((r_20 : Int).toNat * 1)), .b (.one (.sl 1 (x_21.map eI))), I a_14, B x_22, I r_20, .b (.one (.sl 1 (home0.map eI))), I a_14, .b (.eptr [.i x_23]), I x_23, B (decide (r_20 = x_23)), B (decide (r_20 = x_23)), .opt (!(decide (r_20 = x_23))) (.one (.i x_18)), .opt (!(decide (r_20 = x_23))) (.one (.i r_20)), .opt (!(decide (r_20 = x_23))) (.one (.bool (decide (x_18 ≤ r_20)))), .opt (!(decide (r_20 = x_23))) (.one (.bool (decide (x_18 ≤ r_20)))), .opt ((!(decide (r_20 = x_23))) && (decide (x_18 ≤ r_20))) (.one (.i r_20)), .opt ((!(decide (r_20 = x_23))) && (decide (x_18 ≤ r_20))) (.one (.i x_19)), .opt ((!(decide (r_20 = x_23))) && (decide (x_18 ≤ r_20))) (.one (.bool (decide (r_20 ≤ x_19)))), .opt (!(decide (r_20 = x_23))) (.one (.bool ((decide (x_18 ≤ r_20)) && (decide (r_20 ≤ x_19))))), B ((decide (r_20 = x_23)) || ((decide (x_18 ≤ r_20)) && (decide (r_20 ≤ x_19)))), B (x_22 != ((decide (r_20 = x_23)) || ((decide (x_18 ≤ r_20)) && (decide (r_20 ≤ x_19)))))] [0, 1, 2, 9, 11, 12, 13, 14, 121] [104] (s' := ⟨[(0, _), (1, _), (2, _), (9, _), (11, _), (12, _), (13, _), (14, _), (121, B (x_22 != ((decide (r_20 = x_23)) || ((decide (x_18 ≤ r_20)) && (decide (r_20 ≤ x_19))))))], [(104, _)]⟩) rfl ⟨fun _ => .p om, fun _ => .p om, fun _ => .p (op_index_r tySl23 (ix_lo e40) (ix_lt' e40) rfl rfl rfl rfl), fun _ => .p (op_load_r1 (i := (r_20 : Int).toNat) (f := 0) tyOne22 rfl rfl rfl (ix_map (e := (eL 1 eI)) e40) rfl), fun _ => .p om, fun _ => .p (op_call0 (skewbackref35_Has_spec e41) goes27 rfl rfl), fun _ => .p om, fun _ => .p om, fun _ => .p om, fun _ => .p (op_index_e tySl22 (ix_lo e42) (ix_map (e := eI) e42) rfl rfl), fun _ => .p (op_load_e1 tyOne3 rfl rfl), fun _ => .p (op_eql rfl rfl), fun _ => .p om, fun _ => by exact .guard (!(decide (r_20 = x_23))) 1 [] (.plain rfl) (eq_f _) rfl rfl (fun g43 => trivial) (fun g43 => om), fun _ => by exact .guard (!(decide (r_20 = x_23))) 1 [] (.plain rfl) (eq_f _) rfl rfl (fun g44 => trivial) (fun g44 => om), fun _ => by exact .guard (!(decide (r_20 = x_23))) 3 [112, 113] (.plain rfl) (eq_f _) rfl rfl (fun g45 => ⟨g45, g45, trivial⟩) (fun g45 => op_leq rfl rfl), fun _ => by exact .guard (!(decide (r_20 = x_23))) 3 [114] (.plain rfl) (eq_f _) rfl rfl (fun g46 => ⟨g46, trivial⟩) (fun g46 => om), fun _ => by exact .guard ((!(decide (r_20 = x_23))) && (decide (x_18 ≤ r_20))) 1 [] (.under rfl) (and_t _ _) rfl rfl (fun g47 => trivial) (fun g47 => om), fun _ => by exact .guard ((!(decide (r_20 = x_23))) && (decide (x_18 ≤ r_20))) 1 [] (.under rfl) (and_t _ _) rfl rfl (fun g48 => trivial) (fun g48 => om), fun _ => by exact .guard ((!(decide (r_20 = x_23))) && (decide (x_18 ≤ r_20))) 3 [116, 117] (.under rfl) (and_t _ _) rfl rfl (fun g49 => ⟨g49, g49, trivial⟩) (fun g49 => op_leq rfl rfl), fun _ => by exact .guard (!(decide (r_20 = x_23))) 3 [115] (.plain rfl) (eq_f _) rfl rfl (fun g50 => ⟨g50, trivial⟩) (fun g50 => op_pick_and (fun e => by rw [g50, e]; rfl) rfl rfl rfl rfl), fun _ => .p (op_pick_or (fun e => by first | (rw [e]; rfl) | (simp only at e; rw [e]; rfl)) rfl rfl rfl rfl), fun _ => .p (op_neq_bool und4 rfl rfl), trivial⟩ rfl rfl ?_
          refine Tri.ite h38 rfl (fun _ h38 => ?_) (fun _ h38 => ?_)
          ·refine Tri.seq (Tri.regionL ?_)
           refine Oc oa (OpsL.nilS ⟨[(6, B false)], []⟩ rfl (Tri.ret (Fin.block_ret (Fin.then_ret ?_))))
           obtain rfl := hy39 _ (Option.some.inj h38).symm
           refine Fin.then_ret (Fin.block_ret (Fin.then_ret (Fin.block_ret ?_)))
           obtain rfl := Option.some.inj h30
           refine Fin.then_ret ?_
           obtain rfl := hy28 _ (Option.some.inj h27).symm
           refine Fin.then_ret (Fin.block_ret (Fin.then_ret ?_))
           obtain rfl := Option.some.inj h
           refine Fin.keepS ⟨[(6, _)], []⟩ rfl (Fin.result' [.one (.bool false)] (.inl rfl) rfl (.cons (.tmp rfl) .nil) ⟨rfl, rfl⟩)
          ·refine Tri.skip (Fin.block_normal (Fin.keepS ⟨[(0, _), (1, _), (2, _), (9, _), (11, _), (12, _), (13, _), (14, _)], [(104, _)]⟩ rfl (Fin.then (Tri.regionL ?_))))
           refine Oc om (Oc (op_add rfl rfl) (Oc oa ?_))
           refine OpsL.nil ?_
           exact Fin.againJ [0, 1, 2, 9, 11, 12, 13, 14] [104] (IntKind.i64.wrap (r_20 + 1)) (Option.some.inj h38) rfl
         ·refine Tri.exit (Fin.then_exit ?_)
          obtain rfl := hy39 _ (Option.some.inj h38).symm
          refine Fin.then_exit (Fin.block_exit ?_)
          exact Fin.join [0, 1, 2, 9, 11, 12, 13] [104] () rfl rfl
        ·rintro _ hv
         subst v35
         refine Tri.seq (Tri.regionL ?_)
         refine Oc oa (OpsL.nilS ⟨[(0, _), (1, _), (2, _), (9, _), (11, _), (12, _), (13, _), (15, I 0)], [(104, _)]⟩ rfl (Tri.block ?_))
         obtain ⟨v51, h52, h30⟩ := bnd h30
         refine Tri.loopJ h52 (fun (b_24 : Int) => ⟨[(0, .b (.one (.sl 1 (borders0.map eI)))), (1, .b (.one (.sl 1 (home0.map eI)))), (2, .b (.one (.sl 6 (boxes0.map eBox)))), (9, .b (.row 104)), (11, I a_14), (12, I x_18), (13, I x_19), (15, I b_24)], [(104, .row 22 1 (known_7.map (eL 1 eI)))]⟩) [0, 1, 2, 9, 11, 12, 13, 15] [104] rfl ?_
         rintro b_24 o53 h54 hy55
         refine Tri.seq (Tri.seq (Tri.regionL ?_))
         refine Oc om (Oc om (Oc (op_lss rfl rfl) ?_))
         refine OpsL.nilS ⟨[(0, _), (1, _), (2, _), (9, _), (11, _), (12, _), (13, _), (15, _), (124, B (decide (b_24 < a_14)))], [(104, _)]⟩ rfl (Tri.ite h54 rfl (fun _ h54 => ?_) (fun _ h54 => ?_))
         ·refine Tri.skip (Fin.keepS ⟨[(0, _), (1, _), (2, _), (9, _), (11, _), (12, _), (13, _), (15, _)], [(104, _)]⟩ rfl (Fin.then ?_))
          obtain ⟨v56, h57, h54⟩ := bnd h54
          refine Tri.seqJ (v := v56) (fun (_ : Unit) => ⟨[(0, .b (.one (.sl 1 (borders0.map eI)))), (1, .b (.one (.sl 1 (home0.map eI)))), (2, .b (.one (.sl 6 (boxes0.map eBox)))), (9, .b (.row 104)), (11, I a_14), (12, I x_18), (13, I x_19), (15, I b_24)], [(104, .row 22 1 (known_7.map (eL 1 eI)))]⟩) (fun z => .inl z) ?_ ?_
          ·refine Tri.block (Tri.seq (Tri.seq ?_))
           refine Tri.keepS ⟨[(0, _), (1, _), (2, _), (9, _), (11, _), (12, _), (13, _), (15, _)], [(104, _)]⟩ rfl ?_
           obtain ⟨x_25, e58, h57⟩ := bnd h57
           obtain ⟨x_26, e62, h57⟩ := bnd h57
           obtain ⟨x_27, e67, h57⟩ := bnd h57
           obtain ⟨x_28, e70, h57⟩ := bnd h57
           refine Tri.regionY mixed 17 [.b (.one (.sl 1 (home0.map eI))), I b_24, .b (.eptr [.i x_25]), I x_25, B (decide (x_25 < 0)), B (decide (x_25 < 0)), .opt (!(decide (x_25 < 0))) (.one (.sl 6 (boxes0.map eBox))), .opt (!(decide (x_25 < 0))) (.one (.i a_14)), .opt (!(decide (x_25 < 0))) (.eptr (eBox x_26)), .opt (!(decide (x_25 < 0))) (.agg (eBox x_26)), .opt (!(decide (x_25 < 0))) (.one (.sl 6 (boxes0.map eBox))), .opt (!(decide (x_25 < 0))) (.one (.i b_24)), .opt (!(decide (x_25 < 0))) (.eptr (eBox x_27)), .opt (!(decide (x_25 < 0))) (.agg (eBox x_27)), .opt (!(decide (x_25 < 0))) (.one (.bool x_28)), .opt (!(decide (x_25 < 0))) (.one (.bool (!x_28))), B ((decide (x_25 < 0)) || (!x_28))] [0, 1, 2, 9, 11, 12, 13, 15, 143] [104] (s' := ⟨[(0, _), (1, _), (2, _), (9, _), (11, _), (12, _), (13, _), (15, _), (143, B ((decide (x_25 < 0)) || (!x_28)))], [(104, _)]⟩) rfl ⟨fun _ => .p om, fun _ => .p om, fun _ => .p (op_index_e tySl22 (ix_lo e58) (ix_map (e := eI) e58) rfl rfl), fun _ => .p (op_load_e1 tyOne3 rfl rfl), fun _ => .p (op_lss rfl rfl), fun _ => .p om, fun _ => by exact .guard (!(decide (x_25 < 0))) 1 [] (.plain rfl) (eq_f _) rfl rfl (fun g59 => trivial) (fun g59 => om), fun _ => by exact .guard (!(decide (x_25 < 0))) 1 [] (.plain rfl) (eq_f _) rfl rfl (fun g60 => trivial) (fun g60 => om), fun _ => by exact .guard (!(decide (x_25 < 0))) 3 [133, 134] (.plain rfl) (eq_f _) rfl rfl (fun g61 => ⟨g61, g61, trivial⟩) (fun g61 => op_index_e tySl70 (ix_lo (gc e62 g61)) (ix_map (e := eBox) (gc e62 g61)) rfl rfl), fun _ => by exact .guard (!(decide (x_25 < 0))) 2 [135] (.plain rfl) (eq_f _) rfl rfl (fun g63 => ⟨g63, trivial⟩) (fun g63 => op_load_e tyAgg89 rfl rfl rfl), fun _ => by exact .guard (!(decide (x_25 < 0))) 1 [] (.plain rfl) (eq_f _) rfl rfl (fun g64 => trivial) (fun g64 => om), fun _ => by exact .guard (!(decide (x_25 < 0))) 1 [] (.plain rfl) (eq_f _) rfl rfl (fun g65 => trivial) (fun g65 => om), fun _ => by exact .guard (!(decide (x_25 < 0))) 3 [137, 138] (.plain rfl) (eq_f _) rfl rfl (fun g66 => ⟨g66, g66, trivial⟩) (fun g66 => op_index_e tySl70 (ix_lo (gc e67 g66)) (ix_map (e := eBox) (gc e67 g66)) rfl rfl), fun _ => by exact .guard (!(decide (x_25 < 0))) 2 [139] (.plain rfl) (eq_f _) rfl rfl (fun g68 => ⟨g68, trivial⟩) (fun g68 => op_load_e tyAgg89 rfl rfl rfl), fun _ => by exact .guard (!(decide (x_25 < 0))) 4 [136, 140] (.plain rfl) (eq_f _) rfl rfl (fun g69 => ⟨g69, g69, trivial⟩) (fun g69 => op_call0 (broad_Meet_spec (gc e70 g69)) goes40 rfl rfl), fun _ => by exact .guard (!(decide (x_25 < 0))) 2 [141] (.plain rfl) (eq_f _) rfl rfl (fun g71 => ⟨g71, trivial⟩) (fun g71 => op_not rfl), fun _ => .p (op_pick_or (fun e => by first | (rw [e]; rfl) | (simp only at e; rw [e]; rfl)) rfl rfl rfl rfl), trivial⟩ rfl rfl ?_
           refine Tri.ite h57 rfl (fun _ h57 => ?_) (fun _ h57 => ?_)
           ·refine Tri.exit (Fin.then_exit (Fin.block_exit ?_))
            exact Fin.join [0, 1, 2, 9, 11, 12, 13, 15] [104] () (Option.some.inj h57) rfl
           ·refine Tri.skip (Fin.keepS ⟨[(0, _), (1, _), (2, _), (9, _), (11, _), (12, _), (13, _), (15, _)], [(104, _)]⟩ rfl (Fin.then (Tri.seq ?_)))
            refine Tri.keepS ⟨[(0, _), (1, _), (2, _), (9, _), (11, _), (12, _), (13, _), (15, _)], [(104, _)]⟩ rfl ?_
            obtain ⟨x_29, e72, h57⟩ := bnd h57
            obtain ⟨x_30, e73, h57⟩ := bnd h57
            obtain ⟨⟨x_31, x_32⟩, e74, h57⟩ := bnd h57
            refine Tri.regionY mixed 19 [.b (.one (.sl 1 (borders0.map eI))), .b (.one (.sl 6 (boxes0.map eBox))), I b_24, .b (.eptr (eBox x_29)), .b (.eptr (eBox x_29)), .b (.eptr [.i x_29.Lo.a0]), I x_29.Lo.a0, .b (.one (.sl 6 (boxes0.map eBox))), I b_24, .b (.eptr (eBox x_30)), .b (.eptr ((eA3 .i64) x_30.Hi)), .b (.eptr [.i x_30.Hi.a0]), I x_30.Hi.a0, .tup [.one (.i x_31), .one (.i x_32)], .tup [.one (.i x_31), .one (.i x_32)], I x_31, I x_32, I x_31, I x_32] [0, 1, 2, 9, 11, 12, 13, 15, 16, 17] [104] (s' := ⟨[(0, _), (1, _), (2, _), (9, _), (11, _), (12, _), (13, _), (15, _), (16, I x_31), (17, I x_32)], [(104, _)]⟩) rfl ⟨fun _ => .p om, fun _ => .p om, fun _ => .p om, fun _ => .p (op_index_e tySl70 (ix_lo e72) (ix_map (e := eBox) e72) rfl rfl), fun _ => by exact .p (op_field_e tyFld89_0 rfl rfl), fun _ => .p (op_index_ea tyArr87 (by decide) (by decide) rfl rfl rfl), fun _ => .p (op_load_e1 tyOne3 rfl rfl), fun _ => .p om, fun _ => .p om, fun _ => .p (op_index_e tySl70 (ix_lo e73) (ix_map (e := eBox) e73) rfl rfl), fun _ => by exact .p (op_field_e tyFld89_1 rfl rfl), fun _ => .p (op_index_ea tyArr87 (by decide) (by decide) rfl rfl rfl), fun _ => .p (op_load_e1 tyOne3 rfl rfl), fun _ => .p (op_call0 (owner_Reach_spec e74) goes36 rfl rfl), fun _ => .p om, fun _ => .p (op_extract rfl rfl), fun _ => .p (op_extract rfl rfl), fun _ => .p oa, fun _ => .p oa, trivial⟩ rfl rfl (Tri.seq (Tri.regionL ?_))
            refine Oc om (Oc om (Oc (op_max rfl rfl) (Oc om (Oc om (Oc (op_min rfl rfl) ?_)))))
            refine Oc (op_gtr rfl rfl) (OpsL.nilS ⟨[(0, _), (1, _), (2, _), (9, _), (11, _), (12, _), (13, _), (15, _), (167, B (decide ((min x_19 x_32) < (max x_18 x_31))))], [(104, _)]⟩ rfl (Tri.ite h57 rfl (fun _ h57 => ?_) (fun _ h57 => ?_)))
            ·refine Tri.seq (Tri.regionL ?_)
             refine Oc oa (OpsL.nilS ⟨[(6, B false)], []⟩ rfl (Tri.ret (Fin.block_ret ?_)))
             obtain rfl := Option.some.inj h57
             refine Fin.then_ret ?_
             obtain rfl := hy55 _ (Option.some.inj h54).symm
             refine Fin.then_ret (Fin.block_ret (Fin.block_ret ?_))
             obtain rfl := Option.some.inj h30
             refine Fin.then_ret ?_
             obtain rfl := hy28 _ (Option.some.inj h27).symm
             refine Fin.then_ret (Fin.block_ret (Fin.then_ret ?_))
             obtain rfl := Option.some.inj h
             refine Fin.keepS ⟨[(6, _)], []⟩ rfl (Fin.result' [.one (.bool false)] (.inl rfl) rfl (.cons (.tmp rfl) .nil) ⟨rfl, rfl⟩)
            ·refine Tri.skip (Fin.block_normal ?_)
             exact Fin.join [0, 1, 2, 9, 11, 12, 13, 15] [104] () (Option.some.inj h57) rfl
          ·rintro _ hv
           subst v56
           refine Tri.regionL (Oc om (Oc (op_add rfl rfl) (Oc oa ?_)))
           refine OpsL.nil ?_
           exact Fin.againJ [0, 1, 2, 9, 11, 12, 13, 15] [104] (IntKind.i64.wrap (b_24 + 1)) (Option.some.inj h54) rfl
         ·refine Tri.exit (Fin.then_exit ?_)
          obtain rfl := hy55 _ (Option.some.inj h54).symm
          refine Fin.then_exit (Fin.block_exit (Fin.block_normal ?_))
          exact Fin.join [0, 1, 2, 9, 11] [104] () (Option.some.inj h30) rfl
      ·rintro _ hv
       subst v29
       refine Tri.regionL (Oc om (Oc (op_add rfl rfl) (Oc oa ?_)))
       refine OpsL.nil ?_
       exact Fin.againJ [0, 1, 2, 9, 11] [104] (IntKind.i64.wrap (a_14 + 1)) (Option.some.inj h27) rfl
     ·refine Tri.exit (Fin.then_exit ?_)
      obtain rfl := hy28 _ (Option.some.inj h27).symm
      refine Fin.then_exit (Fin.block_exit ?_)
      exact Fin.join [] [] () rfl rfl
    ·rintro _ hv
     subst v24
     refine Tri.seq (Tri.regionL ?_)
     obtain ⟨x_33, e75, h⟩ := bnd h
     refine Oc (op_call0 (skewbacklaw44_sanity_spec e75) goes10 rfl rfl) (Oc oa ?_)
     refine OpsL.nilS ⟨[(6, B x_33)], []⟩ rfl (Tri.ret ?_)
     obtain rfl := Option.some.inj h
     refine Fin.keepS ⟨[(6, _)], []⟩ rfl (Fin.result' [.one (.bool x_33)] (.inl rfl) rfl (.cons (.tmp rfl) .nil) ⟨rfl, rfl⟩)
end Go.Proofs.Ytnpddoaeoefcnaa

