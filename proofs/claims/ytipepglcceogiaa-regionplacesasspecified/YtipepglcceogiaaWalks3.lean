/- Printed by a program of the prover's (s41.py): the walks of chapter 41. -/
import Derived.Test.YtipepglcceogiaaRows
import Derived.Test.YtipepglcceogiaaPlain
import Derived.Test.YtipepglcceogiaaWalks2
namespace Go.Proofs.Ytipepglcceogiaa
open Go.Sk
set_option maxHeartbeats 1000000
set_option maxRecDepth 4000
set_option linter.unusedSimpArgs false
set_option linter.unusedVariables false
theorem holder_spec (all : List (List Holding)) (c : Int) (hlen : all.length ≤ 9223372036854775807) (hall : ∀ j, 0 ≤ j → j < (all.length : Int) → (idx all j).length ≤ 4611686018427387904) : Meets Try.prog 39 [] [.one (.sl 1 (all.map (eL 5 eHolding))), .one (.i c)] (Is [] (.b (.one (.i (holdS all c))))) := by
  refine Meets.intro 58 Try.func39 Try.ntmps39 rfl (by simp) fun E => ?_
  show Tri _ E ⟨58, [], []⟩ _ ⟨[(0, .b (.one (.sl 1 (all.map (eL 5 eHolding))))), (1, I c)], []⟩ _
  refine Tri.seq ?_
  refine Tri.regionL ?_
  refine OpsL.cons rfl (op_assign rfl) ?_
  refine OpsL.nilK [0, 1] [] (s' := ⟨[(0, .b (.one (.sl 1 (all.map (eL 5 eHolding))))), (1, I c)], []⟩) rfl ?_
  refine Tri.seq ?_
  refine Tri.regionL ?_
  refine OpsL.cons rfl (op_assign rfl) ?_
  refine OpsL.nilK [0, 1, 5] [] (s' := ⟨[(0, .b (.one (.sl 1 (all.map (eL 5 eHolding))))), (1, I c), (5, I (-1))], []⟩) rfl ?_
  refine Tri.seq ?_
  refine Tri.regionL ?_
  refine OpsL.cons rfl (op_alloc (k := 101) tyZero59 rfl) ?_
  refine OpsL.nilK [0, 1, 5, 6] [101] (s' := ⟨[(0, .b (.one (.sl 1 (all.map (eL 5 eHolding))))), (1, I c), (5, I (-1)), (6, .b (.ptr 101 0))], [(101, .box 59 [.i 0, .i 0, .i 0, .i 0, .str []])]⟩) rfl ?_
  refine Tri.seq ?_
  refine Tri.seq ?_
  refine Tri.regionL ?_
  refine OpsL.cons rfl (op_move rfl) ?_
  refine OpsL.cons rfl (op_len_e' und37 rfl (List.length_map _)) ?_
  refine OpsL.cons rfl (op_move rfl) ?_
  refine OpsL.nilK [1, 5, 6, 10, 11, 12] [101] (s' := ⟨[(1, I c), (5, I (-1)), (6, .b (.ptr 101 0)), (10, .b (.one (.sl 1 (all.map (eL 5 eHolding))))), (11, I (all.length : Int)), (12, I 0)], [(101, .box 59 [.i 0, .i 0, .i 0, .i 0, .str []])]⟩) rfl ?_
  refine Tri.block ?_
  refine Tri.keep [1, 5, 6, 10, 11, 12] [101] (s' := ⟨[(1, I c), (5, I (-1)), (6, .b (.ptr 101 0)), (10, .b (.one (.sl 1 (all.map (eL 5 eHolding))))), (11, I (all.length : Int)), (12, I 0)], [(101, .box 59 [.i 0, .i 0, .i 0, .i 0, .str []])]⟩) rfl ?_
  refine Tri.loop (ι := Int × Int × Int × Int × Int × Int × Str) (fun j => match j with | ⟨b, k, tb, te, tp, tr, td⟩ => ⟨[(1, I c), (5, I b), (6, .b (.ptr 101 0)), (10, .b (.one (.sl 1 (all.map (eL 5 eHolding))))), (11, I (all.length : Int)), (12, I k)], [(101, .box 59 [.i tb, .i te, .i tp, .i tr, .str td])]⟩) (fun j => match j with | ⟨b, k, tb, te, tp, tr, td⟩ => 0 ≤ k ∧ k ≤ all.length ∧ holdGo c (all.drop k.toNat) k b ⟨tb, te, tp, tr, td⟩ = holdS all c) (fun j => match j with | ⟨b, k, tb, te, tp, tr, td⟩ => (all.length - k).toNat) ((-1), 0, 0, 0, 0, 0, []) (by exact ⟨by omega, by omega, rfl⟩) rfl ?_
  rintro ⟨b, k, tb, te, tp, tr, td⟩ ⟨h0, h1, hst⟩
  show Tri _ _ _ _ ⟨[(1, I c), (5, I b), (6, .b (.ptr 101 0)), (10, .b (.one (.sl 1 (all.map (eL 5 eHolding))))), (11, I (all.length : Int)), (12, I k)], [(101, .box 59 [.i tb, .i te, .i tp, .i tr, .str td])]⟩ _
  refine Tri.seq ?_
  refine Tri.regionL ?_
  refine OpsL.cons rfl (op_lss rfl rfl) ?_
  refine OpsL.nilK [1, 5, 6, 10, 11, 12, 13] [101] (s' := ⟨[(1, I c), (5, I b), (6, .b (.ptr 101 0)), (10, .b (.one (.sl 1 (all.map (eL 5 eHolding))))), (11, I (all.length : Int)), (12, I k), (13, B (decide (k < (all.length : Int))))], [(101, .box 59 [.i tb, .i te, .i tp, .i tr, .str td])]⟩) rfl ?_
  refine Tri.seq ?_
  refine Tri.cond rfl (fun hc1 => ?_) (fun hc1 => ?_)
  · try simp only [decide_eq_true_eq, decide_eq_false_iff_not, Bool.and_eq_true, Bool.or_eq_true, Bool.not_eq_true', Bool.not_eq_false', Bool.and_eq_false_iff, Bool.or_eq_false_iff, Int.not_lt, Int.not_le, ne_eq, Decidable.not_not] at hc1
    refine Tri.skip ?_
    refine Fin.keep [1, 5, 6, 10, 11, 12] [101] (s' := ⟨[(1, I c), (5, I b), (6, .b (.ptr 101 0)), (10, .b (.one (.sl 1 (all.map (eL 5 eHolding))))), (11, I (all.length : Int)), (12, I k)], [(101, .box 59 [.i tb, .i te, .i tp, .i tr, .str td])]⟩) rfl ?_
    refine Fin.then ?_
    refine Tri.seq ?_
    refine Tri.block ?_
    refine Tri.seq ?_
    refine Tri.regionL ?_
    refine OpsL.cons rfl (op_move rfl) ?_
    refine OpsL.cons rfl (op_index_e tySl37 (by omega) (map_idx (by omega) (by omega)) rfl rfl) ?_
    refine OpsL.cons rfl (op_load_e1 tyOne42 rfl rfl) ?_
    refine OpsL.cons rfl (op_assign rfl) ?_
    refine OpsL.cons rfl (op_assign rfl) ?_
    refine OpsL.nilK [1, 5, 6, 7, 8, 10, 11, 12] [101] (s' := ⟨[(1, I c), (5, I b), (6, .b (.ptr 101 0)), (7, I k), (8, .b (.one (.sl 5 ((idx all k).map eHolding)))), (10, .b (.one (.sl 1 (all.map (eL 5 eHolding))))), (11, I (all.length : Int)), (12, I k)], [(101, .box 59 [.i tb, .i te, .i tp, .i tr, .str td])]⟩) rfl ?_
    refine Tri.seq ?_
    refine Tri.regionL ?_
    refine OpsL.cons rfl (op_move rfl) ?_
    refine OpsL.cons rfl (op_move rfl) ?_
    refine OpsL.cons rfl (op_call0 (get_spec (idx all k) c (hall k (by omega) (by omega))) goes30 rfl rfl) ?_
    refine OpsL.cons rfl (op_alloc (k := 102) tyZero59 rfl) ?_
    refine OpsL.cons rfl (op_store_p tyAgg59 rfl rfl rfl rfl (Nat.le_of_ble_eq_true rfl) rfl) ?_
    refine OpsL.nilK [1, 5, 6, 7, 9, 10, 11, 12] [101, 102] (s' := ⟨[(1, I c), (5, I b), (6, .b (.ptr 101 0)), (7, I k), (9, .b (.ptr 102 0)), (10, .b (.one (.sl 1 (all.map (eL 5 eHolding))))), (11, I (all.length : Int)), (12, I k)], [(101, .box 59 [.i tb, .i te, .i tp, .i tr, .str td]), (102, .box 59 [.i ((getP (idx all k) c).Body), .i ((getP (idx all k) c).Epoch), .i ((getP (idx all k) c).Phase), .i ((getP (idx all k) c).Peer), .str ((getP (idx all k) c).Data)])]⟩) rfl ?_
    refine Tri.seq ?_
    refine Tri.seq ?_
    refine Tri.regionL ?_
    refine OpsL.cons rfl (op_field_p tyFld59_2 rfl rfl) ?_
    refine OpsL.cons rfl (op_load_p1 tyOne3 rfl rfl rfl) ?_
    refine OpsL.cons rfl (op_eql rfl rfl) ?_
    refine OpsL.cons rfl (op_move rfl) ?_
    refine OpsL.consG (!(decide (((getP (idx all k) c).Phase) = 0))) 99 [] (.plain rfl) (eq_f _) rfl rfl (fun hg2 => trivial) (fun hg2 => (op_field_p tyFld59_2 rfl rfl)) ?_
    refine OpsL.consG (!(decide (((getP (idx all k) c).Phase) = 0))) 99 [24] (.plain rfl) (eq_f _) rfl rfl (fun hg3 => ⟨hg3, trivial⟩) (fun hg3 => (op_load_p1 tyOne3 rfl rfl rfl)) ?_
    refine OpsL.consG (!(decide (((getP (idx all k) c).Phase) = 0))) 99 [25] (.plain rfl) (eq_f _) rfl rfl (fun hg4 => ⟨hg4, trivial⟩) (fun hg4 => (op_eql rfl rfl)) ?_
    refine OpsL.cons rfl (op_pick_or (fun e => by first | exact e | (rw [e]; rfl) | simp_all) rfl rfl rfl rfl) ?_
    refine OpsL.nilK [1, 5, 6, 7, 9, 10, 11, 12, 27] [101, 102] (s' := ⟨[(1, I c), (5, I b), (6, .b (.ptr 101 0)), (7, I k), (9, .b (.ptr 102 0)), (10, .b (.one (.sl 1 (all.map (eL 5 eHolding))))), (11, I (all.length : Int)), (12, I k), (27, B ((decide (((getP (idx all k) c).Phase) = 0)) || (decide (((getP (idx all k) c).Phase) = 4))))], [(101, .box 59 [.i tb, .i te, .i tp, .i tr, .str td]), (102, .box 59 [.i ((getP (idx all k) c).Body), .i ((getP (idx all k) c).Epoch), .i ((getP (idx all k) c).Phase), .i ((getP (idx all k) c).Peer), .str ((getP (idx all k) c).Data)])]⟩) rfl ?_
    refine Tri.cond rfl (fun hc5 => ?_) (fun hc5 => ?_)
    · try simp only [decide_eq_true_eq, decide_eq_false_iff_not, Bool.and_eq_true, Bool.or_eq_true, Bool.not_eq_true', Bool.not_eq_false', Bool.and_eq_false_iff, Bool.or_eq_false_iff, Int.not_lt, Int.not_le, ne_eq, Decidable.not_not] at hc5
      have hsk : holdSkip (getP (idx all k) c) = true := by simp_all [holdSkip]
      refine Tri.exit ?_
      refine Fin.then_exit ?_
      refine Fin.block_exit ?_
      refine Fin.keep [1, 5, 6, 10, 11, 12] [101] (s' := ⟨[(1, I c), (5, I b), (6, .b (.ptr 101 0)), (10, .b (.one (.sl 1 (all.map (eL 5 eHolding))))), (11, I (all.length : Int)), (12, I k)], [(101, .box 59 [.i tb, .i te, .i tp, .i tr, .str td])]⟩) rfl ?_
      refine Fin.then ?_
      refine Tri.regionL ?_
      refine OpsL.cons rfl (op_add' (inR_i64 (by omega) (by omega)) rfl rfl) ?_
      refine OpsL.cons rfl (op_move rfl) ?_
      refine OpsL.nil ?_
      refine Fin.keep [1, 5, 6, 10, 11, 12] [101] (s' := ⟨[(1, I c), (5, I b), (6, .b (.ptr 101 0)), (10, .b (.one (.sl 1 (all.map (eL 5 eHolding))))), (11, I (all.length : Int)), (12, I (k + 1))], [(101, .box 59 [.i tb, .i te, .i tp, .i tr, .str td])]⟩) rfl ?_
      refine Fin.again (b, k + 1, tb, te, tp, tr, td) (by exact ⟨by omega, by omega, hold_skip hst (by omega) (by omega) hsk⟩) (by first | omega | (dsimp only; omega)) rfl
    · try simp only [decide_eq_true_eq, decide_eq_false_iff_not, Bool.and_eq_true, Bool.or_eq_true, Bool.not_eq_true', Bool.not_eq_false', Bool.and_eq_false_iff, Bool.or_eq_false_iff, Int.not_lt, Int.not_le, ne_eq, Decidable.not_not] at hc5
      have hsk : holdSkip (getP (idx all k) c) = false := by simp_all [holdSkip]
      refine Tri.skip ?_
      refine Fin.keep [1, 5, 6, 7, 9, 10, 11, 12] [101, 102] (s' := ⟨[(1, I c), (5, I b), (6, .b (.ptr 101 0)), (7, I k), (9, .b (.ptr 102 0)), (10, .b (.one (.sl 1 (all.map (eL 5 eHolding))))), (11, I (all.length : Int)), (12, I k)], [(101, .box 59 [.i tb, .i te, .i tp, .i tr, .str td]), (102, .box 59 [.i ((getP (idx all k) c).Body), .i ((getP (idx all k) c).Epoch), .i ((getP (idx all k) c).Phase), .i ((getP (idx all k) c).Peer), .str ((getP (idx all k) c).Data)])]⟩) rfl ?_
      refine Fin.then ?_
      refine Tri.seq ?_
      refine Tri.regionL ?_
      refine OpsL.cons rfl (op_move rfl) ?_
      refine OpsL.cons rfl (op_lss rfl rfl) ?_
      refine OpsL.cons rfl (op_move rfl) ?_
      refine OpsL.consG (!(decide (b < 0))) 99 [] (.plain rfl) (eq_f _) rfl rfl (fun hg6 => trivial) (fun hg6 => (op_field_p tyFld59_1 rfl rfl)) ?_
      refine OpsL.consG (!(decide (b < 0))) 99 [31] (.plain rfl) (eq_f _) rfl rfl (fun hg7 => ⟨hg7, trivial⟩) (fun hg7 => (op_load_p1 tyOne3 rfl rfl rfl)) ?_
      refine OpsL.consG (!(decide (b < 0))) 99 [] (.plain rfl) (eq_f _) rfl rfl (fun hg8 => trivial) (fun hg8 => (op_field_p tyFld59_1 rfl rfl)) ?_
      refine OpsL.consG (!(decide (b < 0))) 99 [33] (.plain rfl) (eq_f _) rfl rfl (fun hg9 => ⟨hg9, trivial⟩) (fun hg9 => (op_load_p1 tyOne3 rfl rfl rfl)) ?_
      refine OpsL.keep [1, 5, 6, 7, 9, 10, 11, 12, 30, 32, 34] [101, 102] (s' := ⟨[(1, I c), (5, I b), (6, .b (.ptr 101 0)), (7, I k), (9, .b (.ptr 102 0)), (10, .b (.one (.sl 1 (all.map (eL 5 eHolding))))), (11, I (all.length : Int)), (12, I k), (30, B (decide (b < 0))), (32, .opt (!(decide (b < 0))) (.one (.i ((getP (idx all k) c).Epoch)))), (34, .opt (!(decide (b < 0))) (.one (.i te)))], [(101, .box 59 [.i tb, .i te, .i tp, .i tr, .str td]), (102, .box 59 [.i ((getP (idx all k) c).Body), .i ((getP (idx all k) c).Epoch), .i ((getP (idx all k) c).Phase), .i ((getP (idx all k) c).Peer), .str ((getP (idx all k) c).Data)])]⟩) rfl ?_
      refine OpsL.consG (!(decide (b < 0))) 99 [32, 34] (.plain rfl) (eq_f _) rfl rfl (fun hg10 => ⟨hg10, hg10, trivial⟩) (fun hg10 => (op_gtr rfl rfl)) ?_
      refine OpsL.cons rfl (op_pick_or (fun e => by first | exact e | (rw [e]; rfl) | simp_all) rfl rfl rfl rfl) ?_
      refine OpsL.cons rfl (op_move rfl) ?_
      refine OpsL.consG (!((decide (b < 0)) || (decide (te < ((getP (idx all k) c).Epoch))))) 99 [] (.plain rfl) (eq_f _) rfl rfl (fun hg11 => trivial) (fun hg11 => (op_field_p tyFld59_1 rfl rfl)) ?_
      refine OpsL.consG (!((decide (b < 0)) || (decide (te < ((getP (idx all k) c).Epoch))))) 99 [38] (.plain rfl) (eq_f _) rfl rfl (fun hg12 => ⟨hg12, trivial⟩) (fun hg12 => (op_load_p1 tyOne3 rfl rfl rfl)) ?_
      refine OpsL.consG (!((decide (b < 0)) || (decide (te < ((getP (idx all k) c).Epoch))))) 99 [] (.plain rfl) (eq_f _) rfl rfl (fun hg13 => trivial) (fun hg13 => (op_field_p tyFld59_1 rfl rfl)) ?_
      refine OpsL.consG (!((decide (b < 0)) || (decide (te < ((getP (idx all k) c).Epoch))))) 99 [40] (.plain rfl) (eq_f _) rfl rfl (fun hg14 => ⟨hg14, trivial⟩) (fun hg14 => (op_load_p1 tyOne3 rfl rfl rfl)) ?_
      refine OpsL.keep [1, 5, 6, 7, 9, 10, 11, 12, 37, 39, 41] [101, 102] (s' := ⟨[(1, I c), (5, I b), (6, .b (.ptr 101 0)), (7, I k), (9, .b (.ptr 102 0)), (10, .b (.one (.sl 1 (all.map (eL 5 eHolding))))), (11, I (all.length : Int)), (12, I k), (37, B ((decide (b < 0)) || (decide (te < ((getP (idx all k) c).Epoch))))), (39, .opt (!((decide (b < 0)) || (decide (te < ((getP (idx all k) c).Epoch))))) (.one (.i ((getP (idx all k) c).Epoch)))), (41, .opt (!((decide (b < 0)) || (decide (te < ((getP (idx all k) c).Epoch))))) (.one (.i te)))], [(101, .box 59 [.i tb, .i te, .i tp, .i tr, .str td]), (102, .box 59 [.i ((getP (idx all k) c).Body), .i ((getP (idx all k) c).Epoch), .i ((getP (idx all k) c).Phase), .i ((getP (idx all k) c).Peer), .str ((getP (idx all k) c).Data)])]⟩) rfl ?_
      refine OpsL.consG (!((decide (b < 0)) || (decide (te < ((getP (idx all k) c).Epoch))))) 99 [39, 41] (.plain rfl) (eq_f _) rfl rfl (fun hg15 => ⟨hg15, hg15, trivial⟩) (fun hg15 => (op_eql rfl rfl)) ?_
      refine OpsL.consG (!((decide (b < 0)) || (decide (te < ((getP (idx all k) c).Epoch))))) 99 [42] (.plain rfl) (eq_f _) rfl rfl (fun hg16 => ⟨hg16, trivial⟩) (fun hg16 => (op_move rfl)) ?_
      refine OpsL.consG ((!((decide (b < 0)) || (decide (te < ((getP (idx all k) c).Epoch))))) && (decide (((getP (idx all k) c).Epoch) = te))) 99 [] (.under rfl) (and_t _ _) rfl rfl (fun hg17 => trivial) (fun hg17 => (op_field_p tyFld59_2 rfl rfl)) ?_
      refine OpsL.consG ((!((decide (b < 0)) || (decide (te < ((getP (idx all k) c).Epoch))))) && (decide (((getP (idx all k) c).Epoch) = te))) 99 [44] (.under rfl) (and_t _ _) rfl rfl (fun hg18 => ⟨hg18, trivial⟩) (fun hg18 => (op_load_p1 tyOne3 rfl rfl rfl)) ?_
      refine OpsL.consG ((!((decide (b < 0)) || (decide (te < ((getP (idx all k) c).Epoch))))) && (decide (((getP (idx all k) c).Epoch) = te))) 99 [45] (.under rfl) (and_t _ _) rfl rfl (fun hg19 => ⟨hg19, trivial⟩) (fun hg19 => (op_eql rfl rfl)) ?_
      refine OpsL.consG (!((decide (b < 0)) || (decide (te < ((getP (idx all k) c).Epoch))))) 99 [43] (.plain rfl) (eq_f _) rfl rfl (fun hg20 => ⟨hg20, trivial⟩) (fun hg20 => (op_pick_and (fun e => by first | exact e | (rw [e]; rfl) | simp_all) rfl rfl rfl rfl)) ?_
      refine OpsL.consG (!((decide (b < 0)) || (decide (te < ((getP (idx all k) c).Epoch))))) 99 [47] (.plain rfl) (eq_f _) rfl rfl (fun hg21 => ⟨hg21, trivial⟩) (fun hg21 => (op_move rfl)) ?_
      refine OpsL.keep [1, 5, 6, 7, 9, 10, 11, 12, 37, 48] [101, 102] (s' := ⟨[(1, I c), (5, I b), (6, .b (.ptr 101 0)), (7, I k), (9, .b (.ptr 102 0)), (10, .b (.one (.sl 1 (all.map (eL 5 eHolding))))), (11, I (all.length : Int)), (12, I k), (37, B ((decide (b < 0)) || (decide (te < ((getP (idx all k) c).Epoch))))), (48, .opt (!((decide (b < 0)) || (decide (te < ((getP (idx all k) c).Epoch))))) (.one (.bool ((decide (((getP (idx all k) c).Epoch) = te)) && (decide (((getP (idx all k) c).Phase) = 1))))))], [(101, .box 59 [.i tb, .i te, .i tp, .i tr, .str td]), (102, .box 59 [.i ((getP (idx all k) c).Body), .i ((getP (idx all k) c).Epoch), .i ((getP (idx all k) c).Phase), .i ((getP (idx all k) c).Peer), .str ((getP (idx all k) c).Data)])]⟩) rfl ?_
      refine OpsL.consG ((!((decide (b < 0)) || (decide (te < ((getP (idx all k) c).Epoch))))) && ((decide (((getP (idx all k) c).Epoch) = te)) && (decide (((getP (idx all k) c).Phase) = 1)))) 99 [] (.under rfl) (and_t _ _) rfl rfl (fun hg22 => trivial) (fun hg22 => (op_field_p tyFld59_2 rfl rfl)) ?_
      refine OpsL.consG ((!((decide (b < 0)) || (decide (te < ((getP (idx all k) c).Epoch))))) && ((decide (((getP (idx all k) c).Epoch) = te)) && (decide (((getP (idx all k) c).Phase) = 1)))) 99 [49] (.under rfl) (and_t _ _) rfl rfl (fun hg23 => ⟨hg23, trivial⟩) (fun hg23 => (op_load_p1 tyOne3 rfl rfl rfl)) ?_
      refine OpsL.consG ((!((decide (b < 0)) || (decide (te < ((getP (idx all k) c).Epoch))))) && ((decide (((getP (idx all k) c).Epoch) = te)) && (decide (((getP (idx all k) c).Phase) = 1)))) 99 [50] (.under rfl) (and_t _ _) rfl rfl (fun hg24 => ⟨hg24, trivial⟩) (fun hg24 => (op_neq rfl rfl)) ?_
      refine OpsL.consG (!((decide (b < 0)) || (decide (te < ((getP (idx all k) c).Epoch))))) 99 [48] (.plain rfl) (eq_f _) rfl rfl (fun hg25 => ⟨hg25, trivial⟩) (fun hg25 => (op_pick_and (fun e => by first | exact e | (rw [e]; rfl) | simp_all) rfl rfl rfl rfl)) ?_
      refine OpsL.cons rfl (op_pick_or (fun e => by first | exact e | (rw [e]; rfl) | simp_all) rfl rfl rfl rfl) ?_
      refine OpsL.nilK [1, 5, 6, 7, 9, 10, 11, 12, 53] [101, 102] (s' := ⟨[(1, I c), (5, I b), (6, .b (.ptr 101 0)), (7, I k), (9, .b (.ptr 102 0)), (10, .b (.one (.sl 1 (all.map (eL 5 eHolding))))), (11, I (all.length : Int)), (12, I k), (53, B (((decide (b < 0)) || (decide (te < ((getP (idx all k) c).Epoch)))) || (((decide (((getP (idx all k) c).Epoch) = te)) && (decide (((getP (idx all k) c).Phase) = 1))) && (decide (tp ≠ 1)))))], [(101, .box 59 [.i tb, .i te, .i tp, .i tr, .str td]), (102, .box 59 [.i ((getP (idx all k) c).Body), .i ((getP (idx all k) c).Epoch), .i ((getP (idx all k) c).Phase), .i ((getP (idx all k) c).Peer), .str ((getP (idx all k) c).Data)])]⟩) rfl ?_
      refine Tri.cond rfl (fun hc26 => ?_) (fun hc26 => ?_)
      · try simp only [decide_eq_true_eq, decide_eq_false_iff_not, Bool.and_eq_true, Bool.or_eq_true, Bool.not_eq_true', Bool.not_eq_false', Bool.and_eq_false_iff, Bool.or_eq_false_iff, Int.not_lt, Int.not_le, ne_eq, Decidable.not_not] at hc26
        have htk : holdTake b ⟨tb, te, tp, tr, td⟩ (getP (idx all k) c) = true := by simp_all [holdTake]
        refine Tri.keep [1, 6, 7, 9, 10, 11, 12] [101, 102] (s' := ⟨[(1, I c), (6, .b (.ptr 101 0)), (7, I k), (9, .b (.ptr 102 0)), (10, .b (.one (.sl 1 (all.map (eL 5 eHolding))))), (11, I (all.length : Int)), (12, I k)], [(101, .box 59 [.i tb, .i te, .i tp, .i tr, .str td]), (102, .box 59 [.i ((getP (idx all k) c).Body), .i ((getP (idx all k) c).Epoch), .i ((getP (idx all k) c).Phase), .i ((getP (idx all k) c).Peer), .str ((getP (idx all k) c).Data)])]⟩) rfl ?_
        refine Tri.regionTF mixed (sf := ⟨[(1, I c), (5, I k), (6, .b (.ptr 101 0)), (10, .b (.one (.sl 1 (all.map (eL 5 eHolding))))), (11, I (all.length : Int)), (12, I k)], [(101, .box 59 [.i ((getP (idx all k) c).Body), .i ((getP (idx all k) c).Epoch), .i ((getP (idx all k) c).Phase), .i ((getP (idx all k) c).Peer), .str ((getP (idx all k) c).Data)])]⟩) [([false, false, false, false], [0, 1], ⟨[(1, I c), (6, .b (.ptr 101 0)), (7, I k), (9, .b (.ptr 102 0)), (10, .b (.one (.sl 1 (all.map (eL 5 eHolding))))), (11, I (all.length : Int)), (12, I k)], [(101, .box 59 [.i tb, .i te, .i tp, .i tr, .str td]), (102, .box 59 [.i ((getP (idx all k) c).Body), .i ((getP (idx all k) c).Epoch), .i ((getP (idx all k) c).Phase), .i ((getP (idx all k) c).Peer), .str ((getP (idx all k) c).Data)])]⟩), ([true, false, false, false], [1, 2], ⟨[(1, I c), (6, .b (.ptr 101 0)), (9, .b (.ptr 102 0)), (10, .b (.one (.sl 1 (all.map (eL 5 eHolding))))), (11, I (all.length : Int)), (12, I k), (54, I k)], [(101, .box 59 [.i tb, .i te, .i tp, .i tr, .str td]), (102, .box 59 [.i ((getP (idx all k) c).Body), .i ((getP (idx all k) c).Epoch), .i ((getP (idx all k) c).Phase), .i ((getP (idx all k) c).Peer), .str ((getP (idx all k) c).Data)])]⟩), ([false, true, false, false], [0], ⟨[(1, I c), (6, .b (.ptr 101 0)), (7, I k), (10, .b (.one (.sl 1 (all.map (eL 5 eHolding))))), (11, I (all.length : Int)), (12, I k), (55, .b (.agg [.i ((getP (idx all k) c).Body), .i ((getP (idx all k) c).Epoch), .i ((getP (idx all k) c).Phase), .i ((getP (idx all k) c).Peer), .str ((getP (idx all k) c).Data)]))], [(101, .box 59 [.i tb, .i te, .i tp, .i tr, .str td])]⟩), ([true, true, false, false], [2], ⟨[(1, I c), (6, .b (.ptr 101 0)), (10, .b (.one (.sl 1 (all.map (eL 5 eHolding))))), (11, I (all.length : Int)), (12, I k), (54, I k), (55, .b (.agg [.i ((getP (idx all k) c).Body), .i ((getP (idx all k) c).Epoch), .i ((getP (idx all k) c).Phase), .i ((getP (idx all k) c).Peer), .str ((getP (idx all k) c).Data)]))], [(101, .box 59 [.i tb, .i te, .i tp, .i tr, .str td])]⟩), ([true, false, true, false], [1], ⟨[(1, I c), (5, I k), (6, .b (.ptr 101 0)), (9, .b (.ptr 102 0)), (10, .b (.one (.sl 1 (all.map (eL 5 eHolding))))), (11, I (all.length : Int)), (12, I k)], [(101, .box 59 [.i tb, .i te, .i tp, .i tr, .str td]), (102, .box 59 [.i ((getP (idx all k) c).Body), .i ((getP (idx all k) c).Epoch), .i ((getP (idx all k) c).Phase), .i ((getP (idx all k) c).Peer), .str ((getP (idx all k) c).Data)])]⟩), ([true, true, true, false], [3], ⟨[(1, I c), (5, I k), (6, .b (.ptr 101 0)), (10, .b (.one (.sl 1 (all.map (eL 5 eHolding))))), (11, I (all.length : Int)), (12, I k), (55, .b (.agg [.i ((getP (idx all k) c).Body), .i ((getP (idx all k) c).Epoch), .i ((getP (idx all k) c).Phase), .i ((getP (idx all k) c).Peer), .str ((getP (idx all k) c).Data)]))], [(101, .box 59 [.i tb, .i te, .i tp, .i tr, .str td])]⟩), ([true, true, true, true], [], ⟨[(1, I c), (5, I k), (6, .b (.ptr 101 0)), (10, .b (.one (.sl 1 (all.map (eL 5 eHolding))))), (11, I (all.length : Int)), (12, I k)], [(101, .box 59 [.i ((getP (idx all k) c).Body), .i ((getP (idx all k) c).Epoch), .i ((getP (idx all k) c).Phase), .i ((getP (idx all k) c).Peer), .str ((getP (idx all k) c).Data)])]⟩)] [1, 5, 6, 10, 11, 12] [101] (s' := ⟨[(1, I c), (5, I k), (6, .b (.ptr 101 0)), (10, .b (.one (.sl 1 (all.map (eL 5 eHolding))))), (11, I (all.length : Int)), (12, I k)], [(101, .box 59 [.i ((getP (idx all k) c).Body), .i ((getP (idx all k) c).Epoch), .i ((getP (idx all k) c).Phase), .i ((getP (idx all k) c).Peer), .str ((getP (idx all k) c).Data)])]⟩) (⟨⟨by kernel_rfl, rfl⟩, ⟨⟨_, _, rfl, rfl, Step1.toKeep [1, 6, 9, 10, 11, 12, 54] [101, 102] rfl (.plain rfl (op_move rfl))⟩, ⟨_, _, rfl, rfl, Step1.toKeep [1, 6, 7, 10, 11, 12, 55] [101] rfl (.plain rfl (op_load_p tyAgg59 rfl rfl rfl rfl))⟩, trivial⟩, ⟨⟨by kernel_rfl, rfl⟩, ⟨⟨_, _, rfl, rfl, Step1.toKeep [1, 6, 10, 11, 12, 54, 55] [101] rfl (.plain rfl (op_load_p tyAgg59 rfl rfl rfl rfl))⟩, ⟨_, _, rfl, rfl, Step1.toKeep [1, 5, 6, 9, 10, 11, 12] [101, 102] rfl (.plain rfl (op_assign rfl))⟩, trivial⟩, ⟨⟨by kernel_rfl, rfl⟩, ⟨⟨_, _, rfl, rfl, Step1.toKeep [1, 6, 10, 11, 12, 54, 55] [101] rfl (.plain rfl (op_move rfl))⟩, trivial⟩, ⟨⟨by kernel_rfl, rfl⟩, ⟨⟨_, _, rfl, rfl, Step1.toKeep [1, 5, 6, 10, 11, 12, 55] [101] rfl (.plain rfl (op_assign rfl))⟩, trivial⟩, ⟨⟨by kernel_rfl, rfl⟩, ⟨⟨_, _, rfl, rfl, Step1.toKeep [1, 5, 6, 10, 11, 12, 55] [101] rfl (.plain rfl (op_load_p tyAgg59 rfl rfl rfl rfl))⟩, trivial⟩, ⟨⟨by kernel_rfl, rfl⟩, ⟨⟨_, _, rfl, rfl, Step1.toKeep [1, 5, 6, 10, 11, 12] [101] rfl (.plain rfl (op_store_p tyAgg59 rfl rfl rfl rfl (Nat.le_of_ble_eq_true rfl) rfl))⟩, trivial⟩, ⟨⟨by kernel_rfl, rfl⟩, trivial, trivial⟩⟩⟩⟩⟩⟩⟩) rfl (finOk_spec ⟨trivial, trivial, trivial, trivial, trivial, trivial, rfl, trivial⟩) rfl ?_
        refine Fin.block_normal ?_
        refine Fin.keep [1, 5, 6, 10, 11, 12] [101] (s' := ⟨[(1, I c), (5, I k), (6, .b (.ptr 101 0)), (10, .b (.one (.sl 1 (all.map (eL 5 eHolding))))), (11, I (all.length : Int)), (12, I k)], [(101, .box 59 [.i ((getP (idx all k) c).Body), .i ((getP (idx all k) c).Epoch), .i ((getP (idx all k) c).Phase), .i ((getP (idx all k) c).Peer), .str ((getP (idx all k) c).Data)])]⟩) rfl ?_
        refine Fin.then ?_
        refine Tri.regionL ?_
        refine OpsL.cons rfl (op_add' (inR_i64 (by omega) (by omega)) rfl rfl) ?_
        refine OpsL.cons rfl (op_move rfl) ?_
        refine OpsL.nil ?_
        refine Fin.keep [1, 5, 6, 10, 11, 12] [101] (s' := ⟨[(1, I c), (5, I k), (6, .b (.ptr 101 0)), (10, .b (.one (.sl 1 (all.map (eL 5 eHolding))))), (11, I (all.length : Int)), (12, I (k + 1))], [(101, .box 59 [.i ((getP (idx all k) c).Body), .i ((getP (idx all k) c).Epoch), .i ((getP (idx all k) c).Phase), .i ((getP (idx all k) c).Peer), .str ((getP (idx all k) c).Data)])]⟩) rfl ?_
        refine Fin.again (k, k + 1, (getP (idx all k) c).Body, (getP (idx all k) c).Epoch, (getP (idx all k) c).Phase, (getP (idx all k) c).Peer, (getP (idx all k) c).Data) (by exact ⟨by omega, by omega, hold_take hst (by omega) (by omega) hsk htk⟩) (by first | omega | (dsimp only; omega)) rfl
      · try simp only [decide_eq_true_eq, decide_eq_false_iff_not, Bool.and_eq_true, Bool.or_eq_true, Bool.not_eq_true', Bool.not_eq_false', Bool.and_eq_false_iff, Bool.or_eq_false_iff, Int.not_lt, Int.not_le, ne_eq, Decidable.not_not] at hc26
        have htk : holdTake b ⟨tb, te, tp, tr, td⟩ (getP (idx all k) c) = false := Bool.eq_false_iff.2 (fun hx => by simp [holdTake] at hx; omega)
        refine Tri.skip ?_
        refine Fin.block_normal ?_
        refine Fin.keep [1, 5, 6, 10, 11, 12] [101] (s' := ⟨[(1, I c), (5, I b), (6, .b (.ptr 101 0)), (10, .b (.one (.sl 1 (all.map (eL 5 eHolding))))), (11, I (all.length : Int)), (12, I k)], [(101, .box 59 [.i tb, .i te, .i tp, .i tr, .str td])]⟩) rfl ?_
        refine Fin.then ?_
        refine Tri.regionL ?_
        refine OpsL.cons rfl (op_add' (inR_i64 (by omega) (by omega)) rfl rfl) ?_
        refine OpsL.cons rfl (op_move rfl) ?_
        refine OpsL.nil ?_
        refine Fin.keep [1, 5, 6, 10, 11, 12] [101] (s' := ⟨[(1, I c), (5, I b), (6, .b (.ptr 101 0)), (10, .b (.one (.sl 1 (all.map (eL 5 eHolding))))), (11, I (all.length : Int)), (12, I (k + 1))], [(101, .box 59 [.i tb, .i te, .i tp, .i tr, .str td])]⟩) rfl ?_
        refine Fin.again (b, k + 1, tb, te, tp, tr, td) (by exact ⟨by omega, by omega, hold_keep hst (by omega) (by omega) hsk htk⟩) (by first | omega | (dsimp only; omega)) rfl
  · try simp only [decide_eq_true_eq, decide_eq_false_iff_not, Bool.and_eq_true, Bool.or_eq_true, Bool.not_eq_true', Bool.not_eq_false', Bool.and_eq_false_iff, Bool.or_eq_false_iff, Int.not_lt, Int.not_le, ne_eq, Decidable.not_not] at hc1
    refine Tri.exit ?_
    refine Fin.then_exit ?_
    refine Fin.then_exit ?_
    refine Fin.block_exit ?_
    refine Fin.keep [5] [] (s' := ⟨[(5, I b)], []⟩) rfl ?_
    refine Fin.then ?_
    refine Tri.seq ?_
    refine Tri.regionL ?_
    refine OpsL.cons rfl (op_move rfl) ?_
    refine OpsL.cons rfl (op_assign rfl) ?_
    refine OpsL.nilK [4] [] (s' := ⟨[(4, I b)], []⟩) rfl ?_
    refine Tri.ret ?_
    refine Fin.keep [4] [] (s' := ⟨[(4, I b)], []⟩) rfl ?_
    refine Fin.result' [.one (.i b)] (.inl rfl) rfl (.cons (.tmp rfl) .nil) ?_
    have e0 : (holdS all c) = b := by exact hold_end hst (by omega)
    rw [e0]
    exact ⟨rfl, rfl⟩

end Go.Proofs.Ytipepglcceogiaa
