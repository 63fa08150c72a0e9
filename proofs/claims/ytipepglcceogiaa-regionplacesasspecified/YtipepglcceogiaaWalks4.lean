/- Printed by a program of the prover's (s41.py): the walks of chapter 41. -/
import Derived.Test.YtipepglcceogiaaRows
import Derived.Test.YtipepglcceogiaaPlain
import Derived.Test.YtipepglcceogiaaWalks3
namespace Go.Proofs.Ytipepglcceogiaa
open Go.Sk
set_option maxHeartbeats 1000000
set_option maxRecDepth 4000
set_option linter.unusedSimpArgs false
set_option linter.unusedVariables false
set_option maxHeartbeats 4000000 in
theorem sanity_spec : Meets Try.prog 7 [] [] (Is [] (.b (.one (.bool true)))) := by
  refine Meets.intro 182 Try.func7 Try.ntmps7 rfl (by simp) fun E => ?_
  show Tri _ E ⟨182, [], []⟩ _ ⟨[], []⟩ _
  refine Tri.seq ?_
  refine Tri.regionL ?_
  refine OpsL.cons rfl (op_assign rfl) ?_
  refine OpsL.nilK [] [] (s' := ⟨[], []⟩) rfl ?_
  refine Tri.seq ?_
  refine Tri.regionL ?_
  refine OpsL.cons rfl (op_call0 (Meets.nil0 (size := 5) (by decide) (begin_spec [] 7 [97] (by decide +kernel) (by decide +kernel))) goes21 rfl rfl) ?_
  refine OpsL.cons rfl (op_move rfl) ?_
  refine OpsL.cons rfl (op_extract rfl rfl) ?_
  refine OpsL.cons rfl (op_extract rfl rfl) ?_
  refine OpsL.cons rfl (op_assign rfl) ?_
  refine OpsL.cons rfl (op_assign rfl) ?_
  refine OpsL.keep [1, 2] [] (s' := ⟨[(1, .b (.one (.sl 5 ([(⟨7, 0, 1, 0, [97]⟩ : Holding)].map eHolding)))), (2, I 0)], []⟩) (by kernel_rfl) ?_
  refine OpsL.nilK [1, 2] [] (s' := ⟨[(1, .b (.one (.sl 5 ([(⟨7, 0, 1, 0, [97]⟩ : Holding)].map eHolding)))), (2, I 0)], []⟩) rfl ?_
  refine Tri.seq ?_
  refine Tri.regionL ?_
  refine OpsL.cons rfl (op_move rfl) ?_
  refine OpsL.cons rfl (op_call0 (offer_spec [(⟨7, 0, 1, 0, [97]⟩ : Holding)] 0 7 1 (by decide +kernel) (by decide +kernel) (by decide +kernel)) goes23 rfl rfl) ?_
  refine OpsL.cons rfl (op_move rfl) ?_
  refine OpsL.cons rfl (op_extract rfl rfl) ?_
  refine OpsL.cons rfl (op_extract rfl rfl) ?_
  refine OpsL.cons rfl (op_assign rfl) ?_
  refine OpsL.cons rfl (op_assign rfl) ?_
  refine OpsL.keep [1, 2, 3] [] (s' := ⟨[(1, .b (.one (.sl 5 ([(⟨7, 1, 2, 1, [97]⟩ : Holding)].map eHolding)))), (2, I 0), (3, I 0)], []⟩) (by kernel_rfl) ?_
  refine OpsL.nilK [1, 2, 3] [] (s' := ⟨[(1, .b (.one (.sl 5 ([(⟨7, 1, 2, 1, [97]⟩ : Holding)].map eHolding)))), (2, I 0), (3, I 0)], []⟩) rfl ?_
  refine Tri.seq ?_
  refine Tri.regionL ?_
  refine OpsL.cons rfl (op_move rfl) ?_
  refine OpsL.cons rfl (op_call (letters_spec 101 [(⟨7, 1, 2, 1, [97]⟩ : Holding)] 0 (by decide +kernel)) goes15 rfl trivial rfl rfl) ?_
  refine OpsL.cons rfl (op_assign rfl) ?_
  refine OpsL.keep [1, 2, 3, 4] [101] (s' := ⟨[(1, .b (.one (.sl 5 ([(⟨7, 1, 2, 1, [97]⟩ : Holding)].map eHolding)))), (2, I 0), (3, I 0), (4, .b (.row 101))], [(101, .row 45 6 ([(⟨0, 1, 1, 7, 1, [97]⟩ : Parcel)].map eParcel))]⟩) (by kernel_rfl) ?_
  refine OpsL.nilK [1, 2, 3, 4] [101] (s' := ⟨[(1, .b (.one (.sl 5 ([(⟨7, 1, 2, 1, [97]⟩ : Holding)].map eHolding)))), (2, I 0), (3, I 0), (4, .b (.row 101))], [(101, .row 45 6 ([(⟨0, 1, 1, 7, 1, [97]⟩ : Parcel)].map eParcel))]⟩) rfl ?_
  refine Tri.seq ?_
  refine Tri.seq ?_
  refine Tri.regionL ?_
  refine OpsL.persist 101 rfl ?_
  refine OpsL.cons rfl (op_move rfl) ?_
  refine OpsL.cons rfl (op_neq rfl rfl) ?_
  refine OpsL.cons rfl (op_move rfl) ?_
  refine OpsL.consG (!false) 99 [] (.plain rfl) (eq_f _) rfl rfl (fun hg1 => trivial) (fun hg1 => (op_move rfl)) ?_
  refine OpsL.consG (!false) 99 [27] (.plain rfl) (eq_f _) rfl rfl (fun hg2 => ⟨hg2, trivial⟩) (fun hg2 => (op_neq rfl rfl)) ?_
  refine OpsL.cons rfl (op_pick_or (fun e => by first | exact e | (rw [e]; rfl) | simp_all) rfl rfl rfl rfl) ?_
  refine OpsL.cons rfl (op_move rfl) ?_
  refine OpsL.keep [1, 4, 30] [] (s' := ⟨[(1, .b (.one (.sl 5 ([(⟨7, 1, 2, 1, [97]⟩ : Holding)].map eHolding)))), (4, .b (.one (.sl 6 ([(⟨0, 1, 1, 7, 1, [97]⟩ : Parcel)].map eParcel)))), (30, B (false || (decide ((0 : Int) ≠ (0 : Int)))))], []⟩) rfl ?_
  refine OpsL.consG (!(false || (decide ((0 : Int) ≠ (0 : Int))))) 99 [] (.plain rfl) (eq_f _) rfl rfl (fun hg3 => trivial) (fun hg3 => (op_move rfl)) ?_
  refine OpsL.consG (!(false || (decide ((0 : Int) ≠ (0 : Int))))) 99 [31] (.plain rfl) (eq_f _) rfl rfl (fun hg4 => ⟨hg4, trivial⟩) (fun hg4 => (op_len_e' (m := 1) und38 rfl rfl)) ?_
  refine OpsL.consG (!(false || (decide ((0 : Int) ≠ (0 : Int))))) 99 [32] (.plain rfl) (eq_f _) rfl rfl (fun hg5 => ⟨hg5, trivial⟩) (fun hg5 => (op_neq rfl rfl)) ?_
  refine OpsL.cons rfl (op_pick_or (fun e => by first | exact e | (rw [e]; rfl) | simp_all) rfl rfl rfl rfl) ?_
  refine OpsL.cons rfl (op_move rfl) ?_
  refine OpsL.consG (!((false || (decide ((0 : Int) ≠ (0 : Int)))) || (decide ((1 : Int) ≠ (1 : Int))))) 99 [] (.plain rfl) (eq_f _) rfl rfl (fun hg6 => trivial) (fun hg6 => (op_move rfl)) ?_
  refine OpsL.consG (!((false || (decide ((0 : Int) ≠ (0 : Int)))) || (decide ((1 : Int) ≠ (1 : Int))))) 99 [36] (.plain rfl) (eq_f _) rfl rfl (fun hg7 => ⟨hg7, trivial⟩) (fun hg7 => by first | (simp only [decide_eq_true_eq, decide_eq_false_iff_not, Bool.and_eq_true, Bool.or_eq_true, Bool.not_eq_true', Bool.not_eq_false', Bool.and_eq_false_iff, Bool.or_eq_false_iff, Int.not_lt, Int.not_le, ne_eq, Decidable.not_not] at hg7; exact op_index_e tySl38 (by decide) rfl rfl rfl) | exact op_index_e tySl38 (by decide) rfl rfl rfl) ?_
  refine OpsL.keep [1, 4, 35, 37] [] (s' := ⟨[(1, .b (.one (.sl 5 ([(⟨7, 1, 2, 1, [97]⟩ : Holding)].map eHolding)))), (4, .b (.one (.sl 6 ([(⟨0, 1, 1, 7, 1, [97]⟩ : Parcel)].map eParcel)))), (35, B ((false || (decide ((0 : Int) ≠ (0 : Int)))) || (decide ((1 : Int) ≠ (1 : Int))))), (37, .opt (!((false || (decide ((0 : Int) ≠ (0 : Int)))) || (decide ((1 : Int) ≠ (1 : Int))))) (.eptr [.i 0, .i 1, .i 1, .i 7, .i 1, .str [97]]))], []⟩) rfl ?_
  refine OpsL.consG (!((false || (decide ((0 : Int) ≠ (0 : Int)))) || (decide ((1 : Int) ≠ (1 : Int))))) 99 [37] (.plain rfl) (eq_f _) rfl rfl (fun hg8 => ⟨hg8, trivial⟩) (fun hg8 => (op_load_e tyAgg45 rfl rfl rfl)) ?_
  refine OpsL.consG (!((false || (decide ((0 : Int) ≠ (0 : Int)))) || (decide ((1 : Int) ≠ (1 : Int))))) 99 [] (.plain rfl) (eq_f _) rfl rfl (fun hg9 => trivial) (fun hg9 => (op_build tyBuild45 rfl rfl)) ?_
  refine OpsL.consG (!((false || (decide ((0 : Int) ≠ (0 : Int)))) || (decide ((1 : Int) ≠ (1 : Int))))) 99 [38, 39] (.plain rfl) (eq_f _) rfl rfl (fun hg10 => ⟨hg10, hg10, trivial⟩) (fun hg10 => (op_neq_agg (eqAgg45 (⟨0, 1, 1, 7, 1, [97]⟩ : Parcel) (⟨0, 1, 1, 7, 1, [97]⟩ : Parcel)) rfl rfl neg_dec)) ?_
  refine OpsL.cons rfl (op_pick_or (fun e => by first | exact e | (rw [e]; rfl) | simp_all) rfl rfl rfl rfl) ?_
  refine OpsL.keep [1, 4, 41] [] (s' := ⟨[(1, .b (.one (.sl 5 ([(⟨7, 1, 2, 1, [97]⟩ : Holding)].map eHolding)))), (4, .b (.one (.sl 6 ([(⟨0, 1, 1, 7, 1, [97]⟩ : Parcel)].map eParcel)))), (41, B false)], []⟩) (by kernel_rfl) ?_
  refine OpsL.nilK [1, 4, 41] [] (s' := ⟨[(1, .b (.one (.sl 5 ([(⟨7, 1, 2, 1, [97]⟩ : Holding)].map eHolding)))), (4, .b (.one (.sl 6 ([(⟨0, 1, 1, 7, 1, [97]⟩ : Parcel)].map eParcel)))), (41, B false)], []⟩) rfl ?_
  refine Tri.cond rfl (fun hc11 => ?_) (fun hc11 => ?_)
  · exact absurd hc11 (by simp)
  · try simp only [decide_eq_true_eq, decide_eq_false_iff_not, Bool.and_eq_true, Bool.or_eq_true, Bool.not_eq_true', Bool.not_eq_false', Bool.and_eq_false_iff, Bool.or_eq_false_iff, Int.not_lt, Int.not_le, ne_eq, Decidable.not_not] at hc11
    refine Tri.skip ?_
    refine Fin.keep [1, 4] [] (s' := ⟨[(1, .b (.one (.sl 5 ([(⟨7, 1, 2, 1, [97]⟩ : Holding)].map eHolding)))), (4, .b (.one (.sl 6 ([(⟨0, 1, 1, 7, 1, [97]⟩ : Parcel)].map eParcel))))], []⟩) rfl ?_
    refine Fin.then ?_
    refine Tri.seq ?_
    refine Tri.regionL ?_
    refine OpsL.cons rfl (op_move rfl) ?_
    refine OpsL.cons rfl (op_index_e tySl38 (by decide) rfl rfl rfl) ?_
    refine OpsL.cons rfl (op_load_e tyAgg45 rfl rfl rfl) ?_
    refine OpsL.cons rfl (op_call0 (Meets.nil0 (size := 5) (by decide) (receive_spec [] 1 (⟨0, 1, 1, 7, 1, [97]⟩ : Parcel) (by decide +kernel) (by decide +kernel) (by decide +kernel))) goes32 rfl rfl) ?_
    refine OpsL.cons rfl (op_move rfl) ?_
    refine OpsL.cons rfl (op_extract rfl rfl) ?_
    refine OpsL.cons rfl (op_extract rfl rfl) ?_
    refine OpsL.cons rfl (op_assign rfl) ?_
    refine OpsL.cons rfl (op_assign rfl) ?_
    refine OpsL.keep [1, 5, 6] [] (s' := ⟨[(1, .b (.one (.sl 5 ([(⟨7, 1, 2, 1, [97]⟩ : Holding)].map eHolding)))), (5, .b (.one (.sl 5 ([(⟨7, 1, 4, 0, [97]⟩ : Holding)].map eHolding)))), (6, .b (.one (.sl 6 ([(⟨1, 0, 2, 7, 1, []⟩ : Parcel)].map eParcel))))], []⟩) (by kernel_rfl) ?_
    refine OpsL.nilK [1, 5, 6] [] (s' := ⟨[(1, .b (.one (.sl 5 ([(⟨7, 1, 2, 1, [97]⟩ : Holding)].map eHolding)))), (5, .b (.one (.sl 5 ([(⟨7, 1, 4, 0, [97]⟩ : Holding)].map eHolding)))), (6, .b (.one (.sl 6 ([(⟨1, 0, 2, 7, 1, []⟩ : Parcel)].map eParcel))))], []⟩) rfl ?_
    refine Tri.seq ?_
    refine Tri.seq ?_
    refine Tri.regionL ?_
    refine OpsL.cons rfl (op_move rfl) ?_
    refine OpsL.cons rfl (op_len_e' (m := 1) und38 rfl rfl) ?_
    refine OpsL.cons rfl (op_neq rfl rfl) ?_
    refine OpsL.cons rfl (op_move rfl) ?_
    refine OpsL.consG (!false) 99 [] (.plain rfl) (eq_f _) rfl rfl (fun hg12 => trivial) (fun hg12 => (op_move rfl)) ?_
    refine OpsL.consG (!false) 99 [53] (.plain rfl) (eq_f _) rfl rfl (fun hg13 => ⟨hg13, trivial⟩) (fun hg13 => by first | (simp only [decide_eq_true_eq, decide_eq_false_iff_not, Bool.and_eq_true, Bool.or_eq_true, Bool.not_eq_true', Bool.not_eq_false', Bool.and_eq_false_iff, Bool.or_eq_false_iff, Int.not_lt, Int.not_le, ne_eq, Decidable.not_not] at hg13; exact op_call0 (get_spec [(⟨7, 1, 4, 0, [97]⟩ : Holding)] 7 (by decide +kernel)) goes30 rfl rfl) | exact op_call0 (get_spec [(⟨7, 1, 4, 0, [97]⟩ : Holding)] 7 (by decide +kernel)) goes30 rfl rfl) ?_
    refine OpsL.consG (!false) 99 [] (.plain rfl) (eq_f _) rfl rfl (fun hg14 => trivial) (fun hg14 => (op_build tyBuild59 rfl rfl)) ?_
    refine OpsL.keep [1, 5, 6, 52, 54, 55] [] (s' := ⟨[(1, .b (.one (.sl 5 ([(⟨7, 1, 2, 1, [97]⟩ : Holding)].map eHolding)))), (5, .b (.one (.sl 5 ([(⟨7, 1, 4, 0, [97]⟩ : Holding)].map eHolding)))), (6, .b (.one (.sl 6 ([(⟨1, 0, 2, 7, 1, []⟩ : Parcel)].map eParcel)))), (52, B false), (54, .opt (!false) (.agg [.i ((getP [(⟨7, 1, 4, 0, [97]⟩ : Holding)] 7).Body), .i ((getP [(⟨7, 1, 4, 0, [97]⟩ : Holding)] 7).Epoch), .i ((getP [(⟨7, 1, 4, 0, [97]⟩ : Holding)] 7).Phase), .i ((getP [(⟨7, 1, 4, 0, [97]⟩ : Holding)] 7).Peer), .str ((getP [(⟨7, 1, 4, 0, [97]⟩ : Holding)] 7).Data)])), (55, .opt (!false) (.agg [.i 7, .i 1, .i 4, .i 0, .str [97]]))], []⟩) rfl ?_
    refine OpsL.consG (!false) 99 [54, 55] (.plain rfl) (eq_f _) rfl rfl (fun hg15 => ⟨hg15, hg15, trivial⟩) (fun hg15 => (op_neq_agg (eqAgg59 (getP [(⟨7, 1, 4, 0, [97]⟩ : Holding)] 7) (⟨7, 1, 4, 0, [97]⟩ : Holding)) rfl rfl neg_dec)) ?_
    refine OpsL.cons rfl (op_pick_or (fun e => by first | exact e | (rw [e]; rfl) | simp_all) rfl rfl rfl rfl) ?_
    refine OpsL.cons rfl (op_move rfl) ?_
    refine OpsL.consG (!(false || (decide ((getP [(⟨7, 1, 4, 0, [97]⟩ : Holding)] 7) ≠ (⟨7, 1, 4, 0, [97]⟩ : Holding))))) 99 [] (.plain rfl) (eq_f _) rfl rfl (fun hg16 => trivial) (fun hg16 => (op_move rfl)) ?_
    refine OpsL.consG (!(false || (decide ((getP [(⟨7, 1, 4, 0, [97]⟩ : Holding)] 7) ≠ (⟨7, 1, 4, 0, [97]⟩ : Holding))))) 99 [59] (.plain rfl) (eq_f _) rfl rfl (fun hg17 => ⟨hg17, trivial⟩) (fun hg17 => by first | (simp only [decide_eq_true_eq, decide_eq_false_iff_not, Bool.and_eq_true, Bool.or_eq_true, Bool.not_eq_true', Bool.not_eq_false', Bool.and_eq_false_iff, Bool.or_eq_false_iff, Int.not_lt, Int.not_le, ne_eq, Decidable.not_not] at hg17; exact op_index_e tySl38 (by decide) rfl rfl rfl) | exact op_index_e tySl38 (by decide) rfl rfl rfl) ?_
    refine OpsL.consG (!(false || (decide ((getP [(⟨7, 1, 4, 0, [97]⟩ : Holding)] 7) ≠ (⟨7, 1, 4, 0, [97]⟩ : Holding))))) 99 [60] (.plain rfl) (eq_f _) rfl rfl (fun hg18 => ⟨hg18, trivial⟩) (fun hg18 => (op_field_e tyFld45_2 rfl rfl)) ?_
    refine OpsL.consG (!(false || (decide ((getP [(⟨7, 1, 4, 0, [97]⟩ : Holding)] 7) ≠ (⟨7, 1, 4, 0, [97]⟩ : Holding))))) 99 [61] (.plain rfl) (eq_f _) rfl rfl (fun hg19 => ⟨hg19, trivial⟩) (fun hg19 => (op_load_e1 tyOne3 rfl rfl)) ?_
    refine OpsL.consG (!(false || (decide ((getP [(⟨7, 1, 4, 0, [97]⟩ : Holding)] 7) ≠ (⟨7, 1, 4, 0, [97]⟩ : Holding))))) 99 [62] (.plain rfl) (eq_f _) rfl rfl (fun hg20 => ⟨hg20, trivial⟩) (fun hg20 => (op_neq rfl rfl)) ?_
    refine OpsL.cons rfl (op_pick_or (fun e => by first | exact e | (rw [e]; rfl) | simp_all) rfl rfl rfl rfl) ?_
    refine OpsL.keep [1, 5, 6, 64] [] (s' := ⟨[(1, .b (.one (.sl 5 ([(⟨7, 1, 2, 1, [97]⟩ : Holding)].map eHolding)))), (5, .b (.one (.sl 5 ([(⟨7, 1, 4, 0, [97]⟩ : Holding)].map eHolding)))), (6, .b (.one (.sl 6 ([(⟨1, 0, 2, 7, 1, []⟩ : Parcel)].map eParcel)))), (64, B false)], []⟩) (by kernel_rfl) ?_
    refine OpsL.nilK [1, 5, 6, 64] [] (s' := ⟨[(1, .b (.one (.sl 5 ([(⟨7, 1, 2, 1, [97]⟩ : Holding)].map eHolding)))), (5, .b (.one (.sl 5 ([(⟨7, 1, 4, 0, [97]⟩ : Holding)].map eHolding)))), (6, .b (.one (.sl 6 ([(⟨1, 0, 2, 7, 1, []⟩ : Parcel)].map eParcel)))), (64, B false)], []⟩) rfl ?_
    refine Tri.cond rfl (fun hc21 => ?_) (fun hc21 => ?_)
    · exact absurd hc21 (by simp)
    · try simp only [decide_eq_true_eq, decide_eq_false_iff_not, Bool.and_eq_true, Bool.or_eq_true, Bool.not_eq_true', Bool.not_eq_false', Bool.and_eq_false_iff, Bool.or_eq_false_iff, Int.not_lt, Int.not_le, ne_eq, Decidable.not_not] at hc21
      refine Tri.skip ?_
      refine Fin.keep [1, 5, 6] [] (s' := ⟨[(1, .b (.one (.sl 5 ([(⟨7, 1, 2, 1, [97]⟩ : Holding)].map eHolding)))), (5, .b (.one (.sl 5 ([(⟨7, 1, 4, 0, [97]⟩ : Holding)].map eHolding)))), (6, .b (.one (.sl 6 ([(⟨1, 0, 2, 7, 1, []⟩ : Parcel)].map eParcel))))], []⟩) rfl ?_
      refine Fin.then ?_
      refine Tri.seq ?_
      refine Tri.regionL ?_
      refine OpsL.cons rfl (op_move rfl) ?_
      refine OpsL.cons rfl (op_move rfl) ?_
      refine OpsL.cons rfl (op_index_e tySl38 (by decide) rfl rfl rfl) ?_
      refine OpsL.cons rfl (op_load_e tyAgg45 rfl rfl rfl) ?_
      refine OpsL.cons rfl (op_call0 (receive_spec [(⟨7, 1, 2, 1, [97]⟩ : Holding)] 0 (⟨1, 0, 2, 7, 1, []⟩ : Parcel) (by decide +kernel) (by decide +kernel) (by decide +kernel)) goes32 rfl rfl) ?_
      refine OpsL.cons rfl (op_move rfl) ?_
      refine OpsL.cons rfl (op_extract rfl rfl) ?_
      refine OpsL.keep [1, 5, 65, 71] [] (s' := ⟨[(1, .b (.one (.sl 5 ([(⟨7, 1, 2, 1, [97]⟩ : Holding)].map eHolding)))), (5, .b (.one (.sl 5 ([(⟨7, 1, 4, 0, [97]⟩ : Holding)].map eHolding)))), (65, .tup [.one (.sl 5 ((recvL [(⟨7, 1, 2, 1, [97]⟩ : Holding)] 0 (⟨1, 0, 2, 7, 1, []⟩ : Parcel)).map eHolding)), .one (.sl 6 ((recvP [(⟨7, 1, 2, 1, [97]⟩ : Holding)] 0 (⟨1, 0, 2, 7, 1, []⟩ : Parcel)).map eParcel))]), (71, .b (.one (.sl 5 ((recvL [(⟨7, 1, 2, 1, [97]⟩ : Holding)] 0 (⟨1, 0, 2, 7, 1, []⟩ : Parcel)).map eHolding))))], []⟩) rfl ?_
      refine OpsL.cons rfl (op_extract rfl rfl) ?_
      refine OpsL.cons rfl (op_assign rfl) ?_
      refine OpsL.cons rfl (op_assign rfl) ?_
      refine OpsL.keep [1, 5, 7] [] (s' := ⟨[(1, .b (.one (.sl 5 ([(⟨7, 1, 3, 1, [97]⟩ : Holding)].map eHolding)))), (5, .b (.one (.sl 5 ([(⟨7, 1, 4, 0, [97]⟩ : Holding)].map eHolding)))), (7, .b (.one (.sl 6 ([(⟨0, 1, 3, 7, 1, []⟩ : Parcel)].map eParcel))))], []⟩) (by kernel_rfl) ?_
      refine OpsL.nilK [1, 5, 7] [] (s' := ⟨[(1, .b (.one (.sl 5 ([(⟨7, 1, 3, 1, [97]⟩ : Holding)].map eHolding)))), (5, .b (.one (.sl 5 ([(⟨7, 1, 4, 0, [97]⟩ : Holding)].map eHolding)))), (7, .b (.one (.sl 6 ([(⟨0, 1, 3, 7, 1, []⟩ : Parcel)].map eParcel))))], []⟩) rfl ?_
      refine Tri.seq ?_
      refine Tri.seq ?_
      refine Tri.regionL ?_
      refine OpsL.cons rfl (op_move rfl) ?_
      refine OpsL.cons rfl (op_len_e' (m := 1) und38 rfl rfl) ?_
      refine OpsL.cons rfl (op_neq rfl rfl) ?_
      refine OpsL.cons rfl (op_move rfl) ?_
      refine OpsL.consG (!false) 99 [] (.plain rfl) (eq_f _) rfl rfl (fun hg22 => trivial) (fun hg22 => (op_move rfl)) ?_
      refine OpsL.consG (!false) 99 [77] (.plain rfl) (eq_f _) rfl rfl (fun hg23 => ⟨hg23, trivial⟩) (fun hg23 => by first | (simp only [decide_eq_true_eq, decide_eq_false_iff_not, Bool.and_eq_true, Bool.or_eq_true, Bool.not_eq_true', Bool.not_eq_false', Bool.and_eq_false_iff, Bool.or_eq_false_iff, Int.not_lt, Int.not_le, ne_eq, Decidable.not_not] at hg23; exact op_index_e tySl38 (by decide) rfl rfl rfl) | exact op_index_e tySl38 (by decide) rfl rfl rfl) ?_
      refine OpsL.consG (!false) 99 [78] (.plain rfl) (eq_f _) rfl rfl (fun hg24 => ⟨hg24, trivial⟩) (fun hg24 => (op_field_e tyFld45_2 rfl rfl)) ?_
      refine OpsL.keep [1, 5, 7, 76, 79] [] (s' := ⟨[(1, .b (.one (.sl 5 ([(⟨7, 1, 3, 1, [97]⟩ : Holding)].map eHolding)))), (5, .b (.one (.sl 5 ([(⟨7, 1, 4, 0, [97]⟩ : Holding)].map eHolding)))), (7, .b (.one (.sl 6 ([(⟨0, 1, 3, 7, 1, []⟩ : Parcel)].map eParcel)))), (76, B false), (79, .opt (!false) (.eptr [.i 3, .i 7, .i 1, .str []]))], []⟩) rfl ?_
      refine OpsL.consG (!false) 99 [79] (.plain rfl) (eq_f _) rfl rfl (fun hg25 => ⟨hg25, trivial⟩) (fun hg25 => (op_load_e1 tyOne3 rfl rfl)) ?_
      refine OpsL.consG (!false) 99 [80] (.plain rfl) (eq_f _) rfl rfl (fun hg26 => ⟨hg26, trivial⟩) (fun hg26 => (op_neq rfl rfl)) ?_
      refine OpsL.cons rfl (op_pick_or (fun e => by first | exact e | (rw [e]; rfl) | simp_all) rfl rfl rfl rfl) ?_
      refine OpsL.cons rfl (op_move rfl) ?_
      refine OpsL.consG (!(false || (decide ((3 : Int) ≠ (3 : Int))))) 99 [] (.plain rfl) (eq_f _) rfl rfl (fun hg27 => trivial) (fun hg27 => (op_move rfl)) ?_
      refine OpsL.consG (!(false || (decide ((3 : Int) ≠ (3 : Int))))) 99 [84] (.plain rfl) (eq_f _) rfl rfl (fun hg28 => ⟨hg28, trivial⟩) (fun hg28 => by first | (simp only [decide_eq_true_eq, decide_eq_false_iff_not, Bool.and_eq_true, Bool.or_eq_true, Bool.not_eq_true', Bool.not_eq_false', Bool.and_eq_false_iff, Bool.or_eq_false_iff, Int.not_lt, Int.not_le, ne_eq, Decidable.not_not] at hg28; exact op_call0 (get_spec [(⟨7, 1, 3, 1, [97]⟩ : Holding)] 7 (by decide +kernel)) goes30 rfl rfl) | exact op_call0 (get_spec [(⟨7, 1, 3, 1, [97]⟩ : Holding)] 7 (by decide +kernel)) goes30 rfl rfl) ?_
      refine OpsL.consG (!(false || (decide ((3 : Int) ≠ (3 : Int))))) 99 [85] (.plain rfl) (eq_f _) rfl rfl (fun hg29 => ⟨hg29, trivial⟩) (fun hg29 => (op_fieldv1 tyFld59_2 tyOne3 rfl rfl)) ?_
      refine OpsL.consG (!(false || (decide ((3 : Int) ≠ (3 : Int))))) 99 [86] (.plain rfl) (eq_f _) rfl rfl (fun hg30 => ⟨hg30, trivial⟩) (fun hg30 => (op_neq rfl rfl)) ?_
      refine OpsL.cons rfl (op_pick_or (fun e => by first | exact e | (rw [e]; rfl) | simp_all) rfl rfl rfl rfl) ?_
      refine OpsL.keep [1, 5, 7, 88] [] (s' := ⟨[(1, .b (.one (.sl 5 ([(⟨7, 1, 3, 1, [97]⟩ : Holding)].map eHolding)))), (5, .b (.one (.sl 5 ([(⟨7, 1, 4, 0, [97]⟩ : Holding)].map eHolding)))), (7, .b (.one (.sl 6 ([(⟨0, 1, 3, 7, 1, []⟩ : Parcel)].map eParcel)))), (88, B false)], []⟩) (by kernel_rfl) ?_
      refine OpsL.nilK [1, 5, 7, 88] [] (s' := ⟨[(1, .b (.one (.sl 5 ([(⟨7, 1, 3, 1, [97]⟩ : Holding)].map eHolding)))), (5, .b (.one (.sl 5 ([(⟨7, 1, 4, 0, [97]⟩ : Holding)].map eHolding)))), (7, .b (.one (.sl 6 ([(⟨0, 1, 3, 7, 1, []⟩ : Parcel)].map eParcel)))), (88, B false)], []⟩) rfl ?_
      refine Tri.cond rfl (fun hc31 => ?_) (fun hc31 => ?_)
      · exact absurd hc31 (by simp)
      · try simp only [decide_eq_true_eq, decide_eq_false_iff_not, Bool.and_eq_true, Bool.or_eq_true, Bool.not_eq_true', Bool.not_eq_false', Bool.and_eq_false_iff, Bool.or_eq_false_iff, Int.not_lt, Int.not_le, ne_eq, Decidable.not_not] at hc31
        refine Tri.skip ?_
        refine Fin.keep [1, 5, 7] [] (s' := ⟨[(1, .b (.one (.sl 5 ([(⟨7, 1, 3, 1, [97]⟩ : Holding)].map eHolding)))), (5, .b (.one (.sl 5 ([(⟨7, 1, 4, 0, [97]⟩ : Holding)].map eHolding)))), (7, .b (.one (.sl 6 ([(⟨0, 1, 3, 7, 1, []⟩ : Parcel)].map eParcel))))], []⟩) rfl ?_
        refine Fin.then ?_
        refine Tri.seq ?_
        refine Tri.regionL ?_
        refine OpsL.cons rfl (op_move rfl) ?_
        refine OpsL.cons rfl (op_move rfl) ?_
        refine OpsL.cons rfl (op_index_e tySl38 (by decide) rfl rfl rfl) ?_
        refine OpsL.cons rfl (op_load_e tyAgg45 rfl rfl rfl) ?_
        refine OpsL.cons rfl (op_call0 (receive_spec [(⟨7, 1, 4, 0, [97]⟩ : Holding)] 1 (⟨0, 1, 3, 7, 1, []⟩ : Parcel) (by decide +kernel) (by decide +kernel) (by decide +kernel)) goes32 rfl rfl) ?_
        refine OpsL.cons rfl (op_move rfl) ?_
        refine OpsL.cons rfl (op_extract rfl rfl) ?_
        refine OpsL.keep [1, 5, 7, 89, 95] [] (s' := ⟨[(1, .b (.one (.sl 5 ([(⟨7, 1, 3, 1, [97]⟩ : Holding)].map eHolding)))), (5, .b (.one (.sl 5 ([(⟨7, 1, 4, 0, [97]⟩ : Holding)].map eHolding)))), (7, .b (.one (.sl 6 ([(⟨0, 1, 3, 7, 1, []⟩ : Parcel)].map eParcel)))), (89, .tup [.one (.sl 5 ((recvL [(⟨7, 1, 4, 0, [97]⟩ : Holding)] 1 (⟨0, 1, 3, 7, 1, []⟩ : Parcel)).map eHolding)), .one (.sl 6 ((recvP [(⟨7, 1, 4, 0, [97]⟩ : Holding)] 1 (⟨0, 1, 3, 7, 1, []⟩ : Parcel)).map eParcel))]), (95, .b (.one (.sl 5 ((recvL [(⟨7, 1, 4, 0, [97]⟩ : Holding)] 1 (⟨0, 1, 3, 7, 1, []⟩ : Parcel)).map eHolding))))], []⟩) rfl ?_
        refine OpsL.cons rfl (op_extract rfl rfl) ?_
        refine OpsL.cons rfl (op_assign rfl) ?_
        refine OpsL.cons rfl (op_assign rfl) ?_
        refine OpsL.keep [1, 5, 7, 8] [] (s' := ⟨[(1, .b (.one (.sl 5 ([(⟨7, 1, 3, 1, [97]⟩ : Holding)].map eHolding)))), (5, .b (.one (.sl 5 ([(⟨7, 1, 1, 0, [97]⟩ : Holding)].map eHolding)))), (7, .b (.one (.sl 6 ([(⟨0, 1, 3, 7, 1, []⟩ : Parcel)].map eParcel)))), (8, .b (.one (.sl 6 ([(⟨1, 0, 4, 7, 1, []⟩ : Parcel)].map eParcel))))], []⟩) (by kernel_rfl) ?_
        refine OpsL.nilK [1, 5, 7, 8] [] (s' := ⟨[(1, .b (.one (.sl 5 ([(⟨7, 1, 3, 1, [97]⟩ : Holding)].map eHolding)))), (5, .b (.one (.sl 5 ([(⟨7, 1, 1, 0, [97]⟩ : Holding)].map eHolding)))), (7, .b (.one (.sl 6 ([(⟨0, 1, 3, 7, 1, []⟩ : Parcel)].map eParcel)))), (8, .b (.one (.sl 6 ([(⟨1, 0, 4, 7, 1, []⟩ : Parcel)].map eParcel))))], []⟩) rfl ?_
        refine Tri.seq ?_
        refine Tri.regionL ?_
        refine OpsL.cons rfl (op_move rfl) ?_
        refine OpsL.cons rfl (op_move rfl) ?_
        refine OpsL.cons rfl (op_index_e tySl38 (by decide) rfl rfl rfl) ?_
        refine OpsL.cons rfl (op_load_e tyAgg45 rfl rfl rfl) ?_
        refine OpsL.cons rfl (op_call0 (receive_spec [(⟨7, 1, 1, 0, [97]⟩ : Holding)] 1 (⟨0, 1, 3, 7, 1, []⟩ : Parcel) (by decide +kernel) (by decide +kernel) (by decide +kernel)) goes32 rfl rfl) ?_
        refine OpsL.cons rfl (op_move rfl) ?_
        refine OpsL.cons rfl (op_extract rfl rfl) ?_
        refine OpsL.keep [1, 5, 8, 97, 103] [] (s' := ⟨[(1, .b (.one (.sl 5 ([(⟨7, 1, 3, 1, [97]⟩ : Holding)].map eHolding)))), (5, .b (.one (.sl 5 ([(⟨7, 1, 1, 0, [97]⟩ : Holding)].map eHolding)))), (8, .b (.one (.sl 6 ([(⟨1, 0, 4, 7, 1, []⟩ : Parcel)].map eParcel)))), (97, .tup [.one (.sl 5 ((recvL [(⟨7, 1, 1, 0, [97]⟩ : Holding)] 1 (⟨0, 1, 3, 7, 1, []⟩ : Parcel)).map eHolding)), .one (.sl 6 ((recvP [(⟨7, 1, 1, 0, [97]⟩ : Holding)] 1 (⟨0, 1, 3, 7, 1, []⟩ : Parcel)).map eParcel))]), (103, .b (.one (.sl 5 ((recvL [(⟨7, 1, 1, 0, [97]⟩ : Holding)] 1 (⟨0, 1, 3, 7, 1, []⟩ : Parcel)).map eHolding))))], []⟩) rfl ?_
        refine OpsL.cons rfl (op_extract rfl rfl) ?_
        refine OpsL.cons rfl (op_assign rfl) ?_
        refine OpsL.cons rfl (op_assign rfl) ?_
        refine OpsL.keep [1, 5, 8, 9] [] (s' := ⟨[(1, .b (.one (.sl 5 ([(⟨7, 1, 3, 1, [97]⟩ : Holding)].map eHolding)))), (5, .b (.one (.sl 5 ([(⟨7, 1, 1, 0, [97]⟩ : Holding)].map eHolding)))), (8, .b (.one (.sl 6 ([(⟨1, 0, 4, 7, 1, []⟩ : Parcel)].map eParcel)))), (9, .b (.one (.sl 6 ([(⟨1, 0, 4, 7, 1, []⟩ : Parcel)].map eParcel))))], []⟩) (by kernel_rfl) ?_
        refine OpsL.nilK [1, 5, 8, 9] [] (s' := ⟨[(1, .b (.one (.sl 5 ([(⟨7, 1, 3, 1, [97]⟩ : Holding)].map eHolding)))), (5, .b (.one (.sl 5 ([(⟨7, 1, 1, 0, [97]⟩ : Holding)].map eHolding)))), (8, .b (.one (.sl 6 ([(⟨1, 0, 4, 7, 1, []⟩ : Parcel)].map eParcel)))), (9, .b (.one (.sl 6 ([(⟨1, 0, 4, 7, 1, []⟩ : Parcel)].map eParcel))))], []⟩) rfl ?_
        refine Tri.seq ?_
        refine Tri.seq ?_
        refine Tri.keep [1, 5, 8, 9] [] (s' := ⟨[(1, .b (.one (.sl 5 ([(⟨7, 1, 3, 1, [97]⟩ : Holding)].map eHolding)))), (5, .b (.one (.sl 5 ([(⟨7, 1, 1, 0, [97]⟩ : Holding)].map eHolding)))), (8, .b (.one (.sl 6 ([(⟨1, 0, 4, 7, 1, []⟩ : Parcel)].map eParcel)))), (9, .b (.one (.sl 6 ([(⟨1, 0, 4, 7, 1, []⟩ : Parcel)].map eParcel))))], []⟩) rfl ?_
        refine Tri.regionD mixed [.b (.one (.sl 6 ([(⟨1, 0, 4, 7, 1, []⟩ : Parcel)].map eParcel))), I 1, B (decide ((1 : Int) ≠ (1 : Int))), B (decide ((1 : Int) ≠ (1 : Int))), .opt (!(decide ((1 : Int) ≠ (1 : Int)))) (.one (.sl 6 ([(⟨1, 0, 4, 7, 1, []⟩ : Parcel)].map eParcel))), .opt (!(decide ((1 : Int) ≠ (1 : Int)))) (.one (.i 1)), .opt (!(decide ((1 : Int) ≠ (1 : Int)))) (.one (.bool (decide ((1 : Int) ≠ (1 : Int))))), B ((decide ((1 : Int) ≠ (1 : Int))) || (decide ((1 : Int) ≠ (1 : Int)))), B ((decide ((1 : Int) ≠ (1 : Int))) || (decide ((1 : Int) ≠ (1 : Int)))), .opt (!((decide ((1 : Int) ≠ (1 : Int))) || (decide ((1 : Int) ≠ (1 : Int))))) (.one (.sl 6 ([(⟨1, 0, 4, 7, 1, []⟩ : Parcel)].map eParcel))), .opt (!((decide ((1 : Int) ≠ (1 : Int))) || (decide ((1 : Int) ≠ (1 : Int))))) (.eptr [.i 1, .i 0, .i 4, .i 7, .i 1, .str []]), .opt (!((decide ((1 : Int) ≠ (1 : Int))) || (decide ((1 : Int) ≠ (1 : Int))))) (.agg [.i 1, .i 0, .i 4, .i 7, .i 1, .str []]), .opt (!((decide ((1 : Int) ≠ (1 : Int))) || (decide ((1 : Int) ≠ (1 : Int))))) (.one (.sl 6 ([(⟨1, 0, 4, 7, 1, []⟩ : Parcel)].map eParcel))), .opt (!((decide ((1 : Int) ≠ (1 : Int))) || (decide ((1 : Int) ≠ (1 : Int))))) (.eptr [.i 1, .i 0, .i 4, .i 7, .i 1, .str []]), .opt (!((decide ((1 : Int) ≠ (1 : Int))) || (decide ((1 : Int) ≠ (1 : Int))))) (.agg [.i 1, .i 0, .i 4, .i 7, .i 1, .str []]), .opt (!((decide ((1 : Int) ≠ (1 : Int))) || (decide ((1 : Int) ≠ (1 : Int))))) (.one (.bool (decide ((⟨1, 0, 4, 7, 1, []⟩ : Parcel) ≠ (⟨1, 0, 4, 7, 1, []⟩ : Parcel))))), B (((decide ((1 : Int) ≠ (1 : Int))) || (decide ((1 : Int) ≠ (1 : Int)))) || (decide ((⟨1, 0, 4, 7, 1, []⟩ : Parcel) ≠ (⟨1, 0, 4, 7, 1, []⟩ : Parcel)))), B (((decide ((1 : Int) ≠ (1 : Int))) || (decide ((1 : Int) ≠ (1 : Int)))) || (decide ((⟨1, 0, 4, 7, 1, []⟩ : Parcel) ≠ (⟨1, 0, 4, 7, 1, []⟩ : Parcel)))), .opt (!(((decide ((1 : Int) ≠ (1 : Int))) || (decide ((1 : Int) ≠ (1 : Int)))) || (decide ((⟨1, 0, 4, 7, 1, []⟩ : Parcel) ≠ (⟨1, 0, 4, 7, 1, []⟩ : Parcel))))) (.one (.sl 6 ([(⟨1, 0, 4, 7, 1, []⟩ : Parcel)].map eParcel))), .opt (!(((decide ((1 : Int) ≠ (1 : Int))) || (decide ((1 : Int) ≠ (1 : Int)))) || (decide ((⟨1, 0, 4, 7, 1, []⟩ : Parcel) ≠ (⟨1, 0, 4, 7, 1, []⟩ : Parcel))))) (.eptr [.i 1, .i 0, .i 4, .i 7, .i 1, .str []]), .opt (!(((decide ((1 : Int) ≠ (1 : Int))) || (decide ((1 : Int) ≠ (1 : Int)))) || (decide ((⟨1, 0, 4, 7, 1, []⟩ : Parcel) ≠ (⟨1, 0, 4, 7, 1, []⟩ : Parcel))))) (.eptr [.i 4, .i 7, .i 1, .str []]), .opt (!(((decide ((1 : Int) ≠ (1 : Int))) || (decide ((1 : Int) ≠ (1 : Int)))) || (decide ((⟨1, 0, 4, 7, 1, []⟩ : Parcel) ≠ (⟨1, 0, 4, 7, 1, []⟩ : Parcel))))) (.one (.i 4)), .opt (!(((decide ((1 : Int) ≠ (1 : Int))) || (decide ((1 : Int) ≠ (1 : Int)))) || (decide ((⟨1, 0, 4, 7, 1, []⟩ : Parcel) ≠ (⟨1, 0, 4, 7, 1, []⟩ : Parcel))))) (.one (.bool (decide ((4 : Int) ≠ (4 : Int))))), B ((((decide ((1 : Int) ≠ (1 : Int))) || (decide ((1 : Int) ≠ (1 : Int)))) || (decide ((⟨1, 0, 4, 7, 1, []⟩ : Parcel) ≠ (⟨1, 0, 4, 7, 1, []⟩ : Parcel)))) || (decide ((4 : Int) ≠ (4 : Int))))] [1, 5, 8, 128] [] (s' := ⟨[(1, .b (.one (.sl 5 ([(⟨7, 1, 3, 1, [97]⟩ : Holding)].map eHolding)))), (5, .b (.one (.sl 5 ([(⟨7, 1, 1, 0, [97]⟩ : Holding)].map eHolding)))), (8, .b (.one (.sl 6 ([(⟨1, 0, 4, 7, 1, []⟩ : Parcel)].map eParcel)))), (128, B ((((decide ((1 : Int) ≠ (1 : Int))) || (decide ((1 : Int) ≠ (1 : Int)))) || (decide ((⟨1, 0, 4, 7, 1, []⟩ : Parcel) ≠ (⟨1, 0, 4, 7, 1, []⟩ : Parcel)))) || (decide ((4 : Int) ≠ (4 : Int)))))], []⟩) rfl ⟨fun _ => .plain rfl (op_move rfl), fun _ => .plain rfl (op_len_e' (m := 1) und38 rfl rfl), fun _ => .plain rfl (op_neq rfl rfl), fun _ => .plain rfl (op_move rfl), fun _ => .guard (!(decide ((1 : Int) ≠ (1 : Int)))) 1 [] (.plain rfl) (eq_f _) rfl rfl (fun hg32 => trivial) (fun hg32 => by first | (simp only [decide_eq_true_eq, decide_eq_false_iff_not, Bool.and_eq_true, Bool.or_eq_true, Bool.not_eq_true', Bool.not_eq_false', Bool.and_eq_false_iff, Bool.or_eq_false_iff, Int.not_lt, Int.not_le, ne_eq, Decidable.not_not] at hg32; exact op_move rfl) | exact op_move rfl), fun _ => .guard (!(decide ((1 : Int) ≠ (1 : Int)))) 2 [109] (.plain rfl) (eq_f _) rfl rfl (fun hg33 => ⟨hg33, trivial⟩) (fun hg33 => by first | (simp only [decide_eq_true_eq, decide_eq_false_iff_not, Bool.and_eq_true, Bool.or_eq_true, Bool.not_eq_true', Bool.not_eq_false', Bool.and_eq_false_iff, Bool.or_eq_false_iff, Int.not_lt, Int.not_le, ne_eq, Decidable.not_not] at hg33; exact op_len_e' (m := 1) und38 rfl rfl) | exact op_len_e' (m := 1) und38 rfl rfl), fun _ => .guard (!(decide ((1 : Int) ≠ (1 : Int)))) 2 [110] (.plain rfl) (eq_f _) rfl rfl (fun hg34 => ⟨hg34, trivial⟩) (fun hg34 => by first | (simp only [decide_eq_true_eq, decide_eq_false_iff_not, Bool.and_eq_true, Bool.or_eq_true, Bool.not_eq_true', Bool.not_eq_false', Bool.and_eq_false_iff, Bool.or_eq_false_iff, Int.not_lt, Int.not_le, ne_eq, Decidable.not_not] at hg34; exact op_neq rfl rfl) | exact op_neq rfl rfl), fun _ => .plain rfl (op_pick_or (fun e => by first | exact e | (rw [e]; rfl) | simp_all) rfl rfl rfl rfl), fun _ => .plain rfl (op_move rfl), fun _ => .guard (!((decide ((1 : Int) ≠ (1 : Int))) || (decide ((1 : Int) ≠ (1 : Int))))) 1 [] (.plain rfl) (eq_f _) rfl rfl (fun hg35 => trivial) (fun hg35 => by first | (simp only [decide_eq_true_eq, decide_eq_false_iff_not, Bool.and_eq_true, Bool.or_eq_true, Bool.not_eq_true', Bool.not_eq_false', Bool.and_eq_false_iff, Bool.or_eq_false_iff, Int.not_lt, Int.not_le, ne_eq, Decidable.not_not] at hg35; exact op_move rfl) | exact op_move rfl), fun _ => .guard (!((decide ((1 : Int) ≠ (1 : Int))) || (decide ((1 : Int) ≠ (1 : Int))))) 2 [114] (.plain rfl) (eq_f _) rfl rfl (fun hg36 => ⟨hg36, trivial⟩) (fun hg36 => by first | (simp only [decide_eq_true_eq, decide_eq_false_iff_not, Bool.and_eq_true, Bool.or_eq_true, Bool.not_eq_true', Bool.not_eq_false', Bool.and_eq_false_iff, Bool.or_eq_false_iff, Int.not_lt, Int.not_le, ne_eq, Decidable.not_not] at hg36; exact op_index_e tySl38 (by decide) rfl rfl rfl) | exact op_index_e tySl38 (by decide) rfl rfl rfl), fun _ => .guard (!((decide ((1 : Int) ≠ (1 : Int))) || (decide ((1 : Int) ≠ (1 : Int))))) 2 [115] (.plain rfl) (eq_f _) rfl rfl (fun hg37 => ⟨hg37, trivial⟩) (fun hg37 => by first | (simp only [decide_eq_true_eq, decide_eq_false_iff_not, Bool.and_eq_true, Bool.or_eq_true, Bool.not_eq_true', Bool.not_eq_false', Bool.and_eq_false_iff, Bool.or_eq_false_iff, Int.not_lt, Int.not_le, ne_eq, Decidable.not_not] at hg37; exact op_load_e tyAgg45 rfl rfl rfl) | exact op_load_e tyAgg45 rfl rfl rfl), fun _ => .guard (!((decide ((1 : Int) ≠ (1 : Int))) || (decide ((1 : Int) ≠ (1 : Int))))) 1 [] (.plain rfl) (eq_f _) rfl rfl (fun hg38 => trivial) (fun hg38 => by first | (simp only [decide_eq_true_eq, decide_eq_false_iff_not, Bool.and_eq_true, Bool.or_eq_true, Bool.not_eq_true', Bool.not_eq_false', Bool.and_eq_false_iff, Bool.or_eq_false_iff, Int.not_lt, Int.not_le, ne_eq, Decidable.not_not] at hg38; exact op_move rfl) | exact op_move rfl), fun _ => .guard (!((decide ((1 : Int) ≠ (1 : Int))) || (decide ((1 : Int) ≠ (1 : Int))))) 2 [117] (.plain rfl) (eq_f _) rfl rfl (fun hg39 => ⟨hg39, trivial⟩) (fun hg39 => by first | (simp only [decide_eq_true_eq, decide_eq_false_iff_not, Bool.and_eq_true, Bool.or_eq_true, Bool.not_eq_true', Bool.not_eq_false', Bool.and_eq_false_iff, Bool.or_eq_false_iff, Int.not_lt, Int.not_le, ne_eq, Decidable.not_not] at hg39; exact op_index_e tySl38 (by decide) rfl rfl rfl) | exact op_index_e tySl38 (by decide) rfl rfl rfl), fun _ => .guard (!((decide ((1 : Int) ≠ (1 : Int))) || (decide ((1 : Int) ≠ (1 : Int))))) 2 [118] (.plain rfl) (eq_f _) rfl rfl (fun hg40 => ⟨hg40, trivial⟩) (fun hg40 => by first | (simp only [decide_eq_true_eq, decide_eq_false_iff_not, Bool.and_eq_true, Bool.or_eq_true, Bool.not_eq_true', Bool.not_eq_false', Bool.and_eq_false_iff, Bool.or_eq_false_iff, Int.not_lt, Int.not_le, ne_eq, Decidable.not_not] at hg40; exact op_load_e tyAgg45 rfl rfl rfl) | exact op_load_e tyAgg45 rfl rfl rfl), fun _ => .guard (!((decide ((1 : Int) ≠ (1 : Int))) || (decide ((1 : Int) ≠ (1 : Int))))) 3 [116, 119] (.plain rfl) (eq_f _) rfl rfl (fun hg41 => ⟨hg41, hg41, trivial⟩) (fun hg41 => by first | (simp only [decide_eq_true_eq, decide_eq_false_iff_not, Bool.and_eq_true, Bool.or_eq_true, Bool.not_eq_true', Bool.not_eq_false', Bool.and_eq_false_iff, Bool.or_eq_false_iff, Int.not_lt, Int.not_le, ne_eq, Decidable.not_not] at hg41; exact op_neq_agg (eqAgg45 (⟨1, 0, 4, 7, 1, []⟩ : Parcel) (⟨1, 0, 4, 7, 1, []⟩ : Parcel)) rfl rfl neg_dec) | exact op_neq_agg (eqAgg45 (⟨1, 0, 4, 7, 1, []⟩ : Parcel) (⟨1, 0, 4, 7, 1, []⟩ : Parcel)) rfl rfl neg_dec), fun _ => .plain rfl (op_pick_or (fun e => by first | exact e | (rw [e]; rfl) | simp_all) rfl rfl rfl rfl), fun _ => .plain rfl (op_move rfl), fun _ => .guard (!(((decide ((1 : Int) ≠ (1 : Int))) || (decide ((1 : Int) ≠ (1 : Int)))) || (decide ((⟨1, 0, 4, 7, 1, []⟩ : Parcel) ≠ (⟨1, 0, 4, 7, 1, []⟩ : Parcel))))) 1 [] (.plain rfl) (eq_f _) rfl rfl (fun hg42 => trivial) (fun hg42 => by first | (simp only [decide_eq_true_eq, decide_eq_false_iff_not, Bool.and_eq_true, Bool.or_eq_true, Bool.not_eq_true', Bool.not_eq_false', Bool.and_eq_false_iff, Bool.or_eq_false_iff, Int.not_lt, Int.not_le, ne_eq, Decidable.not_not] at hg42; exact op_move rfl) | exact op_move rfl), fun _ => .guard (!(((decide ((1 : Int) ≠ (1 : Int))) || (decide ((1 : Int) ≠ (1 : Int)))) || (decide ((⟨1, 0, 4, 7, 1, []⟩ : Parcel) ≠ (⟨1, 0, 4, 7, 1, []⟩ : Parcel))))) 2 [123] (.plain rfl) (eq_f _) rfl rfl (fun hg43 => ⟨hg43, trivial⟩) (fun hg43 => by first | (simp only [decide_eq_true_eq, decide_eq_false_iff_not, Bool.and_eq_true, Bool.or_eq_true, Bool.not_eq_true', Bool.not_eq_false', Bool.and_eq_false_iff, Bool.or_eq_false_iff, Int.not_lt, Int.not_le, ne_eq, Decidable.not_not] at hg43; exact op_index_e tySl38 (by decide) rfl rfl rfl) | exact op_index_e tySl38 (by decide) rfl rfl rfl), fun _ => .guard (!(((decide ((1 : Int) ≠ (1 : Int))) || (decide ((1 : Int) ≠ (1 : Int)))) || (decide ((⟨1, 0, 4, 7, 1, []⟩ : Parcel) ≠ (⟨1, 0, 4, 7, 1, []⟩ : Parcel))))) 2 [124] (.plain rfl) (eq_f _) rfl rfl (fun hg44 => ⟨hg44, trivial⟩) (fun hg44 => by first | (simp only [decide_eq_true_eq, decide_eq_false_iff_not, Bool.and_eq_true, Bool.or_eq_true, Bool.not_eq_true', Bool.not_eq_false', Bool.and_eq_false_iff, Bool.or_eq_false_iff, Int.not_lt, Int.not_le, ne_eq, Decidable.not_not] at hg44; exact op_field_e tyFld45_2 rfl rfl) | exact op_field_e tyFld45_2 rfl rfl), fun _ => .guard (!(((decide ((1 : Int) ≠ (1 : Int))) || (decide ((1 : Int) ≠ (1 : Int)))) || (decide ((⟨1, 0, 4, 7, 1, []⟩ : Parcel) ≠ (⟨1, 0, 4, 7, 1, []⟩ : Parcel))))) 2 [125] (.plain rfl) (eq_f _) rfl rfl (fun hg45 => ⟨hg45, trivial⟩) (fun hg45 => by first | (simp only [decide_eq_true_eq, decide_eq_false_iff_not, Bool.and_eq_true, Bool.or_eq_true, Bool.not_eq_true', Bool.not_eq_false', Bool.and_eq_false_iff, Bool.or_eq_false_iff, Int.not_lt, Int.not_le, ne_eq, Decidable.not_not] at hg45; exact op_load_e1 tyOne3 rfl rfl) | exact op_load_e1 tyOne3 rfl rfl), fun _ => .guard (!(((decide ((1 : Int) ≠ (1 : Int))) || (decide ((1 : Int) ≠ (1 : Int)))) || (decide ((⟨1, 0, 4, 7, 1, []⟩ : Parcel) ≠ (⟨1, 0, 4, 7, 1, []⟩ : Parcel))))) 2 [126] (.plain rfl) (eq_f _) rfl rfl (fun hg46 => ⟨hg46, trivial⟩) (fun hg46 => by first | (simp only [decide_eq_true_eq, decide_eq_false_iff_not, Bool.and_eq_true, Bool.or_eq_true, Bool.not_eq_true', Bool.not_eq_false', Bool.and_eq_false_iff, Bool.or_eq_false_iff, Int.not_lt, Int.not_le, ne_eq, Decidable.not_not] at hg46; exact op_neq rfl rfl) | exact op_neq rfl rfl), fun _ => .plain rfl (op_pick_or (fun e => by first | exact e | (rw [e]; rfl) | simp_all) rfl rfl rfl rfl), trivial⟩ rfl ?_
        refine Tri.keep [1, 5, 8, 128] [] (s' := ⟨[(1, .b (.one (.sl 5 ([(⟨7, 1, 3, 1, [97]⟩ : Holding)].map eHolding)))), (5, .b (.one (.sl 5 ([(⟨7, 1, 1, 0, [97]⟩ : Holding)].map eHolding)))), (8, .b (.one (.sl 6 ([(⟨1, 0, 4, 7, 1, []⟩ : Parcel)].map eParcel)))), (128, B false)], []⟩) (by kernel_rfl) ?_
        refine Tri.cond rfl (fun hc47 => ?_) (fun hc47 => ?_)
        · exact absurd hc47 (by simp)
        · try simp only [decide_eq_true_eq, decide_eq_false_iff_not, Bool.and_eq_true, Bool.or_eq_true, Bool.not_eq_true', Bool.not_eq_false', Bool.and_eq_false_iff, Bool.or_eq_false_iff, Int.not_lt, Int.not_le, ne_eq, Decidable.not_not] at hc47
          refine Tri.skip ?_
          refine Fin.keep [1, 5, 8] [] (s' := ⟨[(1, .b (.one (.sl 5 ([(⟨7, 1, 3, 1, [97]⟩ : Holding)].map eHolding)))), (5, .b (.one (.sl 5 ([(⟨7, 1, 1, 0, [97]⟩ : Holding)].map eHolding)))), (8, .b (.one (.sl 6 ([(⟨1, 0, 4, 7, 1, []⟩ : Parcel)].map eParcel))))], []⟩) rfl ?_
          refine Fin.then ?_
          refine Tri.seq ?_
          refine Tri.regionL ?_
          refine OpsL.cons rfl (op_move rfl) ?_
          refine OpsL.cons rfl (op_move rfl) ?_
          refine OpsL.cons rfl (op_index_e tySl38 (by decide) rfl rfl rfl) ?_
          refine OpsL.cons rfl (op_load_e tyAgg45 rfl rfl rfl) ?_
          refine OpsL.cons rfl (op_call0 (receive_spec [(⟨7, 1, 3, 1, [97]⟩ : Holding)] 0 (⟨1, 0, 4, 7, 1, []⟩ : Parcel) (by decide +kernel) (by decide +kernel) (by decide +kernel)) goes32 rfl rfl) ?_
          refine OpsL.cons rfl (op_move rfl) ?_
          refine OpsL.cons rfl (op_extract rfl rfl) ?_
          refine OpsL.keep [1, 5, 129, 135] [] (s' := ⟨[(1, .b (.one (.sl 5 ([(⟨7, 1, 3, 1, [97]⟩ : Holding)].map eHolding)))), (5, .b (.one (.sl 5 ([(⟨7, 1, 1, 0, [97]⟩ : Holding)].map eHolding)))), (129, .tup [.one (.sl 5 ((recvL [(⟨7, 1, 3, 1, [97]⟩ : Holding)] 0 (⟨1, 0, 4, 7, 1, []⟩ : Parcel)).map eHolding)), .one (.sl 6 ((recvP [(⟨7, 1, 3, 1, [97]⟩ : Holding)] 0 (⟨1, 0, 4, 7, 1, []⟩ : Parcel)).map eParcel))]), (135, .b (.one (.sl 5 ((recvL [(⟨7, 1, 3, 1, [97]⟩ : Holding)] 0 (⟨1, 0, 4, 7, 1, []⟩ : Parcel)).map eHolding))))], []⟩) rfl ?_
          refine OpsL.cons rfl (op_extract rfl rfl) ?_
          refine OpsL.cons rfl (op_assign rfl) ?_
          refine OpsL.cons rfl (op_assign rfl) ?_
          refine OpsL.keep [1, 5, 10] [] (s' := ⟨[(1, .b (.one (.sl 5 ([(⟨7, 1, 0, 0, []⟩ : Holding)].map eHolding)))), (5, .b (.one (.sl 5 ([(⟨7, 1, 1, 0, [97]⟩ : Holding)].map eHolding)))), (10, .b (.one (.sl 6 ([].map eParcel))))], []⟩) (by kernel_rfl) ?_
          refine OpsL.nilK [1, 5, 10] [] (s' := ⟨[(1, .b (.one (.sl 5 ([(⟨7, 1, 0, 0, []⟩ : Holding)].map eHolding)))), (5, .b (.one (.sl 5 ([(⟨7, 1, 1, 0, [97]⟩ : Holding)].map eHolding)))), (10, .b (.one (.sl 6 ([].map eParcel))))], []⟩) rfl ?_
          refine Tri.seq ?_
          refine Tri.regionL ?_
          refine OpsL.cons rfl (op_buildSlice (k := 102) (es := [10, 20].map eI) tySl22 rfl rfl (uni_map fun _ => rfl) rfl (by decide) (by decide) rfl) ?_
          refine OpsL.cons rfl (op_assign rfl) ?_
          refine OpsL.nilK [1, 5, 10, 11] [102] (s' := ⟨[(1, .b (.one (.sl 5 ([(⟨7, 1, 0, 0, []⟩ : Holding)].map eHolding)))), (5, .b (.one (.sl 5 ([(⟨7, 1, 1, 0, [97]⟩ : Holding)].map eHolding)))), (10, .b (.one (.sl 6 ([].map eParcel)))), (11, .b (.row 102))], [(102, .row 3 1 ([10, 20].map eI))]⟩) rfl ?_
          refine Tri.seq ?_
          refine Tri.regionL ?_
          refine OpsL.persist 102 rfl ?_
          refine OpsL.cons rfl (op_move rfl) ?_
          refine OpsL.cons rfl (op_len_e' (m := 0) und38 rfl rfl) ?_
          refine OpsL.cons rfl (op_eql rfl rfl) ?_
          refine OpsL.cons rfl (op_move rfl) ?_
          refine OpsL.consG true 99 [] (.plain rfl) (eq_t _) rfl rfl (fun hg48 => trivial) (fun hg48 => (op_move rfl)) ?_
          refine OpsL.consG true 99 [142] (.plain rfl) (eq_t _) rfl rfl (fun hg49 => ⟨hg49, trivial⟩) (fun hg49 => by first | (simp only [decide_eq_true_eq, decide_eq_false_iff_not, Bool.and_eq_true, Bool.or_eq_true, Bool.not_eq_true', Bool.not_eq_false', Bool.and_eq_false_iff, Bool.or_eq_false_iff, Int.not_lt, Int.not_le, ne_eq, Decidable.not_not] at hg49; exact op_call0 (get_spec [(⟨7, 1, 0, 0, []⟩ : Holding)] 7 (by decide +kernel)) goes30 rfl rfl) | exact op_call0 (get_spec [(⟨7, 1, 0, 0, []⟩ : Holding)] 7 (by decide +kernel)) goes30 rfl rfl) ?_
          refine OpsL.consG true 99 [] (.plain rfl) (eq_t _) rfl rfl (fun hg50 => trivial) (fun hg50 => (op_build tyBuild59 rfl rfl)) ?_
          refine OpsL.keep [1, 5, 11, 141, 143, 144] [] (s' := ⟨[(1, .b (.one (.sl 5 ([(⟨7, 1, 0, 0, []⟩ : Holding)].map eHolding)))), (5, .b (.one (.sl 5 ([(⟨7, 1, 1, 0, [97]⟩ : Holding)].map eHolding)))), (11, .b (.one (.sl 1 ([10, 20].map eI)))), (141, B true), (143, .opt true (.agg [.i ((getP [(⟨7, 1, 0, 0, []⟩ : Holding)] 7).Body), .i ((getP [(⟨7, 1, 0, 0, []⟩ : Holding)] 7).Epoch), .i ((getP [(⟨7, 1, 0, 0, []⟩ : Holding)] 7).Phase), .i ((getP [(⟨7, 1, 0, 0, []⟩ : Holding)] 7).Peer), .str ((getP [(⟨7, 1, 0, 0, []⟩ : Holding)] 7).Data)])), (144, .opt true (.agg [.i 7, .i 1, .i 0, .i 0, .str []]))], []⟩) rfl ?_
          refine OpsL.consG true 99 [143, 144] (.plain rfl) (eq_t _) rfl rfl (fun hg51 => ⟨hg51, hg51, trivial⟩) (fun hg51 => (op_eql_agg (eqAgg59 (getP [(⟨7, 1, 0, 0, []⟩ : Holding)] 7) (⟨7, 1, 0, 0, []⟩ : Holding)) rfl rfl)) ?_
          refine OpsL.cons rfl (op_pick_and (fun e => by first | exact e | (rw [e]; rfl) | simp_all) rfl rfl rfl rfl) ?_
          refine OpsL.cons rfl (op_move rfl) ?_
          refine OpsL.consG (true && (decide ((getP [(⟨7, 1, 0, 0, []⟩ : Holding)] 7) = (⟨7, 1, 0, 0, []⟩ : Holding)))) 99 [] (.plain rfl) (eq_t _) rfl rfl (fun hg52 => trivial) (fun hg52 => (op_move rfl)) ?_
          refine OpsL.consG (true && (decide ((getP [(⟨7, 1, 0, 0, []⟩ : Holding)] 7) = (⟨7, 1, 0, 0, []⟩ : Holding)))) 99 [148] (.plain rfl) (eq_t _) rfl rfl (fun hg53 => ⟨hg53, trivial⟩) (fun hg53 => by first | (simp only [decide_eq_true_eq, decide_eq_false_iff_not, Bool.and_eq_true, Bool.or_eq_true, Bool.not_eq_true', Bool.not_eq_false', Bool.and_eq_false_iff, Bool.or_eq_false_iff, Int.not_lt, Int.not_le, ne_eq, Decidable.not_not] at hg53; exact op_call0 (get_spec [(⟨7, 1, 1, 0, [97]⟩ : Holding)] 7 (by decide +kernel)) goes30 rfl rfl) | exact op_call0 (get_spec [(⟨7, 1, 1, 0, [97]⟩ : Holding)] 7 (by decide +kernel)) goes30 rfl rfl) ?_
          refine OpsL.consG (true && (decide ((getP [(⟨7, 1, 0, 0, []⟩ : Holding)] 7) = (⟨7, 1, 0, 0, []⟩ : Holding)))) 99 [] (.plain rfl) (eq_t _) rfl rfl (fun hg54 => trivial) (fun hg54 => (op_build tyBuild59 rfl rfl)) ?_
          refine OpsL.consG (true && (decide ((getP [(⟨7, 1, 0, 0, []⟩ : Holding)] 7) = (⟨7, 1, 0, 0, []⟩ : Holding)))) 99 [149, 150] (.plain rfl) (eq_t _) rfl rfl (fun hg55 => ⟨hg55, hg55, trivial⟩) (fun hg55 => (op_eql_agg (eqAgg59 (getP [(⟨7, 1, 1, 0, [97]⟩ : Holding)] 7) (⟨7, 1, 1, 0, [97]⟩ : Holding)) rfl rfl)) ?_
          refine OpsL.cons rfl (op_pick_and (fun e => by first | exact e | (rw [e]; rfl) | simp_all) rfl rfl rfl rfl) ?_
          refine OpsL.cons rfl (op_assign rfl) ?_
          refine OpsL.keep [1, 5, 11, 12] [] (s' := ⟨[(1, .b (.one (.sl 5 ([(⟨7, 1, 0, 0, []⟩ : Holding)].map eHolding)))), (5, .b (.one (.sl 5 ([(⟨7, 1, 1, 0, [97]⟩ : Holding)].map eHolding)))), (11, .b (.one (.sl 1 ([10, 20].map eI)))), (12, B true)], []⟩) (by kernel_rfl) ?_
          refine OpsL.nilK [1, 5, 11, 12] [] (s' := ⟨[(1, .b (.one (.sl 5 ([(⟨7, 1, 0, 0, []⟩ : Holding)].map eHolding)))), (5, .b (.one (.sl 5 ([(⟨7, 1, 1, 0, [97]⟩ : Holding)].map eHolding)))), (11, .b (.one (.sl 1 ([10, 20].map eI)))), (12, B true)], []⟩) rfl ?_
          refine Tri.seq ?_
          refine Tri.regionL ?_
          refine OpsL.cons rfl (op_move rfl) ?_
          refine OpsL.cons rfl (op_move rfl) ?_
          refine OpsL.consG true 99 [] (.plain rfl) (eq_t _) rfl rfl (fun hg56 => trivial) (fun hg56 => (op_move rfl)) ?_
          refine OpsL.consG true 99 [155] (.plain rfl) (eq_t _) rfl rfl (fun hg57 => ⟨hg57, trivial⟩) (fun hg57 => by first | (simp only [decide_eq_true_eq, decide_eq_false_iff_not, Bool.and_eq_true, Bool.or_eq_true, Bool.not_eq_true', Bool.not_eq_false', Bool.and_eq_false_iff, Bool.or_eq_false_iff, Int.not_lt, Int.not_le, ne_eq, Decidable.not_not] at hg57; exact op_call0 (region_spec [10, 20] 9 (by decide +kernel)) goes10 rfl rfl) | exact op_call0 (region_spec [10, 20] 9 (by decide +kernel)) goes10 rfl rfl) ?_
          refine OpsL.consG true 99 [156] (.plain rfl) (eq_t _) rfl rfl (fun hg58 => ⟨hg58, trivial⟩) (fun hg58 => (op_eql rfl rfl)) ?_
          refine OpsL.cons rfl (op_pick_and (fun e => by first | exact e | (rw [e]; rfl) | simp_all) rfl rfl rfl rfl) ?_
          refine OpsL.cons rfl (op_move rfl) ?_
          refine OpsL.keep [1, 5, 11, 159] [] (s' := ⟨[(1, .b (.one (.sl 5 ([(⟨7, 1, 0, 0, []⟩ : Holding)].map eHolding)))), (5, .b (.one (.sl 5 ([(⟨7, 1, 1, 0, [97]⟩ : Holding)].map eHolding)))), (11, .b (.one (.sl 1 ([10, 20].map eI)))), (159, B (true && (decide ((regionP [10, 20] 9) = 0))))], []⟩) rfl ?_
          refine OpsL.consG (true && (decide ((regionP [10, 20] 9) = 0))) 99 [] (.plain rfl) (eq_t _) rfl rfl (fun hg59 => trivial) (fun hg59 => (op_move rfl)) ?_
          refine OpsL.consG (true && (decide ((regionP [10, 20] 9) = 0))) 99 [160] (.plain rfl) (eq_t _) rfl rfl (fun hg60 => ⟨hg60, trivial⟩) (fun hg60 => by first | (simp only [decide_eq_true_eq, decide_eq_false_iff_not, Bool.and_eq_true, Bool.or_eq_true, Bool.not_eq_true', Bool.not_eq_false', Bool.and_eq_false_iff, Bool.or_eq_false_iff, Int.not_lt, Int.not_le, ne_eq, Decidable.not_not] at hg60; exact op_call0 (region_spec [10, 20] 10 (by decide +kernel)) goes10 rfl rfl) | exact op_call0 (region_spec [10, 20] 10 (by decide +kernel)) goes10 rfl rfl) ?_
          refine OpsL.consG (true && (decide ((regionP [10, 20] 9) = 0))) 99 [161] (.plain rfl) (eq_t _) rfl rfl (fun hg61 => ⟨hg61, trivial⟩) (fun hg61 => (op_eql rfl rfl)) ?_
          refine OpsL.cons rfl (op_pick_and (fun e => by first | exact e | (rw [e]; rfl) | simp_all) rfl rfl rfl rfl) ?_
          refine OpsL.cons rfl (op_move rfl) ?_
          refine OpsL.consG ((true && (decide ((regionP [10, 20] 9) = 0))) && (decide ((regionP [10, 20] 10) = 1))) 99 [] (.plain rfl) (eq_t _) rfl rfl (fun hg62 => trivial) (fun hg62 => (op_move rfl)) ?_
          refine OpsL.consG ((true && (decide ((regionP [10, 20] 9) = 0))) && (decide ((regionP [10, 20] 10) = 1))) 99 [165] (.plain rfl) (eq_t _) rfl rfl (fun hg63 => ⟨hg63, trivial⟩) (fun hg63 => by first | (simp only [decide_eq_true_eq, decide_eq_false_iff_not, Bool.and_eq_true, Bool.or_eq_true, Bool.not_eq_true', Bool.not_eq_false', Bool.and_eq_false_iff, Bool.or_eq_false_iff, Int.not_lt, Int.not_le, ne_eq, Decidable.not_not] at hg63; exact op_call0 (region_spec [10, 20] 25 (by decide +kernel)) goes10 rfl rfl) | exact op_call0 (region_spec [10, 20] 25 (by decide +kernel)) goes10 rfl rfl) ?_
          refine OpsL.keep [1, 5, 164, 166] [] (s' := ⟨[(1, .b (.one (.sl 5 ([(⟨7, 1, 0, 0, []⟩ : Holding)].map eHolding)))), (5, .b (.one (.sl 5 ([(⟨7, 1, 1, 0, [97]⟩ : Holding)].map eHolding)))), (164, B ((true && (decide ((regionP [10, 20] 9) = 0))) && (decide ((regionP [10, 20] 10) = 1)))), (166, .opt ((true && (decide ((regionP [10, 20] 9) = 0))) && (decide ((regionP [10, 20] 10) = 1))) (.one (.i (regionP [10, 20] 25))))], []⟩) rfl ?_
          refine OpsL.consG ((true && (decide ((regionP [10, 20] 9) = 0))) && (decide ((regionP [10, 20] 10) = 1))) 99 [166] (.plain rfl) (eq_t _) rfl rfl (fun hg64 => ⟨hg64, trivial⟩) (fun hg64 => (op_eql rfl rfl)) ?_
          refine OpsL.cons rfl (op_pick_and (fun e => by first | exact e | (rw [e]; rfl) | simp_all) rfl rfl rfl rfl) ?_
          refine OpsL.cons rfl (op_move rfl) ?_
          refine OpsL.consG (((true && (decide ((regionP [10, 20] 9) = 0))) && (decide ((regionP [10, 20] 10) = 1))) && (decide ((regionP [10, 20] 25) = 2))) 99 [] (.plain rfl) (eq_t _) rfl rfl (fun hg65 => trivial) (fun hg65 => (op_move rfl)) ?_
          refine OpsL.consG (((true && (decide ((regionP [10, 20] 9) = 0))) && (decide ((regionP [10, 20] 10) = 1))) && (decide ((regionP [10, 20] 25) = 2))) 99 [] (.plain rfl) (eq_t _) rfl rfl (fun hg66 => trivial) (fun hg66 => (op_move rfl)) ?_
          refine OpsL.consG (((true && (decide ((regionP [10, 20] 9) = 0))) && (decide ((regionP [10, 20] 10) = 1))) && (decide ((regionP [10, 20] 25) = 2))) 99 [170, 171] (.plain rfl) (eq_t _) rfl rfl (fun hg67 => ⟨hg67, hg67, trivial⟩) (fun hg67 => (op_buildSliceP (es := [[(⟨7, 1, 0, 0, []⟩ : Holding)], [(⟨7, 1, 1, 0, [97]⟩ : Holding)]].map (eL 5 eHolding)) tySl37 rfl rfl (uni_map fun _ => rfl) rfl (by decide) (by decide))) ?_
          refine OpsL.consG (((true && (decide ((regionP [10, 20] 9) = 0))) && (decide ((regionP [10, 20] 10) = 1))) && (decide ((regionP [10, 20] 25) = 2))) 99 [172] (.plain rfl) (eq_t _) rfl rfl (fun hg68 => ⟨hg68, trivial⟩) (fun hg68 => by first | (simp only [decide_eq_true_eq, decide_eq_false_iff_not, Bool.and_eq_true, Bool.or_eq_true, Bool.not_eq_true', Bool.not_eq_false', Bool.and_eq_false_iff, Bool.or_eq_false_iff, Int.not_lt, Int.not_le, ne_eq, Decidable.not_not] at hg68; exact op_call0 (holder_spec [[(⟨7, 1, 0, 0, []⟩ : Holding)], [(⟨7, 1, 1, 0, [97]⟩ : Holding)]] 7 (by decide +kernel) (hall_of (by decide +kernel))) goes39 rfl rfl) | exact op_call0 (holder_spec [[(⟨7, 1, 0, 0, []⟩ : Holding)], [(⟨7, 1, 1, 0, [97]⟩ : Holding)]] 7 (by decide +kernel) (hall_of (by decide +kernel))) goes39 rfl rfl) ?_
          refine OpsL.keep [5, 169, 173] [] (s' := ⟨[(5, .b (.one (.sl 5 ([(⟨7, 1, 1, 0, [97]⟩ : Holding)].map eHolding)))), (169, B (((true && (decide ((regionP [10, 20] 9) = 0))) && (decide ((regionP [10, 20] 10) = 1))) && (decide ((regionP [10, 20] 25) = 2)))), (173, .opt (((true && (decide ((regionP [10, 20] 9) = 0))) && (decide ((regionP [10, 20] 10) = 1))) && (decide ((regionP [10, 20] 25) = 2))) (.one (.i (holdS [[(⟨7, 1, 0, 0, []⟩ : Holding)], [(⟨7, 1, 1, 0, [97]⟩ : Holding)]] 7))))], []⟩) rfl ?_
          refine OpsL.consG (((true && (decide ((regionP [10, 20] 9) = 0))) && (decide ((regionP [10, 20] 10) = 1))) && (decide ((regionP [10, 20] 25) = 2))) 99 [173] (.plain rfl) (eq_t _) rfl rfl (fun hg69 => ⟨hg69, trivial⟩) (fun hg69 => (op_eql rfl rfl)) ?_
          refine OpsL.cons rfl (op_pick_and (fun e => by first | exact e | (rw [e]; rfl) | simp_all) rfl rfl rfl rfl) ?_
          refine OpsL.cons rfl (op_move rfl) ?_
          refine OpsL.consG ((((true && (decide ((regionP [10, 20] 9) = 0))) && (decide ((regionP [10, 20] 10) = 1))) && (decide ((regionP [10, 20] 25) = 2))) && (decide ((holdS [[(⟨7, 1, 0, 0, []⟩ : Holding)], [(⟨7, 1, 1, 0, [97]⟩ : Holding)]] 7) = 1))) 99 [] (.plain rfl) (eq_t _) rfl rfl (fun hg70 => trivial) (fun hg70 => (op_move rfl)) ?_
          refine OpsL.consG ((((true && (decide ((regionP [10, 20] 9) = 0))) && (decide ((regionP [10, 20] 10) = 1))) && (decide ((regionP [10, 20] 25) = 2))) && (decide ((holdS [[(⟨7, 1, 0, 0, []⟩ : Holding)], [(⟨7, 1, 1, 0, [97]⟩ : Holding)]] 7) = 1))) 99 [177] (.plain rfl) (eq_t _) rfl rfl (fun hg71 => ⟨hg71, trivial⟩) (fun hg71 => by first | (simp only [decide_eq_true_eq, decide_eq_false_iff_not, Bool.and_eq_true, Bool.or_eq_true, Bool.not_eq_true', Bool.not_eq_false', Bool.and_eq_false_iff, Bool.or_eq_false_iff, Int.not_lt, Int.not_le, ne_eq, Decidable.not_not] at hg71; exact op_call0 (active_spec 0 [(⟨7, 1, 1, 0, [97]⟩ : Holding)] (by decide +kernel)).pers goes37 rfl rfl) | exact op_call0 (active_spec 0 [(⟨7, 1, 1, 0, [97]⟩ : Holding)] (by decide +kernel)).pers goes37 rfl rfl) ?_
          refine OpsL.consG ((((true && (decide ((regionP [10, 20] 9) = 0))) && (decide ((regionP [10, 20] 10) = 1))) && (decide ((regionP [10, 20] 25) = 2))) && (decide ((holdS [[(⟨7, 1, 0, 0, []⟩ : Holding)], [(⟨7, 1, 1, 0, [97]⟩ : Holding)]] 7) = 1))) 99 [178] (.plain rfl) (eq_t _) rfl rfl (fun hg72 => ⟨hg72, trivial⟩) (fun hg72 => (op_len_e' und22 rfl (List.length_map _))) ?_
          refine OpsL.consG ((((true && (decide ((regionP [10, 20] 9) = 0))) && (decide ((regionP [10, 20] 10) = 1))) && (decide ((regionP [10, 20] 25) = 2))) && (decide ((holdS [[(⟨7, 1, 0, 0, []⟩ : Holding)], [(⟨7, 1, 1, 0, [97]⟩ : Holding)]] 7) = 1))) 99 [179] (.plain rfl) (eq_t _) rfl rfl (fun hg73 => ⟨hg73, trivial⟩) (fun hg73 => (op_eql rfl rfl)) ?_
          refine OpsL.cons rfl (op_pick_and (fun e => by first | exact e | (rw [e]; rfl) | simp_all) rfl rfl rfl rfl) ?_
          refine OpsL.cons rfl (op_assign rfl) ?_
          refine OpsL.keep [0] [] (s' := ⟨[(0, B true)], []⟩) (by kernel_rfl) ?_
          refine OpsL.nilK [0] [] (s' := ⟨[(0, B true)], []⟩) rfl ?_
          refine Tri.ret ?_
          refine Fin.keep [0] [] (s' := ⟨[(0, B true)], []⟩) rfl ?_
          refine Fin.result' [.one (.bool true)] (.inl rfl) rfl (.cons (.tmp rfl) .nil) ?_
          exact ⟨rfl, rfl⟩

end Go.Proofs.Ytipepglcceogiaa
