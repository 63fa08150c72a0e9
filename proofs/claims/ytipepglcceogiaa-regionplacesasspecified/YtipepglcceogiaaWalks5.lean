/- Printed by a program of the prover's (s41.py): the walks of chapter 41. -/
import Derived.Test.YtipepglcceogiaaRows
import Derived.Test.YtipepglcceogiaaPlain
import Derived.Test.YtipepglcceogiaaWalks4
namespace Go.Proofs.Ytipepglcceogiaa
open Go.Sk
set_option maxHeartbeats 1000000
set_option maxRecDepth 4000
set_option linter.unusedSimpArgs false
set_option linter.unusedVariables false
theorem places_spec (borders : List Int) (x : Int) (y : Int) : Meets Try.prog 3 [] [.one (.sl 1 (borders.map eI)), .one (.i x), .one (.i y)] (Is [] (.b (.one (.bool true)))) := by
  refine Meets.intro 60 Try.func3 Try.ntmps3 rfl (by simp) fun E => ?_
  show Tri _ E ⟨60, [], []⟩ _ ⟨[(0, .b (.one (.sl 1 (borders.map eI)))), (1, I x), (2, I y)], []⟩ _
  refine Tri.seq ?_
  refine Tri.regionL ?_
  refine OpsL.cons rfl (op_assign rfl) ?_
  refine OpsL.nilK [0, 1, 2] [] (s' := ⟨[(0, .b (.one (.sl 1 (borders.map eI)))), (1, I x), (2, I y)], []⟩) rfl ?_
  refine Tri.seq ?_
  refine Tri.seq ?_
  refine Tri.regionL ?_
  refine OpsL.cons rfl (op_move rfl) ?_
  refine OpsL.cons rfl (op_len_e' und22 rfl (List.length_map _)) ?_
  refine OpsL.cons rfl (op_gtr rfl rfl) ?_
  refine OpsL.nilK [0, 1, 2, 12] [] (s' := ⟨[(0, .b (.one (.sl 1 (borders.map eI)))), (1, I x), (2, I y), (12, B (decide (20 < (borders.length : Int))))], []⟩) rfl ?_
  refine Tri.cond rfl (fun hc1 => ?_) (fun hc1 => ?_)
  · try simp only [decide_eq_true_eq, decide_eq_false_iff_not, Bool.and_eq_true, Bool.or_eq_true, Bool.not_eq_true', Bool.not_eq_false', Bool.and_eq_false_iff, Bool.or_eq_false_iff, Int.not_lt, Int.not_le, ne_eq, Decidable.not_not] at hc1
    refine Tri.seq ?_
    refine Tri.regionL ?_
    refine OpsL.cons rfl (op_call0 (sanity_spec) goes7 rfl rfl) ?_
    refine OpsL.cons rfl (op_assign rfl) ?_
    refine OpsL.nilK [6] [] (s' := ⟨[(6, B true)], []⟩) rfl ?_
    refine Tri.ret ?_
    refine Fin.then_ret ?_
    refine Fin.keep [6] [] (s' := ⟨[(6, B true)], []⟩) rfl ?_
    refine Fin.result' [.one (.bool true)] (.inl rfl) rfl (.cons (.tmp rfl) .nil) ?_
    exact ⟨rfl, rfl⟩
  · try simp only [decide_eq_true_eq, decide_eq_false_iff_not, Bool.and_eq_true, Bool.or_eq_true, Bool.not_eq_true', Bool.not_eq_false', Bool.and_eq_false_iff, Bool.or_eq_false_iff, Int.not_lt, Int.not_le, ne_eq, Decidable.not_not] at hc1
    refine Tri.skip ?_
    refine Fin.keep [0, 1, 2] [] (s' := ⟨[(0, .b (.one (.sl 1 (borders.map eI)))), (1, I x), (2, I y)], []⟩) rfl ?_
    refine Fin.then ?_
    refine Tri.seq ?_
    refine Tri.regionL ?_
    refine OpsL.cons rfl (op_move rfl) ?_
    refine OpsL.cons rfl (op_call0 (check_spec borders (by first | assumption | omega)) goes8 rfl rfl) ?_
    refine OpsL.cons rfl (op_assign rfl) ?_
    refine OpsL.nilK [0, 1, 2, 7] [] (s' := ⟨[(0, .b (.one (.sl 1 (borders.map eI)))), (1, I x), (2, I y), (7, I (checkS borders))], []⟩) rfl ?_
    refine Tri.seq ?_
    refine Tri.seq ?_
    refine Tri.regionL ?_
    refine OpsL.cons rfl (op_move rfl) ?_
    refine OpsL.cons rfl (op_move rfl) ?_
    refine OpsL.cons rfl (op_call0 (checkF_spec borders (by first | assumption | omega)) goes9 rfl rfl) ?_
    refine OpsL.cons rfl (op_neq rfl rfl) ?_
    refine OpsL.nilK [0, 1, 2, 7, 19] [] (s' := ⟨[(0, .b (.one (.sl 1 (borders.map eI)))), (1, I x), (2, I y), (7, I (checkS borders)), (19, B (decide ((checkS borders) ≠ (checkS borders))))], []⟩) rfl ?_
    refine Tri.cond rfl (fun hc2 => ?_) (fun hc2 => ?_)
    · try simp only [decide_eq_true_eq, decide_eq_false_iff_not, Bool.and_eq_true, Bool.or_eq_true, Bool.not_eq_true', Bool.not_eq_false', Bool.and_eq_false_iff, Bool.or_eq_false_iff, Int.not_lt, Int.not_le, ne_eq, Decidable.not_not] at hc2
      exact absurd hc2 (by simp)
    · try simp only [decide_eq_true_eq, decide_eq_false_iff_not, Bool.and_eq_true, Bool.or_eq_true, Bool.not_eq_true', Bool.not_eq_false', Bool.and_eq_false_iff, Bool.or_eq_false_iff, Int.not_lt, Int.not_le, ne_eq, Decidable.not_not] at hc2
      refine Tri.skip ?_
      refine Fin.keep [0, 1, 2, 7] [] (s' := ⟨[(0, .b (.one (.sl 1 (borders.map eI)))), (1, I x), (2, I y), (7, I (checkS borders))], []⟩) rfl ?_
      refine Fin.then ?_
      refine Tri.seq ?_
      refine Tri.seq ?_
      refine Tri.regionL ?_
      refine OpsL.cons rfl (op_move rfl) ?_
      refine OpsL.cons rfl (op_neq rfl rfl) ?_
      refine OpsL.nilK [0, 1, 2, 21] [] (s' := ⟨[(0, .b (.one (.sl 1 (borders.map eI)))), (1, I x), (2, I y), (21, B (decide ((checkS borders) ≠ 0)))], []⟩) rfl ?_
      refine Tri.cond rfl (fun hc3 => ?_) (fun hc3 => ?_)
      · try simp only [decide_eq_true_eq, decide_eq_false_iff_not, Bool.and_eq_true, Bool.or_eq_true, Bool.not_eq_true', Bool.not_eq_false', Bool.and_eq_false_iff, Bool.or_eq_false_iff, Int.not_lt, Int.not_le, ne_eq, Decidable.not_not] at hc3
        refine Tri.seq ?_
        refine Tri.regionL ?_
        refine OpsL.cons rfl (op_call0 (sanity_spec) goes7 rfl rfl) ?_
        refine OpsL.cons rfl (op_assign rfl) ?_
        refine OpsL.nilK [6] [] (s' := ⟨[(6, B true)], []⟩) rfl ?_
        refine Tri.ret ?_
        refine Fin.then_ret ?_
        refine Fin.keep [6] [] (s' := ⟨[(6, B true)], []⟩) rfl ?_
        refine Fin.result' [.one (.bool true)] (.inl rfl) rfl (.cons (.tmp rfl) .nil) ?_
        exact ⟨rfl, rfl⟩
      · try simp only [decide_eq_true_eq, decide_eq_false_iff_not, Bool.and_eq_true, Bool.or_eq_true, Bool.not_eq_true', Bool.not_eq_false', Bool.and_eq_false_iff, Bool.or_eq_false_iff, Int.not_lt, Int.not_le, ne_eq, Decidable.not_not] at hc3
        refine Tri.skip ?_
        refine Fin.keep [0, 1, 2] [] (s' := ⟨[(0, .b (.one (.sl 1 (borders.map eI)))), (1, I x), (2, I y)], []⟩) rfl ?_
        refine Fin.then ?_
        refine Tri.seq ?_
        refine Tri.seq ?_
        have hasc := asc_of_check (by assumption)
        refine Tri.regionL ?_
        refine OpsL.cons rfl (op_move rfl) ?_
        refine OpsL.cons rfl (op_len_e' und22 rfl (List.length_map _)) ?_
        refine OpsL.cons rfl (op_move rfl) ?_
        refine OpsL.nilK [0, 1, 2, 23, 24, 25] [] (s' := ⟨[(0, .b (.one (.sl 1 (borders.map eI)))), (1, I x), (2, I y), (23, .b (.one (.sl 1 (borders.map eI)))), (24, I (borders.length : Int)), (25, I 0)], []⟩) rfl ?_
        refine Tri.block ?_
        refine Tri.keep [0, 1, 2, 23, 24, 25] [] (s' := ⟨[(0, .b (.one (.sl 1 (borders.map eI)))), (1, I x), (2, I y), (23, .b (.one (.sl 1 (borders.map eI)))), (24, I (borders.length : Int)), (25, I 0)], []⟩) rfl ?_
        refine Tri.loop (ι := Int) (fun k => ⟨[(0, .b (.one (.sl 1 (borders.map eI)))), (1, I x), (2, I y), (23, .b (.one (.sl 1 (borders.map eI)))), (24, I (borders.length : Int)), (25, I k)], []⟩) (fun k => 0 ≤ k ∧ k ≤ borders.length) (fun k => (borders.length - k).toNat) 0 (by exact ⟨by omega, by omega⟩) rfl ?_
        rintro k ⟨h0, h1⟩
        show Tri _ _ _ _ ⟨[(0, .b (.one (.sl 1 (borders.map eI)))), (1, I x), (2, I y), (23, .b (.one (.sl 1 (borders.map eI)))), (24, I (borders.length : Int)), (25, I k)], []⟩ _
        refine Tri.seq ?_
        refine Tri.regionL ?_
        refine OpsL.cons rfl (op_lss rfl rfl) ?_
        refine OpsL.nilK [0, 1, 2, 23, 24, 25, 26] [] (s' := ⟨[(0, .b (.one (.sl 1 (borders.map eI)))), (1, I x), (2, I y), (23, .b (.one (.sl 1 (borders.map eI)))), (24, I (borders.length : Int)), (25, I k), (26, B (decide (k < (borders.length : Int))))], []⟩) rfl ?_
        refine Tri.seq ?_
        refine Tri.cond rfl (fun hc4 => ?_) (fun hc4 => ?_)
        · try simp only [decide_eq_true_eq, decide_eq_false_iff_not, Bool.and_eq_true, Bool.or_eq_true, Bool.not_eq_true', Bool.not_eq_false', Bool.and_eq_false_iff, Bool.or_eq_false_iff, Int.not_lt, Int.not_le, ne_eq, Decidable.not_not] at hc4
          refine Tri.skip ?_
          refine Fin.keep [0, 1, 2, 23, 24, 25] [] (s' := ⟨[(0, .b (.one (.sl 1 (borders.map eI)))), (1, I x), (2, I y), (23, .b (.one (.sl 1 (borders.map eI)))), (24, I (borders.length : Int)), (25, I k)], []⟩) rfl ?_
          refine Fin.then ?_
          refine Tri.seq ?_
          refine Tri.block ?_
          refine Tri.seq ?_
          refine Tri.regionL ?_
          refine OpsL.cons rfl (op_move rfl) ?_
          refine OpsL.cons rfl (op_index_e tySl22 (by omega) (map_idx (by omega) (by omega)) rfl rfl) ?_
          refine OpsL.cons rfl (op_load_e1 tyOne3 rfl rfl) ?_
          refine OpsL.cons rfl (op_assign rfl) ?_
          refine OpsL.cons rfl (op_assign rfl) ?_
          refine OpsL.nilK [0, 1, 2, 8, 9, 23, 24, 25] [] (s' := ⟨[(0, .b (.one (.sl 1 (borders.map eI)))), (1, I x), (2, I y), (8, I k), (9, I (idx borders k)), (23, .b (.one (.sl 1 (borders.map eI)))), (24, I (borders.length : Int)), (25, I k)], []⟩) rfl ?_
          refine Tri.seq ?_
          refine Tri.regionL ?_
          refine OpsL.cons rfl (op_move rfl) ?_
          refine OpsL.cons rfl (op_move rfl) ?_
          refine OpsL.cons rfl (op_call0 (region_spec borders (idx borders k) (by first | assumption | omega)) goes10 rfl rfl) ?_
          refine OpsL.cons rfl (op_move rfl) ?_
          refine OpsL.cons rfl (op_add' (inR_i64 (by omega) (by omega)) rfl rfl) ?_
          refine OpsL.cons rfl (op_neq rfl rfl) ?_
          refine OpsL.nilK [0, 1, 2, 23, 24, 25, 35] [] (s' := ⟨[(0, .b (.one (.sl 1 (borders.map eI)))), (1, I x), (2, I y), (23, .b (.one (.sl 1 (borders.map eI)))), (24, I (borders.length : Int)), (25, I k), (35, B (decide ((regionP borders (idx borders k)) ≠ (k + 1))))], []⟩) rfl ?_
          refine Tri.cond rfl (fun hc5 => ?_) (fun hc5 => ?_)
          · try simp only [decide_eq_true_eq, decide_eq_false_iff_not, Bool.and_eq_true, Bool.or_eq_true, Bool.not_eq_true', Bool.not_eq_false', Bool.and_eq_false_iff, Bool.or_eq_false_iff, Int.not_lt, Int.not_le, ne_eq, Decidable.not_not] at hc5
            exact absurd hc5 (by exact Decidable.not_not.2 (region_at hasc (by omega) (by omega)))
          · try simp only [decide_eq_true_eq, decide_eq_false_iff_not, Bool.and_eq_true, Bool.or_eq_true, Bool.not_eq_true', Bool.not_eq_false', Bool.and_eq_false_iff, Bool.or_eq_false_iff, Int.not_lt, Int.not_le, ne_eq, Decidable.not_not] at hc5
            refine Tri.skip ?_
            refine Fin.block_normal ?_
            refine Fin.keep [0, 1, 2, 23, 24, 25] [] (s' := ⟨[(0, .b (.one (.sl 1 (borders.map eI)))), (1, I x), (2, I y), (23, .b (.one (.sl 1 (borders.map eI)))), (24, I (borders.length : Int)), (25, I k)], []⟩) rfl ?_
            refine Fin.then ?_
            refine Tri.regionL ?_
            refine OpsL.cons rfl (op_add' (inR_i64 (by omega) (by omega)) rfl rfl) ?_
            refine OpsL.cons rfl (op_move rfl) ?_
            refine OpsL.nil ?_
            refine Fin.keep [0, 1, 2, 23, 24, 25] [] (s' := ⟨[(0, .b (.one (.sl 1 (borders.map eI)))), (1, I x), (2, I y), (23, .b (.one (.sl 1 (borders.map eI)))), (24, I (borders.length : Int)), (25, I (k + 1))], []⟩) rfl ?_
            refine Fin.again (k + 1) (by exact ⟨by omega, by omega⟩) (by first | omega | (dsimp only; omega)) rfl
        · try simp only [decide_eq_true_eq, decide_eq_false_iff_not, Bool.and_eq_true, Bool.or_eq_true, Bool.not_eq_true', Bool.not_eq_false', Bool.and_eq_false_iff, Bool.or_eq_false_iff, Int.not_lt, Int.not_le, ne_eq, Decidable.not_not] at hc4
          refine Tri.exit ?_
          refine Fin.then_exit ?_
          refine Fin.then_exit ?_
          refine Fin.block_exit ?_
          refine Fin.keep [0, 1, 2] [] (s' := ⟨[(0, .b (.one (.sl 1 (borders.map eI)))), (1, I x), (2, I y)], []⟩) rfl ?_
          refine Fin.then ?_
          refine Tri.seq ?_
          refine Tri.regionL ?_
          refine OpsL.cons rfl (op_call0 (sanity_spec) goes7 rfl rfl) ?_
          refine OpsL.cons rfl (op_move rfl) ?_
          refine OpsL.consG true 99 [] (.plain rfl) (eq_t _) rfl rfl (fun hg6 => trivial) (fun hg6 => (op_move rfl)) ?_
          refine OpsL.consG true 99 [] (.plain rfl) (eq_t _) rfl rfl (fun hg7 => trivial) (fun hg7 => (op_move rfl)) ?_
          refine OpsL.consG true 99 [39, 40] (.plain rfl) (eq_t _) rfl rfl (fun hg8 => ⟨hg8, hg8, trivial⟩) (fun hg8 => by first | (simp only [decide_eq_true_eq, decide_eq_false_iff_not, Bool.and_eq_true, Bool.or_eq_true, Bool.not_eq_true', Bool.not_eq_false', Bool.and_eq_false_iff, Bool.or_eq_false_iff, Int.not_lt, Int.not_le, ne_eq, Decidable.not_not] at hg8; exact op_call0 (region_spec borders x (by first | assumption | omega)) goes10 rfl rfl) | exact op_call0 (region_spec borders x (by first | assumption | omega)) goes10 rfl rfl) ?_
          refine OpsL.consG true 99 [] (.plain rfl) (eq_t _) rfl rfl (fun hg9 => trivial) (fun hg9 => (op_move rfl)) ?_
          refine OpsL.consG true 99 [] (.plain rfl) (eq_t _) rfl rfl (fun hg10 => trivial) (fun hg10 => (op_move rfl)) ?_
          refine OpsL.keep [0, 1, 2, 38, 41, 42, 43] [] (s' := ⟨[(0, .b (.one (.sl 1 (borders.map eI)))), (1, I x), (2, I y), (38, B true), (41, .opt true (.one (.i (regionP borders x)))), (42, .opt true (.one (.sl 1 (borders.map eI)))), (43, .opt true (.one (.i x)))], []⟩) rfl ?_
          refine OpsL.consG true 99 [42, 43] (.plain rfl) (eq_t _) rfl rfl (fun hg11 => ⟨hg11, hg11, trivial⟩) (fun hg11 => by first | (simp only [decide_eq_true_eq, decide_eq_false_iff_not, Bool.and_eq_true, Bool.or_eq_true, Bool.not_eq_true', Bool.not_eq_false', Bool.and_eq_false_iff, Bool.or_eq_false_iff, Int.not_lt, Int.not_le, ne_eq, Decidable.not_not] at hg11; exact op_call0 (regionF_spec borders x (by first | assumption | omega)) goes11 rfl rfl) | exact op_call0 (regionF_spec borders x (by first | assumption | omega)) goes11 rfl rfl) ?_
          refine OpsL.consG true 99 [41, 44] (.plain rfl) (eq_t _) rfl rfl (fun hg12 => ⟨hg12, hg12, trivial⟩) (fun hg12 => (op_eql rfl rfl)) ?_
          refine OpsL.cons rfl (op_pick_and (fun e => by first | exact e | (rw [e]; rfl) | simp_all) rfl rfl rfl rfl) ?_
          refine OpsL.cons rfl (op_move rfl) ?_
          refine OpsL.consG (true && (decide ((regionP borders x) = (cntS x borders)))) 99 [] (.plain rfl) (eq_t _) rfl rfl (fun hg13 => trivial) (fun hg13 => (op_move rfl)) ?_
          refine OpsL.consG (true && (decide ((regionP borders x) = (cntS x borders)))) 99 [] (.plain rfl) (eq_t _) rfl rfl (fun hg14 => trivial) (fun hg14 => (op_move rfl)) ?_
          refine OpsL.consG (true && (decide ((regionP borders x) = (cntS x borders)))) 99 [] (.plain rfl) (eq_t _) rfl rfl (fun hg15 => trivial) (fun hg15 => (op_move rfl)) ?_
          refine OpsL.keep [0, 1, 2, 47, 48, 49, 50] [] (s' := ⟨[(0, .b (.one (.sl 1 (borders.map eI)))), (1, I x), (2, I y), (47, B (true && (decide ((regionP borders x) = (cntS x borders))))), (48, .opt (true && (decide ((regionP borders x) = (cntS x borders)))) (.one (.sl 1 (borders.map eI)))), (49, .opt (true && (decide ((regionP borders x) = (cntS x borders)))) (.one (.i x))), (50, .opt (true && (decide ((regionP borders x) = (cntS x borders)))) (.one (.i y)))], []⟩) rfl ?_
          refine OpsL.consG (true && (decide ((regionP borders x) = (cntS x borders)))) 99 [49, 50] (.plain rfl) (eq_t _) rfl rfl (fun hg16 => ⟨hg16, hg16, trivial⟩) (fun hg16 => by first | (simp only [decide_eq_true_eq, decide_eq_false_iff_not, Bool.and_eq_true, Bool.or_eq_true, Bool.not_eq_true', Bool.not_eq_false', Bool.and_eq_false_iff, Bool.or_eq_false_iff, Int.not_lt, Int.not_le, ne_eq, Decidable.not_not] at hg16; exact op_min rfl rfl) | exact op_min rfl rfl) ?_
          refine OpsL.consG (true && (decide ((regionP borders x) = (cntS x borders)))) 99 [48, 51] (.plain rfl) (eq_t _) rfl rfl (fun hg17 => ⟨hg17, hg17, trivial⟩) (fun hg17 => by first | (simp only [decide_eq_true_eq, decide_eq_false_iff_not, Bool.and_eq_true, Bool.or_eq_true, Bool.not_eq_true', Bool.not_eq_false', Bool.and_eq_false_iff, Bool.or_eq_false_iff, Int.not_lt, Int.not_le, ne_eq, Decidable.not_not] at hg17; exact op_call0 (region_spec borders (min x y) (by first | assumption | omega)) goes10 rfl rfl) | exact op_call0 (region_spec borders (min x y) (by first | assumption | omega)) goes10 rfl rfl) ?_
          refine OpsL.consG (true && (decide ((regionP borders x) = (cntS x borders)))) 99 [] (.plain rfl) (eq_t _) rfl rfl (fun hg18 => trivial) (fun hg18 => (op_move rfl)) ?_
          refine OpsL.consG (true && (decide ((regionP borders x) = (cntS x borders)))) 99 [] (.plain rfl) (eq_t _) rfl rfl (fun hg19 => trivial) (fun hg19 => (op_move rfl)) ?_
          refine OpsL.consG (true && (decide ((regionP borders x) = (cntS x borders)))) 99 [] (.plain rfl) (eq_t _) rfl rfl (fun hg20 => trivial) (fun hg20 => (op_move rfl)) ?_
          refine OpsL.consG (true && (decide ((regionP borders x) = (cntS x borders)))) 99 [54, 55] (.plain rfl) (eq_t _) rfl rfl (fun hg21 => ⟨hg21, hg21, trivial⟩) (fun hg21 => by first | (simp only [decide_eq_true_eq, decide_eq_false_iff_not, Bool.and_eq_true, Bool.or_eq_true, Bool.not_eq_true', Bool.not_eq_false', Bool.and_eq_false_iff, Bool.or_eq_false_iff, Int.not_lt, Int.not_le, ne_eq, Decidable.not_not] at hg21; exact op_max rfl rfl) | exact op_max rfl rfl) ?_
          refine OpsL.consG (true && (decide ((regionP borders x) = (cntS x borders)))) 99 [53, 56] (.plain rfl) (eq_t _) rfl rfl (fun hg22 => ⟨hg22, hg22, trivial⟩) (fun hg22 => by first | (simp only [decide_eq_true_eq, decide_eq_false_iff_not, Bool.and_eq_true, Bool.or_eq_true, Bool.not_eq_true', Bool.not_eq_false', Bool.and_eq_false_iff, Bool.or_eq_false_iff, Int.not_lt, Int.not_le, ne_eq, Decidable.not_not] at hg22; exact op_call0 (region_spec borders (max x y) (by first | assumption | omega)) goes10 rfl rfl) | exact op_call0 (region_spec borders (max x y) (by first | assumption | omega)) goes10 rfl rfl) ?_
          refine OpsL.keep [47, 52, 57] [] (s' := ⟨[(47, B (true && (decide ((regionP borders x) = (cntS x borders))))), (52, .opt (true && (decide ((regionP borders x) = (cntS x borders)))) (.one (.i (regionP borders (min x y))))), (57, .opt (true && (decide ((regionP borders x) = (cntS x borders)))) (.one (.i (regionP borders (max x y)))))], []⟩) rfl ?_
          refine OpsL.consG (true && (decide ((regionP borders x) = (cntS x borders)))) 99 [52, 57] (.plain rfl) (eq_t _) rfl rfl (fun hg23 => ⟨hg23, hg23, trivial⟩) (fun hg23 => (op_leq rfl rfl)) ?_
          refine OpsL.cons rfl (op_pick_and (fun e => by first | exact e | (rw [e]; rfl) | simp_all) rfl rfl rfl rfl) ?_
          refine OpsL.cons rfl (op_assign rfl) ?_
          refine OpsL.nilK [6] [] (s' := ⟨[(6, B ((true && (decide ((regionP borders x) = (cntS x borders)))) && (decide ((regionP borders (min x y)) ≤ (regionP borders (max x y))))))], []⟩) rfl ?_
          refine Tri.ret ?_
          refine Fin.keep [6] [] (s' := ⟨[(6, B ((true && (decide ((regionP borders x) = (cntS x borders)))) && (decide ((regionP borders (min x y)) ≤ (regionP borders (max x y))))))], []⟩) rfl ?_
          refine Fin.result' [.one (.bool ((true && (decide ((regionP borders x) = (cntS x borders)))) && (decide ((regionP borders (min x y)) ≤ (regionP borders (max x y))))))] (.inl rfl) rfl (.cons (.tmp rfl) .nil) ?_
          have e0 : ((true && (decide ((regionP borders x) = (cntS x borders)))) && (decide ((regionP borders (min x y)) ≤ (regionP borders (max x y))))) = true := by first | rfl | exact regions_ok hasc x y
          rw [e0]
          exact ⟨rfl, rfl⟩

end Go.Proofs.Ytipepglcceogiaa
