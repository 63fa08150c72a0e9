/- Printed by a program of the prover's (s41.py): the walks of chapter 41. -/
import Derived.Test.YtipepglcceogiaaRows
import Derived.Test.YtipepglcceogiaaPlain
import Derived.Test.YtipepglcceogiaaFacts
namespace Go.Proofs.Ytipepglcceogiaa
open Go.Sk
set_option maxHeartbeats 1000000
set_option maxRecDepth 4000
set_option linter.unusedSimpArgs false
set_option linter.unusedVariables false
theorem known_spec (b : Int) : Meets Try.prog 44 [] [.one (.i b)] (Is [] (.b (.one (.bool (knownS b))))) := by
  refine Meets.intro 9 Try.func44 Try.ntmps44 rfl (by simp) fun E => ?_
  show Tri _ E ⟨9, [], []⟩ _ ⟨[(0, I b)], []⟩ _
  refine Tri.seq ?_
  refine Tri.regionL ?_
  refine OpsL.cons rfl (op_assign rfl) ?_
  refine OpsL.nilK [0] [] (s' := ⟨[(0, I b)], []⟩) rfl ?_
  refine Tri.seq ?_
  refine Tri.regionL ?_
  refine OpsL.cons rfl (op_move rfl) ?_
  refine OpsL.cons rfl (op_geq rfl rfl) ?_
  refine OpsL.cons rfl (op_move rfl) ?_
  refine OpsL.consG (decide (1 ≤ b)) 99 [] (.plain rfl) (eq_t _) rfl rfl (fun hg1 => trivial) (fun hg1 => (op_move rfl)) ?_
  refine OpsL.consG (decide (1 ≤ b)) 99 [6] (.plain rfl) (eq_t _) rfl rfl (fun hg2 => ⟨hg2, trivial⟩) (fun hg2 => (op_leq rfl rfl)) ?_
  refine OpsL.cons rfl (op_pick_and (fun e => by first | exact e | (rw [e]; rfl) | simp_all) rfl rfl rfl rfl) ?_
  refine OpsL.cons rfl (op_assign rfl) ?_
  refine OpsL.nilK [2] [] (s' := ⟨[(2, B ((decide (1 ≤ b)) && (decide (b ≤ 400))))], []⟩) rfl ?_
  refine Tri.ret ?_
  refine Fin.keep [2] [] (s' := ⟨[(2, B ((decide (1 ≤ b)) && (decide (b ≤ 400))))], []⟩) rfl ?_
  refine Fin.result' [.one (.bool ((decide (1 ≤ b)) && (decide (b ≤ 400))))] (.inl rfl) rfl (.cons (.tmp rfl) .nil) ?_
  have e0 : (knownS b) = ((decide (1 ≤ b)) && (decide (b ≤ 400))) := by rfl
  rw [e0]
  exact ⟨rfl, rfl⟩

theorem body_spec (b : Int) : Meets Try.prog 48 [] [.one (.i b)] (Is [] (.b (.one (.bool (knownS b))))) := by
  refine Meets.intro 9 Try.func48 Try.ntmps48 rfl (by simp) fun E => ?_
  show Tri _ E ⟨9, [], []⟩ _ ⟨[(0, I b)], []⟩ _
  refine Tri.seq ?_
  refine Tri.regionL ?_
  refine OpsL.cons rfl (op_assign rfl) ?_
  refine OpsL.nilK [0] [] (s' := ⟨[(0, I b)], []⟩) rfl ?_
  refine Tri.seq ?_
  refine Tri.regionL ?_
  refine OpsL.cons rfl (op_move rfl) ?_
  refine OpsL.cons rfl (op_geq rfl rfl) ?_
  refine OpsL.cons rfl (op_move rfl) ?_
  refine OpsL.consG (decide (1 ≤ b)) 99 [] (.plain rfl) (eq_t _) rfl rfl (fun hg1 => trivial) (fun hg1 => (op_move rfl)) ?_
  refine OpsL.consG (decide (1 ≤ b)) 99 [6] (.plain rfl) (eq_t _) rfl rfl (fun hg2 => ⟨hg2, trivial⟩) (fun hg2 => (op_leq rfl rfl)) ?_
  refine OpsL.cons rfl (op_pick_and (fun e => by first | exact e | (rw [e]; rfl) | simp_all) rfl rfl rfl rfl) ?_
  refine OpsL.cons rfl (op_assign rfl) ?_
  refine OpsL.nilK [2] [] (s' := ⟨[(2, B ((decide (1 ≤ b)) && (decide (b ≤ 400))))], []⟩) rfl ?_
  refine Tri.ret ?_
  refine Fin.keep [2] [] (s' := ⟨[(2, B ((decide (1 ≤ b)) && (decide (b ≤ 400))))], []⟩) rfl ?_
  refine Fin.result' [.one (.bool ((decide (1 ≤ b)) && (decide (b ≤ 400))))] (.inl rfl) rfl (.cons (.tmp rfl) .nil) ?_
  have e0 : (knownS b) = ((decide (1 ≤ b)) && (decide (b ≤ 400))) := by rfl
  rw [e0]
  exact ⟨rfl, rfl⟩

theorem node_spec (b : Int) : Meets Try.prog 47 [] [.one (.i b)] (Is [] (.b (.one (.bool (nodeS b))))) := by
  refine Meets.intro 9 Try.func47 Try.ntmps47 rfl (by simp) fun E => ?_
  show Tri _ E ⟨9, [], []⟩ _ ⟨[(0, I b)], []⟩ _
  refine Tri.seq ?_
  refine Tri.regionL ?_
  refine OpsL.cons rfl (op_assign rfl) ?_
  refine OpsL.nilK [0] [] (s' := ⟨[(0, I b)], []⟩) rfl ?_
  refine Tri.seq ?_
  refine Tri.regionL ?_
  refine OpsL.cons rfl (op_move rfl) ?_
  refine OpsL.cons rfl (op_geq rfl rfl) ?_
  refine OpsL.cons rfl (op_move rfl) ?_
  refine OpsL.consG (decide (0 ≤ b)) 99 [] (.plain rfl) (eq_t _) rfl rfl (fun hg1 => trivial) (fun hg1 => (op_move rfl)) ?_
  refine OpsL.consG (decide (0 ≤ b)) 99 [6] (.plain rfl) (eq_t _) rfl rfl (fun hg2 => ⟨hg2, trivial⟩) (fun hg2 => (op_lss rfl rfl)) ?_
  refine OpsL.cons rfl (op_pick_and (fun e => by first | exact e | (rw [e]; rfl) | simp_all) rfl rfl rfl rfl) ?_
  refine OpsL.cons rfl (op_assign rfl) ?_
  refine OpsL.nilK [2] [] (s' := ⟨[(2, B ((decide (0 ≤ b)) && (decide (b < 16))))], []⟩) rfl ?_
  refine Tri.ret ?_
  refine Fin.keep [2] [] (s' := ⟨[(2, B ((decide (0 ≤ b)) && (decide (b < 16))))], []⟩) rfl ?_
  refine Fin.result' [.one (.bool ((decide (0 ≤ b)) && (decide (b < 16))))] (.inl rfl) rfl (.cons (.tmp rfl) .nil) ?_
  have e0 : (nodeS b) = ((decide (0 ≤ b)) && (decide (b < 16))) := by rfl
  rw [e0]
  exact ⟨rfl, rfl⟩

theorem nodeF_spec (b : Int) : Meets Try.prog 50 [] [.one (.i b)] (Is [] (.b (.one (.bool (nodeS b))))) := by
  refine Meets.intro 9 Try.func50 Try.ntmps50 rfl (by simp) fun E => ?_
  show Tri _ E ⟨9, [], []⟩ _ ⟨[(0, I b)], []⟩ _
  refine Tri.seq ?_
  refine Tri.regionL ?_
  refine OpsL.cons rfl (op_assign rfl) ?_
  refine OpsL.nilK [0] [] (s' := ⟨[(0, I b)], []⟩) rfl ?_
  refine Tri.seq ?_
  refine Tri.regionL ?_
  refine OpsL.cons rfl (op_move rfl) ?_
  refine OpsL.cons rfl (op_geq rfl rfl) ?_
  refine OpsL.cons rfl (op_move rfl) ?_
  refine OpsL.consG (decide (0 ≤ b)) 99 [] (.plain rfl) (eq_t _) rfl rfl (fun hg1 => trivial) (fun hg1 => (op_move rfl)) ?_
  refine OpsL.consG (decide (0 ≤ b)) 99 [6] (.plain rfl) (eq_t _) rfl rfl (fun hg2 => ⟨hg2, trivial⟩) (fun hg2 => (op_lss rfl rfl)) ?_
  refine OpsL.cons rfl (op_pick_and (fun e => by first | exact e | (rw [e]; rfl) | simp_all) rfl rfl rfl rfl) ?_
  refine OpsL.cons rfl (op_assign rfl) ?_
  refine OpsL.nilK [2] [] (s' := ⟨[(2, B ((decide (0 ≤ b)) && (decide (b < 16))))], []⟩) rfl ?_
  refine Tri.ret ?_
  refine Fin.keep [2] [] (s' := ⟨[(2, B ((decide (0 ≤ b)) && (decide (b < 16))))], []⟩) rfl ?_
  refine Fin.result' [.one (.bool ((decide (0 ≤ b)) && (decide (b < 16))))] (.inl rfl) rfl (.cons (.tmp rfl) .nil) ?_
  have e0 : (nodeS b) = ((decide (0 ≤ b)) && (decide (b < 16))) := by rfl
  rw [e0]
  exact ⟨rfl, rfl⟩

theorem most_spec : Meets Try.prog 51 [] [] (Is [] (.b (.one (.i 1099511627776)))) := by
  refine Meets.intro 1 Try.func51 Try.ntmps51 rfl (by simp) fun E => ?_
  show Tri _ E ⟨1, [], []⟩ _ ⟨[], []⟩ _
  refine Tri.seq ?_
  refine Tri.regionL ?_
  refine OpsL.cons rfl (op_assign rfl) ?_
  refine OpsL.nilK [] [] (s' := ⟨[], []⟩) rfl ?_
  refine Tri.seq ?_
  refine Tri.regionL ?_
  refine OpsL.cons rfl (op_assign rfl) ?_
  refine OpsL.nilK [0] [] (s' := ⟨[(0, I 1099511627776)], []⟩) rfl ?_
  refine Tri.ret ?_
  refine Fin.keep [0] [] (s' := ⟨[(0, I 1099511627776)], []⟩) rfl ?_
  refine Fin.result' [.one (.i 1099511627776)] (.inl rfl) rfl (.cons (.tmp rfl) .nil) ?_
  exact ⟨rfl, rfl⟩

theorem cisNaN_spec (a : Int) : Meets Try.prog 64 [] [.one (.i a)] (Is [] (.b (.one (.bool false)))) := by
  refine Meets.intro 6 Try.func64 Try.ntmps64 rfl (by simp) fun E => ?_
  show Tri _ E ⟨6, [], []⟩ _ ⟨[(0, I a)], []⟩ _
  refine Tri.seq ?_
  refine Tri.regionL ?_
  refine OpsL.cons rfl (op_assign rfl) ?_
  refine OpsL.nilK [0] [] (s' := ⟨[(0, I a)], []⟩) rfl ?_
  refine Tri.seq ?_
  refine Tri.regionL ?_
  refine OpsL.cons rfl (op_move rfl) ?_
  refine OpsL.cons rfl (op_move rfl) ?_
  refine OpsL.cons rfl (op_neq rfl rfl) ?_
  refine OpsL.cons rfl (op_assign rfl) ?_
  refine OpsL.nilK [2] [] (s' := ⟨[(2, B (decide (a ≠ a)))], []⟩) rfl ?_
  refine Tri.ret ?_
  refine Fin.keep [2] [] (s' := ⟨[(2, B (decide (a ≠ a)))], []⟩) rfl ?_
  refine Fin.result' [.one (.bool (decide (a ≠ a)))] (.inl rfl) rfl (.cons (.tmp rfl) .nil) ?_
  have e0 : (decide (a ≠ a)) = false := by simp
  rw [e0]
  exact ⟨rfl, rfl⟩

theorem isNaN_spec (a : Int) : Meets Try.prog 56 [] [.one (.i a)] (Is [] (.b (.one (.bool false)))) := by
  refine Meets.intro 6 Try.func56 Try.ntmps56 rfl (by simp) fun E => ?_
  show Tri _ E ⟨6, [], []⟩ _ ⟨[(0, I a)], []⟩ _
  refine Tri.seq ?_
  refine Tri.regionL ?_
  refine OpsL.cons rfl (op_assign rfl) ?_
  refine OpsL.nilK [0] [] (s' := ⟨[(0, I a)], []⟩) rfl ?_
  refine Tri.seq ?_
  refine Tri.regionL ?_
  refine OpsL.cons rfl (op_move rfl) ?_
  refine OpsL.cons rfl (op_move rfl) ?_
  refine OpsL.cons rfl (op_neq rfl rfl) ?_
  refine OpsL.cons rfl (op_assign rfl) ?_
  refine OpsL.nilK [2] [] (s' := ⟨[(2, B (decide (a ≠ a)))], []⟩) rfl ?_
  refine Tri.ret ?_
  refine Fin.keep [2] [] (s' := ⟨[(2, B (decide (a ≠ a)))], []⟩) rfl ?_
  refine Fin.result' [.one (.bool (decide (a ≠ a)))] (.inl rfl) rfl (.cons (.tmp rfl) .nil) ?_
  have e0 : (decide (a ≠ a)) = false := by simp
  rw [e0]
  exact ⟨rfl, rfl⟩

theorem less_spec (a : Int) (c : Int) : Meets Try.prog 55 [] [.one (.i a), .one (.i c)] (Is [] (.b (.one (.bool (decide (a < c)))))) := by
  refine Meets.intro 17 Try.func55 Try.ntmps55 rfl (by simp) fun E => ?_
  show Tri _ E ⟨17, [], []⟩ _ ⟨[(0, I a), (1, I c)], []⟩ _
  refine Tri.seq ?_
  refine Tri.regionL ?_
  refine OpsL.cons rfl (op_assign rfl) ?_
  refine OpsL.nilK [0, 1] [] (s' := ⟨[(0, I a), (1, I c)], []⟩) rfl ?_
  refine Tri.seq ?_
  refine Tri.regionL ?_
  refine OpsL.cons rfl (op_move rfl) ?_
  refine OpsL.cons rfl (op_call0 (cisNaN_spec a) goes64 rfl rfl) ?_
  refine OpsL.cons rfl (op_move rfl) ?_
  refine OpsL.consG false 99 [] (.plain rfl) (eq_t _) rfl rfl (fun hg1 => trivial) (fun hg1 => (op_move rfl)) ?_
  refine OpsL.consG false 99 [8] (.plain rfl) (eq_t _) rfl rfl (fun hg2 => ⟨hg2, trivial⟩) (fun hg2 => by first | (simp only [decide_eq_true_eq, decide_eq_false_iff_not, Bool.and_eq_true, Bool.or_eq_true, Bool.not_eq_true', Bool.not_eq_false', Bool.and_eq_false_iff, Bool.or_eq_false_iff, Int.not_lt, Int.not_le, ne_eq, Decidable.not_not] at hg2; exact op_call0 (cisNaN_spec c) goes64 rfl rfl) | exact op_call0 (cisNaN_spec c) goes64 rfl rfl) ?_
  refine OpsL.consG false 99 [9] (.plain rfl) (eq_t _) rfl rfl (fun hg3 => ⟨hg3, trivial⟩) (fun hg3 => (op_not rfl)) ?_
  refine OpsL.cons rfl (op_pick_and (fun e => by first | exact e | (rw [e]; rfl) | simp_all) rfl rfl rfl rfl) ?_
  refine OpsL.keep [0, 1, 11] [] (s' := ⟨[(0, I a), (1, I c), (11, B (false && (!false)))], []⟩) rfl ?_
  refine OpsL.cons rfl (op_move rfl) ?_
  refine OpsL.consG (!(false && (!false))) 99 [] (.plain rfl) (eq_f _) rfl rfl (fun hg4 => trivial) (fun hg4 => (op_move rfl)) ?_
  refine OpsL.consG (!(false && (!false))) 99 [] (.plain rfl) (eq_f _) rfl rfl (fun hg5 => trivial) (fun hg5 => (op_move rfl)) ?_
  refine OpsL.consG (!(false && (!false))) 99 [13, 14] (.plain rfl) (eq_f _) rfl rfl (fun hg6 => ⟨hg6, hg6, trivial⟩) (fun hg6 => (op_lss rfl rfl)) ?_
  refine OpsL.cons rfl (op_pick_or (fun e => by first | exact e | (rw [e]; rfl) | simp_all) rfl rfl rfl rfl) ?_
  refine OpsL.cons rfl (op_assign rfl) ?_
  refine OpsL.nilK [4] [] (s' := ⟨[(4, B ((false && (!false)) || (decide (a < c))))], []⟩) rfl ?_
  refine Tri.ret ?_
  refine Fin.keep [4] [] (s' := ⟨[(4, B ((false && (!false)) || (decide (a < c))))], []⟩) rfl ?_
  refine Fin.result' [.one (.bool ((false && (!false)) || (decide (a < c))))] (.inl rfl) rfl (.cons (.tmp rfl) .nil) ?_
  have e0 : (decide (a < c)) = ((false && (!false)) || (decide (a < c))) := by simp
  rw [e0]
  exact ⟨rfl, rfl⟩

theorem place1_spec (h : Holding) (c : Int) : Meets Try.prog 58 [] [.agg (eHolding h), .one (.i c)] (Is [] (.b (.one (.i (IntKind.i64.wrap (h.Body - c)))))) := by
  refine Meets.intro 9 Try.func58 Try.ntmps58 rfl (by simp) fun E => ?_
  show Tri _ E ⟨9, [], []⟩ _ ⟨[(0, .b (.agg [.i h.Body, .i h.Epoch, .i h.Phase, .i h.Peer, .str h.Data])), (1, I c)], []⟩ _
  refine Tri.seq ?_
  refine Tri.regionL ?_
  refine OpsL.cons rfl (op_box (k := 101) rfl rfl) ?_
  refine OpsL.cons rfl (op_assign rfl) ?_
  refine OpsL.nilK [1, 2] [101] (s' := ⟨[(1, I c), (2, .b (.ptr 101 0))], [(101, .box 59 [.i h.Body, .i h.Epoch, .i h.Phase, .i h.Peer, .str h.Data])]⟩) rfl ?_
  refine Tri.seq ?_
  refine Tri.regionL ?_
  refine OpsL.cons rfl (op_field_p tyFld59_0 rfl rfl) ?_
  refine OpsL.cons rfl (op_load_p1 tyOne3 rfl rfl rfl) ?_
  refine OpsL.cons rfl (op_move rfl) ?_
  refine OpsL.cons rfl (op_sub rfl rfl) ?_
  refine OpsL.cons rfl (op_assign rfl) ?_
  refine OpsL.nilK [4] [] (s' := ⟨[(4, I (IntKind.i64.wrap (h.Body - c)))], []⟩) rfl ?_
  refine Tri.ret ?_
  refine Fin.keep [4] [] (s' := ⟨[(4, I (IntKind.i64.wrap (h.Body - c)))], []⟩) rfl ?_
  refine Fin.result' [.one (.i (IntKind.i64.wrap (h.Body - c)))] (.inl rfl) rfl (.cons (.tmp rfl) .nil) ?_
  exact ⟨rfl, rfl⟩

theorem right_spec (h : Holding) : Meets Try.prog 42 [] [.agg (eHolding h)] (Is [] (.b (.one (.bool (rightS h))))) := by
  refine Meets.intro 46 Try.func42 Try.ntmps42 rfl (by simp) fun E => ?_
  show Tri _ E ⟨46, [], []⟩ _ ⟨[(0, .b (.agg [.i h.Body, .i h.Epoch, .i h.Phase, .i h.Peer, .str h.Data]))], []⟩ _
  refine Tri.seq ?_
  refine Tri.regionL ?_
  refine OpsL.cons rfl (op_box (k := 101) rfl rfl) ?_
  refine OpsL.cons rfl (op_assign rfl) ?_
  refine OpsL.nilK [1] [101] (s' := ⟨[(1, .b (.ptr 101 0))], [(101, .box 59 [.i h.Body, .i h.Epoch, .i h.Phase, .i h.Peer, .str h.Data])]⟩) rfl ?_
  refine Tri.seq ?_
  refine Tri.seq ?_
  refine Tri.regionL ?_
  refine OpsL.cons rfl (op_field_p tyFld59_0 rfl rfl) ?_
  refine OpsL.cons rfl (op_load_p1 tyOne3 rfl rfl rfl) ?_
  refine OpsL.cons rfl (op_call0 (known_spec h.Body) goes44 rfl rfl) ?_
  refine OpsL.cons rfl (op_not rfl) ?_
  refine OpsL.cons rfl (op_move rfl) ?_
  refine OpsL.consG (!(!(knownS h.Body))) 99 [] (.plain rfl) (eq_f _) rfl rfl (fun hg1 => trivial) (fun hg1 => (op_field_p tyFld59_1 rfl rfl)) ?_
  refine OpsL.consG (!(!(knownS h.Body))) 99 [8] (.plain rfl) (eq_f _) rfl rfl (fun hg2 => ⟨hg2, trivial⟩) (fun hg2 => (op_load_p1 tyOne3 rfl rfl rfl)) ?_
  refine OpsL.keep [1, 7, 9] [101] (s' := ⟨[(1, .b (.ptr 101 0)), (7, B (!(knownS h.Body))), (9, .opt (!(!(knownS h.Body))) (.one (.i h.Epoch)))], [(101, .box 59 [.i h.Body, .i h.Epoch, .i h.Phase, .i h.Peer, .str h.Data])]⟩) rfl ?_
  refine OpsL.consG (!(!(knownS h.Body))) 99 [9] (.plain rfl) (eq_f _) rfl rfl (fun hg3 => ⟨hg3, trivial⟩) (fun hg3 => (op_lss rfl rfl)) ?_
  refine OpsL.cons rfl (op_pick_or (fun e => by first | exact e | (rw [e]; rfl) | simp_all) rfl rfl rfl rfl) ?_
  refine OpsL.cons rfl (op_move rfl) ?_
  refine OpsL.consG (!((!(knownS h.Body)) || (decide (h.Epoch < 0)))) 99 [] (.plain rfl) (eq_f _) rfl rfl (fun hg4 => trivial) (fun hg4 => (op_field_p tyFld59_1 rfl rfl)) ?_
  refine OpsL.consG (!((!(knownS h.Body)) || (decide (h.Epoch < 0)))) 99 [13] (.plain rfl) (eq_f _) rfl rfl (fun hg5 => ⟨hg5, trivial⟩) (fun hg5 => (op_load_p1 tyOne3 rfl rfl rfl)) ?_
  refine OpsL.consG (!((!(knownS h.Body)) || (decide (h.Epoch < 0)))) 99 [14] (.plain rfl) (eq_f _) rfl rfl (fun hg6 => ⟨hg6, trivial⟩) (fun hg6 => (op_gtr rfl rfl)) ?_
  refine OpsL.cons rfl (op_pick_or (fun e => by first | exact e | (rw [e]; rfl) | simp_all) rfl rfl rfl rfl) ?_
  refine OpsL.nilK [1, 16] [101] (s' := ⟨[(1, .b (.ptr 101 0)), (16, B (((!(knownS h.Body)) || (decide (h.Epoch < 0))) || (decide (1099511627776 < h.Epoch))))], [(101, .box 59 [.i h.Body, .i h.Epoch, .i h.Phase, .i h.Peer, .str h.Data])]⟩) rfl ?_
  refine Tri.cond rfl (fun hc7 => ?_) (fun hc7 => ?_)
  · try simp only [decide_eq_true_eq, decide_eq_false_iff_not, Bool.and_eq_true, Bool.or_eq_true, Bool.not_eq_true', Bool.not_eq_false', Bool.and_eq_false_iff, Bool.or_eq_false_iff, Int.not_lt, Int.not_le, ne_eq, Decidable.not_not] at hc7
    refine Tri.seq ?_
    refine Tri.regionL ?_
    refine OpsL.cons rfl (op_assign rfl) ?_
    refine OpsL.nilK [2] [] (s' := ⟨[(2, B false)], []⟩) rfl ?_
    refine Tri.ret ?_
    refine Fin.then_ret ?_
    refine Fin.keep [2] [] (s' := ⟨[(2, B false)], []⟩) rfl ?_
    refine Fin.result' [.one (.bool false)] (.inl rfl) rfl (.cons (.tmp rfl) .nil) ?_
    have e0 : (rightS h) = false := by simp_all [rightS]
    rw [e0]
    exact ⟨rfl, rfl⟩
  · try simp only [decide_eq_true_eq, decide_eq_false_iff_not, Bool.and_eq_true, Bool.or_eq_true, Bool.not_eq_true', Bool.not_eq_false', Bool.and_eq_false_iff, Bool.or_eq_false_iff, Int.not_lt, Int.not_le, ne_eq, Decidable.not_not] at hc7
    refine Tri.skip ?_
    refine Fin.keep [1] [101] (s' := ⟨[(1, .b (.ptr 101 0))], [(101, .box 59 [.i h.Body, .i h.Epoch, .i h.Phase, .i h.Peer, .str h.Data])]⟩) rfl ?_
    refine Fin.then ?_
    refine Tri.seq ?_
    refine Tri.seq ?_
    refine Tri.regionL ?_
    refine OpsL.cons rfl (op_field_p tyFld59_2 rfl rfl) ?_
    refine OpsL.cons rfl (op_load_p1 tyOne3 rfl rfl rfl) ?_
    refine OpsL.nilK [1, 18] [101] (s' := ⟨[(1, .b (.ptr 101 0)), (18, I h.Phase)], [(101, .box 59 [.i h.Body, .i h.Epoch, .i h.Phase, .i h.Peer, .str h.Data])]⟩) rfl ?_
    refine Tri.block ?_
    refine Tri.seq ?_
    refine Tri.regionL ?_
    refine OpsL.cons rfl (op_eql rfl rfl) ?_
    refine OpsL.cons rfl (op_assign rfl) ?_
    refine OpsL.nilK [1, 18, 19] [101] (s' := ⟨[(1, .b (.ptr 101 0)), (18, I h.Phase), (19, B (decide (h.Phase = 0)))], [(101, .box 59 [.i h.Body, .i h.Epoch, .i h.Phase, .i h.Peer, .str h.Data])]⟩) rfl ?_
    refine Tri.cond rfl (fun hc8 => ?_) (fun hc8 => ?_)
    · try simp only [decide_eq_true_eq, decide_eq_false_iff_not, Bool.and_eq_true, Bool.or_eq_true, Bool.not_eq_true', Bool.not_eq_false', Bool.and_eq_false_iff, Bool.or_eq_false_iff, Int.not_lt, Int.not_le, ne_eq, Decidable.not_not] at hc8
      refine Tri.seq ?_
      refine Tri.regionL ?_
      refine OpsL.cons rfl (op_field_p tyFld59_3 rfl rfl) ?_
      refine OpsL.cons rfl (op_load_p1 tyOne3 rfl rfl rfl) ?_
      refine OpsL.cons rfl (op_eql rfl rfl) ?_
      refine OpsL.cons rfl (op_move rfl) ?_
      refine OpsL.consG (decide (h.Peer = 0)) 99 [] (.plain rfl) (eq_t _) rfl rfl (fun hg9 => trivial) (fun hg9 => (op_field_p tyFld59_4 rfl rfl)) ?_
      refine OpsL.consG (decide (h.Peer = 0)) 99 [25] (.plain rfl) (eq_t _) rfl rfl (fun hg10 => ⟨hg10, trivial⟩) (fun hg10 => (op_load_p1 tyOne9 rfl rfl rfl)) ?_
      refine OpsL.consG (decide (h.Peer = 0)) 99 [26] (.plain rfl) (eq_t _) rfl rfl (fun hg11 => ⟨hg11, trivial⟩) (fun hg11 => (op_eql_str rfl rfl)) ?_
      refine OpsL.cons rfl (op_pick_and (fun e => by first | exact e | (rw [e]; rfl) | simp_all) rfl rfl rfl rfl) ?_
      refine OpsL.cons rfl (op_assign rfl) ?_
      refine OpsL.nilK [2] [] (s' := ⟨[(2, B ((decide (h.Peer = 0)) && (decide (h.Data = []))))], []⟩) rfl ?_
      refine Tri.ret ?_
      refine Fin.block_ret ?_
      refine Fin.then_ret ?_
      refine Fin.keep [2] [] (s' := ⟨[(2, B ((decide (h.Peer = 0)) && (decide (h.Data = []))))], []⟩) rfl ?_
      refine Fin.result' [.one (.bool ((decide (h.Peer = 0)) && (decide (h.Data = []))))] (.inl rfl) rfl (.cons (.tmp rfl) .nil) ?_
      have e0 : (rightS h) = ((decide (h.Peer = 0)) && (decide (h.Data = []))) := by simp_all [rightS]
      rw [e0]
      exact ⟨rfl, rfl⟩
    · try simp only [decide_eq_true_eq, decide_eq_false_iff_not, Bool.and_eq_true, Bool.or_eq_true, Bool.not_eq_true', Bool.not_eq_false', Bool.and_eq_false_iff, Bool.or_eq_false_iff, Int.not_lt, Int.not_le, ne_eq, Decidable.not_not] at hc8
      refine Tri.seq ?_
      refine Tri.regionL ?_
      refine OpsL.cons rfl (op_eql rfl rfl) ?_
      refine OpsL.cons rfl (op_assign rfl) ?_
      refine OpsL.nilK [1, 18, 29] [101] (s' := ⟨[(1, .b (.ptr 101 0)), (18, I h.Phase), (29, B (decide (h.Phase = 1)))], [(101, .box 59 [.i h.Body, .i h.Epoch, .i h.Phase, .i h.Peer, .str h.Data])]⟩) rfl ?_
      refine Tri.cond rfl (fun hc12 => ?_) (fun hc12 => ?_)
      · try simp only [decide_eq_true_eq, decide_eq_false_iff_not, Bool.and_eq_true, Bool.or_eq_true, Bool.not_eq_true', Bool.not_eq_false', Bool.and_eq_false_iff, Bool.or_eq_false_iff, Int.not_lt, Int.not_le, ne_eq, Decidable.not_not] at hc12
        refine Tri.seq ?_
        refine Tri.regionL ?_
        refine OpsL.cons rfl (op_field_p tyFld59_3 rfl rfl) ?_
        refine OpsL.cons rfl (op_load_p1 tyOne3 rfl rfl rfl) ?_
        refine OpsL.cons rfl (op_eql rfl rfl) ?_
        refine OpsL.cons rfl (op_assign rfl) ?_
        refine OpsL.nilK [2] [] (s' := ⟨[(2, B (decide (h.Peer = 0)))], []⟩) rfl ?_
        refine Tri.ret ?_
        refine Fin.block_ret ?_
        refine Fin.then_ret ?_
        refine Fin.keep [2] [] (s' := ⟨[(2, B (decide (h.Peer = 0)))], []⟩) rfl ?_
        refine Fin.result' [.one (.bool (decide (h.Peer = 0)))] (.inl rfl) rfl (.cons (.tmp rfl) .nil) ?_
        have e0 : (rightS h) = (decide (h.Peer = 0)) := by simp_all [rightS]
        rw [e0]
        exact ⟨rfl, rfl⟩
      · try simp only [decide_eq_true_eq, decide_eq_false_iff_not, Bool.and_eq_true, Bool.or_eq_true, Bool.not_eq_true', Bool.not_eq_false', Bool.and_eq_false_iff, Bool.or_eq_false_iff, Int.not_lt, Int.not_le, ne_eq, Decidable.not_not] at hc12
        refine Tri.seq ?_
        refine Tri.seq ?_
        refine Tri.regionL ?_
        refine OpsL.cons rfl (op_eql rfl rfl) ?_
        refine OpsL.cons rfl (op_assign rfl) ?_
        refine OpsL.nilK [1, 18, 34] [101] (s' := ⟨[(1, .b (.ptr 101 0)), (18, I h.Phase), (34, B (decide (h.Phase = 2)))], [(101, .box 59 [.i h.Body, .i h.Epoch, .i h.Phase, .i h.Peer, .str h.Data])]⟩) rfl ?_
        refine Tri.cond rfl (fun hc13 => ?_) (fun hc13 => ?_)
        · try simp only [decide_eq_true_eq, decide_eq_false_iff_not, Bool.and_eq_true, Bool.or_eq_true, Bool.not_eq_true', Bool.not_eq_false', Bool.and_eq_false_iff, Bool.or_eq_false_iff, Int.not_lt, Int.not_le, ne_eq, Decidable.not_not] at hc13
          refine Tri.skip ?_
          refine Fin.keep [1, 34] [101] (s' := ⟨[(1, .b (.ptr 101 0)), (34, B (decide (h.Phase = 2)))], [(101, .box 59 [.i h.Body, .i h.Epoch, .i h.Phase, .i h.Peer, .str h.Data])]⟩) rfl ?_
          refine Fin.then ?_
          refine Tri.cond rfl (fun hc14 => ?_) (fun hc14 => ?_)
          · try simp only [decide_eq_true_eq, decide_eq_false_iff_not, Bool.and_eq_true, Bool.or_eq_true, Bool.not_eq_true', Bool.not_eq_false', Bool.and_eq_false_iff, Bool.or_eq_false_iff, Int.not_lt, Int.not_le, ne_eq, Decidable.not_not] at hc14
            refine Tri.seq ?_
            refine Tri.regionL ?_
            refine OpsL.cons rfl (op_field_p tyFld59_3 rfl rfl) ?_
            refine OpsL.cons rfl (op_load_p1 tyOne3 rfl rfl rfl) ?_
            refine OpsL.cons rfl (op_call0 (node_spec h.Peer) goes47 rfl rfl) ?_
            refine OpsL.cons rfl (op_move rfl) ?_
            refine OpsL.consG (nodeS h.Peer) 99 [] (.plain rfl) (eq_t _) rfl rfl (fun hg15 => trivial) (fun hg15 => (op_field_p tyFld59_1 rfl rfl)) ?_
            refine OpsL.consG (nodeS h.Peer) 99 [42] (.plain rfl) (eq_t _) rfl rfl (fun hg16 => ⟨hg16, trivial⟩) (fun hg16 => (op_load_p1 tyOne3 rfl rfl rfl)) ?_
            refine OpsL.consG (nodeS h.Peer) 99 [43] (.plain rfl) (eq_t _) rfl rfl (fun hg17 => ⟨hg17, trivial⟩) (fun hg17 => (op_geq rfl rfl)) ?_
            refine OpsL.cons rfl (op_pick_and (fun e => by first | exact e | (rw [e]; rfl) | simp_all) rfl rfl rfl rfl) ?_
            refine OpsL.cons rfl (op_assign rfl) ?_
            refine OpsL.nilK [2] [] (s' := ⟨[(2, B ((nodeS h.Peer) && (decide (1 ≤ h.Epoch))))], []⟩) rfl ?_
            refine Tri.ret ?_
            refine Fin.block_ret ?_
            refine Fin.then_ret ?_
            refine Fin.keep [2] [] (s' := ⟨[(2, B ((nodeS h.Peer) && (decide (1 ≤ h.Epoch))))], []⟩) rfl ?_
            refine Fin.result' [.one (.bool ((nodeS h.Peer) && (decide (1 ≤ h.Epoch))))] (.inl rfl) rfl (.cons (.tmp rfl) .nil) ?_
            have e0 : (rightS h) = ((nodeS h.Peer) && (decide (1 ≤ h.Epoch))) := by simp_all [rightS]
            rw [e0]
            exact ⟨rfl, rfl⟩
          · try simp only [decide_eq_true_eq, decide_eq_false_iff_not, Bool.and_eq_true, Bool.or_eq_true, Bool.not_eq_true', Bool.not_eq_false', Bool.and_eq_false_iff, Bool.or_eq_false_iff, Int.not_lt, Int.not_le, ne_eq, Decidable.not_not] at hc14
            refine Tri.skip ?_
            refine Fin.block_normal ?_
            refine Fin.keep [] [] (s' := ⟨[], []⟩) rfl ?_
            refine Fin.then ?_
            refine Tri.seq ?_
            refine Tri.regionL ?_
            refine OpsL.cons rfl (op_assign rfl) ?_
            refine OpsL.nilK [2] [] (s' := ⟨[(2, B false)], []⟩) rfl ?_
            refine Tri.ret ?_
            refine Fin.keep [2] [] (s' := ⟨[(2, B false)], []⟩) rfl ?_
            refine Fin.result' [.one (.bool false)] (.inl rfl) rfl (.cons (.tmp rfl) .nil) ?_
            have e0 : (rightS h) = false := by simp_all [rightS]
            rw [e0]
            exact ⟨rfl, rfl⟩
        · try simp only [decide_eq_true_eq, decide_eq_false_iff_not, Bool.and_eq_true, Bool.or_eq_true, Bool.not_eq_true', Bool.not_eq_false', Bool.and_eq_false_iff, Bool.or_eq_false_iff, Int.not_lt, Int.not_le, ne_eq, Decidable.not_not] at hc13
          refine Tri.seq ?_
          refine Tri.regionL ?_
          refine OpsL.cons rfl (op_eql rfl rfl) ?_
          refine OpsL.cons rfl (op_assign rfl) ?_
          refine OpsL.nilK [1, 18, 34] [101] (s' := ⟨[(1, .b (.ptr 101 0)), (18, I h.Phase), (34, B (decide (h.Phase = 3)))], [(101, .box 59 [.i h.Body, .i h.Epoch, .i h.Phase, .i h.Peer, .str h.Data])]⟩) rfl ?_
          refine Tri.cond rfl (fun hc18 => ?_) (fun hc18 => ?_)
          · try simp only [decide_eq_true_eq, decide_eq_false_iff_not, Bool.and_eq_true, Bool.or_eq_true, Bool.not_eq_true', Bool.not_eq_false', Bool.and_eq_false_iff, Bool.or_eq_false_iff, Int.not_lt, Int.not_le, ne_eq, Decidable.not_not] at hc18
            refine Tri.skip ?_
            refine Fin.keep [1, 34] [101] (s' := ⟨[(1, .b (.ptr 101 0)), (34, B (decide (h.Phase = 3)))], [(101, .box 59 [.i h.Body, .i h.Epoch, .i h.Phase, .i h.Peer, .str h.Data])]⟩) rfl ?_
            refine Fin.then ?_
            refine Tri.cond rfl (fun hc19 => ?_) (fun hc19 => ?_)
            · try simp only [decide_eq_true_eq, decide_eq_false_iff_not, Bool.and_eq_true, Bool.or_eq_true, Bool.not_eq_true', Bool.not_eq_false', Bool.and_eq_false_iff, Bool.or_eq_false_iff, Int.not_lt, Int.not_le, ne_eq, Decidable.not_not] at hc19
              refine Tri.seq ?_
              refine Tri.regionL ?_
              refine OpsL.cons rfl (op_field_p tyFld59_3 rfl rfl) ?_
              refine OpsL.cons rfl (op_load_p1 tyOne3 rfl rfl rfl) ?_
              refine OpsL.cons rfl (op_call0 (node_spec h.Peer) goes47 rfl rfl) ?_
              refine OpsL.cons rfl (op_move rfl) ?_
              refine OpsL.consG (nodeS h.Peer) 99 [] (.plain rfl) (eq_t _) rfl rfl (fun hg20 => trivial) (fun hg20 => (op_field_p tyFld59_1 rfl rfl)) ?_
              refine OpsL.consG (nodeS h.Peer) 99 [42] (.plain rfl) (eq_t _) rfl rfl (fun hg21 => ⟨hg21, trivial⟩) (fun hg21 => (op_load_p1 tyOne3 rfl rfl rfl)) ?_
              refine OpsL.consG (nodeS h.Peer) 99 [43] (.plain rfl) (eq_t _) rfl rfl (fun hg22 => ⟨hg22, trivial⟩) (fun hg22 => (op_geq rfl rfl)) ?_
              refine OpsL.cons rfl (op_pick_and (fun e => by first | exact e | (rw [e]; rfl) | simp_all) rfl rfl rfl rfl) ?_
              refine OpsL.cons rfl (op_assign rfl) ?_
              refine OpsL.nilK [2] [] (s' := ⟨[(2, B ((nodeS h.Peer) && (decide (1 ≤ h.Epoch))))], []⟩) rfl ?_
              refine Tri.ret ?_
              refine Fin.block_ret ?_
              refine Fin.then_ret ?_
              refine Fin.keep [2] [] (s' := ⟨[(2, B ((nodeS h.Peer) && (decide (1 ≤ h.Epoch))))], []⟩) rfl ?_
              refine Fin.result' [.one (.bool ((nodeS h.Peer) && (decide (1 ≤ h.Epoch))))] (.inl rfl) rfl (.cons (.tmp rfl) .nil) ?_
              have e0 : (rightS h) = ((nodeS h.Peer) && (decide (1 ≤ h.Epoch))) := by simp_all [rightS]
              rw [e0]
              exact ⟨rfl, rfl⟩
            · try simp only [decide_eq_true_eq, decide_eq_false_iff_not, Bool.and_eq_true, Bool.or_eq_true, Bool.not_eq_true', Bool.not_eq_false', Bool.and_eq_false_iff, Bool.or_eq_false_iff, Int.not_lt, Int.not_le, ne_eq, Decidable.not_not] at hc19
              refine Tri.skip ?_
              refine Fin.block_normal ?_
              refine Fin.keep [] [] (s' := ⟨[], []⟩) rfl ?_
              refine Fin.then ?_
              refine Tri.seq ?_
              refine Tri.regionL ?_
              refine OpsL.cons rfl (op_assign rfl) ?_
              refine OpsL.nilK [2] [] (s' := ⟨[(2, B false)], []⟩) rfl ?_
              refine Tri.ret ?_
              refine Fin.keep [2] [] (s' := ⟨[(2, B false)], []⟩) rfl ?_
              refine Fin.result' [.one (.bool false)] (.inl rfl) rfl (.cons (.tmp rfl) .nil) ?_
              have e0 : (rightS h) = false := by simp_all [rightS]
              rw [e0]
              exact ⟨rfl, rfl⟩
          · try simp only [decide_eq_true_eq, decide_eq_false_iff_not, Bool.and_eq_true, Bool.or_eq_true, Bool.not_eq_true', Bool.not_eq_false', Bool.and_eq_false_iff, Bool.or_eq_false_iff, Int.not_lt, Int.not_le, ne_eq, Decidable.not_not] at hc18
            refine Tri.regionL ?_
            refine OpsL.cons rfl (op_eql rfl rfl) ?_
            refine OpsL.cons rfl (op_assign rfl) ?_
            refine OpsL.nilK [1, 34] [101] (s' := ⟨[(1, .b (.ptr 101 0)), (34, B (decide (h.Phase = 4)))], [(101, .box 59 [.i h.Body, .i h.Epoch, .i h.Phase, .i h.Peer, .str h.Data])]⟩) rfl ?_
            refine Tri.cond rfl (fun hc23 => ?_) (fun hc23 => ?_)
            · try simp only [decide_eq_true_eq, decide_eq_false_iff_not, Bool.and_eq_true, Bool.or_eq_true, Bool.not_eq_true', Bool.not_eq_false', Bool.and_eq_false_iff, Bool.or_eq_false_iff, Int.not_lt, Int.not_le, ne_eq, Decidable.not_not] at hc23
              refine Tri.seq ?_
              refine Tri.regionL ?_
              refine OpsL.cons rfl (op_field_p tyFld59_3 rfl rfl) ?_
              refine OpsL.cons rfl (op_load_p1 tyOne3 rfl rfl rfl) ?_
              refine OpsL.cons rfl (op_call0 (node_spec h.Peer) goes47 rfl rfl) ?_
              refine OpsL.cons rfl (op_move rfl) ?_
              refine OpsL.consG (nodeS h.Peer) 99 [] (.plain rfl) (eq_t _) rfl rfl (fun hg24 => trivial) (fun hg24 => (op_field_p tyFld59_1 rfl rfl)) ?_
              refine OpsL.consG (nodeS h.Peer) 99 [42] (.plain rfl) (eq_t _) rfl rfl (fun hg25 => ⟨hg25, trivial⟩) (fun hg25 => (op_load_p1 tyOne3 rfl rfl rfl)) ?_
              refine OpsL.consG (nodeS h.Peer) 99 [43] (.plain rfl) (eq_t _) rfl rfl (fun hg26 => ⟨hg26, trivial⟩) (fun hg26 => (op_geq rfl rfl)) ?_
              refine OpsL.cons rfl (op_pick_and (fun e => by first | exact e | (rw [e]; rfl) | simp_all) rfl rfl rfl rfl) ?_
              refine OpsL.cons rfl (op_assign rfl) ?_
              refine OpsL.nilK [2] [] (s' := ⟨[(2, B ((nodeS h.Peer) && (decide (1 ≤ h.Epoch))))], []⟩) rfl ?_
              refine Tri.ret ?_
              refine Fin.block_ret ?_
              refine Fin.then_ret ?_
              refine Fin.keep [2] [] (s' := ⟨[(2, B ((nodeS h.Peer) && (decide (1 ≤ h.Epoch))))], []⟩) rfl ?_
              refine Fin.result' [.one (.bool ((nodeS h.Peer) && (decide (1 ≤ h.Epoch))))] (.inl rfl) rfl (.cons (.tmp rfl) .nil) ?_
              have e0 : (rightS h) = ((nodeS h.Peer) && (decide (1 ≤ h.Epoch))) := by simp_all [rightS]
              rw [e0]
              exact ⟨rfl, rfl⟩
            · try simp only [decide_eq_true_eq, decide_eq_false_iff_not, Bool.and_eq_true, Bool.or_eq_true, Bool.not_eq_true', Bool.not_eq_false', Bool.and_eq_false_iff, Bool.or_eq_false_iff, Int.not_lt, Int.not_le, ne_eq, Decidable.not_not] at hc23
              refine Tri.skip ?_
              refine Fin.block_normal ?_
              refine Fin.keep [] [] (s' := ⟨[], []⟩) rfl ?_
              refine Fin.then ?_
              refine Tri.seq ?_
              refine Tri.regionL ?_
              refine OpsL.cons rfl (op_assign rfl) ?_
              refine OpsL.nilK [2] [] (s' := ⟨[(2, B false)], []⟩) rfl ?_
              refine Tri.ret ?_
              refine Fin.keep [2] [] (s' := ⟨[(2, B false)], []⟩) rfl ?_
              refine Fin.result' [.one (.bool false)] (.inl rfl) rfl (.cons (.tmp rfl) .nil) ?_
              have e0 : (rightS h) = false := by simp_all [rightS]
              rw [e0]
              exact ⟨rfl, rfl⟩

theorem rightF_spec (h : Holding) : Meets Try.prog 43 [] [.agg (eHolding h)] (Is [] (.b (.one (.bool (rightS h))))) := by
  refine Meets.intro 47 Try.func43 Try.ntmps43 rfl (by simp) fun E => ?_
  show Tri _ E ⟨47, [], []⟩ _ ⟨[(0, .b (.agg [.i h.Body, .i h.Epoch, .i h.Phase, .i h.Peer, .str h.Data]))], []⟩ _
  refine Tri.seq ?_
  refine Tri.regionL ?_
  refine OpsL.cons rfl (op_box (k := 101) rfl rfl) ?_
  refine OpsL.cons rfl (op_assign rfl) ?_
  refine OpsL.nilK [1] [101] (s' := ⟨[(1, .b (.ptr 101 0))], [(101, .box 59 [.i h.Body, .i h.Epoch, .i h.Phase, .i h.Peer, .str h.Data])]⟩) rfl ?_
  refine Tri.seq ?_
  refine Tri.seq ?_
  refine Tri.keep [1] [101] (s' := ⟨[(1, .b (.ptr 101 0))], [(101, .box 59 [.i h.Body, .i h.Epoch, .i h.Phase, .i h.Peer, .str h.Data])]⟩) rfl ?_
  refine Tri.regionD mixed [.b (.ptr 101 0), I h.Body, B (knownS h.Body), B (!(knownS h.Body)), B (!(knownS h.Body)), .opt (!(!(knownS h.Body))) (.ptr 101 1), .opt (!(!(knownS h.Body))) (.one (.i h.Epoch)), .opt (!(!(knownS h.Body))) (.one (.bool (decide (h.Epoch < 0)))), B ((!(knownS h.Body)) || (decide (h.Epoch < 0))), B ((!(knownS h.Body)) || (decide (h.Epoch < 0))), .opt (!((!(knownS h.Body)) || (decide (h.Epoch < 0)))) (.ptr 101 1), .opt (!((!(knownS h.Body)) || (decide (h.Epoch < 0)))) (.one (.i h.Epoch)), .opt (!((!(knownS h.Body)) || (decide (h.Epoch < 0)))) (.one (.i 1099511627776)), .opt (!((!(knownS h.Body)) || (decide (h.Epoch < 0)))) (.one (.bool (decide (1099511627776 < h.Epoch)))), B (((!(knownS h.Body)) || (decide (h.Epoch < 0))) || (decide (1099511627776 < h.Epoch)))] [1, 17] [101] (s' := ⟨[(1, .b (.ptr 101 0)), (17, B (((!(knownS h.Body)) || (decide (h.Epoch < 0))) || (decide (1099511627776 < h.Epoch))))], [(101, .box 59 [.i h.Body, .i h.Epoch, .i h.Phase, .i h.Peer, .str h.Data])]⟩) rfl ⟨fun _ => .plain rfl (op_field_p tyFld59_0 rfl rfl), fun _ => .plain rfl (op_load_p1 tyOne3 rfl rfl rfl), fun _ => .plain rfl (op_call0 (body_spec h.Body) goes48 rfl rfl), fun _ => .plain rfl (op_not rfl), fun _ => .plain rfl (op_move rfl), fun _ => .guard (!(!(knownS h.Body))) 1 [] (.plain rfl) (eq_f _) rfl rfl (fun hg1 => trivial) (fun hg1 => by first | (simp only [decide_eq_true_eq, decide_eq_false_iff_not, Bool.and_eq_true, Bool.or_eq_true, Bool.not_eq_true', Bool.not_eq_false', Bool.and_eq_false_iff, Bool.or_eq_false_iff, Int.not_lt, Int.not_le, ne_eq, Decidable.not_not] at hg1; exact op_field_p tyFld59_1 rfl rfl) | exact op_field_p tyFld59_1 rfl rfl), fun _ => .guard (!(!(knownS h.Body))) 2 [8] (.plain rfl) (eq_f _) rfl rfl (fun hg2 => ⟨hg2, trivial⟩) (fun hg2 => by first | (simp only [decide_eq_true_eq, decide_eq_false_iff_not, Bool.and_eq_true, Bool.or_eq_true, Bool.not_eq_true', Bool.not_eq_false', Bool.and_eq_false_iff, Bool.or_eq_false_iff, Int.not_lt, Int.not_le, ne_eq, Decidable.not_not] at hg2; exact op_load_p1 tyOne3 rfl rfl rfl) | exact op_load_p1 tyOne3 rfl rfl rfl), fun _ => .guard (!(!(knownS h.Body))) 2 [9] (.plain rfl) (eq_f _) rfl rfl (fun hg3 => ⟨hg3, trivial⟩) (fun hg3 => by first | (simp only [decide_eq_true_eq, decide_eq_false_iff_not, Bool.and_eq_true, Bool.or_eq_true, Bool.not_eq_true', Bool.not_eq_false', Bool.and_eq_false_iff, Bool.or_eq_false_iff, Int.not_lt, Int.not_le, ne_eq, Decidable.not_not] at hg3; exact op_lss rfl rfl) | exact op_lss rfl rfl), fun _ => .plain rfl (op_pick_or (fun e => by first | exact e | (rw [e]; rfl) | simp_all) rfl rfl rfl rfl), fun _ => .plain rfl (op_move rfl), fun _ => .guard (!((!(knownS h.Body)) || (decide (h.Epoch < 0)))) 1 [] (.plain rfl) (eq_f _) rfl rfl (fun hg4 => trivial) (fun hg4 => by first | (simp only [decide_eq_true_eq, decide_eq_false_iff_not, Bool.and_eq_true, Bool.or_eq_true, Bool.not_eq_true', Bool.not_eq_false', Bool.and_eq_false_iff, Bool.or_eq_false_iff, Int.not_lt, Int.not_le, ne_eq, Decidable.not_not] at hg4; exact op_field_p tyFld59_1 rfl rfl) | exact op_field_p tyFld59_1 rfl rfl), fun _ => .guard (!((!(knownS h.Body)) || (decide (h.Epoch < 0)))) 2 [13] (.plain rfl) (eq_f _) rfl rfl (fun hg5 => ⟨hg5, trivial⟩) (fun hg5 => by first | (simp only [decide_eq_true_eq, decide_eq_false_iff_not, Bool.and_eq_true, Bool.or_eq_true, Bool.not_eq_true', Bool.not_eq_false', Bool.and_eq_false_iff, Bool.or_eq_false_iff, Int.not_lt, Int.not_le, ne_eq, Decidable.not_not] at hg5; exact op_load_p1 tyOne3 rfl rfl rfl) | exact op_load_p1 tyOne3 rfl rfl rfl), fun _ => .guard (!((!(knownS h.Body)) || (decide (h.Epoch < 0)))) 2 [] (.plain rfl) (eq_f _) rfl rfl (fun hg6 => trivial) (fun hg6 => by first | (simp only [decide_eq_true_eq, decide_eq_false_iff_not, Bool.and_eq_true, Bool.or_eq_true, Bool.not_eq_true', Bool.not_eq_false', Bool.and_eq_false_iff, Bool.or_eq_false_iff, Int.not_lt, Int.not_le, ne_eq, Decidable.not_not] at hg6; exact op_call0 (most_spec) goes51 rfl rfl) | exact op_call0 (most_spec) goes51 rfl rfl), fun _ => .guard (!((!(knownS h.Body)) || (decide (h.Epoch < 0)))) 3 [14, 15] (.plain rfl) (eq_f _) rfl rfl (fun hg7 => ⟨hg7, hg7, trivial⟩) (fun hg7 => by first | (simp only [decide_eq_true_eq, decide_eq_false_iff_not, Bool.and_eq_true, Bool.or_eq_true, Bool.not_eq_true', Bool.not_eq_false', Bool.and_eq_false_iff, Bool.or_eq_false_iff, Int.not_lt, Int.not_le, ne_eq, Decidable.not_not] at hg7; exact op_gtr rfl rfl) | exact op_gtr rfl rfl), fun _ => .plain rfl (op_pick_or (fun e => by first | exact e | (rw [e]; rfl) | simp_all) rfl rfl rfl rfl), trivial⟩ rfl ?_
  refine Tri.cond rfl (fun hc8 => ?_) (fun hc8 => ?_)
  · try simp only [decide_eq_true_eq, decide_eq_false_iff_not, Bool.and_eq_true, Bool.or_eq_true, Bool.not_eq_true', Bool.not_eq_false', Bool.and_eq_false_iff, Bool.or_eq_false_iff, Int.not_lt, Int.not_le, ne_eq, Decidable.not_not] at hc8
    refine Tri.seq ?_
    refine Tri.regionL ?_
    refine OpsL.cons rfl (op_assign rfl) ?_
    refine OpsL.nilK [2] [] (s' := ⟨[(2, B false)], []⟩) rfl ?_
    refine Tri.ret ?_
    refine Fin.then_ret ?_
    refine Fin.keep [2] [] (s' := ⟨[(2, B false)], []⟩) rfl ?_
    refine Fin.result' [.one (.bool false)] (.inl rfl) rfl (.cons (.tmp rfl) .nil) ?_
    have e0 : (rightS h) = false := by simp_all [rightS]
    rw [e0]
    exact ⟨rfl, rfl⟩
  · try simp only [decide_eq_true_eq, decide_eq_false_iff_not, Bool.and_eq_true, Bool.or_eq_true, Bool.not_eq_true', Bool.not_eq_false', Bool.and_eq_false_iff, Bool.or_eq_false_iff, Int.not_lt, Int.not_le, ne_eq, Decidable.not_not] at hc8
    refine Tri.skip ?_
    refine Fin.keep [1] [101] (s' := ⟨[(1, .b (.ptr 101 0))], [(101, .box 59 [.i h.Body, .i h.Epoch, .i h.Phase, .i h.Peer, .str h.Data])]⟩) rfl ?_
    refine Fin.then ?_
    refine Tri.seq ?_
    refine Tri.seq ?_
    refine Tri.regionL ?_
    refine OpsL.cons rfl (op_field_p tyFld59_2 rfl rfl) ?_
    refine OpsL.cons rfl (op_load_p1 tyOne3 rfl rfl rfl) ?_
    refine OpsL.nilK [1, 19] [101] (s' := ⟨[(1, .b (.ptr 101 0)), (19, I h.Phase)], [(101, .box 59 [.i h.Body, .i h.Epoch, .i h.Phase, .i h.Peer, .str h.Data])]⟩) rfl ?_
    refine Tri.block ?_
    refine Tri.seq ?_
    refine Tri.regionL ?_
    refine OpsL.cons rfl (op_eql rfl rfl) ?_
    refine OpsL.cons rfl (op_assign rfl) ?_
    refine OpsL.nilK [1, 19, 20] [101] (s' := ⟨[(1, .b (.ptr 101 0)), (19, I h.Phase), (20, B (decide (h.Phase = 0)))], [(101, .box 59 [.i h.Body, .i h.Epoch, .i h.Phase, .i h.Peer, .str h.Data])]⟩) rfl ?_
    refine Tri.cond rfl (fun hc9 => ?_) (fun hc9 => ?_)
    · try simp only [decide_eq_true_eq, decide_eq_false_iff_not, Bool.and_eq_true, Bool.or_eq_true, Bool.not_eq_true', Bool.not_eq_false', Bool.and_eq_false_iff, Bool.or_eq_false_iff, Int.not_lt, Int.not_le, ne_eq, Decidable.not_not] at hc9
      refine Tri.seq ?_
      refine Tri.regionL ?_
      refine OpsL.cons rfl (op_field_p tyFld59_3 rfl rfl) ?_
      refine OpsL.cons rfl (op_load_p1 tyOne3 rfl rfl rfl) ?_
      refine OpsL.cons rfl (op_eql rfl rfl) ?_
      refine OpsL.cons rfl (op_move rfl) ?_
      refine OpsL.consG (decide (h.Peer = 0)) 99 [] (.plain rfl) (eq_t _) rfl rfl (fun hg10 => trivial) (fun hg10 => (op_field_p tyFld59_4 rfl rfl)) ?_
      refine OpsL.consG (decide (h.Peer = 0)) 99 [26] (.plain rfl) (eq_t _) rfl rfl (fun hg11 => ⟨hg11, trivial⟩) (fun hg11 => (op_load_p1 tyOne9 rfl rfl rfl)) ?_
      refine OpsL.consG (decide (h.Peer = 0)) 99 [27] (.plain rfl) (eq_t _) rfl rfl (fun hg12 => ⟨hg12, trivial⟩) (fun hg12 => (op_eql_str rfl rfl)) ?_
      refine OpsL.cons rfl (op_pick_and (fun e => by first | exact e | (rw [e]; rfl) | simp_all) rfl rfl rfl rfl) ?_
      refine OpsL.cons rfl (op_assign rfl) ?_
      refine OpsL.nilK [2] [] (s' := ⟨[(2, B ((decide (h.Peer = 0)) && (decide (h.Data = []))))], []⟩) rfl ?_
      refine Tri.ret ?_
      refine Fin.block_ret ?_
      refine Fin.then_ret ?_
      refine Fin.keep [2] [] (s' := ⟨[(2, B ((decide (h.Peer = 0)) && (decide (h.Data = []))))], []⟩) rfl ?_
      refine Fin.result' [.one (.bool ((decide (h.Peer = 0)) && (decide (h.Data = []))))] (.inl rfl) rfl (.cons (.tmp rfl) .nil) ?_
      have e0 : (rightS h) = ((decide (h.Peer = 0)) && (decide (h.Data = []))) := by simp_all [rightS]
      rw [e0]
      exact ⟨rfl, rfl⟩
    · try simp only [decide_eq_true_eq, decide_eq_false_iff_not, Bool.and_eq_true, Bool.or_eq_true, Bool.not_eq_true', Bool.not_eq_false', Bool.and_eq_false_iff, Bool.or_eq_false_iff, Int.not_lt, Int.not_le, ne_eq, Decidable.not_not] at hc9
      refine Tri.seq ?_
      refine Tri.regionL ?_
      refine OpsL.cons rfl (op_eql rfl rfl) ?_
      refine OpsL.cons rfl (op_assign rfl) ?_
      refine OpsL.nilK [1, 19, 30] [101] (s' := ⟨[(1, .b (.ptr 101 0)), (19, I h.Phase), (30, B (decide (h.Phase = 1)))], [(101, .box 59 [.i h.Body, .i h.Epoch, .i h.Phase, .i h.Peer, .str h.Data])]⟩) rfl ?_
      refine Tri.cond rfl (fun hc13 => ?_) (fun hc13 => ?_)
      · try simp only [decide_eq_true_eq, decide_eq_false_iff_not, Bool.and_eq_true, Bool.or_eq_true, Bool.not_eq_true', Bool.not_eq_false', Bool.and_eq_false_iff, Bool.or_eq_false_iff, Int.not_lt, Int.not_le, ne_eq, Decidable.not_not] at hc13
        refine Tri.seq ?_
        refine Tri.regionL ?_
        refine OpsL.cons rfl (op_field_p tyFld59_3 rfl rfl) ?_
        refine OpsL.cons rfl (op_load_p1 tyOne3 rfl rfl rfl) ?_
        refine OpsL.cons rfl (op_eql rfl rfl) ?_
        refine OpsL.cons rfl (op_assign rfl) ?_
        refine OpsL.nilK [2] [] (s' := ⟨[(2, B (decide (h.Peer = 0)))], []⟩) rfl ?_
        refine Tri.ret ?_
        refine Fin.block_ret ?_
        refine Fin.then_ret ?_
        refine Fin.keep [2] [] (s' := ⟨[(2, B (decide (h.Peer = 0)))], []⟩) rfl ?_
        refine Fin.result' [.one (.bool (decide (h.Peer = 0)))] (.inl rfl) rfl (.cons (.tmp rfl) .nil) ?_
        have e0 : (rightS h) = (decide (h.Peer = 0)) := by simp_all [rightS]
        rw [e0]
        exact ⟨rfl, rfl⟩
      · try simp only [decide_eq_true_eq, decide_eq_false_iff_not, Bool.and_eq_true, Bool.or_eq_true, Bool.not_eq_true', Bool.not_eq_false', Bool.and_eq_false_iff, Bool.or_eq_false_iff, Int.not_lt, Int.not_le, ne_eq, Decidable.not_not] at hc13
        refine Tri.seq ?_
        refine Tri.seq ?_
        refine Tri.regionL ?_
        refine OpsL.cons rfl (op_eql rfl rfl) ?_
        refine OpsL.cons rfl (op_assign rfl) ?_
        refine OpsL.nilK [1, 19, 35] [101] (s' := ⟨[(1, .b (.ptr 101 0)), (19, I h.Phase), (35, B (decide (h.Phase = 2)))], [(101, .box 59 [.i h.Body, .i h.Epoch, .i h.Phase, .i h.Peer, .str h.Data])]⟩) rfl ?_
        refine Tri.cond rfl (fun hc14 => ?_) (fun hc14 => ?_)
        · try simp only [decide_eq_true_eq, decide_eq_false_iff_not, Bool.and_eq_true, Bool.or_eq_true, Bool.not_eq_true', Bool.not_eq_false', Bool.and_eq_false_iff, Bool.or_eq_false_iff, Int.not_lt, Int.not_le, ne_eq, Decidable.not_not] at hc14
          refine Tri.skip ?_
          refine Fin.keep [1, 35] [101] (s' := ⟨[(1, .b (.ptr 101 0)), (35, B (decide (h.Phase = 2)))], [(101, .box 59 [.i h.Body, .i h.Epoch, .i h.Phase, .i h.Peer, .str h.Data])]⟩) rfl ?_
          refine Fin.then ?_
          refine Tri.cond rfl (fun hc15 => ?_) (fun hc15 => ?_)
          · try simp only [decide_eq_true_eq, decide_eq_false_iff_not, Bool.and_eq_true, Bool.or_eq_true, Bool.not_eq_true', Bool.not_eq_false', Bool.and_eq_false_iff, Bool.or_eq_false_iff, Int.not_lt, Int.not_le, ne_eq, Decidable.not_not] at hc15
            refine Tri.seq ?_
            refine Tri.regionL ?_
            refine OpsL.cons rfl (op_field_p tyFld59_3 rfl rfl) ?_
            refine OpsL.cons rfl (op_load_p1 tyOne3 rfl rfl rfl) ?_
            refine OpsL.cons rfl (op_call0 (nodeF_spec h.Peer) goes50 rfl rfl) ?_
            refine OpsL.cons rfl (op_move rfl) ?_
            refine OpsL.consG (nodeS h.Peer) 99 [] (.plain rfl) (eq_t _) rfl rfl (fun hg16 => trivial) (fun hg16 => (op_field_p tyFld59_1 rfl rfl)) ?_
            refine OpsL.consG (nodeS h.Peer) 99 [43] (.plain rfl) (eq_t _) rfl rfl (fun hg17 => ⟨hg17, trivial⟩) (fun hg17 => (op_load_p1 tyOne3 rfl rfl rfl)) ?_
            refine OpsL.consG (nodeS h.Peer) 99 [44] (.plain rfl) (eq_t _) rfl rfl (fun hg18 => ⟨hg18, trivial⟩) (fun hg18 => (op_geq rfl rfl)) ?_
            refine OpsL.cons rfl (op_pick_and (fun e => by first | exact e | (rw [e]; rfl) | simp_all) rfl rfl rfl rfl) ?_
            refine OpsL.cons rfl (op_assign rfl) ?_
            refine OpsL.nilK [2] [] (s' := ⟨[(2, B ((nodeS h.Peer) && (decide (1 ≤ h.Epoch))))], []⟩) rfl ?_
            refine Tri.ret ?_
            refine Fin.block_ret ?_
            refine Fin.then_ret ?_
            refine Fin.keep [2] [] (s' := ⟨[(2, B ((nodeS h.Peer) && (decide (1 ≤ h.Epoch))))], []⟩) rfl ?_
            refine Fin.result' [.one (.bool ((nodeS h.Peer) && (decide (1 ≤ h.Epoch))))] (.inl rfl) rfl (.cons (.tmp rfl) .nil) ?_
            have e0 : (rightS h) = ((nodeS h.Peer) && (decide (1 ≤ h.Epoch))) := by simp_all [rightS]
            rw [e0]
            exact ⟨rfl, rfl⟩
          · try simp only [decide_eq_true_eq, decide_eq_false_iff_not, Bool.and_eq_true, Bool.or_eq_true, Bool.not_eq_true', Bool.not_eq_false', Bool.and_eq_false_iff, Bool.or_eq_false_iff, Int.not_lt, Int.not_le, ne_eq, Decidable.not_not] at hc15
            refine Tri.skip ?_
            refine Fin.block_normal ?_
            refine Fin.keep [] [] (s' := ⟨[], []⟩) rfl ?_
            refine Fin.then ?_
            refine Tri.seq ?_
            refine Tri.regionL ?_
            refine OpsL.cons rfl (op_assign rfl) ?_
            refine OpsL.nilK [2] [] (s' := ⟨[(2, B false)], []⟩) rfl ?_
            refine Tri.ret ?_
            refine Fin.keep [2] [] (s' := ⟨[(2, B false)], []⟩) rfl ?_
            refine Fin.result' [.one (.bool false)] (.inl rfl) rfl (.cons (.tmp rfl) .nil) ?_
            have e0 : (rightS h) = false := by simp_all [rightS]
            rw [e0]
            exact ⟨rfl, rfl⟩
        · try simp only [decide_eq_true_eq, decide_eq_false_iff_not, Bool.and_eq_true, Bool.or_eq_true, Bool.not_eq_true', Bool.not_eq_false', Bool.and_eq_false_iff, Bool.or_eq_false_iff, Int.not_lt, Int.not_le, ne_eq, Decidable.not_not] at hc14
          refine Tri.seq ?_
          refine Tri.regionL ?_
          refine OpsL.cons rfl (op_eql rfl rfl) ?_
          refine OpsL.cons rfl (op_assign rfl) ?_
          refine OpsL.nilK [1, 19, 35] [101] (s' := ⟨[(1, .b (.ptr 101 0)), (19, I h.Phase), (35, B (decide (h.Phase = 3)))], [(101, .box 59 [.i h.Body, .i h.Epoch, .i h.Phase, .i h.Peer, .str h.Data])]⟩) rfl ?_
          refine Tri.cond rfl (fun hc19 => ?_) (fun hc19 => ?_)
          · try simp only [decide_eq_true_eq, decide_eq_false_iff_not, Bool.and_eq_true, Bool.or_eq_true, Bool.not_eq_true', Bool.not_eq_false', Bool.and_eq_false_iff, Bool.or_eq_false_iff, Int.not_lt, Int.not_le, ne_eq, Decidable.not_not] at hc19
            refine Tri.skip ?_
            refine Fin.keep [1, 35] [101] (s' := ⟨[(1, .b (.ptr 101 0)), (35, B (decide (h.Phase = 3)))], [(101, .box 59 [.i h.Body, .i h.Epoch, .i h.Phase, .i h.Peer, .str h.Data])]⟩) rfl ?_
            refine Fin.then ?_
            refine Tri.cond rfl (fun hc20 => ?_) (fun hc20 => ?_)
            · try simp only [decide_eq_true_eq, decide_eq_false_iff_not, Bool.and_eq_true, Bool.or_eq_true, Bool.not_eq_true', Bool.not_eq_false', Bool.and_eq_false_iff, Bool.or_eq_false_iff, Int.not_lt, Int.not_le, ne_eq, Decidable.not_not] at hc20
              refine Tri.seq ?_
              refine Tri.regionL ?_
              refine OpsL.cons rfl (op_field_p tyFld59_3 rfl rfl) ?_
              refine OpsL.cons rfl (op_load_p1 tyOne3 rfl rfl rfl) ?_
              refine OpsL.cons rfl (op_call0 (nodeF_spec h.Peer) goes50 rfl rfl) ?_
              refine OpsL.cons rfl (op_move rfl) ?_
              refine OpsL.consG (nodeS h.Peer) 99 [] (.plain rfl) (eq_t _) rfl rfl (fun hg21 => trivial) (fun hg21 => (op_field_p tyFld59_1 rfl rfl)) ?_
              refine OpsL.consG (nodeS h.Peer) 99 [43] (.plain rfl) (eq_t _) rfl rfl (fun hg22 => ⟨hg22, trivial⟩) (fun hg22 => (op_load_p1 tyOne3 rfl rfl rfl)) ?_
              refine OpsL.consG (nodeS h.Peer) 99 [44] (.plain rfl) (eq_t _) rfl rfl (fun hg23 => ⟨hg23, trivial⟩) (fun hg23 => (op_geq rfl rfl)) ?_
              refine OpsL.cons rfl (op_pick_and (fun e => by first | exact e | (rw [e]; rfl) | simp_all) rfl rfl rfl rfl) ?_
              refine OpsL.cons rfl (op_assign rfl) ?_
              refine OpsL.nilK [2] [] (s' := ⟨[(2, B ((nodeS h.Peer) && (decide (1 ≤ h.Epoch))))], []⟩) rfl ?_
              refine Tri.ret ?_
              refine Fin.block_ret ?_
              refine Fin.then_ret ?_
              refine Fin.keep [2] [] (s' := ⟨[(2, B ((nodeS h.Peer) && (decide (1 ≤ h.Epoch))))], []⟩) rfl ?_
              refine Fin.result' [.one (.bool ((nodeS h.Peer) && (decide (1 ≤ h.Epoch))))] (.inl rfl) rfl (.cons (.tmp rfl) .nil) ?_
              have e0 : (rightS h) = ((nodeS h.Peer) && (decide (1 ≤ h.Epoch))) := by simp_all [rightS]
              rw [e0]
              exact ⟨rfl, rfl⟩
            · try simp only [decide_eq_true_eq, decide_eq_false_iff_not, Bool.and_eq_true, Bool.or_eq_true, Bool.not_eq_true', Bool.not_eq_false', Bool.and_eq_false_iff, Bool.or_eq_false_iff, Int.not_lt, Int.not_le, ne_eq, Decidable.not_not] at hc20
              refine Tri.skip ?_
              refine Fin.block_normal ?_
              refine Fin.keep [] [] (s' := ⟨[], []⟩) rfl ?_
              refine Fin.then ?_
              refine Tri.seq ?_
              refine Tri.regionL ?_
              refine OpsL.cons rfl (op_assign rfl) ?_
              refine OpsL.nilK [2] [] (s' := ⟨[(2, B false)], []⟩) rfl ?_
              refine Tri.ret ?_
              refine Fin.keep [2] [] (s' := ⟨[(2, B false)], []⟩) rfl ?_
              refine Fin.result' [.one (.bool false)] (.inl rfl) rfl (.cons (.tmp rfl) .nil) ?_
              have e0 : (rightS h) = false := by simp_all [rightS]
              rw [e0]
              exact ⟨rfl, rfl⟩
          · try simp only [decide_eq_true_eq, decide_eq_false_iff_not, Bool.and_eq_true, Bool.or_eq_true, Bool.not_eq_true', Bool.not_eq_false', Bool.and_eq_false_iff, Bool.or_eq_false_iff, Int.not_lt, Int.not_le, ne_eq, Decidable.not_not] at hc19
            refine Tri.regionL ?_
            refine OpsL.cons rfl (op_eql rfl rfl) ?_
            refine OpsL.cons rfl (op_assign rfl) ?_
            refine OpsL.nilK [1, 35] [101] (s' := ⟨[(1, .b (.ptr 101 0)), (35, B (decide (h.Phase = 4)))], [(101, .box 59 [.i h.Body, .i h.Epoch, .i h.Phase, .i h.Peer, .str h.Data])]⟩) rfl ?_
            refine Tri.cond rfl (fun hc24 => ?_) (fun hc24 => ?_)
            · try simp only [decide_eq_true_eq, decide_eq_false_iff_not, Bool.and_eq_true, Bool.or_eq_true, Bool.not_eq_true', Bool.not_eq_false', Bool.and_eq_false_iff, Bool.or_eq_false_iff, Int.not_lt, Int.not_le, ne_eq, Decidable.not_not] at hc24
              refine Tri.seq ?_
              refine Tri.regionL ?_
              refine OpsL.cons rfl (op_field_p tyFld59_3 rfl rfl) ?_
              refine OpsL.cons rfl (op_load_p1 tyOne3 rfl rfl rfl) ?_
              refine OpsL.cons rfl (op_call0 (nodeF_spec h.Peer) goes50 rfl rfl) ?_
              refine OpsL.cons rfl (op_move rfl) ?_
              refine OpsL.consG (nodeS h.Peer) 99 [] (.plain rfl) (eq_t _) rfl rfl (fun hg25 => trivial) (fun hg25 => (op_field_p tyFld59_1 rfl rfl)) ?_
              refine OpsL.consG (nodeS h.Peer) 99 [43] (.plain rfl) (eq_t _) rfl rfl (fun hg26 => ⟨hg26, trivial⟩) (fun hg26 => (op_load_p1 tyOne3 rfl rfl rfl)) ?_
              refine OpsL.consG (nodeS h.Peer) 99 [44] (.plain rfl) (eq_t _) rfl rfl (fun hg27 => ⟨hg27, trivial⟩) (fun hg27 => (op_geq rfl rfl)) ?_
              refine OpsL.cons rfl (op_pick_and (fun e => by first | exact e | (rw [e]; rfl) | simp_all) rfl rfl rfl rfl) ?_
              refine OpsL.cons rfl (op_assign rfl) ?_
              refine OpsL.nilK [2] [] (s' := ⟨[(2, B ((nodeS h.Peer) && (decide (1 ≤ h.Epoch))))], []⟩) rfl ?_
              refine Tri.ret ?_
              refine Fin.block_ret ?_
              refine Fin.then_ret ?_
              refine Fin.keep [2] [] (s' := ⟨[(2, B ((nodeS h.Peer) && (decide (1 ≤ h.Epoch))))], []⟩) rfl ?_
              refine Fin.result' [.one (.bool ((nodeS h.Peer) && (decide (1 ≤ h.Epoch))))] (.inl rfl) rfl (.cons (.tmp rfl) .nil) ?_
              have e0 : (rightS h) = ((nodeS h.Peer) && (decide (1 ≤ h.Epoch))) := by simp_all [rightS]
              rw [e0]
              exact ⟨rfl, rfl⟩
            · try simp only [decide_eq_true_eq, decide_eq_false_iff_not, Bool.and_eq_true, Bool.or_eq_true, Bool.not_eq_true', Bool.not_eq_false', Bool.and_eq_false_iff, Bool.or_eq_false_iff, Int.not_lt, Int.not_le, ne_eq, Decidable.not_not] at hc24
              refine Tri.skip ?_
              refine Fin.block_normal ?_
              refine Fin.keep [] [] (s' := ⟨[], []⟩) rfl ?_
              refine Fin.then ?_
              refine Tri.seq ?_
              refine Tri.regionL ?_
              refine OpsL.cons rfl (op_assign rfl) ?_
              refine OpsL.nilK [2] [] (s' := ⟨[(2, B false)], []⟩) rfl ?_
              refine Tri.ret ?_
              refine Fin.keep [2] [] (s' := ⟨[(2, B false)], []⟩) rfl ?_
              refine Fin.result' [.one (.bool false)] (.inl rfl) rfl (.cons (.tmp rfl) .nil) ?_
              have e0 : (rightS h) = false := by simp_all [rightS]
              rw [e0]
              exact ⟨rfl, rfl⟩

theorem check_spec (borders : List Int) (hlen : borders.length ≤ 9223372036854775807) : Meets Try.prog 8 [] [.one (.sl 1 (borders.map eI))] (Is [] (.b (.one (.i (checkS borders))))) := by
  refine Meets.intro 27 Try.func8 Try.ntmps8 rfl (by simp) fun E => ?_
  show Tri _ E ⟨27, [], []⟩ _ ⟨[(0, .b (.one (.sl 1 (borders.map eI))))], []⟩ _
  refine Tri.seq ?_
  refine Tri.regionL ?_
  refine OpsL.cons rfl (op_assign rfl) ?_
  refine OpsL.nilK [0] [] (s' := ⟨[(0, .b (.one (.sl 1 (borders.map eI))))], []⟩) rfl ?_
  refine Tri.seq ?_
  refine Tri.seq ?_
  refine Tri.regionL ?_
  refine OpsL.cons rfl (op_move rfl) ?_
  refine OpsL.cons rfl (op_len_e' und22 rfl (List.length_map _)) ?_
  refine OpsL.cons rfl (op_geq rfl rfl) ?_
  refine OpsL.nilK [0, 7] [] (s' := ⟨[(0, .b (.one (.sl 1 (borders.map eI)))), (7, B (decide (16 ≤ (borders.length : Int))))], []⟩) rfl ?_
  refine Tri.cond rfl (fun hc1 => ?_) (fun hc1 => ?_)
  · try simp only [decide_eq_true_eq, decide_eq_false_iff_not, Bool.and_eq_true, Bool.or_eq_true, Bool.not_eq_true', Bool.not_eq_false', Bool.and_eq_false_iff, Bool.or_eq_false_iff, Int.not_lt, Int.not_le, ne_eq, Decidable.not_not] at hc1
    refine Tri.seq ?_
    refine Tri.regionL ?_
    refine OpsL.cons rfl (op_assign rfl) ?_
    refine OpsL.nilK [2] [] (s' := ⟨[(2, I 2)], []⟩) rfl ?_
    refine Tri.ret ?_
    refine Fin.then_ret ?_
    refine Fin.keep [2] [] (s' := ⟨[(2, I 2)], []⟩) rfl ?_
    refine Fin.result' [.one (.i 2)] (.inl rfl) rfl (.cons (.tmp rfl) .nil) ?_
    have e0 : (checkS borders) = 2 := by exact check_long (by omega)
    rw [e0]
    exact ⟨rfl, rfl⟩
  · try simp only [decide_eq_true_eq, decide_eq_false_iff_not, Bool.and_eq_true, Bool.or_eq_true, Bool.not_eq_true', Bool.not_eq_false', Bool.and_eq_false_iff, Bool.or_eq_false_iff, Int.not_lt, Int.not_le, ne_eq, Decidable.not_not] at hc1
    refine Tri.skip ?_
    refine Fin.keep [0] [] (s' := ⟨[(0, .b (.one (.sl 1 (borders.map eI))))], []⟩) rfl ?_
    refine Fin.then ?_
    refine Tri.seq ?_
    refine Tri.seq ?_
    refine Tri.regionL ?_
    refine OpsL.cons rfl (op_move rfl) ?_
    refine OpsL.cons rfl (op_len_e' und22 rfl (List.length_map _)) ?_
    refine OpsL.cons rfl (op_move rfl) ?_
    refine OpsL.nilK [0, 8, 9, 10] [] (s' := ⟨[(0, .b (.one (.sl 1 (borders.map eI)))), (8, .b (.one (.sl 1 (borders.map eI)))), (9, I (borders.length : Int)), (10, I 0)], []⟩) rfl ?_
    refine Tri.block ?_
    refine Tri.keep [0, 8, 9, 10] [] (s' := ⟨[(0, .b (.one (.sl 1 (borders.map eI)))), (8, .b (.one (.sl 1 (borders.map eI)))), (9, I (borders.length : Int)), (10, I 0)], []⟩) rfl ?_
    refine Tri.loop (ι := Int) (fun k => ⟨[(0, .b (.one (.sl 1 (borders.map eI)))), (8, .b (.one (.sl 1 (borders.map eI)))), (9, I (borders.length : Int)), (10, I k)], []⟩) (fun k => 0 ≤ k ∧ k ≤ borders.length ∧ ∀ j, 1 ≤ j → j < k → idx borders (j - 1) < idx borders j) (fun k => (borders.length - k).toNat) 0 (by exact ⟨by omega, by omega, fun j _ _ => by omega⟩) rfl ?_
    rintro k ⟨h0, h1, hasc⟩
    show Tri _ _ _ _ ⟨[(0, .b (.one (.sl 1 (borders.map eI)))), (8, .b (.one (.sl 1 (borders.map eI)))), (9, I (borders.length : Int)), (10, I k)], []⟩ _
    refine Tri.seq ?_
    refine Tri.regionL ?_
    refine OpsL.cons rfl (op_lss rfl rfl) ?_
    refine OpsL.nilK [0, 8, 9, 10, 11] [] (s' := ⟨[(0, .b (.one (.sl 1 (borders.map eI)))), (8, .b (.one (.sl 1 (borders.map eI)))), (9, I (borders.length : Int)), (10, I k), (11, B (decide (k < (borders.length : Int))))], []⟩) rfl ?_
    refine Tri.seq ?_
    refine Tri.cond rfl (fun hc2 => ?_) (fun hc2 => ?_)
    · try simp only [decide_eq_true_eq, decide_eq_false_iff_not, Bool.and_eq_true, Bool.or_eq_true, Bool.not_eq_true', Bool.not_eq_false', Bool.and_eq_false_iff, Bool.or_eq_false_iff, Int.not_lt, Int.not_le, ne_eq, Decidable.not_not] at hc2
      refine Tri.skip ?_
      refine Fin.keep [0, 8, 9, 10] [] (s' := ⟨[(0, .b (.one (.sl 1 (borders.map eI)))), (8, .b (.one (.sl 1 (borders.map eI)))), (9, I (borders.length : Int)), (10, I k)], []⟩) rfl ?_
      refine Fin.then ?_
      refine Tri.seq ?_
      refine Tri.block ?_
      refine Tri.seq ?_
      refine Tri.regionL ?_
      refine OpsL.cons rfl (op_move rfl) ?_
      refine OpsL.cons rfl (op_index_e tySl22 (by omega) (map_idx (by omega) (by omega)) rfl rfl) ?_
      refine OpsL.cons rfl (op_load_e1 tyOne3 rfl rfl) ?_
      refine OpsL.cons rfl (op_assign rfl) ?_
      refine OpsL.cons rfl (op_assign rfl) ?_
      refine OpsL.nilK [0, 3, 4, 8, 9, 10] [] (s' := ⟨[(0, .b (.one (.sl 1 (borders.map eI)))), (3, I k), (4, I (idx borders k)), (8, .b (.one (.sl 1 (borders.map eI)))), (9, I (borders.length : Int)), (10, I k)], []⟩) rfl ?_
      refine Tri.seq ?_
      refine Tri.regionL ?_
      refine OpsL.cons rfl (op_move rfl) ?_
      refine OpsL.cons rfl (op_gtr rfl rfl) ?_
      refine OpsL.cons rfl (op_move rfl) ?_
      refine OpsL.consG (decide (0 < k)) 99 [] (.plain rfl) (eq_t _) rfl rfl (fun hg3 => trivial) (fun hg3 => (op_move rfl)) ?_
      refine OpsL.consG (decide (0 < k)) 99 [] (.plain rfl) (eq_t _) rfl rfl (fun hg4 => trivial) (fun hg4 => (op_move rfl)) ?_
      refine OpsL.consG (decide (0 < k)) 99 [] (.plain rfl) (eq_t _) rfl rfl (fun hg5 => trivial) (fun hg5 => (op_move rfl)) ?_
      refine OpsL.consG (decide (0 < k)) 99 [20] (.plain rfl) (eq_t _) rfl rfl (fun hg6 => ⟨hg6, trivial⟩) (fun hg6 => by first | (simp only [decide_eq_true_eq, decide_eq_false_iff_not, Bool.and_eq_true, Bool.or_eq_true, Bool.not_eq_true', Bool.not_eq_false', Bool.and_eq_false_iff, Bool.or_eq_false_iff, Int.not_lt, Int.not_le, ne_eq, Decidable.not_not] at hg6; exact op_sub' (inR_i64 (by omega) (by omega)) rfl rfl) | exact op_sub' (inR_i64 (by omega) (by omega)) rfl rfl) ?_
      refine OpsL.keep [0, 8, 9, 10, 17, 18, 19, 21] [] (s' := ⟨[(0, .b (.one (.sl 1 (borders.map eI)))), (8, .b (.one (.sl 1 (borders.map eI)))), (9, I (borders.length : Int)), (10, I k), (17, B (decide (0 < k))), (18, .opt (decide (0 < k)) (.one (.i (idx borders k)))), (19, .opt (decide (0 < k)) (.one (.sl 1 (borders.map eI)))), (21, .opt (decide (0 < k)) (.one (.i (k - 1))))], []⟩) rfl ?_
      refine OpsL.consG (decide (0 < k)) 99 [19, 21] (.plain rfl) (eq_t _) rfl rfl (fun hg7 => ⟨hg7, hg7, trivial⟩) (fun hg7 => by first | (simp only [decide_eq_true_eq, decide_eq_false_iff_not, Bool.and_eq_true, Bool.or_eq_true, Bool.not_eq_true', Bool.not_eq_false', Bool.and_eq_false_iff, Bool.or_eq_false_iff, Int.not_lt, Int.not_le, ne_eq, Decidable.not_not] at hg7; exact op_index_e tySl22 (by omega) (map_idx (by omega) (by omega)) rfl rfl) | exact op_index_e tySl22 (by omega) (map_idx (by omega) (by omega)) rfl rfl) ?_
      refine OpsL.consG (decide (0 < k)) 99 [22] (.plain rfl) (eq_t _) rfl rfl (fun hg8 => ⟨hg8, trivial⟩) (fun hg8 => (op_load_e1 tyOne3 rfl rfl)) ?_
      refine OpsL.consG (decide (0 < k)) 99 [18, 23] (.plain rfl) (eq_t _) rfl rfl (fun hg9 => ⟨hg9, hg9, trivial⟩) (fun hg9 => (op_leq rfl rfl)) ?_
      refine OpsL.cons rfl (op_pick_and (fun e => by first | exact e | (rw [e]; rfl) | simp_all) rfl rfl rfl rfl) ?_
      refine OpsL.nilK [0, 8, 9, 10, 25] [] (s' := ⟨[(0, .b (.one (.sl 1 (borders.map eI)))), (8, .b (.one (.sl 1 (borders.map eI)))), (9, I (borders.length : Int)), (10, I k), (25, B ((decide (0 < k)) && (decide ((idx borders k) ≤ (idx borders (k - 1))))))], []⟩) rfl ?_
      refine Tri.cond rfl (fun hc10 => ?_) (fun hc10 => ?_)
      · try simp only [decide_eq_true_eq, decide_eq_false_iff_not, Bool.and_eq_true, Bool.or_eq_true, Bool.not_eq_true', Bool.not_eq_false', Bool.and_eq_false_iff, Bool.or_eq_false_iff, Int.not_lt, Int.not_le, ne_eq, Decidable.not_not] at hc10
        refine Tri.seq ?_
        refine Tri.regionL ?_
        refine OpsL.cons rfl (op_assign rfl) ?_
        refine OpsL.nilK [2] [] (s' := ⟨[(2, I 1)], []⟩) rfl ?_
        refine Tri.ret ?_
        refine Fin.block_ret ?_
        refine Fin.then_ret ?_
        refine Fin.then_ret ?_
        refine Fin.block_ret ?_
        refine Fin.then_ret ?_
        refine Fin.keep [2] [] (s' := ⟨[(2, I 1)], []⟩) rfl ?_
        refine Fin.result' [.one (.i 1)] (.inl rfl) rfl (.cons (.tmp rfl) .nil) ?_
        have e0 : (checkS borders) = 1 := by exact check_bad (k := k) (by omega) (by omega) (by omega) (by omega)
        rw [e0]
        exact ⟨rfl, rfl⟩
      · try simp only [decide_eq_true_eq, decide_eq_false_iff_not, Bool.and_eq_true, Bool.or_eq_true, Bool.not_eq_true', Bool.not_eq_false', Bool.and_eq_false_iff, Bool.or_eq_false_iff, Int.not_lt, Int.not_le, ne_eq, Decidable.not_not] at hc10
        refine Tri.skip ?_
        refine Fin.block_normal ?_
        refine Fin.keep [0, 8, 9, 10] [] (s' := ⟨[(0, .b (.one (.sl 1 (borders.map eI)))), (8, .b (.one (.sl 1 (borders.map eI)))), (9, I (borders.length : Int)), (10, I k)], []⟩) rfl ?_
        refine Fin.then ?_
        refine Tri.regionL ?_
        refine OpsL.cons rfl (op_add' (inR_i64 (by omega) (by omega)) rfl rfl) ?_
        refine OpsL.cons rfl (op_move rfl) ?_
        refine OpsL.nil ?_
        refine Fin.keep [0, 8, 9, 10] [] (s' := ⟨[(0, .b (.one (.sl 1 (borders.map eI)))), (8, .b (.one (.sl 1 (borders.map eI)))), (9, I (borders.length : Int)), (10, I (k + 1))], []⟩) rfl ?_
        refine Fin.again (k + 1) (by exact ⟨by omega, by omega, asc_step hasc (by omega)⟩) (by first | omega | (dsimp only; omega)) rfl
    · try simp only [decide_eq_true_eq, decide_eq_false_iff_not, Bool.and_eq_true, Bool.or_eq_true, Bool.not_eq_true', Bool.not_eq_false', Bool.and_eq_false_iff, Bool.or_eq_false_iff, Int.not_lt, Int.not_le, ne_eq, Decidable.not_not] at hc2
      refine Tri.exit ?_
      refine Fin.then_exit ?_
      refine Fin.then_exit ?_
      refine Fin.block_exit ?_
      refine Fin.keep [] [] (s' := ⟨[], []⟩) rfl ?_
      refine Fin.then ?_
      refine Tri.seq ?_
      refine Tri.regionL ?_
      refine OpsL.cons rfl (op_assign rfl) ?_
      refine OpsL.nilK [2] [] (s' := ⟨[(2, I 0)], []⟩) rfl ?_
      refine Tri.ret ?_
      refine Fin.keep [2] [] (s' := ⟨[(2, I 0)], []⟩) rfl ?_
      refine Fin.result' [.one (.i 0)] (.inl rfl) rfl (.cons (.tmp rfl) .nil) ?_
      have e0 : (checkS borders) = 0 := by exact check_ok (by omega) (fun j hj1 hj2 => hasc j hj1 (by omega))
      rw [e0]
      exact ⟨rfl, rfl⟩

theorem checkF_spec (borders : List Int) (hlen : borders.length ≤ 9223372036854775807) : Meets Try.prog 9 [] [.one (.sl 1 (borders.map eI))] (Is [] (.b (.one (.i (checkS borders))))) := by
  refine Meets.intro 23 Try.func9 Try.ntmps9 rfl (by simp) fun E => ?_
  show Tri _ E ⟨23, [], []⟩ _ ⟨[(0, .b (.one (.sl 1 (borders.map eI))))], []⟩ _
  refine Tri.seq ?_
  refine Tri.regionL ?_
  refine OpsL.cons rfl (op_assign rfl) ?_
  refine OpsL.nilK [0] [] (s' := ⟨[(0, .b (.one (.sl 1 (borders.map eI))))], []⟩) rfl ?_
  refine Tri.seq ?_
  refine Tri.seq ?_
  refine Tri.regionL ?_
  refine OpsL.cons rfl (op_move rfl) ?_
  refine OpsL.cons rfl (op_len_e' und22 rfl (List.length_map _)) ?_
  refine OpsL.cons rfl (op_gtr rfl rfl) ?_
  refine OpsL.nilK [0, 6] [] (s' := ⟨[(0, .b (.one (.sl 1 (borders.map eI)))), (6, B (decide (15 < (borders.length : Int))))], []⟩) rfl ?_
  refine Tri.cond rfl (fun hc1 => ?_) (fun hc1 => ?_)
  · try simp only [decide_eq_true_eq, decide_eq_false_iff_not, Bool.and_eq_true, Bool.or_eq_true, Bool.not_eq_true', Bool.not_eq_false', Bool.and_eq_false_iff, Bool.or_eq_false_iff, Int.not_lt, Int.not_le, ne_eq, Decidable.not_not] at hc1
    refine Tri.seq ?_
    refine Tri.regionL ?_
    refine OpsL.cons rfl (op_assign rfl) ?_
    refine OpsL.nilK [2] [] (s' := ⟨[(2, I 2)], []⟩) rfl ?_
    refine Tri.ret ?_
    refine Fin.then_ret ?_
    refine Fin.keep [2] [] (s' := ⟨[(2, I 2)], []⟩) rfl ?_
    refine Fin.result' [.one (.i 2)] (.inl rfl) rfl (.cons (.tmp rfl) .nil) ?_
    have e0 : (checkS borders) = 2 := by exact check_long (by omega)
    rw [e0]
    exact ⟨rfl, rfl⟩
  · try simp only [decide_eq_true_eq, decide_eq_false_iff_not, Bool.and_eq_true, Bool.or_eq_true, Bool.not_eq_true', Bool.not_eq_false', Bool.and_eq_false_iff, Bool.or_eq_false_iff, Int.not_lt, Int.not_le, ne_eq, Decidable.not_not] at hc1
    refine Tri.skip ?_
    refine Fin.keep [0] [] (s' := ⟨[(0, .b (.one (.sl 1 (borders.map eI))))], []⟩) rfl ?_
    refine Fin.then ?_
    refine Tri.seq ?_
    refine Tri.seq ?_
    refine Tri.regionL ?_
    refine OpsL.cons rfl (op_assign rfl) ?_
    refine OpsL.nilK [0, 3] [] (s' := ⟨[(0, .b (.one (.sl 1 (borders.map eI)))), (3, I 1)], []⟩) rfl ?_
    refine Tri.block ?_
    refine Tri.keep [0, 3] [] (s' := ⟨[(0, .b (.one (.sl 1 (borders.map eI)))), (3, I 1)], []⟩) rfl ?_
    refine Tri.loop (ι := Int) (fun k => ⟨[(0, .b (.one (.sl 1 (borders.map eI)))), (3, I k)], []⟩) (fun k => 1 ≤ k ∧ (k ≤ borders.length ∨ k = 1) ∧ ∀ j, 1 ≤ j → j < k → idx borders (j - 1) < idx borders j) (fun k => (borders.length - k).toNat) 1 (by exact ⟨by omega, by omega, fun j _ _ => by omega⟩) rfl ?_
    rintro k ⟨h0, h1, hasc⟩
    show Tri _ _ _ _ ⟨[(0, .b (.one (.sl 1 (borders.map eI)))), (3, I k)], []⟩ _
    refine Tri.seq ?_
    refine Tri.seq ?_
    refine Tri.regionL ?_
    refine OpsL.cons rfl (op_move rfl) ?_
    refine OpsL.cons rfl (op_move rfl) ?_
    refine OpsL.cons rfl (op_len_e' und22 rfl (List.length_map _)) ?_
    refine OpsL.cons rfl (op_lss rfl rfl) ?_
    refine OpsL.nilK [0, 3, 10] [] (s' := ⟨[(0, .b (.one (.sl 1 (borders.map eI)))), (3, I k), (10, B (decide (k < (borders.length : Int))))], []⟩) rfl ?_
    refine Tri.cond rfl (fun hc2 => ?_) (fun hc2 => ?_)
    · try simp only [decide_eq_true_eq, decide_eq_false_iff_not, Bool.and_eq_true, Bool.or_eq_true, Bool.not_eq_true', Bool.not_eq_false', Bool.and_eq_false_iff, Bool.or_eq_false_iff, Int.not_lt, Int.not_le, ne_eq, Decidable.not_not] at hc2
      refine Tri.skip ?_
      refine Fin.keep [0, 3] [] (s' := ⟨[(0, .b (.one (.sl 1 (borders.map eI)))), (3, I k)], []⟩) rfl ?_
      refine Fin.then ?_
      refine Tri.seq ?_
      refine Tri.block ?_
      refine Tri.seq ?_
      refine Tri.keep [0, 3] [] (s' := ⟨[(0, .b (.one (.sl 1 (borders.map eI)))), (3, I k)], []⟩) rfl ?_
      refine Tri.regionD mixed [.b (.one (.sl 1 (borders.map eI))), I k, .b (.eptr [.i (idx borders k)]), I (idx borders k), .b (.one (.sl 1 (borders.map eI))), I k, I (k - 1), .b (.eptr [.i (idx borders (k - 1))]), I (idx borders (k - 1)), B (decide ((idx borders k) ≤ (idx borders (k - 1))))] [0, 3, 22] [] (s' := ⟨[(0, .b (.one (.sl 1 (borders.map eI)))), (3, I k), (22, B (decide ((idx borders k) ≤ (idx borders (k - 1)))))], []⟩) rfl ⟨fun _ => .plain rfl (op_move rfl), fun _ => .plain rfl (op_move rfl), fun _ => .plain rfl (op_index_e tySl22 (by omega) (map_idx (by omega) (by omega)) rfl rfl), fun _ => .plain rfl (op_load_e1 tyOne3 rfl rfl), fun _ => .plain rfl (op_move rfl), fun _ => .plain rfl (op_move rfl), fun _ => .plain rfl (op_sub' (inR_i64 (by omega) (by omega)) rfl rfl), fun _ => .plain rfl (op_index_e tySl22 (by omega) (map_idx (by omega) (by omega)) rfl rfl), fun _ => .plain rfl (op_load_e1 tyOne3 rfl rfl), fun _ => .plain rfl (op_leq rfl rfl), trivial⟩ rfl ?_
      refine Tri.cond rfl (fun hc3 => ?_) (fun hc3 => ?_)
      · try simp only [decide_eq_true_eq, decide_eq_false_iff_not, Bool.and_eq_true, Bool.or_eq_true, Bool.not_eq_true', Bool.not_eq_false', Bool.and_eq_false_iff, Bool.or_eq_false_iff, Int.not_lt, Int.not_le, ne_eq, Decidable.not_not] at hc3
        refine Tri.seq ?_
        refine Tri.regionL ?_
        refine OpsL.cons rfl (op_assign rfl) ?_
        refine OpsL.nilK [2] [] (s' := ⟨[(2, I 1)], []⟩) rfl ?_
        refine Tri.ret ?_
        refine Fin.block_ret ?_
        refine Fin.then_ret ?_
        refine Fin.then_ret ?_
        refine Fin.block_ret ?_
        refine Fin.then_ret ?_
        refine Fin.keep [2] [] (s' := ⟨[(2, I 1)], []⟩) rfl ?_
        refine Fin.result' [.one (.i 1)] (.inl rfl) rfl (.cons (.tmp rfl) .nil) ?_
        have e0 : (checkS borders) = 1 := by exact check_bad (k := k) (by omega) (by omega) (by omega) (by omega)
        rw [e0]
        exact ⟨rfl, rfl⟩
      · try simp only [decide_eq_true_eq, decide_eq_false_iff_not, Bool.and_eq_true, Bool.or_eq_true, Bool.not_eq_true', Bool.not_eq_false', Bool.and_eq_false_iff, Bool.or_eq_false_iff, Int.not_lt, Int.not_le, ne_eq, Decidable.not_not] at hc3
        refine Tri.skip ?_
        refine Fin.block_normal ?_
        refine Fin.keep [0, 3] [] (s' := ⟨[(0, .b (.one (.sl 1 (borders.map eI)))), (3, I k)], []⟩) rfl ?_
        refine Fin.then ?_
        refine Tri.regionL ?_
        refine OpsL.cons rfl (op_move rfl) ?_
        refine OpsL.cons rfl (op_add' (inR_i64 (by omega) (by omega)) rfl rfl) ?_
        refine OpsL.cons rfl (op_assign rfl) ?_
        refine OpsL.nil ?_
        refine Fin.keep [0, 3] [] (s' := ⟨[(0, .b (.one (.sl 1 (borders.map eI)))), (3, I (k + 1))], []⟩) rfl ?_
        refine Fin.again (k + 1) (by exact ⟨by omega, by omega, asc_step hasc (by omega)⟩) (by first | omega | (dsimp only; omega)) rfl
    · try simp only [decide_eq_true_eq, decide_eq_false_iff_not, Bool.and_eq_true, Bool.or_eq_true, Bool.not_eq_true', Bool.not_eq_false', Bool.and_eq_false_iff, Bool.or_eq_false_iff, Int.not_lt, Int.not_le, ne_eq, Decidable.not_not] at hc2
      refine Tri.exit ?_
      refine Fin.then_exit ?_
      refine Fin.then_exit ?_
      refine Fin.block_exit ?_
      refine Fin.keep [] [] (s' := ⟨[], []⟩) rfl ?_
      refine Fin.then ?_
      refine Tri.seq ?_
      refine Tri.regionL ?_
      refine OpsL.cons rfl (op_assign rfl) ?_
      refine OpsL.nilK [2] [] (s' := ⟨[(2, I 0)], []⟩) rfl ?_
      refine Tri.ret ?_
      refine Fin.keep [2] [] (s' := ⟨[(2, I 0)], []⟩) rfl ?_
      refine Fin.result' [.one (.i 0)] (.inl rfl) rfl (.cons (.tmp rfl) .nil) ?_
      have e0 : (checkS borders) = 0 := by exact check_ok (by omega) (fun j hj1 hj2 => hasc j hj1 (by omega))
      rw [e0]
      exact ⟨rfl, rfl⟩

theorem bs_spec (x : List Int) (t : Int) (hlen : x.length ≤ 4611686018427387904) : Meets Try.prog 40 [] [.one (.sl 1 (x.map eI)), .one (.i t)] (Is [] (.tup [.one (.i (bsS x t)), .one (.bool (bsF x t))])) := by
  refine Meets.intro 54 Try.func40 Try.ntmps40 rfl (by simp) fun E => ?_
  show Tri _ E ⟨54, [], []⟩ _ ⟨[(0, .b (.one (.sl 1 (x.map eI)))), (1, I t)], []⟩ _
  refine Tri.seq ?_
  refine Tri.regionL ?_
  refine OpsL.cons rfl (op_assign rfl) ?_
  refine OpsL.cons rfl (op_assign rfl) ?_
  refine OpsL.nilK [0, 1] [] (s' := ⟨[(0, .b (.one (.sl 1 (x.map eI)))), (1, I t)], []⟩) rfl ?_
  refine Tri.seq ?_
  refine Tri.regionL ?_
  refine OpsL.cons rfl (op_move rfl) ?_
  refine OpsL.cons rfl (op_len_e' und22 rfl (List.length_map _)) ?_
  refine OpsL.cons rfl (op_assign rfl) ?_
  refine OpsL.nilK [0, 1, 6] [] (s' := ⟨[(0, .b (.one (.sl 1 (x.map eI)))), (1, I t), (6, I (x.length : Int))], []⟩) rfl ?_
  refine Tri.seq ?_
  refine Tri.regionL ?_
  refine OpsL.cons rfl (op_move rfl) ?_
  refine OpsL.cons rfl (op_assign rfl) ?_
  refine OpsL.cons rfl (op_assign rfl) ?_
  refine OpsL.nilK [0, 1, 6, 7, 8] [] (s' := ⟨[(0, .b (.one (.sl 1 (x.map eI)))), (1, I t), (6, I (x.length : Int)), (7, I 0), (8, I (x.length : Int))], []⟩) rfl ?_
  refine Tri.seq ?_
  refine Tri.block ?_
  refine Tri.keep [0, 1, 6, 7, 8] [] (s' := ⟨[(0, .b (.one (.sl 1 (x.map eI)))), (1, I t), (6, I (x.length : Int)), (7, I 0), (8, I (x.length : Int))], []⟩) rfl ?_
  refine Tri.loop (ι := Int × Int) (fun j => match j with | ⟨a, z⟩ => ⟨[(0, .b (.one (.sl 1 (x.map eI)))), (1, I t), (6, I (x.length : Int)), (7, I a), (8, I z)], []⟩) (fun j => match j with | ⟨a, z⟩ => 0 ≤ a ∧ a ≤ z ∧ z ≤ x.length ∧ bsr (fun h => decide (idx x h < t)) a z = bsr (fun h => decide (idx x h < t)) 0 x.length) (fun j => match j with | ⟨a, z⟩ => (z - a).toNat) (0, (x.length : Int)) (by exact ⟨by omega, by omega, by omega, rfl⟩) rfl ?_
  rintro ⟨a, z⟩ ⟨h0, h1, h2, hb⟩
  show Tri _ _ _ _ ⟨[(0, .b (.one (.sl 1 (x.map eI)))), (1, I t), (6, I (x.length : Int)), (7, I a), (8, I z)], []⟩ _
  refine Tri.seq ?_
  refine Tri.seq ?_
  refine Tri.regionL ?_
  refine OpsL.cons rfl (op_move rfl) ?_
  refine OpsL.cons rfl (op_move rfl) ?_
  refine OpsL.cons rfl (op_lss rfl rfl) ?_
  refine OpsL.nilK [0, 1, 6, 7, 8, 15] [] (s' := ⟨[(0, .b (.one (.sl 1 (x.map eI)))), (1, I t), (6, I (x.length : Int)), (7, I a), (8, I z), (15, B (decide (a < z)))], []⟩) rfl ?_
  refine Tri.cond rfl (fun hc1 => ?_) (fun hc1 => ?_)
  · try simp only [decide_eq_true_eq, decide_eq_false_iff_not, Bool.and_eq_true, Bool.or_eq_true, Bool.not_eq_true', Bool.not_eq_false', Bool.and_eq_false_iff, Bool.or_eq_false_iff, Int.not_lt, Int.not_le, ne_eq, Decidable.not_not] at hc1
    refine Tri.skip ?_
    refine Fin.keep [0, 1, 6, 7, 8] [] (s' := ⟨[(0, .b (.one (.sl 1 (x.map eI)))), (1, I t), (6, I (x.length : Int)), (7, I a), (8, I z)], []⟩) rfl ?_
    refine Fin.then ?_
    refine Tri.block ?_
    refine Tri.seq ?_
    refine Tri.regionL ?_
    refine OpsL.cons rfl (op_move rfl) ?_
    refine OpsL.cons rfl (op_move rfl) ?_
    refine OpsL.cons rfl (op_add' (inR_i64 (by omega) (by omega)) rfl rfl) ?_
    refine OpsL.cons rfl (op_conv_int undi3 undi84 (inR_u64 (by omega) (by omega)) rfl) ?_
    refine OpsL.cons rfl (op_shr (m := 1) (by omega) (by decide) rfl rfl rfl) ?_
    refine OpsL.cons rfl (op_conv_int undi84 undi3 (inR_i64 (by omega) (by omega)) rfl) ?_
    refine OpsL.cons rfl (op_assign rfl) ?_
    refine OpsL.nilK [0, 1, 6, 7, 8, 9] [] (s' := ⟨[(0, .b (.one (.sl 1 (x.map eI)))), (1, I t), (6, I (x.length : Int)), (7, I a), (8, I z), (9, I ((a + z) / 2))], []⟩) rfl ?_
    refine Tri.seq ?_
    refine Tri.regionL ?_
    refine OpsL.cons rfl (op_move rfl) ?_
    refine OpsL.cons rfl (op_move rfl) ?_
    refine OpsL.cons rfl (op_index_e tySl22 (by omega) (map_idx (by omega) (by omega)) rfl rfl) ?_
    refine OpsL.cons rfl (op_load_e1 tyOne3 rfl rfl) ?_
    refine OpsL.cons rfl (op_move rfl) ?_
    refine OpsL.cons rfl (op_call0 (less_spec (idx x ((a + z) / 2)) t) goes55 rfl rfl) ?_
    refine OpsL.nilK [0, 1, 6, 7, 8, 9, 27] [] (s' := ⟨[(0, .b (.one (.sl 1 (x.map eI)))), (1, I t), (6, I (x.length : Int)), (7, I a), (8, I z), (9, I ((a + z) / 2)), (27, B (decide ((idx x ((a + z) / 2)) < t)))], []⟩) rfl ?_
    refine Tri.cond rfl (fun hc2 => ?_) (fun hc2 => ?_)
    · try simp only [decide_eq_true_eq, decide_eq_false_iff_not, Bool.and_eq_true, Bool.or_eq_true, Bool.not_eq_true', Bool.not_eq_false', Bool.and_eq_false_iff, Bool.or_eq_false_iff, Int.not_lt, Int.not_le, ne_eq, Decidable.not_not] at hc2
      refine Tri.regionL ?_
      refine OpsL.cons rfl (op_move rfl) ?_
      refine OpsL.cons rfl (op_add' (inR_i64 (by omega) (by omega)) rfl rfl) ?_
      refine OpsL.cons rfl (op_assign rfl) ?_
      refine OpsL.nil ?_
      refine Fin.block_normal ?_
      refine Fin.keep [0, 1, 6, 7, 8] [] (s' := ⟨[(0, .b (.one (.sl 1 (x.map eI)))), (1, I t), (6, I (x.length : Int)), (7, I (((a + z) / 2) + 1)), (8, I z)], []⟩) rfl ?_
      refine Fin.again (((a + z) / 2) + 1, z) (by exact ⟨by omega, by omega, by omega, by rw [← hb]; exact (bsr_up (by omega) (by simpa using ‹_›)).symm⟩) (by first | omega | (dsimp only; omega)) rfl
    · try simp only [decide_eq_true_eq, decide_eq_false_iff_not, Bool.and_eq_true, Bool.or_eq_true, Bool.not_eq_true', Bool.not_eq_false', Bool.and_eq_false_iff, Bool.or_eq_false_iff, Int.not_lt, Int.not_le, ne_eq, Decidable.not_not] at hc2
      refine Tri.regionL ?_
      refine OpsL.cons rfl (op_move rfl) ?_
      refine OpsL.cons rfl (op_assign rfl) ?_
      refine OpsL.nil ?_
      refine Fin.block_normal ?_
      refine Fin.keep [0, 1, 6, 7, 8] [] (s' := ⟨[(0, .b (.one (.sl 1 (x.map eI)))), (1, I t), (6, I (x.length : Int)), (7, I a), (8, I ((a + z) / 2))], []⟩) rfl ?_
      refine Fin.again (a, (a + z) / 2) (by exact ⟨by omega, by omega, by omega, by rw [← hb]; exact (bsr_down (by omega) (by simpa using ‹_›)).symm⟩) (by first | omega | (dsimp only; omega)) rfl
  · try simp only [decide_eq_true_eq, decide_eq_false_iff_not, Bool.and_eq_true, Bool.or_eq_true, Bool.not_eq_true', Bool.not_eq_false', Bool.and_eq_false_iff, Bool.or_eq_false_iff, Int.not_lt, Int.not_le, ne_eq, Decidable.not_not] at hc1
    refine Tri.exit ?_
    refine Fin.then_exit ?_
    refine Fin.then_exit ?_
    refine Fin.block_exit ?_
    refine Fin.keep [0, 1, 6, 7] [] (s' := ⟨[(0, .b (.one (.sl 1 (x.map eI)))), (1, I t), (6, I (x.length : Int)), (7, I a)], []⟩) rfl ?_
    refine Fin.then ?_
    refine Tri.seq ?_
    refine Tri.regionL ?_
    refine OpsL.cons rfl (op_move rfl) ?_
    refine OpsL.cons rfl (op_move rfl) ?_
    refine OpsL.cons rfl (op_move rfl) ?_
    refine OpsL.cons rfl (op_lss rfl rfl) ?_
    refine OpsL.cons rfl (op_move rfl) ?_
    refine OpsL.consG (decide (a < (x.length : Int))) 99 [] (.plain rfl) (eq_t _) rfl rfl (fun hg3 => trivial) (fun hg3 => (op_move rfl)) ?_
    refine OpsL.consG (decide (a < (x.length : Int))) 99 [] (.plain rfl) (eq_t _) rfl rfl (fun hg4 => trivial) (fun hg4 => (op_move rfl)) ?_
    refine OpsL.keep [0, 1, 7, 31, 35, 36, 37] [] (s' := ⟨[(0, .b (.one (.sl 1 (x.map eI)))), (1, I t), (7, I a), (31, I a), (35, B (decide (a < (x.length : Int)))), (36, .opt (decide (a < (x.length : Int))) (.one (.sl 1 (x.map eI)))), (37, .opt (decide (a < (x.length : Int))) (.one (.i a)))], []⟩) rfl ?_
    refine OpsL.consG (decide (a < (x.length : Int))) 99 [36, 37] (.plain rfl) (eq_t _) rfl rfl (fun hg5 => ⟨hg5, hg5, trivial⟩) (fun hg5 => by first | (simp only [decide_eq_true_eq, decide_eq_false_iff_not, Bool.and_eq_true, Bool.or_eq_true, Bool.not_eq_true', Bool.not_eq_false', Bool.and_eq_false_iff, Bool.or_eq_false_iff, Int.not_lt, Int.not_le, ne_eq, Decidable.not_not] at hg5; exact op_index_e tySl22 (by omega) (map_idx (by omega) (by omega)) rfl rfl) | exact op_index_e tySl22 (by omega) (map_idx (by omega) (by omega)) rfl rfl) ?_
    refine OpsL.consG (decide (a < (x.length : Int))) 99 [38] (.plain rfl) (eq_t _) rfl rfl (fun hg6 => ⟨hg6, trivial⟩) (fun hg6 => (op_load_e1 tyOne3 rfl rfl)) ?_
    refine OpsL.consG (decide (a < (x.length : Int))) 99 [] (.plain rfl) (eq_t _) rfl rfl (fun hg7 => trivial) (fun hg7 => (op_move rfl)) ?_
    refine OpsL.consG (decide (a < (x.length : Int))) 99 [39, 40] (.plain rfl) (eq_t _) rfl rfl (fun hg8 => ⟨hg8, hg8, trivial⟩) (fun hg8 => (op_eql rfl rfl)) ?_
    refine OpsL.consG (decide (a < (x.length : Int))) 99 [41] (.plain rfl) (eq_t _) rfl rfl (fun hg9 => ⟨hg9, trivial⟩) (fun hg9 => (op_move rfl)) ?_
    refine OpsL.consG ((decide (a < (x.length : Int))) && !(decide ((idx x a) = t))) 99 [] (.under rfl) (and_f _ _) rfl rfl (fun hg10 => trivial) (fun hg10 => (op_move rfl)) ?_
    refine OpsL.consG ((decide (a < (x.length : Int))) && !(decide ((idx x a) = t))) 99 [] (.under rfl) (and_f _ _) rfl rfl (fun hg11 => trivial) (fun hg11 => (op_move rfl)) ?_
    refine OpsL.keep [1, 31, 35, 42, 43, 44] [] (s' := ⟨[(1, I t), (31, I a), (35, B (decide (a < (x.length : Int)))), (42, .opt (decide (a < (x.length : Int))) (.one (.bool (decide ((idx x a) = t))))), (43, .opt ((decide (a < (x.length : Int))) && !(decide ((idx x a) = t))) (.one (.sl 1 (x.map eI)))), (44, .opt ((decide (a < (x.length : Int))) && !(decide ((idx x a) = t))) (.one (.i a)))], []⟩) rfl ?_
    refine OpsL.consG ((decide (a < (x.length : Int))) && !(decide ((idx x a) = t))) 99 [43, 44] (.under rfl) (and_f _ _) rfl rfl (fun hg12 => ⟨hg12, hg12, trivial⟩) (fun hg12 => by first | (simp only [decide_eq_true_eq, decide_eq_false_iff_not, Bool.and_eq_true, Bool.or_eq_true, Bool.not_eq_true', Bool.not_eq_false', Bool.and_eq_false_iff, Bool.or_eq_false_iff, Int.not_lt, Int.not_le, ne_eq, Decidable.not_not] at hg12; exact op_index_e tySl22 (by omega) (map_idx (by omega) (by omega)) rfl rfl) | exact op_index_e tySl22 (by omega) (map_idx (by omega) (by omega)) rfl rfl) ?_
    refine OpsL.consG ((decide (a < (x.length : Int))) && !(decide ((idx x a) = t))) 99 [45] (.under rfl) (and_f _ _) rfl rfl (fun hg13 => ⟨hg13, trivial⟩) (fun hg13 => (op_load_e1 tyOne3 rfl rfl)) ?_
    refine OpsL.consG ((decide (a < (x.length : Int))) && !(decide ((idx x a) = t))) 99 [46] (.under rfl) (and_f _ _) rfl rfl (fun hg14 => ⟨hg14, trivial⟩) (fun hg14 => by first | (simp only [decide_eq_true_eq, decide_eq_false_iff_not, Bool.and_eq_true, Bool.or_eq_true, Bool.not_eq_true', Bool.not_eq_false', Bool.and_eq_false_iff, Bool.or_eq_false_iff, Int.not_lt, Int.not_le, ne_eq, Decidable.not_not] at hg14; exact op_call0 (isNaN_spec (idx x a)) goes56 rfl rfl) | exact op_call0 (isNaN_spec (idx x a)) goes56 rfl rfl) ?_
    refine OpsL.consG ((decide (a < (x.length : Int))) && !(decide ((idx x a) = t))) 99 [47] (.under rfl) (and_f _ _) rfl rfl (fun hg15 => ⟨hg15, trivial⟩) (fun hg15 => (op_move rfl)) ?_
    refine OpsL.consG (((decide (a < (x.length : Int))) && !(decide ((idx x a) = t))) && false) 99 [] (.under rfl) (and_t _ _) rfl rfl (fun hg16 => trivial) (fun hg16 => (op_move rfl)) ?_
    refine OpsL.consG (((decide (a < (x.length : Int))) && !(decide ((idx x a) = t))) && false) 99 [49] (.under rfl) (and_t _ _) rfl rfl (fun hg17 => ⟨hg17, trivial⟩) (fun hg17 => by first | (simp only [decide_eq_true_eq, decide_eq_false_iff_not, Bool.and_eq_true, Bool.or_eq_true, Bool.not_eq_true', Bool.not_eq_false', Bool.and_eq_false_iff, Bool.or_eq_false_iff, Int.not_lt, Int.not_le, ne_eq, Decidable.not_not] at hg17; exact op_call0 (isNaN_spec t) goes56 rfl rfl) | exact op_call0 (isNaN_spec t) goes56 rfl rfl) ?_
    refine OpsL.consG ((decide (a < (x.length : Int))) && !(decide ((idx x a) = t))) 99 [48] (.under rfl) (and_f _ _) rfl rfl (fun hg18 => ⟨hg18, trivial⟩) (fun hg18 => (op_pick_and (fun e => by first | exact e | (rw [e]; rfl) | simp_all) rfl rfl rfl rfl)) ?_
    refine OpsL.keep [31, 35, 42, 51] [] (s' := ⟨[(31, I a), (35, B (decide (a < (x.length : Int)))), (42, .opt (decide (a < (x.length : Int))) (.one (.bool (decide ((idx x a) = t))))), (51, .opt ((decide (a < (x.length : Int))) && !(decide ((idx x a) = t))) (.one (.bool (false && false))))], []⟩) rfl ?_
    refine OpsL.consG (decide (a < (x.length : Int))) 99 [42] (.plain rfl) (eq_t _) rfl rfl (fun hg19 => ⟨hg19, trivial⟩) (fun hg19 => (op_pick_or (fun e => by first | exact e | (rw [e]; rfl) | simp_all) rfl rfl rfl rfl)) ?_
    refine OpsL.cons rfl (op_pick_and (fun e => by first | exact e | (rw [e]; rfl) | simp_all) rfl rfl rfl rfl) ?_
    refine OpsL.cons rfl (op_assign rfl) ?_
    refine OpsL.cons rfl (op_assign rfl) ?_
    refine OpsL.nilK [4, 5] [] (s' := ⟨[(4, I a), (5, B ((decide (a < (x.length : Int))) && ((decide ((idx x a) = t)) || (false && false))))], []⟩) rfl ?_
    refine Tri.ret ?_
    refine Fin.keep [4, 5] [] (s' := ⟨[(4, I a), (5, B ((decide (a < (x.length : Int))) && ((decide ((idx x a) = t)) || (false && false))))], []⟩) rfl ?_
    refine Fin.result' [.one (.i a), .one (.bool ((decide (a < (x.length : Int))) && ((decide ((idx x a) = t)) || (false && false))))] (.inl rfl) rfl (.cons (.tmp rfl) (.cons (.tmp rfl) .nil)) ?_
    have e0 : (bsS x t) = a := by first | exact bsS_end hb (by omega) | exact bsF_end hb (by omega)
    rw [e0]
    have e1 : (bsF x t) = ((decide (a < (x.length : Int))) && ((decide ((idx x a) = t)) || (false && false))) := by first | exact bsS_end hb (by omega) | exact bsF_end hb (by omega)
    rw [e1]
    exact ⟨rfl, rfl⟩

theorem region_spec (borders : List Int) (x : Int) (hlen : borders.length ≤ 4611686018427387904) : Meets Try.prog 10 [] [.one (.sl 1 (borders.map eI)), .one (.i x)] (Is [] (.b (.one (.i (regionP borders x))))) := by
  refine Meets.intro 17 Try.func10 Try.ntmps10 rfl (by simp) fun E => ?_
  show Tri _ E ⟨17, [], []⟩ _ ⟨[(0, .b (.one (.sl 1 (borders.map eI)))), (1, I x)], []⟩ _
  refine Tri.seq ?_
  refine Tri.regionL ?_
  refine OpsL.cons rfl (op_assign rfl) ?_
  refine OpsL.nilK [0, 1] [] (s' := ⟨[(0, .b (.one (.sl 1 (borders.map eI)))), (1, I x)], []⟩) rfl ?_
  refine Tri.seq ?_
  refine Tri.regionL ?_
  refine OpsL.cons rfl (op_move rfl) ?_
  refine OpsL.cons rfl (op_move rfl) ?_
  refine OpsL.cons rfl (op_call0 (bs_spec borders x (by first | assumption | omega)) goes40 rfl rfl) ?_
  refine OpsL.cons rfl (op_move rfl) ?_
  refine OpsL.cons rfl (op_extract rfl rfl) ?_
  refine OpsL.cons rfl (op_extract rfl rfl) ?_
  refine OpsL.cons rfl (op_assign rfl) ?_
  refine OpsL.cons rfl (op_assign rfl) ?_
  refine OpsL.nilK [5, 6] [] (s' := ⟨[(5, I (bsS borders x)), (6, B (bsF borders x))], []⟩) rfl ?_
  refine Tri.seq ?_
  refine Tri.seq ?_
  refine Tri.regionL ?_
  refine OpsL.cons rfl (op_move rfl) ?_
  refine OpsL.nilK [5, 13] [] (s' := ⟨[(5, I (bsS borders x)), (13, B (bsF borders x))], []⟩) rfl ?_
  refine Tri.cond rfl (fun hc1 => ?_) (fun hc1 => ?_)
  · try simp only [decide_eq_true_eq, decide_eq_false_iff_not, Bool.and_eq_true, Bool.or_eq_true, Bool.not_eq_true', Bool.not_eq_false', Bool.and_eq_false_iff, Bool.or_eq_false_iff, Int.not_lt, Int.not_le, ne_eq, Decidable.not_not] at hc1
    have hbd := bsS_bound borders x
    refine Tri.regionL ?_
    refine OpsL.cons rfl (op_move rfl) ?_
    refine OpsL.cons rfl (op_add' (inR_i64 (by omega) (by omega)) rfl rfl) ?_
    refine OpsL.cons rfl (op_assign rfl) ?_
    refine OpsL.nilK [5] [] (s' := ⟨[(5, I ((bsS borders x) + 1))], []⟩) rfl ?_
    refine Tri.seq ?_
    refine Tri.regionL ?_
    refine OpsL.cons rfl (op_move rfl) ?_
    refine OpsL.cons rfl (op_assign rfl) ?_
    refine OpsL.nilK [4] [] (s' := ⟨[(4, I ((bsS borders x) + 1))], []⟩) rfl ?_
    refine Tri.ret ?_
    refine Fin.keep [4] [] (s' := ⟨[(4, I ((bsS borders x) + 1))], []⟩) rfl ?_
    refine Fin.result' [.one (.i ((bsS borders x) + 1))] (.inl rfl) rfl (.cons (.tmp rfl) .nil) ?_
    have e0 : (regionP borders x) = ((bsS borders x) + 1) := by simp_all [regionP]
    rw [e0]
    exact ⟨rfl, rfl⟩
  · try simp only [decide_eq_true_eq, decide_eq_false_iff_not, Bool.and_eq_true, Bool.or_eq_true, Bool.not_eq_true', Bool.not_eq_false', Bool.and_eq_false_iff, Bool.or_eq_false_iff, Int.not_lt, Int.not_le, ne_eq, Decidable.not_not] at hc1
    refine Tri.skip ?_
    refine Fin.keep [5] [] (s' := ⟨[(5, I (bsS borders x))], []⟩) rfl ?_
    refine Fin.then ?_
    refine Tri.seq ?_
    refine Tri.regionL ?_
    refine OpsL.cons rfl (op_move rfl) ?_
    refine OpsL.cons rfl (op_assign rfl) ?_
    refine OpsL.nilK [4] [] (s' := ⟨[(4, I (bsS borders x))], []⟩) rfl ?_
    refine Tri.ret ?_
    refine Fin.keep [4] [] (s' := ⟨[(4, I (bsS borders x))], []⟩) rfl ?_
    refine Fin.result' [.one (.i (bsS borders x))] (.inl rfl) rfl (.cons (.tmp rfl) .nil) ?_
    have e0 : (regionP borders x) = (bsS borders x) := by simp_all [regionP]
    rw [e0]
    exact ⟨rfl, rfl⟩

theorem regionF_spec (borders : List Int) (x : Int) (hlen : borders.length ≤ 9223372036854775807) : Meets Try.prog 11 [] [.one (.sl 1 (borders.map eI)), .one (.i x)] (Is [] (.b (.one (.i (cntS x borders))))) := by
  refine Meets.intro 22 Try.func11 Try.ntmps11 rfl (by simp) fun E => ?_
  show Tri _ E ⟨22, [], []⟩ _ ⟨[(0, .b (.one (.sl 1 (borders.map eI)))), (1, I x)], []⟩ _
  refine Tri.seq ?_
  refine Tri.regionL ?_
  refine OpsL.cons rfl (op_assign rfl) ?_
  refine OpsL.nilK [0, 1] [] (s' := ⟨[(0, .b (.one (.sl 1 (borders.map eI)))), (1, I x)], []⟩) rfl ?_
  refine Tri.seq ?_
  refine Tri.regionL ?_
  refine OpsL.cons rfl (op_assign rfl) ?_
  refine OpsL.nilK [0, 1, 5] [] (s' := ⟨[(0, .b (.one (.sl 1 (borders.map eI)))), (1, I x), (5, I 0)], []⟩) rfl ?_
  refine Tri.seq ?_
  refine Tri.seq ?_
  refine Tri.regionL ?_
  refine OpsL.cons rfl (op_assign rfl) ?_
  refine OpsL.nilK [0, 1, 5, 6] [] (s' := ⟨[(0, .b (.one (.sl 1 (borders.map eI)))), (1, I x), (5, I 0), (6, I 0)], []⟩) rfl ?_
  refine Tri.block ?_
  refine Tri.keep [0, 1, 5, 6] [] (s' := ⟨[(0, .b (.one (.sl 1 (borders.map eI)))), (1, I x), (5, I 0), (6, I 0)], []⟩) rfl ?_
  refine Tri.loop (ι := Int × Int) (fun j => match j with | ⟨n, k⟩ => ⟨[(0, .b (.one (.sl 1 (borders.map eI)))), (1, I x), (5, I n), (6, I k)], []⟩) (fun j => match j with | ⟨n, k⟩ => 0 ≤ k ∧ k ≤ borders.length ∧ n = cntS x (borders.take k.toNat) ∧ 0 ≤ n ∧ n ≤ k) (fun j => match j with | ⟨n, k⟩ => (borders.length - k).toNat) (0, 0) (by exact ⟨by omega, by omega, rfl, by omega, by omega⟩) rfl ?_
  rintro ⟨n, k⟩ ⟨h0, h1, hn, h2, h3⟩
  show Tri _ _ _ _ ⟨[(0, .b (.one (.sl 1 (borders.map eI)))), (1, I x), (5, I n), (6, I k)], []⟩ _
  refine Tri.seq ?_
  refine Tri.seq ?_
  refine Tri.regionL ?_
  refine OpsL.cons rfl (op_move rfl) ?_
  refine OpsL.cons rfl (op_move rfl) ?_
  refine OpsL.cons rfl (op_len_e' und22 rfl (List.length_map _)) ?_
  refine OpsL.cons rfl (op_lss rfl rfl) ?_
  refine OpsL.nilK [0, 1, 5, 6, 10] [] (s' := ⟨[(0, .b (.one (.sl 1 (borders.map eI)))), (1, I x), (5, I n), (6, I k), (10, B (decide (k < (borders.length : Int))))], []⟩) rfl ?_
  refine Tri.cond rfl (fun hc1 => ?_) (fun hc1 => ?_)
  · try simp only [decide_eq_true_eq, decide_eq_false_iff_not, Bool.and_eq_true, Bool.or_eq_true, Bool.not_eq_true', Bool.not_eq_false', Bool.and_eq_false_iff, Bool.or_eq_false_iff, Int.not_lt, Int.not_le, ne_eq, Decidable.not_not] at hc1
    refine Tri.skip ?_
    refine Fin.keep [0, 1, 5, 6] [] (s' := ⟨[(0, .b (.one (.sl 1 (borders.map eI)))), (1, I x), (5, I n), (6, I k)], []⟩) rfl ?_
    refine Fin.then ?_
    refine Tri.seq ?_
    refine Tri.block ?_
    refine Tri.seq ?_
    refine Tri.regionL ?_
    refine OpsL.cons rfl (op_move rfl) ?_
    refine OpsL.cons rfl (op_move rfl) ?_
    refine OpsL.cons rfl (op_index_e tySl22 (by omega) (map_idx (by omega) (by omega)) rfl rfl) ?_
    refine OpsL.cons rfl (op_load_e1 tyOne3 rfl rfl) ?_
    refine OpsL.cons rfl (op_move rfl) ?_
    refine OpsL.cons rfl (op_leq rfl rfl) ?_
    refine OpsL.nilK [0, 1, 5, 6, 18] [] (s' := ⟨[(0, .b (.one (.sl 1 (borders.map eI)))), (1, I x), (5, I n), (6, I k), (18, B (decide ((idx borders k) ≤ x)))], []⟩) rfl ?_
    refine Tri.cond rfl (fun hc2 => ?_) (fun hc2 => ?_)
    · try simp only [decide_eq_true_eq, decide_eq_false_iff_not, Bool.and_eq_true, Bool.or_eq_true, Bool.not_eq_true', Bool.not_eq_false', Bool.and_eq_false_iff, Bool.or_eq_false_iff, Int.not_lt, Int.not_le, ne_eq, Decidable.not_not] at hc2
      refine Tri.regionL ?_
      refine OpsL.cons rfl (op_move rfl) ?_
      refine OpsL.cons rfl (op_add' (inR_i64 (by omega) (by omega)) rfl rfl) ?_
      refine OpsL.cons rfl (op_assign rfl) ?_
      refine OpsL.nil ?_
      refine Fin.block_normal ?_
      refine Fin.keep [0, 1, 5, 6] [] (s' := ⟨[(0, .b (.one (.sl 1 (borders.map eI)))), (1, I x), (5, I (n + 1)), (6, I k)], []⟩) rfl ?_
      refine Fin.then ?_
      refine Tri.regionL ?_
      refine OpsL.cons rfl (op_move rfl) ?_
      refine OpsL.cons rfl (op_add' (inR_i64 (by omega) (by omega)) rfl rfl) ?_
      refine OpsL.cons rfl (op_assign rfl) ?_
      refine OpsL.nil ?_
      refine Fin.keep [0, 1, 5, 6] [] (s' := ⟨[(0, .b (.one (.sl 1 (borders.map eI)))), (1, I x), (5, I (n + 1)), (6, I (k + 1))], []⟩) rfl ?_
      refine Fin.again (n + 1, k + 1) (by exact ⟨by omega, by omega, by rw [cnt_step (by omega) (by omega), if_pos (by omega)]; omega, by omega, by omega⟩) (by first | omega | (dsimp only; omega)) rfl
    · try simp only [decide_eq_true_eq, decide_eq_false_iff_not, Bool.and_eq_true, Bool.or_eq_true, Bool.not_eq_true', Bool.not_eq_false', Bool.and_eq_false_iff, Bool.or_eq_false_iff, Int.not_lt, Int.not_le, ne_eq, Decidable.not_not] at hc2
      refine Tri.skip ?_
      refine Fin.block_normal ?_
      refine Fin.keep [0, 1, 5, 6] [] (s' := ⟨[(0, .b (.one (.sl 1 (borders.map eI)))), (1, I x), (5, I n), (6, I k)], []⟩) rfl ?_
      refine Fin.then ?_
      refine Tri.regionL ?_
      refine OpsL.cons rfl (op_move rfl) ?_
      refine OpsL.cons rfl (op_add' (inR_i64 (by omega) (by omega)) rfl rfl) ?_
      refine OpsL.cons rfl (op_assign rfl) ?_
      refine OpsL.nil ?_
      refine Fin.keep [0, 1, 5, 6] [] (s' := ⟨[(0, .b (.one (.sl 1 (borders.map eI)))), (1, I x), (5, I n), (6, I (k + 1))], []⟩) rfl ?_
      refine Fin.again (n, k + 1) (by exact ⟨by omega, by omega, by rw [cnt_step (by omega) (by omega), if_neg (by omega)]; omega, by omega, by omega⟩) (by first | omega | (dsimp only; omega)) rfl
  · try simp only [decide_eq_true_eq, decide_eq_false_iff_not, Bool.and_eq_true, Bool.or_eq_true, Bool.not_eq_true', Bool.not_eq_false', Bool.and_eq_false_iff, Bool.or_eq_false_iff, Int.not_lt, Int.not_le, ne_eq, Decidable.not_not] at hc1
    refine Tri.exit ?_
    refine Fin.then_exit ?_
    refine Fin.then_exit ?_
    refine Fin.block_exit ?_
    refine Fin.keep [5] [] (s' := ⟨[(5, I n)], []⟩) rfl ?_
    refine Fin.then ?_
    refine Tri.seq ?_
    refine Tri.regionL ?_
    refine OpsL.cons rfl (op_move rfl) ?_
    refine OpsL.cons rfl (op_assign rfl) ?_
    refine OpsL.nilK [4] [] (s' := ⟨[(4, I n)], []⟩) rfl ?_
    refine Tri.ret ?_
    refine Fin.keep [4] [] (s' := ⟨[(4, I n)], []⟩) rfl ?_
    refine Fin.result' [.one (.i n)] (.inl rfl) rfl (.cons (.tmp rfl) .nil) ?_
    have e0 : (cntS x borders) = n := by rw [hn, List.take_of_length_le (by omega)]
    rw [e0]
    exact ⟨rfl, rfl⟩

theorem bsf_spec (l : List Holding) (c : Int) (hlen : l.length ≤ 4611686018427387904) : Meets Try.prog 57 [] [.one (.sl 5 (l.map eHolding)), .one (.i c), .one (.raw (.func (.func 58) #[] #[]))] (Is [] (.tup [.one (.i (placeS l c)), .one (.bool (placeF l c))])) := by
  refine Meets.intro 49 Try.func57 Try.ntmps57 rfl (by simp) fun E => ?_
  show Tri _ E ⟨49, [], []⟩ _ ⟨[(0, .b (.one (.sl 5 (l.map eHolding)))), (1, I c), (2, .b (.one (.raw (.func (.func 58) #[] #[]))))], []⟩ _
  refine Tri.seq ?_
  refine Tri.regionL ?_
  refine OpsL.cons rfl (op_assign rfl) ?_
  refine OpsL.cons rfl (op_assign rfl) ?_
  refine OpsL.nilK [0, 1, 2] [] (s' := ⟨[(0, .b (.one (.sl 5 (l.map eHolding)))), (1, I c), (2, .b (.one (.raw (.func (.func 58) #[] #[]))))], []⟩) rfl ?_
  refine Tri.seq ?_
  refine Tri.regionL ?_
  refine OpsL.cons rfl (op_move rfl) ?_
  refine OpsL.cons rfl (op_len_e' und42 rfl (List.length_map _)) ?_
  refine OpsL.cons rfl (op_assign rfl) ?_
  refine OpsL.nilK [0, 1, 2, 8] [] (s' := ⟨[(0, .b (.one (.sl 5 (l.map eHolding)))), (1, I c), (2, .b (.one (.raw (.func (.func 58) #[] #[])))), (8, I (l.length : Int))], []⟩) rfl ?_
  refine Tri.seq ?_
  refine Tri.regionL ?_
  refine OpsL.cons rfl (op_move rfl) ?_
  refine OpsL.cons rfl (op_assign rfl) ?_
  refine OpsL.cons rfl (op_assign rfl) ?_
  refine OpsL.nilK [0, 1, 2, 8, 9, 10] [] (s' := ⟨[(0, .b (.one (.sl 5 (l.map eHolding)))), (1, I c), (2, .b (.one (.raw (.func (.func 58) #[] #[])))), (8, I (l.length : Int)), (9, I 0), (10, I (l.length : Int))], []⟩) rfl ?_
  refine Tri.seq ?_
  refine Tri.block ?_
  refine Tri.keep [0, 1, 2, 8, 9, 10] [] (s' := ⟨[(0, .b (.one (.sl 5 (l.map eHolding)))), (1, I c), (2, .b (.one (.raw (.func (.func 58) #[] #[])))), (8, I (l.length : Int)), (9, I 0), (10, I (l.length : Int))], []⟩) rfl ?_
  refine Tri.loop (ι := Int × Int) (fun j => match j with | ⟨a, z⟩ => ⟨[(0, .b (.one (.sl 5 (l.map eHolding)))), (1, I c), (2, .b (.one (.raw (.func (.func 58) #[] #[])))), (8, I (l.length : Int)), (9, I a), (10, I z)], []⟩) (fun j => match j with | ⟨a, z⟩ => 0 ≤ a ∧ a ≤ z ∧ z ≤ l.length ∧ bsr (cmpP l c) a z = bsr (cmpP l c) 0 l.length) (fun j => match j with | ⟨a, z⟩ => (z - a).toNat) (0, (l.length : Int)) (by exact ⟨by omega, by omega, by omega, rfl⟩) rfl ?_
  rintro ⟨a, z⟩ ⟨h0, h1, h2, hb⟩
  show Tri _ _ _ _ ⟨[(0, .b (.one (.sl 5 (l.map eHolding)))), (1, I c), (2, .b (.one (.raw (.func (.func 58) #[] #[])))), (8, I (l.length : Int)), (9, I a), (10, I z)], []⟩ _
  refine Tri.seq ?_
  refine Tri.seq ?_
  refine Tri.regionL ?_
  refine OpsL.cons rfl (op_move rfl) ?_
  refine OpsL.cons rfl (op_move rfl) ?_
  refine OpsL.cons rfl (op_lss rfl rfl) ?_
  refine OpsL.nilK [0, 1, 2, 8, 9, 10, 17] [] (s' := ⟨[(0, .b (.one (.sl 5 (l.map eHolding)))), (1, I c), (2, .b (.one (.raw (.func (.func 58) #[] #[])))), (8, I (l.length : Int)), (9, I a), (10, I z), (17, B (decide (a < z)))], []⟩) rfl ?_
  refine Tri.cond rfl (fun hc1 => ?_) (fun hc1 => ?_)
  · try simp only [decide_eq_true_eq, decide_eq_false_iff_not, Bool.and_eq_true, Bool.or_eq_true, Bool.not_eq_true', Bool.not_eq_false', Bool.and_eq_false_iff, Bool.or_eq_false_iff, Int.not_lt, Int.not_le, ne_eq, Decidable.not_not] at hc1
    refine Tri.skip ?_
    refine Fin.keep [0, 1, 2, 8, 9, 10] [] (s' := ⟨[(0, .b (.one (.sl 5 (l.map eHolding)))), (1, I c), (2, .b (.one (.raw (.func (.func 58) #[] #[])))), (8, I (l.length : Int)), (9, I a), (10, I z)], []⟩) rfl ?_
    refine Fin.then ?_
    refine Tri.block ?_
    refine Tri.seq ?_
    refine Tri.regionL ?_
    refine OpsL.cons rfl (op_move rfl) ?_
    refine OpsL.cons rfl (op_move rfl) ?_
    refine OpsL.cons rfl (op_add' (inR_i64 (by omega) (by omega)) rfl rfl) ?_
    refine OpsL.cons rfl (op_conv_int undi3 undi84 (inR_u64 (by omega) (by omega)) rfl) ?_
    refine OpsL.cons rfl (op_shr (m := 1) (by omega) (by decide) rfl rfl rfl) ?_
    refine OpsL.cons rfl (op_conv_int undi84 undi3 (inR_i64 (by omega) (by omega)) rfl) ?_
    refine OpsL.cons rfl (op_assign rfl) ?_
    refine OpsL.nilK [0, 1, 2, 8, 9, 10, 11] [] (s' := ⟨[(0, .b (.one (.sl 5 (l.map eHolding)))), (1, I c), (2, .b (.one (.raw (.func (.func 58) #[] #[])))), (8, I (l.length : Int)), (9, I a), (10, I z), (11, I ((a + z) / 2))], []⟩) rfl ?_
    refine Tri.seq ?_
    refine Tri.regionL ?_
    refine OpsL.cons rfl (op_move rfl) ?_
    refine OpsL.cons rfl (op_move rfl) ?_
    refine OpsL.cons rfl (op_move rfl) ?_
    refine OpsL.cons rfl (op_index_e tySl42 (by omega) (map_idx (by omega) (by omega)) rfl rfl) ?_
    refine OpsL.cons rfl (op_load_e tyAgg59 rfl rfl rfl) ?_
    refine OpsL.cons rfl (op_move rfl) ?_
    refine OpsL.cons rfl (op_callv0 (place1_spec (idx l ((a + z) / 2)) c) goes58 rfl rfl rfl) ?_
    refine OpsL.cons rfl (op_lss rfl rfl) ?_
    refine OpsL.nilK [0, 1, 2, 8, 9, 10, 11, 31] [] (s' := ⟨[(0, .b (.one (.sl 5 (l.map eHolding)))), (1, I c), (2, .b (.one (.raw (.func (.func 58) #[] #[])))), (8, I (l.length : Int)), (9, I a), (10, I z), (11, I ((a + z) / 2)), (31, B (decide ((IntKind.i64.wrap ((idx l ((a + z) / 2)).Body - c)) < 0)))], []⟩) rfl ?_
    refine Tri.cond rfl (fun hc2 => ?_) (fun hc2 => ?_)
    · try simp only [decide_eq_true_eq, decide_eq_false_iff_not, Bool.and_eq_true, Bool.or_eq_true, Bool.not_eq_true', Bool.not_eq_false', Bool.and_eq_false_iff, Bool.or_eq_false_iff, Int.not_lt, Int.not_le, ne_eq, Decidable.not_not] at hc2
      refine Tri.regionL ?_
      refine OpsL.cons rfl (op_move rfl) ?_
      refine OpsL.cons rfl (op_add' (inR_i64 (by omega) (by omega)) rfl rfl) ?_
      refine OpsL.cons rfl (op_assign rfl) ?_
      refine OpsL.nil ?_
      refine Fin.block_normal ?_
      refine Fin.keep [0, 1, 2, 8, 9, 10] [] (s' := ⟨[(0, .b (.one (.sl 5 (l.map eHolding)))), (1, I c), (2, .b (.one (.raw (.func (.func 58) #[] #[])))), (8, I (l.length : Int)), (9, I (((a + z) / 2) + 1)), (10, I z)], []⟩) rfl ?_
      refine Fin.again (((a + z) / 2) + 1, z) (by exact ⟨by omega, by omega, by omega, by rw [← hb]; exact (bsr_up (by omega) (by simpa [cmpP] using ‹_›)).symm⟩) (by first | omega | (dsimp only; omega)) rfl
    · try simp only [decide_eq_true_eq, decide_eq_false_iff_not, Bool.and_eq_true, Bool.or_eq_true, Bool.not_eq_true', Bool.not_eq_false', Bool.and_eq_false_iff, Bool.or_eq_false_iff, Int.not_lt, Int.not_le, ne_eq, Decidable.not_not] at hc2
      refine Tri.regionL ?_
      refine OpsL.cons rfl (op_move rfl) ?_
      refine OpsL.cons rfl (op_assign rfl) ?_
      refine OpsL.nil ?_
      refine Fin.block_normal ?_
      refine Fin.keep [0, 1, 2, 8, 9, 10] [] (s' := ⟨[(0, .b (.one (.sl 5 (l.map eHolding)))), (1, I c), (2, .b (.one (.raw (.func (.func 58) #[] #[])))), (8, I (l.length : Int)), (9, I a), (10, I ((a + z) / 2))], []⟩) rfl ?_
      refine Fin.again (a, (a + z) / 2) (by exact ⟨by omega, by omega, by omega, by rw [← hb]; exact (bsr_down (by omega) (by simpa [cmpP] using ‹_›)).symm⟩) (by first | omega | (dsimp only; omega)) rfl
  · try simp only [decide_eq_true_eq, decide_eq_false_iff_not, Bool.and_eq_true, Bool.or_eq_true, Bool.not_eq_true', Bool.not_eq_false', Bool.and_eq_false_iff, Bool.or_eq_false_iff, Int.not_lt, Int.not_le, ne_eq, Decidable.not_not] at hc1
    refine Tri.exit ?_
    refine Fin.then_exit ?_
    refine Fin.then_exit ?_
    refine Fin.block_exit ?_
    refine Fin.keep [0, 1, 2, 8, 9] [] (s' := ⟨[(0, .b (.one (.sl 5 (l.map eHolding)))), (1, I c), (2, .b (.one (.raw (.func (.func 58) #[] #[])))), (8, I (l.length : Int)), (9, I a)], []⟩) rfl ?_
    refine Fin.then ?_
    refine Tri.seq ?_
    refine Tri.regionL ?_
    refine OpsL.cons rfl (op_move rfl) ?_
    refine OpsL.cons rfl (op_move rfl) ?_
    refine OpsL.cons rfl (op_move rfl) ?_
    refine OpsL.cons rfl (op_lss rfl rfl) ?_
    refine OpsL.cons rfl (op_move rfl) ?_
    refine OpsL.consG (decide (a < (l.length : Int))) 99 [] (.plain rfl) (eq_t _) rfl rfl (fun hg3 => trivial) (fun hg3 => (op_move rfl)) ?_
    refine OpsL.consG (decide (a < (l.length : Int))) 99 [] (.plain rfl) (eq_t _) rfl rfl (fun hg4 => trivial) (fun hg4 => (op_move rfl)) ?_
    refine OpsL.keep [1, 9, 35, 39, 40, 41] [] (s' := ⟨[(1, I c), (9, I a), (35, I a), (39, B (decide (a < (l.length : Int)))), (40, .opt (decide (a < (l.length : Int))) (.one (.raw (.func (.func 58) #[] #[])))), (41, .opt (decide (a < (l.length : Int))) (.one (.sl 5 (l.map eHolding))))], []⟩) rfl ?_
    refine OpsL.consG (decide (a < (l.length : Int))) 99 [] (.plain rfl) (eq_t _) rfl rfl (fun hg5 => trivial) (fun hg5 => (op_move rfl)) ?_
    refine OpsL.consG (decide (a < (l.length : Int))) 99 [41, 42] (.plain rfl) (eq_t _) rfl rfl (fun hg6 => ⟨hg6, hg6, trivial⟩) (fun hg6 => by first | (simp only [decide_eq_true_eq, decide_eq_false_iff_not, Bool.and_eq_true, Bool.or_eq_true, Bool.not_eq_true', Bool.not_eq_false', Bool.and_eq_false_iff, Bool.or_eq_false_iff, Int.not_lt, Int.not_le, ne_eq, Decidable.not_not] at hg6; exact op_index_e tySl42 (by omega) (map_idx (by omega) (by omega)) rfl rfl) | exact op_index_e tySl42 (by omega) (map_idx (by omega) (by omega)) rfl rfl) ?_
    refine OpsL.consG (decide (a < (l.length : Int))) 99 [43] (.plain rfl) (eq_t _) rfl rfl (fun hg7 => ⟨hg7, trivial⟩) (fun hg7 => (op_load_e tyAgg59 rfl rfl rfl)) ?_
    refine OpsL.consG (decide (a < (l.length : Int))) 99 [] (.plain rfl) (eq_t _) rfl rfl (fun hg8 => trivial) (fun hg8 => (op_move rfl)) ?_
    refine OpsL.consG (decide (a < (l.length : Int))) 99 [40, 44, 45] (.plain rfl) (eq_t _) rfl rfl (fun hg9 => ⟨hg9, hg9, hg9, trivial⟩) (fun hg9 => by first | (simp only [decide_eq_true_eq, decide_eq_false_iff_not, Bool.and_eq_true, Bool.or_eq_true, Bool.not_eq_true', Bool.not_eq_false', Bool.and_eq_false_iff, Bool.or_eq_false_iff, Int.not_lt, Int.not_le, ne_eq, Decidable.not_not] at hg9; exact op_callv0 (place1_spec (idx l a) c) goes58 rfl rfl rfl) | exact op_callv0 (place1_spec (idx l a) c) goes58 rfl rfl rfl) ?_
    refine OpsL.consG (decide (a < (l.length : Int))) 99 [46] (.plain rfl) (eq_t _) rfl rfl (fun hg10 => ⟨hg10, trivial⟩) (fun hg10 => (op_eql rfl rfl)) ?_
    refine OpsL.cons rfl (op_pick_and (fun e => by first | exact e | (rw [e]; rfl) | simp_all) rfl rfl rfl rfl) ?_
    refine OpsL.cons rfl (op_assign rfl) ?_
    refine OpsL.cons rfl (op_assign rfl) ?_
    refine OpsL.nilK [6, 7] [] (s' := ⟨[(6, I a), (7, B ((decide (a < (l.length : Int))) && (decide ((IntKind.i64.wrap ((idx l a).Body - c)) = 0))))], []⟩) rfl ?_
    refine Tri.ret ?_
    refine Fin.keep [6, 7] [] (s' := ⟨[(6, I a), (7, B ((decide (a < (l.length : Int))) && (decide ((IntKind.i64.wrap ((idx l a).Body - c)) = 0))))], []⟩) rfl ?_
    refine Fin.result' [.one (.i a), .one (.bool ((decide (a < (l.length : Int))) && (decide ((IntKind.i64.wrap ((idx l a).Body - c)) = 0))))] (.inl rfl) rfl (.cons (.tmp rfl) (.cons (.tmp rfl) .nil)) ?_
    have e0 : (placeS l c) = a := by first | exact placeS_end hb (by omega) | exact placeF_end hb (by omega)
    rw [e0]
    have e1 : (placeF l c) = ((decide (a < (l.length : Int))) && (decide ((IntKind.i64.wrap ((idx l a).Body - c)) = 0))) := by first | exact placeS_end hb (by omega) | exact placeF_end hb (by omega)
    rw [e1]
    exact ⟨rfl, rfl⟩

theorem place_spec (l : List Holding) (c : Int) (hlen : l.length ≤ 4611686018427387904) : Meets Try.prog 45 [] [.one (.sl 5 (l.map eHolding)), .one (.i c)] (Is [] (.tup [.one (.i (placeS l c)), .one (.bool (placeF l c))])) := by
  refine Meets.intro 11 Try.func45 Try.ntmps45 rfl (by simp) fun E => ?_
  show Tri _ E ⟨11, [], []⟩ _ ⟨[(0, .b (.one (.sl 5 (l.map eHolding)))), (1, I c)], []⟩ _
  refine Tri.seq ?_
  refine Tri.regionL ?_
  refine OpsL.cons rfl (op_assign rfl) ?_
  refine OpsL.cons rfl (op_assign rfl) ?_
  refine OpsL.nilK [0, 1] [] (s' := ⟨[(0, .b (.one (.sl 5 (l.map eHolding)))), (1, I c)], []⟩) rfl ?_
  refine Tri.seq ?_
  refine Tri.regionL ?_
  refine OpsL.cons rfl (op_move rfl) ?_
  refine OpsL.cons rfl (op_move rfl) ?_
  refine OpsL.cons rfl (op_call0 (bsf_spec l c (by first | assumption | omega)) goes57 rfl rfl) ?_
  refine OpsL.cons rfl (op_extract rfl rfl) ?_
  refine OpsL.cons rfl (op_extract rfl rfl) ?_
  refine OpsL.cons rfl (op_assign rfl) ?_
  refine OpsL.cons rfl (op_assign rfl) ?_
  refine OpsL.nilK [4, 5] [] (s' := ⟨[(4, I (placeS l c)), (5, B (placeF l c))], []⟩) rfl ?_
  refine Tri.ret ?_
  refine Fin.keep [4, 5] [] (s' := ⟨[(4, I (placeS l c)), (5, B (placeF l c))], []⟩) rfl ?_
  refine Fin.result' [.one (.i (placeS l c)), .one (.bool (placeF l c))] (.inl rfl) rfl (.cons (.tmp rfl) (.cons (.tmp rfl) .nil)) ?_
  exact ⟨rfl, rfl⟩

theorem get_spec (l : List Holding) (c : Int) (hlen : l.length ≤ 4611686018427387904) : Meets Try.prog 30 [] [.one (.sl 5 (l.map eHolding)), .one (.i c)] (Is [] (.b (.agg (eHolding (getP l c))))) := by
  refine Meets.intro 20 Try.func30 Try.ntmps30 rfl (by simp) fun E => ?_
  show Tri _ E ⟨20, [], []⟩ _ ⟨[(0, .b (.one (.sl 5 (l.map eHolding)))), (1, I c)], []⟩ _
  refine Tri.seq ?_
  refine Tri.regionL ?_
  refine OpsL.cons rfl (op_alloc (k := 101) tyZero59 rfl) ?_
  refine OpsL.nilK [0, 1, 4] [101] (s' := ⟨[(0, .b (.one (.sl 5 (l.map eHolding)))), (1, I c), (4, .b (.ptr 101 0))], [(101, .box 59 [.i 0, .i 0, .i 0, .i 0, .str []])]⟩) rfl ?_
  refine Tri.seq ?_
  refine Tri.seq ?_
  refine Tri.regionL ?_
  refine OpsL.cons rfl (op_move rfl) ?_
  refine OpsL.cons rfl (op_move rfl) ?_
  refine OpsL.cons rfl (op_call0 (place_spec l c (by first | assumption | omega)) goes45 rfl rfl) ?_
  refine OpsL.cons rfl (op_move rfl) ?_
  refine OpsL.cons rfl (op_extract rfl rfl) ?_
  refine OpsL.cons rfl (op_extract rfl rfl) ?_
  refine OpsL.cons rfl (op_assign rfl) ?_
  refine OpsL.cons rfl (op_assign rfl) ?_
  refine OpsL.nilK [0, 1, 4, 5, 6] [101] (s' := ⟨[(0, .b (.one (.sl 5 (l.map eHolding)))), (1, I c), (4, .b (.ptr 101 0)), (5, I (placeS l c)), (6, B (placeF l c))], [(101, .box 59 [.i 0, .i 0, .i 0, .i 0, .str []])]⟩) rfl ?_
  refine Tri.seq ?_
  refine Tri.regionL ?_
  refine OpsL.cons rfl (op_move rfl) ?_
  refine OpsL.nilK [0, 1, 4, 5, 13] [101] (s' := ⟨[(0, .b (.one (.sl 5 (l.map eHolding)))), (1, I c), (4, .b (.ptr 101 0)), (5, I (placeS l c)), (13, B (placeF l c))], [(101, .box 59 [.i 0, .i 0, .i 0, .i 0, .str []])]⟩) rfl ?_
  refine Tri.cond rfl (fun hc1 => ?_) (fun hc1 => ?_)
  · try simp only [decide_eq_true_eq, decide_eq_false_iff_not, Bool.and_eq_true, Bool.or_eq_true, Bool.not_eq_true', Bool.not_eq_false', Bool.and_eq_false_iff, Bool.or_eq_false_iff, Int.not_lt, Int.not_le, ne_eq, Decidable.not_not] at hc1
    have hpl := placeF_bound hc1
    refine Tri.seq ?_
    refine Tri.regionL ?_
    refine OpsL.cons rfl (op_move rfl) ?_
    refine OpsL.cons rfl (op_move rfl) ?_
    refine OpsL.cons rfl (op_index_e tySl42 (by omega) (map_idx (by omega) (by omega)) rfl rfl) ?_
    refine OpsL.cons rfl (op_load_e tyAgg59 rfl rfl rfl) ?_
    refine OpsL.cons rfl (op_store_p tyAgg59 rfl rfl rfl rfl (Nat.le_of_ble_eq_true rfl) rfl) ?_
    refine OpsL.nilK [4] [101] (s' := ⟨[(4, .b (.ptr 101 0))], [(101, .box 59 [.i ((idx l (placeS l c)).Body), .i ((idx l (placeS l c)).Epoch), .i ((idx l (placeS l c)).Phase), .i ((idx l (placeS l c)).Peer), .str ((idx l (placeS l c)).Data)])]⟩) rfl ?_
    refine Tri.ret ?_
    refine Fin.then_ret ?_
    refine Fin.keep [4] [101] (s' := ⟨[(4, .b (.ptr 101 0))], [(101, .box 59 [.i ((idx l (placeS l c)).Body), .i ((idx l (placeS l c)).Epoch), .i ((idx l (placeS l c)).Phase), .i ((idx l (placeS l c)).Peer), .str ((idx l (placeS l c)).Data)])]⟩) rfl ?_
    refine Fin.result' [.agg [.i ((idx l (placeS l c)).Body), .i ((idx l (placeS l c)).Epoch), .i ((idx l (placeS l c)).Phase), .i ((idx l (placeS l c)).Peer), .str ((idx l (placeS l c)).Data)]] (.inl rfl) rfl (.cons (.agg tyAgg59 rfl rfl rfl rfl) .nil) ?_
    have e0 : (getP l c) = (idx l (placeS l c)) := by simp_all [getP]
    rw [e0]
    exact ⟨rfl, rfl⟩
  · try simp only [decide_eq_true_eq, decide_eq_false_iff_not, Bool.and_eq_true, Bool.or_eq_true, Bool.not_eq_true', Bool.not_eq_false', Bool.and_eq_false_iff, Bool.or_eq_false_iff, Int.not_lt, Int.not_le, ne_eq, Decidable.not_not] at hc1
    refine Tri.skip ?_
    refine Fin.keep [1, 4] [101] (s' := ⟨[(1, I c), (4, .b (.ptr 101 0))], [(101, .box 59 [.i 0, .i 0, .i 0, .i 0, .str []])]⟩) rfl ?_
    refine Fin.then ?_
    refine Tri.seq ?_
    refine Tri.regionL ?_
    refine OpsL.cons rfl (op_move rfl) ?_
    refine OpsL.cons rfl (op_build tyBuild59 rfl rfl) ?_
    refine OpsL.cons rfl (op_store_p tyAgg59 rfl rfl rfl rfl (Nat.le_of_ble_eq_true rfl) rfl) ?_
    refine OpsL.nilK [4] [101] (s' := ⟨[(4, .b (.ptr 101 0))], [(101, .box 59 [.i c, .i 0, .i 0, .i 0, .str []])]⟩) rfl ?_
    refine Tri.ret ?_
    refine Fin.keep [4] [101] (s' := ⟨[(4, .b (.ptr 101 0))], [(101, .box 59 [.i c, .i 0, .i 0, .i 0, .str []])]⟩) rfl ?_
    refine Fin.result' [.agg [.i c, .i 0, .i 0, .i 0, .str []]] (.inl rfl) rfl (.cons (.agg tyAgg59 rfl rfl rfl rfl) .nil) ?_
    have e0 : (getP l c) = (⟨c, 0, 0, 0, []⟩ : Holding) := by simp_all [getP]
    rw [e0]
    exact ⟨rfl, rfl⟩

theorem getF_spec (l : List Holding) (c : Int) (hlen : l.length ≤ 9223372036854775807) : Meets Try.prog 31 [] [.one (.sl 5 (l.map eHolding)), .one (.i c)] (Is [] (.b (.agg (eHolding (getS l c))))) := by
  refine Meets.intro 25 Try.func31 Try.ntmps31 rfl (by simp) fun E => ?_
  show Tri _ E ⟨25, [], []⟩ _ ⟨[(0, .b (.one (.sl 5 (l.map eHolding)))), (1, I c)], []⟩ _
  refine Tri.seq ?_
  refine Tri.regionL ?_
  refine OpsL.cons rfl (op_alloc (k := 101) tyZero59 rfl) ?_
  refine OpsL.nilK [0, 1, 4] [101] (s' := ⟨[(0, .b (.one (.sl 5 (l.map eHolding)))), (1, I c), (4, .b (.ptr 101 0))], [(101, .box 59 [.i 0, .i 0, .i 0, .i 0, .str []])]⟩) rfl ?_
  refine Tri.seq ?_
  refine Tri.seq ?_
  refine Tri.regionL ?_
  refine OpsL.cons rfl (op_assign rfl) ?_
  refine OpsL.nilK [0, 1, 4, 5] [101] (s' := ⟨[(0, .b (.one (.sl 5 (l.map eHolding)))), (1, I c), (4, .b (.ptr 101 0)), (5, I 0)], [(101, .box 59 [.i 0, .i 0, .i 0, .i 0, .str []])]⟩) rfl ?_
  refine Tri.block ?_
  refine Tri.keep [0, 1, 4, 5] [101] (s' := ⟨[(0, .b (.one (.sl 5 (l.map eHolding)))), (1, I c), (4, .b (.ptr 101 0)), (5, I 0)], [(101, .box 59 [.i 0, .i 0, .i 0, .i 0, .str []])]⟩) rfl ?_
  refine Tri.loop (ι := Int) (fun k => ⟨[(0, .b (.one (.sl 5 (l.map eHolding)))), (1, I c), (4, .b (.ptr 101 0)), (5, I k)], [(101, .box 59 [.i 0, .i 0, .i 0, .i 0, .str []])]⟩) (fun k => 0 ≤ k ∧ k ≤ l.length ∧ ∀ j, 0 ≤ j → j < k → (idx l j).Body ≠ c) (fun k => (l.length - k).toNat) 0 (by exact ⟨by omega, by omega, fun j _ _ => by omega⟩) rfl ?_
  rintro k ⟨h0, h1, hne⟩
  show Tri _ _ _ _ ⟨[(0, .b (.one (.sl 5 (l.map eHolding)))), (1, I c), (4, .b (.ptr 101 0)), (5, I k)], [(101, .box 59 [.i 0, .i 0, .i 0, .i 0, .str []])]⟩ _
  refine Tri.seq ?_
  refine Tri.seq ?_
  refine Tri.regionL ?_
  refine OpsL.cons rfl (op_move rfl) ?_
  refine OpsL.cons rfl (op_move rfl) ?_
  refine OpsL.cons rfl (op_len_e' und42 rfl (List.length_map _)) ?_
  refine OpsL.cons rfl (op_lss rfl rfl) ?_
  refine OpsL.nilK [0, 1, 4, 5, 9] [101] (s' := ⟨[(0, .b (.one (.sl 5 (l.map eHolding)))), (1, I c), (4, .b (.ptr 101 0)), (5, I k), (9, B (decide (k < (l.length : Int))))], [(101, .box 59 [.i 0, .i 0, .i 0, .i 0, .str []])]⟩) rfl ?_
  refine Tri.cond rfl (fun hc1 => ?_) (fun hc1 => ?_)
  · try simp only [decide_eq_true_eq, decide_eq_false_iff_not, Bool.and_eq_true, Bool.or_eq_true, Bool.not_eq_true', Bool.not_eq_false', Bool.and_eq_false_iff, Bool.or_eq_false_iff, Int.not_lt, Int.not_le, ne_eq, Decidable.not_not] at hc1
    refine Tri.skip ?_
    refine Fin.keep [0, 1, 4, 5] [101] (s' := ⟨[(0, .b (.one (.sl 5 (l.map eHolding)))), (1, I c), (4, .b (.ptr 101 0)), (5, I k)], [(101, .box 59 [.i 0, .i 0, .i 0, .i 0, .str []])]⟩) rfl ?_
    refine Fin.then ?_
    refine Tri.seq ?_
    refine Tri.block ?_
    refine Tri.seq ?_
    refine Tri.regionL ?_
    refine OpsL.cons rfl (op_move rfl) ?_
    refine OpsL.cons rfl (op_move rfl) ?_
    refine OpsL.cons rfl (op_index_e tySl42 (by omega) (map_idx (by omega) (by omega)) rfl rfl) ?_
    refine OpsL.cons rfl (op_field_e tyFld59_0 rfl rfl) ?_
    refine OpsL.cons rfl (op_load_e1 tyOne3 rfl rfl) ?_
    refine OpsL.cons rfl (op_move rfl) ?_
    refine OpsL.cons rfl (op_eql rfl rfl) ?_
    refine OpsL.nilK [0, 1, 4, 5, 18] [101] (s' := ⟨[(0, .b (.one (.sl 5 (l.map eHolding)))), (1, I c), (4, .b (.ptr 101 0)), (5, I k), (18, B (decide (((idx l k).Body) = c)))], [(101, .box 59 [.i 0, .i 0, .i 0, .i 0, .str []])]⟩) rfl ?_
    refine Tri.cond rfl (fun hc2 => ?_) (fun hc2 => ?_)
    · try simp only [decide_eq_true_eq, decide_eq_false_iff_not, Bool.and_eq_true, Bool.or_eq_true, Bool.not_eq_true', Bool.not_eq_false', Bool.and_eq_false_iff, Bool.or_eq_false_iff, Int.not_lt, Int.not_le, ne_eq, Decidable.not_not] at hc2
      refine Tri.seq ?_
      refine Tri.regionL ?_
      refine OpsL.cons rfl (op_move rfl) ?_
      refine OpsL.cons rfl (op_move rfl) ?_
      refine OpsL.cons rfl (op_index_e tySl42 (by omega) (map_idx (by omega) (by omega)) rfl rfl) ?_
      refine OpsL.cons rfl (op_load_e tyAgg59 rfl rfl rfl) ?_
      refine OpsL.cons rfl (op_store_p tyAgg59 rfl rfl rfl rfl (Nat.le_of_ble_eq_true rfl) rfl) ?_
      refine OpsL.nilK [4] [101] (s' := ⟨[(4, .b (.ptr 101 0))], [(101, .box 59 [.i ((idx l k).Body), .i ((idx l k).Epoch), .i ((idx l k).Phase), .i ((idx l k).Peer), .str ((idx l k).Data)])]⟩) rfl ?_
      refine Tri.ret ?_
      refine Fin.block_ret ?_
      refine Fin.then_ret ?_
      refine Fin.then_ret ?_
      refine Fin.block_ret ?_
      refine Fin.then_ret ?_
      refine Fin.keep [4] [101] (s' := ⟨[(4, .b (.ptr 101 0))], [(101, .box 59 [.i ((idx l k).Body), .i ((idx l k).Epoch), .i ((idx l k).Phase), .i ((idx l k).Peer), .str ((idx l k).Data)])]⟩) rfl ?_
      refine Fin.result' [.agg [.i ((idx l k).Body), .i ((idx l k).Epoch), .i ((idx l k).Phase), .i ((idx l k).Peer), .str ((idx l k).Data)]] (.inl rfl) rfl (.cons (.agg tyAgg59 rfl rfl rfl rfl) .nil) ?_
      have e0 : (getS l c) = (idx l k) := by exact getS_at (by omega) (by omega) (by assumption) hne
      rw [e0]
      exact ⟨rfl, rfl⟩
    · try simp only [decide_eq_true_eq, decide_eq_false_iff_not, Bool.and_eq_true, Bool.or_eq_true, Bool.not_eq_true', Bool.not_eq_false', Bool.and_eq_false_iff, Bool.or_eq_false_iff, Int.not_lt, Int.not_le, ne_eq, Decidable.not_not] at hc2
      refine Tri.skip ?_
      refine Fin.block_normal ?_
      refine Fin.keep [0, 1, 4, 5] [101] (s' := ⟨[(0, .b (.one (.sl 5 (l.map eHolding)))), (1, I c), (4, .b (.ptr 101 0)), (5, I k)], [(101, .box 59 [.i 0, .i 0, .i 0, .i 0, .str []])]⟩) rfl ?_
      refine Fin.then ?_
      refine Tri.regionL ?_
      refine OpsL.cons rfl (op_move rfl) ?_
      refine OpsL.cons rfl (op_add' (inR_i64 (by omega) (by omega)) rfl rfl) ?_
      refine OpsL.cons rfl (op_assign rfl) ?_
      refine OpsL.nil ?_
      refine Fin.keep [0, 1, 4, 5] [101] (s' := ⟨[(0, .b (.one (.sl 5 (l.map eHolding)))), (1, I c), (4, .b (.ptr 101 0)), (5, I (k + 1))], [(101, .box 59 [.i 0, .i 0, .i 0, .i 0, .str []])]⟩) rfl ?_
      refine Fin.again (k + 1) (by exact ⟨by omega, by omega, all_step hne (by assumption)⟩) (by first | omega | (dsimp only; omega)) rfl
  · try simp only [decide_eq_true_eq, decide_eq_false_iff_not, Bool.and_eq_true, Bool.or_eq_true, Bool.not_eq_true', Bool.not_eq_false', Bool.and_eq_false_iff, Bool.or_eq_false_iff, Int.not_lt, Int.not_le, ne_eq, Decidable.not_not] at hc1
    refine Tri.exit ?_
    refine Fin.then_exit ?_
    refine Fin.then_exit ?_
    refine Fin.block_exit ?_
    refine Fin.keep [1, 4] [101] (s' := ⟨[(1, I c), (4, .b (.ptr 101 0))], [(101, .box 59 [.i 0, .i 0, .i 0, .i 0, .str []])]⟩) rfl ?_
    refine Fin.then ?_
    refine Tri.seq ?_
    refine Tri.regionL ?_
    refine OpsL.cons rfl (op_move rfl) ?_
    refine OpsL.cons rfl (op_build tyBuild59 rfl rfl) ?_
    refine OpsL.cons rfl (op_store_p tyAgg59 rfl rfl rfl rfl (Nat.le_of_ble_eq_true rfl) rfl) ?_
    refine OpsL.nilK [4] [101] (s' := ⟨[(4, .b (.ptr 101 0))], [(101, .box 59 [.i c, .i 0, .i 0, .i 0, .str []])]⟩) rfl ?_
    refine Tri.ret ?_
    refine Fin.keep [4] [101] (s' := ⟨[(4, .b (.ptr 101 0))], [(101, .box 59 [.i c, .i 0, .i 0, .i 0, .str []])]⟩) rfl ?_
    refine Fin.result' [.agg [.i c, .i 0, .i 0, .i 0, .str []]] (.inl rfl) rfl (.cons (.agg tyAgg59 rfl rfl rfl rfl) .nil) ?_
    have e0 : (getS l c) = (⟨c, 0, 0, 0, []⟩ : Holding) := by exact getS_none (fun j hj1 hj2 => hne j hj1 (by omega))
    rw [e0]
    exact ⟨rfl, rfl⟩

theorem clone_spec (k0 : Nat) (l : List Holding) (hlen : l.length ≤ 2000000000000) : Meets Try.prog 52 [] [.one (.sl 5 (l.map eHolding))] (Is [(k0, .row 59 5 (l.map eHolding))] (.b (.row k0))) := by
  refine Meets.intro 8 Try.func52 Try.ntmps52 rfl (by simp) fun E => ?_
  show Tri _ E ⟨8, [], []⟩ _ ⟨[(0, .b (.one (.sl 5 (l.map eHolding))))], []⟩ _
  refine Tri.seq ?_
  refine Tri.regionL ?_
  refine OpsL.cons rfl (op_assign rfl) ?_
  refine OpsL.nilK [0] [] (s' := ⟨[(0, .b (.one (.sl 5 (l.map eHolding))))], []⟩) rfl ?_
  refine Tri.seq ?_
  refine Tri.seq ?_
  refine Tri.regionL ?_
  refine OpsL.cons rfl (op_move rfl) ?_
  refine OpsL.eqnil_e und42 rfl (fun nb1 hnb1 => ?_)
  refine OpsL.nilK [0, 4] [] (s' := ⟨[(0, .b (.one (.sl 5 (l.map eHolding)))), (4, B nb1)], []⟩) rfl ?_
  refine Tri.cond rfl (fun hc2 => ?_) (fun hc2 => ?_)
  · try simp only [decide_eq_true_eq, decide_eq_false_iff_not, Bool.and_eq_true, Bool.or_eq_true, Bool.not_eq_true', Bool.not_eq_false', Bool.and_eq_false_iff, Bool.or_eq_false_iff, Int.not_lt, Int.not_le, ne_eq, Decidable.not_not] at hc2
    refine Tri.seq ?_
    refine Tri.regionL ?_
    refine OpsL.cons rfl (op_assign rfl) ?_
    refine OpsL.nilK [2] [] (s' := ⟨[(2, .b (.one (.nil)))], []⟩) rfl ?_
    refine Tri.ret ?_
    refine Fin.then_ret ?_
    refine Fin.keep [2] [] (s' := ⟨[(2, .b (.one (.nil)))], []⟩) rfl ?_
    refine Fin.nilrow 2 101 5 59 rfl (by decide) rfl ?_
    refine Fin.resultK 101 k0 [.row 101] (.inl rfl) rfl (.cons (.tmp rfl) .nil) rfl rfl rfl rfl ?_
    have e0 : l = [] := by first | rfl | simp_all
    rw [e0]
    exact ⟨rfl, rfl⟩
  · try simp only [decide_eq_true_eq, decide_eq_false_iff_not, Bool.and_eq_true, Bool.or_eq_true, Bool.not_eq_true', Bool.not_eq_false', Bool.and_eq_false_iff, Bool.or_eq_false_iff, Int.not_lt, Int.not_le, ne_eq, Decidable.not_not] at hc2
    refine Tri.skip ?_
    refine Fin.keep [0] [] (s' := ⟨[(0, .b (.one (.sl 5 (l.map eHolding))))], []⟩) rfl ?_
    refine Fin.then ?_
    refine Tri.seq ?_
    refine Tri.regionL ?_
    refine OpsL.cons rfl (op_build0 (k := 102) tySl42 rfl) ?_
    refine OpsL.cons rfl (op_move rfl) ?_
    refine OpsL.cons rfl (op_append tySl42 (by simp only [List.length_map, List.length_append, List.length_cons, List.length_nil]; omega) (by simp only [List.length_map, List.length_append, List.length_cons, List.length_nil]; omega) rfl rfl rfl rfl rfl) ?_
    refine OpsL.cons rfl (op_assign rfl) ?_
    refine OpsL.nilK [2] [102] (s' := ⟨[(2, .b (.row 102))], [(102, .row 59 5 (l.map eHolding))]⟩) rfl ?_
    refine Tri.ret ?_
    refine Fin.keep [2] [102] (s' := ⟨[(2, .b (.row 102))], [(102, .row 59 5 (l.map eHolding))]⟩) rfl ?_
    refine Fin.resultK 102 k0 [.row 102] (.inl rfl) rfl (.cons (.tmp rfl) .nil) rfl rfl rfl rfl ?_
    exact ⟨rfl, rfl⟩

theorem insert_spec0 (l : List Holding) (p : Int) (h : Holding) (hp : p = l.length) (hlen : l.length ≤ 2000000000000) : Meets Try.prog 59 [(0, .row 59 5 (l.map eHolding))] [.row 0, .one (.i p), .one (.sl 5 ([h].map eHolding))] (Is [(0, .row 59 5 ((l ++ [h]).map eHolding))] (.b (.row 0))) := by
  refine Meets.intro 95 Try.func59 Try.ntmps59 rfl (by simp) fun E => ?_
  show Tri _ E ⟨95, [], [0]⟩ _ ⟨[(0, .b (.row 0)), (1, I p), (2, .b (.one (.sl 5 ([h].map eHolding))))], [(0, .row 59 5 (l.map eHolding))]⟩ _
  refine Tri.seq ?_
  refine Tri.regionL ?_
  refine OpsL.cons rfl (op_assign rfl) ?_
  refine OpsL.nilK [0, 1, 2] [0] (s' := ⟨[(0, .b (.row 0)), (1, I p), (2, .b (.one (.sl 5 ([h].map eHolding))))], [(0, .row 59 5 (l.map eHolding))]⟩) rfl ?_
  refine Tri.seq ?_
  refine Tri.regionL ?_
  refine OpsL.cons rfl (op_move rfl) ?_
  refine OpsL.cons rfl (op_move rfl) ?_
  refine OpsL.cons rfl (op_slice_row_any tySl42 (by omega) (by simp only [List.length_map]; omega) rfl rfl rfl) ?_
  refine OpsL.nilK [0, 1, 2] [0] (s' := ⟨[(0, .b (.row 0)), (1, I p), (2, .b (.one (.sl 5 ([h].map eHolding))))], [(0, .row 59 5 (l.map eHolding))]⟩) rfl ?_
  refine Tri.seq ?_
  refine Tri.regionL ?_
  refine OpsL.cons rfl (op_move rfl) ?_
  refine OpsL.cons rfl (op_len_e' (m := 1) und42 rfl rfl) ?_
  refine OpsL.cons rfl (op_assign rfl) ?_
  refine OpsL.nilK [0, 1, 2, 7] [0] (s' := ⟨[(0, .b (.row 0)), (1, I p), (2, .b (.one (.sl 5 ([h].map eHolding)))), (7, I 1)], [(0, .row 59 5 (l.map eHolding))]⟩) rfl ?_
  refine Tri.seq ?_
  refine Tri.seq ?_
  refine Tri.regionL ?_
  refine OpsL.cons rfl (op_move rfl) ?_
  refine OpsL.cons rfl (op_eql rfl rfl) ?_
  refine OpsL.nilK [0, 1, 2, 7, 16] [0] (s' := ⟨[(0, .b (.row 0)), (1, I p), (2, .b (.one (.sl 5 ([h].map eHolding)))), (7, I 1), (16, B false)], [(0, .row 59 5 (l.map eHolding))]⟩) rfl ?_
  refine Tri.cond rfl (fun hc1 => ?_) (fun hc1 => ?_)
  · exact absurd hc1 (by simp)
  · try simp only [decide_eq_true_eq, decide_eq_false_iff_not, Bool.and_eq_true, Bool.or_eq_true, Bool.not_eq_true', Bool.not_eq_false', Bool.and_eq_false_iff, Bool.or_eq_false_iff, Int.not_lt, Int.not_le, ne_eq, Decidable.not_not] at hc1
    refine Tri.skip ?_
    refine Fin.keep [0, 1, 2, 7] [0] (s' := ⟨[(0, .b (.row 0)), (1, I p), (2, .b (.one (.sl 5 ([h].map eHolding)))), (7, I 1)], [(0, .row 59 5 (l.map eHolding))]⟩) rfl ?_
    refine Fin.then ?_
    refine Tri.seq ?_
    refine Tri.regionL ?_
    refine OpsL.cons rfl (op_move rfl) ?_
    refine OpsL.cons rfl (op_len_r' und42 rfl rfl (List.length_map _)) ?_
    refine OpsL.cons rfl (op_assign rfl) ?_
    refine OpsL.nilK [0, 1, 2, 7, 8] [0] (s' := ⟨[(0, .b (.row 0)), (1, I p), (2, .b (.one (.sl 5 ([h].map eHolding)))), (7, I 1), (8, I (l.length : Int))], [(0, .row 59 5 (l.map eHolding))]⟩) rfl ?_
    refine Tri.seq ?_
    refine Tri.seq ?_
    refine Tri.regionL ?_
    refine OpsL.cons rfl (op_move rfl) ?_
    refine OpsL.cons rfl (op_move rfl) ?_
    refine OpsL.cons rfl (op_eql rfl rfl) ?_
    refine OpsL.nilK [0, 1, 2, 7, 8, 22] [0] (s' := ⟨[(0, .b (.row 0)), (1, I p), (2, .b (.one (.sl 5 ([h].map eHolding)))), (7, I 1), (8, I (l.length : Int)), (22, B (decide (p = (l.length : Int))))], [(0, .row 59 5 (l.map eHolding))]⟩) rfl ?_
    refine Tri.cond rfl (fun hc2 => ?_) (fun hc2 => ?_)
    · try simp only [decide_eq_true_eq, decide_eq_false_iff_not, Bool.and_eq_true, Bool.or_eq_true, Bool.not_eq_true', Bool.not_eq_false', Bool.and_eq_false_iff, Bool.or_eq_false_iff, Int.not_lt, Int.not_le, ne_eq, Decidable.not_not] at hc2
      refine Tri.seq ?_
      refine Tri.regionL ?_
      refine OpsL.cons rfl (op_move rfl) ?_
      refine OpsL.cons rfl (op_move rfl) ?_
      refine OpsL.cons rfl (op_append tySl42 (by simp only [List.length_map, List.length_append, List.length_cons, List.length_nil]; omega) (by simp only [List.length_map, List.length_append, List.length_cons, List.length_nil]; omega) rfl rfl rfl List.map_append.symm rfl) ?_
      refine OpsL.cons rfl (op_assign rfl) ?_
      refine OpsL.nilK [6] [0] (s' := ⟨[(6, .b (.row 0))], [(0, .row 59 5 ((l ++ [h]).map eHolding))]⟩) rfl ?_
      refine Tri.ret ?_
      refine Fin.then_ret ?_
      refine Fin.keep [6] [0] (s' := ⟨[(6, .b (.row 0))], [(0, .row 59 5 ((l ++ [h]).map eHolding))]⟩) rfl ?_
      refine Fin.resultK 0 0 [.row 0] (.inl rfl) rfl (.cons (.tmp rfl) .nil) rfl rfl rfl rfl ?_
      exact ⟨rfl, rfl⟩
    · try simp only [decide_eq_true_eq, decide_eq_false_iff_not, Bool.and_eq_true, Bool.or_eq_true, Bool.not_eq_true', Bool.not_eq_false', Bool.and_eq_false_iff, Bool.or_eq_false_iff, Int.not_lt, Int.not_le, ne_eq, Decidable.not_not] at hc2
      exact absurd hc2 (by omega)
theorem insert_spec (k : Nat) (l : List Holding) (p : Int) (h : Holding) (hp : p = l.length) (hlen : l.length ≤ 2000000000000) : Meets Try.prog 59 [(k, .row 59 5 (l.map eHolding))] [.row k, .one (.i p), .one (.sl 5 ([h].map eHolding))] (Is [(k, .row 59 5 ((l ++ [h]).map eHolding))] (.b (.row k))) := Meets.rekey k (insert_spec0 l p h hp hlen) rfl

theorem set_spec (k0 : Nat) (l : List Holding) (h : Holding) (hlen : l.length ≤ 2000000000000) (hs : setOk l h.Body) : Meets Try.prog 46 [] [.one (.sl 5 (l.map eHolding)), .agg (eHolding h)] (Is [(k0, .row 59 5 ((setP l h).map eHolding))] (.b (.row k0))) := by
  refine Meets.intro 28 Try.func46 Try.ntmps46 rfl (by simp) fun E => ?_
  show Tri _ E ⟨28, [], []⟩ _ ⟨[(0, .b (.one (.sl 5 (l.map eHolding)))), (1, .b (.agg [.i h.Body, .i h.Epoch, .i h.Phase, .i h.Peer, .str h.Data]))], []⟩ _
  refine Tri.seq ?_
  refine Tri.regionL ?_
  refine OpsL.cons rfl (op_box (k := 101) rfl rfl) ?_
  refine OpsL.cons rfl (op_assign rfl) ?_
  refine OpsL.nilK [0, 3] [101] (s' := ⟨[(0, .b (.one (.sl 5 (l.map eHolding)))), (3, .b (.ptr 101 0))], [(101, .box 59 [.i h.Body, .i h.Epoch, .i h.Phase, .i h.Peer, .str h.Data])]⟩) rfl ?_
  refine Tri.seq ?_
  refine Tri.regionL ?_
  refine OpsL.cons rfl (op_move rfl) ?_
  refine OpsL.cons rfl (op_call (clone_spec 102 l (by first | assumption | omega)) goes52 rfl trivial rfl rfl) ?_
  refine OpsL.cons rfl (op_assign rfl) ?_
  refine OpsL.nilK [3, 5] [101, 102] (s' := ⟨[(3, .b (.ptr 101 0)), (5, .b (.row 102))], [(101, .box 59 [.i h.Body, .i h.Epoch, .i h.Phase, .i h.Peer, .str h.Data]), (102, .row 59 5 (l.map eHolding))]⟩) rfl ?_
  refine Tri.seq ?_
  refine Tri.regionL ?_
  refine OpsL.cons rfl (op_move rfl) ?_
  refine OpsL.cons rfl (op_field_p tyFld59_0 rfl rfl) ?_
  refine OpsL.cons rfl (op_load_p1 tyOne3 rfl rfl rfl) ?_
  refine OpsL.cons rfl (op_callB (place_spec l h.Body (by first | assumption | omega)) goes45 rfl (flat_tup ⟨CP.flat_int, CP.flat_bool, trivial⟩)) ?_
  refine OpsL.cons rfl (op_move rfl) ?_
  refine OpsL.cons rfl (op_extract rfl rfl) ?_
  refine OpsL.cons rfl (op_extract rfl rfl) ?_
  refine OpsL.cons rfl (op_assign rfl) ?_
  refine OpsL.cons rfl (op_assign rfl) ?_
  refine OpsL.nilK [3, 5, 6, 7] [101, 102] (s' := ⟨[(3, .b (.ptr 101 0)), (5, .b (.row 102)), (6, I (placeS l h.Body)), (7, B (placeF l h.Body))], [(101, .box 59 [.i h.Body, .i h.Epoch, .i h.Phase, .i h.Peer, .str h.Data]), (102, .row 59 5 (l.map eHolding))]⟩) rfl ?_
  refine Tri.seq ?_
  refine Tri.seq ?_
  refine Tri.regionL ?_
  refine OpsL.cons rfl (op_move rfl) ?_
  refine OpsL.nilK [3, 5, 6, 17] [101, 102] (s' := ⟨[(3, .b (.ptr 101 0)), (5, .b (.row 102)), (6, I (placeS l h.Body)), (17, B (placeF l h.Body))], [(101, .box 59 [.i h.Body, .i h.Epoch, .i h.Phase, .i h.Peer, .str h.Data]), (102, .row 59 5 (l.map eHolding))]⟩) rfl ?_
  refine Tri.cond rfl (fun hc1 => ?_) (fun hc1 => ?_)
  · try simp only [decide_eq_true_eq, decide_eq_false_iff_not, Bool.and_eq_true, Bool.or_eq_true, Bool.not_eq_true', Bool.not_eq_false', Bool.and_eq_false_iff, Bool.or_eq_false_iff, Int.not_lt, Int.not_le, ne_eq, Decidable.not_not] at hc1
    have hpl := placeF_bound hc1
    refine Tri.seq ?_
    refine Tri.regionL ?_
    refine OpsL.cons rfl (op_move rfl) ?_
    refine OpsL.cons rfl (op_move rfl) ?_
    refine OpsL.cons rfl (op_load_p tyAgg59 rfl rfl rfl rfl) ?_
    refine OpsL.cons rfl (op_index_r tySl42 (by omega) (by simp only [List.length_map]; omega) rfl rfl rfl rfl) ?_
    refine OpsL.cons rfl (op_store_r (i := (placeS l h.Body).toNat) tyAgg59 rfl rfl rfl rfl (lt_idx (by omega) (by omega)) (map_set _ _ _ _)) ?_
    refine OpsL.nilK [5] [102] (s' := ⟨[(5, .b (.row 102))], [(102, .row 59 5 ((l.set (placeS l h.Body).toNat h).map eHolding))]⟩) rfl ?_
    refine Tri.seq ?_
    refine Tri.regionL ?_
    refine OpsL.cons rfl (op_move rfl) ?_
    refine OpsL.cons rfl (op_assign rfl) ?_
    refine OpsL.nilK [4] [102] (s' := ⟨[(4, .b (.row 102))], [(102, .row 59 5 ((l.set (placeS l h.Body).toNat h).map eHolding))]⟩) rfl ?_
    refine Tri.ret ?_
    refine Fin.then_ret ?_
    refine Fin.keep [4] [102] (s' := ⟨[(4, .b (.row 102))], [(102, .row 59 5 ((l.set (placeS l h.Body).toNat h).map eHolding))]⟩) rfl ?_
    refine Fin.resultK 102 k0 [.row 102] (.inl rfl) rfl (.cons (.tmp rfl) .nil) rfl rfl rfl rfl ?_
    have e0 : (setP l h) = (l.set (placeS l h.Body).toNat h) := by rw [setP_in (by assumption)]
    rw [e0]
    exact ⟨rfl, rfl⟩
  · try simp only [decide_eq_true_eq, decide_eq_false_iff_not, Bool.and_eq_true, Bool.or_eq_true, Bool.not_eq_true', Bool.not_eq_false', Bool.and_eq_false_iff, Bool.or_eq_false_iff, Int.not_lt, Int.not_le, ne_eq, Decidable.not_not] at hc1
    have hpo := setOk_out hs hc1
    refine Tri.skip ?_
    refine Fin.keep [3, 5, 6] [101, 102] (s' := ⟨[(3, .b (.ptr 101 0)), (5, .b (.row 102)), (6, I (placeS l h.Body))], [(101, .box 59 [.i h.Body, .i h.Epoch, .i h.Phase, .i h.Peer, .str h.Data]), (102, .row 59 5 (l.map eHolding))]⟩) rfl ?_
    refine Fin.then ?_
    refine Tri.seq ?_
    refine Tri.regionL ?_
    refine OpsL.cons rfl (op_move rfl) ?_
    refine OpsL.cons rfl (op_move rfl) ?_
    refine OpsL.cons rfl (op_load_p tyAgg59 rfl rfl rfl rfl) ?_
    refine OpsL.cons rfl (op_buildSlice (k := 103) (es := [h].map eHolding) tySl42 rfl rfl (uni_map fun _ => rfl) rfl (by decide) (by decide) rfl) ?_
    refine OpsL.persist 103 rfl ?_
    refine OpsL.cons rfl (op_call (own_a := [(102, _)]) (insert_spec 102 l (placeS l h.Body) _ (by assumption) (by omega)) goes59 rfl ⟨rfl, trivial⟩ rfl rfl) ?_
    refine OpsL.cons rfl (op_assign rfl) ?_
    refine OpsL.nilK [4] [102] (s' := ⟨[(4, .b (.row 102))], [(102, .row 59 5 ((l ++ [h]).map eHolding))]⟩) rfl ?_
    refine Tri.ret ?_
    refine Fin.keep [4] [102] (s' := ⟨[(4, .b (.row 102))], [(102, .row 59 5 ((l ++ [h]).map eHolding))]⟩) rfl ?_
    refine Fin.resultK 102 k0 [.row 102] (.inl rfl) rfl (.cons (.tmp rfl) .nil) rfl rfl rfl rfl ?_
    have e0 : (setP l h) = (l ++ [h]) := by rw [setP_out (by assumption)]
    rw [e0]
    exact ⟨rfl, rfl⟩

theorem begin_spec (l : List Holding) (c : Int) (d : Str) (hlen : l.length ≤ 2000000000000) (hs : setOk l c) : Meets Try.prog 21 [] [.one (.sl 5 (l.map eHolding)), .one (.i c), .one (.str d)] (Is [] (.tup [.one (.sl 5 ((beginL l c d).map eHolding)), .one (.i (beginE l c))])) := by
  refine Meets.intro 25 Try.func21 Try.ntmps21 rfl (by simp) fun E => ?_
  show Tri _ E ⟨25, [], []⟩ _ ⟨[(0, .b (.one (.sl 5 (l.map eHolding)))), (1, I c), (2, .b (.one (.str d)))], []⟩ _
  refine Tri.seq ?_
  refine Tri.regionL ?_
  refine OpsL.cons rfl (op_assign rfl) ?_
  refine OpsL.cons rfl (op_assign rfl) ?_
  refine OpsL.nilK [0, 1, 2] [] (s' := ⟨[(0, .b (.one (.sl 5 (l.map eHolding)))), (1, I c), (2, .b (.one (.str d)))], []⟩) rfl ?_
  refine Tri.seq ?_
  refine Tri.seq ?_
  refine Tri.regionL ?_
  refine OpsL.cons rfl (op_move rfl) ?_
  refine OpsL.cons rfl (op_call0 (known_spec c) goes44 rfl rfl) ?_
  refine OpsL.cons rfl (op_not rfl) ?_
  refine OpsL.nilK [0, 1, 2, 12] [] (s' := ⟨[(0, .b (.one (.sl 5 (l.map eHolding)))), (1, I c), (2, .b (.one (.str d))), (12, B (!(knownS c)))], []⟩) rfl ?_
  refine Tri.cond rfl (fun hc1 => ?_) (fun hc1 => ?_)
  · try simp only [decide_eq_true_eq, decide_eq_false_iff_not, Bool.and_eq_true, Bool.or_eq_true, Bool.not_eq_true', Bool.not_eq_false', Bool.and_eq_false_iff, Bool.or_eq_false_iff, Int.not_lt, Int.not_le, ne_eq, Decidable.not_not] at hc1
    refine Tri.seq ?_
    refine Tri.regionL ?_
    refine OpsL.cons rfl (op_assign rfl) ?_
    refine OpsL.cons rfl (op_assign rfl) ?_
    refine OpsL.nilK [6, 7] [] (s' := ⟨[(6, .b (.one (.nil))), (7, I 1)], []⟩) rfl ?_
    refine Tri.ret ?_
    refine Fin.then_ret ?_
    refine Fin.keep [6, 7] [] (s' := ⟨[(6, .b (.one (.nil))), (7, I 1)], []⟩) rfl ?_
    refine Fin.nilsl 6 5 rfl (by decide) ?_
    refine Fin.result' [.one (.sl 5 ([].map eHolding)), .one (.i 1)] (.inl rfl) rfl (.cons (.tmp rfl) (.cons (.tmp rfl) .nil)) ?_
    have e0 : (beginL l c d) = [] := by simp_all [beginL, beginE]
    rw [e0]
    have e1 : (beginE l c) = 1 := by simp_all [beginL, beginE]
    rw [e1]
    exact ⟨rfl, rfl⟩
  · try simp only [decide_eq_true_eq, decide_eq_false_iff_not, Bool.and_eq_true, Bool.or_eq_true, Bool.not_eq_true', Bool.not_eq_false', Bool.and_eq_false_iff, Bool.or_eq_false_iff, Int.not_lt, Int.not_le, ne_eq, Decidable.not_not] at hc1
    refine Tri.skip ?_
    refine Fin.keep [0, 1, 2] [] (s' := ⟨[(0, .b (.one (.sl 5 (l.map eHolding)))), (1, I c), (2, .b (.one (.str d)))], []⟩) rfl ?_
    refine Fin.then ?_
    refine Tri.seq ?_
    refine Tri.seq ?_
    refine Tri.regionL ?_
    refine OpsL.cons rfl (op_move rfl) ?_
    refine OpsL.cons rfl (op_move rfl) ?_
    refine OpsL.cons rfl (op_call0 (place_spec l c (by first | assumption | omega)) goes45 rfl rfl) ?_
    refine OpsL.cons rfl (op_move rfl) ?_
    refine OpsL.cons rfl (op_extract rfl rfl) ?_
    refine OpsL.cons rfl (op_extract rfl rfl) ?_
    refine OpsL.cons rfl (op_assign rfl) ?_
    refine OpsL.cons rfl (op_assign rfl) ?_
    refine OpsL.nilK [0, 1, 2, 9] [] (s' := ⟨[(0, .b (.one (.sl 5 (l.map eHolding)))), (1, I c), (2, .b (.one (.str d))), (9, B (placeF l c))], []⟩) rfl ?_
    refine Tri.seq ?_
    refine Tri.regionL ?_
    refine OpsL.cons rfl (op_move rfl) ?_
    refine OpsL.nilK [0, 1, 2, 19] [] (s' := ⟨[(0, .b (.one (.sl 5 (l.map eHolding)))), (1, I c), (2, .b (.one (.str d))), (19, B (placeF l c))], []⟩) rfl ?_
    refine Tri.cond rfl (fun hc2 => ?_) (fun hc2 => ?_)
    · try simp only [decide_eq_true_eq, decide_eq_false_iff_not, Bool.and_eq_true, Bool.or_eq_true, Bool.not_eq_true', Bool.not_eq_false', Bool.and_eq_false_iff, Bool.or_eq_false_iff, Int.not_lt, Int.not_le, ne_eq, Decidable.not_not] at hc2
      refine Tri.seq ?_
      refine Tri.regionL ?_
      refine OpsL.cons rfl (op_assign rfl) ?_
      refine OpsL.cons rfl (op_assign rfl) ?_
      refine OpsL.nilK [6, 7] [] (s' := ⟨[(6, .b (.one (.nil))), (7, I 6)], []⟩) rfl ?_
      refine Tri.ret ?_
      refine Fin.then_ret ?_
      refine Fin.keep [6, 7] [] (s' := ⟨[(6, .b (.one (.nil))), (7, I 6)], []⟩) rfl ?_
      refine Fin.nilsl 6 5 rfl (by decide) ?_
      refine Fin.result' [.one (.sl 5 ([].map eHolding)), .one (.i 6)] (.inl rfl) rfl (.cons (.tmp rfl) (.cons (.tmp rfl) .nil)) ?_
      have e0 : (beginL l c d) = [] := by simp_all [beginL, beginE]
      rw [e0]
      have e1 : (beginE l c) = 6 := by simp_all [beginL, beginE]
      rw [e1]
      exact ⟨rfl, rfl⟩
    · try simp only [decide_eq_true_eq, decide_eq_false_iff_not, Bool.and_eq_true, Bool.or_eq_true, Bool.not_eq_true', Bool.not_eq_false', Bool.and_eq_false_iff, Bool.or_eq_false_iff, Int.not_lt, Int.not_le, ne_eq, Decidable.not_not] at hc2
      refine Tri.skip ?_
      refine Fin.keep [0, 1, 2] [] (s' := ⟨[(0, .b (.one (.sl 5 (l.map eHolding)))), (1, I c), (2, .b (.one (.str d)))], []⟩) rfl ?_
      refine Fin.then ?_
      refine Tri.seq ?_
      refine Tri.regionL ?_
      refine OpsL.cons rfl (op_move rfl) ?_
      refine OpsL.cons rfl (op_move rfl) ?_
      refine OpsL.cons rfl (op_move rfl) ?_
      refine OpsL.cons rfl (op_build tyBuild59 rfl rfl) ?_
      refine OpsL.cons rfl (op_call (set_spec 101 l (⟨c, 0, 1, 0, d⟩ : Holding) (by omega) (by exact hs)) goes46 rfl trivial rfl rfl) ?_
      refine OpsL.cons rfl (op_assign rfl) ?_
      refine OpsL.cons rfl (op_assign rfl) ?_
      refine OpsL.nilK [6, 7] [101] (s' := ⟨[(6, .b (.row 101)), (7, I 0)], [(101, .row 59 5 ((setP l (⟨c, 0, 1, 0, d⟩ : Holding)).map eHolding))]⟩) rfl ?_
      refine Tri.ret ?_
      refine Fin.keep [6, 7] [101] (s' := ⟨[(6, .b (.row 101)), (7, I 0)], [(101, .row 59 5 ((setP l (⟨c, 0, 1, 0, d⟩ : Holding)).map eHolding))]⟩) rfl ?_
      refine Fin.persist 101 rfl ?_
      refine Fin.result' [.one (.sl 5 ((setP l (⟨c, 0, 1, 0, d⟩ : Holding)).map eHolding)), .one (.i 0)] (.inl rfl) rfl (.cons (.tmp rfl) (.cons (.tmp rfl) .nil)) ?_
      have e0 : (beginL l c d) = (setP l (⟨c, 0, 1, 0, d⟩ : Holding)) := by simp_all [beginL, beginE]
      rw [e0]
      have e1 : (beginE l c) = 0 := by simp_all [beginL, beginE]
      rw [e1]
      exact ⟨rfl, rfl⟩

theorem put_spec (l : List Holding) (c : Int) (d : Str) (hlen : l.length ≤ 2000000000000) (hs : setOk l (getP l c).Body) : Meets Try.prog 22 [] [.one (.sl 5 (l.map eHolding)), .one (.i c), .one (.str d)] (Is [] (.tup [.one (.sl 5 ((putL l c d).map eHolding)), .one (.i (putE l c))])) := by
  refine Meets.intro 20 Try.func22 Try.ntmps22 rfl (by simp) fun E => ?_
  show Tri _ E ⟨20, [], []⟩ _ ⟨[(0, .b (.one (.sl 5 (l.map eHolding)))), (1, I c), (2, .b (.one (.str d)))], []⟩ _
  refine Tri.seq ?_
  refine Tri.regionL ?_
  refine OpsL.cons rfl (op_assign rfl) ?_
  refine OpsL.cons rfl (op_assign rfl) ?_
  refine OpsL.nilK [0, 1, 2] [] (s' := ⟨[(0, .b (.one (.sl 5 (l.map eHolding)))), (1, I c), (2, .b (.one (.str d)))], []⟩) rfl ?_
  refine Tri.seq ?_
  refine Tri.regionL ?_
  refine OpsL.cons rfl (op_move rfl) ?_
  refine OpsL.cons rfl (op_move rfl) ?_
  refine OpsL.cons rfl (op_call0 (get_spec l c (by first | assumption | omega)) goes30 rfl rfl) ?_
  refine OpsL.cons rfl (op_alloc (k := 101) tyZero59 rfl) ?_
  refine OpsL.cons rfl (op_store_p tyAgg59 rfl rfl rfl rfl (Nat.le_of_ble_eq_true rfl) rfl) ?_
  refine OpsL.nilK [0, 2, 8] [101] (s' := ⟨[(0, .b (.one (.sl 5 (l.map eHolding)))), (2, .b (.one (.str d))), (8, .b (.ptr 101 0))], [(101, .box 59 [.i ((getP l c).Body), .i ((getP l c).Epoch), .i ((getP l c).Phase), .i ((getP l c).Peer), .str ((getP l c).Data)])]⟩) rfl ?_
  refine Tri.seq ?_
  refine Tri.seq ?_
  refine Tri.regionL ?_
  refine OpsL.cons rfl (op_field_p tyFld59_2 rfl rfl) ?_
  refine OpsL.cons rfl (op_load_p1 tyOne3 rfl rfl rfl) ?_
  refine OpsL.cons rfl (op_neq rfl rfl) ?_
  refine OpsL.nilK [0, 2, 8, 14] [101] (s' := ⟨[(0, .b (.one (.sl 5 (l.map eHolding)))), (2, .b (.one (.str d))), (8, .b (.ptr 101 0)), (14, B (decide (((getP l c).Phase) ≠ 1)))], [(101, .box 59 [.i ((getP l c).Body), .i ((getP l c).Epoch), .i ((getP l c).Phase), .i ((getP l c).Peer), .str ((getP l c).Data)])]⟩) rfl ?_
  refine Tri.cond rfl (fun hc1 => ?_) (fun hc1 => ?_)
  · try simp only [decide_eq_true_eq, decide_eq_false_iff_not, Bool.and_eq_true, Bool.or_eq_true, Bool.not_eq_true', Bool.not_eq_false', Bool.and_eq_false_iff, Bool.or_eq_false_iff, Int.not_lt, Int.not_le, ne_eq, Decidable.not_not] at hc1
    refine Tri.seq ?_
    refine Tri.regionL ?_
    refine OpsL.cons rfl (op_assign rfl) ?_
    refine OpsL.cons rfl (op_assign rfl) ?_
    refine OpsL.nilK [6, 7] [] (s' := ⟨[(6, .b (.one (.nil))), (7, I 4)], []⟩) rfl ?_
    refine Tri.ret ?_
    refine Fin.then_ret ?_
    refine Fin.keep [6, 7] [] (s' := ⟨[(6, .b (.one (.nil))), (7, I 4)], []⟩) rfl ?_
    refine Fin.nilsl 6 5 rfl (by decide) ?_
    refine Fin.result' [.one (.sl 5 ([].map eHolding)), .one (.i 4)] (.inl rfl) rfl (.cons (.tmp rfl) (.cons (.tmp rfl) .nil)) ?_
    have e0 : (putL l c d) = [] := by simp_all [putL, putE]
    rw [e0]
    have e1 : (putE l c) = 4 := by simp_all [putL, putE]
    rw [e1]
    exact ⟨rfl, rfl⟩
  · try simp only [decide_eq_true_eq, decide_eq_false_iff_not, Bool.and_eq_true, Bool.or_eq_true, Bool.not_eq_true', Bool.not_eq_false', Bool.and_eq_false_iff, Bool.or_eq_false_iff, Int.not_lt, Int.not_le, ne_eq, Decidable.not_not] at hc1
    refine Tri.skip ?_
    refine Fin.keep [0, 2, 8] [101] (s' := ⟨[(0, .b (.one (.sl 5 (l.map eHolding)))), (2, .b (.one (.str d))), (8, .b (.ptr 101 0))], [(101, .box 59 [.i ((getP l c).Body), .i ((getP l c).Epoch), .i ((getP l c).Phase), .i ((getP l c).Peer), .str ((getP l c).Data)])]⟩) rfl ?_
    refine Fin.then ?_
    refine Tri.seq ?_
    refine Tri.regionL ?_
    refine OpsL.cons rfl (op_move rfl) ?_
    refine OpsL.cons rfl (op_field_p tyFld59_4 rfl rfl) ?_
    refine OpsL.cons rfl (op_store_p1 tyOne9 rfl rfl rfl (Nat.le_of_ble_eq_true rfl) rfl) ?_
    refine OpsL.nilK [0, 8] [101] (s' := ⟨[(0, .b (.one (.sl 5 (l.map eHolding)))), (8, .b (.ptr 101 0))], [(101, .box 59 [.i ((getP l c).Body), .i ((getP l c).Epoch), .i ((getP l c).Phase), .i ((getP l c).Peer), .str d])]⟩) rfl ?_
    refine Tri.seq ?_
    refine Tri.regionL ?_
    refine OpsL.cons rfl (op_move rfl) ?_
    refine OpsL.cons rfl (op_load_p tyAgg59 rfl rfl rfl rfl) ?_
    refine OpsL.cons rfl (op_call (set_spec 102 l (⟨(getP l c).Body, (getP l c).Epoch, (getP l c).Phase, (getP l c).Peer, d⟩ : Holding) (by omega) (by exact hs)) goes46 rfl trivial rfl rfl) ?_
    refine OpsL.cons rfl (op_assign rfl) ?_
    refine OpsL.cons rfl (op_assign rfl) ?_
    refine OpsL.nilK [6, 7] [102] (s' := ⟨[(6, .b (.row 102)), (7, I 0)], [(102, .row 59 5 ((setP l (⟨(getP l c).Body, (getP l c).Epoch, (getP l c).Phase, (getP l c).Peer, d⟩ : Holding)).map eHolding))]⟩) rfl ?_
    refine Tri.ret ?_
    refine Fin.keep [6, 7] [102] (s' := ⟨[(6, .b (.row 102)), (7, I 0)], [(102, .row 59 5 ((setP l (⟨(getP l c).Body, (getP l c).Epoch, (getP l c).Phase, (getP l c).Peer, d⟩ : Holding)).map eHolding))]⟩) rfl ?_
    refine Fin.persist 102 rfl ?_
    refine Fin.result' [.one (.sl 5 ((setP l (⟨(getP l c).Body, (getP l c).Epoch, (getP l c).Phase, (getP l c).Peer, d⟩ : Holding)).map eHolding)), .one (.i 0)] (.inl rfl) rfl (.cons (.tmp rfl) (.cons (.tmp rfl) .nil)) ?_
    have e0 : (putL l c d) = (setP l (⟨(getP l c).Body, (getP l c).Epoch, (getP l c).Phase, (getP l c).Peer, d⟩ : Holding)) := by simp_all [putL, putE]
    rw [e0]
    have e1 : (putE l c) = 0 := by simp_all [putL, putE]
    rw [e1]
    exact ⟨rfl, rfl⟩

theorem offer_spec (l : List Holding) (f : Int) (c : Int) (t : Int) (hlen : l.length ≤ 2000000000000) (hs : setOk l (getP l c).Body) (he : -1000000000000000 ≤ (getP l c).Epoch ∧ (getP l c).Epoch ≤ 1000000000000000) : Meets Try.prog 23 [] [.one (.sl 5 (l.map eHolding)), .one (.i f), .one (.i c), .one (.i t)] (Is [] (.tup [.one (.sl 5 ((offerL l f c t).map eHolding)), .one (.i (offerE l f c t))])) := by
  refine Meets.intro 46 Try.func23 Try.ntmps23 rfl (by simp) fun E => ?_
  show Tri _ E ⟨46, [], []⟩ _ ⟨[(0, .b (.one (.sl 5 (l.map eHolding)))), (1, I f), (2, I c), (3, I t)], []⟩ _
  refine Tri.seq ?_
  refine Tri.regionL ?_
  refine OpsL.cons rfl (op_assign rfl) ?_
  refine OpsL.cons rfl (op_assign rfl) ?_
  refine OpsL.nilK [0, 1, 2, 3] [] (s' := ⟨[(0, .b (.one (.sl 5 (l.map eHolding)))), (1, I f), (2, I c), (3, I t)], []⟩) rfl ?_
  refine Tri.seq ?_
  refine Tri.regionL ?_
  refine OpsL.cons rfl (op_move rfl) ?_
  refine OpsL.cons rfl (op_move rfl) ?_
  refine OpsL.cons rfl (op_call0 (get_spec l c (by first | assumption | omega)) goes30 rfl rfl) ?_
  refine OpsL.cons rfl (op_alloc (k := 101) tyZero59 rfl) ?_
  refine OpsL.cons rfl (op_store_p tyAgg59 rfl rfl rfl rfl (Nat.le_of_ble_eq_true rfl) rfl) ?_
  refine OpsL.nilK [0, 1, 3, 10] [101] (s' := ⟨[(0, .b (.one (.sl 5 (l.map eHolding)))), (1, I f), (3, I t), (10, .b (.ptr 101 0))], [(101, .box 59 [.i ((getP l c).Body), .i ((getP l c).Epoch), .i ((getP l c).Phase), .i ((getP l c).Peer), .str ((getP l c).Data)])]⟩) rfl ?_
  refine Tri.seq ?_
  refine Tri.block ?_
  refine Tri.seq ?_
  refine Tri.regionL ?_
  refine OpsL.cons rfl (op_move rfl) ?_
  refine OpsL.cons rfl (op_call0 (node_spec f) goes47 rfl rfl) ?_
  refine OpsL.cons rfl (op_not rfl) ?_
  refine OpsL.cons rfl (op_move rfl) ?_
  refine OpsL.consG (!(!(nodeS f))) 99 [] (.plain rfl) (eq_f _) rfl rfl (fun hg1 => trivial) (fun hg1 => (op_move rfl)) ?_
  refine OpsL.consG (!(!(nodeS f))) 99 [19] (.plain rfl) (eq_f _) rfl rfl (fun hg2 => ⟨hg2, trivial⟩) (fun hg2 => by first | (simp only [decide_eq_true_eq, decide_eq_false_iff_not, Bool.and_eq_true, Bool.or_eq_true, Bool.not_eq_true', Bool.not_eq_false', Bool.and_eq_false_iff, Bool.or_eq_false_iff, Int.not_lt, Int.not_le, ne_eq, Decidable.not_not] at hg2; exact op_call0 (node_spec t) goes47 rfl rfl) | exact op_call0 (node_spec t) goes47 rfl rfl) ?_
  refine OpsL.consG (!(!(nodeS f))) 99 [20] (.plain rfl) (eq_f _) rfl rfl (fun hg3 => ⟨hg3, trivial⟩) (fun hg3 => (op_not rfl)) ?_
  refine OpsL.keep [0, 1, 3, 10, 18, 21] [101] (s' := ⟨[(0, .b (.one (.sl 5 (l.map eHolding)))), (1, I f), (3, I t), (10, .b (.ptr 101 0)), (18, B (!(nodeS f))), (21, .opt (!(!(nodeS f))) (.one (.bool (!(nodeS t)))))], [(101, .box 59 [.i ((getP l c).Body), .i ((getP l c).Epoch), .i ((getP l c).Phase), .i ((getP l c).Peer), .str ((getP l c).Data)])]⟩) rfl ?_
  refine OpsL.cons rfl (op_pick_or (fun e => by first | exact e | (rw [e]; rfl) | simp_all) rfl rfl rfl rfl) ?_
  refine OpsL.cons rfl (op_move rfl) ?_
  refine OpsL.consG (!((!(nodeS f)) || (!(nodeS t)))) 99 [] (.plain rfl) (eq_f _) rfl rfl (fun hg4 => trivial) (fun hg4 => (op_move rfl)) ?_
  refine OpsL.consG (!((!(nodeS f)) || (!(nodeS t)))) 99 [] (.plain rfl) (eq_f _) rfl rfl (fun hg5 => trivial) (fun hg5 => (op_move rfl)) ?_
  refine OpsL.consG (!((!(nodeS f)) || (!(nodeS t)))) 99 [24, 25] (.plain rfl) (eq_f _) rfl rfl (fun hg6 => ⟨hg6, hg6, trivial⟩) (fun hg6 => (op_eql rfl rfl)) ?_
  refine OpsL.cons rfl (op_pick_or (fun e => by first | exact e | (rw [e]; rfl) | simp_all) rfl rfl rfl rfl) ?_
  refine OpsL.cons rfl (op_assign rfl) ?_
  refine OpsL.nilK [0, 3, 10, 14] [101] (s' := ⟨[(0, .b (.one (.sl 5 (l.map eHolding)))), (3, I t), (10, .b (.ptr 101 0)), (14, B (((!(nodeS f)) || (!(nodeS t))) || (decide (f = t))))], [(101, .box 59 [.i ((getP l c).Body), .i ((getP l c).Epoch), .i ((getP l c).Phase), .i ((getP l c).Peer), .str ((getP l c).Data)])]⟩) rfl ?_
  refine Tri.cond rfl (fun hc7 => ?_) (fun hc7 => ?_)
  · try simp only [decide_eq_true_eq, decide_eq_false_iff_not, Bool.and_eq_true, Bool.or_eq_true, Bool.not_eq_true', Bool.not_eq_false', Bool.and_eq_false_iff, Bool.or_eq_false_iff, Int.not_lt, Int.not_le, ne_eq, Decidable.not_not] at hc7
    refine Tri.seq ?_
    refine Tri.regionL ?_
    refine OpsL.cons rfl (op_assign rfl) ?_
    refine OpsL.cons rfl (op_assign rfl) ?_
    refine OpsL.nilK [8, 9] [] (s' := ⟨[(8, .b (.one (.nil))), (9, I 1)], []⟩) rfl ?_
    refine Tri.ret ?_
    refine Fin.block_ret ?_
    refine Fin.then_ret ?_
    refine Fin.keep [8, 9] [] (s' := ⟨[(8, .b (.one (.nil))), (9, I 1)], []⟩) rfl ?_
    refine Fin.nilsl 8 5 rfl (by decide) ?_
    refine Fin.result' [.one (.sl 5 ([].map eHolding)), .one (.i 1)] (.inl rfl) rfl (.cons (.tmp rfl) (.cons (.tmp rfl) .nil)) ?_
    have e0 : (offerL l f c t) = [] := by simp_all [offerL, offerE]
    rw [e0]
    have e1 : (offerE l f c t) = 1 := by simp_all [offerL, offerE]
    rw [e1]
    exact ⟨rfl, rfl⟩
  · try simp only [decide_eq_true_eq, decide_eq_false_iff_not, Bool.and_eq_true, Bool.or_eq_true, Bool.not_eq_true', Bool.not_eq_false', Bool.and_eq_false_iff, Bool.or_eq_false_iff, Int.not_lt, Int.not_le, ne_eq, Decidable.not_not] at hc7
    refine Tri.seq ?_
    refine Tri.regionL ?_
    refine OpsL.cons rfl (op_field_p tyFld59_2 rfl rfl) ?_
    refine OpsL.cons rfl (op_load_p1 tyOne3 rfl rfl rfl) ?_
    refine OpsL.cons rfl (op_neq rfl rfl) ?_
    refine OpsL.cons rfl (op_assign rfl) ?_
    refine OpsL.nilK [0, 3, 10, 28] [101] (s' := ⟨[(0, .b (.one (.sl 5 (l.map eHolding)))), (3, I t), (10, .b (.ptr 101 0)), (28, B (decide (((getP l c).Phase) ≠ 1)))], [(101, .box 59 [.i ((getP l c).Body), .i ((getP l c).Epoch), .i ((getP l c).Phase), .i ((getP l c).Peer), .str ((getP l c).Data)])]⟩) rfl ?_
    refine Tri.cond rfl (fun hc8 => ?_) (fun hc8 => ?_)
    · try simp only [decide_eq_true_eq, decide_eq_false_iff_not, Bool.and_eq_true, Bool.or_eq_true, Bool.not_eq_true', Bool.not_eq_false', Bool.and_eq_false_iff, Bool.or_eq_false_iff, Int.not_lt, Int.not_le, ne_eq, Decidable.not_not] at hc8
      refine Tri.seq ?_
      refine Tri.regionL ?_
      refine OpsL.cons rfl (op_assign rfl) ?_
      refine OpsL.cons rfl (op_assign rfl) ?_
      refine OpsL.nilK [8, 9] [] (s' := ⟨[(8, .b (.one (.nil))), (9, I 4)], []⟩) rfl ?_
      refine Tri.ret ?_
      refine Fin.block_ret ?_
      refine Fin.then_ret ?_
      refine Fin.keep [8, 9] [] (s' := ⟨[(8, .b (.one (.nil))), (9, I 4)], []⟩) rfl ?_
      refine Fin.nilsl 8 5 rfl (by decide) ?_
      refine Fin.result' [.one (.sl 5 ([].map eHolding)), .one (.i 4)] (.inl rfl) rfl (.cons (.tmp rfl) (.cons (.tmp rfl) .nil)) ?_
      have e0 : (offerL l f c t) = [] := by simp_all [offerL, offerE]
      rw [e0]
      have e1 : (offerE l f c t) = 4 := by simp_all [offerL, offerE]
      rw [e1]
      exact ⟨rfl, rfl⟩
    · try simp only [decide_eq_true_eq, decide_eq_false_iff_not, Bool.and_eq_true, Bool.or_eq_true, Bool.not_eq_true', Bool.not_eq_false', Bool.and_eq_false_iff, Bool.or_eq_false_iff, Int.not_lt, Int.not_le, ne_eq, Decidable.not_not] at hc8
      refine Tri.seq ?_
      refine Tri.regionL ?_
      refine OpsL.cons rfl (op_field_p tyFld59_1 rfl rfl) ?_
      refine OpsL.cons rfl (op_load_p1 tyOne3 rfl rfl rfl) ?_
      refine OpsL.cons rfl (op_eql rfl rfl) ?_
      refine OpsL.cons rfl (op_assign rfl) ?_
      refine OpsL.nilK [0, 3, 10, 32] [101] (s' := ⟨[(0, .b (.one (.sl 5 (l.map eHolding)))), (3, I t), (10, .b (.ptr 101 0)), (32, B (decide (((getP l c).Epoch) = 1099511627776)))], [(101, .box 59 [.i ((getP l c).Body), .i ((getP l c).Epoch), .i ((getP l c).Phase), .i ((getP l c).Peer), .str ((getP l c).Data)])]⟩) rfl ?_
      refine Tri.cond rfl (fun hc9 => ?_) (fun hc9 => ?_)
      · try simp only [decide_eq_true_eq, decide_eq_false_iff_not, Bool.and_eq_true, Bool.or_eq_true, Bool.not_eq_true', Bool.not_eq_false', Bool.and_eq_false_iff, Bool.or_eq_false_iff, Int.not_lt, Int.not_le, ne_eq, Decidable.not_not] at hc9
        refine Tri.seq ?_
        refine Tri.regionL ?_
        refine OpsL.cons rfl (op_assign rfl) ?_
        refine OpsL.cons rfl (op_assign rfl) ?_
        refine OpsL.nilK [8, 9] [] (s' := ⟨[(8, .b (.one (.nil))), (9, I 2)], []⟩) rfl ?_
        refine Tri.ret ?_
        refine Fin.block_ret ?_
        refine Fin.then_ret ?_
        refine Fin.keep [8, 9] [] (s' := ⟨[(8, .b (.one (.nil))), (9, I 2)], []⟩) rfl ?_
        refine Fin.nilsl 8 5 rfl (by decide) ?_
        refine Fin.result' [.one (.sl 5 ([].map eHolding)), .one (.i 2)] (.inl rfl) rfl (.cons (.tmp rfl) (.cons (.tmp rfl) .nil)) ?_
        have e0 : (offerL l f c t) = [] := by simp_all [offerL, offerE]
        rw [e0]
        have e1 : (offerE l f c t) = 2 := by simp_all [offerL, offerE]
        rw [e1]
        exact ⟨rfl, rfl⟩
      · try simp only [decide_eq_true_eq, decide_eq_false_iff_not, Bool.and_eq_true, Bool.or_eq_true, Bool.not_eq_true', Bool.not_eq_false', Bool.and_eq_false_iff, Bool.or_eq_false_iff, Int.not_lt, Int.not_le, ne_eq, Decidable.not_not] at hc9
        refine Tri.skip ?_
        refine Fin.block_normal ?_
        refine Fin.keep [0, 3, 10] [101] (s' := ⟨[(0, .b (.one (.sl 5 (l.map eHolding)))), (3, I t), (10, .b (.ptr 101 0))], [(101, .box 59 [.i ((getP l c).Body), .i ((getP l c).Epoch), .i ((getP l c).Phase), .i ((getP l c).Peer), .str ((getP l c).Data)])]⟩) rfl ?_
        refine Fin.then ?_
        refine Tri.seq ?_
        refine Tri.regionL ?_
        refine OpsL.cons rfl (op_field_p tyFld59_1 rfl rfl) ?_
        refine OpsL.cons rfl (op_load_p1 tyOne3 rfl rfl rfl) ?_
        refine OpsL.cons rfl (op_add' (inR_i64 (by omega) (by omega)) rfl rfl) ?_
        refine OpsL.cons rfl (op_move rfl) ?_
        refine OpsL.cons rfl (op_field_p tyFld59_1 rfl rfl) ?_
        refine OpsL.cons rfl (op_store_p1 tyOne3 rfl rfl rfl (Nat.le_of_ble_eq_true rfl) rfl) ?_
        refine OpsL.cons rfl (op_field_p tyFld59_2 rfl rfl) ?_
        refine OpsL.keep [0, 10, 39, 41] [101] (s' := ⟨[(0, .b (.one (.sl 5 (l.map eHolding)))), (10, .b (.ptr 101 0)), (39, I t), (41, .b (.ptr 101 2))], [(101, .box 59 [.i ((getP l c).Body), .i (((getP l c).Epoch) + 1), .i ((getP l c).Phase), .i ((getP l c).Peer), .str ((getP l c).Data)])]⟩) rfl ?_
        refine OpsL.cons rfl (op_store_p1 tyOne3 rfl rfl rfl (Nat.le_of_ble_eq_true rfl) rfl) ?_
        refine OpsL.cons rfl (op_field_p tyFld59_3 rfl rfl) ?_
        refine OpsL.cons rfl (op_store_p1 tyOne3 rfl rfl rfl (Nat.le_of_ble_eq_true rfl) rfl) ?_
        refine OpsL.nilK [0, 10] [101] (s' := ⟨[(0, .b (.one (.sl 5 (l.map eHolding)))), (10, .b (.ptr 101 0))], [(101, .box 59 [.i ((getP l c).Body), .i (((getP l c).Epoch) + 1), .i 2, .i t, .str ((getP l c).Data)])]⟩) rfl ?_
        refine Tri.seq ?_
        refine Tri.regionL ?_
        refine OpsL.cons rfl (op_move rfl) ?_
        refine OpsL.cons rfl (op_load_p tyAgg59 rfl rfl rfl rfl) ?_
        refine OpsL.cons rfl (op_call (set_spec 102 l (⟨(getP l c).Body, ((getP l c).Epoch) + 1, 2, t, (getP l c).Data⟩ : Holding) (by omega) (by exact hs)) goes46 rfl trivial rfl rfl) ?_
        refine OpsL.cons rfl (op_assign rfl) ?_
        refine OpsL.cons rfl (op_assign rfl) ?_
        refine OpsL.nilK [8, 9] [102] (s' := ⟨[(8, .b (.row 102)), (9, I 0)], [(102, .row 59 5 ((setP l (⟨(getP l c).Body, ((getP l c).Epoch) + 1, 2, t, (getP l c).Data⟩ : Holding)).map eHolding))]⟩) rfl ?_
        refine Tri.ret ?_
        refine Fin.keep [8, 9] [102] (s' := ⟨[(8, .b (.row 102)), (9, I 0)], [(102, .row 59 5 ((setP l (⟨(getP l c).Body, ((getP l c).Epoch) + 1, 2, t, (getP l c).Data⟩ : Holding)).map eHolding))]⟩) rfl ?_
        refine Fin.persist 102 rfl ?_
        refine Fin.result' [.one (.sl 5 ((setP l (⟨(getP l c).Body, ((getP l c).Epoch) + 1, 2, t, (getP l c).Data⟩ : Holding)).map eHolding)), .one (.i 0)] (.inl rfl) rfl (.cons (.tmp rfl) (.cons (.tmp rfl) .nil)) ?_
        have e0 : (offerL l f c t) = (setP l (⟨(getP l c).Body, ((getP l c).Epoch) + 1, 2, t, (getP l c).Data⟩ : Holding)) := by simp_all [offerL, offerE]
        rw [e0]
        have e1 : (offerE l f c t) = 0 := by simp_all [offerL, offerE]
        rw [e1]
        exact ⟨rfl, rfl⟩

theorem cancel_spec (l : List Holding) (c : Int) (hlen : l.length ≤ 2000000000000) (hs : setOk l (getP l c).Body) : Meets Try.prog 24 [] [.one (.sl 5 (l.map eHolding)), .one (.i c)] (Is [] (.tup [.one (.sl 5 ((cancelL l c).map eHolding)), .one (.i (cancelE l c))])) := by
  refine Meets.intro 18 Try.func24 Try.ntmps24 rfl (by simp) fun E => ?_
  show Tri _ E ⟨18, [], []⟩ _ ⟨[(0, .b (.one (.sl 5 (l.map eHolding)))), (1, I c)], []⟩ _
  refine Tri.seq ?_
  refine Tri.regionL ?_
  refine OpsL.cons rfl (op_assign rfl) ?_
  refine OpsL.cons rfl (op_assign rfl) ?_
  refine OpsL.nilK [0, 1] [] (s' := ⟨[(0, .b (.one (.sl 5 (l.map eHolding)))), (1, I c)], []⟩) rfl ?_
  refine Tri.seq ?_
  refine Tri.regionL ?_
  refine OpsL.cons rfl (op_move rfl) ?_
  refine OpsL.cons rfl (op_move rfl) ?_
  refine OpsL.cons rfl (op_call0 (get_spec l c (by first | assumption | omega)) goes30 rfl rfl) ?_
  refine OpsL.cons rfl (op_alloc (k := 101) tyZero59 rfl) ?_
  refine OpsL.cons rfl (op_store_p tyAgg59 rfl rfl rfl rfl (Nat.le_of_ble_eq_true rfl) rfl) ?_
  refine OpsL.nilK [0, 6] [101] (s' := ⟨[(0, .b (.one (.sl 5 (l.map eHolding)))), (6, .b (.ptr 101 0))], [(101, .box 59 [.i ((getP l c).Body), .i ((getP l c).Epoch), .i ((getP l c).Phase), .i ((getP l c).Peer), .str ((getP l c).Data)])]⟩) rfl ?_
  refine Tri.seq ?_
  refine Tri.seq ?_
  refine Tri.regionL ?_
  refine OpsL.cons rfl (op_field_p tyFld59_2 rfl rfl) ?_
  refine OpsL.cons rfl (op_load_p1 tyOne3 rfl rfl rfl) ?_
  refine OpsL.cons rfl (op_neq rfl rfl) ?_
  refine OpsL.nilK [0, 6, 12] [101] (s' := ⟨[(0, .b (.one (.sl 5 (l.map eHolding)))), (6, .b (.ptr 101 0)), (12, B (decide (((getP l c).Phase) ≠ 2)))], [(101, .box 59 [.i ((getP l c).Body), .i ((getP l c).Epoch), .i ((getP l c).Phase), .i ((getP l c).Peer), .str ((getP l c).Data)])]⟩) rfl ?_
  refine Tri.cond rfl (fun hc1 => ?_) (fun hc1 => ?_)
  · try simp only [decide_eq_true_eq, decide_eq_false_iff_not, Bool.and_eq_true, Bool.or_eq_true, Bool.not_eq_true', Bool.not_eq_false', Bool.and_eq_false_iff, Bool.or_eq_false_iff, Int.not_lt, Int.not_le, ne_eq, Decidable.not_not] at hc1
    refine Tri.seq ?_
    refine Tri.regionL ?_
    refine OpsL.cons rfl (op_assign rfl) ?_
    refine OpsL.cons rfl (op_assign rfl) ?_
    refine OpsL.nilK [4, 5] [] (s' := ⟨[(4, .b (.one (.nil))), (5, I 4)], []⟩) rfl ?_
    refine Tri.ret ?_
    refine Fin.then_ret ?_
    refine Fin.keep [4, 5] [] (s' := ⟨[(4, .b (.one (.nil))), (5, I 4)], []⟩) rfl ?_
    refine Fin.nilsl 4 5 rfl (by decide) ?_
    refine Fin.result' [.one (.sl 5 ([].map eHolding)), .one (.i 4)] (.inl rfl) rfl (.cons (.tmp rfl) (.cons (.tmp rfl) .nil)) ?_
    have e0 : (cancelL l c) = [] := by simp_all [cancelL, cancelE]
    rw [e0]
    have e1 : (cancelE l c) = 4 := by simp_all [cancelL, cancelE]
    rw [e1]
    exact ⟨rfl, rfl⟩
  · try simp only [decide_eq_true_eq, decide_eq_false_iff_not, Bool.and_eq_true, Bool.or_eq_true, Bool.not_eq_true', Bool.not_eq_false', Bool.and_eq_false_iff, Bool.or_eq_false_iff, Int.not_lt, Int.not_le, ne_eq, Decidable.not_not] at hc1
    refine Tri.skip ?_
    refine Fin.keep [0, 6] [101] (s' := ⟨[(0, .b (.one (.sl 5 (l.map eHolding)))), (6, .b (.ptr 101 0))], [(101, .box 59 [.i ((getP l c).Body), .i ((getP l c).Epoch), .i ((getP l c).Phase), .i ((getP l c).Peer), .str ((getP l c).Data)])]⟩) rfl ?_
    refine Fin.then ?_
    refine Tri.seq ?_
    refine Tri.regionL ?_
    refine OpsL.cons rfl (op_field_p tyFld59_2 rfl rfl) ?_
    refine OpsL.cons rfl (op_store_p1 tyOne3 rfl rfl rfl (Nat.le_of_ble_eq_true rfl) rfl) ?_
    refine OpsL.cons rfl (op_field_p tyFld59_3 rfl rfl) ?_
    refine OpsL.cons rfl (op_store_p1 tyOne3 rfl rfl rfl (Nat.le_of_ble_eq_true rfl) rfl) ?_
    refine OpsL.nilK [0, 6] [101] (s' := ⟨[(0, .b (.one (.sl 5 (l.map eHolding)))), (6, .b (.ptr 101 0))], [(101, .box 59 [.i ((getP l c).Body), .i ((getP l c).Epoch), .i 1, .i 0, .str ((getP l c).Data)])]⟩) rfl ?_
    refine Tri.seq ?_
    refine Tri.regionL ?_
    refine OpsL.cons rfl (op_move rfl) ?_
    refine OpsL.cons rfl (op_load_p tyAgg59 rfl rfl rfl rfl) ?_
    refine OpsL.cons rfl (op_call (set_spec 102 l (⟨(getP l c).Body, (getP l c).Epoch, 1, 0, (getP l c).Data⟩ : Holding) (by omega) (by exact hs)) goes46 rfl trivial rfl rfl) ?_
    refine OpsL.cons rfl (op_assign rfl) ?_
    refine OpsL.cons rfl (op_assign rfl) ?_
    refine OpsL.nilK [4, 5] [102] (s' := ⟨[(4, .b (.row 102)), (5, I 0)], [(102, .row 59 5 ((setP l (⟨(getP l c).Body, (getP l c).Epoch, 1, 0, (getP l c).Data⟩ : Holding)).map eHolding))]⟩) rfl ?_
    refine Tri.ret ?_
    refine Fin.keep [4, 5] [102] (s' := ⟨[(4, .b (.row 102)), (5, I 0)], [(102, .row 59 5 ((setP l (⟨(getP l c).Body, (getP l c).Epoch, 1, 0, (getP l c).Data⟩ : Holding)).map eHolding))]⟩) rfl ?_
    refine Fin.persist 102 rfl ?_
    refine Fin.result' [.one (.sl 5 ((setP l (⟨(getP l c).Body, (getP l c).Epoch, 1, 0, (getP l c).Data⟩ : Holding)).map eHolding)), .one (.i 0)] (.inl rfl) rfl (.cons (.tmp rfl) (.cons (.tmp rfl) .nil)) ?_
    have e0 : (cancelL l c) = (setP l (⟨(getP l c).Body, (getP l c).Epoch, 1, 0, (getP l c).Data⟩ : Holding)) := by simp_all [cancelL, cancelE]
    rw [e0]
    have e1 : (cancelE l c) = 0 := by simp_all [cancelL, cancelE]
    rw [e1]
    exact ⟨rfl, rfl⟩

theorem letters_spec (k0 : Nat) (l : List Holding) (f : Int) (hlen : l.length ≤ 2000000000000) : Meets Try.prog 15 [] [.one (.sl 5 (l.map eHolding)), .one (.i f)] (Is [(k0, .row 45 6 ((lettersS f l).map eParcel))] (.b (.row k0))) := by
  refine Meets.intro 40 Try.func15 Try.ntmps15 rfl (by simp) fun E => ?_
  show Tri _ E ⟨40, [], []⟩ _ ⟨[(0, .b (.one (.sl 5 (l.map eHolding)))), (1, I f)], []⟩ _
  refine Tri.seq ?_
  refine Tri.regionL ?_
  refine OpsL.cons rfl (op_assign rfl) ?_
  refine OpsL.nilK [0, 1] [] (s' := ⟨[(0, .b (.one (.sl 5 (l.map eHolding)))), (1, I f)], []⟩) rfl ?_
  refine Tri.seq ?_
  refine Tri.regionL ?_
  refine OpsL.cons rfl (op_assign rfl) ?_
  refine OpsL.nilK [0, 1, 5] [] (s' := ⟨[(0, .b (.one (.sl 5 (l.map eHolding)))), (1, I f), (5, .b (.one (.nil)))], []⟩) rfl ?_
  refine Tri.seq ?_
  refine Tri.seq ?_
  refine Tri.regionL ?_
  refine OpsL.cons rfl (op_move rfl) ?_
  refine OpsL.cons rfl (op_len_e' und42 rfl (List.length_map _)) ?_
  refine OpsL.cons rfl (op_move rfl) ?_
  refine OpsL.nilK [1, 5, 9, 10, 11] [] (s' := ⟨[(1, I f), (5, .b (.one (.nil))), (9, .b (.one (.sl 5 (l.map eHolding)))), (10, I (l.length : Int)), (11, I 0)], []⟩) rfl ?_
  refine Tri.block ?_
  refine Tri.keep [1, 5, 9, 10, 11] [] (s' := ⟨[(1, I f), (5, .b (.one (.nil))), (9, .b (.one (.sl 5 (l.map eHolding)))), (10, I (l.length : Int)), (11, I 0)], []⟩) rfl ?_
  refine Tri.nilrow 5 101 6 45 rfl (by decide) rfl ?_
  refine Tri.keep [1, 5, 9, 10, 11] [101] (s' := ⟨[(1, I f), (5, .b (.row 101)), (9, .b (.one (.sl 5 (l.map eHolding)))), (10, I (l.length : Int)), (11, I 0)], [(101, .row 45 6 ([].map eParcel))]⟩) rfl ?_
  refine Tri.loop (ι := (List Parcel) × Int) (fun j => match j with | ⟨out, k⟩ => ⟨[(1, I f), (5, .b (.row 101)), (9, .b (.one (.sl 5 (l.map eHolding)))), (10, I (l.length : Int)), (11, I k)], [(101, .row 45 6 (out.map eParcel))]⟩) (fun j => match j with | ⟨out, k⟩ => 0 ≤ k ∧ k ≤ l.length ∧ out = lettersS f (l.take k.toNat) ∧ out.length ≤ k) (fun j => match j with | ⟨out, k⟩ => (l.length - k).toNat) ([], 0) (by exact ⟨by omega, by omega, rfl, by simp⟩) rfl ?_
  rintro ⟨out, k⟩ ⟨h0, h1, ho, hol⟩
  show Tri _ _ _ _ ⟨[(1, I f), (5, .b (.row 101)), (9, .b (.one (.sl 5 (l.map eHolding)))), (10, I (l.length : Int)), (11, I k)], [(101, .row 45 6 (out.map eParcel))]⟩ _
  refine Tri.seq ?_
  refine Tri.regionL ?_
  refine OpsL.cons rfl (op_lss rfl rfl) ?_
  refine OpsL.nilK [1, 5, 9, 10, 11, 12] [101] (s' := ⟨[(1, I f), (5, .b (.row 101)), (9, .b (.one (.sl 5 (l.map eHolding)))), (10, I (l.length : Int)), (11, I k), (12, B (decide (k < (l.length : Int))))], [(101, .row 45 6 (out.map eParcel))]⟩) rfl ?_
  refine Tri.seq ?_
  refine Tri.cond rfl (fun hc1 => ?_) (fun hc1 => ?_)
  · try simp only [decide_eq_true_eq, decide_eq_false_iff_not, Bool.and_eq_true, Bool.or_eq_true, Bool.not_eq_true', Bool.not_eq_false', Bool.and_eq_false_iff, Bool.or_eq_false_iff, Int.not_lt, Int.not_le, ne_eq, Decidable.not_not] at hc1
    refine Tri.skip ?_
    refine Fin.keep [1, 5, 9, 10, 11] [101] (s' := ⟨[(1, I f), (5, .b (.row 101)), (9, .b (.one (.sl 5 (l.map eHolding)))), (10, I (l.length : Int)), (11, I k)], [(101, .row 45 6 (out.map eParcel))]⟩) rfl ?_
    refine Fin.then ?_
    refine Tri.seq ?_
    refine Tri.block ?_
    refine Tri.seq ?_
    refine Tri.regionL ?_
    refine OpsL.cons rfl (op_index_e tySl42 (by omega) (map_idx (by omega) (by omega)) rfl rfl) ?_
    refine OpsL.cons rfl (op_load_e tyAgg59 rfl rfl rfl) ?_
    refine OpsL.cons rfl (op_alloc (k := 102) tyZero59 rfl) ?_
    refine OpsL.cons rfl (op_store_p tyAgg59 rfl rfl rfl rfl (Nat.le_of_ble_eq_true rfl) rfl) ?_
    refine OpsL.nilK [1, 5, 7, 9, 10, 11] [101, 102] (s' := ⟨[(1, I f), (5, .b (.row 101)), (7, .b (.ptr 102 0)), (9, .b (.one (.sl 5 (l.map eHolding)))), (10, I (l.length : Int)), (11, I k)], [(101, .row 45 6 (out.map eParcel)), (102, .box 59 [.i ((idx l k).Body), .i ((idx l k).Epoch), .i ((idx l k).Phase), .i ((idx l k).Peer), .str ((idx l k).Data)])]⟩) rfl ?_
    refine Tri.seq ?_
    refine Tri.regionL ?_
    refine OpsL.cons rfl (op_move rfl) ?_
    refine OpsL.cons rfl (op_field_p tyFld59_3 rfl rfl) ?_
    refine OpsL.cons rfl (op_load_p1 tyOne3 rfl rfl rfl) ?_
    refine OpsL.cons rfl (op_field_p tyFld59_0 rfl rfl) ?_
    refine OpsL.cons rfl (op_load_p1 tyOne3 rfl rfl rfl) ?_
    refine OpsL.cons rfl (op_field_p tyFld59_1 rfl rfl) ?_
    refine OpsL.cons rfl (op_load_p1 tyOne3 rfl rfl rfl) ?_
    refine OpsL.keep [1, 5, 7, 9, 10, 11, 15, 17, 19, 21] [101, 102] (s' := ⟨[(1, I f), (5, .b (.row 101)), (7, .b (.ptr 102 0)), (9, .b (.one (.sl 5 (l.map eHolding)))), (10, I (l.length : Int)), (11, I k), (15, I f), (17, I ((idx l k).Peer)), (19, I ((idx l k).Body)), (21, I ((idx l k).Epoch))], [(101, .row 45 6 (out.map eParcel)), (102, .box 59 [.i ((idx l k).Body), .i ((idx l k).Epoch), .i ((idx l k).Phase), .i ((idx l k).Peer), .str ((idx l k).Data)])]⟩) rfl ?_
    refine OpsL.cons rfl (op_build tyBuild45 rfl rfl) ?_
    refine OpsL.cons rfl (op_alloc (k := 103) tyZero45 rfl) ?_
    refine OpsL.cons rfl (op_store_p tyAgg45 rfl rfl rfl rfl (Nat.le_of_ble_eq_true rfl) rfl) ?_
    refine OpsL.nilK [1, 5, 7, 8, 9, 10, 11] [101, 102, 103] (s' := ⟨[(1, I f), (5, .b (.row 101)), (7, .b (.ptr 102 0)), (8, .b (.ptr 103 0)), (9, .b (.one (.sl 5 (l.map eHolding)))), (10, I (l.length : Int)), (11, I k)], [(101, .row 45 6 (out.map eParcel)), (102, .box 59 [.i ((idx l k).Body), .i ((idx l k).Epoch), .i ((idx l k).Phase), .i ((idx l k).Peer), .str ((idx l k).Data)]), (103, .box 45 [.i f, .i ((idx l k).Peer), .i 0, .i ((idx l k).Body), .i ((idx l k).Epoch), .str []])]⟩) rfl ?_
    refine Tri.seq ?_
    refine Tri.seq ?_
    refine Tri.regionL ?_
    refine OpsL.cons rfl (op_field_p tyFld59_2 rfl rfl) ?_
    refine OpsL.cons rfl (op_load_p1 tyOne3 rfl rfl rfl) ?_
    refine OpsL.nilK [1, 5, 7, 8, 9, 10, 11, 24] [101, 102, 103] (s' := ⟨[(1, I f), (5, .b (.row 101)), (7, .b (.ptr 102 0)), (8, .b (.ptr 103 0)), (9, .b (.one (.sl 5 (l.map eHolding)))), (10, I (l.length : Int)), (11, I k), (24, I ((idx l k).Phase))], [(101, .row 45 6 (out.map eParcel)), (102, .box 59 [.i ((idx l k).Body), .i ((idx l k).Epoch), .i ((idx l k).Phase), .i ((idx l k).Peer), .str ((idx l k).Data)]), (103, .box 45 [.i f, .i ((idx l k).Peer), .i 0, .i ((idx l k).Body), .i ((idx l k).Epoch), .str []])]⟩) rfl ?_
    refine Tri.block ?_
    refine Tri.seq ?_
    refine Tri.regionL ?_
    refine OpsL.cons rfl (op_eql rfl rfl) ?_
    refine OpsL.cons rfl (op_assign rfl) ?_
    refine OpsL.nilK [1, 5, 7, 8, 9, 10, 11, 24, 25] [101, 102, 103] (s' := ⟨[(1, I f), (5, .b (.row 101)), (7, .b (.ptr 102 0)), (8, .b (.ptr 103 0)), (9, .b (.one (.sl 5 (l.map eHolding)))), (10, I (l.length : Int)), (11, I k), (24, I ((idx l k).Phase)), (25, B (decide (((idx l k).Phase) = 2)))], [(101, .row 45 6 (out.map eParcel)), (102, .box 59 [.i ((idx l k).Body), .i ((idx l k).Epoch), .i ((idx l k).Phase), .i ((idx l k).Peer), .str ((idx l k).Data)]), (103, .box 45 [.i f, .i ((idx l k).Peer), .i 0, .i ((idx l k).Body), .i ((idx l k).Epoch), .str []])]⟩) rfl ?_
    refine Tri.cond rfl (fun hc2 => ?_) (fun hc2 => ?_)
    · try simp only [decide_eq_true_eq, decide_eq_false_iff_not, Bool.and_eq_true, Bool.or_eq_true, Bool.not_eq_true', Bool.not_eq_false', Bool.and_eq_false_iff, Bool.or_eq_false_iff, Int.not_lt, Int.not_le, ne_eq, Decidable.not_not] at hc2
      refine Tri.keep [1, 5, 7, 8, 9, 10, 11] [101, 102, 103] (s' := ⟨[(1, I f), (5, .b (.row 101)), (7, .b (.ptr 102 0)), (8, .b (.ptr 103 0)), (9, .b (.one (.sl 5 (l.map eHolding)))), (10, I (l.length : Int)), (11, I k)], [(101, .row 45 6 (out.map eParcel)), (102, .box 59 [.i ((idx l k).Body), .i ((idx l k).Epoch), .i ((idx l k).Phase), .i ((idx l k).Peer), .str ((idx l k).Data)]), (103, .box 45 [.i f, .i ((idx l k).Peer), .i 0, .i ((idx l k).Body), .i ((idx l k).Epoch), .str []])]⟩) rfl ?_
      refine Tri.regionTF mixed (sf := ⟨[(1, I f), (5, .b (.row 101)), (8, .b (.ptr 103 0)), (9, .b (.one (.sl 5 (l.map eHolding)))), (10, I (l.length : Int)), (11, I k)], [(101, .row 45 6 (out.map eParcel)), (103, .box 45 [.i f, .i ((idx l k).Peer), .i 1, .i ((idx l k).Body), .i ((idx l k).Epoch), .str ((idx l k).Data)])]⟩) [([false, false, false, false, false, false], [0, 2], ⟨[(1, I f), (5, .b (.row 101)), (7, .b (.ptr 102 0)), (8, .b (.ptr 103 0)), (9, .b (.one (.sl 5 (l.map eHolding)))), (10, I (l.length : Int)), (11, I k)], [(101, .row 45 6 (out.map eParcel)), (102, .box 59 [.i ((idx l k).Body), .i ((idx l k).Epoch), .i ((idx l k).Phase), .i ((idx l k).Peer), .str ((idx l k).Data)]), (103, .box 45 [.i f, .i ((idx l k).Peer), .i 0, .i ((idx l k).Body), .i ((idx l k).Epoch), .str []])]⟩), ([true, false, false, false, false, false], [1, 2], ⟨[(1, I f), (5, .b (.row 101)), (8, .b (.ptr 103 0)), (9, .b (.one (.sl 5 (l.map eHolding)))), (10, I (l.length : Int)), (11, I k), (27, .b (.ptr 102 4))], [(101, .row 45 6 (out.map eParcel)), (102, .box 59 [.i ((idx l k).Body), .i ((idx l k).Epoch), .i ((idx l k).Phase), .i ((idx l k).Peer), .str ((idx l k).Data)]), (103, .box 45 [.i f, .i ((idx l k).Peer), .i 0, .i ((idx l k).Body), .i ((idx l k).Epoch), .str []])]⟩), ([false, false, true, false, false, false], [0, 3], ⟨[(1, I f), (5, .b (.row 101)), (7, .b (.ptr 102 0)), (8, .b (.ptr 103 0)), (9, .b (.one (.sl 5 (l.map eHolding)))), (10, I (l.length : Int)), (11, I k), (29, .b (.ptr 103 2))], [(101, .row 45 6 (out.map eParcel)), (102, .box 59 [.i ((idx l k).Body), .i ((idx l k).Epoch), .i ((idx l k).Phase), .i ((idx l k).Peer), .str ((idx l k).Data)]), (103, .box 45 [.i f, .i ((idx l k).Peer), .i 0, .i ((idx l k).Body), .i ((idx l k).Epoch), .str []])]⟩), ([true, true, false, false, false, false], [2], ⟨[(1, I f), (5, .b (.row 101)), (8, .b (.ptr 103 0)), (9, .b (.one (.sl 5 (l.map eHolding)))), (10, I (l.length : Int)), (11, I k), (28, .b (.one (.str ((idx l k).Data))))], [(101, .row 45 6 (out.map eParcel)), (103, .box 45 [.i f, .i ((idx l k).Peer), .i 0, .i ((idx l k).Body), .i ((idx l k).Epoch), .str []])]⟩), ([true, false, true, false, false, false], [1, 3], ⟨[(1, I f), (5, .b (.row 101)), (8, .b (.ptr 103 0)), (9, .b (.one (.sl 5 (l.map eHolding)))), (10, I (l.length : Int)), (11, I k), (27, .b (.ptr 102 4)), (29, .b (.ptr 103 2))], [(101, .row 45 6 (out.map eParcel)), (102, .box 59 [.i ((idx l k).Body), .i ((idx l k).Epoch), .i ((idx l k).Phase), .i ((idx l k).Peer), .str ((idx l k).Data)]), (103, .box 45 [.i f, .i ((idx l k).Peer), .i 0, .i ((idx l k).Body), .i ((idx l k).Epoch), .str []])]⟩), ([false, false, true, true, false, false], [0], ⟨[(1, I f), (5, .b (.row 101)), (7, .b (.ptr 102 0)), (8, .b (.ptr 103 0)), (9, .b (.one (.sl 5 (l.map eHolding)))), (10, I (l.length : Int)), (11, I k)], [(101, .row 45 6 (out.map eParcel)), (102, .box 59 [.i ((idx l k).Body), .i ((idx l k).Epoch), .i ((idx l k).Phase), .i ((idx l k).Peer), .str ((idx l k).Data)]), (103, .box 45 [.i f, .i ((idx l k).Peer), .i 1, .i ((idx l k).Body), .i ((idx l k).Epoch), .str []])]⟩), ([true, true, true, false, false, false], [3], ⟨[(1, I f), (5, .b (.row 101)), (8, .b (.ptr 103 0)), (9, .b (.one (.sl 5 (l.map eHolding)))), (10, I (l.length : Int)), (11, I k), (28, .b (.one (.str ((idx l k).Data)))), (29, .b (.ptr 103 2))], [(101, .row 45 6 (out.map eParcel)), (103, .box 45 [.i f, .i ((idx l k).Peer), .i 0, .i ((idx l k).Body), .i ((idx l k).Epoch), .str []])]⟩), ([true, false, true, true, false, false], [1], ⟨[(1, I f), (5, .b (.row 101)), (8, .b (.ptr 103 0)), (9, .b (.one (.sl 5 (l.map eHolding)))), (10, I (l.length : Int)), (11, I k), (27, .b (.ptr 102 4))], [(101, .row 45 6 (out.map eParcel)), (102, .box 59 [.i ((idx l k).Body), .i ((idx l k).Epoch), .i ((idx l k).Phase), .i ((idx l k).Peer), .str ((idx l k).Data)]), (103, .box 45 [.i f, .i ((idx l k).Peer), .i 1, .i ((idx l k).Body), .i ((idx l k).Epoch), .str []])]⟩), ([true, true, true, true, false, false], [4], ⟨[(1, I f), (5, .b (.row 101)), (8, .b (.ptr 103 0)), (9, .b (.one (.sl 5 (l.map eHolding)))), (10, I (l.length : Int)), (11, I k), (28, .b (.one (.str ((idx l k).Data))))], [(101, .row 45 6 (out.map eParcel)), (103, .box 45 [.i f, .i ((idx l k).Peer), .i 1, .i ((idx l k).Body), .i ((idx l k).Epoch), .str []])]⟩), ([true, true, true, true, true, false], [5], ⟨[(1, I f), (5, .b (.row 101)), (8, .b (.ptr 103 0)), (9, .b (.one (.sl 5 (l.map eHolding)))), (10, I (l.length : Int)), (11, I k), (28, .b (.one (.str ((idx l k).Data)))), (30, .b (.ptr 103 5))], [(101, .row 45 6 (out.map eParcel)), (103, .box 45 [.i f, .i ((idx l k).Peer), .i 1, .i ((idx l k).Body), .i ((idx l k).Epoch), .str []])]⟩), ([true, true, true, true, true, true], [], ⟨[(1, I f), (5, .b (.row 101)), (8, .b (.ptr 103 0)), (9, .b (.one (.sl 5 (l.map eHolding)))), (10, I (l.length : Int)), (11, I k)], [(101, .row 45 6 (out.map eParcel)), (103, .box 45 [.i f, .i ((idx l k).Peer), .i 1, .i ((idx l k).Body), .i ((idx l k).Epoch), .str ((idx l k).Data)])]⟩)] [1, 5, 8, 9, 10, 11] [101, 103] (s' := ⟨[(1, I f), (5, .b (.row 101)), (8, .b (.ptr 103 0)), (9, .b (.one (.sl 5 (l.map eHolding)))), (10, I (l.length : Int)), (11, I k)], [(101, .row 45 6 (out.map eParcel)), (103, .box 45 [.i f, .i ((idx l k).Peer), .i 1, .i ((idx l k).Body), .i ((idx l k).Epoch), .str ((idx l k).Data)])]⟩) (⟨⟨by kernel_rfl, rfl⟩, ⟨⟨_, _, rfl, rfl, Step1.toKeep [1, 5, 8, 9, 10, 11, 27] [101, 102, 103] rfl (.plain rfl (op_field_p tyFld59_4 rfl rfl))⟩, ⟨_, _, rfl, rfl, Step1.toKeep [1, 5, 7, 8, 9, 10, 11, 29] [101, 102, 103] rfl (.plain rfl (op_field_p tyFld45_2 rfl rfl))⟩, trivial⟩, ⟨⟨by kernel_rfl, rfl⟩, ⟨⟨_, _, rfl, rfl, Step1.toKeep [1, 5, 8, 9, 10, 11, 28] [101, 103] rfl (.plain rfl (op_load_p1 tyOne9 rfl rfl rfl))⟩, ⟨_, _, rfl, rfl, Step1.toKeep [1, 5, 8, 9, 10, 11, 27, 29] [101, 102, 103] rfl (.plain rfl (op_field_p tyFld45_2 rfl rfl))⟩, trivial⟩, ⟨⟨by kernel_rfl, rfl⟩, ⟨⟨_, _, rfl, rfl, Step1.toKeep [1, 5, 8, 9, 10, 11, 27, 29] [101, 102, 103] rfl (.plain rfl (op_field_p tyFld59_4 rfl rfl))⟩, ⟨_, _, rfl, rfl, Step1.toKeep [1, 5, 7, 8, 9, 10, 11] [101, 102, 103] rfl (.plain rfl (op_store_p1 tyOne3 rfl rfl rfl (Nat.le_of_ble_eq_true rfl) rfl))⟩, trivial⟩, ⟨⟨by kernel_rfl, rfl⟩, ⟨⟨_, _, rfl, rfl, Step1.toKeep [1, 5, 8, 9, 10, 11, 28, 29] [101, 103] rfl (.plain rfl (op_field_p tyFld45_2 rfl rfl))⟩, trivial⟩, ⟨⟨by kernel_rfl, rfl⟩, ⟨⟨_, _, rfl, rfl, Step1.toKeep [1, 5, 8, 9, 10, 11, 28, 29] [101, 103] rfl (.plain rfl (op_load_p1 tyOne9 rfl rfl rfl))⟩, ⟨_, _, rfl, rfl, Step1.toKeep [1, 5, 8, 9, 10, 11, 27] [101, 102, 103] rfl (.plain rfl (op_store_p1 tyOne3 rfl rfl rfl (Nat.le_of_ble_eq_true rfl) rfl))⟩, trivial⟩, ⟨⟨by kernel_rfl, rfl⟩, ⟨⟨_, _, rfl, rfl, Step1.toKeep [1, 5, 8, 9, 10, 11, 27] [101, 102, 103] rfl (.plain rfl (op_field_p tyFld59_4 rfl rfl))⟩, trivial⟩, ⟨⟨by kernel_rfl, rfl⟩, ⟨⟨_, _, rfl, rfl, Step1.toKeep [1, 5, 8, 9, 10, 11, 28] [101, 103] rfl (.plain rfl (op_store_p1 tyOne3 rfl rfl rfl (Nat.le_of_ble_eq_true rfl) rfl))⟩, trivial⟩, ⟨⟨by kernel_rfl, rfl⟩, ⟨⟨_, _, rfl, rfl, Step1.toKeep [1, 5, 8, 9, 10, 11, 28] [101, 103] rfl (.plain rfl (op_load_p1 tyOne9 rfl rfl rfl))⟩, trivial⟩, ⟨⟨by kernel_rfl, rfl⟩, ⟨⟨_, _, rfl, rfl, Step1.toKeep [1, 5, 8, 9, 10, 11, 28, 30] [101, 103] rfl (.plain rfl (op_field_p tyFld45_5 rfl rfl))⟩, trivial⟩, ⟨⟨by kernel_rfl, rfl⟩, ⟨⟨_, _, rfl, rfl, Step1.toKeep [1, 5, 8, 9, 10, 11] [101, 103] rfl (.plain rfl (op_store_p1 tyOne9 rfl rfl rfl (Nat.le_of_ble_eq_true rfl) rfl))⟩, trivial⟩, ⟨⟨by kernel_rfl, rfl⟩, trivial, trivial⟩⟩⟩⟩⟩⟩⟩⟩⟩⟩⟩) rfl (finOk_spec ⟨trivial, trivial, trivial, trivial, trivial, trivial, trivial, trivial, trivial, trivial, rfl, trivial⟩) rfl ?_
      refine Fin.block_normal ?_
      refine Fin.keep [1, 5, 8, 9, 10, 11] [101, 103] (s' := ⟨[(1, I f), (5, .b (.row 101)), (8, .b (.ptr 103 0)), (9, .b (.one (.sl 5 (l.map eHolding)))), (10, I (l.length : Int)), (11, I k)], [(101, .row 45 6 (out.map eParcel)), (103, .box 45 [.i f, .i ((idx l k).Peer), .i 1, .i ((idx l k).Body), .i ((idx l k).Epoch), .str ((idx l k).Data)])]⟩) rfl ?_
      refine Fin.then ?_
      refine Tri.regionL ?_
      refine OpsL.cons rfl (op_move rfl) ?_
      refine OpsL.cons rfl (op_load_p tyAgg45 rfl rfl rfl rfl) ?_
      refine OpsL.cons rfl (op_buildSliceP (es := [(⟨f, (idx l k).Peer, 1, (idx l k).Body, (idx l k).Epoch, (idx l k).Data⟩ : Parcel)].map eParcel) tySl38 rfl rfl (uni_map fun _ => rfl) rfl (by decide) (by decide)) ?_
      refine OpsL.cons rfl (op_append tySl38 (by simp only [List.length_map, List.length_append, List.length_cons, List.length_nil]; omega) (by simp only [List.length_map, List.length_append, List.length_cons, List.length_nil]; omega) rfl rfl rfl List.map_append.symm rfl) ?_
      refine OpsL.cons rfl (op_assign rfl) ?_
      refine OpsL.nil ?_
      refine Fin.block_normal ?_
      refine Fin.keep [1, 5, 9, 10, 11] [101] (s' := ⟨[(1, I f), (5, .b (.row 101)), (9, .b (.one (.sl 5 (l.map eHolding)))), (10, I (l.length : Int)), (11, I k)], [(101, .row 45 6 ((out ++ [(⟨f, (idx l k).Peer, 1, (idx l k).Body, (idx l k).Epoch, (idx l k).Data⟩ : Parcel)]).map eParcel))]⟩) rfl ?_
      refine Fin.then ?_
      refine Tri.regionL ?_
      refine OpsL.cons rfl (op_add' (inR_i64 (by omega) (by omega)) rfl rfl) ?_
      refine OpsL.cons rfl (op_move rfl) ?_
      refine OpsL.nil ?_
      refine Fin.keep [1, 5, 9, 10, 11] [101] (s' := ⟨[(1, I f), (5, .b (.row 101)), (9, .b (.one (.sl 5 (l.map eHolding)))), (10, I (l.length : Int)), (11, I (k + 1))], [(101, .row 45 6 ((out ++ [(⟨f, (idx l k).Peer, 1, (idx l k).Body, (idx l k).Epoch, (idx l k).Data⟩ : Parcel)]).map eParcel))]⟩) rfl ?_
      refine Fin.again (out ++ [(⟨f, (idx l k).Peer, 1, (idx l k).Body, (idx l k).Epoch, (idx l k).Data⟩ : Parcel)], k + 1) (by exact ⟨by omega, by omega, by rw [letters_step (by omega) (by omega), ← ho]; simp_all [letterOf], by first | omega | (simp only [List.length_append, List.length_cons, List.length_nil]; omega)⟩) (by first | omega | (dsimp only; omega)) rfl
    · try simp only [decide_eq_true_eq, decide_eq_false_iff_not, Bool.and_eq_true, Bool.or_eq_true, Bool.not_eq_true', Bool.not_eq_false', Bool.and_eq_false_iff, Bool.or_eq_false_iff, Int.not_lt, Int.not_le, ne_eq, Decidable.not_not] at hc2
      refine Tri.seq ?_
      refine Tri.regionL ?_
      refine OpsL.cons rfl (op_eql rfl rfl) ?_
      refine OpsL.cons rfl (op_assign rfl) ?_
      refine OpsL.nilK [1, 5, 8, 9, 10, 11, 31] [101, 103] (s' := ⟨[(1, I f), (5, .b (.row 101)), (8, .b (.ptr 103 0)), (9, .b (.one (.sl 5 (l.map eHolding)))), (10, I (l.length : Int)), (11, I k), (31, B (decide (((idx l k).Phase) = 3)))], [(101, .row 45 6 (out.map eParcel)), (103, .box 45 [.i f, .i ((idx l k).Peer), .i 0, .i ((idx l k).Body), .i ((idx l k).Epoch), .str []])]⟩) rfl ?_
      refine Tri.cond rfl (fun hc3 => ?_) (fun hc3 => ?_)
      · try simp only [decide_eq_true_eq, decide_eq_false_iff_not, Bool.and_eq_true, Bool.or_eq_true, Bool.not_eq_true', Bool.not_eq_false', Bool.and_eq_false_iff, Bool.or_eq_false_iff, Int.not_lt, Int.not_le, ne_eq, Decidable.not_not] at hc3
        refine Tri.regionL ?_
        refine OpsL.cons rfl (op_field_p tyFld45_2 rfl rfl) ?_
        refine OpsL.cons rfl (op_store_p1 tyOne3 rfl rfl rfl (Nat.le_of_ble_eq_true rfl) rfl) ?_
        refine OpsL.nil ?_
        refine Fin.block_normal ?_
        refine Fin.keep [1, 5, 8, 9, 10, 11] [101, 103] (s' := ⟨[(1, I f), (5, .b (.row 101)), (8, .b (.ptr 103 0)), (9, .b (.one (.sl 5 (l.map eHolding)))), (10, I (l.length : Int)), (11, I k)], [(101, .row 45 6 (out.map eParcel)), (103, .box 45 [.i f, .i ((idx l k).Peer), .i 3, .i ((idx l k).Body), .i ((idx l k).Epoch), .str []])]⟩) rfl ?_
        refine Fin.then ?_
        refine Tri.regionL ?_
        refine OpsL.cons rfl (op_move rfl) ?_
        refine OpsL.cons rfl (op_load_p tyAgg45 rfl rfl rfl rfl) ?_
        refine OpsL.cons rfl (op_buildSliceP (es := [(⟨f, (idx l k).Peer, 3, (idx l k).Body, (idx l k).Epoch, []⟩ : Parcel)].map eParcel) tySl38 rfl rfl (uni_map fun _ => rfl) rfl (by decide) (by decide)) ?_
        refine OpsL.cons rfl (op_append tySl38 (by simp only [List.length_map, List.length_append, List.length_cons, List.length_nil]; omega) (by simp only [List.length_map, List.length_append, List.length_cons, List.length_nil]; omega) rfl rfl rfl List.map_append.symm rfl) ?_
        refine OpsL.cons rfl (op_assign rfl) ?_
        refine OpsL.nil ?_
        refine Fin.block_normal ?_
        refine Fin.keep [1, 5, 9, 10, 11] [101] (s' := ⟨[(1, I f), (5, .b (.row 101)), (9, .b (.one (.sl 5 (l.map eHolding)))), (10, I (l.length : Int)), (11, I k)], [(101, .row 45 6 ((out ++ [(⟨f, (idx l k).Peer, 3, (idx l k).Body, (idx l k).Epoch, []⟩ : Parcel)]).map eParcel))]⟩) rfl ?_
        refine Fin.then ?_
        refine Tri.regionL ?_
        refine OpsL.cons rfl (op_add' (inR_i64 (by omega) (by omega)) rfl rfl) ?_
        refine OpsL.cons rfl (op_move rfl) ?_
        refine OpsL.nil ?_
        refine Fin.keep [1, 5, 9, 10, 11] [101] (s' := ⟨[(1, I f), (5, .b (.row 101)), (9, .b (.one (.sl 5 (l.map eHolding)))), (10, I (l.length : Int)), (11, I (k + 1))], [(101, .row 45 6 ((out ++ [(⟨f, (idx l k).Peer, 3, (idx l k).Body, (idx l k).Epoch, []⟩ : Parcel)]).map eParcel))]⟩) rfl ?_
        refine Fin.again (out ++ [(⟨f, (idx l k).Peer, 3, (idx l k).Body, (idx l k).Epoch, []⟩ : Parcel)], k + 1) (by exact ⟨by omega, by omega, by rw [letters_step (by omega) (by omega), ← ho]; simp_all [letterOf], by first | omega | (simp only [List.length_append, List.length_cons, List.length_nil]; omega)⟩) (by first | omega | (dsimp only; omega)) rfl
      · try simp only [decide_eq_true_eq, decide_eq_false_iff_not, Bool.and_eq_true, Bool.or_eq_true, Bool.not_eq_true', Bool.not_eq_false', Bool.and_eq_false_iff, Bool.or_eq_false_iff, Int.not_lt, Int.not_le, ne_eq, Decidable.not_not] at hc3
        refine Tri.exit ?_
        refine Fin.block_exit_other (by decide) ?_
        refine Fin.then_exit ?_
        refine Fin.block_exit ?_
        refine Fin.keep [1, 5, 9, 10, 11] [101] (s' := ⟨[(1, I f), (5, .b (.row 101)), (9, .b (.one (.sl 5 (l.map eHolding)))), (10, I (l.length : Int)), (11, I k)], [(101, .row 45 6 (out.map eParcel))]⟩) rfl ?_
        refine Fin.then ?_
        refine Tri.regionL ?_
        refine OpsL.cons rfl (op_add' (inR_i64 (by omega) (by omega)) rfl rfl) ?_
        refine OpsL.cons rfl (op_move rfl) ?_
        refine OpsL.nil ?_
        refine Fin.keep [1, 5, 9, 10, 11] [101] (s' := ⟨[(1, I f), (5, .b (.row 101)), (9, .b (.one (.sl 5 (l.map eHolding)))), (10, I (l.length : Int)), (11, I (k + 1))], [(101, .row 45 6 (out.map eParcel))]⟩) rfl ?_
        refine Fin.again (out, k + 1) (by exact ⟨by omega, by omega, by rw [letters_step (by omega) (by omega), ← ho]; simp_all [letterOf], by first | omega | (simp only [List.length_append, List.length_cons, List.length_nil]; omega)⟩) (by first | omega | (dsimp only; omega)) rfl
  · try simp only [decide_eq_true_eq, decide_eq_false_iff_not, Bool.and_eq_true, Bool.or_eq_true, Bool.not_eq_true', Bool.not_eq_false', Bool.and_eq_false_iff, Bool.or_eq_false_iff, Int.not_lt, Int.not_le, ne_eq, Decidable.not_not] at hc1
    refine Tri.exit ?_
    refine Fin.then_exit ?_
    refine Fin.then_exit ?_
    refine Fin.block_exit ?_
    refine Fin.keep [5] [101] (s' := ⟨[(5, .b (.row 101))], [(101, .row 45 6 (out.map eParcel))]⟩) rfl ?_
    refine Fin.then ?_
    refine Tri.seq ?_
    refine Tri.regionL ?_
    refine OpsL.cons rfl (op_move rfl) ?_
    refine OpsL.cons rfl (op_assign rfl) ?_
    refine OpsL.nilK [4] [101] (s' := ⟨[(4, .b (.row 101))], [(101, .row 45 6 (out.map eParcel))]⟩) rfl ?_
    refine Tri.ret ?_
    refine Fin.keep [4] [101] (s' := ⟨[(4, .b (.row 101))], [(101, .row 45 6 (out.map eParcel))]⟩) rfl ?_
    refine Fin.resultK 101 k0 [.row 101] (.inl rfl) rfl (.cons (.tmp rfl) .nil) rfl rfl rfl rfl ?_
    have e0 : (lettersS f l) = out := by rw [ho, List.take_of_length_le (by omega)]
    rw [e0]
    exact ⟨rfl, rfl⟩

theorem active_spec (k0 : Nat) (l : List Holding) (hlen : l.length ≤ 2000000000000) : Meets Try.prog 37 [] [.one (.sl 5 (l.map eHolding))] (Is [(k0, .row 3 1 ((activeS l).map eI))] (.b (.row k0))) := by
  refine Meets.intro 22 Try.func37 Try.ntmps37 rfl (by simp) fun E => ?_
  show Tri _ E ⟨22, [], []⟩ _ ⟨[(0, .b (.one (.sl 5 (l.map eHolding))))], []⟩ _
  refine Tri.seq ?_
  refine Tri.regionL ?_
  refine OpsL.cons rfl (op_assign rfl) ?_
  refine OpsL.nilK [0] [] (s' := ⟨[(0, .b (.one (.sl 5 (l.map eHolding))))], []⟩) rfl ?_
  refine Tri.seq ?_
  refine Tri.regionL ?_
  refine OpsL.cons rfl (op_assign rfl) ?_
  refine OpsL.nilK [0, 3] [] (s' := ⟨[(0, .b (.one (.sl 5 (l.map eHolding)))), (3, .b (.one (.nil)))], []⟩) rfl ?_
  refine Tri.seq ?_
  refine Tri.seq ?_
  refine Tri.regionL ?_
  refine OpsL.cons rfl (op_move rfl) ?_
  refine OpsL.cons rfl (op_len_e' und42 rfl (List.length_map _)) ?_
  refine OpsL.cons rfl (op_move rfl) ?_
  refine OpsL.nilK [3, 6, 7, 8] [] (s' := ⟨[(3, .b (.one (.nil))), (6, .b (.one (.sl 5 (l.map eHolding)))), (7, I (l.length : Int)), (8, I 0)], []⟩) rfl ?_
  refine Tri.block ?_
  refine Tri.keep [3, 6, 7, 8] [] (s' := ⟨[(3, .b (.one (.nil))), (6, .b (.one (.sl 5 (l.map eHolding)))), (7, I (l.length : Int)), (8, I 0)], []⟩) rfl ?_
  refine Tri.nilrow 3 101 1 3 rfl (by decide) rfl ?_
  refine Tri.keep [3, 6, 7, 8] [101] (s' := ⟨[(3, .b (.row 101)), (6, .b (.one (.sl 5 (l.map eHolding)))), (7, I (l.length : Int)), (8, I 0)], [(101, .row 3 1 ([].map eI))]⟩) rfl ?_
  refine Tri.loop (ι := (List Int) × Int) (fun j => match j with | ⟨out, k⟩ => ⟨[(3, .b (.row 101)), (6, .b (.one (.sl 5 (l.map eHolding)))), (7, I (l.length : Int)), (8, I k)], [(101, .row 3 1 (out.map eI))]⟩) (fun j => match j with | ⟨out, k⟩ => 0 ≤ k ∧ k ≤ l.length ∧ out = activeS (l.take k.toNat) ∧ out.length ≤ k) (fun j => match j with | ⟨out, k⟩ => (l.length - k).toNat) ([], 0) (by exact ⟨by omega, by omega, rfl, by simp⟩) rfl ?_
  rintro ⟨out, k⟩ ⟨h0, h1, ho, hol⟩
  show Tri _ _ _ _ ⟨[(3, .b (.row 101)), (6, .b (.one (.sl 5 (l.map eHolding)))), (7, I (l.length : Int)), (8, I k)], [(101, .row 3 1 (out.map eI))]⟩ _
  refine Tri.seq ?_
  refine Tri.regionL ?_
  refine OpsL.cons rfl (op_lss rfl rfl) ?_
  refine OpsL.nilK [3, 6, 7, 8, 9] [101] (s' := ⟨[(3, .b (.row 101)), (6, .b (.one (.sl 5 (l.map eHolding)))), (7, I (l.length : Int)), (8, I k), (9, B (decide (k < (l.length : Int))))], [(101, .row 3 1 (out.map eI))]⟩) rfl ?_
  refine Tri.seq ?_
  refine Tri.cond rfl (fun hc1 => ?_) (fun hc1 => ?_)
  · try simp only [decide_eq_true_eq, decide_eq_false_iff_not, Bool.and_eq_true, Bool.or_eq_true, Bool.not_eq_true', Bool.not_eq_false', Bool.and_eq_false_iff, Bool.or_eq_false_iff, Int.not_lt, Int.not_le, ne_eq, Decidable.not_not] at hc1
    refine Tri.skip ?_
    refine Fin.keep [3, 6, 7, 8] [101] (s' := ⟨[(3, .b (.row 101)), (6, .b (.one (.sl 5 (l.map eHolding)))), (7, I (l.length : Int)), (8, I k)], [(101, .row 3 1 (out.map eI))]⟩) rfl ?_
    refine Fin.then ?_
    refine Tri.seq ?_
    refine Tri.block ?_
    refine Tri.seq ?_
    refine Tri.regionL ?_
    refine OpsL.cons rfl (op_index_e tySl42 (by omega) (map_idx (by omega) (by omega)) rfl rfl) ?_
    refine OpsL.cons rfl (op_load_e tyAgg59 rfl rfl rfl) ?_
    refine OpsL.cons rfl (op_alloc (k := 102) tyZero59 rfl) ?_
    refine OpsL.cons rfl (op_store_p tyAgg59 rfl rfl rfl rfl (Nat.le_of_ble_eq_true rfl) rfl) ?_
    refine OpsL.nilK [3, 5, 6, 7, 8] [101, 102] (s' := ⟨[(3, .b (.row 101)), (5, .b (.ptr 102 0)), (6, .b (.one (.sl 5 (l.map eHolding)))), (7, I (l.length : Int)), (8, I k)], [(101, .row 3 1 (out.map eI)), (102, .box 59 [.i ((idx l k).Body), .i ((idx l k).Epoch), .i ((idx l k).Phase), .i ((idx l k).Peer), .str ((idx l k).Data)])]⟩) rfl ?_
    refine Tri.seq ?_
    refine Tri.regionL ?_
    refine OpsL.cons rfl (op_field_p tyFld59_2 rfl rfl) ?_
    refine OpsL.cons rfl (op_load_p1 tyOne3 rfl rfl rfl) ?_
    refine OpsL.cons rfl (op_eql rfl rfl) ?_
    refine OpsL.nilK [3, 5, 6, 7, 8, 14] [101, 102] (s' := ⟨[(3, .b (.row 101)), (5, .b (.ptr 102 0)), (6, .b (.one (.sl 5 (l.map eHolding)))), (7, I (l.length : Int)), (8, I k), (14, B (decide (((idx l k).Phase) = 1)))], [(101, .row 3 1 (out.map eI)), (102, .box 59 [.i ((idx l k).Body), .i ((idx l k).Epoch), .i ((idx l k).Phase), .i ((idx l k).Peer), .str ((idx l k).Data)])]⟩) rfl ?_
    refine Tri.cond rfl (fun hc2 => ?_) (fun hc2 => ?_)
    · try simp only [decide_eq_true_eq, decide_eq_false_iff_not, Bool.and_eq_true, Bool.or_eq_true, Bool.not_eq_true', Bool.not_eq_false', Bool.and_eq_false_iff, Bool.or_eq_false_iff, Int.not_lt, Int.not_le, ne_eq, Decidable.not_not] at hc2
      refine Tri.regionL ?_
      refine OpsL.cons rfl (op_move rfl) ?_
      refine OpsL.cons rfl (op_field_p tyFld59_0 rfl rfl) ?_
      refine OpsL.cons rfl (op_load_p1 tyOne3 rfl rfl rfl) ?_
      refine OpsL.cons rfl (op_buildSlice (k := 103) (es := [(idx l k).Body].map eI) tySl22 rfl rfl (uni_map fun _ => rfl) rfl (by decide) (by decide) rfl) ?_
      refine OpsL.cons rfl (op_append_r tySl22 (by simp only [List.length_map, List.length_append, List.length_cons, List.length_nil]; omega) (by simp only [List.length_map, List.length_append, List.length_cons, List.length_nil]; omega) rfl rfl rfl rfl List.map_append.symm rfl) ?_
      refine OpsL.cons rfl (op_assign rfl) ?_
      refine OpsL.nil ?_
      refine Fin.block_normal ?_
      refine Fin.keep [3, 6, 7, 8] [101] (s' := ⟨[(3, .b (.row 101)), (6, .b (.one (.sl 5 (l.map eHolding)))), (7, I (l.length : Int)), (8, I k)], [(101, .row 3 1 ((out ++ [(idx l k).Body]).map eI))]⟩) rfl ?_
      refine Fin.then ?_
      refine Tri.regionL ?_
      refine OpsL.cons rfl (op_add' (inR_i64 (by omega) (by omega)) rfl rfl) ?_
      refine OpsL.cons rfl (op_move rfl) ?_
      refine OpsL.nil ?_
      refine Fin.keep [3, 6, 7, 8] [101] (s' := ⟨[(3, .b (.row 101)), (6, .b (.one (.sl 5 (l.map eHolding)))), (7, I (l.length : Int)), (8, I (k + 1))], [(101, .row 3 1 ((out ++ [(idx l k).Body]).map eI))]⟩) rfl ?_
      refine Fin.again (out ++ [(idx l k).Body], k + 1) (by exact ⟨by omega, by omega, by rw [active_step (by omega) (by omega), ← ho]; simp_all, by first | omega | (simp only [List.length_append, List.length_cons, List.length_nil]; omega)⟩) (by first | omega | (dsimp only; omega)) rfl
    · try simp only [decide_eq_true_eq, decide_eq_false_iff_not, Bool.and_eq_true, Bool.or_eq_true, Bool.not_eq_true', Bool.not_eq_false', Bool.and_eq_false_iff, Bool.or_eq_false_iff, Int.not_lt, Int.not_le, ne_eq, Decidable.not_not] at hc2
      refine Tri.skip ?_
      refine Fin.block_normal ?_
      refine Fin.keep [3, 6, 7, 8] [101] (s' := ⟨[(3, .b (.row 101)), (6, .b (.one (.sl 5 (l.map eHolding)))), (7, I (l.length : Int)), (8, I k)], [(101, .row 3 1 (out.map eI))]⟩) rfl ?_
      refine Fin.then ?_
      refine Tri.regionL ?_
      refine OpsL.cons rfl (op_add' (inR_i64 (by omega) (by omega)) rfl rfl) ?_
      refine OpsL.cons rfl (op_move rfl) ?_
      refine OpsL.nil ?_
      refine Fin.keep [3, 6, 7, 8] [101] (s' := ⟨[(3, .b (.row 101)), (6, .b (.one (.sl 5 (l.map eHolding)))), (7, I (l.length : Int)), (8, I (k + 1))], [(101, .row 3 1 (out.map eI))]⟩) rfl ?_
      refine Fin.again (out, k + 1) (by exact ⟨by omega, by omega, by rw [active_step (by omega) (by omega), ← ho]; simp_all, by first | omega | (simp only [List.length_append, List.length_cons, List.length_nil]; omega)⟩) (by first | omega | (dsimp only; omega)) rfl
  · try simp only [decide_eq_true_eq, decide_eq_false_iff_not, Bool.and_eq_true, Bool.or_eq_true, Bool.not_eq_true', Bool.not_eq_false', Bool.and_eq_false_iff, Bool.or_eq_false_iff, Int.not_lt, Int.not_le, ne_eq, Decidable.not_not] at hc1
    refine Tri.exit ?_
    refine Fin.then_exit ?_
    refine Fin.then_exit ?_
    refine Fin.block_exit ?_
    refine Fin.keep [3] [101] (s' := ⟨[(3, .b (.row 101))], [(101, .row 3 1 (out.map eI))]⟩) rfl ?_
    refine Fin.then ?_
    refine Tri.seq ?_
    refine Tri.regionL ?_
    refine OpsL.cons rfl (op_move rfl) ?_
    refine OpsL.cons rfl (op_assign rfl) ?_
    refine OpsL.nilK [2] [101] (s' := ⟨[(2, .b (.row 101))], [(101, .row 3 1 (out.map eI))]⟩) rfl ?_
    refine Tri.ret ?_
    refine Fin.keep [2] [101] (s' := ⟨[(2, .b (.row 101))], [(101, .row 3 1 (out.map eI))]⟩) rfl ?_
    refine Fin.resultK 101 k0 [.row 101] (.inl rfl) rfl (.cons (.tmp rfl) .nil) rfl rfl rfl rfl ?_
    have e0 : (activeS l) = out := by rw [ho, List.take_of_length_le (by omega)]
    rw [e0]
    exact ⟨rfl, rfl⟩

theorem rules_spec : Meets Try.prog 53 [] [] (Is [] (.b (.one (.sl 2 ([(⟨1, 60⟩ : Rule), (⟨2, 61⟩ : Rule), (⟨3, 62⟩ : Rule), (⟨4, 63⟩ : Rule)].map eRule))))) := by
  refine Meets.intro 6 Try.func53 Try.ntmps53 rfl (by simp) fun E => ?_
  show Tri _ E ⟨6, [], []⟩ _ ⟨[], []⟩ _
  refine Tri.seq ?_
  refine Tri.regionL ?_
  refine OpsL.cons rfl (op_assign rfl) ?_
  refine OpsL.nilK [] [] (s' := ⟨[], []⟩) rfl ?_
  refine Tri.seq ?_
  refine Tri.regionL ?_
  refine OpsL.cons rfl (op_build tyBuild81 rfl rfl) ?_
  refine OpsL.cons rfl (op_build tyBuild81 rfl rfl) ?_
  refine OpsL.cons rfl (op_build tyBuild81 rfl rfl) ?_
  refine OpsL.cons rfl (op_build tyBuild81 rfl rfl) ?_
  refine OpsL.cons rfl (op_buildSlice (k := 101) (es := [(⟨1, 60⟩ : Rule), (⟨2, 61⟩ : Rule), (⟨3, 62⟩ : Rule), (⟨4, 63⟩ : Rule)].map eRule) tySl77 rfl rfl (uni_map fun _ => rfl) rfl (by decide) (by decide) rfl) ?_
  refine OpsL.cons rfl (op_assign rfl) ?_
  refine OpsL.nilK [0] [101] (s' := ⟨[(0, .b (.row 101))], [(101, .row 81 2 ([(⟨1, 60⟩ : Rule), (⟨2, 61⟩ : Rule), (⟨3, 62⟩ : Rule), (⟨4, 63⟩ : Rule)].map eRule))]⟩) rfl ?_
  refine Tri.ret ?_
  refine Fin.keep [0] [101] (s' := ⟨[(0, .b (.row 101))], [(101, .row 81 2 ([(⟨1, 60⟩ : Rule), (⟨2, 61⟩ : Rule), (⟨3, 62⟩ : Rule), (⟨4, 63⟩ : Rule)].map eRule))]⟩) rfl ?_
  refine Fin.persist 101 rfl ?_
  refine Fin.result' [.one (.sl 2 ([(⟨1, 60⟩ : Rule), (⟨2, 61⟩ : Rule), (⟨3, 62⟩ : Rule), (⟨4, 63⟩ : Rule)].map eRule))] (.inl rfl) rfl (.cons (.tmp rfl) .nil) ?_
  exact ⟨rfl, rfl⟩

theorem rule1_spec (h : Holding) (x : Parcel) (m : Bool) : Meets Try.prog 60 [] [.agg (eHolding h), .agg (eParcel x), .one (.bool m)] (Is [] (.tup [.agg (eHolding (ruleH 1 h x m)), .one (.i (ruleK 1 h x m))])) := by
  refine Meets.intro 47 Try.func60 Try.ntmps60 rfl (by simp) fun E => ?_
  show Tri _ E ⟨47, [], []⟩ _ ⟨[(0, .b (.agg [.i h.Body, .i h.Epoch, .i h.Phase, .i h.Peer, .str h.Data])), (1, .b (.agg [.i x.From, .i x.To, .i x.Kind, .i x.Body, .i x.Epoch, .str x.Data])), (2, B m)], []⟩ _
  refine Tri.seq ?_
  refine Tri.regionL ?_
  refine OpsL.cons rfl (op_box (k := 101) rfl rfl) ?_
  refine OpsL.cons rfl (op_box (k := 102) rfl rfl) ?_
  refine OpsL.cons rfl (op_alloc (k := 103) tyZero59 rfl) ?_
  refine OpsL.cons rfl (op_assign rfl) ?_
  refine OpsL.nilK [2, 3, 4, 6] [101, 102, 103] (s' := ⟨[(2, B m), (3, .b (.ptr 101 0)), (4, .b (.ptr 102 0)), (6, .b (.ptr 103 0))], [(101, .box 59 [.i h.Body, .i h.Epoch, .i h.Phase, .i h.Peer, .str h.Data]), (102, .box 45 [.i x.From, .i x.To, .i x.Kind, .i x.Body, .i x.Epoch, .str x.Data]), (103, .box 59 [.i 0, .i 0, .i 0, .i 0, .str []])]⟩) rfl ?_
  refine Tri.seq ?_
  refine Tri.block ?_
  refine Tri.seq ?_
  refine Tri.regionL ?_
  refine OpsL.cons rfl (op_field_p tyFld45_4 rfl rfl) ?_
  refine OpsL.cons rfl (op_load_p1 tyOne3 rfl rfl rfl) ?_
  refine OpsL.cons rfl (op_field_p tyFld59_1 rfl rfl) ?_
  refine OpsL.cons rfl (op_load_p1 tyOne3 rfl rfl rfl) ?_
  refine OpsL.cons rfl (op_gtr rfl rfl) ?_
  refine OpsL.cons rfl (op_move rfl) ?_
  refine OpsL.consG (decide (h.Epoch < x.Epoch)) 99 [] (.plain rfl) (eq_t _) rfl rfl (fun hg1 => trivial) (fun hg1 => (op_field_p tyFld59_2 rfl rfl)) ?_
  refine OpsL.keep [2, 3, 4, 6, 14, 15] [101, 102, 103] (s' := ⟨[(2, B m), (3, .b (.ptr 101 0)), (4, .b (.ptr 102 0)), (6, .b (.ptr 103 0)), (14, B (decide (h.Epoch < x.Epoch))), (15, .opt (decide (h.Epoch < x.Epoch)) (.ptr 101 2))], [(101, .box 59 [.i h.Body, .i h.Epoch, .i h.Phase, .i h.Peer, .str h.Data]), (102, .box 45 [.i x.From, .i x.To, .i x.Kind, .i x.Body, .i x.Epoch, .str x.Data]), (103, .box 59 [.i 0, .i 0, .i 0, .i 0, .str []])]⟩) rfl ?_
  refine OpsL.consG (decide (h.Epoch < x.Epoch)) 99 [15] (.plain rfl) (eq_t _) rfl rfl (fun hg2 => ⟨hg2, trivial⟩) (fun hg2 => (op_load_p1 tyOne3 rfl rfl rfl)) ?_
  refine OpsL.consG (decide (h.Epoch < x.Epoch)) 99 [16] (.plain rfl) (eq_t _) rfl rfl (fun hg3 => ⟨hg3, trivial⟩) (fun hg3 => (op_eql rfl rfl)) ?_
  refine OpsL.consG (decide (h.Epoch < x.Epoch)) 99 [17] (.plain rfl) (eq_t _) rfl rfl (fun hg4 => ⟨hg4, trivial⟩) (fun hg4 => (op_move rfl)) ?_
  refine OpsL.consG ((decide (h.Epoch < x.Epoch)) && !(decide (h.Phase = 0))) 99 [] (.under rfl) (and_f _ _) rfl rfl (fun hg5 => trivial) (fun hg5 => (op_field_p tyFld59_2 rfl rfl)) ?_
  refine OpsL.consG ((decide (h.Epoch < x.Epoch)) && !(decide (h.Phase = 0))) 99 [19] (.under rfl) (and_f _ _) rfl rfl (fun hg6 => ⟨hg6, trivial⟩) (fun hg6 => (op_load_p1 tyOne3 rfl rfl rfl)) ?_
  refine OpsL.consG ((decide (h.Epoch < x.Epoch)) && !(decide (h.Phase = 0))) 99 [20] (.under rfl) (and_f _ _) rfl rfl (fun hg7 => ⟨hg7, trivial⟩) (fun hg7 => (op_eql rfl rfl)) ?_
  refine OpsL.consG (decide (h.Epoch < x.Epoch)) 99 [18] (.plain rfl) (eq_t _) rfl rfl (fun hg8 => ⟨hg8, trivial⟩) (fun hg8 => (op_pick_or (fun e => by first | exact e | (rw [e]; rfl) | simp_all) rfl rfl rfl rfl)) ?_
  refine OpsL.keep [2, 3, 4, 6, 14, 22] [101, 102, 103] (s' := ⟨[(2, B m), (3, .b (.ptr 101 0)), (4, .b (.ptr 102 0)), (6, .b (.ptr 103 0)), (14, B (decide (h.Epoch < x.Epoch))), (22, .opt (decide (h.Epoch < x.Epoch)) (.one (.bool ((decide (h.Phase = 0)) || (decide (h.Phase = 4))))))], [(101, .box 59 [.i h.Body, .i h.Epoch, .i h.Phase, .i h.Peer, .str h.Data]), (102, .box 45 [.i x.From, .i x.To, .i x.Kind, .i x.Body, .i x.Epoch, .str x.Data]), (103, .box 59 [.i 0, .i 0, .i 0, .i 0, .str []])]⟩) rfl ?_
  refine OpsL.consG (decide (h.Epoch < x.Epoch)) 99 [22] (.plain rfl) (eq_t _) rfl rfl (fun hg9 => ⟨hg9, trivial⟩) (fun hg9 => (op_move rfl)) ?_
  refine OpsL.consG ((decide (h.Epoch < x.Epoch)) && !((decide (h.Phase = 0)) || (decide (h.Phase = 4)))) 99 [] (.under rfl) (and_f _ _) rfl rfl (fun hg10 => trivial) (fun hg10 => (op_field_p tyFld59_2 rfl rfl)) ?_
  refine OpsL.consG ((decide (h.Epoch < x.Epoch)) && !((decide (h.Phase = 0)) || (decide (h.Phase = 4)))) 99 [24] (.under rfl) (and_f _ _) rfl rfl (fun hg11 => ⟨hg11, trivial⟩) (fun hg11 => (op_load_p1 tyOne3 rfl rfl rfl)) ?_
  refine OpsL.consG ((decide (h.Epoch < x.Epoch)) && !((decide (h.Phase = 0)) || (decide (h.Phase = 4)))) 99 [25] (.under rfl) (and_f _ _) rfl rfl (fun hg12 => ⟨hg12, trivial⟩) (fun hg12 => (op_eql rfl rfl)) ?_
  refine OpsL.consG (decide (h.Epoch < x.Epoch)) 99 [23] (.plain rfl) (eq_t _) rfl rfl (fun hg13 => ⟨hg13, trivial⟩) (fun hg13 => (op_pick_or (fun e => by first | exact e | (rw [e]; rfl) | simp_all) rfl rfl rfl rfl)) ?_
  refine OpsL.cons rfl (op_pick_and (fun e => by first | exact e | (rw [e]; rfl) | simp_all) rfl rfl rfl rfl) ?_
  refine OpsL.cons rfl (op_assign rfl) ?_
  refine OpsL.nilK [2, 3, 4, 6, 8] [101, 102, 103] (s' := ⟨[(2, B m), (3, .b (.ptr 101 0)), (4, .b (.ptr 102 0)), (6, .b (.ptr 103 0)), (8, B ((decide (h.Epoch < x.Epoch)) && (((decide (h.Phase = 0)) || (decide (h.Phase = 4))) || (decide (h.Phase = 3)))))], [(101, .box 59 [.i h.Body, .i h.Epoch, .i h.Phase, .i h.Peer, .str h.Data]), (102, .box 45 [.i x.From, .i x.To, .i x.Kind, .i x.Body, .i x.Epoch, .str x.Data]), (103, .box 59 [.i 0, .i 0, .i 0, .i 0, .str []])]⟩) rfl ?_
  refine Tri.cond rfl (fun hc14 => ?_) (fun hc14 => ?_)
  · try simp only [decide_eq_true_eq, decide_eq_false_iff_not, Bool.and_eq_true, Bool.or_eq_true, Bool.not_eq_true', Bool.not_eq_false', Bool.and_eq_false_iff, Bool.or_eq_false_iff, Int.not_lt, Int.not_le, ne_eq, Decidable.not_not] at hc14
    refine Tri.seq ?_
    refine Tri.regionL ?_
    refine OpsL.cons rfl (op_field_p tyFld45_3 rfl rfl) ?_
    refine OpsL.cons rfl (op_load_p1 tyOne3 rfl rfl rfl) ?_
    refine OpsL.cons rfl (op_field_p tyFld45_4 rfl rfl) ?_
    refine OpsL.cons rfl (op_load_p1 tyOne3 rfl rfl rfl) ?_
    refine OpsL.cons rfl (op_field_p tyFld45_0 rfl rfl) ?_
    refine OpsL.cons rfl (op_load_p1 tyOne3 rfl rfl rfl) ?_
    refine OpsL.cons rfl (op_field_p tyFld45_5 rfl rfl) ?_
    refine OpsL.keep [6, 30, 32, 34, 35] [102, 103] (s' := ⟨[(6, .b (.ptr 103 0)), (30, I x.Body), (32, I x.Epoch), (34, I x.From), (35, .b (.ptr 102 5))], [(102, .box 45 [.i x.From, .i x.To, .i x.Kind, .i x.Body, .i x.Epoch, .str x.Data]), (103, .box 59 [.i 0, .i 0, .i 0, .i 0, .str []])]⟩) rfl ?_
    refine OpsL.cons rfl (op_load_p1 tyOne9 rfl rfl rfl) ?_
    refine OpsL.cons rfl (op_build tyBuild59 rfl rfl) ?_
    refine OpsL.cons rfl (op_store_p tyAgg59 rfl rfl rfl rfl (Nat.le_of_ble_eq_true rfl) rfl) ?_
    refine OpsL.cons rfl (op_assign rfl) ?_
    refine OpsL.nilK [6, 7] [103] (s' := ⟨[(6, .b (.ptr 103 0)), (7, I 2)], [(103, .box 59 [.i x.Body, .i x.Epoch, .i 4, .i x.From, .str x.Data])]⟩) rfl ?_
    refine Tri.ret ?_
    refine Fin.block_ret ?_
    refine Fin.then_ret ?_
    refine Fin.keep [6, 7] [103] (s' := ⟨[(6, .b (.ptr 103 0)), (7, I 2)], [(103, .box 59 [.i x.Body, .i x.Epoch, .i 4, .i x.From, .str x.Data])]⟩) rfl ?_
    refine Fin.result' [.agg [.i x.Body, .i x.Epoch, .i 4, .i x.From, .str x.Data], .one (.i 2)] (.inl rfl) rfl (.cons (.agg tyAgg59 rfl rfl rfl rfl) (.cons (.tmp rfl) .nil)) ?_
    have e0 : (ruleH 1 h x m) = (⟨x.Body, x.Epoch, 4, x.From, x.Data⟩ : Holding) := by (cases m <;> simp only [ruleH, ruleK] <;> (repeat' split) <;> first | rfl | (exfalso; simp_all; done) | (exfalso; simp_all <;> omega))
    rw [e0]
    have e1 : (ruleK 1 h x m) = 2 := by (cases m <;> simp only [ruleH, ruleK] <;> (repeat' split) <;> first | rfl | (exfalso; simp_all; done) | (exfalso; simp_all <;> omega))
    rw [e1]
    exact ⟨rfl, rfl⟩
  · try simp only [decide_eq_true_eq, decide_eq_false_iff_not, Bool.and_eq_true, Bool.or_eq_true, Bool.not_eq_true', Bool.not_eq_false', Bool.and_eq_false_iff, Bool.or_eq_false_iff, Int.not_lt, Int.not_le, ne_eq, Decidable.not_not] at hc14
    refine Tri.seq ?_
    refine Tri.regionL ?_
    refine OpsL.cons rfl (op_field_p tyFld59_2 rfl rfl) ?_
    refine OpsL.cons rfl (op_load_p1 tyOne3 rfl rfl rfl) ?_
    refine OpsL.cons rfl (op_eql rfl rfl) ?_
    refine OpsL.cons rfl (op_move rfl) ?_
    refine OpsL.consG (decide (h.Phase = 4)) 99 [] (.plain rfl) (eq_t _) rfl rfl (fun hg15 => trivial) (fun hg15 => (op_move rfl)) ?_
    refine OpsL.cons rfl (op_pick_and (fun e => by first | exact e | (rw [e]; rfl) | simp_all) rfl rfl rfl rfl) ?_
    refine OpsL.cons rfl (op_assign rfl) ?_
    refine OpsL.nilK [3, 6, 38] [101, 103] (s' := ⟨[(3, .b (.ptr 101 0)), (6, .b (.ptr 103 0)), (38, B ((decide (h.Phase = 4)) && m))], [(101, .box 59 [.i h.Body, .i h.Epoch, .i h.Phase, .i h.Peer, .str h.Data]), (103, .box 59 [.i 0, .i 0, .i 0, .i 0, .str []])]⟩) rfl ?_
    refine Tri.cond rfl (fun hc16 => ?_) (fun hc16 => ?_)
    · try simp only [decide_eq_true_eq, decide_eq_false_iff_not, Bool.and_eq_true, Bool.or_eq_true, Bool.not_eq_true', Bool.not_eq_false', Bool.and_eq_false_iff, Bool.or_eq_false_iff, Int.not_lt, Int.not_le, ne_eq, Decidable.not_not] at hc16
      refine Tri.seq ?_
      refine Tri.regionL ?_
      refine OpsL.cons rfl (op_load_p tyAgg59 rfl rfl rfl rfl) ?_
      refine OpsL.cons rfl (op_store_p tyAgg59 rfl rfl rfl rfl (Nat.le_of_ble_eq_true rfl) rfl) ?_
      refine OpsL.cons rfl (op_assign rfl) ?_
      refine OpsL.nilK [6, 7] [103] (s' := ⟨[(6, .b (.ptr 103 0)), (7, I 2)], [(103, .box 59 [.i h.Body, .i h.Epoch, .i h.Phase, .i h.Peer, .str h.Data])]⟩) rfl ?_
      refine Tri.ret ?_
      refine Fin.block_ret ?_
      refine Fin.then_ret ?_
      refine Fin.keep [6, 7] [103] (s' := ⟨[(6, .b (.ptr 103 0)), (7, I 2)], [(103, .box 59 [.i h.Body, .i h.Epoch, .i h.Phase, .i h.Peer, .str h.Data])]⟩) rfl ?_
      refine Fin.result' [.agg [.i h.Body, .i h.Epoch, .i h.Phase, .i h.Peer, .str h.Data], .one (.i 2)] (.inl rfl) rfl (.cons (.agg tyAgg59 rfl rfl rfl rfl) (.cons (.tmp rfl) .nil)) ?_
      have e0 : (ruleH 1 h x m) = h := by (cases m <;> simp only [ruleH, ruleK] <;> (repeat' split) <;> first | rfl | (exfalso; simp_all; done) | (exfalso; simp_all <;> omega))
      rw [e0]
      have e1 : (ruleK 1 h x m) = 2 := by (cases m <;> simp only [ruleH, ruleK] <;> (repeat' split) <;> first | rfl | (exfalso; simp_all; done) | (exfalso; simp_all <;> omega))
      rw [e1]
      exact ⟨rfl, rfl⟩
    · try simp only [decide_eq_true_eq, decide_eq_false_iff_not, Bool.and_eq_true, Bool.or_eq_true, Bool.not_eq_true', Bool.not_eq_false', Bool.and_eq_false_iff, Bool.or_eq_false_iff, Int.not_lt, Int.not_le, ne_eq, Decidable.not_not] at hc16
      refine Tri.skip ?_
      refine Fin.block_normal ?_
      refine Fin.keep [3, 6] [101, 103] (s' := ⟨[(3, .b (.ptr 101 0)), (6, .b (.ptr 103 0))], [(101, .box 59 [.i h.Body, .i h.Epoch, .i h.Phase, .i h.Peer, .str h.Data]), (103, .box 59 [.i 0, .i 0, .i 0, .i 0, .str []])]⟩) rfl ?_
      refine Fin.then ?_
      refine Tri.seq ?_
      refine Tri.regionL ?_
      refine OpsL.cons rfl (op_load_p tyAgg59 rfl rfl rfl rfl) ?_
      refine OpsL.cons rfl (op_store_p tyAgg59 rfl rfl rfl rfl (Nat.le_of_ble_eq_true rfl) rfl) ?_
      refine OpsL.cons rfl (op_assign rfl) ?_
      refine OpsL.nilK [6, 7] [103] (s' := ⟨[(6, .b (.ptr 103 0)), (7, I 0)], [(103, .box 59 [.i h.Body, .i h.Epoch, .i h.Phase, .i h.Peer, .str h.Data])]⟩) rfl ?_
      refine Tri.ret ?_
      refine Fin.keep [6, 7] [103] (s' := ⟨[(6, .b (.ptr 103 0)), (7, I 0)], [(103, .box 59 [.i h.Body, .i h.Epoch, .i h.Phase, .i h.Peer, .str h.Data])]⟩) rfl ?_
      refine Fin.result' [.agg [.i h.Body, .i h.Epoch, .i h.Phase, .i h.Peer, .str h.Data], .one (.i 0)] (.inl rfl) rfl (.cons (.agg tyAgg59 rfl rfl rfl rfl) (.cons (.tmp rfl) .nil)) ?_
      have e0 : (ruleH 1 h x m) = h := by (cases m <;> simp only [ruleH, ruleK] <;> (repeat' split) <;> first | rfl | (exfalso; simp_all; done) | (exfalso; simp_all <;> omega))
      rw [e0]
      have e1 : (ruleK 1 h x m) = 0 := by (cases m <;> simp only [ruleH, ruleK] <;> (repeat' split) <;> first | rfl | (exfalso; simp_all; done) | (exfalso; simp_all <;> omega))
      rw [e1]
      exact ⟨rfl, rfl⟩

theorem rule2_spec (h : Holding) (x : Parcel) (m : Bool) : Meets Try.prog 61 [] [.agg (eHolding h), .agg (eParcel x), .one (.bool m)] (Is [] (.tup [.agg (eHolding (ruleH 2 h x m)), .one (.i (ruleK 2 h x m))])) := by
  refine Meets.intro 18 Try.func61 Try.ntmps61 rfl (by simp) fun E => ?_
  show Tri _ E ⟨18, [], []⟩ _ ⟨[(0, .b (.agg [.i h.Body, .i h.Epoch, .i h.Phase, .i h.Peer, .str h.Data])), (1, .b (.agg [.i x.From, .i x.To, .i x.Kind, .i x.Body, .i x.Epoch, .str x.Data])), (2, B m)], []⟩ _
  refine Tri.seq ?_
  refine Tri.regionL ?_
  refine OpsL.cons rfl (op_box (k := 101) rfl rfl) ?_
  refine OpsL.cons rfl (op_box (k := 102) rfl rfl) ?_
  refine OpsL.cons rfl (op_alloc (k := 103) tyZero59 rfl) ?_
  refine OpsL.cons rfl (op_assign rfl) ?_
  refine OpsL.nilK [2, 3, 6] [101, 103] (s' := ⟨[(2, B m), (3, .b (.ptr 101 0)), (6, .b (.ptr 103 0))], [(101, .box 59 [.i h.Body, .i h.Epoch, .i h.Phase, .i h.Peer, .str h.Data]), (103, .box 59 [.i 0, .i 0, .i 0, .i 0, .str []])]⟩) rfl ?_
  refine Tri.seq ?_
  refine Tri.seq ?_
  refine Tri.regionL ?_
  refine OpsL.cons rfl (op_field_p tyFld59_2 rfl rfl) ?_
  refine OpsL.cons rfl (op_load_p1 tyOne3 rfl rfl rfl) ?_
  refine OpsL.cons rfl (op_neq rfl rfl) ?_
  refine OpsL.cons rfl (op_move rfl) ?_
  refine OpsL.consG (!(decide (h.Phase ≠ 2))) 99 [] (.plain rfl) (eq_f _) rfl rfl (fun hg1 => trivial) (fun hg1 => (op_move rfl)) ?_
  refine OpsL.consG (!(decide (h.Phase ≠ 2))) 99 [12] (.plain rfl) (eq_f _) rfl rfl (fun hg2 => ⟨hg2, trivial⟩) (fun hg2 => (op_not rfl)) ?_
  refine OpsL.cons rfl (op_pick_or (fun e => by first | exact e | (rw [e]; rfl) | simp_all) rfl rfl rfl rfl) ?_
  refine OpsL.nilK [3, 6, 14] [101, 103] (s' := ⟨[(3, .b (.ptr 101 0)), (6, .b (.ptr 103 0)), (14, B ((decide (h.Phase ≠ 2)) || (!m)))], [(101, .box 59 [.i h.Body, .i h.Epoch, .i h.Phase, .i h.Peer, .str h.Data]), (103, .box 59 [.i 0, .i 0, .i 0, .i 0, .str []])]⟩) rfl ?_
  refine Tri.cond rfl (fun hc3 => ?_) (fun hc3 => ?_)
  · try simp only [decide_eq_true_eq, decide_eq_false_iff_not, Bool.and_eq_true, Bool.or_eq_true, Bool.not_eq_true', Bool.not_eq_false', Bool.and_eq_false_iff, Bool.or_eq_false_iff, Int.not_lt, Int.not_le, ne_eq, Decidable.not_not] at hc3
    refine Tri.seq ?_
    refine Tri.regionL ?_
    refine OpsL.cons rfl (op_load_p tyAgg59 rfl rfl rfl rfl) ?_
    refine OpsL.cons rfl (op_store_p tyAgg59 rfl rfl rfl rfl (Nat.le_of_ble_eq_true rfl) rfl) ?_
    refine OpsL.cons rfl (op_assign rfl) ?_
    refine OpsL.nilK [6, 7] [103] (s' := ⟨[(6, .b (.ptr 103 0)), (7, I 0)], [(103, .box 59 [.i h.Body, .i h.Epoch, .i h.Phase, .i h.Peer, .str h.Data])]⟩) rfl ?_
    refine Tri.ret ?_
    refine Fin.then_ret ?_
    refine Fin.keep [6, 7] [103] (s' := ⟨[(6, .b (.ptr 103 0)), (7, I 0)], [(103, .box 59 [.i h.Body, .i h.Epoch, .i h.Phase, .i h.Peer, .str h.Data])]⟩) rfl ?_
    refine Fin.result' [.agg [.i h.Body, .i h.Epoch, .i h.Phase, .i h.Peer, .str h.Data], .one (.i 0)] (.inl rfl) rfl (.cons (.agg tyAgg59 rfl rfl rfl rfl) (.cons (.tmp rfl) .nil)) ?_
    have e0 : (ruleH 2 h x m) = h := by (cases m <;> simp only [ruleH, ruleK] <;> (repeat' split) <;> first | rfl | (exfalso; simp_all; done) | (exfalso; simp_all <;> omega))
    rw [e0]
    have e1 : (ruleK 2 h x m) = 0 := by (cases m <;> simp only [ruleH, ruleK] <;> (repeat' split) <;> first | rfl | (exfalso; simp_all; done) | (exfalso; simp_all <;> omega))
    rw [e1]
    exact ⟨rfl, rfl⟩
  · try simp only [decide_eq_true_eq, decide_eq_false_iff_not, Bool.and_eq_true, Bool.or_eq_true, Bool.not_eq_true', Bool.not_eq_false', Bool.and_eq_false_iff, Bool.or_eq_false_iff, Int.not_lt, Int.not_le, ne_eq, Decidable.not_not] at hc3
    refine Tri.skip ?_
    refine Fin.keep [3, 6] [101, 103] (s' := ⟨[(3, .b (.ptr 101 0)), (6, .b (.ptr 103 0))], [(101, .box 59 [.i h.Body, .i h.Epoch, .i h.Phase, .i h.Peer, .str h.Data]), (103, .box 59 [.i 0, .i 0, .i 0, .i 0, .str []])]⟩) rfl ?_
    refine Fin.then ?_
    refine Tri.seq ?_
    refine Tri.regionL ?_
    refine OpsL.cons rfl (op_field_p tyFld59_2 rfl rfl) ?_
    refine OpsL.cons rfl (op_store_p1 tyOne3 rfl rfl rfl (Nat.le_of_ble_eq_true rfl) rfl) ?_
    refine OpsL.nilK [3, 6] [101, 103] (s' := ⟨[(3, .b (.ptr 101 0)), (6, .b (.ptr 103 0))], [(101, .box 59 [.i h.Body, .i h.Epoch, .i 3, .i h.Peer, .str h.Data]), (103, .box 59 [.i 0, .i 0, .i 0, .i 0, .str []])]⟩) rfl ?_
    refine Tri.seq ?_
    refine Tri.regionL ?_
    refine OpsL.cons rfl (op_load_p tyAgg59 rfl rfl rfl rfl) ?_
    refine OpsL.cons rfl (op_store_p tyAgg59 rfl rfl rfl rfl (Nat.le_of_ble_eq_true rfl) rfl) ?_
    refine OpsL.cons rfl (op_assign rfl) ?_
    refine OpsL.nilK [6, 7] [103] (s' := ⟨[(6, .b (.ptr 103 0)), (7, I 3)], [(103, .box 59 [.i h.Body, .i h.Epoch, .i 3, .i h.Peer, .str h.Data])]⟩) rfl ?_
    refine Tri.ret ?_
    refine Fin.keep [6, 7] [103] (s' := ⟨[(6, .b (.ptr 103 0)), (7, I 3)], [(103, .box 59 [.i h.Body, .i h.Epoch, .i 3, .i h.Peer, .str h.Data])]⟩) rfl ?_
    refine Fin.result' [.agg [.i h.Body, .i h.Epoch, .i 3, .i h.Peer, .str h.Data], .one (.i 3)] (.inl rfl) rfl (.cons (.agg tyAgg59 rfl rfl rfl rfl) (.cons (.tmp rfl) .nil)) ?_
    have e0 : (ruleH 2 h x m) = (⟨h.Body, h.Epoch, 3, h.Peer, h.Data⟩ : Holding) := by (cases m <;> simp only [ruleH, ruleK] <;> (repeat' split) <;> first | rfl | (exfalso; simp_all; done) | (exfalso; simp_all <;> omega))
    rw [e0]
    have e1 : (ruleK 2 h x m) = 3 := by (cases m <;> simp only [ruleH, ruleK] <;> (repeat' split) <;> first | rfl | (exfalso; simp_all; done) | (exfalso; simp_all <;> omega))
    rw [e1]
    exact ⟨rfl, rfl⟩

theorem rule3_spec (h : Holding) (x : Parcel) (m : Bool) : Meets Try.prog 62 [] [.agg (eHolding h), .agg (eParcel x), .one (.bool m)] (Is [] (.tup [.agg (eHolding (ruleH 3 h x m)), .one (.i (ruleK 3 h x m))])) := by
  refine Meets.intro 38 Try.func62 Try.ntmps62 rfl (by simp) fun E => ?_
  show Tri _ E ⟨38, [], []⟩ _ ⟨[(0, .b (.agg [.i h.Body, .i h.Epoch, .i h.Phase, .i h.Peer, .str h.Data])), (1, .b (.agg [.i x.From, .i x.To, .i x.Kind, .i x.Body, .i x.Epoch, .str x.Data])), (2, B m)], []⟩ _
  refine Tri.seq ?_
  refine Tri.regionL ?_
  refine OpsL.cons rfl (op_box (k := 101) rfl rfl) ?_
  refine OpsL.cons rfl (op_box (k := 102) rfl rfl) ?_
  refine OpsL.cons rfl (op_alloc (k := 103) tyZero59 rfl) ?_
  refine OpsL.cons rfl (op_assign rfl) ?_
  refine OpsL.nilK [2, 3, 4, 6] [101, 102, 103] (s' := ⟨[(2, B m), (3, .b (.ptr 101 0)), (4, .b (.ptr 102 0)), (6, .b (.ptr 103 0))], [(101, .box 59 [.i h.Body, .i h.Epoch, .i h.Phase, .i h.Peer, .str h.Data]), (102, .box 45 [.i x.From, .i x.To, .i x.Kind, .i x.Body, .i x.Epoch, .str x.Data]), (103, .box 59 [.i 0, .i 0, .i 0, .i 0, .str []])]⟩) rfl ?_
  refine Tri.seq ?_
  refine Tri.block ?_
  refine Tri.seq ?_
  refine Tri.regionL ?_
  refine OpsL.cons rfl (op_field_p tyFld59_2 rfl rfl) ?_
  refine OpsL.cons rfl (op_load_p1 tyOne3 rfl rfl rfl) ?_
  refine OpsL.cons rfl (op_eql rfl rfl) ?_
  refine OpsL.cons rfl (op_move rfl) ?_
  refine OpsL.consG (decide (h.Phase = 4)) 99 [] (.plain rfl) (eq_t _) rfl rfl (fun hg1 => trivial) (fun hg1 => (op_move rfl)) ?_
  refine OpsL.cons rfl (op_pick_and (fun e => by first | exact e | (rw [e]; rfl) | simp_all) rfl rfl rfl rfl) ?_
  refine OpsL.cons rfl (op_assign rfl) ?_
  refine OpsL.nilK [3, 4, 6, 8] [101, 102, 103] (s' := ⟨[(3, .b (.ptr 101 0)), (4, .b (.ptr 102 0)), (6, .b (.ptr 103 0)), (8, B ((decide (h.Phase = 4)) && m))], [(101, .box 59 [.i h.Body, .i h.Epoch, .i h.Phase, .i h.Peer, .str h.Data]), (102, .box 45 [.i x.From, .i x.To, .i x.Kind, .i x.Body, .i x.Epoch, .str x.Data]), (103, .box 59 [.i 0, .i 0, .i 0, .i 0, .str []])]⟩) rfl ?_
  refine Tri.cond rfl (fun hc2 => ?_) (fun hc2 => ?_)
  · try simp only [decide_eq_true_eq, decide_eq_false_iff_not, Bool.and_eq_true, Bool.or_eq_true, Bool.not_eq_true', Bool.not_eq_false', Bool.and_eq_false_iff, Bool.or_eq_false_iff, Int.not_lt, Int.not_le, ne_eq, Decidable.not_not] at hc2
    refine Tri.seq ?_
    refine Tri.regionL ?_
    refine OpsL.cons rfl (op_field_p tyFld59_2 rfl rfl) ?_
    refine OpsL.cons rfl (op_store_p1 tyOne3 rfl rfl rfl (Nat.le_of_ble_eq_true rfl) rfl) ?_
    refine OpsL.cons rfl (op_field_p tyFld59_3 rfl rfl) ?_
    refine OpsL.cons rfl (op_store_p1 tyOne3 rfl rfl rfl (Nat.le_of_ble_eq_true rfl) rfl) ?_
    refine OpsL.nilK [3, 6] [101, 103] (s' := ⟨[(3, .b (.ptr 101 0)), (6, .b (.ptr 103 0))], [(101, .box 59 [.i h.Body, .i h.Epoch, .i 1, .i 0, .str h.Data]), (103, .box 59 [.i 0, .i 0, .i 0, .i 0, .str []])]⟩) rfl ?_
    refine Tri.seq ?_
    refine Tri.regionL ?_
    refine OpsL.cons rfl (op_load_p tyAgg59 rfl rfl rfl rfl) ?_
    refine OpsL.cons rfl (op_store_p tyAgg59 rfl rfl rfl rfl (Nat.le_of_ble_eq_true rfl) rfl) ?_
    refine OpsL.cons rfl (op_assign rfl) ?_
    refine OpsL.nilK [6, 7] [103] (s' := ⟨[(6, .b (.ptr 103 0)), (7, I 4)], [(103, .box 59 [.i h.Body, .i h.Epoch, .i 1, .i 0, .str h.Data])]⟩) rfl ?_
    refine Tri.ret ?_
    refine Fin.block_ret ?_
    refine Fin.then_ret ?_
    refine Fin.keep [6, 7] [103] (s' := ⟨[(6, .b (.ptr 103 0)), (7, I 4)], [(103, .box 59 [.i h.Body, .i h.Epoch, .i 1, .i 0, .str h.Data])]⟩) rfl ?_
    refine Fin.result' [.agg [.i h.Body, .i h.Epoch, .i 1, .i 0, .str h.Data], .one (.i 4)] (.inl rfl) rfl (.cons (.agg tyAgg59 rfl rfl rfl rfl) (.cons (.tmp rfl) .nil)) ?_
    have e0 : (ruleH 3 h x m) = (⟨h.Body, h.Epoch, 1, 0, h.Data⟩ : Holding) := by (cases m <;> simp only [ruleH, ruleK] <;> (repeat' split) <;> first | rfl | (exfalso; simp_all; done) | (exfalso; simp_all <;> omega))
    rw [e0]
    have e1 : (ruleK 3 h x m) = 4 := by (cases m <;> simp only [ruleH, ruleK] <;> (repeat' split) <;> first | rfl | (exfalso; simp_all; done) | (exfalso; simp_all <;> omega))
    rw [e1]
    exact ⟨rfl, rfl⟩
  · try simp only [decide_eq_true_eq, decide_eq_false_iff_not, Bool.and_eq_true, Bool.or_eq_true, Bool.not_eq_true', Bool.not_eq_false', Bool.and_eq_false_iff, Bool.or_eq_false_iff, Int.not_lt, Int.not_le, ne_eq, Decidable.not_not] at hc2
    refine Tri.seq ?_
    refine Tri.regionL ?_
    refine OpsL.cons rfl (op_field_p tyFld59_1 rfl rfl) ?_
    refine OpsL.cons rfl (op_load_p1 tyOne3 rfl rfl rfl) ?_
    refine OpsL.cons rfl (op_field_p tyFld45_4 rfl rfl) ?_
    refine OpsL.cons rfl (op_load_p1 tyOne3 rfl rfl rfl) ?_
    refine OpsL.cons rfl (op_gtr rfl rfl) ?_
    refine OpsL.cons rfl (op_move rfl) ?_
    refine OpsL.consG (!(decide (x.Epoch < h.Epoch))) 99 [] (.plain rfl) (eq_f _) rfl rfl (fun hg3 => trivial) (fun hg3 => (op_field_p tyFld59_1 rfl rfl)) ?_
    refine OpsL.keep [3, 4, 6, 24, 25] [101, 102, 103] (s' := ⟨[(3, .b (.ptr 101 0)), (4, .b (.ptr 102 0)), (6, .b (.ptr 103 0)), (24, B (decide (x.Epoch < h.Epoch))), (25, .opt (!(decide (x.Epoch < h.Epoch))) (.ptr 101 1))], [(101, .box 59 [.i h.Body, .i h.Epoch, .i h.Phase, .i h.Peer, .str h.Data]), (102, .box 45 [.i x.From, .i x.To, .i x.Kind, .i x.Body, .i x.Epoch, .str x.Data]), (103, .box 59 [.i 0, .i 0, .i 0, .i 0, .str []])]⟩) rfl ?_
    refine OpsL.consG (!(decide (x.Epoch < h.Epoch))) 99 [25] (.plain rfl) (eq_f _) rfl rfl (fun hg4 => ⟨hg4, trivial⟩) (fun hg4 => (op_load_p1 tyOne3 rfl rfl rfl)) ?_
    refine OpsL.consG (!(decide (x.Epoch < h.Epoch))) 99 [] (.plain rfl) (eq_f _) rfl rfl (fun hg5 => trivial) (fun hg5 => (op_field_p tyFld45_4 rfl rfl)) ?_
    refine OpsL.consG (!(decide (x.Epoch < h.Epoch))) 99 [27] (.plain rfl) (eq_f _) rfl rfl (fun hg6 => ⟨hg6, trivial⟩) (fun hg6 => (op_load_p1 tyOne3 rfl rfl rfl)) ?_
    refine OpsL.consG (!(decide (x.Epoch < h.Epoch))) 99 [26, 28] (.plain rfl) (eq_f _) rfl rfl (fun hg7 => ⟨hg7, hg7, trivial⟩) (fun hg7 => (op_eql rfl rfl)) ?_
    refine OpsL.consG (!(decide (x.Epoch < h.Epoch))) 99 [29] (.plain rfl) (eq_f _) rfl rfl (fun hg8 => ⟨hg8, trivial⟩) (fun hg8 => (op_move rfl)) ?_
    refine OpsL.consG ((!(decide (x.Epoch < h.Epoch))) && (decide (h.Epoch = x.Epoch))) 99 [] (.under rfl) (and_t _ _) rfl rfl (fun hg9 => trivial) (fun hg9 => (op_field_p tyFld59_2 rfl rfl)) ?_
    refine OpsL.consG ((!(decide (x.Epoch < h.Epoch))) && (decide (h.Epoch = x.Epoch))) 99 [31] (.under rfl) (and_t _ _) rfl rfl (fun hg10 => ⟨hg10, trivial⟩) (fun hg10 => (op_load_p1 tyOne3 rfl rfl rfl)) ?_
    refine OpsL.keep [3, 6, 24, 30, 32] [101, 103] (s' := ⟨[(3, .b (.ptr 101 0)), (6, .b (.ptr 103 0)), (24, B (decide (x.Epoch < h.Epoch))), (30, .opt (!(decide (x.Epoch < h.Epoch))) (.one (.bool (decide (h.Epoch = x.Epoch))))), (32, .opt ((!(decide (x.Epoch < h.Epoch))) && (decide (h.Epoch = x.Epoch))) (.one (.i h.Phase)))], [(101, .box 59 [.i h.Body, .i h.Epoch, .i h.Phase, .i h.Peer, .str h.Data]), (103, .box 59 [.i 0, .i 0, .i 0, .i 0, .str []])]⟩) rfl ?_
    refine OpsL.consG ((!(decide (x.Epoch < h.Epoch))) && (decide (h.Epoch = x.Epoch))) 99 [32] (.under rfl) (and_t _ _) rfl rfl (fun hg11 => ⟨hg11, trivial⟩) (fun hg11 => (op_neq rfl rfl)) ?_
    refine OpsL.consG (!(decide (x.Epoch < h.Epoch))) 99 [30] (.plain rfl) (eq_f _) rfl rfl (fun hg12 => ⟨hg12, trivial⟩) (fun hg12 => (op_pick_and (fun e => by first | exact e | (rw [e]; rfl) | simp_all) rfl rfl rfl rfl)) ?_
    refine OpsL.cons rfl (op_pick_or (fun e => by first | exact e | (rw [e]; rfl) | simp_all) rfl rfl rfl rfl) ?_
    refine OpsL.cons rfl (op_assign rfl) ?_
    refine OpsL.nilK [3, 6, 18] [101, 103] (s' := ⟨[(3, .b (.ptr 101 0)), (6, .b (.ptr 103 0)), (18, B ((decide (x.Epoch < h.Epoch)) || ((decide (h.Epoch = x.Epoch)) && (decide (h.Phase ≠ 4)))))], [(101, .box 59 [.i h.Body, .i h.Epoch, .i h.Phase, .i h.Peer, .str h.Data]), (103, .box 59 [.i 0, .i 0, .i 0, .i 0, .str []])]⟩) rfl ?_
    refine Tri.cond rfl (fun hc13 => ?_) (fun hc13 => ?_)
    · try simp only [decide_eq_true_eq, decide_eq_false_iff_not, Bool.and_eq_true, Bool.or_eq_true, Bool.not_eq_true', Bool.not_eq_false', Bool.and_eq_false_iff, Bool.or_eq_false_iff, Int.not_lt, Int.not_le, ne_eq, Decidable.not_not] at hc13
      refine Tri.seq ?_
      refine Tri.regionL ?_
      refine OpsL.cons rfl (op_load_p tyAgg59 rfl rfl rfl rfl) ?_
      refine OpsL.cons rfl (op_store_p tyAgg59 rfl rfl rfl rfl (Nat.le_of_ble_eq_true rfl) rfl) ?_
      refine OpsL.cons rfl (op_assign rfl) ?_
      refine OpsL.nilK [6, 7] [103] (s' := ⟨[(6, .b (.ptr 103 0)), (7, I 4)], [(103, .box 59 [.i h.Body, .i h.Epoch, .i h.Phase, .i h.Peer, .str h.Data])]⟩) rfl ?_
      refine Tri.ret ?_
      refine Fin.block_ret ?_
      refine Fin.then_ret ?_
      refine Fin.keep [6, 7] [103] (s' := ⟨[(6, .b (.ptr 103 0)), (7, I 4)], [(103, .box 59 [.i h.Body, .i h.Epoch, .i h.Phase, .i h.Peer, .str h.Data])]⟩) rfl ?_
      refine Fin.result' [.agg [.i h.Body, .i h.Epoch, .i h.Phase, .i h.Peer, .str h.Data], .one (.i 4)] (.inl rfl) rfl (.cons (.agg tyAgg59 rfl rfl rfl rfl) (.cons (.tmp rfl) .nil)) ?_
      have e0 : (ruleH 3 h x m) = h := by (cases m <;> simp only [ruleH, ruleK] <;> (repeat' split) <;> first | rfl | (exfalso; simp_all; done) | (exfalso; simp_all <;> omega))
      rw [e0]
      have e1 : (ruleK 3 h x m) = 4 := by (cases m <;> simp only [ruleH, ruleK] <;> (repeat' split) <;> first | rfl | (exfalso; simp_all; done) | (exfalso; simp_all <;> omega))
      rw [e1]
      exact ⟨rfl, rfl⟩
    · try simp only [decide_eq_true_eq, decide_eq_false_iff_not, Bool.and_eq_true, Bool.or_eq_true, Bool.not_eq_true', Bool.not_eq_false', Bool.and_eq_false_iff, Bool.or_eq_false_iff, Int.not_lt, Int.not_le, ne_eq, Decidable.not_not] at hc13
      refine Tri.skip ?_
      refine Fin.block_normal ?_
      refine Fin.keep [3, 6] [101, 103] (s' := ⟨[(3, .b (.ptr 101 0)), (6, .b (.ptr 103 0))], [(101, .box 59 [.i h.Body, .i h.Epoch, .i h.Phase, .i h.Peer, .str h.Data]), (103, .box 59 [.i 0, .i 0, .i 0, .i 0, .str []])]⟩) rfl ?_
      refine Fin.then ?_
      refine Tri.seq ?_
      refine Tri.regionL ?_
      refine OpsL.cons rfl (op_load_p tyAgg59 rfl rfl rfl rfl) ?_
      refine OpsL.cons rfl (op_store_p tyAgg59 rfl rfl rfl rfl (Nat.le_of_ble_eq_true rfl) rfl) ?_
      refine OpsL.cons rfl (op_assign rfl) ?_
      refine OpsL.nilK [6, 7] [103] (s' := ⟨[(6, .b (.ptr 103 0)), (7, I 0)], [(103, .box 59 [.i h.Body, .i h.Epoch, .i h.Phase, .i h.Peer, .str h.Data])]⟩) rfl ?_
      refine Tri.ret ?_
      refine Fin.keep [6, 7] [103] (s' := ⟨[(6, .b (.ptr 103 0)), (7, I 0)], [(103, .box 59 [.i h.Body, .i h.Epoch, .i h.Phase, .i h.Peer, .str h.Data])]⟩) rfl ?_
      refine Fin.result' [.agg [.i h.Body, .i h.Epoch, .i h.Phase, .i h.Peer, .str h.Data], .one (.i 0)] (.inl rfl) rfl (.cons (.agg tyAgg59 rfl rfl rfl rfl) (.cons (.tmp rfl) .nil)) ?_
      have e0 : (ruleH 3 h x m) = h := by (cases m <;> simp only [ruleH, ruleK] <;> (repeat' split) <;> first | rfl | (exfalso; simp_all; done) | (exfalso; simp_all <;> omega))
      rw [e0]
      have e1 : (ruleK 3 h x m) = 0 := by (cases m <;> simp only [ruleH, ruleK] <;> (repeat' split) <;> first | rfl | (exfalso; simp_all; done) | (exfalso; simp_all <;> omega))
      rw [e1]
      exact ⟨rfl, rfl⟩

theorem rule4_spec (h : Holding) (x : Parcel) (m : Bool) : Meets Try.prog 63 [] [.agg (eHolding h), .agg (eParcel x), .one (.bool m)] (Is [] (.tup [.agg (eHolding (ruleH 4 h x m)), .one (.i (ruleK 4 h x m))])) := by
  refine Meets.intro 20 Try.func63 Try.ntmps63 rfl (by simp) fun E => ?_
  show Tri _ E ⟨20, [], []⟩ _ ⟨[(0, .b (.agg [.i h.Body, .i h.Epoch, .i h.Phase, .i h.Peer, .str h.Data])), (1, .b (.agg [.i x.From, .i x.To, .i x.Kind, .i x.Body, .i x.Epoch, .str x.Data])), (2, B m)], []⟩ _
  refine Tri.seq ?_
  refine Tri.regionL ?_
  refine OpsL.cons rfl (op_box (k := 101) rfl rfl) ?_
  refine OpsL.cons rfl (op_box (k := 102) rfl rfl) ?_
  refine OpsL.cons rfl (op_alloc (k := 103) tyZero59 rfl) ?_
  refine OpsL.cons rfl (op_assign rfl) ?_
  refine OpsL.nilK [2, 3, 6] [101, 103] (s' := ⟨[(2, B m), (3, .b (.ptr 101 0)), (6, .b (.ptr 103 0))], [(101, .box 59 [.i h.Body, .i h.Epoch, .i h.Phase, .i h.Peer, .str h.Data]), (103, .box 59 [.i 0, .i 0, .i 0, .i 0, .str []])]⟩) rfl ?_
  refine Tri.seq ?_
  refine Tri.seq ?_
  refine Tri.regionL ?_
  refine OpsL.cons rfl (op_field_p tyFld59_2 rfl rfl) ?_
  refine OpsL.cons rfl (op_load_p1 tyOne3 rfl rfl rfl) ?_
  refine OpsL.cons rfl (op_eql rfl rfl) ?_
  refine OpsL.cons rfl (op_move rfl) ?_
  refine OpsL.consG (decide (h.Phase = 3)) 99 [] (.plain rfl) (eq_t _) rfl rfl (fun hg1 => trivial) (fun hg1 => (op_move rfl)) ?_
  refine OpsL.cons rfl (op_pick_and (fun e => by first | exact e | (rw [e]; rfl) | simp_all) rfl rfl rfl rfl) ?_
  refine OpsL.nilK [3, 6, 13] [101, 103] (s' := ⟨[(3, .b (.ptr 101 0)), (6, .b (.ptr 103 0)), (13, B ((decide (h.Phase = 3)) && m))], [(101, .box 59 [.i h.Body, .i h.Epoch, .i h.Phase, .i h.Peer, .str h.Data]), (103, .box 59 [.i 0, .i 0, .i 0, .i 0, .str []])]⟩) rfl ?_
  refine Tri.cond rfl (fun hc2 => ?_) (fun hc2 => ?_)
  · try simp only [decide_eq_true_eq, decide_eq_false_iff_not, Bool.and_eq_true, Bool.or_eq_true, Bool.not_eq_true', Bool.not_eq_false', Bool.and_eq_false_iff, Bool.or_eq_false_iff, Int.not_lt, Int.not_le, ne_eq, Decidable.not_not] at hc2
    refine Tri.seq ?_
    refine Tri.regionL ?_
    refine OpsL.cons rfl (op_field_p tyFld59_0 rfl rfl) ?_
    refine OpsL.cons rfl (op_load_p1 tyOne3 rfl rfl rfl) ?_
    refine OpsL.cons rfl (op_field_p tyFld59_1 rfl rfl) ?_
    refine OpsL.cons rfl (op_load_p1 tyOne3 rfl rfl rfl) ?_
    refine OpsL.cons rfl (op_build tyBuild59 rfl rfl) ?_
    refine OpsL.cons rfl (op_store_p tyAgg59 rfl rfl rfl rfl (Nat.le_of_ble_eq_true rfl) rfl) ?_
    refine OpsL.cons rfl (op_assign rfl) ?_
    refine OpsL.nilK [6, 7] [103] (s' := ⟨[(6, .b (.ptr 103 0)), (7, I 0)], [(103, .box 59 [.i h.Body, .i h.Epoch, .i 0, .i 0, .str []])]⟩) rfl ?_
    refine Tri.ret ?_
    refine Fin.then_ret ?_
    refine Fin.keep [6, 7] [103] (s' := ⟨[(6, .b (.ptr 103 0)), (7, I 0)], [(103, .box 59 [.i h.Body, .i h.Epoch, .i 0, .i 0, .str []])]⟩) rfl ?_
    refine Fin.result' [.agg [.i h.Body, .i h.Epoch, .i 0, .i 0, .str []], .one (.i 0)] (.inl rfl) rfl (.cons (.agg tyAgg59 rfl rfl rfl rfl) (.cons (.tmp rfl) .nil)) ?_
    have e0 : (ruleH 4 h x m) = (⟨h.Body, h.Epoch, 0, 0, []⟩ : Holding) := by (cases m <;> simp only [ruleH, ruleK] <;> (repeat' split) <;> first | rfl | (exfalso; simp_all; done) | (exfalso; simp_all <;> omega))
    rw [e0]
    have e1 : (ruleK 4 h x m) = 0 := by (cases m <;> simp only [ruleH, ruleK] <;> (repeat' split) <;> first | rfl | (exfalso; simp_all; done) | (exfalso; simp_all <;> omega))
    rw [e1]
    exact ⟨rfl, rfl⟩
  · try simp only [decide_eq_true_eq, decide_eq_false_iff_not, Bool.and_eq_true, Bool.or_eq_true, Bool.not_eq_true', Bool.not_eq_false', Bool.and_eq_false_iff, Bool.or_eq_false_iff, Int.not_lt, Int.not_le, ne_eq, Decidable.not_not] at hc2
    refine Tri.skip ?_
    refine Fin.keep [3, 6] [101, 103] (s' := ⟨[(3, .b (.ptr 101 0)), (6, .b (.ptr 103 0))], [(101, .box 59 [.i h.Body, .i h.Epoch, .i h.Phase, .i h.Peer, .str h.Data]), (103, .box 59 [.i 0, .i 0, .i 0, .i 0, .str []])]⟩) rfl ?_
    refine Fin.then ?_
    refine Tri.seq ?_
    refine Tri.regionL ?_
    refine OpsL.cons rfl (op_load_p tyAgg59 rfl rfl rfl rfl) ?_
    refine OpsL.cons rfl (op_store_p tyAgg59 rfl rfl rfl rfl (Nat.le_of_ble_eq_true rfl) rfl) ?_
    refine OpsL.cons rfl (op_assign rfl) ?_
    refine OpsL.nilK [6, 7] [103] (s' := ⟨[(6, .b (.ptr 103 0)), (7, I 0)], [(103, .box 59 [.i h.Body, .i h.Epoch, .i h.Phase, .i h.Peer, .str h.Data])]⟩) rfl ?_
    refine Tri.ret ?_
    refine Fin.keep [6, 7] [103] (s' := ⟨[(6, .b (.ptr 103 0)), (7, I 0)], [(103, .box 59 [.i h.Body, .i h.Epoch, .i h.Phase, .i h.Peer, .str h.Data])]⟩) rfl ?_
    refine Fin.result' [.agg [.i h.Body, .i h.Epoch, .i h.Phase, .i h.Peer, .str h.Data], .one (.i 0)] (.inl rfl) rfl (.cons (.agg tyAgg59 rfl rfl rfl rfl) (.cons (.tmp rfl) .nil)) ?_
    have e0 : (ruleH 4 h x m) = h := by (cases m <;> simp only [ruleH, ruleK] <;> (repeat' split) <;> first | rfl | (exfalso; simp_all; done) | (exfalso; simp_all <;> omega))
    rw [e0]
    have e1 : (ruleK 4 h x m) = 0 := by (cases m <;> simp only [ruleH, ruleK] <;> (repeat' split) <;> first | rfl | (exfalso; simp_all; done) | (exfalso; simp_all <;> omega))
    rw [e1]
    exact ⟨rfl, rfl⟩

end Go.Proofs.Ytipepglcceogiaa
