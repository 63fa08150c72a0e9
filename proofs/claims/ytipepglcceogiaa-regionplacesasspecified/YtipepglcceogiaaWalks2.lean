/- Printed by a program of the prover's (s41.py): the walks of chapter 41. -/
import Derived.Test.YtipepglcceogiaaRows
import Derived.Test.YtipepglcceogiaaPlain
import Derived.Test.YtipepglcceogiaaWalks1
namespace Go.Proofs.Ytipepglcceogiaa
open Go.Sk
set_option maxHeartbeats 1000000
set_option maxRecDepth 4000
set_option linter.unusedSimpArgs false
set_option linter.unusedVariables false
set_option maxHeartbeats 4000000 in
theorem receive_spec (l : List Holding) (a : Int) (x : Parcel) (hlen : l.length ≤ 2000000000000) (hs : setOk l x.Body) (hs2 : setOk l (getP l x.Body).Body) : Meets Try.prog 32 [] [.one (.sl 5 (l.map eHolding)), .one (.i a), .agg (eParcel x)] (Is [] (.tup [.one (.sl 5 ((recvL l a x).map eHolding)), .one (.sl 6 ((recvP l a x).map eParcel))])) := by
  refine Meets.intro 108 Try.func32 Try.ntmps32 rfl (by simp) fun E => ?_
  show Tri _ E ⟨108, [], []⟩ _ ⟨[(0, .b (.one (.sl 5 (l.map eHolding)))), (1, I a), (2, .b (.agg [.i x.From, .i x.To, .i x.Kind, .i x.Body, .i x.Epoch, .str x.Data]))], []⟩ _
  refine Tri.seq ?_
  refine Tri.regionL ?_
  refine OpsL.cons rfl (op_box (k := 101) rfl rfl) ?_
  refine OpsL.cons rfl (op_assign rfl) ?_
  refine OpsL.cons rfl (op_assign rfl) ?_
  refine OpsL.nilK [0, 1, 5] [101] (s' := ⟨[(0, .b (.one (.sl 5 (l.map eHolding)))), (1, I a), (5, .b (.ptr 101 0))], [(101, .box 45 [.i x.From, .i x.To, .i x.Kind, .i x.Body, .i x.Epoch, .str x.Data])]⟩) rfl ?_
  refine Tri.seq ?_
  refine Tri.seq ?_
  refine Tri.regionL ?_
  refine OpsL.cons rfl (op_field_p tyFld45_1 rfl rfl) ?_
  refine OpsL.cons rfl (op_load_p1 tyOne3 rfl rfl rfl) ?_
  refine OpsL.cons rfl (op_move rfl) ?_
  refine OpsL.cons rfl (op_neq rfl rfl) ?_
  refine OpsL.cons rfl (op_move rfl) ?_
  refine OpsL.consG (!(decide (x.To ≠ a))) 99 [] (.plain rfl) (eq_f _) rfl rfl (fun hg1 => trivial) (fun hg1 => (op_field_p tyFld45_0 rfl rfl)) ?_
  refine OpsL.consG (!(decide (x.To ≠ a))) 99 [19] (.plain rfl) (eq_f _) rfl rfl (fun hg2 => ⟨hg2, trivial⟩) (fun hg2 => (op_load_p1 tyOne3 rfl rfl rfl)) ?_
  refine OpsL.keep [0, 1, 5, 18, 20] [101] (s' := ⟨[(0, .b (.one (.sl 5 (l.map eHolding)))), (1, I a), (5, .b (.ptr 101 0)), (18, B (decide (x.To ≠ a))), (20, .opt (!(decide (x.To ≠ a))) (.one (.i x.From)))], [(101, .box 45 [.i x.From, .i x.To, .i x.Kind, .i x.Body, .i x.Epoch, .str x.Data])]⟩) rfl ?_
  refine OpsL.consG (!(decide (x.To ≠ a))) 99 [20] (.plain rfl) (eq_f _) rfl rfl (fun hg3 => ⟨hg3, trivial⟩) (fun hg3 => by first | (simp only [decide_eq_true_eq, decide_eq_false_iff_not, Bool.and_eq_true, Bool.or_eq_true, Bool.not_eq_true', Bool.not_eq_false', Bool.and_eq_false_iff, Bool.or_eq_false_iff, Int.not_lt, Int.not_le, ne_eq, Decidable.not_not] at hg3; exact op_call0 (node_spec x.From) goes47 rfl rfl) | exact op_call0 (node_spec x.From) goes47 rfl rfl) ?_
  refine OpsL.consG (!(decide (x.To ≠ a))) 99 [21] (.plain rfl) (eq_f _) rfl rfl (fun hg4 => ⟨hg4, trivial⟩) (fun hg4 => (op_not rfl)) ?_
  refine OpsL.cons rfl (op_pick_or (fun e => by first | exact e | (rw [e]; rfl) | simp_all) rfl rfl rfl rfl) ?_
  refine OpsL.cons rfl (op_move rfl) ?_
  refine OpsL.consG (!((decide (x.To ≠ a)) || (!(nodeS x.From)))) 99 [] (.plain rfl) (eq_f _) rfl rfl (fun hg5 => trivial) (fun hg5 => (op_field_p tyFld45_0 rfl rfl)) ?_
  refine OpsL.consG (!((decide (x.To ≠ a)) || (!(nodeS x.From)))) 99 [25] (.plain rfl) (eq_f _) rfl rfl (fun hg6 => ⟨hg6, trivial⟩) (fun hg6 => (op_load_p1 tyOne3 rfl rfl rfl)) ?_
  refine OpsL.consG (!((decide (x.To ≠ a)) || (!(nodeS x.From)))) 99 [] (.plain rfl) (eq_f _) rfl rfl (fun hg7 => trivial) (fun hg7 => (op_move rfl)) ?_
  refine OpsL.keep [0, 1, 5, 24, 26, 27] [101] (s' := ⟨[(0, .b (.one (.sl 5 (l.map eHolding)))), (1, I a), (5, .b (.ptr 101 0)), (24, B ((decide (x.To ≠ a)) || (!(nodeS x.From)))), (26, .opt (!((decide (x.To ≠ a)) || (!(nodeS x.From)))) (.one (.i x.From))), (27, .opt (!((decide (x.To ≠ a)) || (!(nodeS x.From)))) (.one (.i a)))], [(101, .box 45 [.i x.From, .i x.To, .i x.Kind, .i x.Body, .i x.Epoch, .str x.Data])]⟩) rfl ?_
  refine OpsL.consG (!((decide (x.To ≠ a)) || (!(nodeS x.From)))) 99 [26, 27] (.plain rfl) (eq_f _) rfl rfl (fun hg8 => ⟨hg8, hg8, trivial⟩) (fun hg8 => (op_eql rfl rfl)) ?_
  refine OpsL.cons rfl (op_pick_or (fun e => by first | exact e | (rw [e]; rfl) | simp_all) rfl rfl rfl rfl) ?_
  refine OpsL.cons rfl (op_move rfl) ?_
  refine OpsL.consG (!(((decide (x.To ≠ a)) || (!(nodeS x.From))) || (decide (x.From = a)))) 99 [] (.plain rfl) (eq_f _) rfl rfl (fun hg9 => trivial) (fun hg9 => (op_field_p tyFld45_3 rfl rfl)) ?_
  refine OpsL.consG (!(((decide (x.To ≠ a)) || (!(nodeS x.From))) || (decide (x.From = a)))) 99 [31] (.plain rfl) (eq_f _) rfl rfl (fun hg10 => ⟨hg10, trivial⟩) (fun hg10 => (op_load_p1 tyOne3 rfl rfl rfl)) ?_
  refine OpsL.consG (!(((decide (x.To ≠ a)) || (!(nodeS x.From))) || (decide (x.From = a)))) 99 [32] (.plain rfl) (eq_f _) rfl rfl (fun hg11 => ⟨hg11, trivial⟩) (fun hg11 => by first | (simp only [decide_eq_true_eq, decide_eq_false_iff_not, Bool.and_eq_true, Bool.or_eq_true, Bool.not_eq_true', Bool.not_eq_false', Bool.and_eq_false_iff, Bool.or_eq_false_iff, Int.not_lt, Int.not_le, ne_eq, Decidable.not_not] at hg11; exact op_call0 (known_spec x.Body) goes44 rfl rfl) | exact op_call0 (known_spec x.Body) goes44 rfl rfl) ?_
  refine OpsL.consG (!(((decide (x.To ≠ a)) || (!(nodeS x.From))) || (decide (x.From = a)))) 99 [33] (.plain rfl) (eq_f _) rfl rfl (fun hg12 => ⟨hg12, trivial⟩) (fun hg12 => (op_not rfl)) ?_
  refine OpsL.keep [0, 1, 5, 30, 34] [101] (s' := ⟨[(0, .b (.one (.sl 5 (l.map eHolding)))), (1, I a), (5, .b (.ptr 101 0)), (30, B (((decide (x.To ≠ a)) || (!(nodeS x.From))) || (decide (x.From = a)))), (34, .opt (!(((decide (x.To ≠ a)) || (!(nodeS x.From))) || (decide (x.From = a)))) (.one (.bool (!(knownS x.Body)))))], [(101, .box 45 [.i x.From, .i x.To, .i x.Kind, .i x.Body, .i x.Epoch, .str x.Data])]⟩) rfl ?_
  refine OpsL.cons rfl (op_pick_or (fun e => by first | exact e | (rw [e]; rfl) | simp_all) rfl rfl rfl rfl) ?_
  refine OpsL.cons rfl (op_move rfl) ?_
  refine OpsL.consG (!((((decide (x.To ≠ a)) || (!(nodeS x.From))) || (decide (x.From = a))) || (!(knownS x.Body)))) 99 [] (.plain rfl) (eq_f _) rfl rfl (fun hg13 => trivial) (fun hg13 => (op_field_p tyFld45_4 rfl rfl)) ?_
  refine OpsL.consG (!((((decide (x.To ≠ a)) || (!(nodeS x.From))) || (decide (x.From = a))) || (!(knownS x.Body)))) 99 [37] (.plain rfl) (eq_f _) rfl rfl (fun hg14 => ⟨hg14, trivial⟩) (fun hg14 => (op_load_p1 tyOne3 rfl rfl rfl)) ?_
  refine OpsL.consG (!((((decide (x.To ≠ a)) || (!(nodeS x.From))) || (decide (x.From = a))) || (!(knownS x.Body)))) 99 [38] (.plain rfl) (eq_f _) rfl rfl (fun hg15 => ⟨hg15, trivial⟩) (fun hg15 => (op_lss rfl rfl)) ?_
  refine OpsL.cons rfl (op_pick_or (fun e => by first | exact e | (rw [e]; rfl) | simp_all) rfl rfl rfl rfl) ?_
  refine OpsL.cons rfl (op_move rfl) ?_
  refine OpsL.keep [0, 1, 5, 41] [101] (s' := ⟨[(0, .b (.one (.sl 5 (l.map eHolding)))), (1, I a), (5, .b (.ptr 101 0)), (41, B (((((decide (x.To ≠ a)) || (!(nodeS x.From))) || (decide (x.From = a))) || (!(knownS x.Body))) || (decide (x.Epoch < 1))))], [(101, .box 45 [.i x.From, .i x.To, .i x.Kind, .i x.Body, .i x.Epoch, .str x.Data])]⟩) rfl ?_
  refine OpsL.consG (!(((((decide (x.To ≠ a)) || (!(nodeS x.From))) || (decide (x.From = a))) || (!(knownS x.Body))) || (decide (x.Epoch < 1)))) 99 [] (.plain rfl) (eq_f _) rfl rfl (fun hg16 => trivial) (fun hg16 => (op_field_p tyFld45_4 rfl rfl)) ?_
  refine OpsL.consG (!(((((decide (x.To ≠ a)) || (!(nodeS x.From))) || (decide (x.From = a))) || (!(knownS x.Body))) || (decide (x.Epoch < 1)))) 99 [42] (.plain rfl) (eq_f _) rfl rfl (fun hg17 => ⟨hg17, trivial⟩) (fun hg17 => (op_load_p1 tyOne3 rfl rfl rfl)) ?_
  refine OpsL.consG (!(((((decide (x.To ≠ a)) || (!(nodeS x.From))) || (decide (x.From = a))) || (!(knownS x.Body))) || (decide (x.Epoch < 1)))) 99 [43] (.plain rfl) (eq_f _) rfl rfl (fun hg18 => ⟨hg18, trivial⟩) (fun hg18 => (op_gtr rfl rfl)) ?_
  refine OpsL.cons rfl (op_pick_or (fun e => by first | exact e | (rw [e]; rfl) | simp_all) rfl rfl rfl rfl) ?_
  refine OpsL.nilK [0, 1, 5, 45] [101] (s' := ⟨[(0, .b (.one (.sl 5 (l.map eHolding)))), (1, I a), (5, .b (.ptr 101 0)), (45, B ((((((decide (x.To ≠ a)) || (!(nodeS x.From))) || (decide (x.From = a))) || (!(knownS x.Body))) || (decide (x.Epoch < 1))) || (decide (1099511627776 < x.Epoch))))], [(101, .box 45 [.i x.From, .i x.To, .i x.Kind, .i x.Body, .i x.Epoch, .str x.Data])]⟩) rfl ?_
  refine Tri.cond rfl (fun hc19 => ?_) (fun hc19 => ?_)
  · try simp only [decide_eq_true_eq, decide_eq_false_iff_not, Bool.and_eq_true, Bool.or_eq_true, Bool.not_eq_true', Bool.not_eq_false', Bool.and_eq_false_iff, Bool.or_eq_false_iff, Int.not_lt, Int.not_le, ne_eq, Decidable.not_not] at hc19
    have hb : recvBad a x = true := by simp_all [recvBad]
    refine Tri.seq ?_
    refine Tri.regionL ?_
    refine OpsL.cons rfl (op_move rfl) ?_
    refine OpsL.cons rfl (op_call (clone_spec 102 l (by omega)) goes52 rfl trivial rfl rfl) ?_
    refine OpsL.cons rfl (op_assign rfl) ?_
    refine OpsL.cons rfl (op_assign rfl) ?_
    refine OpsL.nilK [6, 7] [102] (s' := ⟨[(6, .b (.row 102)), (7, .b (.one (.nil)))], [(102, .row 59 5 (l.map eHolding))]⟩) rfl ?_
    refine Tri.ret ?_
    refine Fin.then_ret ?_
    refine Fin.keep [6, 7] [102] (s' := ⟨[(6, .b (.row 102)), (7, .b (.one (.nil)))], [(102, .row 59 5 (l.map eHolding))]⟩) rfl ?_
    refine Fin.persist 102 rfl ?_
    refine Fin.nilsl 7 6 rfl (by decide) ?_
    refine Fin.result' [.one (.sl 5 (l.map eHolding)), .one (.sl 6 ([].map eParcel))] (.inl rfl) rfl (.cons (.tmp rfl) (.cons (.tmp rfl) .nil)) ?_
    have e0 : (recvL l a x) = l := by first | exact recvL_bad hb | exact recvP_bad hb
    rw [e0]
    have e1 : (recvP l a x) = [] := by first | exact recvL_bad hb | exact recvP_bad hb
    rw [e1]
    exact ⟨rfl, rfl⟩
  · try simp only [decide_eq_true_eq, decide_eq_false_iff_not, Bool.and_eq_true, Bool.or_eq_true, Bool.not_eq_true', Bool.not_eq_false', Bool.and_eq_false_iff, Bool.or_eq_false_iff, Int.not_lt, Int.not_le, ne_eq, Decidable.not_not] at hc19
    have hb : recvBad a x = false := by simp_all [recvBad]
    refine Tri.skip ?_
    refine Fin.keep [0, 1, 5] [101] (s' := ⟨[(0, .b (.one (.sl 5 (l.map eHolding)))), (1, I a), (5, .b (.ptr 101 0))], [(101, .box 45 [.i x.From, .i x.To, .i x.Kind, .i x.Body, .i x.Epoch, .str x.Data])]⟩) rfl ?_
    refine Fin.then ?_
    refine Tri.seq ?_
    refine Tri.regionL ?_
    refine OpsL.cons rfl (op_move rfl) ?_
    refine OpsL.cons rfl (op_field_p tyFld45_3 rfl rfl) ?_
    refine OpsL.cons rfl (op_load_p1 tyOne3 rfl rfl rfl) ?_
    refine OpsL.cons rfl (op_call0 (get_spec l x.Body (by omega)) goes30 rfl rfl) ?_
    refine OpsL.cons rfl (op_alloc (k := 103) tyZero59 rfl) ?_
    refine OpsL.cons rfl (op_store_p tyAgg59 rfl rfl rfl rfl (Nat.le_of_ble_eq_true rfl) rfl) ?_
    refine OpsL.nilK [0, 1, 5, 8] [101, 103] (s' := ⟨[(0, .b (.one (.sl 5 (l.map eHolding)))), (1, I a), (5, .b (.ptr 101 0)), (8, .b (.ptr 103 0))], [(101, .box 45 [.i x.From, .i x.To, .i x.Kind, .i x.Body, .i x.Epoch, .str x.Data]), (103, .box 59 [.i ((getP l x.Body).Body), .i ((getP l x.Body).Epoch), .i ((getP l x.Body).Phase), .i ((getP l x.Body).Peer), .str ((getP l x.Body).Data)])]⟩) rfl ?_
    refine Tri.seq ?_
    refine Tri.seq ?_
    refine Tri.regionL ?_
    refine OpsL.cons rfl (op_call0 (rules_spec) goes53 rfl rfl) ?_
    refine OpsL.cons rfl (op_len_e' (m := 4) und77 rfl rfl) ?_
    refine OpsL.cons rfl (op_move rfl) ?_
    refine OpsL.nilK [0, 1, 5, 8, 52, 53, 54] [101, 103] (s' := ⟨[(0, .b (.one (.sl 5 (l.map eHolding)))), (1, I a), (5, .b (.ptr 101 0)), (8, .b (.ptr 103 0)), (52, .b (.one (.sl 2 ([(⟨1, 60⟩ : Rule), (⟨2, 61⟩ : Rule), (⟨3, 62⟩ : Rule), (⟨4, 63⟩ : Rule)].map eRule)))), (53, I 4), (54, I 0)], [(101, .box 45 [.i x.From, .i x.To, .i x.Kind, .i x.Body, .i x.Epoch, .str x.Data]), (103, .box 59 [.i ((getP l x.Body).Body), .i ((getP l x.Body).Epoch), .i ((getP l x.Body).Phase), .i ((getP l x.Body).Peer), .str ((getP l x.Body).Data)])]⟩) rfl ?_
    refine Tri.block ?_
    refine Tri.keep [0, 1, 5, 8, 52, 53, 54] [101, 103] (s' := ⟨[(0, .b (.one (.sl 5 (l.map eHolding)))), (1, I a), (5, .b (.ptr 101 0)), (8, .b (.ptr 103 0)), (52, .b (.one (.sl 2 ([(⟨1, 60⟩ : Rule), (⟨2, 61⟩ : Rule), (⟨3, 62⟩ : Rule), (⟨4, 63⟩ : Rule)].map eRule)))), (53, I 4), (54, I 0)], [(101, .box 45 [.i x.From, .i x.To, .i x.Kind, .i x.Body, .i x.Epoch, .str x.Data]), (103, .box 59 [.i ((getP l x.Body).Body), .i ((getP l x.Body).Epoch), .i ((getP l x.Body).Phase), .i ((getP l x.Body).Peer), .str ((getP l x.Body).Data)])]⟩) rfl ?_
    refine Tri.loop (ι := Int) (fun k => ⟨[(0, .b (.one (.sl 5 (l.map eHolding)))), (1, I a), (5, .b (.ptr 101 0)), (8, .b (.ptr 103 0)), (52, .b (.one (.sl 2 ([(⟨1, 60⟩ : Rule), (⟨2, 61⟩ : Rule), (⟨3, 62⟩ : Rule), (⟨4, 63⟩ : Rule)].map eRule)))), (53, I 4), (54, I k)], [(101, .box 45 [.i x.From, .i x.To, .i x.Kind, .i x.Body, .i x.Epoch, .str x.Data]), (103, .box 59 [.i ((getP l x.Body).Body), .i ((getP l x.Body).Epoch), .i ((getP l x.Body).Phase), .i ((getP l x.Body).Peer), .str ((getP l x.Body).Data)])]⟩) (fun k => 0 ≤ k ∧ k ≤ 4 ∧ ∀ j, 1 ≤ j → j ≤ k → x.Kind ≠ j) (fun k => (4 - k).toNat) 0 (by exact ⟨by omega, by omega, fun j _ _ => by omega⟩) rfl ?_
    rintro k ⟨h0, h1, hne⟩
    show Tri _ _ _ _ ⟨[(0, .b (.one (.sl 5 (l.map eHolding)))), (1, I a), (5, .b (.ptr 101 0)), (8, .b (.ptr 103 0)), (52, .b (.one (.sl 2 ([(⟨1, 60⟩ : Rule), (⟨2, 61⟩ : Rule), (⟨3, 62⟩ : Rule), (⟨4, 63⟩ : Rule)].map eRule)))), (53, I 4), (54, I k)], [(101, .box 45 [.i x.From, .i x.To, .i x.Kind, .i x.Body, .i x.Epoch, .str x.Data]), (103, .box 59 [.i ((getP l x.Body).Body), .i ((getP l x.Body).Epoch), .i ((getP l x.Body).Phase), .i ((getP l x.Body).Peer), .str ((getP l x.Body).Data)])]⟩ _
    have hun : k = 0 ∨ k = 1 ∨ k = 2 ∨ k = 3 ∨ k = 4 := by omega
    rcases hun with rfl | rfl | rfl | rfl | rfl
    · show Tri _ _ _ _ ⟨[(0, .b (.one (.sl 5 (l.map eHolding)))), (1, I a), (5, .b (.ptr 101 0)), (8, .b (.ptr 103 0)), (52, .b (.one (.sl 2 ([(⟨1, 60⟩ : Rule), (⟨2, 61⟩ : Rule), (⟨3, 62⟩ : Rule), (⟨4, 63⟩ : Rule)].map eRule)))), (53, I 4), (54, I 0)], [(101, .box 45 [.i x.From, .i x.To, .i x.Kind, .i x.Body, .i x.Epoch, .str x.Data]), (103, .box 59 [.i ((getP l x.Body).Body), .i ((getP l x.Body).Epoch), .i ((getP l x.Body).Phase), .i ((getP l x.Body).Peer), .str ((getP l x.Body).Data)])]⟩ _
      refine Tri.seq ?_
      refine Tri.regionL ?_
      refine OpsL.cons rfl (op_lss rfl rfl) ?_
      refine OpsL.nilK [0, 1, 5, 8, 52, 53, 54, 55] [101, 103] (s' := ⟨[(0, .b (.one (.sl 5 (l.map eHolding)))), (1, I a), (5, .b (.ptr 101 0)), (8, .b (.ptr 103 0)), (52, .b (.one (.sl 2 ([(⟨1, 60⟩ : Rule), (⟨2, 61⟩ : Rule), (⟨3, 62⟩ : Rule), (⟨4, 63⟩ : Rule)].map eRule)))), (53, I 4), (54, I 0), (55, B true)], [(101, .box 45 [.i x.From, .i x.To, .i x.Kind, .i x.Body, .i x.Epoch, .str x.Data]), (103, .box 59 [.i ((getP l x.Body).Body), .i ((getP l x.Body).Epoch), .i ((getP l x.Body).Phase), .i ((getP l x.Body).Peer), .str ((getP l x.Body).Data)])]⟩) rfl ?_
      refine Tri.seq ?_
      refine Tri.cond rfl (fun hc20 => ?_) (fun hc20 => ?_)
      · try simp only [decide_eq_true_eq, decide_eq_false_iff_not, Bool.and_eq_true, Bool.or_eq_true, Bool.not_eq_true', Bool.not_eq_false', Bool.and_eq_false_iff, Bool.or_eq_false_iff, Int.not_lt, Int.not_le, ne_eq, Decidable.not_not] at hc20
        refine Tri.skip ?_
        refine Fin.keep [0, 1, 5, 8, 52, 53, 54] [101, 103] (s' := ⟨[(0, .b (.one (.sl 5 (l.map eHolding)))), (1, I a), (5, .b (.ptr 101 0)), (8, .b (.ptr 103 0)), (52, .b (.one (.sl 2 ([(⟨1, 60⟩ : Rule), (⟨2, 61⟩ : Rule), (⟨3, 62⟩ : Rule), (⟨4, 63⟩ : Rule)].map eRule)))), (53, I 4), (54, I 0)], [(101, .box 45 [.i x.From, .i x.To, .i x.Kind, .i x.Body, .i x.Epoch, .str x.Data]), (103, .box 59 [.i ((getP l x.Body).Body), .i ((getP l x.Body).Epoch), .i ((getP l x.Body).Phase), .i ((getP l x.Body).Peer), .str ((getP l x.Body).Data)])]⟩) rfl ?_
        refine Fin.then ?_
        refine Tri.seq ?_
        refine Tri.block ?_
        refine Tri.seq ?_
        refine Tri.regionL ?_
        refine OpsL.cons rfl (op_index_e tySl77 (by decide) rfl rfl rfl) ?_
        refine OpsL.cons rfl (op_load_e tyAgg81 rfl rfl rfl) ?_
        refine OpsL.cons rfl (op_alloc (k := 104) tyZero81 rfl) ?_
        refine OpsL.cons rfl (op_store_p tyAgg81 rfl rfl rfl rfl (Nat.le_of_ble_eq_true rfl) rfl) ?_
        refine OpsL.nilK [0, 1, 5, 8, 10, 52, 53, 54] [101, 103, 104] (s' := ⟨[(0, .b (.one (.sl 5 (l.map eHolding)))), (1, I a), (5, .b (.ptr 101 0)), (8, .b (.ptr 103 0)), (10, .b (.ptr 104 0)), (52, .b (.one (.sl 2 ([(⟨1, 60⟩ : Rule), (⟨2, 61⟩ : Rule), (⟨3, 62⟩ : Rule), (⟨4, 63⟩ : Rule)].map eRule)))), (53, I 4), (54, I 0)], [(101, .box 45 [.i x.From, .i x.To, .i x.Kind, .i x.Body, .i x.Epoch, .str x.Data]), (103, .box 59 [.i ((getP l x.Body).Body), .i ((getP l x.Body).Epoch), .i ((getP l x.Body).Phase), .i ((getP l x.Body).Peer), .str ((getP l x.Body).Data)]), (104, .box 81 [.i 1, .raw (.func (.func 60) #[] #[])])]⟩) rfl ?_
        refine Tri.seq ?_
        refine Tri.seq ?_
        refine Tri.regionL ?_
        refine OpsL.cons rfl (op_field_p tyFld81_0 rfl rfl) ?_
        refine OpsL.cons rfl (op_load_p1 tyOne3 rfl rfl rfl) ?_
        refine OpsL.cons rfl (op_field_p tyFld45_2 rfl rfl) ?_
        refine OpsL.cons rfl (op_load_p1 tyOne3 rfl rfl rfl) ?_
        refine OpsL.cons rfl (op_neq rfl rfl) ?_
        refine OpsL.nilK [0, 1, 5, 8, 10, 52, 53, 54, 62] [101, 103, 104] (s' := ⟨[(0, .b (.one (.sl 5 (l.map eHolding)))), (1, I a), (5, .b (.ptr 101 0)), (8, .b (.ptr 103 0)), (10, .b (.ptr 104 0)), (52, .b (.one (.sl 2 ([(⟨1, 60⟩ : Rule), (⟨2, 61⟩ : Rule), (⟨3, 62⟩ : Rule), (⟨4, 63⟩ : Rule)].map eRule)))), (53, I 4), (54, I 0), (62, B (decide (1 ≠ x.Kind)))], [(101, .box 45 [.i x.From, .i x.To, .i x.Kind, .i x.Body, .i x.Epoch, .str x.Data]), (103, .box 59 [.i ((getP l x.Body).Body), .i ((getP l x.Body).Epoch), .i ((getP l x.Body).Phase), .i ((getP l x.Body).Peer), .str ((getP l x.Body).Data)]), (104, .box 81 [.i 1, .raw (.func (.func 60) #[] #[])])]⟩) rfl ?_
        refine Tri.cond rfl (fun hc21 => ?_) (fun hc21 => ?_)
        · try simp only [decide_eq_true_eq, decide_eq_false_iff_not, Bool.and_eq_true, Bool.or_eq_true, Bool.not_eq_true', Bool.not_eq_false', Bool.and_eq_false_iff, Bool.or_eq_false_iff, Int.not_lt, Int.not_le, ne_eq, Decidable.not_not] at hc21
          refine Tri.exit ?_
          refine Fin.then_exit ?_
          refine Fin.block_exit ?_
          refine Fin.keep [0, 1, 5, 8, 52, 53, 54] [101, 103] (s' := ⟨[(0, .b (.one (.sl 5 (l.map eHolding)))), (1, I a), (5, .b (.ptr 101 0)), (8, .b (.ptr 103 0)), (52, .b (.one (.sl 2 ([(⟨1, 60⟩ : Rule), (⟨2, 61⟩ : Rule), (⟨3, 62⟩ : Rule), (⟨4, 63⟩ : Rule)].map eRule)))), (53, I 4), (54, I 0)], [(101, .box 45 [.i x.From, .i x.To, .i x.Kind, .i x.Body, .i x.Epoch, .str x.Data]), (103, .box 59 [.i ((getP l x.Body).Body), .i ((getP l x.Body).Epoch), .i ((getP l x.Body).Phase), .i ((getP l x.Body).Peer), .str ((getP l x.Body).Data)])]⟩) rfl ?_
          refine Fin.then ?_
          refine Tri.regionL ?_
          refine OpsL.cons rfl (op_add' (inR_i64 (by decide) (by decide)) rfl rfl) ?_
          refine OpsL.cons rfl (op_move rfl) ?_
          refine OpsL.nil ?_
          refine Fin.keep [0, 1, 5, 8, 52, 53, 54] [101, 103] (s' := ⟨[(0, .b (.one (.sl 5 (l.map eHolding)))), (1, I a), (5, .b (.ptr 101 0)), (8, .b (.ptr 103 0)), (52, .b (.one (.sl 2 ([(⟨1, 60⟩ : Rule), (⟨2, 61⟩ : Rule), (⟨3, 62⟩ : Rule), (⟨4, 63⟩ : Rule)].map eRule)))), (53, I 4), (54, I 1)], [(101, .box 45 [.i x.From, .i x.To, .i x.Kind, .i x.Body, .i x.Epoch, .str x.Data]), (103, .box 59 [.i ((getP l x.Body).Body), .i ((getP l x.Body).Epoch), .i ((getP l x.Body).Phase), .i ((getP l x.Body).Peer), .str ((getP l x.Body).Data)])]⟩) rfl ?_
          refine Fin.again 1 (by exact ⟨by omega, by omega, kinds_step hne (by assumption)⟩) (by first | omega | (dsimp only; omega)) rfl
        · try simp only [decide_eq_true_eq, decide_eq_false_iff_not, Bool.and_eq_true, Bool.or_eq_true, Bool.not_eq_true', Bool.not_eq_false', Bool.and_eq_false_iff, Bool.or_eq_false_iff, Int.not_lt, Int.not_le, ne_eq, Decidable.not_not] at hc21
          refine Tri.skip ?_
          refine Fin.keep [0, 1, 5, 8, 10] [101, 103, 104] (s' := ⟨[(0, .b (.one (.sl 5 (l.map eHolding)))), (1, I a), (5, .b (.ptr 101 0)), (8, .b (.ptr 103 0)), (10, .b (.ptr 104 0))], [(101, .box 45 [.i x.From, .i x.To, .i x.Kind, .i x.Body, .i x.Epoch, .str x.Data]), (103, .box 59 [.i ((getP l x.Body).Body), .i ((getP l x.Body).Epoch), .i ((getP l x.Body).Phase), .i ((getP l x.Body).Peer), .str ((getP l x.Body).Data)]), (104, .box 81 [.i 1, .raw (.func (.func 60) #[] #[])])]⟩) rfl ?_
          refine Fin.then ?_
          refine Tri.seq ?_
          refine Tri.regionL ?_
          refine OpsL.cons rfl (op_field_p tyFld81_1 rfl rfl) ?_
          refine OpsL.cons rfl (op_load_p1 tyOne79 rfl rfl rfl) ?_
          refine OpsL.cons rfl (op_load_p tyAgg59 rfl rfl rfl rfl) ?_
          refine OpsL.cons rfl (op_load_p tyAgg45 rfl rfl rfl rfl) ?_
          refine OpsL.cons rfl (op_field_p tyFld59_1 rfl rfl) ?_
          refine OpsL.cons rfl (op_load_p1 tyOne3 rfl rfl rfl) ?_
          refine OpsL.cons rfl (op_field_p tyFld45_4 rfl rfl) ?_
          refine OpsL.keep [0, 1, 5, 8, 65, 66, 67, 69, 70] [101, 103] (s' := ⟨[(0, .b (.one (.sl 5 (l.map eHolding)))), (1, I a), (5, .b (.ptr 101 0)), (8, .b (.ptr 103 0)), (65, .b (.one (.raw (.func (.func 60) #[] #[])))), (66, .b (.agg [.i ((getP l x.Body).Body), .i ((getP l x.Body).Epoch), .i ((getP l x.Body).Phase), .i ((getP l x.Body).Peer), .str ((getP l x.Body).Data)])), (67, .b (.agg [.i x.From, .i x.To, .i x.Kind, .i x.Body, .i x.Epoch, .str x.Data])), (69, I ((getP l x.Body).Epoch)), (70, .b (.ptr 101 4))], [(101, .box 45 [.i x.From, .i x.To, .i x.Kind, .i x.Body, .i x.Epoch, .str x.Data]), (103, .box 59 [.i ((getP l x.Body).Body), .i ((getP l x.Body).Epoch), .i ((getP l x.Body).Phase), .i ((getP l x.Body).Peer), .str ((getP l x.Body).Data)])]⟩) rfl ?_
          refine OpsL.cons rfl (op_load_p1 tyOne3 rfl rfl rfl) ?_
          refine OpsL.cons rfl (op_eql rfl rfl) ?_
          refine OpsL.cons rfl (op_move rfl) ?_
          refine OpsL.consG (decide (((getP l x.Body).Epoch) = x.Epoch)) 99 [] (.plain rfl) (eq_t _) rfl rfl (fun hg22 => trivial) (fun hg22 => (op_field_p tyFld59_3 rfl rfl)) ?_
          refine OpsL.consG (decide (((getP l x.Body).Epoch) = x.Epoch)) 99 [74] (.plain rfl) (eq_t _) rfl rfl (fun hg23 => ⟨hg23, trivial⟩) (fun hg23 => (op_load_p1 tyOne3 rfl rfl rfl)) ?_
          refine OpsL.consG (decide (((getP l x.Body).Epoch) = x.Epoch)) 99 [] (.plain rfl) (eq_t _) rfl rfl (fun hg24 => trivial) (fun hg24 => (op_field_p tyFld45_0 rfl rfl)) ?_
          refine OpsL.consG (decide (((getP l x.Body).Epoch) = x.Epoch)) 99 [76] (.plain rfl) (eq_t _) rfl rfl (fun hg25 => ⟨hg25, trivial⟩) (fun hg25 => (op_load_p1 tyOne3 rfl rfl rfl)) ?_
          refine OpsL.keep [0, 1, 5, 8, 65, 66, 67, 73, 75, 77] [101, 103] (s' := ⟨[(0, .b (.one (.sl 5 (l.map eHolding)))), (1, I a), (5, .b (.ptr 101 0)), (8, .b (.ptr 103 0)), (65, .b (.one (.raw (.func (.func 60) #[] #[])))), (66, .b (.agg [.i ((getP l x.Body).Body), .i ((getP l x.Body).Epoch), .i ((getP l x.Body).Phase), .i ((getP l x.Body).Peer), .str ((getP l x.Body).Data)])), (67, .b (.agg [.i x.From, .i x.To, .i x.Kind, .i x.Body, .i x.Epoch, .str x.Data])), (73, B (decide (((getP l x.Body).Epoch) = x.Epoch))), (75, .opt (decide (((getP l x.Body).Epoch) = x.Epoch)) (.one (.i ((getP l x.Body).Peer)))), (77, .opt (decide (((getP l x.Body).Epoch) = x.Epoch)) (.one (.i x.From)))], [(101, .box 45 [.i x.From, .i x.To, .i x.Kind, .i x.Body, .i x.Epoch, .str x.Data]), (103, .box 59 [.i ((getP l x.Body).Body), .i ((getP l x.Body).Epoch), .i ((getP l x.Body).Phase), .i ((getP l x.Body).Peer), .str ((getP l x.Body).Data)])]⟩) rfl ?_
          refine OpsL.consG (decide (((getP l x.Body).Epoch) = x.Epoch)) 99 [75, 77] (.plain rfl) (eq_t _) rfl rfl (fun hg26 => ⟨hg26, hg26, trivial⟩) (fun hg26 => (op_eql rfl rfl)) ?_
          refine OpsL.cons rfl (op_pick_and (fun e => by first | exact e | (rw [e]; rfl) | simp_all) rfl rfl rfl rfl) ?_
          refine OpsL.cons rfl (op_callv0 (rule1_spec (getP l x.Body) x ((decide (((getP l x.Body).Epoch) = x.Epoch)) && (decide (((getP l x.Body).Peer) = x.From)))) goes60 rfl rfl rfl) ?_
          refine OpsL.cons rfl (op_move rfl) ?_
          refine OpsL.cons rfl (op_extract rfl rfl) ?_
          refine OpsL.cons rfl (op_extract rfl rfl) ?_
          refine OpsL.cons rfl (op_alloc (k := 105) tyZero59 rfl) ?_
          refine OpsL.cons rfl (op_store_p tyAgg59 rfl rfl rfl rfl (Nat.le_of_ble_eq_true rfl) rfl) ?_
          refine OpsL.cons rfl (op_assign rfl) ?_
          refine OpsL.nilK [0, 1, 5, 8, 11, 12] [101, 103, 105] (s' := ⟨[(0, .b (.one (.sl 5 (l.map eHolding)))), (1, I a), (5, .b (.ptr 101 0)), (8, .b (.ptr 103 0)), (11, .b (.ptr 105 0)), (12, I (ruleK 1 (getP l x.Body) x ((decide (((getP l x.Body).Epoch) = x.Epoch)) && (decide (((getP l x.Body).Peer) = x.From)))))], [(101, .box 45 [.i x.From, .i x.To, .i x.Kind, .i x.Body, .i x.Epoch, .str x.Data]), (103, .box 59 [.i ((getP l x.Body).Body), .i ((getP l x.Body).Epoch), .i ((getP l x.Body).Phase), .i ((getP l x.Body).Peer), .str ((getP l x.Body).Data)]), (105, .box 59 [.i ((ruleH 1 (getP l x.Body) x ((decide (((getP l x.Body).Epoch) = x.Epoch)) && (decide (((getP l x.Body).Peer) = x.From)))).Body), .i ((ruleH 1 (getP l x.Body) x ((decide (((getP l x.Body).Epoch) = x.Epoch)) && (decide (((getP l x.Body).Peer) = x.From)))).Epoch), .i ((ruleH 1 (getP l x.Body) x ((decide (((getP l x.Body).Epoch) = x.Epoch)) && (decide (((getP l x.Body).Peer) = x.From)))).Phase), .i ((ruleH 1 (getP l x.Body) x ((decide (((getP l x.Body).Epoch) = x.Epoch)) && (decide (((getP l x.Body).Peer) = x.From)))).Peer), .str ((ruleH 1 (getP l x.Body) x ((decide (((getP l x.Body).Epoch) = x.Epoch)) && (decide (((getP l x.Body).Peer) = x.From)))).Data)])]⟩) rfl ?_
          refine Tri.seq ?_
          refine Tri.regionL ?_
          refine OpsL.cons rfl (op_move rfl) ?_
          refine OpsL.cons rfl (op_call (clone_spec 106 l (by omega)) goes52 rfl trivial rfl rfl) ?_
          refine OpsL.cons rfl (op_assign rfl) ?_
          refine OpsL.nilK [0, 1, 5, 8, 11, 12, 13] [101, 103, 105, 106] (s' := ⟨[(0, .b (.one (.sl 5 (l.map eHolding)))), (1, I a), (5, .b (.ptr 101 0)), (8, .b (.ptr 103 0)), (11, .b (.ptr 105 0)), (12, I (ruleK 1 (getP l x.Body) x ((decide (((getP l x.Body).Epoch) = x.Epoch)) && (decide (((getP l x.Body).Peer) = x.From))))), (13, .b (.row 106))], [(101, .box 45 [.i x.From, .i x.To, .i x.Kind, .i x.Body, .i x.Epoch, .str x.Data]), (103, .box 59 [.i ((getP l x.Body).Body), .i ((getP l x.Body).Epoch), .i ((getP l x.Body).Phase), .i ((getP l x.Body).Peer), .str ((getP l x.Body).Data)]), (105, .box 59 [.i ((ruleH 1 (getP l x.Body) x ((decide (((getP l x.Body).Epoch) = x.Epoch)) && (decide (((getP l x.Body).Peer) = x.From)))).Body), .i ((ruleH 1 (getP l x.Body) x ((decide (((getP l x.Body).Epoch) = x.Epoch)) && (decide (((getP l x.Body).Peer) = x.From)))).Epoch), .i ((ruleH 1 (getP l x.Body) x ((decide (((getP l x.Body).Epoch) = x.Epoch)) && (decide (((getP l x.Body).Peer) = x.From)))).Phase), .i ((ruleH 1 (getP l x.Body) x ((decide (((getP l x.Body).Epoch) = x.Epoch)) && (decide (((getP l x.Body).Peer) = x.From)))).Peer), .str ((ruleH 1 (getP l x.Body) x ((decide (((getP l x.Body).Epoch) = x.Epoch)) && (decide (((getP l x.Body).Peer) = x.From)))).Data)]), (106, .row 59 5 (l.map eHolding))]⟩) rfl ?_
          refine Tri.seq ?_
          refine Tri.seq ?_
          refine Tri.regionL ?_
          refine OpsL.cons rfl (op_load_p tyAgg59 rfl rfl rfl rfl) ?_
          refine OpsL.cons rfl (op_load_p tyAgg59 rfl rfl rfl rfl) ?_
          refine OpsL.cons rfl (op_neq_agg (eqAgg59 (ruleH 1 (getP l x.Body) x ((decide (((getP l x.Body).Epoch) = x.Epoch)) && (decide (((getP l x.Body).Peer) = x.From)))) (getP l x.Body)) rfl rfl neg_dec) ?_
          refine OpsL.nilK [0, 1, 5, 11, 12, 13, 87] [101, 105, 106] (s' := ⟨[(0, .b (.one (.sl 5 (l.map eHolding)))), (1, I a), (5, .b (.ptr 101 0)), (11, .b (.ptr 105 0)), (12, I (ruleK 1 (getP l x.Body) x ((decide (((getP l x.Body).Epoch) = x.Epoch)) && (decide (((getP l x.Body).Peer) = x.From))))), (13, .b (.row 106)), (87, B (decide ((ruleH 1 (getP l x.Body) x ((decide (((getP l x.Body).Epoch) = x.Epoch)) && (decide (((getP l x.Body).Peer) = x.From)))) ≠ (getP l x.Body))))], [(101, .box 45 [.i x.From, .i x.To, .i x.Kind, .i x.Body, .i x.Epoch, .str x.Data]), (105, .box 59 [.i ((ruleH 1 (getP l x.Body) x ((decide (((getP l x.Body).Epoch) = x.Epoch)) && (decide (((getP l x.Body).Peer) = x.From)))).Body), .i ((ruleH 1 (getP l x.Body) x ((decide (((getP l x.Body).Epoch) = x.Epoch)) && (decide (((getP l x.Body).Peer) = x.From)))).Epoch), .i ((ruleH 1 (getP l x.Body) x ((decide (((getP l x.Body).Epoch) = x.Epoch)) && (decide (((getP l x.Body).Peer) = x.From)))).Phase), .i ((ruleH 1 (getP l x.Body) x ((decide (((getP l x.Body).Epoch) = x.Epoch)) && (decide (((getP l x.Body).Peer) = x.From)))).Peer), .str ((ruleH 1 (getP l x.Body) x ((decide (((getP l x.Body).Epoch) = x.Epoch)) && (decide (((getP l x.Body).Peer) = x.From)))).Data)]), (106, .row 59 5 (l.map eHolding))]⟩) rfl ?_
          refine Tri.cond rfl (fun hc27 => ?_) (fun hc27 => ?_)
          · try simp only [decide_eq_true_eq, decide_eq_false_iff_not, Bool.and_eq_true, Bool.or_eq_true, Bool.not_eq_true', Bool.not_eq_false', Bool.and_eq_false_iff, Bool.or_eq_false_iff, Int.not_lt, Int.not_le, ne_eq, Decidable.not_not] at hc27
            refine Tri.regionL ?_
            refine OpsL.cons rfl (op_move rfl) ?_
            refine OpsL.cons rfl (op_load_p tyAgg59 rfl rfl rfl rfl) ?_
            refine OpsL.cons rfl (op_call (set_spec 107 l (ruleH 1 (getP l x.Body) x ((decide (((getP l x.Body).Epoch) = x.Epoch)) && (decide (((getP l x.Body).Peer) = x.From)))) (by omega) (by exact setOk_rule hs hs2)) goes46 rfl trivial rfl rfl) ?_
            refine OpsL.cons rfl (op_assign rfl) ?_
            refine OpsL.nilK [1, 5, 12, 13] [101, 107] (s' := ⟨[(1, I a), (5, .b (.ptr 101 0)), (12, I (ruleK 1 (getP l x.Body) x ((decide (((getP l x.Body).Epoch) = x.Epoch)) && (decide (((getP l x.Body).Peer) = x.From))))), (13, .b (.row 107))], [(101, .box 45 [.i x.From, .i x.To, .i x.Kind, .i x.Body, .i x.Epoch, .str x.Data]), (107, .row 59 5 ((setP l (ruleH 1 (getP l x.Body) x ((decide (((getP l x.Body).Epoch) = x.Epoch)) && (decide (((getP l x.Body).Peer) = x.From))))).map eHolding))]⟩) rfl ?_
            refine Tri.seq ?_
            refine Tri.seq ?_
            refine Tri.regionL ?_
            refine OpsL.cons rfl (op_move rfl) ?_
            refine OpsL.cons rfl (op_eql rfl rfl) ?_
            refine OpsL.nilK [1, 5, 12, 13, 92] [101, 107] (s' := ⟨[(1, I a), (5, .b (.ptr 101 0)), (12, I (ruleK 1 (getP l x.Body) x ((decide (((getP l x.Body).Epoch) = x.Epoch)) && (decide (((getP l x.Body).Peer) = x.From))))), (13, .b (.row 107)), (92, B (decide ((ruleK 1 (getP l x.Body) x ((decide (((getP l x.Body).Epoch) = x.Epoch)) && (decide (((getP l x.Body).Peer) = x.From)))) = 0)))], [(101, .box 45 [.i x.From, .i x.To, .i x.Kind, .i x.Body, .i x.Epoch, .str x.Data]), (107, .row 59 5 ((setP l (ruleH 1 (getP l x.Body) x ((decide (((getP l x.Body).Epoch) = x.Epoch)) && (decide (((getP l x.Body).Peer) = x.From))))).map eHolding))]⟩) rfl ?_
            refine Tri.cond rfl (fun hc28 => ?_) (fun hc28 => ?_)
            · try simp only [decide_eq_true_eq, decide_eq_false_iff_not, Bool.and_eq_true, Bool.or_eq_true, Bool.not_eq_true', Bool.not_eq_false', Bool.and_eq_false_iff, Bool.or_eq_false_iff, Int.not_lt, Int.not_le, ne_eq, Decidable.not_not] at hc28
              refine Tri.seq ?_
              refine Tri.regionL ?_
              refine OpsL.cons rfl (op_move rfl) ?_
              refine OpsL.cons rfl (op_assign rfl) ?_
              refine OpsL.cons rfl (op_assign rfl) ?_
              refine OpsL.nilK [6, 7] [107] (s' := ⟨[(6, .b (.row 107)), (7, .b (.one (.nil)))], [(107, .row 59 5 ((setP l (ruleH 1 (getP l x.Body) x ((decide (((getP l x.Body).Epoch) = x.Epoch)) && (decide (((getP l x.Body).Peer) = x.From))))).map eHolding))]⟩) rfl ?_
              refine Tri.ret ?_
              refine Fin.then_ret ?_
              refine Fin.block_ret ?_
              refine Fin.then_ret ?_
              refine Fin.then_ret ?_
              refine Fin.block_ret ?_
              refine Fin.then_ret ?_
              refine Fin.keep [6, 7] [107] (s' := ⟨[(6, .b (.row 107)), (7, .b (.one (.nil)))], [(107, .row 59 5 ((setP l (ruleH 1 (getP l x.Body) x ((decide (((getP l x.Body).Epoch) = x.Epoch)) && (decide (((getP l x.Body).Peer) = x.From))))).map eHolding))]⟩) rfl ?_
              refine Fin.persist 107 rfl ?_
              refine Fin.nilsl 7 6 rfl (by decide) ?_
              refine Fin.result' [.one (.sl 5 ((setP l (ruleH 1 (getP l x.Body) x ((decide (((getP l x.Body).Epoch) = x.Epoch)) && (decide (((getP l x.Body).Peer) = x.From))))).map eHolding)), .one (.sl 6 ([].map eParcel))] (.inl rfl) rfl (.cons (.tmp rfl) (.cons (.tmp rfl) .nil)) ?_
              have e0 : (recvL l a x) = (setP l (ruleH 1 (getP l x.Body) x ((decide (((getP l x.Body).Epoch) = x.Epoch)) && (decide (((getP l x.Body).Peer) = x.From))))) := by first | exact recvL_new 1 1 hb (by assumption) (by decide) (by decide) (by assumption) | exact recvP_none 1 1 hb (by assumption) (by decide) (by decide) (by assumption)
              rw [e0]
              have e1 : (recvP l a x) = [] := by first | exact recvL_new 1 1 hb (by assumption) (by decide) (by decide) (by assumption) | exact recvP_none 1 1 hb (by assumption) (by decide) (by decide) (by assumption)
              rw [e1]
              exact ⟨rfl, rfl⟩
            · try simp only [decide_eq_true_eq, decide_eq_false_iff_not, Bool.and_eq_true, Bool.or_eq_true, Bool.not_eq_true', Bool.not_eq_false', Bool.and_eq_false_iff, Bool.or_eq_false_iff, Int.not_lt, Int.not_le, ne_eq, Decidable.not_not] at hc28
              refine Tri.skip ?_
              refine Fin.keep [1, 5, 12, 13] [101, 107] (s' := ⟨[(1, I a), (5, .b (.ptr 101 0)), (12, I (ruleK 1 (getP l x.Body) x ((decide (((getP l x.Body).Epoch) = x.Epoch)) && (decide (((getP l x.Body).Peer) = x.From))))), (13, .b (.row 107))], [(101, .box 45 [.i x.From, .i x.To, .i x.Kind, .i x.Body, .i x.Epoch, .str x.Data]), (107, .row 59 5 ((setP l (ruleH 1 (getP l x.Body) x ((decide (((getP l x.Body).Epoch) = x.Epoch)) && (decide (((getP l x.Body).Peer) = x.From))))).map eHolding))]⟩) rfl ?_
              refine Fin.then ?_
              refine Tri.seq ?_
              refine Tri.keep [1, 5, 12, 13] [101, 107] (s' := ⟨[(1, I a), (5, .b (.ptr 101 0)), (12, I (ruleK 1 (getP l x.Body) x ((decide (((getP l x.Body).Epoch) = x.Epoch)) && (decide (((getP l x.Body).Peer) = x.From))))), (13, .b (.row 107))], [(101, .box 45 [.i x.From, .i x.To, .i x.Kind, .i x.Body, .i x.Epoch, .str x.Data]), (107, .row 59 5 ((setP l (ruleH 1 (getP l x.Body) x ((decide (((getP l x.Body).Epoch) = x.Epoch)) && (decide (((getP l x.Body).Peer) = x.From))))).map eHolding))]⟩) rfl ?_
              refine Tri.regionD mixed [.b (.row 107), I a, .b (.ptr 101 0), I x.From, I (ruleK 1 (getP l x.Body) x ((decide (((getP l x.Body).Epoch) = x.Epoch)) && (decide (((getP l x.Body).Peer) = x.From)))), .b (.ptr 101 3), I x.Body, .b (.ptr 101 4), I x.Epoch, .b (.agg [.i a, .i x.From, .i (ruleK 1 (getP l x.Body) x ((decide (((getP l x.Body).Epoch) = x.Epoch)) && (decide (((getP l x.Body).Peer) = x.From)))), .i x.Body, .i x.Epoch, .str []]), .b (.one (.sl 6 ([(⟨a, x.From, ruleK 1 (getP l x.Body) x ((decide (((getP l x.Body).Epoch) = x.Epoch)) && (decide (((getP l x.Body).Peer) = x.From))), x.Body, x.Epoch, []⟩ : Parcel)].map eParcel))), .b (.row 107), .b (.one (.sl 6 ([(⟨a, x.From, ruleK 1 (getP l x.Body) x ((decide (((getP l x.Body).Epoch) = x.Epoch)) && (decide (((getP l x.Body).Peer) = x.From))), x.Body, x.Epoch, []⟩ : Parcel)].map eParcel)))] [6, 7] [107] (s' := ⟨[(6, .b (.row 107)), (7, .b (.one (.sl 6 ([(⟨a, x.From, ruleK 1 (getP l x.Body) x ((decide (((getP l x.Body).Epoch) = x.Epoch)) && (decide (((getP l x.Body).Peer) = x.From))), x.Body, x.Epoch, []⟩ : Parcel)].map eParcel))))], [(107, .row 59 5 ((setP l (ruleH 1 (getP l x.Body) x ((decide (((getP l x.Body).Epoch) = x.Epoch)) && (decide (((getP l x.Body).Peer) = x.From))))).map eHolding))]⟩) rfl ⟨fun _ => .plain rfl (op_move rfl), fun _ => .plain rfl (op_move rfl), fun _ => .plain rfl (op_field_p tyFld45_0 rfl rfl), fun _ => .plain rfl (op_load_p1 tyOne3 rfl rfl rfl), fun _ => .plain rfl (op_move rfl), fun _ => .plain rfl (op_field_p tyFld45_3 rfl rfl), fun _ => .plain rfl (op_load_p1 tyOne3 rfl rfl rfl), fun _ => .plain rfl (op_field_p tyFld45_4 rfl rfl), fun _ => .plain rfl (op_load_p1 tyOne3 rfl rfl rfl), fun _ => .plain rfl (op_build tyBuild45 rfl rfl), fun _ => .plain rfl (op_buildSliceP (es := [(⟨a, x.From, ruleK 1 (getP l x.Body) x ((decide (((getP l x.Body).Epoch) = x.Epoch)) && (decide (((getP l x.Body).Peer) = x.From))), x.Body, x.Epoch, []⟩ : Parcel)].map eParcel) tySl38 rfl rfl (uni_map fun _ => rfl) rfl (by decide) (by decide)), fun _ => .plain rfl (op_assign rfl), fun _ => .plain rfl (op_assign rfl), trivial⟩ rfl ?_
              refine Tri.ret ?_
              refine Fin.block_ret ?_
              refine Fin.then_ret ?_
              refine Fin.then_ret ?_
              refine Fin.block_ret ?_
              refine Fin.then_ret ?_
              refine Fin.keep [6, 7] [107] (s' := ⟨[(6, .b (.row 107)), (7, .b (.one (.sl 6 ([(⟨a, x.From, ruleK 1 (getP l x.Body) x ((decide (((getP l x.Body).Epoch) = x.Epoch)) && (decide (((getP l x.Body).Peer) = x.From))), x.Body, x.Epoch, []⟩ : Parcel)].map eParcel))))], [(107, .row 59 5 ((setP l (ruleH 1 (getP l x.Body) x ((decide (((getP l x.Body).Epoch) = x.Epoch)) && (decide (((getP l x.Body).Peer) = x.From))))).map eHolding))]⟩) rfl ?_
              refine Fin.persist 107 rfl ?_
              refine Fin.result' [.one (.sl 5 ((setP l (ruleH 1 (getP l x.Body) x ((decide (((getP l x.Body).Epoch) = x.Epoch)) && (decide (((getP l x.Body).Peer) = x.From))))).map eHolding)), .one (.sl 6 ([(⟨a, x.From, ruleK 1 (getP l x.Body) x ((decide (((getP l x.Body).Epoch) = x.Epoch)) && (decide (((getP l x.Body).Peer) = x.From))), x.Body, x.Epoch, []⟩ : Parcel)].map eParcel))] (.inl rfl) rfl (.cons (.tmp rfl) (.cons (.tmp rfl) .nil)) ?_
              have e0 : (recvL l a x) = (setP l (ruleH 1 (getP l x.Body) x ((decide (((getP l x.Body).Epoch) = x.Epoch)) && (decide (((getP l x.Body).Peer) = x.From))))) := by first | exact recvL_new 1 1 hb (by assumption) (by decide) (by decide) (by assumption) | exact recvP_one 1 1 hb (by assumption) (by decide) (by decide) (by assumption)
              rw [e0]
              have e1 : (recvP l a x) = [(⟨a, x.From, ruleK 1 (getP l x.Body) x ((decide (((getP l x.Body).Epoch) = x.Epoch)) && (decide (((getP l x.Body).Peer) = x.From))), x.Body, x.Epoch, []⟩ : Parcel)] := by first | exact recvL_new 1 1 hb (by assumption) (by decide) (by decide) (by assumption) | exact recvP_one 1 1 hb (by assumption) (by decide) (by decide) (by assumption)
              rw [e1]
              exact ⟨rfl, rfl⟩
          · try simp only [decide_eq_true_eq, decide_eq_false_iff_not, Bool.and_eq_true, Bool.or_eq_true, Bool.not_eq_true', Bool.not_eq_false', Bool.and_eq_false_iff, Bool.or_eq_false_iff, Int.not_lt, Int.not_le, ne_eq, Decidable.not_not] at hc27
            refine Tri.skip ?_
            refine Fin.keep [1, 5, 12, 13] [101, 106] (s' := ⟨[(1, I a), (5, .b (.ptr 101 0)), (12, I (ruleK 1 (getP l x.Body) x ((decide (((getP l x.Body).Epoch) = x.Epoch)) && (decide (((getP l x.Body).Peer) = x.From))))), (13, .b (.row 106))], [(101, .box 45 [.i x.From, .i x.To, .i x.Kind, .i x.Body, .i x.Epoch, .str x.Data]), (106, .row 59 5 (l.map eHolding))]⟩) rfl ?_
            refine Fin.then ?_
            refine Tri.seq ?_
            refine Tri.seq ?_
            refine Tri.regionL ?_
            refine OpsL.cons rfl (op_move rfl) ?_
            refine OpsL.cons rfl (op_eql rfl rfl) ?_
            refine OpsL.nilK [1, 5, 12, 13, 92] [101, 106] (s' := ⟨[(1, I a), (5, .b (.ptr 101 0)), (12, I (ruleK 1 (getP l x.Body) x ((decide (((getP l x.Body).Epoch) = x.Epoch)) && (decide (((getP l x.Body).Peer) = x.From))))), (13, .b (.row 106)), (92, B (decide ((ruleK 1 (getP l x.Body) x ((decide (((getP l x.Body).Epoch) = x.Epoch)) && (decide (((getP l x.Body).Peer) = x.From)))) = 0)))], [(101, .box 45 [.i x.From, .i x.To, .i x.Kind, .i x.Body, .i x.Epoch, .str x.Data]), (106, .row 59 5 (l.map eHolding))]⟩) rfl ?_
            refine Tri.cond rfl (fun hc29 => ?_) (fun hc29 => ?_)
            · try simp only [decide_eq_true_eq, decide_eq_false_iff_not, Bool.and_eq_true, Bool.or_eq_true, Bool.not_eq_true', Bool.not_eq_false', Bool.and_eq_false_iff, Bool.or_eq_false_iff, Int.not_lt, Int.not_le, ne_eq, Decidable.not_not] at hc29
              refine Tri.seq ?_
              refine Tri.regionL ?_
              refine OpsL.cons rfl (op_move rfl) ?_
              refine OpsL.cons rfl (op_assign rfl) ?_
              refine OpsL.cons rfl (op_assign rfl) ?_
              refine OpsL.nilK [6, 7] [106] (s' := ⟨[(6, .b (.row 106)), (7, .b (.one (.nil)))], [(106, .row 59 5 (l.map eHolding))]⟩) rfl ?_
              refine Tri.ret ?_
              refine Fin.then_ret ?_
              refine Fin.block_ret ?_
              refine Fin.then_ret ?_
              refine Fin.then_ret ?_
              refine Fin.block_ret ?_
              refine Fin.then_ret ?_
              refine Fin.keep [6, 7] [106] (s' := ⟨[(6, .b (.row 106)), (7, .b (.one (.nil)))], [(106, .row 59 5 (l.map eHolding))]⟩) rfl ?_
              refine Fin.persist 106 rfl ?_
              refine Fin.nilsl 7 6 rfl (by decide) ?_
              refine Fin.result' [.one (.sl 5 (l.map eHolding)), .one (.sl 6 ([].map eParcel))] (.inl rfl) rfl (.cons (.tmp rfl) (.cons (.tmp rfl) .nil)) ?_
              have e0 : (recvL l a x) = l := by first | exact recvL_old 1 1 hb (by assumption) (by decide) (by decide) (by assumption) | exact recvP_none 1 1 hb (by assumption) (by decide) (by decide) (by assumption)
              rw [e0]
              have e1 : (recvP l a x) = [] := by first | exact recvL_old 1 1 hb (by assumption) (by decide) (by decide) (by assumption) | exact recvP_none 1 1 hb (by assumption) (by decide) (by decide) (by assumption)
              rw [e1]
              exact ⟨rfl, rfl⟩
            · try simp only [decide_eq_true_eq, decide_eq_false_iff_not, Bool.and_eq_true, Bool.or_eq_true, Bool.not_eq_true', Bool.not_eq_false', Bool.and_eq_false_iff, Bool.or_eq_false_iff, Int.not_lt, Int.not_le, ne_eq, Decidable.not_not] at hc29
              refine Tri.skip ?_
              refine Fin.keep [1, 5, 12, 13] [101, 106] (s' := ⟨[(1, I a), (5, .b (.ptr 101 0)), (12, I (ruleK 1 (getP l x.Body) x ((decide (((getP l x.Body).Epoch) = x.Epoch)) && (decide (((getP l x.Body).Peer) = x.From))))), (13, .b (.row 106))], [(101, .box 45 [.i x.From, .i x.To, .i x.Kind, .i x.Body, .i x.Epoch, .str x.Data]), (106, .row 59 5 (l.map eHolding))]⟩) rfl ?_
              refine Fin.then ?_
              refine Tri.seq ?_
              refine Tri.keep [1, 5, 12, 13] [101, 106] (s' := ⟨[(1, I a), (5, .b (.ptr 101 0)), (12, I (ruleK 1 (getP l x.Body) x ((decide (((getP l x.Body).Epoch) = x.Epoch)) && (decide (((getP l x.Body).Peer) = x.From))))), (13, .b (.row 106))], [(101, .box 45 [.i x.From, .i x.To, .i x.Kind, .i x.Body, .i x.Epoch, .str x.Data]), (106, .row 59 5 (l.map eHolding))]⟩) rfl ?_
              refine Tri.regionD mixed [.b (.row 106), I a, .b (.ptr 101 0), I x.From, I (ruleK 1 (getP l x.Body) x ((decide (((getP l x.Body).Epoch) = x.Epoch)) && (decide (((getP l x.Body).Peer) = x.From)))), .b (.ptr 101 3), I x.Body, .b (.ptr 101 4), I x.Epoch, .b (.agg [.i a, .i x.From, .i (ruleK 1 (getP l x.Body) x ((decide (((getP l x.Body).Epoch) = x.Epoch)) && (decide (((getP l x.Body).Peer) = x.From)))), .i x.Body, .i x.Epoch, .str []]), .b (.one (.sl 6 ([(⟨a, x.From, ruleK 1 (getP l x.Body) x ((decide (((getP l x.Body).Epoch) = x.Epoch)) && (decide (((getP l x.Body).Peer) = x.From))), x.Body, x.Epoch, []⟩ : Parcel)].map eParcel))), .b (.row 106), .b (.one (.sl 6 ([(⟨a, x.From, ruleK 1 (getP l x.Body) x ((decide (((getP l x.Body).Epoch) = x.Epoch)) && (decide (((getP l x.Body).Peer) = x.From))), x.Body, x.Epoch, []⟩ : Parcel)].map eParcel)))] [6, 7] [106] (s' := ⟨[(6, .b (.row 106)), (7, .b (.one (.sl 6 ([(⟨a, x.From, ruleK 1 (getP l x.Body) x ((decide (((getP l x.Body).Epoch) = x.Epoch)) && (decide (((getP l x.Body).Peer) = x.From))), x.Body, x.Epoch, []⟩ : Parcel)].map eParcel))))], [(106, .row 59 5 (l.map eHolding))]⟩) rfl ⟨fun _ => .plain rfl (op_move rfl), fun _ => .plain rfl (op_move rfl), fun _ => .plain rfl (op_field_p tyFld45_0 rfl rfl), fun _ => .plain rfl (op_load_p1 tyOne3 rfl rfl rfl), fun _ => .plain rfl (op_move rfl), fun _ => .plain rfl (op_field_p tyFld45_3 rfl rfl), fun _ => .plain rfl (op_load_p1 tyOne3 rfl rfl rfl), fun _ => .plain rfl (op_field_p tyFld45_4 rfl rfl), fun _ => .plain rfl (op_load_p1 tyOne3 rfl rfl rfl), fun _ => .plain rfl (op_build tyBuild45 rfl rfl), fun _ => .plain rfl (op_buildSliceP (es := [(⟨a, x.From, ruleK 1 (getP l x.Body) x ((decide (((getP l x.Body).Epoch) = x.Epoch)) && (decide (((getP l x.Body).Peer) = x.From))), x.Body, x.Epoch, []⟩ : Parcel)].map eParcel) tySl38 rfl rfl (uni_map fun _ => rfl) rfl (by decide) (by decide)), fun _ => .plain rfl (op_assign rfl), fun _ => .plain rfl (op_assign rfl), trivial⟩ rfl ?_
              refine Tri.ret ?_
              refine Fin.block_ret ?_
              refine Fin.then_ret ?_
              refine Fin.then_ret ?_
              refine Fin.block_ret ?_
              refine Fin.then_ret ?_
              refine Fin.keep [6, 7] [106] (s' := ⟨[(6, .b (.row 106)), (7, .b (.one (.sl 6 ([(⟨a, x.From, ruleK 1 (getP l x.Body) x ((decide (((getP l x.Body).Epoch) = x.Epoch)) && (decide (((getP l x.Body).Peer) = x.From))), x.Body, x.Epoch, []⟩ : Parcel)].map eParcel))))], [(106, .row 59 5 (l.map eHolding))]⟩) rfl ?_
              refine Fin.persist 106 rfl ?_
              refine Fin.result' [.one (.sl 5 (l.map eHolding)), .one (.sl 6 ([(⟨a, x.From, ruleK 1 (getP l x.Body) x ((decide (((getP l x.Body).Epoch) = x.Epoch)) && (decide (((getP l x.Body).Peer) = x.From))), x.Body, x.Epoch, []⟩ : Parcel)].map eParcel))] (.inl rfl) rfl (.cons (.tmp rfl) (.cons (.tmp rfl) .nil)) ?_
              have e0 : (recvL l a x) = l := by first | exact recvL_old 1 1 hb (by assumption) (by decide) (by decide) (by assumption) | exact recvP_one 1 1 hb (by assumption) (by decide) (by decide) (by assumption)
              rw [e0]
              have e1 : (recvP l a x) = [(⟨a, x.From, ruleK 1 (getP l x.Body) x ((decide (((getP l x.Body).Epoch) = x.Epoch)) && (decide (((getP l x.Body).Peer) = x.From))), x.Body, x.Epoch, []⟩ : Parcel)] := by first | exact recvL_old 1 1 hb (by assumption) (by decide) (by decide) (by assumption) | exact recvP_one 1 1 hb (by assumption) (by decide) (by decide) (by assumption)
              rw [e1]
              exact ⟨rfl, rfl⟩
      · exact absurd hc20 (by simp)
    · show Tri _ _ _ _ ⟨[(0, .b (.one (.sl 5 (l.map eHolding)))), (1, I a), (5, .b (.ptr 101 0)), (8, .b (.ptr 103 0)), (52, .b (.one (.sl 2 ([(⟨1, 60⟩ : Rule), (⟨2, 61⟩ : Rule), (⟨3, 62⟩ : Rule), (⟨4, 63⟩ : Rule)].map eRule)))), (53, I 4), (54, I 1)], [(101, .box 45 [.i x.From, .i x.To, .i x.Kind, .i x.Body, .i x.Epoch, .str x.Data]), (103, .box 59 [.i ((getP l x.Body).Body), .i ((getP l x.Body).Epoch), .i ((getP l x.Body).Phase), .i ((getP l x.Body).Peer), .str ((getP l x.Body).Data)])]⟩ _
      refine Tri.seq ?_
      refine Tri.regionL ?_
      refine OpsL.cons rfl (op_lss rfl rfl) ?_
      refine OpsL.nilK [0, 1, 5, 8, 52, 53, 54, 55] [101, 103] (s' := ⟨[(0, .b (.one (.sl 5 (l.map eHolding)))), (1, I a), (5, .b (.ptr 101 0)), (8, .b (.ptr 103 0)), (52, .b (.one (.sl 2 ([(⟨1, 60⟩ : Rule), (⟨2, 61⟩ : Rule), (⟨3, 62⟩ : Rule), (⟨4, 63⟩ : Rule)].map eRule)))), (53, I 4), (54, I 1), (55, B true)], [(101, .box 45 [.i x.From, .i x.To, .i x.Kind, .i x.Body, .i x.Epoch, .str x.Data]), (103, .box 59 [.i ((getP l x.Body).Body), .i ((getP l x.Body).Epoch), .i ((getP l x.Body).Phase), .i ((getP l x.Body).Peer), .str ((getP l x.Body).Data)])]⟩) rfl ?_
      refine Tri.seq ?_
      refine Tri.cond rfl (fun hc30 => ?_) (fun hc30 => ?_)
      · try simp only [decide_eq_true_eq, decide_eq_false_iff_not, Bool.and_eq_true, Bool.or_eq_true, Bool.not_eq_true', Bool.not_eq_false', Bool.and_eq_false_iff, Bool.or_eq_false_iff, Int.not_lt, Int.not_le, ne_eq, Decidable.not_not] at hc30
        refine Tri.skip ?_
        refine Fin.keep [0, 1, 5, 8, 52, 53, 54] [101, 103] (s' := ⟨[(0, .b (.one (.sl 5 (l.map eHolding)))), (1, I a), (5, .b (.ptr 101 0)), (8, .b (.ptr 103 0)), (52, .b (.one (.sl 2 ([(⟨1, 60⟩ : Rule), (⟨2, 61⟩ : Rule), (⟨3, 62⟩ : Rule), (⟨4, 63⟩ : Rule)].map eRule)))), (53, I 4), (54, I 1)], [(101, .box 45 [.i x.From, .i x.To, .i x.Kind, .i x.Body, .i x.Epoch, .str x.Data]), (103, .box 59 [.i ((getP l x.Body).Body), .i ((getP l x.Body).Epoch), .i ((getP l x.Body).Phase), .i ((getP l x.Body).Peer), .str ((getP l x.Body).Data)])]⟩) rfl ?_
        refine Fin.then ?_
        refine Tri.seq ?_
        refine Tri.block ?_
        refine Tri.seq ?_
        refine Tri.regionL ?_
        refine OpsL.cons rfl (op_index_e tySl77 (by decide) rfl rfl rfl) ?_
        refine OpsL.cons rfl (op_load_e tyAgg81 rfl rfl rfl) ?_
        refine OpsL.cons rfl (op_alloc (k := 110) tyZero81 rfl) ?_
        refine OpsL.cons rfl (op_store_p tyAgg81 rfl rfl rfl rfl (Nat.le_of_ble_eq_true rfl) rfl) ?_
        refine OpsL.nilK [0, 1, 5, 8, 10, 52, 53, 54] [101, 103, 110] (s' := ⟨[(0, .b (.one (.sl 5 (l.map eHolding)))), (1, I a), (5, .b (.ptr 101 0)), (8, .b (.ptr 103 0)), (10, .b (.ptr 110 0)), (52, .b (.one (.sl 2 ([(⟨1, 60⟩ : Rule), (⟨2, 61⟩ : Rule), (⟨3, 62⟩ : Rule), (⟨4, 63⟩ : Rule)].map eRule)))), (53, I 4), (54, I 1)], [(101, .box 45 [.i x.From, .i x.To, .i x.Kind, .i x.Body, .i x.Epoch, .str x.Data]), (103, .box 59 [.i ((getP l x.Body).Body), .i ((getP l x.Body).Epoch), .i ((getP l x.Body).Phase), .i ((getP l x.Body).Peer), .str ((getP l x.Body).Data)]), (110, .box 81 [.i 2, .raw (.func (.func 61) #[] #[])])]⟩) rfl ?_
        refine Tri.seq ?_
        refine Tri.seq ?_
        refine Tri.regionL ?_
        refine OpsL.cons rfl (op_field_p tyFld81_0 rfl rfl) ?_
        refine OpsL.cons rfl (op_load_p1 tyOne3 rfl rfl rfl) ?_
        refine OpsL.cons rfl (op_field_p tyFld45_2 rfl rfl) ?_
        refine OpsL.cons rfl (op_load_p1 tyOne3 rfl rfl rfl) ?_
        refine OpsL.cons rfl (op_neq rfl rfl) ?_
        refine OpsL.nilK [0, 1, 5, 8, 10, 52, 53, 54, 62] [101, 103, 110] (s' := ⟨[(0, .b (.one (.sl 5 (l.map eHolding)))), (1, I a), (5, .b (.ptr 101 0)), (8, .b (.ptr 103 0)), (10, .b (.ptr 110 0)), (52, .b (.one (.sl 2 ([(⟨1, 60⟩ : Rule), (⟨2, 61⟩ : Rule), (⟨3, 62⟩ : Rule), (⟨4, 63⟩ : Rule)].map eRule)))), (53, I 4), (54, I 1), (62, B (decide (2 ≠ x.Kind)))], [(101, .box 45 [.i x.From, .i x.To, .i x.Kind, .i x.Body, .i x.Epoch, .str x.Data]), (103, .box 59 [.i ((getP l x.Body).Body), .i ((getP l x.Body).Epoch), .i ((getP l x.Body).Phase), .i ((getP l x.Body).Peer), .str ((getP l x.Body).Data)]), (110, .box 81 [.i 2, .raw (.func (.func 61) #[] #[])])]⟩) rfl ?_
        refine Tri.cond rfl (fun hc31 => ?_) (fun hc31 => ?_)
        · try simp only [decide_eq_true_eq, decide_eq_false_iff_not, Bool.and_eq_true, Bool.or_eq_true, Bool.not_eq_true', Bool.not_eq_false', Bool.and_eq_false_iff, Bool.or_eq_false_iff, Int.not_lt, Int.not_le, ne_eq, Decidable.not_not] at hc31
          refine Tri.exit ?_
          refine Fin.then_exit ?_
          refine Fin.block_exit ?_
          refine Fin.keep [0, 1, 5, 8, 52, 53, 54] [101, 103] (s' := ⟨[(0, .b (.one (.sl 5 (l.map eHolding)))), (1, I a), (5, .b (.ptr 101 0)), (8, .b (.ptr 103 0)), (52, .b (.one (.sl 2 ([(⟨1, 60⟩ : Rule), (⟨2, 61⟩ : Rule), (⟨3, 62⟩ : Rule), (⟨4, 63⟩ : Rule)].map eRule)))), (53, I 4), (54, I 1)], [(101, .box 45 [.i x.From, .i x.To, .i x.Kind, .i x.Body, .i x.Epoch, .str x.Data]), (103, .box 59 [.i ((getP l x.Body).Body), .i ((getP l x.Body).Epoch), .i ((getP l x.Body).Phase), .i ((getP l x.Body).Peer), .str ((getP l x.Body).Data)])]⟩) rfl ?_
          refine Fin.then ?_
          refine Tri.regionL ?_
          refine OpsL.cons rfl (op_add' (inR_i64 (by decide) (by decide)) rfl rfl) ?_
          refine OpsL.cons rfl (op_move rfl) ?_
          refine OpsL.nil ?_
          refine Fin.keep [0, 1, 5, 8, 52, 53, 54] [101, 103] (s' := ⟨[(0, .b (.one (.sl 5 (l.map eHolding)))), (1, I a), (5, .b (.ptr 101 0)), (8, .b (.ptr 103 0)), (52, .b (.one (.sl 2 ([(⟨1, 60⟩ : Rule), (⟨2, 61⟩ : Rule), (⟨3, 62⟩ : Rule), (⟨4, 63⟩ : Rule)].map eRule)))), (53, I 4), (54, I 2)], [(101, .box 45 [.i x.From, .i x.To, .i x.Kind, .i x.Body, .i x.Epoch, .str x.Data]), (103, .box 59 [.i ((getP l x.Body).Body), .i ((getP l x.Body).Epoch), .i ((getP l x.Body).Phase), .i ((getP l x.Body).Peer), .str ((getP l x.Body).Data)])]⟩) rfl ?_
          refine Fin.again 2 (by exact ⟨by omega, by omega, kinds_step hne (by assumption)⟩) (by first | omega | (dsimp only; omega)) rfl
        · try simp only [decide_eq_true_eq, decide_eq_false_iff_not, Bool.and_eq_true, Bool.or_eq_true, Bool.not_eq_true', Bool.not_eq_false', Bool.and_eq_false_iff, Bool.or_eq_false_iff, Int.not_lt, Int.not_le, ne_eq, Decidable.not_not] at hc31
          refine Tri.skip ?_
          refine Fin.keep [0, 1, 5, 8, 10] [101, 103, 110] (s' := ⟨[(0, .b (.one (.sl 5 (l.map eHolding)))), (1, I a), (5, .b (.ptr 101 0)), (8, .b (.ptr 103 0)), (10, .b (.ptr 110 0))], [(101, .box 45 [.i x.From, .i x.To, .i x.Kind, .i x.Body, .i x.Epoch, .str x.Data]), (103, .box 59 [.i ((getP l x.Body).Body), .i ((getP l x.Body).Epoch), .i ((getP l x.Body).Phase), .i ((getP l x.Body).Peer), .str ((getP l x.Body).Data)]), (110, .box 81 [.i 2, .raw (.func (.func 61) #[] #[])])]⟩) rfl ?_
          refine Fin.then ?_
          refine Tri.seq ?_
          refine Tri.regionL ?_
          refine OpsL.cons rfl (op_field_p tyFld81_1 rfl rfl) ?_
          refine OpsL.cons rfl (op_load_p1 tyOne79 rfl rfl rfl) ?_
          refine OpsL.cons rfl (op_load_p tyAgg59 rfl rfl rfl rfl) ?_
          refine OpsL.cons rfl (op_load_p tyAgg45 rfl rfl rfl rfl) ?_
          refine OpsL.cons rfl (op_field_p tyFld59_1 rfl rfl) ?_
          refine OpsL.cons rfl (op_load_p1 tyOne3 rfl rfl rfl) ?_
          refine OpsL.cons rfl (op_field_p tyFld45_4 rfl rfl) ?_
          refine OpsL.keep [0, 1, 5, 8, 65, 66, 67, 69, 70] [101, 103] (s' := ⟨[(0, .b (.one (.sl 5 (l.map eHolding)))), (1, I a), (5, .b (.ptr 101 0)), (8, .b (.ptr 103 0)), (65, .b (.one (.raw (.func (.func 61) #[] #[])))), (66, .b (.agg [.i ((getP l x.Body).Body), .i ((getP l x.Body).Epoch), .i ((getP l x.Body).Phase), .i ((getP l x.Body).Peer), .str ((getP l x.Body).Data)])), (67, .b (.agg [.i x.From, .i x.To, .i x.Kind, .i x.Body, .i x.Epoch, .str x.Data])), (69, I ((getP l x.Body).Epoch)), (70, .b (.ptr 101 4))], [(101, .box 45 [.i x.From, .i x.To, .i x.Kind, .i x.Body, .i x.Epoch, .str x.Data]), (103, .box 59 [.i ((getP l x.Body).Body), .i ((getP l x.Body).Epoch), .i ((getP l x.Body).Phase), .i ((getP l x.Body).Peer), .str ((getP l x.Body).Data)])]⟩) rfl ?_
          refine OpsL.cons rfl (op_load_p1 tyOne3 rfl rfl rfl) ?_
          refine OpsL.cons rfl (op_eql rfl rfl) ?_
          refine OpsL.cons rfl (op_move rfl) ?_
          refine OpsL.consG (decide (((getP l x.Body).Epoch) = x.Epoch)) 99 [] (.plain rfl) (eq_t _) rfl rfl (fun hg32 => trivial) (fun hg32 => (op_field_p tyFld59_3 rfl rfl)) ?_
          refine OpsL.consG (decide (((getP l x.Body).Epoch) = x.Epoch)) 99 [74] (.plain rfl) (eq_t _) rfl rfl (fun hg33 => ⟨hg33, trivial⟩) (fun hg33 => (op_load_p1 tyOne3 rfl rfl rfl)) ?_
          refine OpsL.consG (decide (((getP l x.Body).Epoch) = x.Epoch)) 99 [] (.plain rfl) (eq_t _) rfl rfl (fun hg34 => trivial) (fun hg34 => (op_field_p tyFld45_0 rfl rfl)) ?_
          refine OpsL.consG (decide (((getP l x.Body).Epoch) = x.Epoch)) 99 [76] (.plain rfl) (eq_t _) rfl rfl (fun hg35 => ⟨hg35, trivial⟩) (fun hg35 => (op_load_p1 tyOne3 rfl rfl rfl)) ?_
          refine OpsL.keep [0, 1, 5, 8, 65, 66, 67, 73, 75, 77] [101, 103] (s' := ⟨[(0, .b (.one (.sl 5 (l.map eHolding)))), (1, I a), (5, .b (.ptr 101 0)), (8, .b (.ptr 103 0)), (65, .b (.one (.raw (.func (.func 61) #[] #[])))), (66, .b (.agg [.i ((getP l x.Body).Body), .i ((getP l x.Body).Epoch), .i ((getP l x.Body).Phase), .i ((getP l x.Body).Peer), .str ((getP l x.Body).Data)])), (67, .b (.agg [.i x.From, .i x.To, .i x.Kind, .i x.Body, .i x.Epoch, .str x.Data])), (73, B (decide (((getP l x.Body).Epoch) = x.Epoch))), (75, .opt (decide (((getP l x.Body).Epoch) = x.Epoch)) (.one (.i ((getP l x.Body).Peer)))), (77, .opt (decide (((getP l x.Body).Epoch) = x.Epoch)) (.one (.i x.From)))], [(101, .box 45 [.i x.From, .i x.To, .i x.Kind, .i x.Body, .i x.Epoch, .str x.Data]), (103, .box 59 [.i ((getP l x.Body).Body), .i ((getP l x.Body).Epoch), .i ((getP l x.Body).Phase), .i ((getP l x.Body).Peer), .str ((getP l x.Body).Data)])]⟩) rfl ?_
          refine OpsL.consG (decide (((getP l x.Body).Epoch) = x.Epoch)) 99 [75, 77] (.plain rfl) (eq_t _) rfl rfl (fun hg36 => ⟨hg36, hg36, trivial⟩) (fun hg36 => (op_eql rfl rfl)) ?_
          refine OpsL.cons rfl (op_pick_and (fun e => by first | exact e | (rw [e]; rfl) | simp_all) rfl rfl rfl rfl) ?_
          refine OpsL.cons rfl (op_callv0 (rule2_spec (getP l x.Body) x ((decide (((getP l x.Body).Epoch) = x.Epoch)) && (decide (((getP l x.Body).Peer) = x.From)))) goes61 rfl rfl rfl) ?_
          refine OpsL.cons rfl (op_move rfl) ?_
          refine OpsL.cons rfl (op_extract rfl rfl) ?_
          refine OpsL.cons rfl (op_extract rfl rfl) ?_
          refine OpsL.cons rfl (op_alloc (k := 111) tyZero59 rfl) ?_
          refine OpsL.cons rfl (op_store_p tyAgg59 rfl rfl rfl rfl (Nat.le_of_ble_eq_true rfl) rfl) ?_
          refine OpsL.cons rfl (op_assign rfl) ?_
          refine OpsL.nilK [0, 1, 5, 8, 11, 12] [101, 103, 111] (s' := ⟨[(0, .b (.one (.sl 5 (l.map eHolding)))), (1, I a), (5, .b (.ptr 101 0)), (8, .b (.ptr 103 0)), (11, .b (.ptr 111 0)), (12, I (ruleK 2 (getP l x.Body) x ((decide (((getP l x.Body).Epoch) = x.Epoch)) && (decide (((getP l x.Body).Peer) = x.From)))))], [(101, .box 45 [.i x.From, .i x.To, .i x.Kind, .i x.Body, .i x.Epoch, .str x.Data]), (103, .box 59 [.i ((getP l x.Body).Body), .i ((getP l x.Body).Epoch), .i ((getP l x.Body).Phase), .i ((getP l x.Body).Peer), .str ((getP l x.Body).Data)]), (111, .box 59 [.i ((ruleH 2 (getP l x.Body) x ((decide (((getP l x.Body).Epoch) = x.Epoch)) && (decide (((getP l x.Body).Peer) = x.From)))).Body), .i ((ruleH 2 (getP l x.Body) x ((decide (((getP l x.Body).Epoch) = x.Epoch)) && (decide (((getP l x.Body).Peer) = x.From)))).Epoch), .i ((ruleH 2 (getP l x.Body) x ((decide (((getP l x.Body).Epoch) = x.Epoch)) && (decide (((getP l x.Body).Peer) = x.From)))).Phase), .i ((ruleH 2 (getP l x.Body) x ((decide (((getP l x.Body).Epoch) = x.Epoch)) && (decide (((getP l x.Body).Peer) = x.From)))).Peer), .str ((ruleH 2 (getP l x.Body) x ((decide (((getP l x.Body).Epoch) = x.Epoch)) && (decide (((getP l x.Body).Peer) = x.From)))).Data)])]⟩) rfl ?_
          refine Tri.seq ?_
          refine Tri.regionL ?_
          refine OpsL.cons rfl (op_move rfl) ?_
          refine OpsL.cons rfl (op_call (clone_spec 112 l (by omega)) goes52 rfl trivial rfl rfl) ?_
          refine OpsL.cons rfl (op_assign rfl) ?_
          refine OpsL.nilK [0, 1, 5, 8, 11, 12, 13] [101, 103, 111, 112] (s' := ⟨[(0, .b (.one (.sl 5 (l.map eHolding)))), (1, I a), (5, .b (.ptr 101 0)), (8, .b (.ptr 103 0)), (11, .b (.ptr 111 0)), (12, I (ruleK 2 (getP l x.Body) x ((decide (((getP l x.Body).Epoch) = x.Epoch)) && (decide (((getP l x.Body).Peer) = x.From))))), (13, .b (.row 112))], [(101, .box 45 [.i x.From, .i x.To, .i x.Kind, .i x.Body, .i x.Epoch, .str x.Data]), (103, .box 59 [.i ((getP l x.Body).Body), .i ((getP l x.Body).Epoch), .i ((getP l x.Body).Phase), .i ((getP l x.Body).Peer), .str ((getP l x.Body).Data)]), (111, .box 59 [.i ((ruleH 2 (getP l x.Body) x ((decide (((getP l x.Body).Epoch) = x.Epoch)) && (decide (((getP l x.Body).Peer) = x.From)))).Body), .i ((ruleH 2 (getP l x.Body) x ((decide (((getP l x.Body).Epoch) = x.Epoch)) && (decide (((getP l x.Body).Peer) = x.From)))).Epoch), .i ((ruleH 2 (getP l x.Body) x ((decide (((getP l x.Body).Epoch) = x.Epoch)) && (decide (((getP l x.Body).Peer) = x.From)))).Phase), .i ((ruleH 2 (getP l x.Body) x ((decide (((getP l x.Body).Epoch) = x.Epoch)) && (decide (((getP l x.Body).Peer) = x.From)))).Peer), .str ((ruleH 2 (getP l x.Body) x ((decide (((getP l x.Body).Epoch) = x.Epoch)) && (decide (((getP l x.Body).Peer) = x.From)))).Data)]), (112, .row 59 5 (l.map eHolding))]⟩) rfl ?_
          refine Tri.seq ?_
          refine Tri.seq ?_
          refine Tri.regionL ?_
          refine OpsL.cons rfl (op_load_p tyAgg59 rfl rfl rfl rfl) ?_
          refine OpsL.cons rfl (op_load_p tyAgg59 rfl rfl rfl rfl) ?_
          refine OpsL.cons rfl (op_neq_agg (eqAgg59 (ruleH 2 (getP l x.Body) x ((decide (((getP l x.Body).Epoch) = x.Epoch)) && (decide (((getP l x.Body).Peer) = x.From)))) (getP l x.Body)) rfl rfl neg_dec) ?_
          refine OpsL.nilK [0, 1, 5, 11, 12, 13, 87] [101, 111, 112] (s' := ⟨[(0, .b (.one (.sl 5 (l.map eHolding)))), (1, I a), (5, .b (.ptr 101 0)), (11, .b (.ptr 111 0)), (12, I (ruleK 2 (getP l x.Body) x ((decide (((getP l x.Body).Epoch) = x.Epoch)) && (decide (((getP l x.Body).Peer) = x.From))))), (13, .b (.row 112)), (87, B (decide ((ruleH 2 (getP l x.Body) x ((decide (((getP l x.Body).Epoch) = x.Epoch)) && (decide (((getP l x.Body).Peer) = x.From)))) ≠ (getP l x.Body))))], [(101, .box 45 [.i x.From, .i x.To, .i x.Kind, .i x.Body, .i x.Epoch, .str x.Data]), (111, .box 59 [.i ((ruleH 2 (getP l x.Body) x ((decide (((getP l x.Body).Epoch) = x.Epoch)) && (decide (((getP l x.Body).Peer) = x.From)))).Body), .i ((ruleH 2 (getP l x.Body) x ((decide (((getP l x.Body).Epoch) = x.Epoch)) && (decide (((getP l x.Body).Peer) = x.From)))).Epoch), .i ((ruleH 2 (getP l x.Body) x ((decide (((getP l x.Body).Epoch) = x.Epoch)) && (decide (((getP l x.Body).Peer) = x.From)))).Phase), .i ((ruleH 2 (getP l x.Body) x ((decide (((getP l x.Body).Epoch) = x.Epoch)) && (decide (((getP l x.Body).Peer) = x.From)))).Peer), .str ((ruleH 2 (getP l x.Body) x ((decide (((getP l x.Body).Epoch) = x.Epoch)) && (decide (((getP l x.Body).Peer) = x.From)))).Data)]), (112, .row 59 5 (l.map eHolding))]⟩) rfl ?_
          refine Tri.cond rfl (fun hc37 => ?_) (fun hc37 => ?_)
          · try simp only [decide_eq_true_eq, decide_eq_false_iff_not, Bool.and_eq_true, Bool.or_eq_true, Bool.not_eq_true', Bool.not_eq_false', Bool.and_eq_false_iff, Bool.or_eq_false_iff, Int.not_lt, Int.not_le, ne_eq, Decidable.not_not] at hc37
            refine Tri.regionL ?_
            refine OpsL.cons rfl (op_move rfl) ?_
            refine OpsL.cons rfl (op_load_p tyAgg59 rfl rfl rfl rfl) ?_
            refine OpsL.cons rfl (op_call (set_spec 113 l (ruleH 2 (getP l x.Body) x ((decide (((getP l x.Body).Epoch) = x.Epoch)) && (decide (((getP l x.Body).Peer) = x.From)))) (by omega) (by exact setOk_rule hs hs2)) goes46 rfl trivial rfl rfl) ?_
            refine OpsL.cons rfl (op_assign rfl) ?_
            refine OpsL.nilK [1, 5, 12, 13] [101, 113] (s' := ⟨[(1, I a), (5, .b (.ptr 101 0)), (12, I (ruleK 2 (getP l x.Body) x ((decide (((getP l x.Body).Epoch) = x.Epoch)) && (decide (((getP l x.Body).Peer) = x.From))))), (13, .b (.row 113))], [(101, .box 45 [.i x.From, .i x.To, .i x.Kind, .i x.Body, .i x.Epoch, .str x.Data]), (113, .row 59 5 ((setP l (ruleH 2 (getP l x.Body) x ((decide (((getP l x.Body).Epoch) = x.Epoch)) && (decide (((getP l x.Body).Peer) = x.From))))).map eHolding))]⟩) rfl ?_
            refine Tri.seq ?_
            refine Tri.seq ?_
            refine Tri.regionL ?_
            refine OpsL.cons rfl (op_move rfl) ?_
            refine OpsL.cons rfl (op_eql rfl rfl) ?_
            refine OpsL.nilK [1, 5, 12, 13, 92] [101, 113] (s' := ⟨[(1, I a), (5, .b (.ptr 101 0)), (12, I (ruleK 2 (getP l x.Body) x ((decide (((getP l x.Body).Epoch) = x.Epoch)) && (decide (((getP l x.Body).Peer) = x.From))))), (13, .b (.row 113)), (92, B (decide ((ruleK 2 (getP l x.Body) x ((decide (((getP l x.Body).Epoch) = x.Epoch)) && (decide (((getP l x.Body).Peer) = x.From)))) = 0)))], [(101, .box 45 [.i x.From, .i x.To, .i x.Kind, .i x.Body, .i x.Epoch, .str x.Data]), (113, .row 59 5 ((setP l (ruleH 2 (getP l x.Body) x ((decide (((getP l x.Body).Epoch) = x.Epoch)) && (decide (((getP l x.Body).Peer) = x.From))))).map eHolding))]⟩) rfl ?_
            refine Tri.cond rfl (fun hc38 => ?_) (fun hc38 => ?_)
            · try simp only [decide_eq_true_eq, decide_eq_false_iff_not, Bool.and_eq_true, Bool.or_eq_true, Bool.not_eq_true', Bool.not_eq_false', Bool.and_eq_false_iff, Bool.or_eq_false_iff, Int.not_lt, Int.not_le, ne_eq, Decidable.not_not] at hc38
              refine Tri.seq ?_
              refine Tri.regionL ?_
              refine OpsL.cons rfl (op_move rfl) ?_
              refine OpsL.cons rfl (op_assign rfl) ?_
              refine OpsL.cons rfl (op_assign rfl) ?_
              refine OpsL.nilK [6, 7] [113] (s' := ⟨[(6, .b (.row 113)), (7, .b (.one (.nil)))], [(113, .row 59 5 ((setP l (ruleH 2 (getP l x.Body) x ((decide (((getP l x.Body).Epoch) = x.Epoch)) && (decide (((getP l x.Body).Peer) = x.From))))).map eHolding))]⟩) rfl ?_
              refine Tri.ret ?_
              refine Fin.then_ret ?_
              refine Fin.block_ret ?_
              refine Fin.then_ret ?_
              refine Fin.then_ret ?_
              refine Fin.block_ret ?_
              refine Fin.then_ret ?_
              refine Fin.keep [6, 7] [113] (s' := ⟨[(6, .b (.row 113)), (7, .b (.one (.nil)))], [(113, .row 59 5 ((setP l (ruleH 2 (getP l x.Body) x ((decide (((getP l x.Body).Epoch) = x.Epoch)) && (decide (((getP l x.Body).Peer) = x.From))))).map eHolding))]⟩) rfl ?_
              refine Fin.persist 113 rfl ?_
              refine Fin.nilsl 7 6 rfl (by decide) ?_
              refine Fin.result' [.one (.sl 5 ((setP l (ruleH 2 (getP l x.Body) x ((decide (((getP l x.Body).Epoch) = x.Epoch)) && (decide (((getP l x.Body).Peer) = x.From))))).map eHolding)), .one (.sl 6 ([].map eParcel))] (.inl rfl) rfl (.cons (.tmp rfl) (.cons (.tmp rfl) .nil)) ?_
              have e0 : (recvL l a x) = (setP l (ruleH 2 (getP l x.Body) x ((decide (((getP l x.Body).Epoch) = x.Epoch)) && (decide (((getP l x.Body).Peer) = x.From))))) := by first | exact recvL_new 2 2 hb (by assumption) (by decide) (by decide) (by assumption) | exact recvP_none 2 2 hb (by assumption) (by decide) (by decide) (by assumption)
              rw [e0]
              have e1 : (recvP l a x) = [] := by first | exact recvL_new 2 2 hb (by assumption) (by decide) (by decide) (by assumption) | exact recvP_none 2 2 hb (by assumption) (by decide) (by decide) (by assumption)
              rw [e1]
              exact ⟨rfl, rfl⟩
            · try simp only [decide_eq_true_eq, decide_eq_false_iff_not, Bool.and_eq_true, Bool.or_eq_true, Bool.not_eq_true', Bool.not_eq_false', Bool.and_eq_false_iff, Bool.or_eq_false_iff, Int.not_lt, Int.not_le, ne_eq, Decidable.not_not] at hc38
              refine Tri.skip ?_
              refine Fin.keep [1, 5, 12, 13] [101, 113] (s' := ⟨[(1, I a), (5, .b (.ptr 101 0)), (12, I (ruleK 2 (getP l x.Body) x ((decide (((getP l x.Body).Epoch) = x.Epoch)) && (decide (((getP l x.Body).Peer) = x.From))))), (13, .b (.row 113))], [(101, .box 45 [.i x.From, .i x.To, .i x.Kind, .i x.Body, .i x.Epoch, .str x.Data]), (113, .row 59 5 ((setP l (ruleH 2 (getP l x.Body) x ((decide (((getP l x.Body).Epoch) = x.Epoch)) && (decide (((getP l x.Body).Peer) = x.From))))).map eHolding))]⟩) rfl ?_
              refine Fin.then ?_
              refine Tri.seq ?_
              refine Tri.keep [1, 5, 12, 13] [101, 113] (s' := ⟨[(1, I a), (5, .b (.ptr 101 0)), (12, I (ruleK 2 (getP l x.Body) x ((decide (((getP l x.Body).Epoch) = x.Epoch)) && (decide (((getP l x.Body).Peer) = x.From))))), (13, .b (.row 113))], [(101, .box 45 [.i x.From, .i x.To, .i x.Kind, .i x.Body, .i x.Epoch, .str x.Data]), (113, .row 59 5 ((setP l (ruleH 2 (getP l x.Body) x ((decide (((getP l x.Body).Epoch) = x.Epoch)) && (decide (((getP l x.Body).Peer) = x.From))))).map eHolding))]⟩) rfl ?_
              refine Tri.regionD mixed [.b (.row 113), I a, .b (.ptr 101 0), I x.From, I (ruleK 2 (getP l x.Body) x ((decide (((getP l x.Body).Epoch) = x.Epoch)) && (decide (((getP l x.Body).Peer) = x.From)))), .b (.ptr 101 3), I x.Body, .b (.ptr 101 4), I x.Epoch, .b (.agg [.i a, .i x.From, .i (ruleK 2 (getP l x.Body) x ((decide (((getP l x.Body).Epoch) = x.Epoch)) && (decide (((getP l x.Body).Peer) = x.From)))), .i x.Body, .i x.Epoch, .str []]), .b (.one (.sl 6 ([(⟨a, x.From, ruleK 2 (getP l x.Body) x ((decide (((getP l x.Body).Epoch) = x.Epoch)) && (decide (((getP l x.Body).Peer) = x.From))), x.Body, x.Epoch, []⟩ : Parcel)].map eParcel))), .b (.row 113), .b (.one (.sl 6 ([(⟨a, x.From, ruleK 2 (getP l x.Body) x ((decide (((getP l x.Body).Epoch) = x.Epoch)) && (decide (((getP l x.Body).Peer) = x.From))), x.Body, x.Epoch, []⟩ : Parcel)].map eParcel)))] [6, 7] [113] (s' := ⟨[(6, .b (.row 113)), (7, .b (.one (.sl 6 ([(⟨a, x.From, ruleK 2 (getP l x.Body) x ((decide (((getP l x.Body).Epoch) = x.Epoch)) && (decide (((getP l x.Body).Peer) = x.From))), x.Body, x.Epoch, []⟩ : Parcel)].map eParcel))))], [(113, .row 59 5 ((setP l (ruleH 2 (getP l x.Body) x ((decide (((getP l x.Body).Epoch) = x.Epoch)) && (decide (((getP l x.Body).Peer) = x.From))))).map eHolding))]⟩) rfl ⟨fun _ => .plain rfl (op_move rfl), fun _ => .plain rfl (op_move rfl), fun _ => .plain rfl (op_field_p tyFld45_0 rfl rfl), fun _ => .plain rfl (op_load_p1 tyOne3 rfl rfl rfl), fun _ => .plain rfl (op_move rfl), fun _ => .plain rfl (op_field_p tyFld45_3 rfl rfl), fun _ => .plain rfl (op_load_p1 tyOne3 rfl rfl rfl), fun _ => .plain rfl (op_field_p tyFld45_4 rfl rfl), fun _ => .plain rfl (op_load_p1 tyOne3 rfl rfl rfl), fun _ => .plain rfl (op_build tyBuild45 rfl rfl), fun _ => .plain rfl (op_buildSliceP (es := [(⟨a, x.From, ruleK 2 (getP l x.Body) x ((decide (((getP l x.Body).Epoch) = x.Epoch)) && (decide (((getP l x.Body).Peer) = x.From))), x.Body, x.Epoch, []⟩ : Parcel)].map eParcel) tySl38 rfl rfl (uni_map fun _ => rfl) rfl (by decide) (by decide)), fun _ => .plain rfl (op_assign rfl), fun _ => .plain rfl (op_assign rfl), trivial⟩ rfl ?_
              refine Tri.ret ?_
              refine Fin.block_ret ?_
              refine Fin.then_ret ?_
              refine Fin.then_ret ?_
              refine Fin.block_ret ?_
              refine Fin.then_ret ?_
              refine Fin.keep [6, 7] [113] (s' := ⟨[(6, .b (.row 113)), (7, .b (.one (.sl 6 ([(⟨a, x.From, ruleK 2 (getP l x.Body) x ((decide (((getP l x.Body).Epoch) = x.Epoch)) && (decide (((getP l x.Body).Peer) = x.From))), x.Body, x.Epoch, []⟩ : Parcel)].map eParcel))))], [(113, .row 59 5 ((setP l (ruleH 2 (getP l x.Body) x ((decide (((getP l x.Body).Epoch) = x.Epoch)) && (decide (((getP l x.Body).Peer) = x.From))))).map eHolding))]⟩) rfl ?_
              refine Fin.persist 113 rfl ?_
              refine Fin.result' [.one (.sl 5 ((setP l (ruleH 2 (getP l x.Body) x ((decide (((getP l x.Body).Epoch) = x.Epoch)) && (decide (((getP l x.Body).Peer) = x.From))))).map eHolding)), .one (.sl 6 ([(⟨a, x.From, ruleK 2 (getP l x.Body) x ((decide (((getP l x.Body).Epoch) = x.Epoch)) && (decide (((getP l x.Body).Peer) = x.From))), x.Body, x.Epoch, []⟩ : Parcel)].map eParcel))] (.inl rfl) rfl (.cons (.tmp rfl) (.cons (.tmp rfl) .nil)) ?_
              have e0 : (recvL l a x) = (setP l (ruleH 2 (getP l x.Body) x ((decide (((getP l x.Body).Epoch) = x.Epoch)) && (decide (((getP l x.Body).Peer) = x.From))))) := by first | exact recvL_new 2 2 hb (by assumption) (by decide) (by decide) (by assumption) | exact recvP_one 2 2 hb (by assumption) (by decide) (by decide) (by assumption)
              rw [e0]
              have e1 : (recvP l a x) = [(⟨a, x.From, ruleK 2 (getP l x.Body) x ((decide (((getP l x.Body).Epoch) = x.Epoch)) && (decide (((getP l x.Body).Peer) = x.From))), x.Body, x.Epoch, []⟩ : Parcel)] := by first | exact recvL_new 2 2 hb (by assumption) (by decide) (by decide) (by assumption) | exact recvP_one 2 2 hb (by assumption) (by decide) (by decide) (by assumption)
              rw [e1]
              exact ⟨rfl, rfl⟩
          · try simp only [decide_eq_true_eq, decide_eq_false_iff_not, Bool.and_eq_true, Bool.or_eq_true, Bool.not_eq_true', Bool.not_eq_false', Bool.and_eq_false_iff, Bool.or_eq_false_iff, Int.not_lt, Int.not_le, ne_eq, Decidable.not_not] at hc37
            refine Tri.skip ?_
            refine Fin.keep [1, 5, 12, 13] [101, 112] (s' := ⟨[(1, I a), (5, .b (.ptr 101 0)), (12, I (ruleK 2 (getP l x.Body) x ((decide (((getP l x.Body).Epoch) = x.Epoch)) && (decide (((getP l x.Body).Peer) = x.From))))), (13, .b (.row 112))], [(101, .box 45 [.i x.From, .i x.To, .i x.Kind, .i x.Body, .i x.Epoch, .str x.Data]), (112, .row 59 5 (l.map eHolding))]⟩) rfl ?_
            refine Fin.then ?_
            refine Tri.seq ?_
            refine Tri.seq ?_
            refine Tri.regionL ?_
            refine OpsL.cons rfl (op_move rfl) ?_
            refine OpsL.cons rfl (op_eql rfl rfl) ?_
            refine OpsL.nilK [1, 5, 12, 13, 92] [101, 112] (s' := ⟨[(1, I a), (5, .b (.ptr 101 0)), (12, I (ruleK 2 (getP l x.Body) x ((decide (((getP l x.Body).Epoch) = x.Epoch)) && (decide (((getP l x.Body).Peer) = x.From))))), (13, .b (.row 112)), (92, B (decide ((ruleK 2 (getP l x.Body) x ((decide (((getP l x.Body).Epoch) = x.Epoch)) && (decide (((getP l x.Body).Peer) = x.From)))) = 0)))], [(101, .box 45 [.i x.From, .i x.To, .i x.Kind, .i x.Body, .i x.Epoch, .str x.Data]), (112, .row 59 5 (l.map eHolding))]⟩) rfl ?_
            refine Tri.cond rfl (fun hc39 => ?_) (fun hc39 => ?_)
            · try simp only [decide_eq_true_eq, decide_eq_false_iff_not, Bool.and_eq_true, Bool.or_eq_true, Bool.not_eq_true', Bool.not_eq_false', Bool.and_eq_false_iff, Bool.or_eq_false_iff, Int.not_lt, Int.not_le, ne_eq, Decidable.not_not] at hc39
              refine Tri.seq ?_
              refine Tri.regionL ?_
              refine OpsL.cons rfl (op_move rfl) ?_
              refine OpsL.cons rfl (op_assign rfl) ?_
              refine OpsL.cons rfl (op_assign rfl) ?_
              refine OpsL.nilK [6, 7] [112] (s' := ⟨[(6, .b (.row 112)), (7, .b (.one (.nil)))], [(112, .row 59 5 (l.map eHolding))]⟩) rfl ?_
              refine Tri.ret ?_
              refine Fin.then_ret ?_
              refine Fin.block_ret ?_
              refine Fin.then_ret ?_
              refine Fin.then_ret ?_
              refine Fin.block_ret ?_
              refine Fin.then_ret ?_
              refine Fin.keep [6, 7] [112] (s' := ⟨[(6, .b (.row 112)), (7, .b (.one (.nil)))], [(112, .row 59 5 (l.map eHolding))]⟩) rfl ?_
              refine Fin.persist 112 rfl ?_
              refine Fin.nilsl 7 6 rfl (by decide) ?_
              refine Fin.result' [.one (.sl 5 (l.map eHolding)), .one (.sl 6 ([].map eParcel))] (.inl rfl) rfl (.cons (.tmp rfl) (.cons (.tmp rfl) .nil)) ?_
              have e0 : (recvL l a x) = l := by first | exact recvL_old 2 2 hb (by assumption) (by decide) (by decide) (by assumption) | exact recvP_none 2 2 hb (by assumption) (by decide) (by decide) (by assumption)
              rw [e0]
              have e1 : (recvP l a x) = [] := by first | exact recvL_old 2 2 hb (by assumption) (by decide) (by decide) (by assumption) | exact recvP_none 2 2 hb (by assumption) (by decide) (by decide) (by assumption)
              rw [e1]
              exact ⟨rfl, rfl⟩
            · try simp only [decide_eq_true_eq, decide_eq_false_iff_not, Bool.and_eq_true, Bool.or_eq_true, Bool.not_eq_true', Bool.not_eq_false', Bool.and_eq_false_iff, Bool.or_eq_false_iff, Int.not_lt, Int.not_le, ne_eq, Decidable.not_not] at hc39
              refine Tri.skip ?_
              refine Fin.keep [1, 5, 12, 13] [101, 112] (s' := ⟨[(1, I a), (5, .b (.ptr 101 0)), (12, I (ruleK 2 (getP l x.Body) x ((decide (((getP l x.Body).Epoch) = x.Epoch)) && (decide (((getP l x.Body).Peer) = x.From))))), (13, .b (.row 112))], [(101, .box 45 [.i x.From, .i x.To, .i x.Kind, .i x.Body, .i x.Epoch, .str x.Data]), (112, .row 59 5 (l.map eHolding))]⟩) rfl ?_
              refine Fin.then ?_
              refine Tri.seq ?_
              refine Tri.keep [1, 5, 12, 13] [101, 112] (s' := ⟨[(1, I a), (5, .b (.ptr 101 0)), (12, I (ruleK 2 (getP l x.Body) x ((decide (((getP l x.Body).Epoch) = x.Epoch)) && (decide (((getP l x.Body).Peer) = x.From))))), (13, .b (.row 112))], [(101, .box 45 [.i x.From, .i x.To, .i x.Kind, .i x.Body, .i x.Epoch, .str x.Data]), (112, .row 59 5 (l.map eHolding))]⟩) rfl ?_
              refine Tri.regionD mixed [.b (.row 112), I a, .b (.ptr 101 0), I x.From, I (ruleK 2 (getP l x.Body) x ((decide (((getP l x.Body).Epoch) = x.Epoch)) && (decide (((getP l x.Body).Peer) = x.From)))), .b (.ptr 101 3), I x.Body, .b (.ptr 101 4), I x.Epoch, .b (.agg [.i a, .i x.From, .i (ruleK 2 (getP l x.Body) x ((decide (((getP l x.Body).Epoch) = x.Epoch)) && (decide (((getP l x.Body).Peer) = x.From)))), .i x.Body, .i x.Epoch, .str []]), .b (.one (.sl 6 ([(⟨a, x.From, ruleK 2 (getP l x.Body) x ((decide (((getP l x.Body).Epoch) = x.Epoch)) && (decide (((getP l x.Body).Peer) = x.From))), x.Body, x.Epoch, []⟩ : Parcel)].map eParcel))), .b (.row 112), .b (.one (.sl 6 ([(⟨a, x.From, ruleK 2 (getP l x.Body) x ((decide (((getP l x.Body).Epoch) = x.Epoch)) && (decide (((getP l x.Body).Peer) = x.From))), x.Body, x.Epoch, []⟩ : Parcel)].map eParcel)))] [6, 7] [112] (s' := ⟨[(6, .b (.row 112)), (7, .b (.one (.sl 6 ([(⟨a, x.From, ruleK 2 (getP l x.Body) x ((decide (((getP l x.Body).Epoch) = x.Epoch)) && (decide (((getP l x.Body).Peer) = x.From))), x.Body, x.Epoch, []⟩ : Parcel)].map eParcel))))], [(112, .row 59 5 (l.map eHolding))]⟩) rfl ⟨fun _ => .plain rfl (op_move rfl), fun _ => .plain rfl (op_move rfl), fun _ => .plain rfl (op_field_p tyFld45_0 rfl rfl), fun _ => .plain rfl (op_load_p1 tyOne3 rfl rfl rfl), fun _ => .plain rfl (op_move rfl), fun _ => .plain rfl (op_field_p tyFld45_3 rfl rfl), fun _ => .plain rfl (op_load_p1 tyOne3 rfl rfl rfl), fun _ => .plain rfl (op_field_p tyFld45_4 rfl rfl), fun _ => .plain rfl (op_load_p1 tyOne3 rfl rfl rfl), fun _ => .plain rfl (op_build tyBuild45 rfl rfl), fun _ => .plain rfl (op_buildSliceP (es := [(⟨a, x.From, ruleK 2 (getP l x.Body) x ((decide (((getP l x.Body).Epoch) = x.Epoch)) && (decide (((getP l x.Body).Peer) = x.From))), x.Body, x.Epoch, []⟩ : Parcel)].map eParcel) tySl38 rfl rfl (uni_map fun _ => rfl) rfl (by decide) (by decide)), fun _ => .plain rfl (op_assign rfl), fun _ => .plain rfl (op_assign rfl), trivial⟩ rfl ?_
              refine Tri.ret ?_
              refine Fin.block_ret ?_
              refine Fin.then_ret ?_
              refine Fin.then_ret ?_
              refine Fin.block_ret ?_
              refine Fin.then_ret ?_
              refine Fin.keep [6, 7] [112] (s' := ⟨[(6, .b (.row 112)), (7, .b (.one (.sl 6 ([(⟨a, x.From, ruleK 2 (getP l x.Body) x ((decide (((getP l x.Body).Epoch) = x.Epoch)) && (decide (((getP l x.Body).Peer) = x.From))), x.Body, x.Epoch, []⟩ : Parcel)].map eParcel))))], [(112, .row 59 5 (l.map eHolding))]⟩) rfl ?_
              refine Fin.persist 112 rfl ?_
              refine Fin.result' [.one (.sl 5 (l.map eHolding)), .one (.sl 6 ([(⟨a, x.From, ruleK 2 (getP l x.Body) x ((decide (((getP l x.Body).Epoch) = x.Epoch)) && (decide (((getP l x.Body).Peer) = x.From))), x.Body, x.Epoch, []⟩ : Parcel)].map eParcel))] (.inl rfl) rfl (.cons (.tmp rfl) (.cons (.tmp rfl) .nil)) ?_
              have e0 : (recvL l a x) = l := by first | exact recvL_old 2 2 hb (by assumption) (by decide) (by decide) (by assumption) | exact recvP_one 2 2 hb (by assumption) (by decide) (by decide) (by assumption)
              rw [e0]
              have e1 : (recvP l a x) = [(⟨a, x.From, ruleK 2 (getP l x.Body) x ((decide (((getP l x.Body).Epoch) = x.Epoch)) && (decide (((getP l x.Body).Peer) = x.From))), x.Body, x.Epoch, []⟩ : Parcel)] := by first | exact recvL_old 2 2 hb (by assumption) (by decide) (by decide) (by assumption) | exact recvP_one 2 2 hb (by assumption) (by decide) (by decide) (by assumption)
              rw [e1]
              exact ⟨rfl, rfl⟩
      · exact absurd hc30 (by simp)
    · show Tri _ _ _ _ ⟨[(0, .b (.one (.sl 5 (l.map eHolding)))), (1, I a), (5, .b (.ptr 101 0)), (8, .b (.ptr 103 0)), (52, .b (.one (.sl 2 ([(⟨1, 60⟩ : Rule), (⟨2, 61⟩ : Rule), (⟨3, 62⟩ : Rule), (⟨4, 63⟩ : Rule)].map eRule)))), (53, I 4), (54, I 2)], [(101, .box 45 [.i x.From, .i x.To, .i x.Kind, .i x.Body, .i x.Epoch, .str x.Data]), (103, .box 59 [.i ((getP l x.Body).Body), .i ((getP l x.Body).Epoch), .i ((getP l x.Body).Phase), .i ((getP l x.Body).Peer), .str ((getP l x.Body).Data)])]⟩ _
      refine Tri.seq ?_
      refine Tri.regionL ?_
      refine OpsL.cons rfl (op_lss rfl rfl) ?_
      refine OpsL.nilK [0, 1, 5, 8, 52, 53, 54, 55] [101, 103] (s' := ⟨[(0, .b (.one (.sl 5 (l.map eHolding)))), (1, I a), (5, .b (.ptr 101 0)), (8, .b (.ptr 103 0)), (52, .b (.one (.sl 2 ([(⟨1, 60⟩ : Rule), (⟨2, 61⟩ : Rule), (⟨3, 62⟩ : Rule), (⟨4, 63⟩ : Rule)].map eRule)))), (53, I 4), (54, I 2), (55, B true)], [(101, .box 45 [.i x.From, .i x.To, .i x.Kind, .i x.Body, .i x.Epoch, .str x.Data]), (103, .box 59 [.i ((getP l x.Body).Body), .i ((getP l x.Body).Epoch), .i ((getP l x.Body).Phase), .i ((getP l x.Body).Peer), .str ((getP l x.Body).Data)])]⟩) rfl ?_
      refine Tri.seq ?_
      refine Tri.cond rfl (fun hc40 => ?_) (fun hc40 => ?_)
      · try simp only [decide_eq_true_eq, decide_eq_false_iff_not, Bool.and_eq_true, Bool.or_eq_true, Bool.not_eq_true', Bool.not_eq_false', Bool.and_eq_false_iff, Bool.or_eq_false_iff, Int.not_lt, Int.not_le, ne_eq, Decidable.not_not] at hc40
        refine Tri.skip ?_
        refine Fin.keep [0, 1, 5, 8, 52, 53, 54] [101, 103] (s' := ⟨[(0, .b (.one (.sl 5 (l.map eHolding)))), (1, I a), (5, .b (.ptr 101 0)), (8, .b (.ptr 103 0)), (52, .b (.one (.sl 2 ([(⟨1, 60⟩ : Rule), (⟨2, 61⟩ : Rule), (⟨3, 62⟩ : Rule), (⟨4, 63⟩ : Rule)].map eRule)))), (53, I 4), (54, I 2)], [(101, .box 45 [.i x.From, .i x.To, .i x.Kind, .i x.Body, .i x.Epoch, .str x.Data]), (103, .box 59 [.i ((getP l x.Body).Body), .i ((getP l x.Body).Epoch), .i ((getP l x.Body).Phase), .i ((getP l x.Body).Peer), .str ((getP l x.Body).Data)])]⟩) rfl ?_
        refine Fin.then ?_
        refine Tri.seq ?_
        refine Tri.block ?_
        refine Tri.seq ?_
        refine Tri.regionL ?_
        refine OpsL.cons rfl (op_index_e tySl77 (by decide) rfl rfl rfl) ?_
        refine OpsL.cons rfl (op_load_e tyAgg81 rfl rfl rfl) ?_
        refine OpsL.cons rfl (op_alloc (k := 116) tyZero81 rfl) ?_
        refine OpsL.cons rfl (op_store_p tyAgg81 rfl rfl rfl rfl (Nat.le_of_ble_eq_true rfl) rfl) ?_
        refine OpsL.nilK [0, 1, 5, 8, 10, 52, 53, 54] [101, 103, 116] (s' := ⟨[(0, .b (.one (.sl 5 (l.map eHolding)))), (1, I a), (5, .b (.ptr 101 0)), (8, .b (.ptr 103 0)), (10, .b (.ptr 116 0)), (52, .b (.one (.sl 2 ([(⟨1, 60⟩ : Rule), (⟨2, 61⟩ : Rule), (⟨3, 62⟩ : Rule), (⟨4, 63⟩ : Rule)].map eRule)))), (53, I 4), (54, I 2)], [(101, .box 45 [.i x.From, .i x.To, .i x.Kind, .i x.Body, .i x.Epoch, .str x.Data]), (103, .box 59 [.i ((getP l x.Body).Body), .i ((getP l x.Body).Epoch), .i ((getP l x.Body).Phase), .i ((getP l x.Body).Peer), .str ((getP l x.Body).Data)]), (116, .box 81 [.i 3, .raw (.func (.func 62) #[] #[])])]⟩) rfl ?_
        refine Tri.seq ?_
        refine Tri.seq ?_
        refine Tri.regionL ?_
        refine OpsL.cons rfl (op_field_p tyFld81_0 rfl rfl) ?_
        refine OpsL.cons rfl (op_load_p1 tyOne3 rfl rfl rfl) ?_
        refine OpsL.cons rfl (op_field_p tyFld45_2 rfl rfl) ?_
        refine OpsL.cons rfl (op_load_p1 tyOne3 rfl rfl rfl) ?_
        refine OpsL.cons rfl (op_neq rfl rfl) ?_
        refine OpsL.nilK [0, 1, 5, 8, 10, 52, 53, 54, 62] [101, 103, 116] (s' := ⟨[(0, .b (.one (.sl 5 (l.map eHolding)))), (1, I a), (5, .b (.ptr 101 0)), (8, .b (.ptr 103 0)), (10, .b (.ptr 116 0)), (52, .b (.one (.sl 2 ([(⟨1, 60⟩ : Rule), (⟨2, 61⟩ : Rule), (⟨3, 62⟩ : Rule), (⟨4, 63⟩ : Rule)].map eRule)))), (53, I 4), (54, I 2), (62, B (decide (3 ≠ x.Kind)))], [(101, .box 45 [.i x.From, .i x.To, .i x.Kind, .i x.Body, .i x.Epoch, .str x.Data]), (103, .box 59 [.i ((getP l x.Body).Body), .i ((getP l x.Body).Epoch), .i ((getP l x.Body).Phase), .i ((getP l x.Body).Peer), .str ((getP l x.Body).Data)]), (116, .box 81 [.i 3, .raw (.func (.func 62) #[] #[])])]⟩) rfl ?_
        refine Tri.cond rfl (fun hc41 => ?_) (fun hc41 => ?_)
        · try simp only [decide_eq_true_eq, decide_eq_false_iff_not, Bool.and_eq_true, Bool.or_eq_true, Bool.not_eq_true', Bool.not_eq_false', Bool.and_eq_false_iff, Bool.or_eq_false_iff, Int.not_lt, Int.not_le, ne_eq, Decidable.not_not] at hc41
          refine Tri.exit ?_
          refine Fin.then_exit ?_
          refine Fin.block_exit ?_
          refine Fin.keep [0, 1, 5, 8, 52, 53, 54] [101, 103] (s' := ⟨[(0, .b (.one (.sl 5 (l.map eHolding)))), (1, I a), (5, .b (.ptr 101 0)), (8, .b (.ptr 103 0)), (52, .b (.one (.sl 2 ([(⟨1, 60⟩ : Rule), (⟨2, 61⟩ : Rule), (⟨3, 62⟩ : Rule), (⟨4, 63⟩ : Rule)].map eRule)))), (53, I 4), (54, I 2)], [(101, .box 45 [.i x.From, .i x.To, .i x.Kind, .i x.Body, .i x.Epoch, .str x.Data]), (103, .box 59 [.i ((getP l x.Body).Body), .i ((getP l x.Body).Epoch), .i ((getP l x.Body).Phase), .i ((getP l x.Body).Peer), .str ((getP l x.Body).Data)])]⟩) rfl ?_
          refine Fin.then ?_
          refine Tri.regionL ?_
          refine OpsL.cons rfl (op_add' (inR_i64 (by decide) (by decide)) rfl rfl) ?_
          refine OpsL.cons rfl (op_move rfl) ?_
          refine OpsL.nil ?_
          refine Fin.keep [0, 1, 5, 8, 52, 53, 54] [101, 103] (s' := ⟨[(0, .b (.one (.sl 5 (l.map eHolding)))), (1, I a), (5, .b (.ptr 101 0)), (8, .b (.ptr 103 0)), (52, .b (.one (.sl 2 ([(⟨1, 60⟩ : Rule), (⟨2, 61⟩ : Rule), (⟨3, 62⟩ : Rule), (⟨4, 63⟩ : Rule)].map eRule)))), (53, I 4), (54, I 3)], [(101, .box 45 [.i x.From, .i x.To, .i x.Kind, .i x.Body, .i x.Epoch, .str x.Data]), (103, .box 59 [.i ((getP l x.Body).Body), .i ((getP l x.Body).Epoch), .i ((getP l x.Body).Phase), .i ((getP l x.Body).Peer), .str ((getP l x.Body).Data)])]⟩) rfl ?_
          refine Fin.again 3 (by exact ⟨by omega, by omega, kinds_step hne (by assumption)⟩) (by first | omega | (dsimp only; omega)) rfl
        · try simp only [decide_eq_true_eq, decide_eq_false_iff_not, Bool.and_eq_true, Bool.or_eq_true, Bool.not_eq_true', Bool.not_eq_false', Bool.and_eq_false_iff, Bool.or_eq_false_iff, Int.not_lt, Int.not_le, ne_eq, Decidable.not_not] at hc41
          refine Tri.skip ?_
          refine Fin.keep [0, 1, 5, 8, 10] [101, 103, 116] (s' := ⟨[(0, .b (.one (.sl 5 (l.map eHolding)))), (1, I a), (5, .b (.ptr 101 0)), (8, .b (.ptr 103 0)), (10, .b (.ptr 116 0))], [(101, .box 45 [.i x.From, .i x.To, .i x.Kind, .i x.Body, .i x.Epoch, .str x.Data]), (103, .box 59 [.i ((getP l x.Body).Body), .i ((getP l x.Body).Epoch), .i ((getP l x.Body).Phase), .i ((getP l x.Body).Peer), .str ((getP l x.Body).Data)]), (116, .box 81 [.i 3, .raw (.func (.func 62) #[] #[])])]⟩) rfl ?_
          refine Fin.then ?_
          refine Tri.seq ?_
          refine Tri.regionL ?_
          refine OpsL.cons rfl (op_field_p tyFld81_1 rfl rfl) ?_
          refine OpsL.cons rfl (op_load_p1 tyOne79 rfl rfl rfl) ?_
          refine OpsL.cons rfl (op_load_p tyAgg59 rfl rfl rfl rfl) ?_
          refine OpsL.cons rfl (op_load_p tyAgg45 rfl rfl rfl rfl) ?_
          refine OpsL.cons rfl (op_field_p tyFld59_1 rfl rfl) ?_
          refine OpsL.cons rfl (op_load_p1 tyOne3 rfl rfl rfl) ?_
          refine OpsL.cons rfl (op_field_p tyFld45_4 rfl rfl) ?_
          refine OpsL.keep [0, 1, 5, 8, 65, 66, 67, 69, 70] [101, 103] (s' := ⟨[(0, .b (.one (.sl 5 (l.map eHolding)))), (1, I a), (5, .b (.ptr 101 0)), (8, .b (.ptr 103 0)), (65, .b (.one (.raw (.func (.func 62) #[] #[])))), (66, .b (.agg [.i ((getP l x.Body).Body), .i ((getP l x.Body).Epoch), .i ((getP l x.Body).Phase), .i ((getP l x.Body).Peer), .str ((getP l x.Body).Data)])), (67, .b (.agg [.i x.From, .i x.To, .i x.Kind, .i x.Body, .i x.Epoch, .str x.Data])), (69, I ((getP l x.Body).Epoch)), (70, .b (.ptr 101 4))], [(101, .box 45 [.i x.From, .i x.To, .i x.Kind, .i x.Body, .i x.Epoch, .str x.Data]), (103, .box 59 [.i ((getP l x.Body).Body), .i ((getP l x.Body).Epoch), .i ((getP l x.Body).Phase), .i ((getP l x.Body).Peer), .str ((getP l x.Body).Data)])]⟩) rfl ?_
          refine OpsL.cons rfl (op_load_p1 tyOne3 rfl rfl rfl) ?_
          refine OpsL.cons rfl (op_eql rfl rfl) ?_
          refine OpsL.cons rfl (op_move rfl) ?_
          refine OpsL.consG (decide (((getP l x.Body).Epoch) = x.Epoch)) 99 [] (.plain rfl) (eq_t _) rfl rfl (fun hg42 => trivial) (fun hg42 => (op_field_p tyFld59_3 rfl rfl)) ?_
          refine OpsL.consG (decide (((getP l x.Body).Epoch) = x.Epoch)) 99 [74] (.plain rfl) (eq_t _) rfl rfl (fun hg43 => ⟨hg43, trivial⟩) (fun hg43 => (op_load_p1 tyOne3 rfl rfl rfl)) ?_
          refine OpsL.consG (decide (((getP l x.Body).Epoch) = x.Epoch)) 99 [] (.plain rfl) (eq_t _) rfl rfl (fun hg44 => trivial) (fun hg44 => (op_field_p tyFld45_0 rfl rfl)) ?_
          refine OpsL.consG (decide (((getP l x.Body).Epoch) = x.Epoch)) 99 [76] (.plain rfl) (eq_t _) rfl rfl (fun hg45 => ⟨hg45, trivial⟩) (fun hg45 => (op_load_p1 tyOne3 rfl rfl rfl)) ?_
          refine OpsL.keep [0, 1, 5, 8, 65, 66, 67, 73, 75, 77] [101, 103] (s' := ⟨[(0, .b (.one (.sl 5 (l.map eHolding)))), (1, I a), (5, .b (.ptr 101 0)), (8, .b (.ptr 103 0)), (65, .b (.one (.raw (.func (.func 62) #[] #[])))), (66, .b (.agg [.i ((getP l x.Body).Body), .i ((getP l x.Body).Epoch), .i ((getP l x.Body).Phase), .i ((getP l x.Body).Peer), .str ((getP l x.Body).Data)])), (67, .b (.agg [.i x.From, .i x.To, .i x.Kind, .i x.Body, .i x.Epoch, .str x.Data])), (73, B (decide (((getP l x.Body).Epoch) = x.Epoch))), (75, .opt (decide (((getP l x.Body).Epoch) = x.Epoch)) (.one (.i ((getP l x.Body).Peer)))), (77, .opt (decide (((getP l x.Body).Epoch) = x.Epoch)) (.one (.i x.From)))], [(101, .box 45 [.i x.From, .i x.To, .i x.Kind, .i x.Body, .i x.Epoch, .str x.Data]), (103, .box 59 [.i ((getP l x.Body).Body), .i ((getP l x.Body).Epoch), .i ((getP l x.Body).Phase), .i ((getP l x.Body).Peer), .str ((getP l x.Body).Data)])]⟩) rfl ?_
          refine OpsL.consG (decide (((getP l x.Body).Epoch) = x.Epoch)) 99 [75, 77] (.plain rfl) (eq_t _) rfl rfl (fun hg46 => ⟨hg46, hg46, trivial⟩) (fun hg46 => (op_eql rfl rfl)) ?_
          refine OpsL.cons rfl (op_pick_and (fun e => by first | exact e | (rw [e]; rfl) | simp_all) rfl rfl rfl rfl) ?_
          refine OpsL.cons rfl (op_callv0 (rule3_spec (getP l x.Body) x ((decide (((getP l x.Body).Epoch) = x.Epoch)) && (decide (((getP l x.Body).Peer) = x.From)))) goes62 rfl rfl rfl) ?_
          refine OpsL.cons rfl (op_move rfl) ?_
          refine OpsL.cons rfl (op_extract rfl rfl) ?_
          refine OpsL.cons rfl (op_extract rfl rfl) ?_
          refine OpsL.cons rfl (op_alloc (k := 117) tyZero59 rfl) ?_
          refine OpsL.cons rfl (op_store_p tyAgg59 rfl rfl rfl rfl (Nat.le_of_ble_eq_true rfl) rfl) ?_
          refine OpsL.cons rfl (op_assign rfl) ?_
          refine OpsL.nilK [0, 1, 5, 8, 11, 12] [101, 103, 117] (s' := ⟨[(0, .b (.one (.sl 5 (l.map eHolding)))), (1, I a), (5, .b (.ptr 101 0)), (8, .b (.ptr 103 0)), (11, .b (.ptr 117 0)), (12, I (ruleK 3 (getP l x.Body) x ((decide (((getP l x.Body).Epoch) = x.Epoch)) && (decide (((getP l x.Body).Peer) = x.From)))))], [(101, .box 45 [.i x.From, .i x.To, .i x.Kind, .i x.Body, .i x.Epoch, .str x.Data]), (103, .box 59 [.i ((getP l x.Body).Body), .i ((getP l x.Body).Epoch), .i ((getP l x.Body).Phase), .i ((getP l x.Body).Peer), .str ((getP l x.Body).Data)]), (117, .box 59 [.i ((ruleH 3 (getP l x.Body) x ((decide (((getP l x.Body).Epoch) = x.Epoch)) && (decide (((getP l x.Body).Peer) = x.From)))).Body), .i ((ruleH 3 (getP l x.Body) x ((decide (((getP l x.Body).Epoch) = x.Epoch)) && (decide (((getP l x.Body).Peer) = x.From)))).Epoch), .i ((ruleH 3 (getP l x.Body) x ((decide (((getP l x.Body).Epoch) = x.Epoch)) && (decide (((getP l x.Body).Peer) = x.From)))).Phase), .i ((ruleH 3 (getP l x.Body) x ((decide (((getP l x.Body).Epoch) = x.Epoch)) && (decide (((getP l x.Body).Peer) = x.From)))).Peer), .str ((ruleH 3 (getP l x.Body) x ((decide (((getP l x.Body).Epoch) = x.Epoch)) && (decide (((getP l x.Body).Peer) = x.From)))).Data)])]⟩) rfl ?_
          refine Tri.seq ?_
          refine Tri.regionL ?_
          refine OpsL.cons rfl (op_move rfl) ?_
          refine OpsL.cons rfl (op_call (clone_spec 118 l (by omega)) goes52 rfl trivial rfl rfl) ?_
          refine OpsL.cons rfl (op_assign rfl) ?_
          refine OpsL.nilK [0, 1, 5, 8, 11, 12, 13] [101, 103, 117, 118] (s' := ⟨[(0, .b (.one (.sl 5 (l.map eHolding)))), (1, I a), (5, .b (.ptr 101 0)), (8, .b (.ptr 103 0)), (11, .b (.ptr 117 0)), (12, I (ruleK 3 (getP l x.Body) x ((decide (((getP l x.Body).Epoch) = x.Epoch)) && (decide (((getP l x.Body).Peer) = x.From))))), (13, .b (.row 118))], [(101, .box 45 [.i x.From, .i x.To, .i x.Kind, .i x.Body, .i x.Epoch, .str x.Data]), (103, .box 59 [.i ((getP l x.Body).Body), .i ((getP l x.Body).Epoch), .i ((getP l x.Body).Phase), .i ((getP l x.Body).Peer), .str ((getP l x.Body).Data)]), (117, .box 59 [.i ((ruleH 3 (getP l x.Body) x ((decide (((getP l x.Body).Epoch) = x.Epoch)) && (decide (((getP l x.Body).Peer) = x.From)))).Body), .i ((ruleH 3 (getP l x.Body) x ((decide (((getP l x.Body).Epoch) = x.Epoch)) && (decide (((getP l x.Body).Peer) = x.From)))).Epoch), .i ((ruleH 3 (getP l x.Body) x ((decide (((getP l x.Body).Epoch) = x.Epoch)) && (decide (((getP l x.Body).Peer) = x.From)))).Phase), .i ((ruleH 3 (getP l x.Body) x ((decide (((getP l x.Body).Epoch) = x.Epoch)) && (decide (((getP l x.Body).Peer) = x.From)))).Peer), .str ((ruleH 3 (getP l x.Body) x ((decide (((getP l x.Body).Epoch) = x.Epoch)) && (decide (((getP l x.Body).Peer) = x.From)))).Data)]), (118, .row 59 5 (l.map eHolding))]⟩) rfl ?_
          refine Tri.seq ?_
          refine Tri.seq ?_
          refine Tri.regionL ?_
          refine OpsL.cons rfl (op_load_p tyAgg59 rfl rfl rfl rfl) ?_
          refine OpsL.cons rfl (op_load_p tyAgg59 rfl rfl rfl rfl) ?_
          refine OpsL.cons rfl (op_neq_agg (eqAgg59 (ruleH 3 (getP l x.Body) x ((decide (((getP l x.Body).Epoch) = x.Epoch)) && (decide (((getP l x.Body).Peer) = x.From)))) (getP l x.Body)) rfl rfl neg_dec) ?_
          refine OpsL.nilK [0, 1, 5, 11, 12, 13, 87] [101, 117, 118] (s' := ⟨[(0, .b (.one (.sl 5 (l.map eHolding)))), (1, I a), (5, .b (.ptr 101 0)), (11, .b (.ptr 117 0)), (12, I (ruleK 3 (getP l x.Body) x ((decide (((getP l x.Body).Epoch) = x.Epoch)) && (decide (((getP l x.Body).Peer) = x.From))))), (13, .b (.row 118)), (87, B (decide ((ruleH 3 (getP l x.Body) x ((decide (((getP l x.Body).Epoch) = x.Epoch)) && (decide (((getP l x.Body).Peer) = x.From)))) ≠ (getP l x.Body))))], [(101, .box 45 [.i x.From, .i x.To, .i x.Kind, .i x.Body, .i x.Epoch, .str x.Data]), (117, .box 59 [.i ((ruleH 3 (getP l x.Body) x ((decide (((getP l x.Body).Epoch) = x.Epoch)) && (decide (((getP l x.Body).Peer) = x.From)))).Body), .i ((ruleH 3 (getP l x.Body) x ((decide (((getP l x.Body).Epoch) = x.Epoch)) && (decide (((getP l x.Body).Peer) = x.From)))).Epoch), .i ((ruleH 3 (getP l x.Body) x ((decide (((getP l x.Body).Epoch) = x.Epoch)) && (decide (((getP l x.Body).Peer) = x.From)))).Phase), .i ((ruleH 3 (getP l x.Body) x ((decide (((getP l x.Body).Epoch) = x.Epoch)) && (decide (((getP l x.Body).Peer) = x.From)))).Peer), .str ((ruleH 3 (getP l x.Body) x ((decide (((getP l x.Body).Epoch) = x.Epoch)) && (decide (((getP l x.Body).Peer) = x.From)))).Data)]), (118, .row 59 5 (l.map eHolding))]⟩) rfl ?_
          refine Tri.cond rfl (fun hc47 => ?_) (fun hc47 => ?_)
          · try simp only [decide_eq_true_eq, decide_eq_false_iff_not, Bool.and_eq_true, Bool.or_eq_true, Bool.not_eq_true', Bool.not_eq_false', Bool.and_eq_false_iff, Bool.or_eq_false_iff, Int.not_lt, Int.not_le, ne_eq, Decidable.not_not] at hc47
            refine Tri.regionL ?_
            refine OpsL.cons rfl (op_move rfl) ?_
            refine OpsL.cons rfl (op_load_p tyAgg59 rfl rfl rfl rfl) ?_
            refine OpsL.cons rfl (op_call (set_spec 119 l (ruleH 3 (getP l x.Body) x ((decide (((getP l x.Body).Epoch) = x.Epoch)) && (decide (((getP l x.Body).Peer) = x.From)))) (by omega) (by exact setOk_rule hs hs2)) goes46 rfl trivial rfl rfl) ?_
            refine OpsL.cons rfl (op_assign rfl) ?_
            refine OpsL.nilK [1, 5, 12, 13] [101, 119] (s' := ⟨[(1, I a), (5, .b (.ptr 101 0)), (12, I (ruleK 3 (getP l x.Body) x ((decide (((getP l x.Body).Epoch) = x.Epoch)) && (decide (((getP l x.Body).Peer) = x.From))))), (13, .b (.row 119))], [(101, .box 45 [.i x.From, .i x.To, .i x.Kind, .i x.Body, .i x.Epoch, .str x.Data]), (119, .row 59 5 ((setP l (ruleH 3 (getP l x.Body) x ((decide (((getP l x.Body).Epoch) = x.Epoch)) && (decide (((getP l x.Body).Peer) = x.From))))).map eHolding))]⟩) rfl ?_
            refine Tri.seq ?_
            refine Tri.seq ?_
            refine Tri.regionL ?_
            refine OpsL.cons rfl (op_move rfl) ?_
            refine OpsL.cons rfl (op_eql rfl rfl) ?_
            refine OpsL.nilK [1, 5, 12, 13, 92] [101, 119] (s' := ⟨[(1, I a), (5, .b (.ptr 101 0)), (12, I (ruleK 3 (getP l x.Body) x ((decide (((getP l x.Body).Epoch) = x.Epoch)) && (decide (((getP l x.Body).Peer) = x.From))))), (13, .b (.row 119)), (92, B (decide ((ruleK 3 (getP l x.Body) x ((decide (((getP l x.Body).Epoch) = x.Epoch)) && (decide (((getP l x.Body).Peer) = x.From)))) = 0)))], [(101, .box 45 [.i x.From, .i x.To, .i x.Kind, .i x.Body, .i x.Epoch, .str x.Data]), (119, .row 59 5 ((setP l (ruleH 3 (getP l x.Body) x ((decide (((getP l x.Body).Epoch) = x.Epoch)) && (decide (((getP l x.Body).Peer) = x.From))))).map eHolding))]⟩) rfl ?_
            refine Tri.cond rfl (fun hc48 => ?_) (fun hc48 => ?_)
            · try simp only [decide_eq_true_eq, decide_eq_false_iff_not, Bool.and_eq_true, Bool.or_eq_true, Bool.not_eq_true', Bool.not_eq_false', Bool.and_eq_false_iff, Bool.or_eq_false_iff, Int.not_lt, Int.not_le, ne_eq, Decidable.not_not] at hc48
              refine Tri.seq ?_
              refine Tri.regionL ?_
              refine OpsL.cons rfl (op_move rfl) ?_
              refine OpsL.cons rfl (op_assign rfl) ?_
              refine OpsL.cons rfl (op_assign rfl) ?_
              refine OpsL.nilK [6, 7] [119] (s' := ⟨[(6, .b (.row 119)), (7, .b (.one (.nil)))], [(119, .row 59 5 ((setP l (ruleH 3 (getP l x.Body) x ((decide (((getP l x.Body).Epoch) = x.Epoch)) && (decide (((getP l x.Body).Peer) = x.From))))).map eHolding))]⟩) rfl ?_
              refine Tri.ret ?_
              refine Fin.then_ret ?_
              refine Fin.block_ret ?_
              refine Fin.then_ret ?_
              refine Fin.then_ret ?_
              refine Fin.block_ret ?_
              refine Fin.then_ret ?_
              refine Fin.keep [6, 7] [119] (s' := ⟨[(6, .b (.row 119)), (7, .b (.one (.nil)))], [(119, .row 59 5 ((setP l (ruleH 3 (getP l x.Body) x ((decide (((getP l x.Body).Epoch) = x.Epoch)) && (decide (((getP l x.Body).Peer) = x.From))))).map eHolding))]⟩) rfl ?_
              refine Fin.persist 119 rfl ?_
              refine Fin.nilsl 7 6 rfl (by decide) ?_
              refine Fin.result' [.one (.sl 5 ((setP l (ruleH 3 (getP l x.Body) x ((decide (((getP l x.Body).Epoch) = x.Epoch)) && (decide (((getP l x.Body).Peer) = x.From))))).map eHolding)), .one (.sl 6 ([].map eParcel))] (.inl rfl) rfl (.cons (.tmp rfl) (.cons (.tmp rfl) .nil)) ?_
              have e0 : (recvL l a x) = (setP l (ruleH 3 (getP l x.Body) x ((decide (((getP l x.Body).Epoch) = x.Epoch)) && (decide (((getP l x.Body).Peer) = x.From))))) := by first | exact recvL_new 3 3 hb (by assumption) (by decide) (by decide) (by assumption) | exact recvP_none 3 3 hb (by assumption) (by decide) (by decide) (by assumption)
              rw [e0]
              have e1 : (recvP l a x) = [] := by first | exact recvL_new 3 3 hb (by assumption) (by decide) (by decide) (by assumption) | exact recvP_none 3 3 hb (by assumption) (by decide) (by decide) (by assumption)
              rw [e1]
              exact ⟨rfl, rfl⟩
            · try simp only [decide_eq_true_eq, decide_eq_false_iff_not, Bool.and_eq_true, Bool.or_eq_true, Bool.not_eq_true', Bool.not_eq_false', Bool.and_eq_false_iff, Bool.or_eq_false_iff, Int.not_lt, Int.not_le, ne_eq, Decidable.not_not] at hc48
              refine Tri.skip ?_
              refine Fin.keep [1, 5, 12, 13] [101, 119] (s' := ⟨[(1, I a), (5, .b (.ptr 101 0)), (12, I (ruleK 3 (getP l x.Body) x ((decide (((getP l x.Body).Epoch) = x.Epoch)) && (decide (((getP l x.Body).Peer) = x.From))))), (13, .b (.row 119))], [(101, .box 45 [.i x.From, .i x.To, .i x.Kind, .i x.Body, .i x.Epoch, .str x.Data]), (119, .row 59 5 ((setP l (ruleH 3 (getP l x.Body) x ((decide (((getP l x.Body).Epoch) = x.Epoch)) && (decide (((getP l x.Body).Peer) = x.From))))).map eHolding))]⟩) rfl ?_
              refine Fin.then ?_
              refine Tri.seq ?_
              refine Tri.keep [1, 5, 12, 13] [101, 119] (s' := ⟨[(1, I a), (5, .b (.ptr 101 0)), (12, I (ruleK 3 (getP l x.Body) x ((decide (((getP l x.Body).Epoch) = x.Epoch)) && (decide (((getP l x.Body).Peer) = x.From))))), (13, .b (.row 119))], [(101, .box 45 [.i x.From, .i x.To, .i x.Kind, .i x.Body, .i x.Epoch, .str x.Data]), (119, .row 59 5 ((setP l (ruleH 3 (getP l x.Body) x ((decide (((getP l x.Body).Epoch) = x.Epoch)) && (decide (((getP l x.Body).Peer) = x.From))))).map eHolding))]⟩) rfl ?_
              refine Tri.regionD mixed [.b (.row 119), I a, .b (.ptr 101 0), I x.From, I (ruleK 3 (getP l x.Body) x ((decide (((getP l x.Body).Epoch) = x.Epoch)) && (decide (((getP l x.Body).Peer) = x.From)))), .b (.ptr 101 3), I x.Body, .b (.ptr 101 4), I x.Epoch, .b (.agg [.i a, .i x.From, .i (ruleK 3 (getP l x.Body) x ((decide (((getP l x.Body).Epoch) = x.Epoch)) && (decide (((getP l x.Body).Peer) = x.From)))), .i x.Body, .i x.Epoch, .str []]), .b (.one (.sl 6 ([(⟨a, x.From, ruleK 3 (getP l x.Body) x ((decide (((getP l x.Body).Epoch) = x.Epoch)) && (decide (((getP l x.Body).Peer) = x.From))), x.Body, x.Epoch, []⟩ : Parcel)].map eParcel))), .b (.row 119), .b (.one (.sl 6 ([(⟨a, x.From, ruleK 3 (getP l x.Body) x ((decide (((getP l x.Body).Epoch) = x.Epoch)) && (decide (((getP l x.Body).Peer) = x.From))), x.Body, x.Epoch, []⟩ : Parcel)].map eParcel)))] [6, 7] [119] (s' := ⟨[(6, .b (.row 119)), (7, .b (.one (.sl 6 ([(⟨a, x.From, ruleK 3 (getP l x.Body) x ((decide (((getP l x.Body).Epoch) = x.Epoch)) && (decide (((getP l x.Body).Peer) = x.From))), x.Body, x.Epoch, []⟩ : Parcel)].map eParcel))))], [(119, .row 59 5 ((setP l (ruleH 3 (getP l x.Body) x ((decide (((getP l x.Body).Epoch) = x.Epoch)) && (decide (((getP l x.Body).Peer) = x.From))))).map eHolding))]⟩) rfl ⟨fun _ => .plain rfl (op_move rfl), fun _ => .plain rfl (op_move rfl), fun _ => .plain rfl (op_field_p tyFld45_0 rfl rfl), fun _ => .plain rfl (op_load_p1 tyOne3 rfl rfl rfl), fun _ => .plain rfl (op_move rfl), fun _ => .plain rfl (op_field_p tyFld45_3 rfl rfl), fun _ => .plain rfl (op_load_p1 tyOne3 rfl rfl rfl), fun _ => .plain rfl (op_field_p tyFld45_4 rfl rfl), fun _ => .plain rfl (op_load_p1 tyOne3 rfl rfl rfl), fun _ => .plain rfl (op_build tyBuild45 rfl rfl), fun _ => .plain rfl (op_buildSliceP (es := [(⟨a, x.From, ruleK 3 (getP l x.Body) x ((decide (((getP l x.Body).Epoch) = x.Epoch)) && (decide (((getP l x.Body).Peer) = x.From))), x.Body, x.Epoch, []⟩ : Parcel)].map eParcel) tySl38 rfl rfl (uni_map fun _ => rfl) rfl (by decide) (by decide)), fun _ => .plain rfl (op_assign rfl), fun _ => .plain rfl (op_assign rfl), trivial⟩ rfl ?_
              refine Tri.ret ?_
              refine Fin.block_ret ?_
              refine Fin.then_ret ?_
              refine Fin.then_ret ?_
              refine Fin.block_ret ?_
              refine Fin.then_ret ?_
              refine Fin.keep [6, 7] [119] (s' := ⟨[(6, .b (.row 119)), (7, .b (.one (.sl 6 ([(⟨a, x.From, ruleK 3 (getP l x.Body) x ((decide (((getP l x.Body).Epoch) = x.Epoch)) && (decide (((getP l x.Body).Peer) = x.From))), x.Body, x.Epoch, []⟩ : Parcel)].map eParcel))))], [(119, .row 59 5 ((setP l (ruleH 3 (getP l x.Body) x ((decide (((getP l x.Body).Epoch) = x.Epoch)) && (decide (((getP l x.Body).Peer) = x.From))))).map eHolding))]⟩) rfl ?_
              refine Fin.persist 119 rfl ?_
              refine Fin.result' [.one (.sl 5 ((setP l (ruleH 3 (getP l x.Body) x ((decide (((getP l x.Body).Epoch) = x.Epoch)) && (decide (((getP l x.Body).Peer) = x.From))))).map eHolding)), .one (.sl 6 ([(⟨a, x.From, ruleK 3 (getP l x.Body) x ((decide (((getP l x.Body).Epoch) = x.Epoch)) && (decide (((getP l x.Body).Peer) = x.From))), x.Body, x.Epoch, []⟩ : Parcel)].map eParcel))] (.inl rfl) rfl (.cons (.tmp rfl) (.cons (.tmp rfl) .nil)) ?_
              have e0 : (recvL l a x) = (setP l (ruleH 3 (getP l x.Body) x ((decide (((getP l x.Body).Epoch) = x.Epoch)) && (decide (((getP l x.Body).Peer) = x.From))))) := by first | exact recvL_new 3 3 hb (by assumption) (by decide) (by decide) (by assumption) | exact recvP_one 3 3 hb (by assumption) (by decide) (by decide) (by assumption)
              rw [e0]
              have e1 : (recvP l a x) = [(⟨a, x.From, ruleK 3 (getP l x.Body) x ((decide (((getP l x.Body).Epoch) = x.Epoch)) && (decide (((getP l x.Body).Peer) = x.From))), x.Body, x.Epoch, []⟩ : Parcel)] := by first | exact recvL_new 3 3 hb (by assumption) (by decide) (by decide) (by assumption) | exact recvP_one 3 3 hb (by assumption) (by decide) (by decide) (by assumption)
              rw [e1]
              exact ⟨rfl, rfl⟩
          · try simp only [decide_eq_true_eq, decide_eq_false_iff_not, Bool.and_eq_true, Bool.or_eq_true, Bool.not_eq_true', Bool.not_eq_false', Bool.and_eq_false_iff, Bool.or_eq_false_iff, Int.not_lt, Int.not_le, ne_eq, Decidable.not_not] at hc47
            refine Tri.skip ?_
            refine Fin.keep [1, 5, 12, 13] [101, 118] (s' := ⟨[(1, I a), (5, .b (.ptr 101 0)), (12, I (ruleK 3 (getP l x.Body) x ((decide (((getP l x.Body).Epoch) = x.Epoch)) && (decide (((getP l x.Body).Peer) = x.From))))), (13, .b (.row 118))], [(101, .box 45 [.i x.From, .i x.To, .i x.Kind, .i x.Body, .i x.Epoch, .str x.Data]), (118, .row 59 5 (l.map eHolding))]⟩) rfl ?_
            refine Fin.then ?_
            refine Tri.seq ?_
            refine Tri.seq ?_
            refine Tri.regionL ?_
            refine OpsL.cons rfl (op_move rfl) ?_
            refine OpsL.cons rfl (op_eql rfl rfl) ?_
            refine OpsL.nilK [1, 5, 12, 13, 92] [101, 118] (s' := ⟨[(1, I a), (5, .b (.ptr 101 0)), (12, I (ruleK 3 (getP l x.Body) x ((decide (((getP l x.Body).Epoch) = x.Epoch)) && (decide (((getP l x.Body).Peer) = x.From))))), (13, .b (.row 118)), (92, B (decide ((ruleK 3 (getP l x.Body) x ((decide (((getP l x.Body).Epoch) = x.Epoch)) && (decide (((getP l x.Body).Peer) = x.From)))) = 0)))], [(101, .box 45 [.i x.From, .i x.To, .i x.Kind, .i x.Body, .i x.Epoch, .str x.Data]), (118, .row 59 5 (l.map eHolding))]⟩) rfl ?_
            refine Tri.cond rfl (fun hc49 => ?_) (fun hc49 => ?_)
            · try simp only [decide_eq_true_eq, decide_eq_false_iff_not, Bool.and_eq_true, Bool.or_eq_true, Bool.not_eq_true', Bool.not_eq_false', Bool.and_eq_false_iff, Bool.or_eq_false_iff, Int.not_lt, Int.not_le, ne_eq, Decidable.not_not] at hc49
              refine Tri.seq ?_
              refine Tri.regionL ?_
              refine OpsL.cons rfl (op_move rfl) ?_
              refine OpsL.cons rfl (op_assign rfl) ?_
              refine OpsL.cons rfl (op_assign rfl) ?_
              refine OpsL.nilK [6, 7] [118] (s' := ⟨[(6, .b (.row 118)), (7, .b (.one (.nil)))], [(118, .row 59 5 (l.map eHolding))]⟩) rfl ?_
              refine Tri.ret ?_
              refine Fin.then_ret ?_
              refine Fin.block_ret ?_
              refine Fin.then_ret ?_
              refine Fin.then_ret ?_
              refine Fin.block_ret ?_
              refine Fin.then_ret ?_
              refine Fin.keep [6, 7] [118] (s' := ⟨[(6, .b (.row 118)), (7, .b (.one (.nil)))], [(118, .row 59 5 (l.map eHolding))]⟩) rfl ?_
              refine Fin.persist 118 rfl ?_
              refine Fin.nilsl 7 6 rfl (by decide) ?_
              refine Fin.result' [.one (.sl 5 (l.map eHolding)), .one (.sl 6 ([].map eParcel))] (.inl rfl) rfl (.cons (.tmp rfl) (.cons (.tmp rfl) .nil)) ?_
              have e0 : (recvL l a x) = l := by first | exact recvL_old 3 3 hb (by assumption) (by decide) (by decide) (by assumption) | exact recvP_none 3 3 hb (by assumption) (by decide) (by decide) (by assumption)
              rw [e0]
              have e1 : (recvP l a x) = [] := by first | exact recvL_old 3 3 hb (by assumption) (by decide) (by decide) (by assumption) | exact recvP_none 3 3 hb (by assumption) (by decide) (by decide) (by assumption)
              rw [e1]
              exact ⟨rfl, rfl⟩
            · try simp only [decide_eq_true_eq, decide_eq_false_iff_not, Bool.and_eq_true, Bool.or_eq_true, Bool.not_eq_true', Bool.not_eq_false', Bool.and_eq_false_iff, Bool.or_eq_false_iff, Int.not_lt, Int.not_le, ne_eq, Decidable.not_not] at hc49
              refine Tri.skip ?_
              refine Fin.keep [1, 5, 12, 13] [101, 118] (s' := ⟨[(1, I a), (5, .b (.ptr 101 0)), (12, I (ruleK 3 (getP l x.Body) x ((decide (((getP l x.Body).Epoch) = x.Epoch)) && (decide (((getP l x.Body).Peer) = x.From))))), (13, .b (.row 118))], [(101, .box 45 [.i x.From, .i x.To, .i x.Kind, .i x.Body, .i x.Epoch, .str x.Data]), (118, .row 59 5 (l.map eHolding))]⟩) rfl ?_
              refine Fin.then ?_
              refine Tri.seq ?_
              refine Tri.keep [1, 5, 12, 13] [101, 118] (s' := ⟨[(1, I a), (5, .b (.ptr 101 0)), (12, I (ruleK 3 (getP l x.Body) x ((decide (((getP l x.Body).Epoch) = x.Epoch)) && (decide (((getP l x.Body).Peer) = x.From))))), (13, .b (.row 118))], [(101, .box 45 [.i x.From, .i x.To, .i x.Kind, .i x.Body, .i x.Epoch, .str x.Data]), (118, .row 59 5 (l.map eHolding))]⟩) rfl ?_
              refine Tri.regionD mixed [.b (.row 118), I a, .b (.ptr 101 0), I x.From, I (ruleK 3 (getP l x.Body) x ((decide (((getP l x.Body).Epoch) = x.Epoch)) && (decide (((getP l x.Body).Peer) = x.From)))), .b (.ptr 101 3), I x.Body, .b (.ptr 101 4), I x.Epoch, .b (.agg [.i a, .i x.From, .i (ruleK 3 (getP l x.Body) x ((decide (((getP l x.Body).Epoch) = x.Epoch)) && (decide (((getP l x.Body).Peer) = x.From)))), .i x.Body, .i x.Epoch, .str []]), .b (.one (.sl 6 ([(⟨a, x.From, ruleK 3 (getP l x.Body) x ((decide (((getP l x.Body).Epoch) = x.Epoch)) && (decide (((getP l x.Body).Peer) = x.From))), x.Body, x.Epoch, []⟩ : Parcel)].map eParcel))), .b (.row 118), .b (.one (.sl 6 ([(⟨a, x.From, ruleK 3 (getP l x.Body) x ((decide (((getP l x.Body).Epoch) = x.Epoch)) && (decide (((getP l x.Body).Peer) = x.From))), x.Body, x.Epoch, []⟩ : Parcel)].map eParcel)))] [6, 7] [118] (s' := ⟨[(6, .b (.row 118)), (7, .b (.one (.sl 6 ([(⟨a, x.From, ruleK 3 (getP l x.Body) x ((decide (((getP l x.Body).Epoch) = x.Epoch)) && (decide (((getP l x.Body).Peer) = x.From))), x.Body, x.Epoch, []⟩ : Parcel)].map eParcel))))], [(118, .row 59 5 (l.map eHolding))]⟩) rfl ⟨fun _ => .plain rfl (op_move rfl), fun _ => .plain rfl (op_move rfl), fun _ => .plain rfl (op_field_p tyFld45_0 rfl rfl), fun _ => .plain rfl (op_load_p1 tyOne3 rfl rfl rfl), fun _ => .plain rfl (op_move rfl), fun _ => .plain rfl (op_field_p tyFld45_3 rfl rfl), fun _ => .plain rfl (op_load_p1 tyOne3 rfl rfl rfl), fun _ => .plain rfl (op_field_p tyFld45_4 rfl rfl), fun _ => .plain rfl (op_load_p1 tyOne3 rfl rfl rfl), fun _ => .plain rfl (op_build tyBuild45 rfl rfl), fun _ => .plain rfl (op_buildSliceP (es := [(⟨a, x.From, ruleK 3 (getP l x.Body) x ((decide (((getP l x.Body).Epoch) = x.Epoch)) && (decide (((getP l x.Body).Peer) = x.From))), x.Body, x.Epoch, []⟩ : Parcel)].map eParcel) tySl38 rfl rfl (uni_map fun _ => rfl) rfl (by decide) (by decide)), fun _ => .plain rfl (op_assign rfl), fun _ => .plain rfl (op_assign rfl), trivial⟩ rfl ?_
              refine Tri.ret ?_
              refine Fin.block_ret ?_
              refine Fin.then_ret ?_
              refine Fin.then_ret ?_
              refine Fin.block_ret ?_
              refine Fin.then_ret ?_
              refine Fin.keep [6, 7] [118] (s' := ⟨[(6, .b (.row 118)), (7, .b (.one (.sl 6 ([(⟨a, x.From, ruleK 3 (getP l x.Body) x ((decide (((getP l x.Body).Epoch) = x.Epoch)) && (decide (((getP l x.Body).Peer) = x.From))), x.Body, x.Epoch, []⟩ : Parcel)].map eParcel))))], [(118, .row 59 5 (l.map eHolding))]⟩) rfl ?_
              refine Fin.persist 118 rfl ?_
              refine Fin.result' [.one (.sl 5 (l.map eHolding)), .one (.sl 6 ([(⟨a, x.From, ruleK 3 (getP l x.Body) x ((decide (((getP l x.Body).Epoch) = x.Epoch)) && (decide (((getP l x.Body).Peer) = x.From))), x.Body, x.Epoch, []⟩ : Parcel)].map eParcel))] (.inl rfl) rfl (.cons (.tmp rfl) (.cons (.tmp rfl) .nil)) ?_
              have e0 : (recvL l a x) = l := by first | exact recvL_old 3 3 hb (by assumption) (by decide) (by decide) (by assumption) | exact recvP_one 3 3 hb (by assumption) (by decide) (by decide) (by assumption)
              rw [e0]
              have e1 : (recvP l a x) = [(⟨a, x.From, ruleK 3 (getP l x.Body) x ((decide (((getP l x.Body).Epoch) = x.Epoch)) && (decide (((getP l x.Body).Peer) = x.From))), x.Body, x.Epoch, []⟩ : Parcel)] := by first | exact recvL_old 3 3 hb (by assumption) (by decide) (by decide) (by assumption) | exact recvP_one 3 3 hb (by assumption) (by decide) (by decide) (by assumption)
              rw [e1]
              exact ⟨rfl, rfl⟩
      · exact absurd hc40 (by simp)
    · show Tri _ _ _ _ ⟨[(0, .b (.one (.sl 5 (l.map eHolding)))), (1, I a), (5, .b (.ptr 101 0)), (8, .b (.ptr 103 0)), (52, .b (.one (.sl 2 ([(⟨1, 60⟩ : Rule), (⟨2, 61⟩ : Rule), (⟨3, 62⟩ : Rule), (⟨4, 63⟩ : Rule)].map eRule)))), (53, I 4), (54, I 3)], [(101, .box 45 [.i x.From, .i x.To, .i x.Kind, .i x.Body, .i x.Epoch, .str x.Data]), (103, .box 59 [.i ((getP l x.Body).Body), .i ((getP l x.Body).Epoch), .i ((getP l x.Body).Phase), .i ((getP l x.Body).Peer), .str ((getP l x.Body).Data)])]⟩ _
      refine Tri.seq ?_
      refine Tri.regionL ?_
      refine OpsL.cons rfl (op_lss rfl rfl) ?_
      refine OpsL.nilK [0, 1, 5, 8, 52, 53, 54, 55] [101, 103] (s' := ⟨[(0, .b (.one (.sl 5 (l.map eHolding)))), (1, I a), (5, .b (.ptr 101 0)), (8, .b (.ptr 103 0)), (52, .b (.one (.sl 2 ([(⟨1, 60⟩ : Rule), (⟨2, 61⟩ : Rule), (⟨3, 62⟩ : Rule), (⟨4, 63⟩ : Rule)].map eRule)))), (53, I 4), (54, I 3), (55, B true)], [(101, .box 45 [.i x.From, .i x.To, .i x.Kind, .i x.Body, .i x.Epoch, .str x.Data]), (103, .box 59 [.i ((getP l x.Body).Body), .i ((getP l x.Body).Epoch), .i ((getP l x.Body).Phase), .i ((getP l x.Body).Peer), .str ((getP l x.Body).Data)])]⟩) rfl ?_
      refine Tri.seq ?_
      refine Tri.cond rfl (fun hc50 => ?_) (fun hc50 => ?_)
      · try simp only [decide_eq_true_eq, decide_eq_false_iff_not, Bool.and_eq_true, Bool.or_eq_true, Bool.not_eq_true', Bool.not_eq_false', Bool.and_eq_false_iff, Bool.or_eq_false_iff, Int.not_lt, Int.not_le, ne_eq, Decidable.not_not] at hc50
        refine Tri.skip ?_
        refine Fin.keep [0, 1, 5, 8, 52, 53, 54] [101, 103] (s' := ⟨[(0, .b (.one (.sl 5 (l.map eHolding)))), (1, I a), (5, .b (.ptr 101 0)), (8, .b (.ptr 103 0)), (52, .b (.one (.sl 2 ([(⟨1, 60⟩ : Rule), (⟨2, 61⟩ : Rule), (⟨3, 62⟩ : Rule), (⟨4, 63⟩ : Rule)].map eRule)))), (53, I 4), (54, I 3)], [(101, .box 45 [.i x.From, .i x.To, .i x.Kind, .i x.Body, .i x.Epoch, .str x.Data]), (103, .box 59 [.i ((getP l x.Body).Body), .i ((getP l x.Body).Epoch), .i ((getP l x.Body).Phase), .i ((getP l x.Body).Peer), .str ((getP l x.Body).Data)])]⟩) rfl ?_
        refine Fin.then ?_
        refine Tri.seq ?_
        refine Tri.block ?_
        refine Tri.seq ?_
        refine Tri.regionL ?_
        refine OpsL.cons rfl (op_index_e tySl77 (by decide) rfl rfl rfl) ?_
        refine OpsL.cons rfl (op_load_e tyAgg81 rfl rfl rfl) ?_
        refine OpsL.cons rfl (op_alloc (k := 122) tyZero81 rfl) ?_
        refine OpsL.cons rfl (op_store_p tyAgg81 rfl rfl rfl rfl (Nat.le_of_ble_eq_true rfl) rfl) ?_
        refine OpsL.nilK [0, 1, 5, 8, 10, 52, 53, 54] [101, 103, 122] (s' := ⟨[(0, .b (.one (.sl 5 (l.map eHolding)))), (1, I a), (5, .b (.ptr 101 0)), (8, .b (.ptr 103 0)), (10, .b (.ptr 122 0)), (52, .b (.one (.sl 2 ([(⟨1, 60⟩ : Rule), (⟨2, 61⟩ : Rule), (⟨3, 62⟩ : Rule), (⟨4, 63⟩ : Rule)].map eRule)))), (53, I 4), (54, I 3)], [(101, .box 45 [.i x.From, .i x.To, .i x.Kind, .i x.Body, .i x.Epoch, .str x.Data]), (103, .box 59 [.i ((getP l x.Body).Body), .i ((getP l x.Body).Epoch), .i ((getP l x.Body).Phase), .i ((getP l x.Body).Peer), .str ((getP l x.Body).Data)]), (122, .box 81 [.i 4, .raw (.func (.func 63) #[] #[])])]⟩) rfl ?_
        refine Tri.seq ?_
        refine Tri.seq ?_
        refine Tri.regionL ?_
        refine OpsL.cons rfl (op_field_p tyFld81_0 rfl rfl) ?_
        refine OpsL.cons rfl (op_load_p1 tyOne3 rfl rfl rfl) ?_
        refine OpsL.cons rfl (op_field_p tyFld45_2 rfl rfl) ?_
        refine OpsL.cons rfl (op_load_p1 tyOne3 rfl rfl rfl) ?_
        refine OpsL.cons rfl (op_neq rfl rfl) ?_
        refine OpsL.nilK [0, 1, 5, 8, 10, 52, 53, 54, 62] [101, 103, 122] (s' := ⟨[(0, .b (.one (.sl 5 (l.map eHolding)))), (1, I a), (5, .b (.ptr 101 0)), (8, .b (.ptr 103 0)), (10, .b (.ptr 122 0)), (52, .b (.one (.sl 2 ([(⟨1, 60⟩ : Rule), (⟨2, 61⟩ : Rule), (⟨3, 62⟩ : Rule), (⟨4, 63⟩ : Rule)].map eRule)))), (53, I 4), (54, I 3), (62, B (decide (4 ≠ x.Kind)))], [(101, .box 45 [.i x.From, .i x.To, .i x.Kind, .i x.Body, .i x.Epoch, .str x.Data]), (103, .box 59 [.i ((getP l x.Body).Body), .i ((getP l x.Body).Epoch), .i ((getP l x.Body).Phase), .i ((getP l x.Body).Peer), .str ((getP l x.Body).Data)]), (122, .box 81 [.i 4, .raw (.func (.func 63) #[] #[])])]⟩) rfl ?_
        refine Tri.cond rfl (fun hc51 => ?_) (fun hc51 => ?_)
        · try simp only [decide_eq_true_eq, decide_eq_false_iff_not, Bool.and_eq_true, Bool.or_eq_true, Bool.not_eq_true', Bool.not_eq_false', Bool.and_eq_false_iff, Bool.or_eq_false_iff, Int.not_lt, Int.not_le, ne_eq, Decidable.not_not] at hc51
          refine Tri.exit ?_
          refine Fin.then_exit ?_
          refine Fin.block_exit ?_
          refine Fin.keep [0, 1, 5, 8, 52, 53, 54] [101, 103] (s' := ⟨[(0, .b (.one (.sl 5 (l.map eHolding)))), (1, I a), (5, .b (.ptr 101 0)), (8, .b (.ptr 103 0)), (52, .b (.one (.sl 2 ([(⟨1, 60⟩ : Rule), (⟨2, 61⟩ : Rule), (⟨3, 62⟩ : Rule), (⟨4, 63⟩ : Rule)].map eRule)))), (53, I 4), (54, I 3)], [(101, .box 45 [.i x.From, .i x.To, .i x.Kind, .i x.Body, .i x.Epoch, .str x.Data]), (103, .box 59 [.i ((getP l x.Body).Body), .i ((getP l x.Body).Epoch), .i ((getP l x.Body).Phase), .i ((getP l x.Body).Peer), .str ((getP l x.Body).Data)])]⟩) rfl ?_
          refine Fin.then ?_
          refine Tri.regionL ?_
          refine OpsL.cons rfl (op_add' (inR_i64 (by decide) (by decide)) rfl rfl) ?_
          refine OpsL.cons rfl (op_move rfl) ?_
          refine OpsL.nil ?_
          refine Fin.keep [0, 1, 5, 8, 52, 53, 54] [101, 103] (s' := ⟨[(0, .b (.one (.sl 5 (l.map eHolding)))), (1, I a), (5, .b (.ptr 101 0)), (8, .b (.ptr 103 0)), (52, .b (.one (.sl 2 ([(⟨1, 60⟩ : Rule), (⟨2, 61⟩ : Rule), (⟨3, 62⟩ : Rule), (⟨4, 63⟩ : Rule)].map eRule)))), (53, I 4), (54, I 4)], [(101, .box 45 [.i x.From, .i x.To, .i x.Kind, .i x.Body, .i x.Epoch, .str x.Data]), (103, .box 59 [.i ((getP l x.Body).Body), .i ((getP l x.Body).Epoch), .i ((getP l x.Body).Phase), .i ((getP l x.Body).Peer), .str ((getP l x.Body).Data)])]⟩) rfl ?_
          refine Fin.again 4 (by exact ⟨by omega, by omega, kinds_step hne (by assumption)⟩) (by first | omega | (dsimp only; omega)) rfl
        · try simp only [decide_eq_true_eq, decide_eq_false_iff_not, Bool.and_eq_true, Bool.or_eq_true, Bool.not_eq_true', Bool.not_eq_false', Bool.and_eq_false_iff, Bool.or_eq_false_iff, Int.not_lt, Int.not_le, ne_eq, Decidable.not_not] at hc51
          refine Tri.skip ?_
          refine Fin.keep [0, 1, 5, 8, 10] [101, 103, 122] (s' := ⟨[(0, .b (.one (.sl 5 (l.map eHolding)))), (1, I a), (5, .b (.ptr 101 0)), (8, .b (.ptr 103 0)), (10, .b (.ptr 122 0))], [(101, .box 45 [.i x.From, .i x.To, .i x.Kind, .i x.Body, .i x.Epoch, .str x.Data]), (103, .box 59 [.i ((getP l x.Body).Body), .i ((getP l x.Body).Epoch), .i ((getP l x.Body).Phase), .i ((getP l x.Body).Peer), .str ((getP l x.Body).Data)]), (122, .box 81 [.i 4, .raw (.func (.func 63) #[] #[])])]⟩) rfl ?_
          refine Fin.then ?_
          refine Tri.seq ?_
          refine Tri.regionL ?_
          refine OpsL.cons rfl (op_field_p tyFld81_1 rfl rfl) ?_
          refine OpsL.cons rfl (op_load_p1 tyOne79 rfl rfl rfl) ?_
          refine OpsL.cons rfl (op_load_p tyAgg59 rfl rfl rfl rfl) ?_
          refine OpsL.cons rfl (op_load_p tyAgg45 rfl rfl rfl rfl) ?_
          refine OpsL.cons rfl (op_field_p tyFld59_1 rfl rfl) ?_
          refine OpsL.cons rfl (op_load_p1 tyOne3 rfl rfl rfl) ?_
          refine OpsL.cons rfl (op_field_p tyFld45_4 rfl rfl) ?_
          refine OpsL.keep [0, 1, 5, 8, 65, 66, 67, 69, 70] [101, 103] (s' := ⟨[(0, .b (.one (.sl 5 (l.map eHolding)))), (1, I a), (5, .b (.ptr 101 0)), (8, .b (.ptr 103 0)), (65, .b (.one (.raw (.func (.func 63) #[] #[])))), (66, .b (.agg [.i ((getP l x.Body).Body), .i ((getP l x.Body).Epoch), .i ((getP l x.Body).Phase), .i ((getP l x.Body).Peer), .str ((getP l x.Body).Data)])), (67, .b (.agg [.i x.From, .i x.To, .i x.Kind, .i x.Body, .i x.Epoch, .str x.Data])), (69, I ((getP l x.Body).Epoch)), (70, .b (.ptr 101 4))], [(101, .box 45 [.i x.From, .i x.To, .i x.Kind, .i x.Body, .i x.Epoch, .str x.Data]), (103, .box 59 [.i ((getP l x.Body).Body), .i ((getP l x.Body).Epoch), .i ((getP l x.Body).Phase), .i ((getP l x.Body).Peer), .str ((getP l x.Body).Data)])]⟩) rfl ?_
          refine OpsL.cons rfl (op_load_p1 tyOne3 rfl rfl rfl) ?_
          refine OpsL.cons rfl (op_eql rfl rfl) ?_
          refine OpsL.cons rfl (op_move rfl) ?_
          refine OpsL.consG (decide (((getP l x.Body).Epoch) = x.Epoch)) 99 [] (.plain rfl) (eq_t _) rfl rfl (fun hg52 => trivial) (fun hg52 => (op_field_p tyFld59_3 rfl rfl)) ?_
          refine OpsL.consG (decide (((getP l x.Body).Epoch) = x.Epoch)) 99 [74] (.plain rfl) (eq_t _) rfl rfl (fun hg53 => ⟨hg53, trivial⟩) (fun hg53 => (op_load_p1 tyOne3 rfl rfl rfl)) ?_
          refine OpsL.consG (decide (((getP l x.Body).Epoch) = x.Epoch)) 99 [] (.plain rfl) (eq_t _) rfl rfl (fun hg54 => trivial) (fun hg54 => (op_field_p tyFld45_0 rfl rfl)) ?_
          refine OpsL.consG (decide (((getP l x.Body).Epoch) = x.Epoch)) 99 [76] (.plain rfl) (eq_t _) rfl rfl (fun hg55 => ⟨hg55, trivial⟩) (fun hg55 => (op_load_p1 tyOne3 rfl rfl rfl)) ?_
          refine OpsL.keep [0, 1, 5, 8, 65, 66, 67, 73, 75, 77] [101, 103] (s' := ⟨[(0, .b (.one (.sl 5 (l.map eHolding)))), (1, I a), (5, .b (.ptr 101 0)), (8, .b (.ptr 103 0)), (65, .b (.one (.raw (.func (.func 63) #[] #[])))), (66, .b (.agg [.i ((getP l x.Body).Body), .i ((getP l x.Body).Epoch), .i ((getP l x.Body).Phase), .i ((getP l x.Body).Peer), .str ((getP l x.Body).Data)])), (67, .b (.agg [.i x.From, .i x.To, .i x.Kind, .i x.Body, .i x.Epoch, .str x.Data])), (73, B (decide (((getP l x.Body).Epoch) = x.Epoch))), (75, .opt (decide (((getP l x.Body).Epoch) = x.Epoch)) (.one (.i ((getP l x.Body).Peer)))), (77, .opt (decide (((getP l x.Body).Epoch) = x.Epoch)) (.one (.i x.From)))], [(101, .box 45 [.i x.From, .i x.To, .i x.Kind, .i x.Body, .i x.Epoch, .str x.Data]), (103, .box 59 [.i ((getP l x.Body).Body), .i ((getP l x.Body).Epoch), .i ((getP l x.Body).Phase), .i ((getP l x.Body).Peer), .str ((getP l x.Body).Data)])]⟩) rfl ?_
          refine OpsL.consG (decide (((getP l x.Body).Epoch) = x.Epoch)) 99 [75, 77] (.plain rfl) (eq_t _) rfl rfl (fun hg56 => ⟨hg56, hg56, trivial⟩) (fun hg56 => (op_eql rfl rfl)) ?_
          refine OpsL.cons rfl (op_pick_and (fun e => by first | exact e | (rw [e]; rfl) | simp_all) rfl rfl rfl rfl) ?_
          refine OpsL.cons rfl (op_callv0 (rule4_spec (getP l x.Body) x ((decide (((getP l x.Body).Epoch) = x.Epoch)) && (decide (((getP l x.Body).Peer) = x.From)))) goes63 rfl rfl rfl) ?_
          refine OpsL.cons rfl (op_move rfl) ?_
          refine OpsL.cons rfl (op_extract rfl rfl) ?_
          refine OpsL.cons rfl (op_extract rfl rfl) ?_
          refine OpsL.cons rfl (op_alloc (k := 123) tyZero59 rfl) ?_
          refine OpsL.cons rfl (op_store_p tyAgg59 rfl rfl rfl rfl (Nat.le_of_ble_eq_true rfl) rfl) ?_
          refine OpsL.cons rfl (op_assign rfl) ?_
          refine OpsL.nilK [0, 1, 5, 8, 11, 12] [101, 103, 123] (s' := ⟨[(0, .b (.one (.sl 5 (l.map eHolding)))), (1, I a), (5, .b (.ptr 101 0)), (8, .b (.ptr 103 0)), (11, .b (.ptr 123 0)), (12, I (ruleK 4 (getP l x.Body) x ((decide (((getP l x.Body).Epoch) = x.Epoch)) && (decide (((getP l x.Body).Peer) = x.From)))))], [(101, .box 45 [.i x.From, .i x.To, .i x.Kind, .i x.Body, .i x.Epoch, .str x.Data]), (103, .box 59 [.i ((getP l x.Body).Body), .i ((getP l x.Body).Epoch), .i ((getP l x.Body).Phase), .i ((getP l x.Body).Peer), .str ((getP l x.Body).Data)]), (123, .box 59 [.i ((ruleH 4 (getP l x.Body) x ((decide (((getP l x.Body).Epoch) = x.Epoch)) && (decide (((getP l x.Body).Peer) = x.From)))).Body), .i ((ruleH 4 (getP l x.Body) x ((decide (((getP l x.Body).Epoch) = x.Epoch)) && (decide (((getP l x.Body).Peer) = x.From)))).Epoch), .i ((ruleH 4 (getP l x.Body) x ((decide (((getP l x.Body).Epoch) = x.Epoch)) && (decide (((getP l x.Body).Peer) = x.From)))).Phase), .i ((ruleH 4 (getP l x.Body) x ((decide (((getP l x.Body).Epoch) = x.Epoch)) && (decide (((getP l x.Body).Peer) = x.From)))).Peer), .str ((ruleH 4 (getP l x.Body) x ((decide (((getP l x.Body).Epoch) = x.Epoch)) && (decide (((getP l x.Body).Peer) = x.From)))).Data)])]⟩) rfl ?_
          refine Tri.seq ?_
          refine Tri.regionL ?_
          refine OpsL.cons rfl (op_move rfl) ?_
          refine OpsL.cons rfl (op_call (clone_spec 124 l (by omega)) goes52 rfl trivial rfl rfl) ?_
          refine OpsL.cons rfl (op_assign rfl) ?_
          refine OpsL.nilK [0, 1, 5, 8, 11, 12, 13] [101, 103, 123, 124] (s' := ⟨[(0, .b (.one (.sl 5 (l.map eHolding)))), (1, I a), (5, .b (.ptr 101 0)), (8, .b (.ptr 103 0)), (11, .b (.ptr 123 0)), (12, I (ruleK 4 (getP l x.Body) x ((decide (((getP l x.Body).Epoch) = x.Epoch)) && (decide (((getP l x.Body).Peer) = x.From))))), (13, .b (.row 124))], [(101, .box 45 [.i x.From, .i x.To, .i x.Kind, .i x.Body, .i x.Epoch, .str x.Data]), (103, .box 59 [.i ((getP l x.Body).Body), .i ((getP l x.Body).Epoch), .i ((getP l x.Body).Phase), .i ((getP l x.Body).Peer), .str ((getP l x.Body).Data)]), (123, .box 59 [.i ((ruleH 4 (getP l x.Body) x ((decide (((getP l x.Body).Epoch) = x.Epoch)) && (decide (((getP l x.Body).Peer) = x.From)))).Body), .i ((ruleH 4 (getP l x.Body) x ((decide (((getP l x.Body).Epoch) = x.Epoch)) && (decide (((getP l x.Body).Peer) = x.From)))).Epoch), .i ((ruleH 4 (getP l x.Body) x ((decide (((getP l x.Body).Epoch) = x.Epoch)) && (decide (((getP l x.Body).Peer) = x.From)))).Phase), .i ((ruleH 4 (getP l x.Body) x ((decide (((getP l x.Body).Epoch) = x.Epoch)) && (decide (((getP l x.Body).Peer) = x.From)))).Peer), .str ((ruleH 4 (getP l x.Body) x ((decide (((getP l x.Body).Epoch) = x.Epoch)) && (decide (((getP l x.Body).Peer) = x.From)))).Data)]), (124, .row 59 5 (l.map eHolding))]⟩) rfl ?_
          refine Tri.seq ?_
          refine Tri.seq ?_
          refine Tri.regionL ?_
          refine OpsL.cons rfl (op_load_p tyAgg59 rfl rfl rfl rfl) ?_
          refine OpsL.cons rfl (op_load_p tyAgg59 rfl rfl rfl rfl) ?_
          refine OpsL.cons rfl (op_neq_agg (eqAgg59 (ruleH 4 (getP l x.Body) x ((decide (((getP l x.Body).Epoch) = x.Epoch)) && (decide (((getP l x.Body).Peer) = x.From)))) (getP l x.Body)) rfl rfl neg_dec) ?_
          refine OpsL.nilK [0, 1, 5, 11, 12, 13, 87] [101, 123, 124] (s' := ⟨[(0, .b (.one (.sl 5 (l.map eHolding)))), (1, I a), (5, .b (.ptr 101 0)), (11, .b (.ptr 123 0)), (12, I (ruleK 4 (getP l x.Body) x ((decide (((getP l x.Body).Epoch) = x.Epoch)) && (decide (((getP l x.Body).Peer) = x.From))))), (13, .b (.row 124)), (87, B (decide ((ruleH 4 (getP l x.Body) x ((decide (((getP l x.Body).Epoch) = x.Epoch)) && (decide (((getP l x.Body).Peer) = x.From)))) ≠ (getP l x.Body))))], [(101, .box 45 [.i x.From, .i x.To, .i x.Kind, .i x.Body, .i x.Epoch, .str x.Data]), (123, .box 59 [.i ((ruleH 4 (getP l x.Body) x ((decide (((getP l x.Body).Epoch) = x.Epoch)) && (decide (((getP l x.Body).Peer) = x.From)))).Body), .i ((ruleH 4 (getP l x.Body) x ((decide (((getP l x.Body).Epoch) = x.Epoch)) && (decide (((getP l x.Body).Peer) = x.From)))).Epoch), .i ((ruleH 4 (getP l x.Body) x ((decide (((getP l x.Body).Epoch) = x.Epoch)) && (decide (((getP l x.Body).Peer) = x.From)))).Phase), .i ((ruleH 4 (getP l x.Body) x ((decide (((getP l x.Body).Epoch) = x.Epoch)) && (decide (((getP l x.Body).Peer) = x.From)))).Peer), .str ((ruleH 4 (getP l x.Body) x ((decide (((getP l x.Body).Epoch) = x.Epoch)) && (decide (((getP l x.Body).Peer) = x.From)))).Data)]), (124, .row 59 5 (l.map eHolding))]⟩) rfl ?_
          refine Tri.cond rfl (fun hc57 => ?_) (fun hc57 => ?_)
          · try simp only [decide_eq_true_eq, decide_eq_false_iff_not, Bool.and_eq_true, Bool.or_eq_true, Bool.not_eq_true', Bool.not_eq_false', Bool.and_eq_false_iff, Bool.or_eq_false_iff, Int.not_lt, Int.not_le, ne_eq, Decidable.not_not] at hc57
            refine Tri.regionL ?_
            refine OpsL.cons rfl (op_move rfl) ?_
            refine OpsL.cons rfl (op_load_p tyAgg59 rfl rfl rfl rfl) ?_
            refine OpsL.cons rfl (op_call (set_spec 125 l (ruleH 4 (getP l x.Body) x ((decide (((getP l x.Body).Epoch) = x.Epoch)) && (decide (((getP l x.Body).Peer) = x.From)))) (by omega) (by exact setOk_rule hs hs2)) goes46 rfl trivial rfl rfl) ?_
            refine OpsL.cons rfl (op_assign rfl) ?_
            refine OpsL.nilK [1, 5, 12, 13] [101, 125] (s' := ⟨[(1, I a), (5, .b (.ptr 101 0)), (12, I (ruleK 4 (getP l x.Body) x ((decide (((getP l x.Body).Epoch) = x.Epoch)) && (decide (((getP l x.Body).Peer) = x.From))))), (13, .b (.row 125))], [(101, .box 45 [.i x.From, .i x.To, .i x.Kind, .i x.Body, .i x.Epoch, .str x.Data]), (125, .row 59 5 ((setP l (ruleH 4 (getP l x.Body) x ((decide (((getP l x.Body).Epoch) = x.Epoch)) && (decide (((getP l x.Body).Peer) = x.From))))).map eHolding))]⟩) rfl ?_
            refine Tri.seq ?_
            refine Tri.seq ?_
            refine Tri.regionL ?_
            refine OpsL.cons rfl (op_move rfl) ?_
            refine OpsL.cons rfl (op_eql rfl rfl) ?_
            refine OpsL.nilK [1, 5, 12, 13, 92] [101, 125] (s' := ⟨[(1, I a), (5, .b (.ptr 101 0)), (12, I (ruleK 4 (getP l x.Body) x ((decide (((getP l x.Body).Epoch) = x.Epoch)) && (decide (((getP l x.Body).Peer) = x.From))))), (13, .b (.row 125)), (92, B (decide ((ruleK 4 (getP l x.Body) x ((decide (((getP l x.Body).Epoch) = x.Epoch)) && (decide (((getP l x.Body).Peer) = x.From)))) = 0)))], [(101, .box 45 [.i x.From, .i x.To, .i x.Kind, .i x.Body, .i x.Epoch, .str x.Data]), (125, .row 59 5 ((setP l (ruleH 4 (getP l x.Body) x ((decide (((getP l x.Body).Epoch) = x.Epoch)) && (decide (((getP l x.Body).Peer) = x.From))))).map eHolding))]⟩) rfl ?_
            refine Tri.cond rfl (fun hc58 => ?_) (fun hc58 => ?_)
            · try simp only [decide_eq_true_eq, decide_eq_false_iff_not, Bool.and_eq_true, Bool.or_eq_true, Bool.not_eq_true', Bool.not_eq_false', Bool.and_eq_false_iff, Bool.or_eq_false_iff, Int.not_lt, Int.not_le, ne_eq, Decidable.not_not] at hc58
              refine Tri.seq ?_
              refine Tri.regionL ?_
              refine OpsL.cons rfl (op_move rfl) ?_
              refine OpsL.cons rfl (op_assign rfl) ?_
              refine OpsL.cons rfl (op_assign rfl) ?_
              refine OpsL.nilK [6, 7] [125] (s' := ⟨[(6, .b (.row 125)), (7, .b (.one (.nil)))], [(125, .row 59 5 ((setP l (ruleH 4 (getP l x.Body) x ((decide (((getP l x.Body).Epoch) = x.Epoch)) && (decide (((getP l x.Body).Peer) = x.From))))).map eHolding))]⟩) rfl ?_
              refine Tri.ret ?_
              refine Fin.then_ret ?_
              refine Fin.block_ret ?_
              refine Fin.then_ret ?_
              refine Fin.then_ret ?_
              refine Fin.block_ret ?_
              refine Fin.then_ret ?_
              refine Fin.keep [6, 7] [125] (s' := ⟨[(6, .b (.row 125)), (7, .b (.one (.nil)))], [(125, .row 59 5 ((setP l (ruleH 4 (getP l x.Body) x ((decide (((getP l x.Body).Epoch) = x.Epoch)) && (decide (((getP l x.Body).Peer) = x.From))))).map eHolding))]⟩) rfl ?_
              refine Fin.persist 125 rfl ?_
              refine Fin.nilsl 7 6 rfl (by decide) ?_
              refine Fin.result' [.one (.sl 5 ((setP l (ruleH 4 (getP l x.Body) x ((decide (((getP l x.Body).Epoch) = x.Epoch)) && (decide (((getP l x.Body).Peer) = x.From))))).map eHolding)), .one (.sl 6 ([].map eParcel))] (.inl rfl) rfl (.cons (.tmp rfl) (.cons (.tmp rfl) .nil)) ?_
              have e0 : (recvL l a x) = (setP l (ruleH 4 (getP l x.Body) x ((decide (((getP l x.Body).Epoch) = x.Epoch)) && (decide (((getP l x.Body).Peer) = x.From))))) := by first | exact recvL_new 4 4 hb (by assumption) (by decide) (by decide) (by assumption) | exact recvP_none 4 4 hb (by assumption) (by decide) (by decide) (by assumption)
              rw [e0]
              have e1 : (recvP l a x) = [] := by first | exact recvL_new 4 4 hb (by assumption) (by decide) (by decide) (by assumption) | exact recvP_none 4 4 hb (by assumption) (by decide) (by decide) (by assumption)
              rw [e1]
              exact ⟨rfl, rfl⟩
            · try simp only [decide_eq_true_eq, decide_eq_false_iff_not, Bool.and_eq_true, Bool.or_eq_true, Bool.not_eq_true', Bool.not_eq_false', Bool.and_eq_false_iff, Bool.or_eq_false_iff, Int.not_lt, Int.not_le, ne_eq, Decidable.not_not] at hc58
              refine Tri.skip ?_
              refine Fin.keep [1, 5, 12, 13] [101, 125] (s' := ⟨[(1, I a), (5, .b (.ptr 101 0)), (12, I (ruleK 4 (getP l x.Body) x ((decide (((getP l x.Body).Epoch) = x.Epoch)) && (decide (((getP l x.Body).Peer) = x.From))))), (13, .b (.row 125))], [(101, .box 45 [.i x.From, .i x.To, .i x.Kind, .i x.Body, .i x.Epoch, .str x.Data]), (125, .row 59 5 ((setP l (ruleH 4 (getP l x.Body) x ((decide (((getP l x.Body).Epoch) = x.Epoch)) && (decide (((getP l x.Body).Peer) = x.From))))).map eHolding))]⟩) rfl ?_
              refine Fin.then ?_
              refine Tri.seq ?_
              refine Tri.keep [1, 5, 12, 13] [101, 125] (s' := ⟨[(1, I a), (5, .b (.ptr 101 0)), (12, I (ruleK 4 (getP l x.Body) x ((decide (((getP l x.Body).Epoch) = x.Epoch)) && (decide (((getP l x.Body).Peer) = x.From))))), (13, .b (.row 125))], [(101, .box 45 [.i x.From, .i x.To, .i x.Kind, .i x.Body, .i x.Epoch, .str x.Data]), (125, .row 59 5 ((setP l (ruleH 4 (getP l x.Body) x ((decide (((getP l x.Body).Epoch) = x.Epoch)) && (decide (((getP l x.Body).Peer) = x.From))))).map eHolding))]⟩) rfl ?_
              refine Tri.regionD mixed [.b (.row 125), I a, .b (.ptr 101 0), I x.From, I (ruleK 4 (getP l x.Body) x ((decide (((getP l x.Body).Epoch) = x.Epoch)) && (decide (((getP l x.Body).Peer) = x.From)))), .b (.ptr 101 3), I x.Body, .b (.ptr 101 4), I x.Epoch, .b (.agg [.i a, .i x.From, .i (ruleK 4 (getP l x.Body) x ((decide (((getP l x.Body).Epoch) = x.Epoch)) && (decide (((getP l x.Body).Peer) = x.From)))), .i x.Body, .i x.Epoch, .str []]), .b (.one (.sl 6 ([(⟨a, x.From, ruleK 4 (getP l x.Body) x ((decide (((getP l x.Body).Epoch) = x.Epoch)) && (decide (((getP l x.Body).Peer) = x.From))), x.Body, x.Epoch, []⟩ : Parcel)].map eParcel))), .b (.row 125), .b (.one (.sl 6 ([(⟨a, x.From, ruleK 4 (getP l x.Body) x ((decide (((getP l x.Body).Epoch) = x.Epoch)) && (decide (((getP l x.Body).Peer) = x.From))), x.Body, x.Epoch, []⟩ : Parcel)].map eParcel)))] [6, 7] [125] (s' := ⟨[(6, .b (.row 125)), (7, .b (.one (.sl 6 ([(⟨a, x.From, ruleK 4 (getP l x.Body) x ((decide (((getP l x.Body).Epoch) = x.Epoch)) && (decide (((getP l x.Body).Peer) = x.From))), x.Body, x.Epoch, []⟩ : Parcel)].map eParcel))))], [(125, .row 59 5 ((setP l (ruleH 4 (getP l x.Body) x ((decide (((getP l x.Body).Epoch) = x.Epoch)) && (decide (((getP l x.Body).Peer) = x.From))))).map eHolding))]⟩) rfl ⟨fun _ => .plain rfl (op_move rfl), fun _ => .plain rfl (op_move rfl), fun _ => .plain rfl (op_field_p tyFld45_0 rfl rfl), fun _ => .plain rfl (op_load_p1 tyOne3 rfl rfl rfl), fun _ => .plain rfl (op_move rfl), fun _ => .plain rfl (op_field_p tyFld45_3 rfl rfl), fun _ => .plain rfl (op_load_p1 tyOne3 rfl rfl rfl), fun _ => .plain rfl (op_field_p tyFld45_4 rfl rfl), fun _ => .plain rfl (op_load_p1 tyOne3 rfl rfl rfl), fun _ => .plain rfl (op_build tyBuild45 rfl rfl), fun _ => .plain rfl (op_buildSliceP (es := [(⟨a, x.From, ruleK 4 (getP l x.Body) x ((decide (((getP l x.Body).Epoch) = x.Epoch)) && (decide (((getP l x.Body).Peer) = x.From))), x.Body, x.Epoch, []⟩ : Parcel)].map eParcel) tySl38 rfl rfl (uni_map fun _ => rfl) rfl (by decide) (by decide)), fun _ => .plain rfl (op_assign rfl), fun _ => .plain rfl (op_assign rfl), trivial⟩ rfl ?_
              refine Tri.ret ?_
              refine Fin.block_ret ?_
              refine Fin.then_ret ?_
              refine Fin.then_ret ?_
              refine Fin.block_ret ?_
              refine Fin.then_ret ?_
              refine Fin.keep [6, 7] [125] (s' := ⟨[(6, .b (.row 125)), (7, .b (.one (.sl 6 ([(⟨a, x.From, ruleK 4 (getP l x.Body) x ((decide (((getP l x.Body).Epoch) = x.Epoch)) && (decide (((getP l x.Body).Peer) = x.From))), x.Body, x.Epoch, []⟩ : Parcel)].map eParcel))))], [(125, .row 59 5 ((setP l (ruleH 4 (getP l x.Body) x ((decide (((getP l x.Body).Epoch) = x.Epoch)) && (decide (((getP l x.Body).Peer) = x.From))))).map eHolding))]⟩) rfl ?_
              refine Fin.persist 125 rfl ?_
              refine Fin.result' [.one (.sl 5 ((setP l (ruleH 4 (getP l x.Body) x ((decide (((getP l x.Body).Epoch) = x.Epoch)) && (decide (((getP l x.Body).Peer) = x.From))))).map eHolding)), .one (.sl 6 ([(⟨a, x.From, ruleK 4 (getP l x.Body) x ((decide (((getP l x.Body).Epoch) = x.Epoch)) && (decide (((getP l x.Body).Peer) = x.From))), x.Body, x.Epoch, []⟩ : Parcel)].map eParcel))] (.inl rfl) rfl (.cons (.tmp rfl) (.cons (.tmp rfl) .nil)) ?_
              have e0 : (recvL l a x) = (setP l (ruleH 4 (getP l x.Body) x ((decide (((getP l x.Body).Epoch) = x.Epoch)) && (decide (((getP l x.Body).Peer) = x.From))))) := by first | exact recvL_new 4 4 hb (by assumption) (by decide) (by decide) (by assumption) | exact recvP_one 4 4 hb (by assumption) (by decide) (by decide) (by assumption)
              rw [e0]
              have e1 : (recvP l a x) = [(⟨a, x.From, ruleK 4 (getP l x.Body) x ((decide (((getP l x.Body).Epoch) = x.Epoch)) && (decide (((getP l x.Body).Peer) = x.From))), x.Body, x.Epoch, []⟩ : Parcel)] := by first | exact recvL_new 4 4 hb (by assumption) (by decide) (by decide) (by assumption) | exact recvP_one 4 4 hb (by assumption) (by decide) (by decide) (by assumption)
              rw [e1]
              exact ⟨rfl, rfl⟩
          · try simp only [decide_eq_true_eq, decide_eq_false_iff_not, Bool.and_eq_true, Bool.or_eq_true, Bool.not_eq_true', Bool.not_eq_false', Bool.and_eq_false_iff, Bool.or_eq_false_iff, Int.not_lt, Int.not_le, ne_eq, Decidable.not_not] at hc57
            refine Tri.skip ?_
            refine Fin.keep [1, 5, 12, 13] [101, 124] (s' := ⟨[(1, I a), (5, .b (.ptr 101 0)), (12, I (ruleK 4 (getP l x.Body) x ((decide (((getP l x.Body).Epoch) = x.Epoch)) && (decide (((getP l x.Body).Peer) = x.From))))), (13, .b (.row 124))], [(101, .box 45 [.i x.From, .i x.To, .i x.Kind, .i x.Body, .i x.Epoch, .str x.Data]), (124, .row 59 5 (l.map eHolding))]⟩) rfl ?_
            refine Fin.then ?_
            refine Tri.seq ?_
            refine Tri.seq ?_
            refine Tri.regionL ?_
            refine OpsL.cons rfl (op_move rfl) ?_
            refine OpsL.cons rfl (op_eql rfl rfl) ?_
            refine OpsL.nilK [1, 5, 12, 13, 92] [101, 124] (s' := ⟨[(1, I a), (5, .b (.ptr 101 0)), (12, I (ruleK 4 (getP l x.Body) x ((decide (((getP l x.Body).Epoch) = x.Epoch)) && (decide (((getP l x.Body).Peer) = x.From))))), (13, .b (.row 124)), (92, B (decide ((ruleK 4 (getP l x.Body) x ((decide (((getP l x.Body).Epoch) = x.Epoch)) && (decide (((getP l x.Body).Peer) = x.From)))) = 0)))], [(101, .box 45 [.i x.From, .i x.To, .i x.Kind, .i x.Body, .i x.Epoch, .str x.Data]), (124, .row 59 5 (l.map eHolding))]⟩) rfl ?_
            refine Tri.cond rfl (fun hc59 => ?_) (fun hc59 => ?_)
            · try simp only [decide_eq_true_eq, decide_eq_false_iff_not, Bool.and_eq_true, Bool.or_eq_true, Bool.not_eq_true', Bool.not_eq_false', Bool.and_eq_false_iff, Bool.or_eq_false_iff, Int.not_lt, Int.not_le, ne_eq, Decidable.not_not] at hc59
              refine Tri.seq ?_
              refine Tri.regionL ?_
              refine OpsL.cons rfl (op_move rfl) ?_
              refine OpsL.cons rfl (op_assign rfl) ?_
              refine OpsL.cons rfl (op_assign rfl) ?_
              refine OpsL.nilK [6, 7] [124] (s' := ⟨[(6, .b (.row 124)), (7, .b (.one (.nil)))], [(124, .row 59 5 (l.map eHolding))]⟩) rfl ?_
              refine Tri.ret ?_
              refine Fin.then_ret ?_
              refine Fin.block_ret ?_
              refine Fin.then_ret ?_
              refine Fin.then_ret ?_
              refine Fin.block_ret ?_
              refine Fin.then_ret ?_
              refine Fin.keep [6, 7] [124] (s' := ⟨[(6, .b (.row 124)), (7, .b (.one (.nil)))], [(124, .row 59 5 (l.map eHolding))]⟩) rfl ?_
              refine Fin.persist 124 rfl ?_
              refine Fin.nilsl 7 6 rfl (by decide) ?_
              refine Fin.result' [.one (.sl 5 (l.map eHolding)), .one (.sl 6 ([].map eParcel))] (.inl rfl) rfl (.cons (.tmp rfl) (.cons (.tmp rfl) .nil)) ?_
              have e0 : (recvL l a x) = l := by first | exact recvL_old 4 4 hb (by assumption) (by decide) (by decide) (by assumption) | exact recvP_none 4 4 hb (by assumption) (by decide) (by decide) (by assumption)
              rw [e0]
              have e1 : (recvP l a x) = [] := by first | exact recvL_old 4 4 hb (by assumption) (by decide) (by decide) (by assumption) | exact recvP_none 4 4 hb (by assumption) (by decide) (by decide) (by assumption)
              rw [e1]
              exact ⟨rfl, rfl⟩
            · try simp only [decide_eq_true_eq, decide_eq_false_iff_not, Bool.and_eq_true, Bool.or_eq_true, Bool.not_eq_true', Bool.not_eq_false', Bool.and_eq_false_iff, Bool.or_eq_false_iff, Int.not_lt, Int.not_le, ne_eq, Decidable.not_not] at hc59
              refine Tri.skip ?_
              refine Fin.keep [1, 5, 12, 13] [101, 124] (s' := ⟨[(1, I a), (5, .b (.ptr 101 0)), (12, I (ruleK 4 (getP l x.Body) x ((decide (((getP l x.Body).Epoch) = x.Epoch)) && (decide (((getP l x.Body).Peer) = x.From))))), (13, .b (.row 124))], [(101, .box 45 [.i x.From, .i x.To, .i x.Kind, .i x.Body, .i x.Epoch, .str x.Data]), (124, .row 59 5 (l.map eHolding))]⟩) rfl ?_
              refine Fin.then ?_
              refine Tri.seq ?_
              refine Tri.keep [1, 5, 12, 13] [101, 124] (s' := ⟨[(1, I a), (5, .b (.ptr 101 0)), (12, I (ruleK 4 (getP l x.Body) x ((decide (((getP l x.Body).Epoch) = x.Epoch)) && (decide (((getP l x.Body).Peer) = x.From))))), (13, .b (.row 124))], [(101, .box 45 [.i x.From, .i x.To, .i x.Kind, .i x.Body, .i x.Epoch, .str x.Data]), (124, .row 59 5 (l.map eHolding))]⟩) rfl ?_
              refine Tri.regionD mixed [.b (.row 124), I a, .b (.ptr 101 0), I x.From, I (ruleK 4 (getP l x.Body) x ((decide (((getP l x.Body).Epoch) = x.Epoch)) && (decide (((getP l x.Body).Peer) = x.From)))), .b (.ptr 101 3), I x.Body, .b (.ptr 101 4), I x.Epoch, .b (.agg [.i a, .i x.From, .i (ruleK 4 (getP l x.Body) x ((decide (((getP l x.Body).Epoch) = x.Epoch)) && (decide (((getP l x.Body).Peer) = x.From)))), .i x.Body, .i x.Epoch, .str []]), .b (.one (.sl 6 ([(⟨a, x.From, ruleK 4 (getP l x.Body) x ((decide (((getP l x.Body).Epoch) = x.Epoch)) && (decide (((getP l x.Body).Peer) = x.From))), x.Body, x.Epoch, []⟩ : Parcel)].map eParcel))), .b (.row 124), .b (.one (.sl 6 ([(⟨a, x.From, ruleK 4 (getP l x.Body) x ((decide (((getP l x.Body).Epoch) = x.Epoch)) && (decide (((getP l x.Body).Peer) = x.From))), x.Body, x.Epoch, []⟩ : Parcel)].map eParcel)))] [6, 7] [124] (s' := ⟨[(6, .b (.row 124)), (7, .b (.one (.sl 6 ([(⟨a, x.From, ruleK 4 (getP l x.Body) x ((decide (((getP l x.Body).Epoch) = x.Epoch)) && (decide (((getP l x.Body).Peer) = x.From))), x.Body, x.Epoch, []⟩ : Parcel)].map eParcel))))], [(124, .row 59 5 (l.map eHolding))]⟩) rfl ⟨fun _ => .plain rfl (op_move rfl), fun _ => .plain rfl (op_move rfl), fun _ => .plain rfl (op_field_p tyFld45_0 rfl rfl), fun _ => .plain rfl (op_load_p1 tyOne3 rfl rfl rfl), fun _ => .plain rfl (op_move rfl), fun _ => .plain rfl (op_field_p tyFld45_3 rfl rfl), fun _ => .plain rfl (op_load_p1 tyOne3 rfl rfl rfl), fun _ => .plain rfl (op_field_p tyFld45_4 rfl rfl), fun _ => .plain rfl (op_load_p1 tyOne3 rfl rfl rfl), fun _ => .plain rfl (op_build tyBuild45 rfl rfl), fun _ => .plain rfl (op_buildSliceP (es := [(⟨a, x.From, ruleK 4 (getP l x.Body) x ((decide (((getP l x.Body).Epoch) = x.Epoch)) && (decide (((getP l x.Body).Peer) = x.From))), x.Body, x.Epoch, []⟩ : Parcel)].map eParcel) tySl38 rfl rfl (uni_map fun _ => rfl) rfl (by decide) (by decide)), fun _ => .plain rfl (op_assign rfl), fun _ => .plain rfl (op_assign rfl), trivial⟩ rfl ?_
              refine Tri.ret ?_
              refine Fin.block_ret ?_
              refine Fin.then_ret ?_
              refine Fin.then_ret ?_
              refine Fin.block_ret ?_
              refine Fin.then_ret ?_
              refine Fin.keep [6, 7] [124] (s' := ⟨[(6, .b (.row 124)), (7, .b (.one (.sl 6 ([(⟨a, x.From, ruleK 4 (getP l x.Body) x ((decide (((getP l x.Body).Epoch) = x.Epoch)) && (decide (((getP l x.Body).Peer) = x.From))), x.Body, x.Epoch, []⟩ : Parcel)].map eParcel))))], [(124, .row 59 5 (l.map eHolding))]⟩) rfl ?_
              refine Fin.persist 124 rfl ?_
              refine Fin.result' [.one (.sl 5 (l.map eHolding)), .one (.sl 6 ([(⟨a, x.From, ruleK 4 (getP l x.Body) x ((decide (((getP l x.Body).Epoch) = x.Epoch)) && (decide (((getP l x.Body).Peer) = x.From))), x.Body, x.Epoch, []⟩ : Parcel)].map eParcel))] (.inl rfl) rfl (.cons (.tmp rfl) (.cons (.tmp rfl) .nil)) ?_
              have e0 : (recvL l a x) = l := by first | exact recvL_old 4 4 hb (by assumption) (by decide) (by decide) (by assumption) | exact recvP_one 4 4 hb (by assumption) (by decide) (by decide) (by assumption)
              rw [e0]
              have e1 : (recvP l a x) = [(⟨a, x.From, ruleK 4 (getP l x.Body) x ((decide (((getP l x.Body).Epoch) = x.Epoch)) && (decide (((getP l x.Body).Peer) = x.From))), x.Body, x.Epoch, []⟩ : Parcel)] := by first | exact recvL_old 4 4 hb (by assumption) (by decide) (by decide) (by assumption) | exact recvP_one 4 4 hb (by assumption) (by decide) (by decide) (by assumption)
              rw [e1]
              exact ⟨rfl, rfl⟩
      · exact absurd hc50 (by simp)
    · show Tri _ _ _ _ ⟨[(0, .b (.one (.sl 5 (l.map eHolding)))), (1, I a), (5, .b (.ptr 101 0)), (8, .b (.ptr 103 0)), (52, .b (.one (.sl 2 ([(⟨1, 60⟩ : Rule), (⟨2, 61⟩ : Rule), (⟨3, 62⟩ : Rule), (⟨4, 63⟩ : Rule)].map eRule)))), (53, I 4), (54, I 4)], [(101, .box 45 [.i x.From, .i x.To, .i x.Kind, .i x.Body, .i x.Epoch, .str x.Data]), (103, .box 59 [.i ((getP l x.Body).Body), .i ((getP l x.Body).Epoch), .i ((getP l x.Body).Phase), .i ((getP l x.Body).Peer), .str ((getP l x.Body).Data)])]⟩ _
      refine Tri.seq ?_
      refine Tri.regionL ?_
      refine OpsL.cons rfl (op_lss rfl rfl) ?_
      refine OpsL.nilK [0, 1, 5, 8, 52, 53, 54, 55] [101, 103] (s' := ⟨[(0, .b (.one (.sl 5 (l.map eHolding)))), (1, I a), (5, .b (.ptr 101 0)), (8, .b (.ptr 103 0)), (52, .b (.one (.sl 2 ([(⟨1, 60⟩ : Rule), (⟨2, 61⟩ : Rule), (⟨3, 62⟩ : Rule), (⟨4, 63⟩ : Rule)].map eRule)))), (53, I 4), (54, I 4), (55, B false)], [(101, .box 45 [.i x.From, .i x.To, .i x.Kind, .i x.Body, .i x.Epoch, .str x.Data]), (103, .box 59 [.i ((getP l x.Body).Body), .i ((getP l x.Body).Epoch), .i ((getP l x.Body).Phase), .i ((getP l x.Body).Peer), .str ((getP l x.Body).Data)])]⟩) rfl ?_
      refine Tri.seq ?_
      refine Tri.cond rfl (fun hc60 => ?_) (fun hc60 => ?_)
      · exact absurd hc60 (by simp)
      · try simp only [decide_eq_true_eq, decide_eq_false_iff_not, Bool.and_eq_true, Bool.or_eq_true, Bool.not_eq_true', Bool.not_eq_false', Bool.and_eq_false_iff, Bool.or_eq_false_iff, Int.not_lt, Int.not_le, ne_eq, Decidable.not_not] at hc60
        refine Tri.exit ?_
        refine Fin.then_exit ?_
        refine Fin.then_exit ?_
        refine Fin.block_exit ?_
        refine Fin.keep [0] [] (s' := ⟨[(0, .b (.one (.sl 5 (l.map eHolding))))], []⟩) rfl ?_
        refine Fin.then ?_
        refine Tri.seq ?_
        refine Tri.regionL ?_
        refine OpsL.cons rfl (op_move rfl) ?_
        refine OpsL.cons rfl (op_call (clone_spec 128 l (by omega)) goes52 rfl trivial rfl rfl) ?_
        refine OpsL.cons rfl (op_assign rfl) ?_
        refine OpsL.cons rfl (op_assign rfl) ?_
        refine OpsL.nilK [6, 7] [128] (s' := ⟨[(6, .b (.row 128)), (7, .b (.one (.nil)))], [(128, .row 59 5 (l.map eHolding))]⟩) rfl ?_
        refine Tri.ret ?_
        refine Fin.keep [6, 7] [128] (s' := ⟨[(6, .b (.row 128)), (7, .b (.one (.nil)))], [(128, .row 59 5 (l.map eHolding))]⟩) rfl ?_
        refine Fin.persist 128 rfl ?_
        refine Fin.nilsl 7 6 rfl (by decide) ?_
        refine Fin.result' [.one (.sl 5 (l.map eHolding)), .one (.sl 6 ([].map eParcel))] (.inl rfl) rfl (.cons (.tmp rfl) (.cons (.tmp rfl) .nil)) ?_
        have e0 : (recvL l a x) = l := by first | exact recvL_kind (kindS_end hne) | exact recvP_kind (kindS_end hne)
        rw [e0]
        have e1 : (recvP l a x) = [] := by first | exact recvL_kind (kindS_end hne) | exact recvP_kind (kindS_end hne)
        rw [e1]
        exact ⟨rfl, rfl⟩

end Go.Proofs.Ytipepglcceogiaa
