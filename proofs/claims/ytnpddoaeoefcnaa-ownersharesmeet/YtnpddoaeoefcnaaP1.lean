/- the plain law -/
import Derived.Test.YtnpddoaeoefcnaaW3
namespace Go.Proofs.Ytnpddoaeoefcnaa
open Go Go.Sk
set_option maxRecDepth 100000
def ins1 (x : Int) : List Int → List Int
 | [] => [x]
 | y :: l => if x ≤ y then x :: y :: l else y :: ins1 x l
def isort : List Int → List Int
 | [] => []
 | x :: l => ins1 x (isort l)
theorem ins1_perm (x : Int) : ∀ l : List Int, (ins1 x l).Perm (x :: l)
 | [] => .refl _
 | y :: l => by
  unfold ins1
  split
  ·exact .refl _
  ·exact .trans (.cons y (ins1_perm x l)) (.swap x y l)
theorem isort_perm : ∀ l : List Int, (isort l).Perm l
 | [] => .refl _
 | x :: l => (ins1_perm x (isort l)).trans (.cons x (isort_perm l))
theorem ins1_pw (x : Int) : ∀ l : List Int, l.Pairwise (· ≤ ·) → (ins1 x l).Pairwise (· ≤ ·)
 | [], _ => by simp [ins1]
 | y :: l, h => by
  unfold ins1
  have h1 := List.pairwise_cons.1 h
  split
  ·next hc =>
   refine List.pairwise_cons.2 ⟨fun z hz => ?_, h⟩
   rcases List.mem_cons.1 hz with rfl | hz
   ·exact hc
   ·exact Int.le_trans hc (h1.1 z hz)
  ·next hc =>
   refine List.pairwise_cons.2 ⟨fun z hz => ?_, ins1_pw x l h1.2⟩
   rcases List.mem_cons.1 ((ins1_perm x l).mem_iff.1 hz) with rfl | hz
   ·omega
   ·exact h1.1 z hz
theorem isort_pw : ∀ l : List Int, (isort l).Pairwise (· ≤ ·)
 | [] => .nil
 | x :: l => ins1_pw x _ (isort_pw l)
theorem sorted_perm (l : List Int) : (sorted l).Perm l := List.mergeSort_perm _ _
theorem sorted_pw (l : List Int) : (sorted l).Pairwise (· ≤ ·) :=
 (List.pairwise_mergeSort (le := fun x y : Int => decide (x ≤ y)) (fun a b c h1 h2 => by simp only [decide_eq_true_eq] at *; omega) (fun a b => by simp only [Bool.or_eq_true, decide_eq_true_eq]; omega) l).imp fun h => of_decide_eq_true h
theorem sorted_eq (l : List Int) : sorted l = isort l :=
 List.Perm.eq_of_pairwise (fun a b _ _ h1 h2 => Int.le_antisymm h1 h2) (sorted_pw l) (isort_pw l) ((sorted_perm l).trans (isort_perm l).symm)
def sort2 (F : Nat) (zs : List Int) : Option (List Int) := if zs.length < 1000000000 then some (isort zs) else none
theorem sort_eq : slices_Sort_S = sort2 := by
 funext F zs
 unfold slices_Sort_S sort0? sort2
 rw [sorted_eq]
theorem sanity_ok : skewbacklaw44_sanity_S 2000 = some true := by
 unfold skewbacklaw44_sanity_S owner_Tasks_S owner_Begin_S owner_Hear_S owner_node_sets_S owner_node_plan_S owner_tasks_S island_Merge_S island_classes_sets_S
 rw [sort_eq]
 decide +kernel
end Go.Proofs.Ytnpddoaeoefcnaa

namespace Go.Proofs.Ytnpddoaeoefcnaa
open Go Go.Sk
set_option linter.unusedVariables false
set_option linter.unusedSimpArgs false
theorem iter_map {σ τ τ' : Type} {f : σ → Option (σ ⊕ τ')} {g : σ → Option (σ ⊕ τ)} (φ : τ → τ') (h : ∀ s, f s = (g s).map (alt2 .inl fun t => .inr (φ t))) : ∀ (F : Nat) (s : σ), iter F f s = (iter F g s).map φ
 | 0, s => rfl
 | F + 1, s => by
  show (f s).bind (alt2 (iter F f) some) = ((g s).bind (alt2 (iter F g) some)).map φ
  rw [h]
  cases g s with
  | none => rfl
  | some o =>
   cases o with
   | inl s' => exact iter_map φ h F s'
   | inr t => rfl
def Asc (b : List Int) : Prop := ∀ i : Nat, 0 < i → i < b.length → idx b ((i : Int) - 1) < idx b i
theorem asc_ok {b : List Int} (hl : b.length ≤ 1000) : Yld (skewbackref44_Ascending_S 2000 b) (fun r => (r = true ↔ Asc b)) := by
 unfold skewbackref44_Ascending_S
 refine Yld.bind (P := fun o : Unit ⊕ Bool => (o = .inl () ∧ Asc b) ∨ (o = .inr false ∧ ¬ Asc b)) ?_ ?_
 ·refine Yld.rounds (n := b.length) (I := fun k s => s = (k : Int) + 1 ∧ ∀ i : Nat, 0 < i → i ≤ k → i < b.length → idx b ((i : Int) - 1) < idx b i) (by omega) ⟨rfl, fun i h1 h2 => by omega⟩ ?_
  rintro k s hk ⟨rfl, hI⟩
  refine Yld.ite (fun hc => ?_) (fun hc => ?_)
  ·have hc := of_decide_eq_true hc
   rw [wi64' (by omega) (by omega), wi64' (by omega) (by omega)]
   refine Yld.idx (by omega) (by omega) (Yld.idx (by omega) (by omega) (Yld.ite (fun h => ?_) (fun h => ?_)))
   ·have h := of_decide_eq_true h
    exact Yld.some (.inr ⟨_, rfl, .inr ⟨rfl, fun ha => by
     have := ha (k + 1) (by omega) (by omega)
     push_cast at this
     omega⟩⟩)
   ·have h := of_decide_eq_false h
    refine Yld.some (.inl ⟨_, rfl, ⟨by push_cast; rfl, fun i h1 h2 h3 => ?_⟩, by omega⟩)
    by_cases e : i ≤ k
    ·exact hI i h1 e h3
    ·have : i = k + 1 := by omega
     subst this
     push_cast
     omega
  ·have hc := of_decide_eq_false hc
   exact Yld.some (.inr ⟨_, rfl, .inl ⟨rfl, fun i h1 h2 => hI i h1 (by omega) h2⟩⟩)
 ·rintro o (⟨rfl, h⟩ | ⟨rfl, h⟩)
  ·exact Yld.some (by simp [h])
  ·exact Yld.some (by simp [h])
theorem asc2_ok {b : List Int} (hl : b.length ≤ 1000) : Yld (iter 2000 (fun x_1 => if (decide (x_1 < (b.length : Int))) = true then (Option.bind (gcall (decide (0 < x_1)) (idx? b x_1)) (fun x_2 => Option.bind (gcall (decide (0 < x_1)) (idx? b (IntKind.i64.wrap (x_1 - 1)))) (fun x_3 => if ((decide (0 < x_1)) && (decide (x_2 ≤ x_3))) = true then (some (.inr (.inr (([] : List Share), (1 : Int))))) else (some (.inl (IntKind.i64.wrap (x_1 + 1))))))) else (some (.inr (.inl ())))) 0)
  (fun o : Unit ⊕ (List Share × Int) => (o = .inl () ∧ Asc b) ∨ (o = .inr ([], 1) ∧ ¬ Asc b)) := by
 refine Yld.rounds (n := b.length) (I := fun k s => s = (k : Int) ∧ ∀ i : Nat, 0 < i → i < k → i < b.length → idx b ((i : Int) - 1) < idx b i) (by omega) ⟨rfl, fun i h1 h2 => by omega⟩ ?_
 rintro k s hk ⟨rfl, hI⟩
 refine Yld.ite (fun hc => ?_) (fun hc => ?_)
 ·have hc := of_decide_eq_true hc
  rw [wi64' (by omega) (by omega), wi64' (by omega) (by omega)]
  cases hz : decide ((0 : Int) < k) with
  | false =>
   have hz' := of_decide_eq_false hz
   refine Yld.g0 rfl (Yld.g0 rfl (Yld.iff rfl (Yld.some (.inl ⟨_, rfl, ⟨by push_cast; rfl, fun i h1 h2 h3 => by omega⟩, by omega⟩))))
  | true =>
   have hz' := of_decide_eq_true hz
   refine Yld.g1 rfl (Yld.idx (by omega) (by omega) (Yld.g1 rfl (Yld.idx (by omega) (by omega) (Yld.ite (fun h => ?_) (fun h => ?_)))))
   ·have h : idx b (k : Int) ≤ idx b ((k : Int) - 1) := by simpa using h
    exact Yld.some (.inr ⟨_, rfl, .inr ⟨rfl, fun ha => by
     have := ha k (by omega) (by omega)
     omega⟩⟩)
   ·have h : ¬ idx b (k : Int) ≤ idx b ((k : Int) - 1) := by simpa using h
    refine Yld.some (.inl ⟨_, rfl, ⟨by push_cast; rfl, fun i h1 h2 h3 => ?_⟩, by omega⟩)
    by_cases e : i < k
    ·exact hI i h1 e h3
    ·have : i = k := by omega
     subst this
     omega
 ·have hc := of_decide_eq_false hc
  exact Yld.some (.inr ⟨_, rfl, .inl ⟨rfl, fun i h1 h2 => hI i h1 (by omega) h2⟩⟩)
def Homes (h : List Int) (n : Int) : Prop := ∀ i : Nat, i < h.length → -1 ≤ idx h i ∧ idx h i < n
theorem homely_ok {h : List Int} {n : Int} (hl : h.length ≤ 400) : Yld (skewbackref44_Homely_S 2000 h n) (fun r => (r = true ↔ Homes h n)) := by
 unfold skewbackref44_Homely_S
 refine Yld.iff (decide_eq_false (by omega)) ?_
 refine Yld.bind (P := fun o : Unit ⊕ Bool => (o = .inl () ∧ Homes h n) ∨ (o = .inr false ∧ ¬ Homes h n)) ?_ ?_
 ·refine Yld.rounds (n := h.length) (I := fun k s => s = (k : Int) ∧ ∀ i : Nat, i < k → i < h.length → -1 ≤ idx h i ∧ idx h i < n) (by omega) ⟨rfl, fun i h1 => by omega⟩ ?_
  rintro k s hk ⟨rfl, hI⟩
  refine Yld.ite (fun hc => ?_) (fun hc => ?_)
  ·have hc := of_decide_eq_true hc
   rw [wi64' (by omega) (by omega)]
   refine Yld.idx (by omega) (by omega) ?_
   by_cases h1 : idx h (k : Int) < -1
   ·refine Yld.g0 (by simp [h1]) (Yld.ift (by simp [h1]) (Yld.some (.inr ⟨_, rfl, .inr ⟨rfl, fun ha => by have := (ha k (by omega)).1; omega⟩⟩)))
   ·refine Yld.g1 (by simp [h1]) (Yld.idx (by omega) (by omega) (Yld.ite (fun hq => ?_) (fun hq => ?_)))
    ·have hq : n ≤ idx h (k : Int) := by simpa [h1] using hq
     exact Yld.some (.inr ⟨_, rfl, .inr ⟨rfl, fun ha => by have := (ha k (by omega)).2; omega⟩⟩)
    ·simp only [h1, decide_false, Bool.false_or, decide_eq_false_iff_not] at hq
     refine Yld.some (.inl ⟨_, rfl, ⟨by push_cast; rfl, fun i g1 g2 => ?_⟩, by omega⟩)
     by_cases e : i < k
     ·exact hI i e g2
     ·have : i = k := by omega
      subst this
      omega
  ·have hc := of_decide_eq_false hc
   exact Yld.some (.inr ⟨_, rfl, .inl ⟨rfl, fun i h1 => hI i (by omega) h1⟩⟩)
 ·rintro o (⟨rfl, h⟩ | ⟨rfl, h⟩)
  ·exact Yld.some (by simp [h])
  ·exact Yld.some (by simp [h])
theorem isHome_ok {h : List Int} {n : Int} (hl : h.length ≤ 400) : Yld (owner_isHome_S 2000 h n) (fun r => (r = true ↔ Homes h n)) := by
 unfold owner_isHome_S
 refine Yld.g1 (decide_eq_true (by omega)) ?_
 unfold slices_ContainsFunc_S slices_IndexFunc_S
 refine Yld.bind (P := fun r : Bool => (r = true ↔ ¬ Homes h n)) ?_ ?_
 ·refine Yld.bind (P := fun r : Int => (0 ≤ r ↔ ¬ Homes h n)) ?_ (fun r hr => Yld.some (by simpa using hr))
  refine Yld.bind (P := fun o : Unit ⊕ Int => (o = .inl () ∧ Homes h n) ∨ (∃ k : Int, o = .inr k ∧ 0 ≤ k ∧ ¬ Homes h n)) ?_ ?_
  ·refine Yld.rounds (n := h.length) (I := fun k s => s = (k : Int) ∧ ∀ i : Nat, i < k → i < h.length → -1 ≤ idx h i ∧ idx h i < n) (by omega) ⟨rfl, fun i h1 => by omega⟩ ?_
   rintro k s hk ⟨rfl, hI⟩
   refine Yld.ite (fun hc => ?_) (fun hc => ?_)
   ·have hc := of_decide_eq_true hc
    rw [wi64' (by omega) (by omega)]
    refine Yld.idx (by omega) (by omega) ?_
    unfold owner_isHome_1_S
    refine Yld.bindE rfl (Yld.ite (fun h => ?_) (fun h => ?_))
    ·simp only [Bool.or_eq_true, decide_eq_true_eq] at h
     exact Yld.some (.inr ⟨_, rfl, .inr ⟨k, rfl, by omega, fun ha => by have := ha k (by omega); omega⟩⟩)
    ·simp only [Bool.or_eq_false_iff, decide_eq_false_iff_not] at h
     refine Yld.some (.inl ⟨_, rfl, ⟨by push_cast; rfl, fun i g1 g2 => ?_⟩, by omega⟩)
     by_cases e : i < k
     ·exact hI i e g2
     ·have : i = k := by omega
      subst this
      omega
   ·have hc := of_decide_eq_false hc
    exact Yld.some (.inr ⟨_, rfl, .inl ⟨rfl, fun i h1 => hI i (by omega) h1⟩⟩)
  ·rintro o (⟨rfl, h⟩ | ⟨k, rfl, h0, h⟩)
   ·exact Yld.some (by simp [h])
   ·exact Yld.some (by simp [h, h0])
 ·intro r hr
  refine Yld.some ?_
  have : decide ((h.length : Int) ≤ 401) = true := decide_eq_true (by omega)
  rw [this]
  cases r <;> simp_all
end Go.Proofs.Ytnpddoaeoefcnaa

namespace Go.Proofs.Ytnpddoaeoefcnaa
open Go Go.Sk
set_option linter.unusedVariables false
set_option linter.unusedSimpArgs false
theorem asc_lt {b : List Int} (ha : Asc b) : ∀ (d i : Nat), i + d + 1 < b.length → idx b i < idx b ((i + d + 1 : Nat) : Int)
 | 0, i, h => by
  have := ha (i + 1) (by omega) h
  push_cast at this ⊢
  have e : (i : Int) + 1 - 1 = i := by omega
  rw [e] at this
  simpa using this
 | d + 1, i, h => by
  have h1 := asc_lt ha d i (by omega)
  have h2 := ha (i + (d + 1) + 1) (by omega) h
  have e : ((i + (d + 1) + 1 : Nat) : Int) - 1 = ((i + d + 1 : Nat) : Int) := by push_cast; omega
  rw [e] at h2
  omega
def Cut (b : List Int) (x r : Int) : Prop := 0 ≤ r ∧ r ≤ b.length ∧ ∀ i : Nat, i < b.length → (idx b i ≤ x ↔ (i : Int) < r)
theorem search_ok {b : List Int} {x : Int} (hl : b.length ≤ 1000) (ha : Asc b) : Yld (owner_Reach_1_S 2000 x b) (Cut b x) := by
 have hm : ∀ i j : Nat, i < j → j < b.length → idx b i < idx b j := fun i j h1 h2 => by
  obtain ⟨d, rfl⟩ : ∃ d, j = i + d + 1 := ⟨j - i - 1, by omega⟩
  exact asc_lt ha d i h2
 unfold owner_Reach_1_S
 refine Yld.bind ?_ (fun r hr => Yld.some hr)
 unfold sort_Search_S
 refine Yld.bind ?_ (fun r hr => Yld.some hr)
 refine Yld.loop (fun s : Int × Int => 0 ≤ s.1 ∧ s.1 ≤ s.2 ∧ s.2 ≤ b.length ∧ (∀ k : Nat, (k : Int) < s.1 → k < b.length → idx b k ≤ x) ∧ ∀ k : Nat, s.2 ≤ (k : Int) → k < b.length → x < idx b k) (fun s => (s.2 - s.1).toNat)
  ⟨Int.le_refl _, by simp, by simp, fun k h => by simp at h; omega, fun k h h2 => by simp at h; omega⟩ (by simp; omega) ?_
 rintro ⟨i, j⟩ ⟨h0, h1, h2, h3, h4⟩
 simp only at h0 h1 h2 h3 h4
 refine Yld.ite (fun hc => ?_) (fun hc => ?_)
 ·have hc : i < j := of_decide_eq_true hc
  refine Yld.lnE (i + j) (by rw [wi64' (by omega) (by omega), wu64]; omega) ?_
  have e1 : IntKind.i64.wrap ((i + j) / 2) = (i + j) / 2 := wi64' (by omega) (by omega)
  rw [e1]
  unfold owner_Reach_1_1_S
  obtain ⟨m, hmm⟩ : ∃ m : Nat, (i + j) / 2 = m := ⟨((i + j) / 2).toNat, by omega⟩
  rw [hmm]
  have hm1 : i ≤ m := by omega
  have hm2 : (m : Int) < j := by omega
  have hml : m < b.length := by omega
  rw [idx?_eq (by omega) (by omega)]
  refine Yld.bindE rfl (Yld.ite (fun hq => ?_) (fun hq => ?_))
  ·have hq : ¬ x < idx b (m : Int) := by simpa using hq
   refine Yld.lnE ((m : Int) + 1) (wi64' (by omega) (by omega)) (Yld.some (.inl ⟨_, rfl, ⟨by simp only; omega, by simp only; omega, h2, fun k hk hkl => ?_, h4⟩, by simp only; omega⟩))
   simp only at hk
   by_cases e : k = m
   ·subst e; omega
   ·have := hm k m (by omega) hml
    omega
  ·have hq : x < idx b (m : Int) := by simpa using hq
   refine Yld.some (.inl ⟨_, rfl, ⟨h0, hm1, by simp only; omega, h3, fun k hk hkl => ?_⟩, by simp only; omega⟩)
   simp only at hk
   by_cases e : k = m
   ·subst e; omega
   ·have := hm m k (by omega) hkl
    omega
 ·have hc : ¬ i < j := of_decide_eq_false hc
  refine Yld.some (.inr ⟨_, rfl, h0, by omega, fun k hk => ⟨fun h => ?_, fun h => h3 k h hk⟩⟩)
  by_cases e : (k : Int) < i
  ·exact e
  ·have := h4 k (by omega) hk
   omega
theorem region_ok {b : List Int} {x r : Int} (hl : b.length ≤ 1000) (hr : Cut b x r) : skewbackref44_region_S 2000 b x = some r := by
 refine Yld.eq ?_
 unfold skewbackref44_region_S
 obtain ⟨h0, h1, h2⟩ := hr
 refine Yld.bind ?_ (fun z hz => Yld.some hz)
 refine Yld.rounds (n := b.length) (I := fun k s => s = (min (k : Int) r, (k : Int))) (by omega) (by rw [show min (((0 : Nat)) : Int) r = 0 by omega]; rfl) ?_
 rintro k s hk rfl
 refine Yld.ite (fun hc => ?_) (fun hc => ?_)
 ·have hc : (k : Int) < b.length := of_decide_eq_true hc
  have hb := h2 k (by omega)
  refine Yld.bind (P := (· = min ((k : Int) + 1) r)) ?_ ?_
  ·refine Yld.idx (by omega) hc (Yld.ite (fun h => ?_) (fun h => ?_))
   ·have h := hb.1 (of_decide_eq_true h)
    refine Yld.some ?_
    simp only
    rw [wi64' (by omega) (by omega)]
    omega
   ·have h : ¬ (k : Int) < r := fun e => of_decide_eq_false h (hb.2 e)
    refine Yld.some ?_
    simp only
    omega
  ·rintro n rfl
   refine Yld.some (.inl ⟨_, rfl, ?_, by omega⟩)
   simp only
   rw [wi64' (by omega) (by omega)]
   push_cast
   rfl
 ·have hc : ¬ (k : Int) < b.length := of_decide_eq_false hc
  refine Yld.some (.inr ⟨_, rfl, ?_⟩)
  simp only
  omega
theorem reach_ok {b : List Int} {x y : Int} (hl : b.length ≤ 1000) (ha : Asc b) : ∃ p q, owner_Reach_S 2000 b x y = some (p, q) ∧ skewbackref44_Reach_S 2000 b x y = some ⟨p, q⟩ ∧ Cut b x p ∧ Cut b y q := by
 obtain ⟨p, e1, h1⟩ := search_ok (x := x) hl ha
 obtain ⟨q, e2, h2⟩ := search_ok (x := y) hl ha
 refine ⟨p, q, ?_, ?_, h1, h2⟩
 ·unfold owner_Reach_S
  rw [e1, e2]; rfl
 ·unfold skewbackref44_Reach_S
  rw [region_ok hl h1, region_ok hl h2]; rfl
end Go.Proofs.Ytnpddoaeoefcnaa

namespace Go.Proofs.Ytnpddoaeoefcnaa
open Go Go.Sk
set_option linter.unusedVariables false
set_option linter.unusedSimpArgs false
theorem bind_iter_map {σ τ τ' α β : Type} {f : σ → Option (σ ⊕ τ')} {g : σ → Option (σ ⊕ τ)} (φ : τ → τ') {K1 : τ' → Option α} {K2 : τ → Option β} {ψ : β → α} {F : Nat} {s : σ} (h : ∀ s, f s = (g s).map (alt2 .inl fun t => .inr (φ t))) (hk : ∀ t, K1 (φ t) = (K2 t).map ψ) :
  (iter F f s).bind K1 = ((iter F g s).bind K2).map ψ := by
 rw [iter_map φ h F s]
 cases iter F g s with
 | none => rfl
 | some t => exact hk t
theorem valid_eq : broad_Valid_S = skewbackref17_Valid_S := rfl
theorem shares_eq {b h : List Int} {bx : List Box} (hb : b.length ≤ 20) (hh : h.length ≤ 40) : owner_Shares_S 2000 b h bx = (skewbackref44_Shares_S 2000 b h bx).map fun z => (z.L, z.E) := by
 unfold owner_Shares_S skewbackref44_Shares_S
 obtain ⟨o, eo, ho⟩ := asc2_ok (b := b) (by omega)
 obtain ⟨r, er, hr⟩ := asc_ok (b := b) (by omega)
 rw [eo, er]
 rcases ho with ⟨rfl, ha⟩ | ⟨rfl, hna⟩
 ·have : r = true := hr.2 ha
  subst this
  have ew : IntKind.i64.wrap ((b.length : Int) + 1) = b.length + 1 := wi64' (by omega) (by omega)
  simp only [Option.bind_some, alt2, letN, ew, Bool.not_true, Bool.not_false, gcall, if_true, Bool.false_or]
  obtain ⟨r1, e1, h1⟩ := isHome_ok (h := h) (n := (b.length : Int) + 1) (by omega)
  obtain ⟨r2, e2, h2⟩ := homely_ok (h := h) (n := (b.length : Int) + 1) (by omega)
  have : r1 = r2 := by cases r1 <;> cases r2 <;> simp_all
  subst this
  rw [e1, e2]
  simp only [Option.bind_some]
  split
  ·rfl
  ·refine bind_iter_map (alt2 .inl fun z : Shared => .inr (z.L, z.E)) ?_ ?_
   ·rintro ⟨out, i⟩
    simp only [un2]
    split
    ·cases hv : idx? h i with
     | none => rfl
     | some v =>
      simp only [Option.bind_some]
      split
      ·rfl
      ·cases hx : idx? bx i with
       | none => rfl
       | some x =>
        simp only [Option.bind_some, valid_eq]
        cases hvd : skewbackref17_Valid_S 2000 x with
        | none => rfl
        | some g =>
         simp only [Option.bind_some]
         split
         ·rfl
         ·obtain ⟨p, q, e3, e4, _, _⟩ := reach_ok (b := b) (x := x.Lo.a0) (y := x.Hi.a0) (by omega) ha
          rw [e3, e4]
          simp only [Option.bind_some, un2]
          cases iter 2000 (fun z : List Share × Int => if decide (z.2 ≤ q) = true then (if decide (z.2 ≠ v) = true then (app? z.1 [⟨i, v, z.2⟩]).bind fun x_21 => some x_21 else some z.1).bind fun out_18 => some (Sum.inl (out_18, IntKind.i64.wrap (z.2 + 1))) else some (Sum.inr z.1)) (out, p) <;> rfl
    ·rfl
   ·rintro (out | z) <;> rfl
 ·have : r = false := by cases r with
   | false => rfl
   | true => exact absurd (hr.1 rfl) hna
  subst this
  rfl
end Go.Proofs.Ytnpddoaeoefcnaa

namespace Go.Proofs.Ytnpddoaeoefcnaa
open Go Go.Sk
set_option linter.unusedVariables false
set_option linter.unusedSimpArgs false
def told (L : List Share) (r z : Int) : Bool := L.any fun s => decide (s.Body = z) && decide (s.To = r)
def kn (h : List Int) (L : List Share) (r : Int) (n : Nat) : List Int := ((List.range n).filter fun k : Nat => decide (idx h (k : Int) = r) || told L r k).map fun k : Nat => (k : Int)
theorem kn_succ (h : List Int) (L : List Share) (r : Int) (n : Nat) : kn h L r (n + 1) = if (decide (idx h (n : Int) = r) || told L r n) = true then kn h L r n ++ [(n : Int)] else kn h L r n := by
 unfold kn
 rw [List.range_succ, List.filter_append, List.map_append]
 cases hc : (decide (idx h (n : Int) = r) || told L r n) <;> simp [hc]
theorem kn_len (h : List Int) (L : List Share) (r : Int) (n : Nat) : (kn h L r n).length ≤ n := by
 unfold kn
 rw [List.length_map]
 exact Nat.le_trans (List.length_filter_le _ _) (by simp)
theorem told_take {L : List Share} {r z : Int} {k : Nat} (hk : k < L.length) : told (L.take (k + 1)) r z = (told (L.take k) r z || (decide ((idx L (k : Int)).Body = z) && decide ((idx L (k : Int)).To = r))) := by
 unfold told
 have e : idx L (k : Int) = L[k] := by simp [idx, List.getD, List.getElem?_eq_getElem hk]
 rw [List.take_add_one, List.any_append, List.getElem?_eq_getElem hk, e]
 simp
theorem known1 {h : List Int} {L : List Share} {r : Int} (hh : h.length ≤ 40) (hL : L.length ≤ 840) : owner_Known_S 2000 h L r = some (kn h L r h.length) := by
 refine Yld.eq ?_
 unfold owner_Known_S
 refine Yld.bind (P := fun m : MapB => ∀ z, mGetB m z = told L r z) ?_ fun m hm => ?_
 ·refine Yld.rounds (n := L.length) (I := fun k s => ∃ m : MapB, s = (m, (k : Int)) ∧ ∀ z, mGetB m z = told (L.take k) r z) (by omega) ⟨[], rfl, fun z => rfl⟩ ?_
  rintro k s hk ⟨m, rfl, hm⟩
  refine Yld.ite (fun hc => ?_) (fun hc => ?_)
  ·have hc : (k : Int) < L.length := of_decide_eq_true hc
   refine Yld.idx (by omega) hc (Yld.some (.inl ⟨_, rfl, ⟨mset m (idx L (k : Int)).Body (mGetB m (idx L (k : Int)).Body || decide ((idx L (k : Int)).To = r)), ?_, fun z => ?_⟩, by omega⟩))
   ·simp only
    rw [wi64' (by omega) (by omega)]
    push_cast; rfl
   ·rw [told_take (by omega), ← hm z]
    unfold mGetB
    rw [mget_mset]
    by_cases e : z = (idx L (k : Int)).Body
    ·subst e; simp
    ·have e' : ¬ (idx L (k : Int)).Body = z := fun q => e q.symm
     simp [e, e']
  ·have hc : ¬ (k : Int) < L.length := of_decide_eq_false hc
   refine Yld.some (.inr ⟨_, rfl, fun z => ?_⟩)
   rw [hm z, List.take_of_length_le (by omega)]
 ·refine Yld.bind ?_ fun z hz => Yld.some hz
  refine Yld.rounds (n := h.length) (I := fun k s => s = (kn h L r k, (k : Int))) (by omega) rfl ?_
  rintro k s hk rfl
  refine Yld.ite (fun hc => ?_) (fun hc => ?_)
  ·have hc : (k : Int) < h.length := of_decide_eq_true hc
   have hkl := kn_len h L r k
   refine Yld.bind (P := (· = kn h L r (k + 1))) ?_ ?_
   ·refine Yld.idx (by omega) hc ?_
    simp only [hm]
    rw [kn_succ]
    refine Yld.ite (fun h1 => ?_) (fun h1 => ?_)
    ·rw [if_pos h1]
     exact Yld.app (by simp only [List.length_singleton]; omega) (Yld.some rfl)
    ·rw [h1]
     exact Yld.some rfl
   ·rintro z rfl
    refine Yld.some (.inl ⟨_, rfl, ?_, by omega⟩)
    simp only
    rw [wi64' (by omega) (by omega)]
    push_cast; rfl
  ·have hc : ¬ (k : Int) < h.length := of_decide_eq_false hc
   exact Yld.some (.inr ⟨_, rfl, by rw [show k = h.length by omega]⟩)
end Go.Proofs.Ytnpddoaeoefcnaa

namespace Go.Proofs.Ytnpddoaeoefcnaa
open Go Go.Sk
set_option linter.unusedVariables false
set_option linter.unusedSimpArgs false
theorem cut_mono {b : List Int} {x y r s : Int} (h1 : Cut b x r) (h2 : Cut b y s) (hxy : x ≤ y) : r ≤ s := by
 by_cases h : r ≤ s
 ·exact h
 ·exfalso
  obtain ⟨a0, a1, a2⟩ := h1
  obtain ⟨b0, b1, b2⟩ := h2
  obtain ⟨m, rfl⟩ : ∃ m : Nat, s = m := ⟨s.toNat, by omega⟩
  have e1 := (a2 m (by omega)).2 (by omega)
  have e2 := (b2 m (by omega)).1 (by omega)
  omega
theorem valid2 (x : Box) : Yld (skewbackref17_Valid_S 2000 x) (fun g => g = true → x.Lo.a0 ≤ x.Hi.a0) := by
 unfold skewbackref17_Valid_S
 have l1 : x.Lo.l.length = 3 := rfl
 have l2 : x.Hi.l.length = 3 := rfl
 refine Yld.bind (P := fun o : Unit ⊕ Bool => (o = .inl () ∧ x.Lo.a0 ≤ x.Hi.a0) ∨ o = .inr false) ?_ ?_
 ·refine Yld.rounds (n := 3) (I := fun k s => s = (k : Int) ∧ (0 < k → x.Lo.a0 ≤ x.Hi.a0)) (by omega) ⟨rfl, fun h => by omega⟩ ?_
  rintro k s hk ⟨rfl, hI⟩
  refine Yld.ite (fun hc => ?_) (fun hc => ?_)
  ·have hc : (k : Int) < 3 := of_decide_eq_true hc
   rw [wi64' (by omega) (by omega)]
   refine Yld.idx (by omega) (by omega) (Yld.idx (by omega) (by omega) ?_)
   have fin : ∀ c1 c2 : Bool, Yld (if ((decide (idx x.Hi.l (k : Int) < idx x.Lo.l (k : Int)) || c1) || c2) = true then (some (.inr (.inr false)) : Option (Int ⊕ (Unit ⊕ Bool))) else some (.inl ((k : Int) + 1))) fun o => (∃ s', o = .inl s' ∧ (s' = ((k + 1 : Nat) : Int) ∧ (0 < k + 1 → x.Lo.a0 ≤ x.Hi.a0)) ∧ k < 3) ∨ ∃ t, o = .inr t ∧ ((t = .inl () ∧ x.Lo.a0 ≤ x.Hi.a0) ∨ t = .inr false) := fun c1 c2 =>
    Yld.ite (fun _ => Yld.some (.inr ⟨_, rfl, .inr rfl⟩)) (fun hq => Yld.some (.inl ⟨_, rfl, ⟨by push_cast; rfl, fun _ => by
     simp only [Bool.or_eq_false_iff, decide_eq_false_iff_not] at hq
     by_cases e : 0 < k
     ·exact hI e
     ·have : k = 0 := by omega
      subst this
      have h := hq.1.1
      have e1 : idx x.Hi.l ((0 : Nat) : Int) = x.Hi.a0 := rfl
      have e2 : idx x.Lo.l ((0 : Nat) : Int) = x.Lo.a0 := rfl
      rw [e1, e2] at h
      omega⟩, by omega⟩))
   refine Yld.bind (P := fun _ => True) ?_ fun x4 _ => Yld.bind (P := fun _ => True) ?_ fun x5 _ => fin _ _
   ·unfold gcall; split
    ·exact ⟨_, idx?_eq (by omega) (by omega), trivial⟩
    ·exact ⟨_, rfl, trivial⟩
   ·unfold gcall; split
    ·exact ⟨_, idx?_eq (by omega) (by omega), trivial⟩
    ·exact ⟨_, rfl, trivial⟩
  ·have hc : ¬ (k : Int) < 3 := of_decide_eq_false hc
   exact Yld.some (.inr ⟨_, rfl, .inl ⟨rfl, hI (by omega)⟩⟩)
 ·rintro o (⟨rfl, h⟩ | rfl)
  ·exact Yld.some fun _ => h
  ·exact Yld.some fun h => by cases h
theorem meet2 (x y : Box) : Yld (broad_Meet_S 2000 x y) (fun g => g = true → y.Lo.a0 ≤ x.Hi.a0 ∧ x.Lo.a0 ≤ y.Hi.a0) := by
 unfold broad_Meet_S
 have l1 : x.Lo.l.length = 3 := rfl
 have l2 : x.Hi.l.length = 3 := rfl
 have l3 : y.Lo.l.length = 3 := rfl
 have l4 : y.Hi.l.length = 3 := rfl
 refine Yld.bind (P := fun o : Unit ⊕ Bool => (o = .inl () ∧ y.Lo.a0 ≤ x.Hi.a0 ∧ x.Lo.a0 ≤ y.Hi.a0) ∨ o = .inr false) ?_ ?_
 ·refine Yld.rounds (n := 3) (I := fun k s => s = (k : Int) ∧ (0 < k → y.Lo.a0 ≤ x.Hi.a0 ∧ x.Lo.a0 ≤ y.Hi.a0)) (by omega) ⟨rfl, fun h => by omega⟩ ?_
  rintro k s hk ⟨rfl, hI⟩
  refine Yld.ite (fun hc => ?_) (fun hc => ?_)
  ·have hc : (k : Int) < 3 := of_decide_eq_true hc
   rw [wi64' (by omega) (by omega)]
   refine Yld.idx (by omega) (by omega) (Yld.idx (by omega) (by omega) ?_)
   by_cases h1 : idx x.Hi.l (k : Int) < idx y.Lo.l (k : Int)
   ·exact Yld.g0 (by simp [h1]) (Yld.g0 (by simp [h1]) (Yld.ift (by simp [h1]) (Yld.some (.inr ⟨_, rfl, .inr rfl⟩))))
   ·refine Yld.g1 (by simp [h1]) (Yld.idx (by omega) (by omega) (Yld.g1 (by simp [h1]) (Yld.idx (by omega) (by omega) (Yld.ite (fun _ => Yld.some (.inr ⟨_, rfl, .inr rfl⟩)) (fun hq => Yld.some (.inl ⟨_, rfl, ⟨by push_cast; rfl, fun _ => ?_⟩, by omega⟩))))))
    simp only [Bool.or_eq_false_iff, decide_eq_false_iff_not] at hq
    by_cases e : 0 < k
    ·exact hI e
    ·have : k = 0 := by omega
     subst this
     have h2 := hq.2
     have e1 : idx x.Hi.l ((0 : Nat) : Int) = x.Hi.a0 := rfl
     have e2 : idx x.Lo.l ((0 : Nat) : Int) = x.Lo.a0 := rfl
     have e3 : idx y.Hi.l ((0 : Nat) : Int) = y.Hi.a0 := rfl
     have e4 : idx y.Lo.l ((0 : Nat) : Int) = y.Lo.a0 := rfl
     rw [e1, e4] at h1
     rw [e3, e2] at h2
     omega
  ·have hc : ¬ (k : Int) < 3 := of_decide_eq_false hc
   exact Yld.some (.inr ⟨_, rfl, .inl ⟨rfl, hI (by omega)⟩⟩)
 ·rintro o (⟨rfl, h⟩ | rfl)
  ·exact Yld.some fun _ => h
  ·exact Yld.some fun h => by cases h
theorem has_ok {l : List Int} {n : Int} (hl : l.length ≤ 1000) : skewbackref35_Has_S 2000 l n = some (decide (n ∈ l)) := by
 refine Yld.eq ?_
 unfold skewbackref35_Has_S
 refine Yld.bind (P := fun o : Unit ⊕ Bool => (o = .inl () ∧ ¬ n ∈ l) ∨ (o = .inr true ∧ n ∈ l)) ?_ ?_
 ·refine Yld.rounds (n := l.length) (I := fun k s => s = (k : Int) ∧ ∀ i : Nat, i < k → i < l.length → idx l (i : Int) ≠ n) (by omega) ⟨rfl, fun i h => by omega⟩ ?_
  rintro k s hk ⟨rfl, hI⟩
  refine Yld.ite (fun hc => ?_) (fun hc => ?_)
  ·have hc : (k : Int) < l.length := of_decide_eq_true hc
   rw [wi64' (by omega) (by omega)]
   have hkl : k < l.length := by omega
   have e : idx l (k : Int) = l[k] := by simp [idx, List.getD, List.getElem?_eq_getElem hkl]
   refine Yld.idx (by omega) hc (Yld.ite (fun hq => ?_) (fun hq => ?_))
   ·have hq := of_decide_eq_true hq
    refine Yld.some (.inr ⟨_, rfl, .inr ⟨rfl, ?_⟩⟩)
    rw [← hq, e]
    exact List.getElem_mem hkl
   ·have hq := of_decide_eq_false hq
    refine Yld.some (.inl ⟨_, rfl, ⟨by push_cast; rfl, fun i g1 g2 => ?_⟩, by omega⟩)
    by_cases e2 : i < k
    ·exact hI i e2 g2
    ·have : i = k := by omega
     subst this
     exact hq
  ·have hc : ¬ (k : Int) < l.length := of_decide_eq_false hc
   refine Yld.some (.inr ⟨_, rfl, .inl ⟨rfl, fun hm => ?_⟩⟩)
   obtain ⟨i, hi, e⟩ := List.mem_iff_getElem.1 hm
   exact hI i (by omega) hi (by simp [idx, List.getD, List.getElem?_eq_getElem hi, e])
 ·rintro o (⟨rfl, h⟩ | ⟨rfl, h⟩)
  ·exact Yld.some (by simp [h])
  ·exact Yld.some (by simp [h])
theorem mem_kn {h : List Int} {L : List Share} {r : Int} {n a : Nat} : (a : Int) ∈ kn h L r n ↔ a < n ∧ (idx h (a : Int) = r ∨ told L r a = true) := by
 unfold kn
 simp only [List.mem_map, List.mem_filter, List.mem_range, Bool.or_eq_true, decide_eq_true_eq]
 constructor
 ·rintro ⟨k, hk, e⟩
  have : k = a := by omega
  subst this
  exact hk
 ·exact fun hk => ⟨a, hk, rfl⟩
end Go.Proofs.Ytnpddoaeoefcnaa

namespace Go.Proofs.Ytnpddoaeoefcnaa
open Go Go.Sk
set_option linter.unusedVariables false
set_option linter.unusedSimpArgs false
theorem told_append (l m : List Share) (r z : Int) : told (l ++ m) r z = (told l r z || told m r z) := by simp [told]
theorem told_no {l : List Share} {r z : Int} (h : ∀ s ∈ l, s.Body ≠ z) : told l r z = false := by
 unfold told
 rw [List.any_eq_false]
 intro s hs
 simp [h s hs]
def Gd (b h : List Int) (bx : List Box) (l : List Share) (k : Nat) : Prop := (∀ sh ∈ l, sh.Body < (k : Int)) ∧ ∀ i : Nat, i < k → 0 ≤ idx h (i : Int) → (idx bx (i : Int)).Lo.a0 ≤ (idx bx (i : Int)).Hi.a0 ∧
 ∀ p q, Cut b (idx bx (i : Int)).Lo.a0 p → Cut b (idx bx (i : Int)).Hi.a0 q → ∀ r, told l r i = true ↔ (r ≠ idx h (i : Int) ∧ p ≤ r ∧ r ≤ q)
theorem cut_uniq {b : List Int} {x r s : Int} (h1 : Cut b x r) (h2 : Cut b x s) : r = s := Int.le_antisymm (cut_mono h1 h2 (Int.le_refl _)) (cut_mono h2 h1 (Int.le_refl _))
theorem gd_skip {b h : List Int} {bx : List Box} {l : List Share} {k : Nat} (hg : Gd b h bx l k) (hn : ¬ 0 ≤ idx h (k : Int)) : Gd b h bx l (k + 1) :=
 ⟨fun sh hs => by have := hg.1 sh hs; push_cast; omega, fun i hi h0 => by
  by_cases e : i < k
  ·exact hg.2 i e h0
  ·have : i = k := by omega
   subst this
   exact absurd h0 hn⟩
theorem gd_step {b h : List Int} {bx : List Box} {l m : List Share} {k : Nat} {p q : Int} (hg : Gd b h bx l k) (hv : (idx bx (k : Int)).Lo.a0 ≤ (idx bx (k : Int)).Hi.a0) (hp : Cut b (idx bx (k : Int)).Lo.a0 p) (hq : Cut b (idx bx (k : Int)).Hi.a0 q)
  (hm : ∀ s ∈ m, s.Body = (k : Int)) (ht : ∀ r, told m r k = true ↔ (r ≠ idx h (k : Int) ∧ p ≤ r ∧ r ≤ q)) : Gd b h bx (l ++ m) (k + 1) := by
 refine ⟨fun sh hs => ?_, fun i hi h0 => ?_⟩
 ·rcases List.mem_append.1 hs with hs | hs
  ·have := hg.1 sh hs; push_cast; omega
  ·have := hm sh hs; push_cast; omega
 ·by_cases e : i < k
  ·obtain ⟨g1, g2⟩ := hg.2 i e h0
   refine ⟨g1, fun p' q' hp' hq' r => ?_⟩
   rw [told_append, told_no (l := m) (fun s hs => by rw [hm s hs]; omega), Bool.or_false]
   exact g2 p' q' hp' hq' r
  ·have : i = k := by omega
   subst this
   refine ⟨hv, fun p' q' hp' hq' r => ?_⟩
   rw [cut_uniq hp' hp, cut_uniq hq' hq, told_append, told_no (l := l) (fun s hs => by have := hg.1 s hs; omega), Bool.false_or]
   exact ht r
theorem shares_full {b h : List Int} {bx : List Box} (hb : b.length ≤ 20) (hh : h.length ≤ 40) : Yld (skewbackref44_Shares_S 2000 b h bx) (fun z => z.L.length ≤ 840 ∧ ((z.E ≠ 0 ∧ z.L = []) ∨ (z.E = 0 ∧ bx.length = h.length ∧ Gd b h bx z.L h.length))) := by
 unfold skewbackref44_Shares_S
 have ew : IntKind.i64.wrap ((b.length : Int) + 1) = b.length + 1 := wi64' (by omega) (by omega)
 rw [ew]
 refine Yld.bind (asc_ok (by omega)) fun r hr => ?_
 refine Yld.bind (P := fun r2 : Bool => True) ?_ fun r2 _ => ?_
 ·unfold gcall; split
  ·obtain ⟨z, e, _⟩ := homely_ok (h := h) (n := (b.length : Int) + 1) (by omega); exact ⟨z, e, trivial⟩
  ·exact ⟨_, rfl, trivial⟩
 refine Yld.ln (Yld.ite (fun _ => Yld.some ⟨by simp, .inl ⟨by simp, rfl⟩⟩) (fun hq => ?_))
 simp only [Bool.or_eq_false_iff, Bool.not_eq_false', decide_eq_false_iff_not, Classical.not_not] at hq
 obtain ⟨⟨ha, _⟩, hlen⟩ := hq
 have ha := hr.1 ha
 have hbl : bx.length = h.length := by omega
 refine Yld.bind (P := fun o : List Share ⊕ Shared => (∃ l, o = .inl l ∧ l.length ≤ 840 ∧ Gd b h bx l h.length) ∨ ∃ z, o = .inr z ∧ z.E ≠ 0 ∧ z.L = []) ?_ ?_
 ·refine Yld.rounds (n := h.length) (I := fun k s => ∃ l, s = (l, (k : Int)) ∧ l.length ≤ 21 * k ∧ Gd b h bx l k) (by omega) ⟨[], rfl, by simp, ⟨fun sh hs => (by cases hs), fun i hi => (by omega)⟩⟩ ?_
  rintro k s hk ⟨l, rfl, hl, hg⟩
  refine Yld.ite (fun hc => ?_) (fun hc => ?_)
  ·have hc : (k : Int) < h.length := of_decide_eq_true hc
   refine Yld.bind (P := fun o : List Share ⊕ Shared => (∃ l, o = .inl l ∧ l.length ≤ 21 * (k + 1) ∧ Gd b h bx l (k + 1)) ∨ ∃ z, o = .inr z ∧ z.E ≠ 0 ∧ z.L = []) ?_ ?_
   ·refine Yld.idx (by omega) hc (Yld.ite (fun h1 => Yld.some (.inl ⟨l, rfl, by omega, gd_skip hg (by have h1 : idx h (k : Int) < 0 := of_decide_eq_true h1; omega)⟩)) fun h1 => ?_)
    refine Yld.idx (by omega) (by omega) (Yld.bind (valid2 _) fun g hv => Yld.ite (fun _ => Yld.some (.inr ⟨_, rfl, by simp, rfl⟩)) fun hgv => ?_)
    have hv := hv (by simpa using hgv)
    refine Yld.idx (by omega) (by omega) (Yld.idx (by omega) (by omega) ?_)
    obtain ⟨p, q, _, e4, hp, hq⟩ := reach_ok (b := b) (x := (idx bx (k : Int)).Lo.a0) (y := (idx bx (k : Int)).Hi.a0) (by omega) ha
    refine Yld.bindE e4 ?_
    have hp' := hp
    have hq' := hq
    obtain ⟨p0, p1, _⟩ := hp'
    obtain ⟨q0, q1, _⟩ := hq'
    refine Yld.bind (P := fun l' : List Share => l'.length ≤ 21 * (k + 1) ∧ Gd b h bx l' (k + 1)) ?_ fun l' hl' => Yld.some (.inl ⟨l', rfl, hl'⟩)
    refine Yld.rounds (n := (q - p + 1).toNat) (I := fun j s => ∃ m, s = (l ++ m, p + (j : Int)) ∧ m.length ≤ j ∧ (∀ s ∈ m, s.Body = (k : Int)) ∧ ∀ r, told m r k = true ↔ (r ≠ idx h (k : Int) ∧ p ≤ r ∧ r < p + (j : Int))) (by omega) ⟨[], by simp, by simp, fun s hs => (by cases hs), fun r => ⟨fun h => by simp [told] at h, fun h => by omega⟩⟩ ?_
    rintro j s hj ⟨m, rfl, hl', hm, ht⟩
    refine Yld.ite (fun hc2 => ?_) (fun hc2 => ?_)
    ·have hc2 : p + (j : Int) ≤ q := of_decide_eq_true hc2
     refine Yld.bind (P := fun l2 : List Share => ∃ m2, l2 = l ++ m2 ∧ m2.length ≤ j + 1 ∧ (∀ s ∈ m2, s.Body = (k : Int)) ∧ ∀ r, told m2 r k = true ↔ (r ≠ idx h (k : Int) ∧ p ≤ r ∧ r < p + ((j + 1 : Nat) : Int))) ?_ ?_
     ·refine Yld.idx (by omega) hc (Yld.ite (fun h2 => ?_) fun h2 => Yld.some ⟨m, rfl, by omega, hm, fun r => ?_⟩)
      ·have h2 : p + (j : Int) ≠ idx h (k : Int) := of_decide_eq_true h2
       refine Yld.idx (by omega) hc (Yld.app (by simp only [List.length_singleton, List.length_append]; omega) (Yld.some ⟨m ++ [⟨(k : Int), idx h (k : Int), p + (j : Int)⟩], by simp, by simp only [List.length_append, List.length_singleton]; omega, fun s hs => ?_, fun r => ?_⟩))
       ·rcases List.mem_append.1 hs with hs | hs
        ·exact hm s hs
        ·rw [List.mem_singleton.1 hs]
       ·rw [told_append]
        have e : told [⟨(k : Int), idx h (k : Int), p + (j : Int)⟩] r k = decide (p + (j : Int) = r) := by simp [told]
        rw [e, Bool.or_eq_true, ht r, decide_eq_true_eq]
        push_cast
        constructor
        ·rintro (h | h)
         ·exact ⟨h.1, h.2.1, by omega⟩
         ·exact ⟨by omega, by omega, by omega⟩
        ·rintro ⟨g1, g2, g3⟩
         by_cases e : p + (j : Int) = r
         ·exact .inr e
         ·exact .inl ⟨g1, g2, by omega⟩
      ·have h2 : p + (j : Int) = idx h (k : Int) := by simpa using h2
       rw [ht r]
       push_cast
       constructor
       ·rintro ⟨g1, g2, g3⟩; exact ⟨g1, g2, by omega⟩
       ·rintro ⟨g1, g2, g3⟩; exact ⟨g1, g2, by omega⟩
     ·rintro l2 ⟨m2, rfl, g1, g2, g3⟩
      refine Yld.some (.inl ⟨_, rfl, ⟨m2, ?_, g1, g2, g3⟩, by omega⟩)
      simp only
      rw [wi64' (by omega) (by omega)]
      push_cast
      rw [Int.add_assoc]
    ·have hc2 : ¬ p + (j : Int) ≤ q := of_decide_eq_false hc2
     refine Yld.some (.inr ⟨_, rfl, ?_, gd_step hg hv hp hq hm fun r => ?_⟩)
     ·simp only [List.length_append]; omega
     ·rw [ht r]
      constructor
      ·rintro ⟨g1, g2, g3⟩; exact ⟨g1, g2, by omega⟩
      ·rintro ⟨g1, g2, g3⟩; exact ⟨g1, g2, by omega⟩
   ·rintro o (⟨l', rfl, hl', hg'⟩ | ⟨z, rfl, hz⟩)
    ·refine Yld.some (.inl ⟨_, rfl, ⟨l', ?_, hl', hg'⟩, by omega⟩)
     simp only
     rw [wi64' (by omega) (by omega)]
     push_cast; rfl
    ·exact Yld.some (.inr ⟨_, rfl, .inr ⟨z, rfl, hz⟩⟩)
  ·have hc : ¬ (k : Int) < h.length := of_decide_eq_false hc
   have : k = h.length := by omega
   subst this
   exact Yld.some (.inr ⟨_, rfl, .inl ⟨l, rfl, by omega, hg⟩⟩)
 ·rintro o (⟨l, rfl, hl, hg⟩ | ⟨z, rfl, hz, hz2⟩)
  ·exact Yld.some ⟨hl, .inr ⟨rfl, hbl, hg⟩⟩
  ·exact Yld.some ⟨by rw [hz2]; simp, .inl ⟨hz, hz2⟩⟩
end Go.Proofs.Ytnpddoaeoefcnaa

namespace Go.Proofs.Ytnpddoaeoefcnaa
open Go Go.Sk
set_option linter.unusedVariables false
set_option linter.unusedSimpArgs false
theorem meet_law (b h : List Int) (bx : List Box) : skewbacklaw44_OwnerSharesMeet_S 2000 b h bx = some true := by
 refine Yld.eq ?_
 unfold skewbacklaw44_OwnerSharesMeet_S
 refine Yld.ln ?_
 cases hx : ((decide (20 < (b.length : Int)) || decide (40 < (h.length : Int))) || decide (40 < (bx.length : Int))) with
 | true => exact Yld.g0 rfl (Yld.ift (by simp) (Yld.bindE sanity_ok (Yld.some rfl)))
 | false =>
 refine Yld.g1 rfl ?_
 simp only [Bool.or_eq_false_iff, decide_eq_false_iff_not] at hx
 obtain ⟨⟨hb, hh⟩, _⟩ := hx
 have hb : b.length ≤ 20 := by omega
 have hh : h.length ≤ 40 := by omega
 refine Yld.bind (asc_ok (by omega)) fun r hr => ?_
 refine Yld.ite (fun _ => Yld.bindE sanity_ok (Yld.some rfl)) fun hq => ?_
 have ha : Asc b := hr.1 (by simpa using hq)
 obtain ⟨z, ez, hz, hz2⟩ := shares_full (bx := bx) hb hh
 refine Yld.bindE (x := (z.L, z.E)) (by rw [shares_eq hb hh, ez]; rfl) ?_
 rcases hz2 with ⟨he, hl⟩ | ⟨he, hbl, hg⟩
 ·refine Yld.ift (by simpa using he) (Yld.bindE sanity_ok (Yld.some ?_))
  simp [hl]
 refine Yld.iff (by simp [he]) ?_
 refine Yld.bind (P := fun K : List (List Int) => K.length = b.length + 1 ∧ ∀ i : Nat, i < K.length → idx K (i : Int) = kn h z.L (i : Int) h.length) ?_ ?_
 ·refine Yld.rounds (n := b.length + 1) (I := fun k s => ∃ K : List (List Int), s = (z.L, K, (k : Int)) ∧ K.length = k ∧ ∀ i : Nat, i < K.length → idx K (i : Int) = kn h z.L (i : Int) h.length) (by omega) ⟨[], rfl, rfl, fun i hi => absurd hi (by simp)⟩ ?_
  rintro k s hk ⟨K, rfl, hK, hK2⟩
  refine Yld.ite (fun hc => ?_) (fun hc => ?_)
  ·have hc : (k : Int) ≤ b.length := of_decide_eq_true hc
   refine Yld.bindE (known1 hh hz) (Yld.app (by simp only [List.length_singleton]; omega) (Yld.some (.inl ⟨_, rfl, ⟨K ++ [kn h z.L (k : Int) h.length], ?_, by simp [hK], fun i hi => ?_⟩, by omega⟩)))
   ·simp only
    rw [wi64' (by omega) (by omega)]
    push_cast; rfl
   ·simp only [List.length_append, List.length_singleton] at hi
    by_cases e : i < K.length
    ·rw [← hK2 i e]
     simp [idx, List.getD, List.getElem?_append_left e]
    ·have : i = k := by omega
     subst this
     simp [idx, List.getD, ← hK]
  ·have hc : ¬ (k : Int) ≤ b.length := of_decide_eq_false hc
   exact Yld.some (.inr ⟨_, rfl, by simp only; omega, hK2⟩)
 rintro K ⟨hK, hK2⟩
 refine Yld.bind (P := (· = .inl ())) ?_ ?_
 ·refine Yld.rounds (n := h.length) (I := fun k s => s = (k : Int)) (by omega) rfl ?_
  rintro k s hk rfl
  refine Yld.ite (fun hc => ?_) (fun hc => ?_)
  ·have hc : (k : Int) < h.length := of_decide_eq_true hc
   have hkl : k < h.length := by omega
   refine Yld.bind (P := (· = .inl ())) ?_ ?_
   ·refine Yld.idx (by omega) hc (Yld.ite (fun _ => Yld.some rfl) fun h1 => ?_)
    have h1 : 0 ≤ idx h (k : Int) := by have := of_decide_eq_false h1; omega
    refine Yld.idx (by omega) (by omega) (Yld.idx (by omega) (by omega) ?_)
    obtain ⟨hva, hta⟩ := hg.2 k hkl h1
    obtain ⟨p, q, e3, _, hp, hq'⟩ := reach_ok (b := b) (x := (idx bx (k : Int)).Lo.a0) (y := (idx bx (k : Int)).Hi.a0) (by omega) ha
    refine Yld.bindE e3 ?_
    refine Yld.bind (P := (· = .inl ())) ?_ ?_
    ·refine Yld.rounds (n := b.length + 1) (I := fun j s => s = (j : Int)) (by omega) rfl ?_
     rintro j s hj rfl
     refine Yld.ite (fun hc2 => ?_) (fun hc2 => ?_)
     ·have hc2 : (j : Int) ≤ b.length := of_decide_eq_true hc2
      refine Yld.idx (by omega) (by omega) ?_
      rw [hK2 j (by omega), wi64' (by omega) (by omega)]
      have hl := kn_len h z.L (j : Int) h.length
      refine Yld.bindE (has_ok (by omega)) (Yld.idx (by omega) hc (Yld.iff ?_ (Yld.some (.inl ⟨_, rfl, by push_cast; rfl, by omega⟩))))
      have hmem : (k : Int) ∈ kn h z.L (j : Int) h.length ↔ ((j : Int) = idx h (k : Int) ∨ (p ≤ (j : Int) ∧ (j : Int) ≤ q)) := by
       rw [mem_kn, hta p q hp hq' (j : Int)]
       constructor
       ·rintro ⟨_, g | ⟨_, g2, g3⟩⟩
        ·exact .inl g.symm
        ·exact .inr ⟨g2, g3⟩
       ·intro g
        refine ⟨hkl, ?_⟩
        by_cases e : idx h (k : Int) = (j : Int)
        ·exact .inl e
        ·rcases g with g | g
         ·exact absurd g.symm e
         ·exact .inr ⟨fun e2 => e e2.symm, g.1, g.2⟩
      simp [hmem, bne]
     ·exact Yld.some (.inr ⟨_, rfl, rfl⟩)
    ·rintro o rfl
     refine Yld.bind (P := (· = .inl ())) ?_ ?_
     ·refine Yld.rounds (n := k) (I := fun j s => s = (j : Int)) (by omega) rfl ?_
      rintro j s hj rfl
      refine Yld.ite (fun hc2 => ?_) (fun hc2 => ?_)
      ·have hc2 : (j : Int) < k := of_decide_eq_true hc2
       rw [wi64' (by omega) (by omega)]
       refine Yld.bind (P := (· = .inl ())) ?_ ?_
       ·refine Yld.idx (by omega) (by omega) ?_
        by_cases h2 : idx h (j : Int) < 0
        ·exact Yld.g0 (by simp [h2]) (Yld.g0 (by simp [h2]) (Yld.g0 (by simp [h2]) (Yld.ift (by simp [h2]) (Yld.some rfl))))
        ·refine Yld.g1 (by simp [h2]) (Yld.idx (by omega) (by omega) (Yld.g1 (by simp [h2]) (Yld.idx (by omega) (by omega) (Yld.g1 (by simp [h2]) ?_))))
         refine Yld.bind (meet2 _ _) fun g hgm => Yld.ite (fun _ => Yld.some rfl) fun h3 => ?_
         have hgm := hgm (by simpa [h2] using h3)
         refine Yld.idx (by omega) (by omega) (Yld.idx (by omega) (by omega) ?_)
         obtain ⟨hvb, _⟩ := hg.2 j (by omega) (by omega)
         obtain ⟨p2, q2, e5, _, hp2, hq2⟩ := reach_ok (b := b) (x := (idx bx (j : Int)).Lo.a0) (y := (idx bx (j : Int)).Hi.a0) (by omega) ha
         refine Yld.bindE e5 (Yld.iff (decide_eq_false ?_) (Yld.some rfl))
         have c1 := cut_mono hp hq' hva
         have c2 := cut_mono hp2 hq2 hvb
         have c3 := cut_mono hp2 hq' hgm.1
         have c4 := cut_mono hp hq2 hgm.2
         simp only
         omega
       ·rintro o rfl
        exact Yld.some (.inl ⟨_, rfl, by push_cast; rfl, by omega⟩)
      ·exact Yld.some (.inr ⟨_, rfl, rfl⟩)
     ·rintro o rfl
      exact Yld.some rfl
   ·rintro o rfl
    refine Yld.some (.inl ⟨_, rfl, ?_, by omega⟩)
    rw [wi64' (by omega) (by omega)]
    push_cast; rfl
  ·exact Yld.some (.inr ⟨_, rfl, rfl⟩)
 ·rintro o rfl
  exact Yld.bindE sanity_ok (Yld.some rfl)
end Go.Proofs.Ytnpddoaeoefcnaa

namespace Go.Proofs.Ytnpddoaeoefcnaa
open Go Go.Sk
theorem meet_ctr (x0 : List Int) (x1 : List Int) (x2 : List Box) : Meets Try.prog [] 8 [] [.one (.sl 1 (x0.map eI)), .one (.sl 1 (x1.map eI)), .one (.sl 6 (x2.map eBox))] (Is [] (.b (.one (.bool true)))) :=
 skewbacklaw44_OwnerSharesMeet_spec (meet_law x0 x1 x2)
end Go.Proofs.Ytnpddoaeoefcnaa

