/- the plain law -/
import Derived.Test.YtnpddoaeoefcnaaW3
import Derived.Lib.SlicesCompact
namespace Go.Proofs.Ytnpddoaeoefcnaa
open Go Go.Sk
set_option maxRecDepth 100000
def ins1 (x : Int) : List Int → List Int
 | [] => [x]
 | y :: l => if x ≤ y then x :: y :: l else y :: ins1 x l
def isort : List Int → List Int
 | [] => []
 | x :: l => ins1 x (isort l)
theorem ins1_perm (x : Int) : ∀ l : List Int, (ins1 x l).Perm (x :: l)
 | [] => .refl _
 | y :: l => by
  unfold ins1
  split
  ·exact .refl _
  ·exact .trans (.cons y (ins1_perm x l)) (.swap x y l)
theorem isort_perm : ∀ l : List Int, (isort l).Perm l
 | [] => .refl _
 | x :: l => (ins1_perm x (isort l)).trans (.cons x (isort_perm l))
theorem ins1_pw (x : Int) : ∀ l : List Int, l.Pairwise (· ≤ ·) → (ins1 x l).Pairwise (· ≤ ·)
 | [], _ => by simp [ins1]
 | y :: l, h => by
  unfold ins1
  have h1 := List.pairwise_cons.1 h
  split
  ·next hc =>
   refine List.pairwise_cons.2 ⟨fun z hz => ?_, h⟩
   rcases List.mem_cons.1 hz with rfl | hz
   ·exact hc
   ·exact Int.le_trans hc (h1.1 z hz)
  ·next hc =>
   refine List.pairwise_cons.2 ⟨fun z hz => ?_, ins1_pw x l h1.2⟩
   rcases List.mem_cons.1 ((ins1_perm x l).mem_iff.1 hz) with rfl | hz
   ·omega
   ·exact h1.1 z hz
theorem isort_pw : ∀ l : List Int, (isort l).Pairwise (· ≤ ·)
 | [] => .nil
 | x :: l => ins1_pw x _ (isort_pw l)
theorem sorted_perm (l : List Int) : (sorted l).Perm l := List.mergeSort_perm _ _
theorem sorted_pw (l : List Int) : (sorted l).Pairwise (· ≤ ·) :=
 (List.pairwise_mergeSort (le := fun x y : Int => decide (x ≤ y)) (fun a b c h1 h2 => by simp only [decide_eq_true_eq] at *; omega) (fun a b => by simp only [Bool.or_eq_true, decide_eq_true_eq]; omega) l).imp fun h => of_decide_eq_true h
theorem sorted_eq (l : List Int) : sorted l = isort l :=
 List.Perm.eq_of_pairwise (fun a b _ _ h1 h2 => Int.le_antisymm h1 h2) (sorted_pw l) (isort_pw l) ((sorted_perm l).trans (isort_perm l).symm)
def sort2 (F : Nat) (zs : List Int) : Option (List Int) := if zs.length < 1000000000 then some (isort zs) else none
theorem sort_eq : slices_Sort_S = sort2 := by
 funext F zs
 unfold slices_Sort_S sort0? sort2
 rw [sorted_eq]
theorem sanity_ok : skewbacklaw44_sanity_S 2000 = some true := by
 unfold skewbacklaw44_sanity_S owner_Tasks_S owner_Begin_S owner_Hear_S owner_node_sets_S owner_node_plan_S owner_tasks_S island_Merge_S island_classes_sets_S
 rw [sort_eq]
 decide +kernel
end Go.Proofs.Ytnpddoaeoefcnaa

namespace Go.Proofs.Ytnpddoaeoefcnaa
open Go Go.Sk
set_option linter.unusedVariables false
set_option linter.unusedSimpArgs false
def Homes (h : List Int) (n : Int) : Prop := ∀ i : Nat, i < h.length → -1 ≤ idx h i ∧ idx h i < n
theorem isHome_ok {h : List Int} {n : Int} (hl : h.length ≤ 400) : Yld (owner_isHome_S 2000 h n) (fun r => (r = true ↔ Homes h n)) := by
 unfold owner_isHome_S
 refine Yld.g1 (decide_eq_true (by omega)) ?_
 unfold slices_ContainsFunc_S slices_IndexFunc_S
 refine Yld.bind (P := fun r : Bool => (r = true ↔ ¬ Homes h n)) ?_ ?_
 ·refine Yld.bind (P := fun r : Int => (0 ≤ r ↔ ¬ Homes h n)) ?_ (fun r hr => Yld.some (by simpa using hr))
  refine Yld.bind (P := fun o : Unit ⊕ Int => (o = .inl () ∧ Homes h n) ∨ (∃ k : Int, o = .inr k ∧ 0 ≤ k ∧ ¬ Homes h n)) ?_ ?_
  ·refine Yld.rounds (n := h.length) (I := fun k s => s = (k : Int) ∧ ∀ i : Nat, i < k → i < h.length → -1 ≤ idx h i ∧ idx h i < n) (by omega) ⟨rfl, fun i h1 => by omega⟩ ?_
   rintro k s hk ⟨rfl, hI⟩
   refine Yld.ite (fun hc => ?_) (fun hc => ?_)
   ·have hc := of_decide_eq_true hc
    rw [wi64' (by omega) (by omega)]
    refine Yld.idx (by omega) (by omega) ?_
    unfold owner_isHome_1_S
    refine Yld.bindE rfl (Yld.ite (fun h => ?_) (fun h => ?_))
    ·simp only [Bool.or_eq_true, decide_eq_true_eq] at h
     exact Yld.some (.inr ⟨_, rfl, .inr ⟨k, rfl, by omega, fun ha => by have := ha k (by omega); omega⟩⟩)
    ·simp only [Bool.or_eq_false_iff, decide_eq_false_iff_not] at h
     refine Yld.some (.inl ⟨_, rfl, ⟨by push_cast; rfl, fun i g1 g2 => ?_⟩, by omega⟩)
     by_cases e : i < k
     ·exact hI i e g2
     ·have : i = k := by omega
      subst this
      omega
   ·have hc := of_decide_eq_false hc
    exact Yld.some (.inr ⟨_, rfl, .inl ⟨rfl, fun i h1 => hI i (by omega) h1⟩⟩)
  ·rintro o (⟨rfl, h⟩ | ⟨k, rfl, h0, h⟩)
   ·exact Yld.some (by simp [h])
   ·exact Yld.some (by simp [h, h0])
 ·intro r hr
  refine Yld.some ?_
  have : decide ((h.length : Int) ≤ 401) = true := decide_eq_true (by omega)
  rw [this]
  cases r <;> simp_all
end Go.Proofs.Ytnpddoaeoefcnaa

namespace Go.Proofs.Ytnpddoaeoefcnaa
open Go Go.Sk
set_option linter.unusedVariables false
set_option linter.unusedSimpArgs false
end Go.Proofs.Ytnpddoaeoefcnaa

namespace Go.Proofs.Ytnpddoaeoefcnaa
open Go Go.Sk
set_option linter.unusedVariables false
set_option linter.unusedSimpArgs false
end Go.Proofs.Ytnpddoaeoefcnaa

namespace Go.Proofs.Ytnpddoaeoefcnaa
open Go Go.Sk
set_option linter.unusedVariables false
set_option linter.unusedSimpArgs false
theorem same_ok {l : List Int} (hl : l.length ≤ 1000) : skewbackref35_Same_S 2000 l l = some true := by
 refine Yld.eq ?_
 unfold skewbackref35_Same_S
 refine Yld.iff (by simp) ?_
 refine Yld.bind (P := (· = .inl ())) ?_ ?_
 ·refine Yld.rounds (n := l.length) (I := fun k s => s = (k : Int)) (by omega) rfl ?_
  rintro k s hk rfl
  refine Yld.ite (fun hc => ?_) (fun hc => ?_)
  ·have hc : (k : Int) < l.length := of_decide_eq_true hc
   rw [wi64' (by omega) (by omega)]
   refine Yld.idx (by omega) hc (Yld.idx (by omega) hc (Yld.iff (by simp) (Yld.some (.inl ⟨_, rfl, by push_cast; rfl, by omega⟩))))
  ·exact Yld.some (.inr ⟨_, rfl, rfl⟩)
 ·rintro o rfl
  exact Yld.some rfl
end Go.Proofs.Ytnpddoaeoefcnaa

namespace Go.Proofs.Ytnpddoaeoefcnaa
open Go Go.Sk
set_option linter.unusedVariables false
set_option linter.unusedSimpArgs false
end Go.Proofs.Ytnpddoaeoefcnaa

namespace Go.Proofs.Ytnpddoaeoefcnaa
open Go Go.Sk
set_option linter.unusedVariables false
set_option linter.unusedSimpArgs false
section
variable {F : Nat} (hF : F ≤ 1000000000)
include hF
theorem has35 {l : List Int} {n : Int} (hl : l.length < F) : skewbackref35_Has_S F l n = some (decide (n ∈ l)) := by
 refine Yld.eq ?_
 unfold skewbackref35_Has_S
 refine Yld.bind (P := fun o : Unit ⊕ Bool => (o = .inl () ∧ ¬ n ∈ l) ∨ (o = .inr true ∧ n ∈ l)) ?_ ?_
 ·refine Yld.find (c := fun x => decide (x = n)) (r := fun _ => true) hl (by omega) (fun h => .inl ⟨rfl, fun hm => by have := h n hm; simp at this⟩) (fun pre x post e _ hc => .inr ⟨rfl, by rw [e, ← of_decide_eq_true hc]; simp⟩) fun i x hx => by rw [hx]; rfl
 ·rintro o (⟨rfl, h⟩ | ⟨rfl, h⟩)
  ·exact Yld.some (by simp [h])
  ·exact Yld.some (by simp [h])
theorem with35 {l : List Int} {n : Int} (hl : l.length < F) (hs : Asd l) : Yld (skewbackref35_with_S F l n) fun o => Asd o ∧ ∀ z, z ∈ o ↔ z = n ∨ z ∈ l := by
 unfold skewbackref35_with_S
 refine Yld.bindE (has35 hF hl) (Yld.ite (fun h => Yld.some ⟨hs, fun z => ⟨.inr, ?_⟩⟩) fun h => ?_)
 ·have h := of_decide_eq_true h
  rintro (rfl | h')
  ·exact h
  ·exact h'
 have hn : n ∉ l := of_decide_eq_false h
 refine Yld.bind (P := fun o : List Int × Bool => InsL (fun x : Int => x) n l o.1 o.2) ?_ ?_
 ·refine Yld.ea3 (I := fun pre out p => InsL (fun x : Int => x) n pre out p ∧ out.length ≤ pre.length + 1) hl (by omega) ⟨InsL.zero, by simp⟩ ?_ fun a b h => h.1
  rintro pre x post out p e hx ⟨hI, hlen⟩
  have hlt : ∀ a ∈ pre, a < x := fun a ha => (List.pairwise_append.1 (e ▸ hs)).2.2 a ha x (List.mem_cons_self ..)
  have hxn : x ≠ n := fun e' => hn (by rw [e, ← e']; simp)
  have hpl : pre.length < l.length := by rw [e]; simp
  refine Yld.bind (P := fun z : List Int × Bool => InsL (fun x : Int => x) n (pre ++ [x]) z.1 z.2 ∧ z.1.length ≤ pre.length + 2) ?_ fun z hz => Yld.some (.inl ⟨_, _, rfl, hz.1, by simpa using hz.2⟩)
  refine Yld.bind (P := fun z : List Int × Bool => InsL (fun x : Int => x) n (pre ++ [x]) (z.1 ++ [x]) z.2 ∧ z.1.length ≤ pre.length + 1) ?_ ?_
  ·cases p with
   | true => exact Yld.g0 rfl (Yld.iff rfl (Yld.some ⟨hI.next (.inl rfl) hxn hlt, hlen⟩))
   | false =>
    refine Yld.g1 rfl (Yld.bindE hx (Yld.ite (fun hc => ?_) fun hc => ?_))
    ·have hc : n < x := by simpa using hc
     obtain ⟨A, B, h1, _, _, h | h⟩ := id hI
     ·refine Yld.app (by simp only [List.length_singleton]; omega) (Yld.some ⟨hI.put hc, ?_⟩)
      obtain ⟨_, rfl, rfl⟩ := h
      simp [h1]
     ·exact absurd h.1 (by simp)
    ·have hc : ¬ n < x := by simpa using hc
     exact Yld.some ⟨hI.next (.inr (by omega)) hxn hlt, hlen⟩
  ·rintro ⟨o, p'⟩ ⟨h1, h2⟩
   simp only at h1 h2
   exact Yld.bindE hx (Yld.app (by simp only [List.length_singleton]; omega) (Yld.some ⟨h1, by simp; omega⟩))
 ·rintro ⟨o, p⟩ hI
  obtain ⟨h1, h2⟩ := hI.fin hs
  simp only at h1 h2 ⊢
  refine Yld.bind (P := (· = if (!p) = true then o ++ [n] else o)) ?_ fun z hz => Yld.some ?_
  ·obtain ⟨A, B, h3, _, _, h | h⟩ := hI
   ·obtain ⟨rfl, rfl, h4⟩ := h
    simp only at h4
    refine Yld.ift rfl (Yld.app (by rw [h4]; simp only [List.length_singleton]; simp at h3; rw [← h3]; omega) (Yld.some rfl))
   ·obtain ⟨rfl, _, _⟩ := h
    exact Yld.iff rfl (Yld.some rfl)
  ·rw [hz]
   refine ⟨h1, fun z => ?_⟩
   rw [h2.mem_iff, List.mem_cons]
theorem union35 {a b B : List Int} (hb : b.length < F) (hs : Asd a) (hB : B.length < F) (hsub : ∀ z, (z ∈ a ∨ z ∈ b) → z ∈ B) : Yld (skewbackref35_union_S F a b) fun o => Asd o ∧ ∀ z, z ∈ o ↔ z ∈ a ∨ z ∈ b := by
 unfold skewbackref35_union_S
 refine Yld.bind ?_ (fun o ho => Yld.some ho)
 refine Yld.ea2 (I := fun pre o => Asd o ∧ ∀ z, z ∈ o ↔ z ∈ a ∨ z ∈ pre) hb (by omega) ⟨hs, by simp⟩ ?_ fun s h => h
 rintro pre x post o e hx ⟨h1, h2⟩
 have hol : o.length < F := by
  have : o.length ≤ B.length := asd_len h1 fun z hz => hsub z (((h2 z).1 hz).imp_right fun h => by rw [e]; simp [h])
  omega
 refine Yld.bindE hx (Yld.bind (with35 hF hol h1) fun o' ho' => Yld.some (.inl ⟨_, rfl, ho'.1, fun z => ?_⟩))
 rw [ho'.2, h2, List.mem_append, List.mem_singleton]
 constructor
 ·rintro (h | h | h)
  ·exact .inr (.inr h)
  ·exact .inl h
  ·exact .inr (.inl h)
 ·rintro (h | h | h)
  ·exact .inr (.inl h)
  ·exact .inr (.inr h)
  ·exact .inl h
theorem meets35 {a b : List Int} (ha : a.length < F) (hb : b.length < F) : skewbackref35_meets_S F a b = some (a.any fun u => b.contains u) := by
 refine Yld.eq ?_
 unfold skewbackref35_meets_S
 refine Yld.bind (P := fun o : Unit ⊕ Bool => (o = .inl () ∧ ∀ x ∈ a, b.contains x = false) ∨ (o = .inr true ∧ ∃ x ∈ a, b.contains x = true)) ?_ ?_
 ·refine Yld.find (c := fun x => b.contains x) (r := fun _ => true) ha (by omega) (fun h => .inl ⟨rfl, h⟩) (fun pre x post e _ hc => .inr ⟨rfl, x, by rw [e]; simp, hc⟩) fun i x hx => by
   rw [hx, Option.bind_some, has35 hF hb, List.contains_eq_mem]; rfl
 ·rintro o (⟨rfl, h⟩ | ⟨rfl, h⟩)
  ·refine Yld.some (Eq.symm ?_)
   rw [List.any_eq_false]; intro x hx; rw [h x hx]; simp
  ·exact Yld.some (Eq.symm (List.any_eq_true.2 h))
theorem put35 {l : List (List Int)} {x : List Int} (hl : l.length < F) (hn : ∀ c ∈ l, c ≠ []) (hx : x ≠ []) (hs : HdL l) (hd' : ∀ c ∈ l, hd c ≠ hd x) : Yld (skewbackref35_put_S F l x) fun o => HdL o ∧ o.Perm (x :: l) := by
 unfold skewbackref35_put_S
 have h0 : ∀ c : List Int, c ≠ [] → idx? c 0 = some (hd c) := fun c hc => by
  cases c with
  | nil => exact absurd rfl hc
  | cons a c => exact idx?_at [] c a
 refine Yld.bind (P := fun o : List (List Int) × Bool => InsL hd x l o.1 o.2) ?_ ?_
 ·refine Yld.ea3 (I := fun pre out p => InsL hd x pre out p ∧ out.length ≤ pre.length + 1) hl (by omega) ⟨InsL.zero, by simp⟩ ?_ fun a b h => h.1
  rintro pre y post out p e hy ⟨hI, hlen⟩
  have hlt : ∀ a ∈ pre, hd a < hd y := fun a ha => (List.pairwise_append.1 (e ▸ hs)).2.2 a ha y (List.mem_cons_self ..)
  have hym : y ∈ l := by rw [e]; simp
  have hpl : pre.length < l.length := by rw [e]; simp
  refine Yld.bind (P := fun z : List (List Int) × Bool => InsL hd x (pre ++ [y]) z.1 z.2 ∧ z.1.length ≤ pre.length + 2) ?_ fun z hz => Yld.some (.inl ⟨_, _, rfl, hz.1, by simpa using hz.2⟩)
  refine Yld.bind (P := fun z : List (List Int) × Bool => InsL hd x (pre ++ [y]) (z.1 ++ [y]) z.2 ∧ z.1.length ≤ pre.length + 1) ?_ ?_
  ·cases p with
   | true => exact Yld.g0 rfl (Yld.g0 rfl (Yld.g0 rfl (Yld.iff rfl (Yld.some ⟨hI.next (.inl rfl) (hd' y hym) hlt, hlen⟩))))
   | false =>
    refine Yld.g1 rfl (Yld.bindE hy (Yld.g1 rfl (Yld.bindE (h0 y (hn y hym)) (Yld.g1 rfl (Yld.bindE (h0 x hx) (Yld.ite (fun hc => ?_) fun hc => ?_))))))
    ·have hc : hd x < hd y := by simpa using hc
     obtain ⟨A, B, h1, _, _, h | h⟩ := id hI
     ·refine Yld.app (by simp only [List.length_singleton]; omega) (Yld.some ⟨hI.put hc, ?_⟩)
      obtain ⟨_, rfl, rfl⟩ := h
      simp [h1]
     ·exact absurd h.1 (by simp)
    ·have hc : ¬ hd x < hd y := by simpa using hc
     exact Yld.some ⟨hI.next (.inr (by omega)) (hd' y hym) hlt, hlen⟩
  ·rintro ⟨o, p'⟩ ⟨h1, h2⟩
   simp only at h1 h2
   exact Yld.bindE hy (Yld.app (by simp only [List.length_singleton]; omega) (Yld.some ⟨h1, by simp; omega⟩))
 ·rintro ⟨o, p⟩ hI
  obtain ⟨h1, h2⟩ := hI.fin hs
  simp only at h1 h2 ⊢
  refine Yld.bind (P := (· = if (!p) = true then o ++ [x] else o)) ?_ fun z hz => Yld.some ?_
  ·obtain ⟨A, B, h3, _, _, h | h⟩ := hI
   ·obtain ⟨rfl, rfl, h4⟩ := h
    simp only at h4
    refine Yld.ift rfl (Yld.app (by rw [h4]; simp only [List.length_singleton]; simp at h3; rw [← h3]; omega) (Yld.some rfl))
   ·obtain ⟨rfl, _, _⟩ := h
    exact Yld.iff rfl (Yld.some rfl)
  ·rw [hz]
   exact ⟨h1, h2⟩
end
def pr (L : List (List Int)) (a b : Int) : Prop := ∃ c ∈ L, a ∈ c ∧ b ∈ c
def dm (L : List (List Int)) (a : Int) : Prop := ∃ c ∈ L, a ∈ c
theorem pr_dm {L : List (List Int)} (a b : Int) (h : pr L a b) : dm L a ∧ dm L b := by
 obtain ⟨c, hc, h1, h2⟩ := h; exact ⟨⟨c, hc, h1⟩, c, hc, h2⟩
theorem dm_flat {L : List (List Int)} (a : Int) : dm L a ↔ a ∈ L.flatten := by
 unfold dm; rw [List.mem_flatten]
theorem asd_cls {P D : _} {s : List (List Int)} {B : List Int} (h : IsPt P D s) (hB : ∀ a, D a → a ∈ B) {c : List Int} (hc : c ∈ s) : c.length ≤ B.length :=
 asd_len (h.asd c hc).2 fun a ha => hB a ((h.dom a).2 ⟨c, hc, ha⟩)
theorem pt_len {P D : _} {s : List (List Int)} {B : List Int} (h : IsPt P D s) (hB : ∀ a, D a → a ∈ B) : s.length ≤ B.length := by
 have : (s.map hd).Nodup := List.pairwise_map.2 (List.Pairwise.imp_of_mem (fun {c d} hc hd' h' e => h' _ (hd_mem (h.asd c hc).1) (e ▸ hd_mem (h.asd d hd').1)) h.dj)
 have h2 := nd_len (m := B) this fun a ha => by
  obtain ⟨c, hc, rfl⟩ := List.mem_map.1 ha
  exact hB _ ((h.dom _).2 ⟨c, hc, hd_mem (h.asd c hc).1⟩)
 simpa using h2
theorem merge35 {F : Nat} (hF : F ≤ 100000000) {L : List (List Int)} (hl : L.length < F) (hB : L.flatten.length < F) : Yld (skewbackref35_Merge_S F L) (Part (pr L) (dm L)) := by
 have hF' : F ≤ 1000000000 := by omega
 unfold skewbackref35_Merge_S
 refine Yld.bind (P := fun s => IsPt (pr L) (dm L) s) ?_ ?_
 ·refine Yld.ea2 (I := fun pre s => IsPt (pr pre) (dm pre) s) hl (by omega) ⟨by simp, by simp, by simp [dm], by simp, by simp⟩ ?_ fun s h => h
  rintro pre x0 post s e hx hI
  refine Yld.bind (P := fun s' => IsPt (pr (pre ++ [x0])) (dm (pre ++ [x0])) s') ?_ fun s' h => Yld.some (.inl ⟨_, rfl, h⟩)
  have hx0 : ∀ z ∈ x0, z ∈ L.flatten := fun z hz => (dm_flat z).1 ⟨x0, by rw [e]; simp, hz⟩
  have hpre : ∀ z, dm pre z → z ∈ L.flatten := fun z ⟨c, hc, hz⟩ => (dm_flat z).1 ⟨c, by rw [e]; simp [hc], hz⟩
  have hx0l : x0.length < F := by
   have : x0.length ≤ L.flatten.length := by rw [e]; simp; omega
   omega
  have hsl : s.length < F := by have := pt_len hI hpre; omega
  refine Yld.bindE hx (Yld.bind (union35 hF' (B := L.flatten) hx0l List.Pairwise.nil hB (by simpa using hx0)) ?_)
  rintro x ⟨hxa, hxm⟩
  simp only [List.not_mem_nil, false_or] at hxm
  refine Yld.ite (fun hc => Yld.some ?_) fun hc => ?_
  ·have : x0 = [] := by
    have hc := of_decide_eq_true hc
    have hx' : x = [] := List.length_eq_zero_iff.1 (by omega)
    cases x0 with
    | nil => rfl
    | cons a x0 => have := (hxm a).2 (List.mem_cons_self ..); rw [hx'] at this; cases this
   subst this
   refine hI.congr (Con.congr (fun a b ⟨c, hc, h⟩ => .of ⟨c, by simp [hc], h⟩) fun a b ⟨c, hc, h⟩ => .of ⟨c, ?_, h⟩) fun a => ⟨fun ⟨c, hc, h⟩ => ⟨c, by simp [hc], h⟩, fun ⟨c, hc, h⟩ => ⟨c, ?_, h⟩⟩
   ·rcases List.mem_append.1 hc with hc | hc
    ·exact hc
    ·rw [List.mem_singleton.1 hc] at h; exact absurd h.1 (by simp)
   ·rcases List.mem_append.1 hc with hc | hc
    ·exact hc
    ·rw [List.mem_singleton.1 hc] at h; exact absurd h (by simp)
  ·have hxne : x ≠ [] := by
    rintro rfl; simp at hc
   refine Yld.bind (P := fun o : List Int × List (List Int) => Asd o.1 ∧ (∀ z, z ∈ o.1 ↔ z ∈ x ∨ ∃ c ∈ s, (∃ u ∈ c, u ∈ x) ∧ z ∈ c) ∧ o.2 = s.filter fun c => !(c.any fun u => x.contains u)) ?_ ?_
   ·refine Yld.ea3 (I := fun q y rest => Asd y ∧ (∀ z, z ∈ y ↔ z ∈ x ∨ ∃ c ∈ q, (∃ u ∈ c, u ∈ x) ∧ z ∈ c) ∧ rest = q.filter fun c => !(c.any fun u => x.contains u)) hsl (by omega) ⟨hxa, by simp, rfl⟩ ?_ fun a b h => h
    rintro q c post' y rest e' hc' ⟨h1, h2, h3⟩
    have hcs : c ∈ s := by rw [e']; simp
    have hq : ∀ d ∈ q, d ∈ s := fun d hd => by rw [e']; simp [hd]
    have hdj : ∀ d ∈ q, ∀ z ∈ d, z ∉ c := fun d hd => (List.pairwise_append.1 (e' ▸ hI.dj)).2.2 d hd c (List.mem_cons_self ..)
    have hcl : c.length < F := by have := asd_cls hI hpre hcs; omega
    have hyB : ∀ z ∈ y, z ∈ L.flatten := fun z hz => by
     rcases (h2 z).1 hz with hz | ⟨d, hd, _, hz⟩
     ·exact hx0 z ((hxm z).1 hz)
     ·exact hpre z ((hI.dom z).2 ⟨d, hq d hd, hz⟩)
    have hyl : y.length < F := by have := asd_len h1 hyB; omega
    have hmt : (c.any fun u => y.contains u) = c.any fun u => x.contains u := by
     rw [Bool.eq_iff_iff, List.any_eq_true, List.any_eq_true]
     simp only [List.contains_eq_mem, decide_eq_true_eq]
     constructor
     ·rintro ⟨u, hu, huy⟩
      rcases (h2 u).1 huy with h | ⟨d, hd, _, hud⟩
      ·exact ⟨u, hu, h⟩
      ·exact absurd hu (hdj d hd u hud)
     ·rintro ⟨u, hu, hux⟩; exact ⟨u, hu, (h2 u).2 (.inl hux)⟩
    refine Yld.bind (P := fun o : List Int × List (List Int) => Asd o.1 ∧ (∀ z, z ∈ o.1 ↔ z ∈ x ∨ ∃ d ∈ q ++ [c], (∃ u ∈ d, u ∈ x) ∧ z ∈ d) ∧ o.2 = (q ++ [c]).filter fun c => !(c.any fun u => x.contains u)) ?_ fun o ho => Yld.some (.inl ⟨_, _, rfl, ho⟩)
    refine Yld.bindE hc' (Yld.bindE (meets35 hF' hcl hyl) ?_)
    rw [hmt]
    refine Yld.ite (fun hm => ?_) fun hm => ?_
    ·have hm' : ∃ u ∈ c, u ∈ x := by simpa using hm
     refine Yld.bindE hc' (Yld.bind (union35 hF' hcl h1 hB (B := L.flatten) ?_) fun y' hy' => Yld.some ⟨hy'.1, fun z => ?_, ?_⟩)
     ·rintro z (hz | hz)
      ·exact hyB z hz
      ·exact hpre z ((hI.dom z).2 ⟨c, hcs, hz⟩)
     ·rw [hy'.2, h2]
      constructor
      ·rintro ((h | ⟨d, hd, h⟩) | h)
       ·exact .inl h
       ·exact .inr ⟨d, by simp [hd], h⟩
       ·exact .inr ⟨c, by simp, hm', h⟩
      ·rintro (h | ⟨d, hd, h⟩)
       ·exact .inl (.inl h)
       ·rcases List.mem_append.1 hd with hd | hd
        ·exact .inl (.inr ⟨d, hd, h⟩)
        ·rw [List.mem_singleton.1 hd] at h; exact .inr h.2
     ·rw [h3, List.filter_append]
      simp only [List.filter_cons, List.filter_nil, hm]
      simp
    ·have hm' : ¬ ∃ u ∈ c, u ∈ x := by simpa using hm
     have hrl : rest.length ≤ s.length := by
      rw [h3]; refine Nat.le_trans (List.length_filter_le _ _) ?_
      rw [e']; simp
     refine Yld.bindE hc' (Yld.app (by simp only [List.length_singleton]; omega) (Yld.some ⟨h1, fun z => ?_, ?_⟩))
     ·rw [h2]
      constructor
      ·rintro (h | ⟨d, hd, h⟩)
       ·exact .inl h
       ·exact .inr ⟨d, by simp [hd], h⟩
      ·rintro (h | ⟨d, hd, h⟩)
       ·exact .inl h
       ·rcases List.mem_append.1 hd with hd | hd
        ·exact .inr ⟨d, hd, h⟩
        ·rw [List.mem_singleton.1 hd] at h; exact absurd h.1 hm'
     ·rw [h3, List.filter_append]
      simp only [List.filter_cons, List.filter_nil, hm]
      simp
   ·rintro ⟨y, rest⟩ ⟨h1, h2, h3⟩
    simp only at h1 h2 h3
    have hrl : rest.length ≤ s.length := by rw [h3]; exact List.length_filter_le _ _
    refine Yld.app (by simp only [List.length_singleton]; omega) (Yld.some ?_)
    refine hI.add (x := x) pr_dm hxne h1 h2 (fun a b => ?_) (fun a => ?_) h3
    ·unfold pr
     simp only [List.mem_append, List.mem_singleton]
     constructor
     ·rintro ⟨c, hc | rfl, h⟩
      ·exact .inl ⟨c, hc, h⟩
      ·exact .inr ⟨(hxm a).2 h.1, (hxm b).2 h.2⟩
     ·rintro (⟨c, hc, h⟩ | ⟨h, h'⟩)
      ·exact ⟨c, .inl hc, h⟩
      ·exact ⟨x0, .inr rfl, (hxm a).1 h, (hxm b).1 h'⟩
    ·unfold dm
     simp only [List.mem_append, List.mem_singleton]
     constructor
     ·rintro ⟨c, hc | rfl, h⟩
      ·exact .inl ⟨c, hc, h⟩
      ·exact .inr ((hxm a).2 h)
     ·rintro (⟨c, hc, h⟩ | h)
      ·exact ⟨c, .inl hc, h⟩
      ·exact ⟨x0, .inr rfl, (hxm a).1 h⟩
 ·intro s hs
  have hsl : s.length < F := by have := pt_len hs (fun a => (dm_flat a).1); omega
  refine Yld.bind ?_ (fun o ho => Yld.some ho)
  refine Yld.ea2 (I := fun q o => HdL o ∧ o.Perm q) hsl (by omega) ⟨List.Pairwise.nil, .refl _⟩ ?_ ?_
  ·rintro q c post o e hc ⟨h1, h2⟩
   have hcs : c ∈ s := by rw [e]; simp
   have hq : ∀ d ∈ q, d ∈ s := fun d hd => by rw [e]; simp [hd]
   have hol : o.length < F := by
    rw [h2.length_eq]
    have : q.length < s.length := by rw [e]; simp
    omega
   have hdj : ∀ d ∈ q, ∀ z ∈ d, z ∉ c := fun d hd => (List.pairwise_append.1 (e ▸ hs.dj)).2.2 d hd c (List.mem_cons_self ..)
   refine Yld.bindE hc (Yld.bind (put35 hF' hol (fun d hd => (hs.asd d (hq d (h2.mem_iff.1 hd))).1) (hs.asd c hcs).1 h1 fun d hd e => ?_) fun o' ho' => Yld.some (.inl ⟨_, rfl, ho'.1, ?_⟩))
   ·have hd' := h2.mem_iff.1 hd
    exact hdj d hd' _ (hd_mem (hs.asd d (hq d hd')).1) (e ▸ hd_mem (hs.asd c hcs).1)
   ·exact ho'.2.trans ((List.Perm.cons c h2).trans (List.perm_append_singleton c q).symm)
  ·rintro o ⟨h1, h2⟩
   exact { asd := fun c hc => hs.asd c (h2.mem_iff.1 hc), dj := (h2.pairwise_iff (fun {a b} h z hz hza => h z hza hz)).2 hs.dj, dom := fun a => by rw [hs.dom]; simp only [h2.mem_iff], con := fun c hc => hs.con c (h2.mem_iff.1 hc), cl := fun c hc => hs.cl c (h2.mem_iff.1 hc), srt := h1 }
end Go.Proofs.Ytnpddoaeoefcnaa

namespace Go.Proofs.Ytnpddoaeoefcnaa
open Go Go.Sk
set_option linter.unusedVariables false
set_option linter.unusedSimpArgs false
def keysOf (m : MapI) : List Int := m.map (·.1)
def cnt (m : MapI) (x : Int) : Nat := ((keysOf m).filter fun z => decide (z < x)).length
theorem cnt_le (m : MapI) (x : Int) : cnt m x ≤ m.length := by
 unfold cnt keysOf; refine Nat.le_trans (List.length_filter_le _ _) ?_; simp
theorem cnt_lt {m : MapI} {u x : Int} (hu : mHas m u = true) (h : u < x) : cnt m u < cnt m x := by
 have hm := (mHas_iff u m).1 hu
 unfold cnt
 have : ∀ ks : List Int, (∀ z, z ∈ ks → True) → (ks.filter fun z => decide (z < u)).length ≤ (ks.filter fun z => decide (z < x)).length ∧ (u ∈ ks → (ks.filter fun z => decide (z < u)).length < (ks.filter fun z => decide (z < x)).length) := fun ks _ => by
  induction ks with
  | nil => simp
  | cons a ks ih =>
   have ih := ih (fun _ _ => trivial)
   simp only [List.filter_cons, List.mem_cons]
   by_cases h1 : a < u
   ·have h2 : a < x := by omega
    simp only [h1, h2, decide_true, if_true, List.length_cons]
    refine ⟨by omega, ?_⟩
    rintro (rfl | h')
    ·omega
    ·have := ih.2 h'; omega
   ·by_cases h2 : a < x
    ·simp only [h1, h2, decide_true, decide_false, if_true, List.length_cons]
     refine ⟨by have := ih.1; simp; omega, fun _ => by have := ih.1; simp; omega⟩
    ·simp only [h1, h2, decide_false]
     refine ⟨by simpa using ih.1, ?_⟩
     rintro (rfl | h')
     ·omega
     ·simpa using ih.2 h'
 exact (this (keysOf m) fun _ _ => trivial).2 hm
theorem root_ok {F : Nat} : ∀ (n : Nat) {m : MapI} {r : Int → Int} {x : Int}, UpM m r → cnt m x < n → Yld (island_classes_root_R F n x m) fun z => z.1 = r x ∧ UpM z.2 r ∧ keysOf z.2 = if mHas m x then keysOf m else keysOf m ++ [x]
 | 0, m, r, x, h, hn => by omega
 | n + 1, m, r, x, h, hn => by
  show Yld (if (!(mHas m x)) = true then _ else _) _
  refine Yld.ite (fun hc => ?_) fun hc => ?_
  ·have hc : mHas m x = false := by simpa using hc
   refine Yld.some ⟨(h.out x hc).symm, h.add hc, ?_⟩
   simp only [keysOf]
   rw [mkeys_set]
  ·have hc : mHas m x = true := by simpa using hc
   refine Yld.ite (fun he => Yld.some ⟨(h.fix x hc (of_decide_eq_true he)).symm, h, by simp [hc]⟩) fun he => ?_
   have he := of_decide_eq_false he
   have hu := h.has x hc
   have hl : mGet m x < x := by have := h.le x hc; omega
   refine Yld.bind (root_ok n (x := mGet m x) h (by have := cnt_lt hu hl; omega)) ?_
   rintro ⟨a, m'⟩ ⟨h1, h2, h3⟩
   simp only at h1 h2 h3
   rw [hu, if_pos rfl] at h3
   have e : a = r x := by rw [h1, h.step x hc]
   have hx' : mHas m' x = true := by rw [mHas_iff]; show x ∈ keysOf m'; rw [h3]; exact (mHas_iff x m).1 hc
   refine Yld.some ⟨e, ?_, ?_⟩
   ·simp only; rw [e]; exact h2.short hx'
   ·simp only [keysOf]
    rw [mkeys_set, hx', hc]
    exact h3
theorem has_keys {m : MapI} {x : Int} : mHas m x = true ↔ x ∈ keysOf m := mHas_iff x m
theorem root_S {F : Nat} {m : MapI} {r : Int → Int} {x : Int} (h : UpM m r) (hF : m.length < F) : Yld (island_classes_root_S F x m) fun z => z.1 = r x ∧ UpM z.2 r ∧ (∀ y, y ∈ keysOf z.2 ↔ y = x ∨ y ∈ keysOf m) ∧ z.2.length ≤ m.length + 1 ∧ (mHas m x = true → keysOf z.2 = keysOf m) := by
 refine (root_ok F h (by have := cnt_le m x; omega)).mono ?_
 rintro ⟨a, m'⟩ ⟨h1, h2, h3⟩
 simp only at h1 h2 h3 ⊢
 have hl : (keysOf m').length = m'.length := by simp [keysOf]
 have hl2 : (keysOf m).length = m.length := by simp [keysOf]
 refine ⟨h1, h2, fun y => ?_, ?_, fun hh => by rw [h3, hh]; rfl⟩
 ·rw [h3]
  split
  ·next hc =>
   constructor
   ·exact .inr
   ·rintro (rfl | h)
    ·exact has_keys.1 hc
    ·exact h
  ·simp [or_comm]
 ·rw [← hl, h3]; split <;> simp [hl2]
theorem join_S {F : Nat} {m : MapI} {r : Int → Int} {x y : Int} (h : UpM m r) (hF : m.length + 1 < F) : Yld (island_classes_join_S F x y m) fun z => z.1 = decide (r x ≠ r y) ∧ UpM z.2 (jn r x y) ∧ (∀ u, u ∈ keysOf z.2 ↔ u = x ∨ u = y ∨ u ∈ keysOf m) ∧ z.2.length ≤ m.length + 2 := by
 unfold island_classes_join_S
 refine Yld.bind (root_S h (by omega)) ?_
 rintro ⟨a, m1⟩ ⟨rfl, h1, k1, l1, _⟩
 simp only at h1 k1 l1 ⊢
 refine Yld.bind (root_S h1 (by simp only; omega)) ?_
 rintro ⟨b, m2⟩ ⟨rfl, h2, k2, l2, _⟩
 simp only at h2 k2 l2 ⊢
 have kk : ∀ u, u ∈ keysOf m2 ↔ u = x ∨ u = y ∨ u ∈ keysOf m := fun u => by
  rw [k2, k1]; constructor
  ·rintro (h | h | h)
   ·exact .inr (.inl h)
   ·exact .inl h
   ·exact .inr (.inr h)
  ·rintro (h | h | h)
   ·exact .inr (.inl h)
   ·exact .inl h
   ·exact .inr (.inr h)
 refine Yld.ite (fun hc => ?_) fun hc => ?_
 ·have hc : r x = r y := of_decide_eq_true hc
  have ej : jn r x y = r := funext fun z => by unfold jn; rw [hc, Int.max_self, Int.min_self]; split <;> simp_all
  rw [ej]
  exact Yld.some ⟨by simp [hc], h2, kk, by simp only; omega⟩
 ·have hc : r x ≠ r y := of_decide_eq_false hc
  have hx : mHas m2 x = true := has_keys.2 ((kk x).2 (.inl rfl))
  have hy : mHas m2 y = true := has_keys.2 ((kk y).2 (.inr (.inl rfl)))
  have hM : mHas m2 (max (r x) (r y)) = true := by
   have a := (h2.low x hx).2.1
   have b := (h2.low y hy).2.1
   by_cases hl : r x ≤ r y
   ·rw [Int.max_eq_right hl]; exact b
   ·rw [Int.max_eq_left (by omega)]; exact a
  have ek : keysOf (mset m2 (max (r x) (r y)) (min (r x) (r y))) = keysOf m2 := by
   unfold keysOf; rw [mkeys_set, hM]; rfl
  refine Yld.some ⟨by simp [hc], h2.join hx hy hc, fun u => by simp only; rw [ek]; exact kk u, ?_⟩
  have : (keysOf (mset m2 (max (r x) (r y)) (min (r x) (r y)))).length = (keysOf m2).length := by rw [ek]
  simp only [keysOf, List.length_map] at this
  simp only; omega
def reps (ps : List (Int × Int)) : Int → Int := ps.foldl (fun r p => jn r p.1 p.2) fun x => x
theorem reps_snoc (ps : List (Int × Int)) (x y : Int) : reps (ps ++ [(x, y)]) = jn (reps ps) x y := by simp [reps]
theorem reps_idem (ps : List (Int × Int)) (z : Int) : reps ps (reps ps z) = reps ps z := by
 have : ∀ (ps : List (Int × Int)) (r : Int → Int), (∀ z, r (r z) = r z) → ∀ z, ps.foldl (fun r p => jn r p.1 p.2) r (ps.foldl (fun r p => jn r p.1 p.2) r z) = ps.foldl (fun r p => jn r p.1 p.2) r z := fun ps => by
  induction ps with
  | nil => exact fun r h => h
  | cons p ps ih => exact fun r h => ih _ (jn_idem h p.1 p.2)
 exact this ps _ (fun _ => rfl) z
theorem reps_con : ∀ (ps : List (Int × Int)) (a b : Int), reps ps a = reps ps b ↔ Con (fun u v => (u, v) ∈ ps) a b := fun ps => by
 have key : ∀ (qs : List (Int × Int)), (∀ a b, reps qs a = reps qs b ↔ Con (fun u v => (u, v) ∈ qs) a b) → ∀ ps a b, reps (qs ++ ps) a = reps (qs ++ ps) b ↔ Con (fun u v => (u, v) ∈ qs ++ ps) a b := fun qs h ps => by
  induction ps generalizing qs with
  | nil => simpa using h
  | cons p ps ih =>
   have e : qs ++ p :: ps = (qs ++ [p]) ++ ps := by simp
   rw [e]
   refine ih _ fun a b => ?_
   rw [show p = (p.1, p.2) from rfl, reps_snoc, jn_con (reps_idem qs) h]
   refine Con.congr (fun u v h => .of ?_) (fun u v h => .of ?_) a b
   ·rcases h with h | ⟨rfl, rfl⟩ <;> simp_all
   ·rcases List.mem_append.1 h with h | h
    ·exact .inl h
    ·have := List.mem_singleton.1 h; simp only [Prod.mk.injEq] at this; exact .inr this
 refine key [] (fun a b => ?_) ps
 refine ⟨fun h => by show Con _ a b; have : a = b := h; rw [this]; exact .rfl b, fun h => ?_⟩
 refine h.lift (E := fun a b => reps [] a = reps [] b) (fun _ => rfl) (fun _ _ h => h.symm) (fun _ _ _ h1 h2 => h1.trans h2) fun a b h => by cases h
def prs (L : List (List Int)) : List (Int × Int) := (L.map fun c => c.map fun n => (hd c, n)).flatten
theorem mem_prs {L : List (List Int)} {a b : Int} : (a, b) ∈ prs L ↔ ∃ c ∈ L, hd c = a ∧ b ∈ c := by
 unfold prs
 rw [List.mem_flatten]
 constructor
 ·rintro ⟨l, hl, h⟩
  obtain ⟨c, hc, rfl⟩ := List.mem_map.1 hl
  obtain ⟨n, hn, h⟩ := List.mem_map.1 h
  simp only [Prod.mk.injEq] at h
  exact ⟨c, hc, h.1, h.2 ▸ hn⟩
 ·rintro ⟨c, hc, rfl, h⟩
  exact ⟨_, List.mem_map.2 ⟨c, hc, rfl⟩, List.mem_map.2 ⟨b, h, rfl⟩⟩
theorem con_prs (L : List (List Int)) (a b : Int) : Con (fun u v => (u, v) ∈ prs L) a b ↔ Con (pr L) a b := by
 refine Con.congr (fun u v h => ?_) (fun u v h => ?_) a b
 ·obtain ⟨c, hc, rfl, h'⟩ := mem_prs.1 h
  exact .of ⟨c, hc, hd_mem (List.ne_nil_of_mem h'), h'⟩
 ·obtain ⟨c, hc, h1, h2⟩ := h
  exact .trans (.symm (.of (mem_prs.2 ⟨c, hc, rfl, h1⟩))) (.of (mem_prs.2 ⟨c, hc, rfl, h2⟩))
theorem prs_append (L M : List (List Int)) : prs (L ++ M) = prs L ++ prs M := by simp [prs]
theorem prs_len (L : List (List Int)) : (prs L).length = L.flatten.length := by
 unfold prs
 rw [List.length_flatten, List.length_flatten, List.map_map]
 congr 1
 refine List.map_congr_left fun c _ => ?_
 simp
structure St (m : MapI) (ps : List (Int × Int)) : Prop where
 up : UpM m (reps ps)
 keys : ∀ u, u ∈ keysOf m ↔ ∃ p ∈ ps, u = p.1 ∨ u = p.2
 len : m.length ≤ 2 * ps.length
theorem St.nil : St [] [] := ⟨UpM.nil, by simp [keysOf], by simp⟩
theorem St.join {F : Nat} {m : MapI} {ps : List (Int × Int)} {x y : Int} (h : St m ps) (hF : 2 * ps.length + 1 < F) : Yld (island_classes_join_S F x y m) fun z => z.1 = decide (reps ps x ≠ reps ps y) ∧ St z.2 (ps ++ [(x, y)]) := by
 refine (join_S h.up (x := x) (y := y) (by have := h.len; omega)).mono ?_
 rintro ⟨b, m'⟩ ⟨h1, h2, h3, h4⟩
 refine ⟨h1, by rw [reps_snoc]; exact h2, fun u => ?_, by have := h.len; simp at h4 ⊢; omega⟩
 rw [h3, h.keys]
 constructor
 ·rintro (h | h | ⟨p, hp, h⟩)
  ·exact ⟨(x, y), by simp, .inl h⟩
  ·exact ⟨(x, y), by simp, .inr h⟩
  ·exact ⟨p, by simp [hp], h⟩
 ·rintro ⟨p, hp, h⟩
  rcases List.mem_append.1 hp with hp | hp
  ·exact .inr (.inr ⟨p, hp, h⟩)
  ·rw [List.mem_singleton.1 hp] at h
   rcases h with h | h
   ·exact .inl h
   ·exact .inr (.inl h)
structure Row (r : Int → Int) (ts : List Int) (at' : MapI) (out : List (List Int)) : Prop where
 len : out.length = (ts.filter fun x => decide (r x = x)).length
 get : ∀ j (h : j < (ts.filter fun x => decide (r x = x)).length), out[j]? = some (ts.filter fun z => decide (r z = (ts.filter fun x => decide (r x = x))[j])) ∧ mGet at' ((ts.filter fun x => decide (r x = x))[j]) = (j : Int)
theorem Row.eq {r : Int → Int} {ts : List Int} {at' : MapI} {out : List (List Int)} (h : Row r ts at' out) : out = canon r ts := by
 refine List.ext_getElem? fun j => ?_
 unfold canon
 by_cases hj : j < (ts.filter fun x => decide (r x = x)).length
 ·rw [(h.get j hj).1, List.getElem?_map, List.getElem?_eq_getElem hj]; rfl
 ·rw [List.getElem?_eq_none (by have := h.len; omega), List.getElem?_eq_none (by rw [List.length_map]; omega)]
theorem Row.step {r : Int → Int} {ts : List Int} {at' : MapI} {out : List (List Int)} (h : Row r ts at' out) {x : Int} (hx : ∀ t ∈ ts, t < x) (hle : ∀ z, r z ≤ z) (hi : ∀ z, r (r z) = r z) (hr : r x = x ∨ r x ∈ ts) :
  ∃ at2 o2, (at2, o2) = (if r x = x then (mset at' x (out.length : Int), out ++ [[]]) else (at', out)) ∧ ∃ k : Nat, mGet at2 (r x) = (k : Int) ∧ k < o2.length ∧ ∃ row, o2[k]? = some row ∧ Row r (ts ++ [x]) at2 (o2.set k (row ++ [x])) := by
 rcases hr with hr | hr
 ·refine ⟨mset at' x (out.length : Int), out ++ [[]], by rw [if_pos hr], out.length, by rw [hr, mGet_mset, if_pos rfl], by simp, [], by simp, ?_⟩
  have e : (ts ++ [x]).filter (fun y => decide (r y = y)) = ts.filter (fun y => decide (r y = y)) ++ [x] := by simp [List.filter_append, hr]
  have hno : ts.filter (fun z => decide (r z = x)) = [] := by
   rw [List.filter_eq_nil_iff]
   intro z hz
   have := hx z hz; have := hle z
   simp only [decide_eq_true_eq]; omega
  refine ⟨by rw [e]; simp [h.len], fun j hj => ?_⟩
  simp only [e, List.length_append, List.length_singleton] at hj
  by_cases hj2 : j < (ts.filter fun y => decide (r y = y)).length
  ·have hm : (ts.filter fun y => decide (r y = y))[j] ∈ ts := (List.mem_filter.1 (List.getElem_mem hj2)).1
   have hne : (ts.filter fun y => decide (r y = y))[j] ≠ x := Int.ne_of_lt (hx _ hm)
   simp only [e, List.getElem_append_left hj2]
   obtain ⟨h1, h2⟩ := h.get j hj2
   have hjl : j < out.length := by have := h.len; omega
   refine ⟨?_, by rw [mGet_mset, if_neg hne]; exact h2⟩
   rw [List.getElem?_set, if_neg (by omega), List.getElem?_append_left hjl, h1, List.filter_append]
   have : ¬ r x = (ts.filter fun y => decide (r y = y))[j] := by rw [hr]; exact fun e => hne e.symm
   simp [this]
  ·have hj3 : j = (ts.filter fun y => decide (r y = y)).length := by omega
   subst hj3
   have eg : ∀ hh, ((ts ++ [x]).filter fun y => decide (r y = y))[(ts.filter fun y => decide (r y = y)).length]'hh = x := fun hh => by
    simp only [e, List.getElem_append_right (Nat.le_refl _), Nat.sub_self]; rfl
   rw [eg]
   refine ⟨?_, by rw [mGet_mset, if_pos rfl, h.len]⟩
   rw [List.getElem?_set, if_pos (by rw [h.len]), if_pos (by simp [h.len]), List.filter_append, hno]
   simp [hr]
 ·have hne : r x ≠ x := fun e => by have := hx _ hr; omega
  have hm : r x ∈ ts.filter fun y => decide (r y = y) := List.mem_filter.2 ⟨hr, by simpa using hi x⟩
  obtain ⟨k, hk, ek⟩ := List.getElem_of_mem hm
  obtain ⟨h1, h2⟩ := h.get k hk
  have hkl : k < out.length := by have := h.len; omega
  refine ⟨at', out, by rw [if_neg hne], k, by rw [← ek]; exact h2, hkl, _, h1, ?_⟩
  have e : (ts ++ [x]).filter (fun y => decide (r y = y)) = ts.filter (fun y => decide (r y = y)) := by simp [List.filter_append, hne]
  refine ⟨by rw [e, List.length_set, h.len], fun j hj => ?_⟩
  simp only [e] at hj ⊢
  obtain ⟨g1, g2⟩ := h.get j hj
  refine ⟨?_, g2⟩
  rw [List.getElem?_set, List.filter_append]
  by_cases hjk : k = j
  ·subst hjk
   have : r x = (ts.filter fun y => decide (r y = y))[k] := ek.symm
   rw [if_pos rfl, if_pos hkl]
   simp [this]
  ·rw [if_neg hjk, g1]
   have hnd : (ts.filter fun y => decide (r y = y))[j] ≠ r x := fun e2 => by
    have := (h.get j hj).2
    rw [e2, ← ek, h2] at this
    omega
   have : ¬ r x = (ts.filter fun y => decide (r y = y))[j] := fun e => hnd e.symm
   simp [this]
theorem sets_S {F : Nat} (hF : F ≤ 100000000) {m : MapI} {r : Int → Int} (h : UpM m r) (hl : m.length < F) : Yld (island_classes_sets_S F m) fun z => z.1 = canon r (sorted (keysOf m)) ∧ UpM z.2 r ∧ keysOf z.2 = keysOf m := by
 unfold island_classes_sets_S
 have hkl : (keysOf m).length = m.length := by simp [keysOf]
 refine Yld.bindE (x := keysOf m) (by unfold mkeys?; rw [if_pos (by omega)]; rfl) (Yld.bindE (x := sorted (keysOf m)) (by unfold slices_Sort_S sort0?; rw [if_pos (by omega)]) ?_)
 have hsl : (sorted (keysOf m)).length = m.length := by rw [(srt_perm _).length_eq, hkl]
 have hasd : Asd (sorted (keysOf m)) := srt_asd h.nd
 refine Yld.bind (P := fun z : List (List Int) × MapI => z.1 = canon r (sorted (keysOf m)) ∧ UpM z.2 r ∧ keysOf z.2 = keysOf m) ?_ fun z hz => Yld.some hz
 refine Yld.ea4 (I := fun pre up at' out => UpM up r ∧ keysOf up = keysOf m ∧ Row r pre at' out) (by omega) (by omega) ⟨h, rfl, by simp, by simp⟩ ?_ fun up at' out hI => ⟨hI.2.2.eq, hI.1, hI.2.1⟩
 rintro pre x post up at' out e hx ⟨h1, h2, h3⟩
 have hul : up.length = m.length := by rw [← hkl, ← h2]; simp [keysOf]
 have hxs : x ∈ sorted (keysOf m) := by rw [e]; simp
 have hxk : mHas up x = true := has_keys.2 (by rw [h2]; exact mem_srt.1 hxs)
 have hlt : ∀ t ∈ pre, t < x := fun t ht => (List.pairwise_append.1 (e ▸ hasd)).2.2 t ht x (List.mem_cons_self ..)
 have hr : r x = x ∨ r x ∈ pre := by
  by_cases hc : r x = x
  ·exact .inl hc
  ·have hm : r x ∈ sorted (keysOf m) := mem_srt.2 (by rw [← h2]; exact has_keys.1 (h1.low x hxk).2.1)
   rw [e] at hm
   have hlx : r x < x := by have := h.rle x; omega
   rcases List.mem_append.1 hm with hm | hm
   ·exact .inr hm
   ·rcases List.mem_cons.1 hm with hm | hm
    ·exact absurd hm hc
    ·have := (List.pairwise_cons.1 (List.pairwise_append.1 (e ▸ hasd)).2.1).1 _ hm
     omega
 have hol : out.length ≤ pre.length := by rw [h3.len]; exact List.length_filter_le _ _
 have hpl : pre.length < m.length := by rw [← hsl, e]; simp
 refine Yld.bind (P := fun z : MapI × MapI × List (List Int) => UpM z.1 r ∧ keysOf z.1 = keysOf m ∧ Row r (pre ++ [x]) z.2.1 z.2.2) ?_ fun z hz => Yld.some (.inl ⟨_, _, _, rfl, hz⟩)
 refine Yld.bindE hx (Yld.bind (root_S h1 (by omega)) ?_)
 rintro ⟨a, up2⟩ ⟨rfl, g1, _, _, g2⟩
 simp only at g1 g2 ⊢
 obtain ⟨at2, o2, e2, k, hk, hk2, row, hrow, hR⟩ := h3.step hlt h.rle h.idem hr
 have hbl : out.length + 1 ≤ 1000000000 := by omega
 refine Yld.bind (P := (· = (at2, o2))) ?_ ?_
 ·rw [e2]
  refine Yld.ite (fun hc => ?_) fun hc => ?_
  ·have hc := of_decide_eq_true hc
   exact Yld.app (by simp only [List.length_singleton]; omega) (Yld.some (by rw [if_pos hc]))
  ·have hc := of_decide_eq_false hc
   exact Yld.some (by rw [if_neg hc])
 ·rintro z rfl
  simp only
  have hix : idx? o2 (mGet at2 (r x)) = some row := by
   rw [hk, idx?_eq (by omega) (by omega), idx_nat _ _ hk2]
   rw [List.getElem?_eq_getElem hk2] at hrow; exact hrow
  have hrl : row.length ≤ pre.length := by
   have : o2.set k (row ++ [x]) = canon r (pre ++ [x]) := hR.eq
   have h4 : row ++ [x] ∈ canon r (pre ++ [x]) := by
    rw [← this]; exact List.mem_iff_getElem?.2 ⟨k, by rw [List.getElem?_set, if_pos rfl, if_pos hk2]⟩
   unfold canon at h4
   obtain ⟨q, _, hq⟩ := List.mem_map.1 h4
   have h5 := congrArg List.length hq
   have h6 := List.length_filter_le (fun z => decide (r z = q)) (pre ++ [x])
   simp only [List.length_append, List.length_singleton] at h5 h6
   omega
  refine Yld.bindE hix (Yld.app (by simp only [List.length_singleton]; omega) (Yld.bindE hix (Yld.some ⟨g1, by rw [g2 hxk]; exact h2, ?_⟩)))
  simp only
  rw [hk, Int.toNat_natCast]
  exact hR
theorem sets_part {F : Nat} (hF : F ≤ 100000000) {m : MapI} {ps : List (Int × Int)} (h : St m ps) (hl : 2 * ps.length < F) : Yld (island_classes_sets_S F m) fun z => Part (fun a b => (a, b) ∈ ps) (fun a => ∃ p ∈ ps, a = p.1 ∨ a = p.2) z.1 ∧ St z.2 ps := by
 refine (sets_S hF h.up (by have := h.len; omega)).mono ?_
 rintro ⟨o, m'⟩ ⟨h1, h2, h3⟩
 simp only at h1 h2 h3 ⊢
 have hk : ∀ u, u ∈ sorted (keysOf m) ↔ ∃ p ∈ ps, u = p.1 ∨ u = p.2 := fun u => by rw [mem_srt, h.keys]
 refine ⟨?_, h2, fun u => by rw [h3, h.keys], ?_⟩
 ·rw [h1]
  have hp := canon_part (r := reps ps) (P := fun a b => (a, b) ∈ ps) (srt_asd h.up.nd) h.up.rle h.up.idem (fun z hz => ?_) (reps_con ps) fun a b hab => ?_
  ·exact hp.congr (fun _ _ => .rfl) hk
  ·exact mem_srt.2 (has_keys.1 (h.up.low z (has_keys.2 (mem_srt.1 hz))).2.1)
  ·exact ⟨fun _ => (hk b).2 ⟨(a, b), hab, .inr rfl⟩, fun _ => (hk a).2 ⟨(a, b), hab, .inl rfl⟩⟩
 ·have : (keysOf m').length = (keysOf m).length := by rw [h3]
  simp only [keysOf, List.length_map] at this
  have := h.len
  omega
theorem mergeOwn {F : Nat} (hF : F ≤ 100000000) {Ls : List (List (List Int))} (h1 : Ls.length < F) (h2 : Ls.flatten.length < F) (h3 : 2 * Ls.flatten.flatten.length + 1 < F) : Yld (island_Merge_S F Ls) (Part (pr Ls.flatten) (dm Ls.flatten)) := by
 unfold island_Merge_S
 refine Yld.bind (P := fun m => St m (prs Ls.flatten)) ?_ ?_
 ·refine Yld.ea2 (I := fun pre m => St m (prs pre.flatten)) h1 (by omega) St.nil ?_ fun s h => h
  rintro pre L post m e hL hI
  have eL : Ls.flatten = pre.flatten ++ L ++ post.flatten := by rw [e]; simp
  have hLl : L.length ≤ Ls.flatten.length := by rw [eL]; simp only [List.length_append]; omega
  refine Yld.bind (P := fun m' => St m' (prs (pre ++ [L]).flatten)) ?_ fun m' h => Yld.some (.inl ⟨_, rfl, h⟩)
  refine Yld.bindE hL (Yld.bind ?_ fun m' h => Yld.some h)
  refine Yld.ea2 (I := fun q m => St m (prs (pre.flatten ++ q))) (by omega) (by omega) (by simpa using hI) ?_ fun s h => by simpa using h
  rintro q c post' m e' hc hI
  have eL2 : Ls.flatten = (pre.flatten ++ q) ++ c :: (post' ++ post.flatten) := by rw [eL, e']; simp
  have hlen : (prs (pre.flatten ++ q)).length + c.length ≤ Ls.flatten.flatten.length := by
   rw [prs_len, eL2]; simp; omega
  refine Yld.bind (P := fun m' => St m' (prs (pre.flatten ++ (q ++ [c])))) ?_ fun m' h => Yld.some (.inl ⟨_, rfl, h⟩)
  refine Yld.bindE hc (Yld.bind (P := fun m' => St m' (prs (pre.flatten ++ (q ++ [c])))) ?_ fun m' h => Yld.some h)
  refine Yld.ea2 (I := fun t m => St m (prs (pre.flatten ++ q) ++ t.map fun n => (hd c, n))) (by omega) (by omega) (by simpa using hI) ?_ fun s h => ?_
  ·rintro t n post'' m e'' hn hI
   have hc0 : idx? c 0 = some (hd c) := by
    cases c with
    | nil => simp at e''
    | cons a c => exact idx?_at [] c a
   have htl : t.length < c.length := by rw [e'']; simp
   refine Yld.bindE hn (Yld.bindE hc0 (Yld.bind (hI.join (x := hd c) (y := n) (by simp only [List.length_append, List.length_map]; omega)) ?_))
   rintro ⟨b, m'⟩ ⟨_, hs⟩
   refine Yld.some (.inl ⟨_, rfl, ?_⟩)
   simpa [List.map_append] using hs
  ·have : prs (pre.flatten ++ (q ++ [c])) = prs (pre.flatten ++ q) ++ c.map fun n => (hd c, n) := by
    rw [← List.append_assoc, prs_append]; simp [prs]
   rw [this]; exact h
 ·intro m hm
  refine Yld.bind (sets_part hF hm (by rw [prs_len]; omega)) ?_
  rintro ⟨o, m'⟩ ⟨hp, _⟩
  refine Yld.some (hp.congr (con_prs _) fun a => ?_)
  unfold dm
  constructor
  ·rintro ⟨⟨u, v⟩, hp, h⟩
   obtain ⟨c, hc, rfl, hv⟩ := mem_prs.1 hp
   rcases h with h | h
   ·exact ⟨c, hc, by simp only at h; rw [h]; exact hd_mem (List.ne_nil_of_mem hv)⟩
   ·exact ⟨c, hc, by simp only at h; rw [h]; exact hv⟩
  ·rintro ⟨c, hc, h⟩
   exact ⟨(hd c, a), mem_prs.2 ⟨c, hc, rfl, h⟩, .inr rfl⟩
theorem merge_eq {F : Nat} (hF : F ≤ 100000000) {Ls : List (List (List Int))} (h1 : Ls.length < F) (h2 : Ls.flatten.length < F) (h3 : 2 * Ls.flatten.flatten.length + 1 < F) : island_Merge_S F Ls = skewbackref35_Merge_S F Ls.flatten := by
 obtain ⟨a, e1, p1⟩ := mergeOwn hF h1 h2 h3
 obtain ⟨b, e2, p2⟩ := merge35 hF h2 (by omega)
 rw [e1, e2, p1.uniq p2]
end Go.Proofs.Ytnpddoaeoefcnaa

namespace Go.Proofs.Ytnpddoaeoefcnaa
open Go Go.Sk
set_option linter.unusedVariables false
set_option linter.unusedSimpArgs false
theorem compact_asd {zs : List Int} (h : zs.Pairwise (· ≤ ·)) : Asd (Lib.compact zs) ∧ ∀ a, a ∈ Lib.compact zs ↔ a ∈ zs := by
 have key : ∀ m, m ≤ zs.length → Asd (Lib.compactUpTo zs.toArray m) ∧ ∀ a, a ∈ Lib.compactUpTo zs.toArray m ↔ a ∈ zs.take m := fun m => by
  induction m with
  | zero => intro _; simp [Lib.compactUpTo]
  | succ m ih =>
   intro hm
   obtain ⟨h1, h2⟩ := ih (by omega)
   have hml : m < zs.length := by omega
   have em : zs.toArray[m]! = zs[m] := by simp [getElem!_pos, hml]
   rw [Lib.compactUpTo_succ, em]
   have et : zs.take (m + 1) = zs.take m ++ [zs[m]] := List.take_succ_eq_append_getElem hml
   by_cases hk : Lib.keeps zs.toArray m = true
   ·rw [if_pos hk, et]
    refine ⟨List.pairwise_append.2 ⟨h1, by simp, fun a ha b hb => ?_⟩, fun a => by rw [List.mem_append, List.mem_append, h2]⟩
    rw [List.mem_singleton.1 hb]
    have ha := (h2 a).1 ha
    obtain ⟨j, hj, rfl⟩ := List.getElem_of_mem ha
    have hj' : j < m := by rw [List.length_take] at hj; omega
    rw [List.getElem_take]
    have e1 : zs[j] ≤ zs[m - 1] := by
     by_cases e : j = m - 1
     ·subst e; exact Int.le_refl _
     ·exact List.pairwise_iff_getElem.1 h j (m - 1) (by omega) (by omega) (by omega)
    have e2 : zs[m - 1] ≤ zs[m] := List.pairwise_iff_getElem.1 h (m - 1) m (by omega) (by omega) (by omega)
    have e3 : zs[m] ≠ zs[m - 1] := by
     unfold Lib.keeps at hk
     have := of_decide_eq_true hk
     rcases this with h | h
     ·omega
     ·intro e; apply h
      rw [em, e]; simp [getElem!_pos, show m - 1 < zs.length by omega]
    omega
   ·rw [if_neg hk, List.append_nil, et]
    refine ⟨h1, fun a => ?_⟩
    rw [h2, List.mem_append, List.mem_singleton]
    have hne : ¬ (m = 0 ∨ zs.toArray[m]! ≠ zs.toArray[m - 1]!) := fun h => hk (by unfold Lib.keeps; exact decide_eq_true h)
    have h0 : m ≠ 0 := fun e => hne (.inl e)
    have e1 : zs[m] = zs[m - 1] := by
     have : zs.toArray[m]! = zs.toArray[m - 1]! := Classical.byContradiction fun h => hne (.inr h)
     rw [em] at this; rw [this]; simp [getElem!_pos, show m - 1 < zs.length by omega]
    refine ⟨.inl, ?_⟩
    rintro (h | rfl)
    ·exact h
    ·rw [e1]
     exact List.mem_take_iff_getElem.2 ⟨m - 1, by omega, rfl⟩
 have := key zs.length (Nat.le_refl _)
 rw [List.take_length] at this
 exact this
def Hsd (h : List Int) (L : List (List Int)) : Prop := ∀ c ∈ L, ∀ a ∈ c, 0 ≤ a ∧ a < h.length ∧ 0 ≤ idx h a
theorem isHoused_ok {h : List Int} {L : List (List Int)} (hl : L.length < 2000) (hc : ∀ c ∈ L, c.length < 2000) : Yld (owner_isHoused_S 2000 h L) fun r => (r = true ↔ Hsd h L) := by
 unfold owner_isHoused_S
 refine Yld.bind (P := fun o : Unit ⊕ Bool => (o = .inl () ∧ Hsd h L) ∨ (o = .inr false ∧ ¬ Hsd h L)) ?_ ?_
 ·refine Yld.ea1 (fun pre => Hsd h pre) hl (by omega) (by simp [Hsd]) (fun pre x post e hx hI => ?_) fun h => .inl ⟨rfl, h⟩
  have hxm : x ∈ L := by rw [e]; simp
  refine Yld.bind (P := fun o : Unit ⊕ Bool => (o = .inl () ∧ ∀ a ∈ x, 0 ≤ a ∧ a < h.length ∧ 0 ≤ idx h a) ∨ (o = .inr false ∧ ¬ ∀ a ∈ x, 0 ≤ a ∧ a < h.length ∧ 0 ≤ idx h a)) ?_ ?_
  ·refine Yld.bindE hx (Yld.bind (P := fun o : Unit ⊕ Bool => (o = .inl () ∧ ∀ a ∈ x, 0 ≤ a ∧ a < h.length ∧ 0 ≤ idx h a) ∨ (o = .inr false ∧ ¬ ∀ a ∈ x, 0 ≤ a ∧ a < h.length ∧ 0 ≤ idx h a)) ?_ ?_)
   ·refine Yld.find (c := fun x : Int => decide (¬ (0 ≤ x ∧ x < h.length ∧ 0 ≤ idx h x))) (r := fun _ => false) (hc x hxm) (by have := hc x hxm; omega) (fun hh => .inl ⟨rfl, fun a ha => by simpa using hh a ha⟩) (fun pre x post e _ hc => .inr ⟨rfl, fun hh => by have := hh x (by rw [e]; simp); exact of_decide_eq_true hc this⟩) fun i x hx => ?_
    rw [hx]
    simp only [Option.bind_some, letN]
    by_cases h1 : x < 0
    ·have : ¬ (0 ≤ x ∧ x < h.length ∧ 0 ≤ idx h x) := by omega
     simp [h1, gcall, this]
    ·by_cases h2 : (h.length : Int) ≤ x
     ·have : ¬ (0 ≤ x ∧ x < h.length ∧ 0 ≤ idx h x) := by omega
      simp [h1, h2, gcall, this]
     ·simp only [h1, h2, gcall, decide_false, Bool.not_false, Bool.or_self, if_true, Option.bind_some, Bool.false_or, idx?_eq (show 0 ≤ x by omega) (show x < h.length by omega)]
      by_cases h3 : idx h x < 0
      ·have : ¬ (0 ≤ x ∧ x < h.length ∧ 0 ≤ idx h x) := by omega
       simp [h3, this]
      ·have : 0 ≤ x ∧ x < h.length ∧ 0 ≤ idx h x := by omega
       simp [h3, this]
   ·rintro o (⟨rfl, h⟩ | ⟨rfl, h⟩)
    ·exact Yld.some (.inl ⟨rfl, h⟩)
    ·exact Yld.some (.inr ⟨rfl, h⟩)
  ·rintro o (⟨rfl, h'⟩ | ⟨rfl, h'⟩)
   ·refine Yld.some (.inl ⟨rfl, fun c hc' => ?_⟩)
    rcases List.mem_append.1 hc' with h | h
    ·exact hI c h
    ·rw [List.mem_singleton.1 h]; exact h'
   ·exact Yld.some (.inr ⟨_, rfl, .inr ⟨rfl, fun hh => h' (hh x hxm)⟩⟩)
 ·rintro o (⟨rfl, h⟩ | ⟨rfl, h⟩)
  ·exact Yld.some (by simpa using h)
  ·exact Yld.some (by simpa using h)
def mg (L : List (List Int)) : List (List Int) := (skewbackref35_Merge_S 2000 L).getD []
def Sz (L : List (List Int)) : Prop := L.length < 900 ∧ L.flatten.length < 900
theorem mg_some {L : List (List Int)} (h : Sz L) : skewbackref35_Merge_S 2000 L = some (mg L) ∧ Part (pr L) (dm L) (mg L) := by
 obtain ⟨h1, h2⟩ := h
 obtain ⟨o, e, p⟩ := merge35 (F := 2000) (by omega) (L := L) (by omega) (by omega)
 unfold mg
 rw [e]
 exact ⟨rfl, p⟩
theorem mg_own {Ls : List (List (List Int))} (h : Sz Ls.flatten) (hl : Ls.length < 2000) : island_Merge_S 2000 Ls = some (mg Ls.flatten) := by
 rw [merge_eq (by omega) hl (by have := h.1; omega) (by have := h.2; omega)]
 exact (mg_some h).1
theorem mg_sz {L : List (List Int)} (h : Sz L) : (mg L).length ≤ L.flatten.length ∧ (∀ c ∈ mg L, c.length ≤ L.flatten.length) :=
 ⟨pt_len (mg_some h).2.toIsPt fun a => (dm_flat a).1, fun c hc => asd_cls (mg_some h).2.toIsPt (fun a => (dm_flat a).1) hc⟩
theorem mg_dom {L : List (List Int)} (h : Sz L) (a : Int) : (∃ c ∈ mg L, a ∈ c) ↔ dm L a := ((mg_some h).2.dom a).symm
def alone (h : List Int) : List (List Int) := ((List.range h.length).filter fun b : Nat => decide (0 ≤ idx h (b : Int))).map fun b : Nat => [(b : Int)]
theorem alone_len (h : List Int) : (alone h).length ≤ h.length := by
 unfold alone; rw [List.length_map]; refine Nat.le_trans (List.length_filter_le _ _) ?_; simp
theorem alone_flat (h : List Int) : (alone h).flatten.length ≤ h.length := by
 unfold alone
 rw [List.length_flatten, List.map_map]
 have : ∀ l : List Nat, (l.map (List.length ∘ fun b : Nat => [(b : Int)])).sum = l.length := fun l => by induction l <;> simp_all <;> omega
 rw [this]
 refine Nat.le_trans (List.length_filter_le _ _) ?_; simp
theorem mem_alone {h c : List Int} : c ∈ alone h ↔ ∃ b : Nat, b < h.length ∧ 0 ≤ idx h (b : Int) ∧ c = [(b : Int)] := by
 unfold alone
 simp only [List.mem_map, List.mem_filter, List.mem_range, decide_eq_true_eq]
 constructor
 ·rintro ⟨b, ⟨h1, h2⟩, rfl⟩; exact ⟨b, h1, h2, rfl⟩
 ·rintro ⟨b, h1, h2, rfl⟩; exact ⟨b, ⟨h1, h2⟩, rfl⟩
theorem hsd_alone (h : List Int) : Hsd h (alone h) := by
 intro c hc a ha
 obtain ⟨b, h1, h2, rfl⟩ := mem_alone.1 hc
 rw [List.mem_singleton.1 ha]
 exact ⟨by omega, by omega, h2⟩
theorem hsd_append {h : List Int} {L M : List (List Int)} (h1 : Hsd h L) (h2 : Hsd h M) : Hsd h (L ++ M) := fun c hc => by
 rcases List.mem_append.1 hc with hc | hc
 ·exact h1 c hc
 ·exact h2 c hc
theorem hsd_mg {h : List Int} {L : List (List Int)} (hs : Sz L) (h1 : Hsd h L) : Hsd h (mg L) := fun c hc a ha => by
 obtain ⟨d, hd, h2⟩ := (mg_dom hs a).1 ⟨c, hc, ha⟩
 exact h1 d hd a h2
def rs (h c : List Int) : List Int := Lib.compact (sorted (c.map fun b => idx h b))
theorem rs_asd (h c : List Int) : Asd (rs h c) := (compact_asd (srt_pw _)).1
theorem mem_rs (h c : List Int) (v : Int) : v ∈ rs h c ↔ ∃ b ∈ c, idx h b = v := by
 unfold rs; rw [(compact_asd (srt_pw _)).2, mem_srt, List.mem_map]
theorem rs_ne {h c : List Int} (hc : c ≠ []) : rs h c ≠ [] := by
 obtain ⟨a, c', rfl⟩ := List.exists_cons_of_ne_nil hc
 exact List.ne_nil_of_mem ((mem_rs h _ (idx h a)).2 ⟨a, by simp, rfl⟩)
theorem rs_len (h c : List Int) : (rs h c).length ≤ c.length := by
 have := asd_len (m := c.map fun b => idx h b) (rs_asd h c) fun a ha => by
  obtain ⟨b, hb, rfl⟩ := (mem_rs h c a).1 ha
  exact List.mem_map.2 ⟨b, hb, rfl⟩
 simpa using this
def mkTask (h c : List Int) : Task := ⟨hd (rs h c), c, (rs h c).tail⟩
def tks (h : List Int) (L : List (List Int)) : List Task := (mg (L ++ alone h)).map (mkTask h)
theorem sz_alone {h : List Int} {L : List (List Int)} (hh : h.length ≤ 40) (h1 : L.length ≤ 800) (h2 : L.flatten.length ≤ 800) : Sz (L ++ alone h) := by
 have a := alone_len h; have b := alone_flat h
 refine ⟨by rw [List.length_append]; omega, by rw [List.flatten_append, List.length_append]; omega⟩
theorem idx_pre {l pre post : List Int} {x : Int} (h : idx? l (pre.length : Int) = some x) : idx l (pre.length : Int) = x := ix_eq h
theorem range_filter_succ (p : Nat → Bool) (n : Nat) : (List.range (n + 1)).filter p = (List.range n).filter p ++ if p n then [n] else [] := by
 rw [List.range_succ, List.filter_append]; congr 1; by_cases h : p n <;> simp [h]
theorem own_tasks {h : List Int} {L : List (List Int)} (hh : h.length ≤ 40) (h1 : L.length ≤ 800) (h2 : L.flatten.length ≤ 800) (hs : Hsd h L) : owner_tasks_S 2000 h L = some (tks h L) := by
 have hz := sz_alone hh h1 h2
 have hsd := hsd_mg hz (hsd_append hs (hsd_alone h))
 obtain ⟨l1, l2⟩ := mg_sz hz
 have hz2 := hz.2
 refine Yld.eq ?_
 unfold owner_tasks_S
 refine Yld.bind (P := (· = alone h)) ?_ ?_
 ·refine Yld.ea2 (I := fun pre s => s = ((List.range pre.length).filter fun b : Nat => decide (0 ≤ idx h (b : Int))).map fun b : Nat => [(b : Int)]) (by omega) (by omega) rfl ?_ fun s h => h
  rintro pre x post s e hx rfl
  have ex := idx_pre (post := post) hx
  have hpl : pre.length < h.length := by rw [e]; simp
  refine Yld.bind (P := fun s => s = ((List.range (pre ++ [x]).length).filter fun b : Nat => decide (0 ≤ idx h (b : Int))).map fun b : Nat => [(b : Int)]) ?_ fun s h => Yld.some (.inl ⟨_, rfl, h⟩)
  rw [List.length_append, List.length_singleton, range_filter_succ, ex]
  refine Yld.bindE hx (Yld.ite (fun hc => ?_) fun hc => ?_)
  ·refine Yld.app ?_ (Yld.some (by rw [hc]; simp))
   have := List.length_filter_le (fun b : Nat => decide (0 ≤ idx h (b : Int))) (List.range pre.length)
   rw [List.length_range] at this
   simp only [List.length_map, List.length_singleton]; omega
  ·exact Yld.some (by rw [hc]; simp)
 ·rintro _ rfl
  refine Yld.bind (P := (· = tks h L)) ?_ fun s h => Yld.some h
  refine Yld.bindE (mg_own (Ls := [L, alone h]) (by simpa using hz) (by simp)) ?_
  rw [show [L, alone h].flatten = L ++ alone h by simp]
  refine Yld.ea2 (I := fun pre s => s = pre.map (mkTask h)) (by omega) (by omega) rfl ?_ fun s h => h
  rintro pre c post s e hx rfl
  have hcm : c ∈ mg (L ++ alone h) := by rw [e]; simp
  have hcl := l2 c hcm
  refine Yld.bind (P := fun s => s = (pre ++ [c]).map (mkTask h)) ?_ fun s h => Yld.some (.inl ⟨_, rfl, h⟩)
  refine Yld.bindE hx (Yld.bind (P := (· = c.map fun b => idx h b)) ?_ ?_)
  ·refine Yld.ea2 (I := fun q s => s = q.map fun b => idx h b) (by omega) (by omega) rfl ?_ fun s h => h
   rintro q b post' s e' hb rfl
   have hbm : b ∈ c := by rw [e']; simp
   obtain ⟨g1, g2, g3⟩ := hsd c hcm b hbm
   have hql : q.length < c.length := by rw [e']; simp
   exact Yld.bindE hb (Yld.idx g1 g2 (Yld.app (by simp only [List.length_map, List.length_singleton]; omega) (Yld.some (.inl ⟨_, rfl, by simp⟩))))
  ·rintro _ rfl
   have hsl : (sorted (c.map fun b => idx h b)).length = c.length := by rw [(srt_perm _).length_eq, List.length_map]
   have hne : c ≠ [] := ((mg_some hz).2.asd c hcm).1
   have hcp : 0 < c.length := List.length_pos_iff.2 hne
   refine Yld.bindE (x := sorted (c.map fun b => idx h b)) (by unfold slices_Sort_S sort0?; rw [if_pos (by simp; omega)]) (Yld.bindE (x := rs h c) (by unfold slices_Compact_S compactI?; rw [if_pos (by omega)]; rfl) ?_)
   have hrl := rs_len h c
   have hrn := rs_ne (h := h) hne
   have hpl : pre.length < (mg (L ++ alone h)).length := by rw [e]; simp
   have hr0 : idx? (rs h c) 0 = some (hd (rs h c)) := by
    cases hr : rs h c with
    | nil => exact absurd hr hrn
    | cons a t => exact idx?_at [] t a
   refine Yld.bindE hr0 (Yld.drop (by omega) (by have := List.length_pos_iff.2 hrn; omega) (Yld.app (by simp only [List.length_map, List.length_singleton]; omega) (Yld.some ?_)))
   rw [List.map_append]
   simp [mkTask, List.drop_one]
end Go.Proofs.Ytnpddoaeoefcnaa

namespace Go.Proofs.Ytnpddoaeoefcnaa
open Go Go.Sk
set_option maxHeartbeats 4000000
set_option maxRecDepth 100000
set_option linter.unusedVariables false
theorem slices_Sort_mono {F F' : Nat} (hF : F ≤ F') : ∀ a0, Le (slices_Sort_S F a0) (slices_Sort_S F' a0) := fun a0 => by
 unfold slices_Sort_S
 repeat' (first | exact Le.rfl _ | refine Le.bind ?_ ?_ | refine Le.ite ?_ ?_ | refine Le.iter hF ?_ _ | refine Le.gcall ?_ | refine Le.letN ?_ | refine Le.alt2 ?_ ?_ | intro _)
theorem slices_Compact_mono {F F' : Nat} (hF : F ≤ F') : ∀ a0, Le (slices_Compact_S F a0) (slices_Compact_S F' a0) := fun a0 => by
 unfold slices_Compact_S
 repeat' (first | exact Le.rfl _ | refine Le.bind ?_ ?_ | refine Le.ite ?_ ?_ | refine Le.iter hF ?_ _ | refine Le.gcall ?_ | refine Le.letN ?_ | refine Le.alt2 ?_ ?_ | intro _)
theorem owner_Reach_1_1_mono {F F' : Nat} (hF : F ≤ F') : ∀ a0 a1 a2, Le (owner_Reach_1_1_S F a0 a1 a2) (owner_Reach_1_1_S F' a0 a1 a2) := fun a0 a1 a2 => by
 unfold owner_Reach_1_1_S
 repeat' (first | exact Le.rfl _ | refine Le.bind ?_ ?_ | refine Le.ite ?_ ?_ | refine Le.iter hF ?_ _ | refine Le.gcall ?_ | refine Le.letN ?_ | refine Le.alt2 ?_ ?_ | intro _)
theorem sort_Search_mono {F F' : Nat} (hF : F ≤ F') : ∀ a0 a1 a2, Le (sort_Search_S F a0 a1 a2) (sort_Search_S F' a0 a1 a2) := fun a0 a1 a2 => by
 unfold sort_Search_S
 repeat' (first | exact Le.rfl _ | exact owner_Reach_1_1_mono hF _ _ _ | refine Le.bind ?_ ?_ | refine Le.ite ?_ ?_ | refine Le.iter hF ?_ _ | refine Le.gcall ?_ | refine Le.letN ?_ | refine Le.alt2 ?_ ?_ | intro _)
theorem owner_Reach_1_mono {F F' : Nat} (hF : F ≤ F') : ∀ a0 a1, Le (owner_Reach_1_S F a0 a1) (owner_Reach_1_S F' a0 a1) := fun a0 a1 => by
 unfold owner_Reach_1_S
 repeat' (first | exact Le.rfl _ | exact sort_Search_mono hF _ _ _ | refine Le.bind ?_ ?_ | refine Le.ite ?_ ?_ | refine Le.iter hF ?_ _ | refine Le.gcall ?_ | refine Le.letN ?_ | refine Le.alt2 ?_ ?_ | intro _)
theorem owner_Reach_mono {F F' : Nat} (hF : F ≤ F') : ∀ a0 a1 a2, Le (owner_Reach_S F a0 a1 a2) (owner_Reach_S F' a0 a1 a2) := fun a0 a1 a2 => by
 unfold owner_Reach_S
 repeat' (first | exact Le.rfl _ | exact owner_Reach_1_mono hF _ _ | refine Le.bind ?_ ?_ | refine Le.ite ?_ ?_ | refine Le.iter hF ?_ _ | refine Le.gcall ?_ | refine Le.letN ?_ | refine Le.alt2 ?_ ?_ | intro _)
theorem owner_isHoused_mono {F F' : Nat} (hF : F ≤ F') : ∀ a0 a1, Le (owner_isHoused_S F a0 a1) (owner_isHoused_S F' a0 a1) := fun a0 a1 => by
 unfold owner_isHoused_S
 repeat' (first | exact Le.rfl _ | refine Le.bind ?_ ?_ | refine Le.ite ?_ ?_ | refine Le.iter hF ?_ _ | refine Le.gcall ?_ | refine Le.letN ?_ | refine Le.alt2 ?_ ?_ | intro _)
theorem island_classes_root_monoR {F F' : Nat} (hF : F ≤ F') : ∀ (n n' : Nat), n ≤ n' → ∀ a0 a1, Le (island_classes_root_R F n a0 a1) (island_classes_root_R F' n' a0 a1)
 | 0, _, _ => fun a0 a1 => Le.none _
 | n + 1, 0, h => absurd h (by omega)
 | n + 1, n' + 1, h => fun a0 a1 => by
  unfold island_classes_root_R
  repeat' (first | exact Le.rfl _ | exact island_classes_root_monoR hF n n' (by omega) _ _ | refine Le.bind ?_ ?_ | refine Le.ite ?_ ?_ | refine Le.iter hF ?_ _ | refine Le.gcall ?_ | refine Le.letN ?_ | refine Le.alt2 ?_ ?_ | intro _)
theorem island_classes_root_mono {F F' : Nat} (hF : F ≤ F') : ∀ a0 a1, Le (island_classes_root_S F a0 a1) (island_classes_root_S F' a0 a1) := fun a0 a1 => island_classes_root_monoR hF _ _ hF _ _
theorem island_classes_join_mono {F F' : Nat} (hF : F ≤ F') : ∀ a0 a1 a2, Le (island_classes_join_S F a0 a1 a2) (island_classes_join_S F' a0 a1 a2) := fun a0 a1 a2 => by
 unfold island_classes_join_S
 repeat' (first | exact Le.rfl _ | exact island_classes_root_mono hF _ _ | refine Le.bind ?_ ?_ | refine Le.ite ?_ ?_ | refine Le.iter hF ?_ _ | refine Le.gcall ?_ | refine Le.letN ?_ | refine Le.alt2 ?_ ?_ | intro _)
theorem island_classes_sets_mono {F F' : Nat} (hF : F ≤ F') : ∀ a0, Le (island_classes_sets_S F a0) (island_classes_sets_S F' a0) := fun a0 => by
 unfold island_classes_sets_S
 repeat' (first | exact Le.rfl _ | exact island_classes_root_mono hF _ _ | exact slices_Sort_mono hF _ | refine Le.bind ?_ ?_ | refine Le.ite ?_ ?_ | refine Le.iter hF ?_ _ | refine Le.gcall ?_ | refine Le.letN ?_ | refine Le.alt2 ?_ ?_ | intro _)
theorem island_Merge_mono {F F' : Nat} (hF : F ≤ F') : ∀ a0, Le (island_Merge_S F a0) (island_Merge_S F' a0) := fun a0 => by
 unfold island_Merge_S
 repeat' (first | exact Le.rfl _ | exact island_classes_join_mono hF _ _ _ | exact island_classes_sets_mono hF _ | refine Le.bind ?_ ?_ | refine Le.ite ?_ ?_ | refine Le.iter hF ?_ _ | refine Le.gcall ?_ | refine Le.letN ?_ | refine Le.alt2 ?_ ?_ | intro _)
theorem owner_tasks_mono {F F' : Nat} (hF : F ≤ F') : ∀ a0 a1, Le (owner_tasks_S F a0 a1) (owner_tasks_S F' a0 a1) := fun a0 a1 => by
 unfold owner_tasks_S
 repeat' (first | exact Le.rfl _ | exact island_Merge_mono hF _ | exact slices_Compact_mono hF _ | exact slices_Sort_mono hF _ | refine Le.bind ?_ ?_ | refine Le.ite ?_ ?_ | refine Le.iter hF ?_ _ | refine Le.gcall ?_ | refine Le.letN ?_ | refine Le.alt2 ?_ ?_ | intro _)
theorem owner_Tasks_mono {F F' : Nat} (hF : F ≤ F') : ∀ a0 a1, Le (owner_Tasks_S F a0 a1) (owner_Tasks_S F' a0 a1) := fun a0 a1 => by
 unfold owner_Tasks_S
 repeat' (first | exact Le.rfl _ | exact owner_isHoused_mono hF _ _ | exact owner_tasks_mono hF _ _ | refine Le.bind ?_ ?_ | refine Le.ite ?_ ?_ | refine Le.iter hF ?_ _ | refine Le.gcall ?_ | refine Le.letN ?_ | refine Le.alt2 ?_ ?_ | intro _)
theorem owner_isHome_1_mono {F F' : Nat} (hF : F ≤ F') : ∀ a0 a1, Le (owner_isHome_1_S F a0 a1) (owner_isHome_1_S F' a0 a1) := fun a0 a1 => by
 unfold owner_isHome_1_S
 repeat' (first | exact Le.rfl _ | refine Le.bind ?_ ?_ | refine Le.ite ?_ ?_ | refine Le.iter hF ?_ _ | refine Le.gcall ?_ | refine Le.letN ?_ | refine Le.alt2 ?_ ?_ | intro _)
theorem slices_IndexFunc_mono {F F' : Nat} (hF : F ≤ F') : ∀ a0 a1, Le (slices_IndexFunc_S F a0 a1) (slices_IndexFunc_S F' a0 a1) := fun a0 a1 => by
 unfold slices_IndexFunc_S
 repeat' (first | exact Le.rfl _ | exact owner_isHome_1_mono hF _ _ | refine Le.bind ?_ ?_ | refine Le.ite ?_ ?_ | refine Le.iter hF ?_ _ | refine Le.gcall ?_ | refine Le.letN ?_ | refine Le.alt2 ?_ ?_ | intro _)
theorem slices_ContainsFunc_mono {F F' : Nat} (hF : F ≤ F') : ∀ a0 a1, Le (slices_ContainsFunc_S F a0 a1) (slices_ContainsFunc_S F' a0 a1) := fun a0 a1 => by
 unfold slices_ContainsFunc_S
 repeat' (first | exact Le.rfl _ | exact slices_IndexFunc_mono hF _ _ | refine Le.bind ?_ ?_ | refine Le.ite ?_ ?_ | refine Le.iter hF ?_ _ | refine Le.gcall ?_ | refine Le.letN ?_ | refine Le.alt2 ?_ ?_ | intro _)
theorem owner_isHome_mono {F F' : Nat} (hF : F ≤ F') : ∀ a0 a1, Le (owner_isHome_S F a0 a1) (owner_isHome_S F' a0 a1) := fun a0 a1 => by
 unfold owner_isHome_S
 repeat' (first | exact Le.rfl _ | exact slices_ContainsFunc_mono hF _ _ | refine Le.bind ?_ ?_ | refine Le.ite ?_ ?_ | refine Le.iter hF ?_ _ | refine Le.gcall ?_ | refine Le.letN ?_ | refine Le.alt2 ?_ ?_ | intro _)
theorem owner_node_send_mono {F F' : Nat} (hF : F ≤ F') : ∀ a0 a1 a2, Le (owner_node_send_S F a0 a1 a2) (owner_node_send_S F' a0 a1 a2) := fun a0 a1 a2 => by
 unfold owner_node_send_S
 repeat' (first | exact Le.rfl _ | refine Le.bind ?_ ?_ | refine Le.ite ?_ ?_ | refine Le.iter hF ?_ _ | refine Le.gcall ?_ | refine Le.letN ?_ | refine Le.alt2 ?_ ?_ | intro _)
theorem slices_Index_mono {F F' : Nat} (hF : F ≤ F') : ∀ a0 a1, Le (slices_Index_S F a0 a1) (slices_Index_S F' a0 a1) := fun a0 a1 => by
 unfold slices_Index_S
 repeat' (first | exact Le.rfl _ | refine Le.bind ?_ ?_ | refine Le.ite ?_ ?_ | refine Le.iter hF ?_ _ | refine Le.gcall ?_ | refine Le.letN ?_ | refine Le.alt2 ?_ ?_ | intro _)
theorem slices_Contains_mono {F F' : Nat} (hF : F ≤ F') : ∀ a0 a1, Le (slices_Contains_S F a0 a1) (slices_Contains_S F' a0 a1) := fun a0 a1 => by
 unfold slices_Contains_S
 repeat' (first | exact Le.rfl _ | exact slices_Index_mono hF _ _ | refine Le.bind ?_ ?_ | refine Le.ite ?_ ?_ | refine Le.iter hF ?_ _ | refine Le.gcall ?_ | refine Le.letN ?_ | refine Le.alt2 ?_ ?_ | intro _)
theorem owner_node_of_mono {F F' : Nat} (hF : F ≤ F') : ∀ a0 a1 a2 a3, Le (owner_node_of_S F a0 a1 a2 a3) (owner_node_of_S F' a0 a1 a2 a3) := fun a0 a1 a2 a3 => by
 unfold owner_node_of_S
 repeat' (first | exact Le.rfl _ | refine Le.bind ?_ ?_ | refine Le.ite ?_ ?_ | refine Le.iter hF ?_ _ | refine Le.gcall ?_ | refine Le.letN ?_ | refine Le.alt2 ?_ ?_ | intro _)
theorem owner_node_of_v_mono {F F' : Nat} (hF : F ≤ F') : ∀ a0 a1 a2 a3, Le (owner_node_of_v_S F a0 a1 a2 a3) (owner_node_of_v_S F' a0 a1 a2 a3) := fun a0 a1 a2 a3 => by
 unfold owner_node_of_v_S
 repeat' (first | exact Le.rfl _ | refine Le.bind ?_ ?_ | refine Le.ite ?_ ?_ | refine Le.iter hF ?_ _ | refine Le.gcall ?_ | refine Le.letN ?_ | refine Le.alt2 ?_ ?_ | intro _)
theorem owner_texts_mono {F F' : Nat} (hF : F ≤ F') : ∀ a0 a1, Le (owner_texts_S F a0 a1) (owner_texts_S F' a0 a1) := fun a0 a1 => by
 unfold owner_texts_S
 repeat' (first | exact Le.rfl _ | refine Le.bind ?_ ?_ | refine Le.ite ?_ ?_ | refine Le.iter hF ?_ _ | refine Le.gcall ?_ | refine Le.letN ?_ | refine Le.alt2 ?_ ?_ | intro _)
theorem owner_node_plan_mono {F F' : Nat} (hF : F ≤ F') : ∀ a0 a1, Le (owner_node_plan_S F a0 a1) (owner_node_plan_S F' a0 a1) := fun a0 a1 => by
 unfold owner_node_plan_S
 repeat' (first | exact Le.rfl _ | exact owner_node_of_mono hF _ _ _ _ | exact owner_node_send_mono hF _ _ _ | exact owner_tasks_mono hF _ _ | exact owner_texts_mono hF _ _ | exact slices_Contains_mono hF _ _ | refine Le.bind ?_ ?_ | refine Le.ite ?_ ?_ | refine Le.iter hF ?_ _ | refine Le.gcall ?_ | refine Le.letN ?_ | refine Le.alt2 ?_ ?_ | intro _)
theorem owner_Begin_mono {F F' : Nat} (hF : F ≤ F') : ∀ a0 a1 a2 a3 a4 a5, Le (owner_Begin_S F a0 a1 a2 a3 a4 a5) (owner_Begin_S F' a0 a1 a2 a3 a4 a5) := fun a0 a1 a2 a3 a4 a5 => by
 unfold owner_Begin_S
 repeat' (first | exact Le.rfl _ | exact island_Merge_mono hF _ | exact owner_isHome_mono hF _ _ | exact owner_isHoused_mono hF _ _ | exact owner_node_plan_mono hF _ _ | exact owner_node_send_mono hF _ _ _ | refine Le.bind ?_ ?_ | refine Le.ite ?_ ?_ | refine Le.iter hF ?_ _ | refine Le.gcall ?_ | refine Le.letN ?_ | refine Le.alt2 ?_ ?_ | intro _)
theorem slices_Clone_mono {F F' : Nat} (hF : F ≤ F') : ∀ a0, Le (slices_Clone_S F a0) (slices_Clone_S F' a0) := fun a0 => by
 unfold slices_Clone_S
 repeat' (first | exact Le.rfl _ | refine Le.bind ?_ ?_ | refine Le.ite ?_ ?_ | refine Le.iter hF ?_ _ | refine Le.gcall ?_ | refine Le.letN ?_ | refine Le.alt2 ?_ ?_ | intro _)
theorem owner_node_sets_mono {F F' : Nat} (hF : F ≤ F') : ∀ a0 a1 a2, Le (owner_node_sets_S F a0 a1 a2) (owner_node_sets_S F' a0 a1 a2) := fun a0 a1 a2 => by
 unfold owner_node_sets_S
 repeat' (first | exact Le.rfl _ | exact island_Merge_mono hF _ | exact owner_isHoused_mono hF _ _ | exact owner_node_plan_mono hF _ _ | exact slices_Clone_mono hF _ | refine Le.bind ?_ ?_ | refine Le.ite ?_ ?_ | refine Le.iter hF ?_ _ | refine Le.gcall ?_ | refine Le.letN ?_ | refine Le.alt2 ?_ ?_ | intro _)
theorem slices_Index85_mono {F F' : Nat} (hF : F ≤ F') : ∀ a0 a1, Le (slices_Index85_S F a0 a1) (slices_Index85_S F' a0 a1) := fun a0 a1 => by
 unfold slices_Index85_S
 repeat' (first | exact Le.rfl _ | refine Le.bind ?_ ?_ | refine Le.ite ?_ ?_ | refine Le.iter hF ?_ _ | refine Le.gcall ?_ | refine Le.letN ?_ | refine Le.alt2 ?_ ?_ | intro _)
theorem slices_Contains51_mono {F F' : Nat} (hF : F ≤ F') : ∀ a0 a1, Le (slices_Contains51_S F a0 a1) (slices_Contains51_S F' a0 a1) := fun a0 a1 => by
 unfold slices_Contains51_S
 repeat' (first | exact Le.rfl _ | exact slices_Index85_mono hF _ _ | refine Le.bind ?_ ?_ | refine Le.ite ?_ ?_ | refine Le.iter hF ?_ _ | refine Le.gcall ?_ | refine Le.letN ?_ | refine Le.alt2 ?_ ?_ | intro _)
theorem owner_node_isFull_mono {F F' : Nat} (hF : F ≤ F') : ∀ a0 a1 a2 a3, Le (owner_node_isFull_S F a0 a1 a2 a3) (owner_node_isFull_S F' a0 a1 a2 a3) := fun a0 a1 a2 a3 => by
 unfold owner_node_isFull_S
 repeat' (first | exact Le.rfl _ | exact owner_isHoused_mono hF _ _ | exact owner_node_of_mono hF _ _ _ _ | exact slices_Contains51_mono hF _ _ | refine Le.bind ?_ ?_ | refine Le.ite ?_ ?_ | refine Le.iter hF ?_ _ | refine Le.gcall ?_ | refine Le.letN ?_ | refine Le.alt2 ?_ ?_ | intro _)
theorem owner_learn_mono {F F' : Nat} (hF : F ≤ F') : ∀ a0 a1 a2, Le (owner_learn_S F a0 a1 a2) (owner_learn_S F' a0 a1 a2) := fun a0 a1 a2 => by
 unfold owner_learn_S
 repeat' (first | exact Le.rfl _ | refine Le.bind ?_ ?_ | refine Le.ite ?_ ?_ | refine Le.iter hF ?_ _ | refine Le.gcall ?_ | refine Le.letN ?_ | refine Le.alt2 ?_ ?_ | intro _)
theorem owner_node_states_mono {F F' : Nat} (hF : F ≤ F') : ∀ a0 a1 a2, Le (owner_node_states_S F a0 a1 a2) (owner_node_states_S F' a0 a1 a2) := fun a0 a1 a2 => by
 unfold owner_node_states_S
 repeat' (first | exact Le.rfl _ | exact owner_learn_mono hF _ _ _ | exact owner_node_isFull_mono hF _ _ _ _ | refine Le.bind ?_ ?_ | refine Le.ite ?_ ?_ | refine Le.iter hF ?_ _ | refine Le.gcall ?_ | refine Le.letN ?_ | refine Le.alt2 ?_ ?_ | intro _)
theorem slices_Index97_mono {F F' : Nat} (hF : F ≤ F') : ∀ a0 a1, Le (slices_Index97_S F a0 a1) (slices_Index97_S F' a0 a1) := fun a0 a1 => by
 unfold slices_Index97_S
 repeat' (first | exact Le.rfl _ | refine Le.bind ?_ ?_ | refine Le.ite ?_ ?_ | refine Le.iter hF ?_ _ | refine Le.gcall ?_ | refine Le.letN ?_ | refine Le.alt2 ?_ ?_ | intro _)
theorem slices_Contains89_mono {F F' : Nat} (hF : F ≤ F') : ∀ a0 a1, Le (slices_Contains89_S F a0 a1) (slices_Contains89_S F' a0 a1) := fun a0 a1 => by
 unfold slices_Contains89_S
 repeat' (first | exact Le.rfl _ | exact slices_Index97_mono hF _ _ | refine Le.bind ?_ ?_ | refine Le.ite ?_ ?_ | refine Le.iter hF ?_ _ | refine Le.gcall ?_ | refine Le.letN ?_ | refine Le.alt2 ?_ ?_ | intro _)
theorem owner_node_results_1_mono {F F' : Nat} (hF : F ≤ F') : ∀ a0 a1 a2 a3 a4 a5 a6 a7 a8, Le (owner_node_results_1_S F a0 a1 a2 a3 a4 a5 a6 a7 a8) (owner_node_results_1_S F' a0 a1 a2 a3 a4 a5 a6 a7 a8) := fun a0 a1 a2 a3 a4 a5 a6 a7 a8 => by
 unfold owner_node_results_1_S
 repeat' (first | exact Le.rfl _ | exact slices_Contains89_mono hF _ _ | refine Le.bind ?_ ?_ | refine Le.ite ?_ ?_ | refine Le.iter hF ?_ _ | refine Le.gcall ?_ | refine Le.letN ?_ | refine Le.alt2 ?_ ?_ | intro _)
theorem slices_IndexFunc96_mono {F F' : Nat} (hF : F ≤ F') : ∀ a0 a1 a2 a3 a4 a5 a6 a7 a8, Le (slices_IndexFunc96_S F a0 a1 a2 a3 a4 a5 a6 a7 a8) (slices_IndexFunc96_S F' a0 a1 a2 a3 a4 a5 a6 a7 a8) := fun a0 a1 a2 a3 a4 a5 a6 a7 a8 => by
 unfold slices_IndexFunc96_S
 repeat' (first | exact Le.rfl _ | exact owner_node_results_1_mono hF _ _ _ _ _ _ _ _ _ | refine Le.bind ?_ ?_ | refine Le.ite ?_ ?_ | refine Le.iter hF ?_ _ | refine Le.gcall ?_ | refine Le.letN ?_ | refine Le.alt2 ?_ ?_ | intro _)
theorem slices_ContainsFunc87_mono {F F' : Nat} (hF : F ≤ F') : ∀ a0 a1 a2 a3 a4 a5 a6 a7 a8, Le (slices_ContainsFunc87_S F a0 a1 a2 a3 a4 a5 a6 a7 a8) (slices_ContainsFunc87_S F' a0 a1 a2 a3 a4 a5 a6 a7 a8) := fun a0 a1 a2 a3 a4 a5 a6 a7 a8 => by
 unfold slices_ContainsFunc87_S
 repeat' (first | exact Le.rfl _ | exact slices_IndexFunc96_mono hF _ _ _ _ _ _ _ _ _ | refine Le.bind ?_ ?_ | refine Le.ite ?_ ?_ | refine Le.iter hF ?_ _ | refine Le.gcall ?_ | refine Le.letN ?_ | refine Le.alt2 ?_ ?_ | intro _)
theorem owner_node_results_mono {F F' : Nat} (hF : F ≤ F') : ∀ a0 a1 a2, Le (owner_node_results_S F a0 a1 a2) (owner_node_results_S F' a0 a1 a2) := fun a0 a1 a2 => by
 unfold owner_node_results_S
 repeat' (first | exact Le.rfl _ | exact owner_learn_mono hF _ _ _ | exact owner_node_isFull_mono hF _ _ _ _ | exact slices_Contains_mono hF _ _ | exact slices_ContainsFunc87_mono hF _ _ _ _ _ _ _ _ _ | refine Le.bind ?_ ?_ | refine Le.ite ?_ ?_ | refine Le.iter hF ?_ _ | refine Le.gcall ?_ | refine Le.letN ?_ | refine Le.alt2 ?_ ?_ | intro _)
theorem owner_Hear_mono {F F' : Nat} (hF : F ≤ F') : ∀ a0 a1, Le (owner_Hear_S F a0 a1) (owner_Hear_S F' a0 a1) := fun a0 a1 => by
 unfold owner_Hear_S
 repeat' (first | exact Le.rfl _ | exact owner_node_results_mono hF _ _ _ | exact owner_node_sets_mono hF _ _ _ | exact owner_node_states_mono hF _ _ _ | refine Le.bind ?_ ?_ | refine Le.ite ?_ ?_ | refine Le.iter hF ?_ _ | refine Le.gcall ?_ | refine Le.letN ?_ | refine Le.alt2 ?_ ?_ | intro _)
theorem owner_isReady_mono {F F' : Nat} (hF : F ≤ F') : ∀ a0 a1, Le (owner_isReady_S F a0 a1) (owner_isReady_S F' a0 a1) := fun a0 a1 => by
 unfold owner_isReady_S
 repeat' (first | exact Le.rfl _ | exact owner_texts_mono hF _ _ | exact slices_Contains51_mono hF _ _ | refine Le.bind ?_ ?_ | refine Le.ite ?_ ?_ | refine Le.iter hF ?_ _ | refine Le.gcall ?_ | refine Le.letN ?_ | refine Le.alt2 ?_ ?_ | intro _)
theorem owner_Ready_mono {F F' : Nat} (hF : F ≤ F') : ∀ a0, Le (owner_Ready_S F a0) (owner_Ready_S F' a0) := fun a0 => by
 unfold owner_Ready_S
 repeat' (first | exact Le.rfl _ | exact owner_isReady_mono hF _ _ | refine Le.bind ?_ ?_ | refine Le.ite ?_ ?_ | refine Le.iter hF ?_ _ | refine Le.gcall ?_ | refine Le.letN ?_ | refine Le.alt2 ?_ ?_ | intro _)
theorem slices_Clone53_mono {F F' : Nat} (hF : F ≤ F') : ∀ a0, Le (slices_Clone53_S F a0) (slices_Clone53_S F' a0) := fun a0 => by
 unfold slices_Clone53_S
 repeat' (first | exact Le.rfl _ | refine Le.bind ?_ ?_ | refine Le.ite ?_ ?_ | refine Le.iter hF ?_ _ | refine Le.gcall ?_ | refine Le.letN ?_ | refine Le.alt2 ?_ ?_ | intro _)
theorem owner_Answer_mono {F F' : Nat} (hF : F ≤ F') : ∀ a0 a1 a2, Le (owner_Answer_S F a0 a1 a2) (owner_Answer_S F' a0 a1 a2) := fun a0 a1 a2 => by
 unfold owner_Answer_S
 repeat' (first | exact Le.rfl _ | exact owner_isReady_mono hF _ _ | exact owner_learn_mono hF _ _ _ | exact owner_node_of_mono hF _ _ _ _ | exact owner_node_of_v_mono hF _ _ _ _ | exact owner_node_send_mono hF _ _ _ | exact owner_texts_mono hF _ _ | exact slices_Clone_mono hF _ | exact slices_Clone53_mono hF _ | exact slices_Contains51_mono hF _ _ | refine Le.bind ?_ ?_ | refine Le.ite ?_ ?_ | refine Le.iter hF ?_ _ | refine Le.gcall ?_ | refine Le.letN ?_ | refine Le.alt2 ?_ ?_ | intro _)
theorem skewbackref35_Same_mono {F F' : Nat} (hF : F ≤ F') : ∀ a0 a1, Le (skewbackref35_Same_S F a0 a1) (skewbackref35_Same_S F' a0 a1) := fun a0 a1 => by
 unfold skewbackref35_Same_S
 repeat' (first | exact Le.rfl _ | refine Le.bind ?_ ?_ | refine Le.ite ?_ ?_ | refine Le.iter hF ?_ _ | refine Le.gcall ?_ | refine Le.letN ?_ | refine Le.alt2 ?_ ?_ | intro _)
theorem skewbackref44_SameTasks_mono {F F' : Nat} (hF : F ≤ F') : ∀ a0 a1, Le (skewbackref44_SameTasks_S F a0 a1) (skewbackref44_SameTasks_S F' a0 a1) := fun a0 a1 => by
 unfold skewbackref44_SameTasks_S
 repeat' (first | exact Le.rfl _ | exact skewbackref35_Same_mono hF _ _ | refine Le.bind ?_ ?_ | refine Le.ite ?_ ?_ | refine Le.iter hF ?_ _ | refine Le.gcall ?_ | refine Le.letN ?_ | refine Le.alt2 ?_ ?_ | intro _)
theorem owner_Finished_mono {F F' : Nat} (hF : F ≤ F') : ∀ a0, Le (owner_Finished_S F a0) (owner_Finished_S F' a0) := fun a0 => by
 unfold owner_Finished_S
 repeat' (first | exact Le.rfl _ | exact slices_Contains_mono hF _ _ | refine Le.bind ?_ ?_ | refine Le.ite ?_ ?_ | refine Le.iter hF ?_ _ | refine Le.gcall ?_ | refine Le.letN ?_ | refine Le.alt2 ?_ ?_ | intro _)
theorem skewbacklaw44_sanity_mono {F F' : Nat} (hF : F ≤ F') : Le (skewbacklaw44_sanity_S F ) (skewbacklaw44_sanity_S F' ) := by
 unfold skewbacklaw44_sanity_S
 repeat' (first | exact Le.rfl _ | exact owner_Answer_mono hF _ _ _ | exact owner_Begin_mono hF _ _ _ _ _ _ | exact owner_Finished_mono hF _ | exact owner_Hear_mono hF _ _ | exact owner_Reach_mono hF _ _ _ | exact owner_Ready_mono hF _ | exact owner_Tasks_mono hF _ _ | exact skewbackref44_SameTasks_mono hF _ _ | refine Le.bind ?_ ?_ | refine Le.ite ?_ ?_ | refine Le.iter hF ?_ _ | refine Le.gcall ?_ | refine Le.letN ?_ | refine Le.alt2 ?_ ?_ | intro _)
theorem skewbackref44_sameBools_mono {F F' : Nat} (hF : F ≤ F') : ∀ a0 a1, Le (skewbackref44_sameBools_S F a0 a1) (skewbackref44_sameBools_S F' a0 a1) := fun a0 a1 => by
 unfold skewbackref44_sameBools_S
 repeat' (first | exact Le.rfl _ | refine Le.bind ?_ ?_ | refine Le.ite ?_ ?_ | refine Le.iter hF ?_ _ | refine Le.gcall ?_ | refine Le.letN ?_ | refine Le.alt2 ?_ ?_ | intro _)
theorem skewbackref35_SameSets_mono {F F' : Nat} (hF : F ≤ F') : ∀ a0 a1, Le (skewbackref35_SameSets_S F a0 a1) (skewbackref35_SameSets_S F' a0 a1) := fun a0 a1 => by
 unfold skewbackref35_SameSets_S
 repeat' (first | exact Le.rfl _ | exact skewbackref35_Same_mono hF _ _ | refine Le.bind ?_ ?_ | refine Le.ite ?_ ?_ | refine Le.iter hF ?_ _ | refine Le.gcall ?_ | refine Le.letN ?_ | refine Le.alt2 ?_ ?_ | intro _)
theorem skewbackref44_sameTexts_mono {F F' : Nat} (hF : F ≤ F') : ∀ a0 a1, Le (skewbackref44_sameTexts_S F a0 a1) (skewbackref44_sameTexts_S F' a0 a1) := fun a0 a1 => by
 unfold skewbackref44_sameTexts_S
 repeat' (first | exact Le.rfl _ | refine Le.bind ?_ ?_ | refine Le.ite ?_ ?_ | refine Le.iter hF ?_ _ | refine Le.gcall ?_ | refine Le.letN ?_ | refine Le.alt2 ?_ ?_ | intro _)
theorem skewbackref44_SameRound_mono {F F' : Nat} (hF : F ≤ F') : ∀ a0 a1, Le (skewbackref44_SameRound_S F a0 a1) (skewbackref44_SameRound_S F' a0 a1) := fun a0 a1 => by
 unfold skewbackref44_SameRound_S
 repeat' (first | exact Le.rfl _ | exact skewbackref35_Same_mono hF _ _ | exact skewbackref35_SameSets_mono hF _ _ | exact skewbackref44_SameTasks_mono hF _ _ | exact skewbackref44_sameBools_mono hF _ _ | exact skewbackref44_sameTexts_mono hF _ _ | refine Le.bind ?_ ?_ | refine Le.ite ?_ ?_ | refine Le.iter hF ?_ _ | refine Le.gcall ?_ | refine Le.letN ?_ | refine Le.alt2 ?_ ?_ | intro _)
end Go.Proofs.Ytnpddoaeoefcnaa

namespace Go.Proofs.Ytnpddoaeoefcnaa
open Go Go.Sk
set_option linter.unusedVariables false
set_option linter.unusedSimpArgs false
theorem Yld.pass {τ : Type} {A : Int → Option (Int ⊕ τ)} {g : τ} {N st : Int} {F : Nat} {Q : τ → Prop} (h0 : 0 ≤ st) (hN : N ≤ 1000000000) (hF : (N - st).toNat < F) (h : ∀ k, st ≤ k → k < N → A k = Option.some (.inl (IntKind.i64.wrap (k + 1)))) (hq : Q g) : Yld (iter F (fun i => if decide (i < N) = true then A i else Option.some (.inr g)) st) Q := by
 refine Yld.rounds (n := (N - st).toNat) (I := fun k s => s = st + (k : Int)) hF (by simp) ?_
 rintro k s hk rfl
 refine Yld.ite (fun hc => ?_) fun hc => ?_
 ·have hc := of_decide_eq_true hc
  rw [h _ (by omega) hc]
  refine Yld.some (.inl ⟨_, rfl, ?_, by omega⟩)
  rw [wi64' (by omega) (by omega)]; push_cast; omega
 ·exact Yld.some (.inr ⟨_, rfl, hq⟩)
theorem idx_set {α : Type} [Inhabited α] {l : List α} {i j : Int} {x : α} (h0 : 0 ≤ i) (h1 : i < l.length) (h2 : 0 ≤ j) : idx (l.set i.toNat x) j = if j = i then x else idx l j := by
 unfold idx
 rw [List.getD_eq_getElem?_getD, List.getD_eq_getElem?_getD, List.getElem?_set]
 by_cases e : j = i
 ·subst e; rw [if_pos rfl, if_pos (by omega), if_pos rfl]; rfl
 ·rw [if_neg (by omega), if_neg e]
theorem few_F {F : Nat} {L : List (List Int)} (hF : L.length < F) (hm : L.length ≤ 9223372036854775807) : Yld (skewbacklaw44_few_S F L) fun r => (r = true → L.length ≤ 30 ∧ ∀ c ∈ L, c.length ≤ 8) := by
 unfold skewbacklaw44_few_S
 refine Yld.bind (P := fun o : Unit ⊕ Bool => (o = .inl () ∧ ∀ c ∈ L, c.length ≤ 8) ∨ o = .inr false) ?_ ?_
 ·refine Yld.find (c := fun c : List Int => decide (8 < (c.length : Int))) (r := fun _ => false) hF hm (fun h => .inl ⟨rfl, fun c hc => by have := of_decide_eq_false (h c hc); omega⟩) (fun pre x post e _ hc => .inr rfl) fun i x hx => by rw [hx]; rfl
 ·rintro o (⟨rfl, h⟩ | rfl)
  ·exact Yld.some fun hh => ⟨by have := of_decide_eq_true hh; omega, h⟩
  ·exact Yld.some (by simp)
theorem flat8 : ∀ {L : List (List Int)}, (∀ c ∈ L, c.length ≤ 8) → L.flatten.length ≤ 8 * L.length
 | [], _ => by simp
 | c :: L, h => by
  have := flat8 (L := L) fun d hd => h d (List.mem_cons_of_mem _ hd)
  have := h c (List.mem_cons_self ..)
  simp only [List.flatten_cons, List.length_append, List.length_cons]; omega
theorem sanity_F {F : Nat} (h : 2000 ≤ F) : skewbacklaw44_sanity_S F = some true := skewbacklaw44_sanity_mono h _ sanity_ok
end Go.Proofs.Ytnpddoaeoefcnaa

namespace Go.Proofs.Ytnpddoaeoefcnaa
open Go Go.Sk
set_option linter.unusedVariables false
set_option linter.unusedSimpArgs false
def ofL (h l : List Int) (g : Int) : List Int := l.filter fun b => decide (idx h b = g)
def pick (s : List Str) (l : List Int) : List Str := l.map fun b => idx s b
def whole (l : List Bool) : Bool := l.all fun b => b
def learn1 (o : List Str) (p : Int × Str) : List Str := if idx o p.1 = [] then o.set p.1.toNat p.2 else o
def learn (old : List Str) (bodies : List Int) (states : List Str) : List Str := (bodies.zip states).foldl learn1 old
def hsdB (h : List Int) (L : List (List Int)) : Bool := L.all fun c => c.all fun a => decide (0 ≤ a ∧ a < h.length ∧ 0 ≤ idx h a)
theorem hsdB_iff {h : List Int} {L : List (List Int)} : hsdB h L = true ↔ Hsd h L := by
 unfold hsdB Hsd; simp only [List.all_eq_true, decide_eq_true_eq]
def letter (r : Round) (t : Task) : Option Notice :=
 if t.Owner ≠ r.Me ∧ 0 < (ofL r.Home t.Bodies r.Me).length then some ⟨2, r.Step, r.Me, t.Owner, [], ofL r.Home t.Bodies r.Me, pick r.States (ofL r.Home t.Bodies r.Me)⟩ else none
def letters (r : Round) (T : List Task) : List Notice := T.filterMap (letter r)
def plan (r : Round) (out : List Notice) : Round × List Notice :=
 if whole r.Heard then ({ r with Tasks := tks r.Home r.Sets, Done := List.replicate (tks r.Home r.Sets).length false }, out ++ letters r (tks r.Home r.Sets)) else (r, out)
def isFull (l : Notice) (g : Int) (r : Round) : Bool := decide (l.Sets.length = 0) && decide (l.States.length = l.Bodies.length) && !(l.States.contains []) && hsdB r.Home [l.Bodies] && decide ((ofL r.Home l.Bodies g).length = l.Bodies.length)
def big (l : Notice) : Bool := decide (0 < IntKind.i64.wrap ((l.Bodies.length : Int) + l.States.length))
def hearSets (r : Round) (l : Notice) : Round × List Notice :=
 if (idx r.Heard l.From || big l) || !hsdB r.Home l.Sets then (r, []) else plan { r with Heard := r.Heard.set l.From.toNat true, Sets := mg (r.Sets ++ l.Sets) } []
def hearStates (r : Round) (l : Notice) : Round := if isFull l l.From r then { r with States := learn r.States l.Bodies l.States } else r
def solvedB (T : List Task) (l : List Int) (g : Int) : Bool := l.all fun b => T.any fun t => decide (t.Owner = g) && t.Bodies.contains b
def hearResults (r : Round) (l : Notice) : Round :=
 if !isFull l r.Me r || !whole r.Heard then r else if solvedB r.Tasks l.Bodies l.From then { r with Results := learn r.Results l.Bodies l.States } else r
def ours (r : Round) (l : Notice) : Bool := (((decide (l.To ≠ r.Me) || decide (l.Step ≠ r.Step)) || decide (l.From = r.Me)) || decide (l.From < 0)) || decide (r.Regions ≤ l.From)
def hear (r : Round) (l : Notice) : Round × List Notice :=
 if ours r l then (r, []) else if l.Kind = 1 then hearSets r l else if l.Kind = 2 then (hearStates r l, []) else if l.Kind = 3 then (hearResults r l, []) else (r, [])
structure Wf (r : Round) : Prop where
 hl : r.Home.length ≤ 40
 hs : Homes r.Home r.Regions
 reg : 1 ≤ r.Regions ∧ r.Regions ≤ 16
 me : 0 ≤ r.Me ∧ r.Me < r.Regions
 heard : (r.Heard.length : Int) = r.Regions
 sets : Hsd r.Home r.Sets
 sl : r.Sets.length ≤ 40
 sf : r.Sets.flatten.length ≤ 40
 st : r.States.length = r.Home.length
 re : r.Results.length = r.Home.length
 dn : r.Done.length = r.Tasks.length
 tsk : r.Tasks = if whole r.Heard then tks r.Home r.Sets else []
structure Lk (l : Notice) : Prop where
 b : l.Bodies.length ≤ 40
 s : l.Sets.length ≤ 30
 c : ∀ c ∈ l.Sets, c.length ≤ 8
theorem learn1_len (o : List Str) (p : Int × Str) : (learn1 o p).length = o.length := by unfold learn1; split <;> simp
theorem learn_len (old : List Str) (b : List Int) (s : List Str) : (learn old b s).length = old.length := by
 unfold learn
 generalize b.zip s = z
 induction z generalizing old with
 | nil => rfl
 | cons p z ih => rw [List.foldl_cons, ih, learn1_len]
theorem flat_nodup {s : List (List Int)} (hd : s.Pairwise fun c d => ∀ z ∈ c, z ∉ d) (ha : ∀ c ∈ s, Asd c) : s.flatten.Nodup := by
 induction s with
 | nil => simp
 | cons c s ih =>
  have h1 := List.pairwise_cons.1 hd
  rw [List.flatten_cons, List.nodup_append]
  refine ⟨asd_nodup (ha c (List.mem_cons_self ..)), ih h1.2 fun d hd => ha d (List.mem_cons_of_mem _ hd), fun a hac b hb e => ?_⟩
  obtain ⟨d, hd, hbd⟩ := List.mem_flatten.1 hb
  exact h1.1 d hd a hac (e ▸ hbd)
theorem mg_flat {h : List Int} {L : List (List Int)} (hz : Sz L) (hs : Hsd h L) : (mg L).flatten.length ≤ h.length ∧ (mg L).length ≤ h.length := by
 have hp := (mg_some hz).2
 have hm := hsd_mg hz hs
 have hnd : (mg L).flatten.Nodup := flat_nodup hp.dj fun c hc => (hp.asd c hc).2
 have h1 : (mg L).flatten.length ≤ h.length := by
  have := nd_len (m := (List.range h.length).map fun n : Nat => (n : Int)) hnd fun a ha => by
   obtain ⟨c, hc, hac⟩ := List.mem_flatten.1 ha
   obtain ⟨g1, g2, _⟩ := hm c hc a hac
   exact List.mem_map.2 ⟨a.toNat, List.mem_range.2 (by omega), by omega⟩
  simpa using this
 refine ⟨h1, Nat.le_trans ?_ h1⟩
 have : ∀ s : List (List Int), (∀ c ∈ s, c ≠ []) → s.length ≤ s.flatten.length := fun s => by
  induction s with
  | nil => simp
  | cons c s ih =>
   intro hh
   have := ih fun d hd => hh d (List.mem_cons_of_mem _ hd)
   have h2 := List.length_pos_iff.2 (hh c (List.mem_cons_self ..))
   simp only [List.length_cons, List.flatten_cons, List.length_append]; omega
 exact this _ fun c hc => (hp.asd c hc).1
theorem tks_mem {h : List Int} {L : List (List Int)} (hh : h.length ≤ 40) (h1 : L.length ≤ 800) (h2 : L.flatten.length ≤ 800) (hs : Hsd h L) {t : Task} (ht : t ∈ tks h L) :
  (∀ b ∈ t.Bodies, 0 ≤ b ∧ b < h.length ∧ 0 ≤ idx h b) ∧ t.Bodies.length ≤ 40 ∧ t.Helpers.length ≤ 40 ∧ t = mkTask h t.Bodies ∧ t.Bodies ∈ mg (L ++ alone h) := by
 have hz := sz_alone hh h1 h2
 obtain ⟨c, hc, rfl⟩ := List.mem_map.1 ht
 have hsd := hsd_append hs (hsd_alone h)
 have hm := hsd_mg hz hsd c hc
 have hcl : c.length ≤ 40 := by
  have := (mg_flat hz hsd).1
  have h3 : c.length ≤ (mg (L ++ alone h)).flatten.length := by
   have : ∀ s : List (List Int), c ∈ s → c.length ≤ s.flatten.length := fun s => by
    induction s with
    | nil => simp
    | cons d s ih =>
     intro hd
     rcases List.mem_cons.1 hd with rfl | hd
     ·simp
     ·have := ih hd; simp only [List.flatten_cons, List.length_append]; omega
   exact this _ hc
  omega
 have := rs_len h c
 exact ⟨hm, hcl, by show (rs h c).tail.length ≤ 40; rw [List.length_tail]; omega, rfl, hc⟩
theorem tks_len {h : List Int} {L : List (List Int)} (hh : h.length ≤ 40) (h1 : L.length ≤ 800) (h2 : L.flatten.length ≤ 800) (hs : Hsd h L) : (tks h L).length ≤ 40 := by
 unfold tks
 rw [List.length_map]
 have := (mg_flat (sz_alone hh h1 h2) (hsd_append hs (hsd_alone h))).2
 omega
theorem Wf.task {r : Round} (w : Wf r) {t : Task} (ht : t ∈ r.Tasks) : (∀ b ∈ t.Bodies, 0 ≤ b ∧ b < r.Home.length ∧ 0 ≤ idx r.Home b) ∧ t.Bodies.length ≤ 40 ∧ t.Helpers.length ≤ 40 := by
 rw [w.tsk] at ht
 split at ht
 ·have := tks_mem w.hl (by have := w.sl; omega) (by have := w.sf; omega) w.sets ht
  exact ⟨this.1, this.2.1, this.2.2.1⟩
 ·cases ht
theorem Wf.tlen {r : Round} (w : Wf r) : r.Tasks.length ≤ 40 := by
 rw [w.tsk]
 split
 ·exact tks_len w.hl (by have := w.sl; omega) (by have := w.sf; omega) w.sets
 ·simp
theorem of_own {l : List Int} {g : Int} {r : Round} {out : List Notice} (hl : l.length < 2000) (h : ∀ b ∈ l, 0 ≤ b ∧ b < r.Home.length) : owner_node_of_S 2000 l g r out = some (ofL r.Home l g) := by
 refine Yld.eq ?_
 unfold owner_node_of_S
 refine Yld.bind ?_ fun o ho => Yld.some ho
 refine Yld.ea2 (I := fun pre s => s = ofL r.Home pre g) hl (by omega) rfl ?_ fun s h => h
 rintro pre x post s e hx rfl
 obtain ⟨g1, g2⟩ := h x (by rw [e]; simp)
 have hpl : (ofL r.Home pre g).length ≤ l.length := Nat.le_trans (List.length_filter_le _ _) (by rw [e]; simp)
 refine Yld.bind (P := fun s => s = ofL r.Home (pre ++ [x]) g) ?_ fun s h => Yld.some (.inl ⟨_, rfl, h⟩)
 have ef : ofL r.Home (pre ++ [x]) g = ofL r.Home pre g ++ if decide (idx r.Home x = g) then [x] else [] := by
  unfold ofL; rw [List.filter_append]; simp only [List.filter_cons, List.filter_nil]
 rw [ef]
 refine Yld.bindE hx (Yld.idx g1 g2 (Yld.ite (fun hc => ?_) fun hc => ?_))
 ·exact Yld.app (by simp only [List.length_singleton]; omega) (Yld.some (by rw [hc]; rfl))
 ·exact Yld.some (by rw [hc]; simp)
theorem texts_own {s : List Str} {l : List Int} (hl : l.length < 2000) (h : ∀ b ∈ l, 0 ≤ b ∧ b < s.length) : owner_texts_S 2000 s l = some (pick s l) := by
 refine Yld.eq ?_
 unfold owner_texts_S
 refine Yld.bind ?_ fun o ho => Yld.some ho
 refine Yld.ea2 (I := fun pre o => o = pick s pre) hl (by omega) rfl ?_ fun s h => h
 rintro pre x post o e hx rfl
 obtain ⟨g1, g2⟩ := h x (by rw [e]; simp)
 have hpl : pre.length < l.length := by rw [e]; simp
 exact Yld.bindE hx (Yld.idx g1 g2 (Yld.app (by simp only [pick, List.length_map, List.length_singleton]; omega) (Yld.some (.inl ⟨_, rfl, by simp [pick]⟩))))
theorem mem_ofL {h l : List Int} {g b : Int} : b ∈ ofL h l g ↔ b ∈ l ∧ idx h b = g := by simp [ofL]
theorem ofL_len (h l : List Int) (g : Int) : (ofL h l g).length ≤ l.length := List.length_filter_le _ _
theorem contains_own {l : List Bool} (hl : l.length < 2000) : slices_Contains_S 2000 l false = some (!whole l) := by
 refine Yld.eq ?_
 unfold slices_Contains_S slices_Index_S
 refine Yld.bind (P := fun z : Int => (0 ≤ z ↔ whole l = false)) ?_ fun z hz => Yld.some ?_
 ·refine Yld.bind (P := fun o : Unit ⊕ Int => (o = .inl () ∧ whole l = true) ∨ ∃ k, o = .inr k ∧ 0 ≤ k ∧ whole l = false) ?_ ?_
  ·refine Yld.ea1 (fun pre => ∀ b ∈ pre, b = true) hl (by omega) (by simp) (fun pre x post e hx hI => ?_) fun h => .inl ⟨rfl, by simpa [whole] using h⟩
   refine Yld.bindE hx (Yld.ite (fun h => ?_) fun h => ?_)
   ·have : x = false := by simpa using h
    exact Yld.some (.inr ⟨_, rfl, .inr ⟨_, rfl, by omega, by rw [e, this]; simp [whole]⟩⟩)
   ·have : x = true := by simpa using h
    refine Yld.some (.inl ⟨rfl, fun b hb => ?_⟩)
    rcases List.mem_append.1 hb with hb | hb
    ·exact hI b hb
    ·rw [List.mem_singleton.1 hb]; exact this
  ·rintro o (⟨rfl, h⟩ | ⟨k, rfl, h0, h⟩)
   ·exact Yld.some (by rw [h]; simp)
   ·exact Yld.some (by simp [h, h0])
 ·cases hw : whole l with
  | false => simpa using hz.2 hw
  | true =>
   have : ¬ 0 ≤ z := fun h0 => by rw [hz.1 h0] at hw; cases hw
   simpa using this
theorem send_own {l : Notice} {r : Round} {out : List Notice} (h : out.length < 1000000) : owner_node_send_S 2000 l r out = some (out ++ [⟨l.Kind, r.Step, r.Me, l.To, l.Sets, l.Bodies, l.States⟩]) := by
 unfold owner_node_send_S
 rw [app?_eq (by simp only [List.length_singleton]; omega)]; rfl
theorem plan_own {r : Round} {out : List Notice} (hh : r.Home.length ≤ 40) (h1 : r.Sets.length ≤ 800) (h2 : r.Sets.flatten.length ≤ 800) (hs : Hsd r.Home r.Sets) (hd : r.Heard.length < 2000) (hst : r.States.length = r.Home.length) (ho : out.length < 1000) :
  owner_node_plan_S 2000 r out = some (plan r out) := by
 refine Yld.eq ?_
 unfold owner_node_plan_S plan
 refine Yld.bindE (contains_own hd) ?_
 cases hw : whole r.Heard with
 | false => exact Yld.ift rfl (Yld.some (by simp))
 | true =>
 refine Yld.iff rfl (Yld.bindE (own_tasks hh h1 h2 hs) ?_)
 have hl := tks_len hh h1 h2 hs
 refine Yld.bindE (x := List.replicate (tks r.Home r.Sets).length false) (by unfold mk?; rw [if_pos (by omega)]; rfl) ?_
 refine Yld.bind (P := (· = out ++ letters r (tks r.Home r.Sets))) ?_ fun o ho => Yld.some (by rw [ho]; simp)
 refine Yld.ea2 (I := fun pre s => s = out ++ letters r pre) (by omega) (by omega) (by simp [letters]) ?_ fun s h => h
 rintro pre t post s e hx rfl
 have ht : t ∈ tks r.Home r.Sets := by rw [e]; simp
 obtain ⟨b1, b2, _⟩ := tks_mem hh h1 h2 hs ht
 have hpl : pre.length < (tks r.Home r.Sets).length := by rw [e]; simp
 have hll : (letters r pre).length ≤ pre.length := List.length_filterMap_le _ _
 refine Yld.bind (P := fun s => s = out ++ letters r (pre ++ [t])) ?_ fun s h => Yld.some (.inl ⟨_, rfl, h⟩)
 have el : letters r (pre ++ [t]) = letters r pre ++ (letter r t).toList := by
  unfold letters; rw [List.filterMap_append]
  cases hlt : letter r t <;> simp [hlt]
 rw [el]
 refine Yld.bindE hx (Yld.bindE (of_own (by omega) fun b hb => ⟨(b1 b hb).1, (b1 b hb).2.1⟩) ?_)
 refine Yld.ite (fun hc => ?_) fun hc => ?_
 ·have hc' : t.Owner ≠ r.Me ∧ 0 < (ofL r.Home t.Bodies r.Me).length := by
   simp only [Bool.and_eq_true, decide_eq_true_eq] at hc
   exact ⟨hc.1, by omega⟩
  have hol := ofL_len r.Home t.Bodies r.Me
  refine Yld.bindE (texts_own (s := r.States) (l := ofL r.Home t.Bodies r.Me) (by omega) fun b hb => ?_) (Yld.bindE (send_own (by rw [List.length_append]; omega)) (Yld.some ?_))
  ·have := b1 b (mem_ofL.1 hb).1
   exact ⟨this.1, by omega⟩
  ·unfold letter; rw [if_pos hc']; simp
 ·have hc' : ¬ (t.Owner ≠ r.Me ∧ 0 < (ofL r.Home t.Bodies r.Me).length) := by
   intro h
   simp only [Bool.and_eq_false_iff, decide_eq_false_iff_not] at hc
   rcases hc with hc | hc
   ·exact hc h.1
   ·exact hc (by omega)
  refine Yld.some ?_
  unfold letter; rw [if_neg hc']; simp
theorem containsS_own {l : List Str} (hl : l.length < 2000) : slices_Contains51_S 2000 l [] = some (l.contains []) := by
 refine Yld.eq ?_
 unfold slices_Contains51_S slices_Index85_S
 refine Yld.bind (P := fun z : Int => (0 ≤ z ↔ ([] : Str) ∈ l)) ?_ fun z hz => Yld.some ?_
 ·refine Yld.bind (P := fun o : Unit ⊕ Int => (o = .inl () ∧ ([] : Str) ∉ l) ∨ ∃ k, o = .inr k ∧ 0 ≤ k ∧ ([] : Str) ∈ l) ?_ ?_
  ·refine Yld.ea1 (fun pre => ([] : Str) ∉ pre) hl (by omega) (by simp) (fun pre x post e hx hI => ?_) fun h => .inl ⟨rfl, h⟩
   refine Yld.bindE hx (Yld.ite (fun h => ?_) fun h => ?_)
   ·have : ([] : Str) = x := of_decide_eq_true h
    exact Yld.some (.inr ⟨_, rfl, .inr ⟨_, rfl, by omega, by rw [e, ← this]; simp⟩⟩)
   ·have : ¬ ([] : Str) = x := of_decide_eq_false h
    exact Yld.some (.inl ⟨rfl, by simp only [List.mem_append, List.mem_singleton, not_or]; exact ⟨hI, this⟩⟩)
  ·rintro o (⟨rfl, h⟩ | ⟨k, rfl, h0, h⟩)
   ·exact Yld.some (by simp [h])
   ·exact Yld.some (by simp [h, h0])
 ·simp only [List.contains_eq_mem]
  exact decide_eq_decide.2 hz
theorem isFull_own {l : Notice} {g : Int} {r : Round} {out : List Notice} (hb : l.Bodies.length ≤ 40) : owner_node_isFull_S 2000 l g r out = some (isFull l g r) := by
 refine Yld.eq ?_
 unfold owner_node_isFull_S isFull
 have e1 : decide ((l.Sets.length : Int) = 0) = decide (l.Sets.length = 0) := decide_eq_decide.2 (by omega)
 have e2 : decide ((l.States.length : Int) = (l.Bodies.length : Int)) = decide (l.States.length = l.Bodies.length) := decide_eq_decide.2 (by omega)
 rw [e1, e2]
 by_cases h1 : l.Sets.length = 0
 rotate_left
 ·rw [decide_eq_false h1]
  exact Yld.g0 rfl (Yld.g0 rfl (Yld.g0 rfl (Yld.some rfl)))
 rw [decide_eq_true h1]
 by_cases h2 : l.States.length = l.Bodies.length
 rotate_left
 ·rw [decide_eq_false h2]
  exact Yld.g0 rfl (Yld.g0 rfl (Yld.g0 rfl (Yld.some rfl)))
 rw [decide_eq_true h2]
 refine Yld.g1 rfl (Yld.bindE (containsS_own (by omega)) ?_)
 cases h3 : l.States.contains [] with
 | true => exact Yld.g0 rfl (Yld.g0 rfl (Yld.some rfl))
 | false =>
 obtain ⟨q, eq, hq⟩ := isHoused_ok (h := r.Home) (L := [l.Bodies]) (by simp) (fun c hc => by rw [List.mem_singleton.1 hc]; omega)
 have : q = hsdB r.Home [l.Bodies] := by
  cases hb : hsdB r.Home [l.Bodies] with
  | true => exact hq.2 (hsdB_iff.1 hb)
  | false =>
   cases q with
   | false => rfl
   | true => rw [hsdB_iff.2 (hq.1 rfl)] at hb; cases hb
 refine Yld.g1 rfl (Yld.bindE eq ?_)
 rw [this]
 cases h4 : hsdB r.Home [l.Bodies] with
 | false => exact Yld.g0 rfl (Yld.some rfl)
 | true =>
  have h5 := hsdB_iff.1 h4 l.Bodies (by simp)
  refine Yld.g1 rfl (Yld.bindE (of_own (by omega) fun b hb => ⟨(h5 b hb).1, (h5 b hb).2.1⟩) (Yld.some ?_))
  simp
  omega
theorem cpyE_rep {old : List Str} : cpyE (List.replicate old.length ([] : Str)) old = old := by
 simp [cpyE]
theorem learn_own {old : List Str} {b : List Int} {s : List Str} (hb : b.length < 2000) (ho : old.length ≤ 1000) (hl : s.length = b.length) (h : ∀ x ∈ b, 0 ≤ x ∧ x < old.length) : owner_learn_S 2000 old b s = some (learn old b s) := by
 refine Yld.eq ?_
 unfold owner_learn_S
 refine Yld.bindE (x := List.replicate old.length []) (by unfold mk?; rw [if_pos (by omega)]; rfl) (Yld.bind ?_ fun o ho => Yld.some ho)
 rw [cpyE_rep]
 refine Yld.ea2 (I := fun pre o => o = learn old pre (s.take pre.length)) hb (by omega) (by simp [learn]) ?_ fun o h => by rw [h, ← hl, List.take_length]
 rintro pre x post o e hx rfl
 obtain ⟨g1, g2⟩ := h x (by rw [e]; simp)
 have hpl : pre.length < b.length := by rw [e]; simp
 have hsl : pre.length < s.length := by omega
 have es : learn old (pre ++ [x]) (s.take (pre ++ [x]).length) = learn1 (learn old pre (s.take pre.length)) (x, s[pre.length]) := by
  unfold learn
  rw [List.length_append, List.length_singleton, List.take_succ_eq_append_getElem hsl, List.zip_append (by rw [List.length_take]; omega), List.foldl_append]
  rfl
 refine Yld.bind (P := fun o => o = learn old (pre ++ [x]) (s.take (pre ++ [x]).length)) ?_ fun o h => Yld.some (.inl ⟨_, rfl, h⟩)
 rw [es]
 have hll := learn_len old pre (s.take pre.length)
 refine Yld.bindE hx (Yld.idx g1 (by omega) (Yld.ite (fun hc => ?_) fun hc => ?_))
 ·have hc := of_decide_eq_true hc
  refine Yld.idx (by omega) (by omega) (Yld.idx g1 (by omega) (Yld.some ?_))
  unfold learn1; rw [if_pos hc, idx_nat _ _ hsl]
 ·have hc := of_decide_eq_false hc
  refine Yld.some ?_
  unfold learn1; rw [if_neg hc]
theorem isFull_iff {l : Notice} {g : Int} {r : Round} : isFull l g r = true ↔ l.Sets = [] ∧ l.States.length = l.Bodies.length ∧ ([] : Str) ∉ l.States ∧ (∀ a ∈ l.Bodies, 0 ≤ a ∧ a < r.Home.length ∧ idx r.Home a = g ∧ 0 ≤ g) := by
 unfold isFull
 simp only [Bool.and_eq_true, decide_eq_true_eq, Bool.not_eq_true', List.length_eq_zero_iff, hsdB_iff, List.contains_eq_mem, decide_eq_false_iff_not]
 constructor
 ·rintro ⟨⟨⟨⟨h1, h2⟩, h3⟩, h4⟩, h5⟩
  refine ⟨h1, h2, h3, fun a ha => ?_⟩
  have h6 := h4 l.Bodies (by simp) a ha
  have h7 : idx r.Home a = g := by simpa using List.length_filter_eq_length_iff.1 h5 a ha
  exact ⟨h6.1, h6.2.1, h7, by rw [← h7]; exact h6.2.2⟩
 ·rintro ⟨h1, h2, h3, h4⟩
  refine ⟨⟨⟨⟨h1, h2⟩, h3⟩, fun c hc a ha => ?_⟩, ?_⟩
  ·rw [List.mem_singleton.1 hc] at ha
   obtain ⟨g1, g2, g3, g4⟩ := h4 a ha
   exact ⟨g1, g2, by rw [g3]; exact g4⟩
  ·exact List.length_filter_eq_length_iff.2 fun a ha => by simpa using (h4 a ha).2.2.1
theorem states_own {l : Notice} {r : Round} {out : List Notice} (w : Wf r) (k : Lk l) : owner_node_states_S 2000 l r out = some (hearStates r l) := by
 refine Yld.eq ?_
 unfold owner_node_states_S hearStates
 refine Yld.bindE (isFull_own k.b) (Yld.ite (fun h => ?_) fun h => Yld.some (by rw [h]; simp))
 obtain ⟨h1, h2, h3, h4⟩ := isFull_iff.1 h
 refine Yld.bindE (learn_own (by have := k.b; omega) (by have := w.st; have := w.hl; omega) h2 fun x hx => ?_) (Yld.some (by rw [h]; simp))
 have := h4 x hx; have := w.st; omega
theorem containsI_own {l : List Int} {n : Int} (hl : l.length < 2000) : slices_Contains89_S 2000 l n = some (l.contains n) := by
 refine Yld.eq ?_
 unfold slices_Contains89_S slices_Index97_S
 refine Yld.bind (P := fun z : Int => (0 ≤ z ↔ n ∈ l)) ?_ fun z hz => Yld.some ?_
 ·refine Yld.bind (P := fun o : Unit ⊕ Int => (o = .inl () ∧ n ∉ l) ∨ ∃ k, o = .inr k ∧ 0 ≤ k ∧ n ∈ l) ?_ ?_
  ·refine Yld.ea1 (fun pre => n ∉ pre) hl (by omega) (by simp) (fun pre x post e hx hI => ?_) fun h => .inl ⟨rfl, h⟩
   refine Yld.bindE hx (Yld.ite (fun h => ?_) fun h => ?_)
   ·have : n = x := of_decide_eq_true h
    exact Yld.some (.inr ⟨_, rfl, .inr ⟨_, rfl, by omega, by rw [e, ← this]; simp⟩⟩)
   ·have : ¬ n = x := of_decide_eq_false h
    exact Yld.some (.inl ⟨rfl, by simp only [List.mem_append, List.mem_singleton, not_or]; exact ⟨hI, this⟩⟩)
  ·rintro o (⟨rfl, h⟩ | ⟨k, rfl, h0, h⟩)
   ·exact Yld.some (by simp [h])
   ·exact Yld.some (by simp [h, h0])
 ·simp only [List.contains_eq_mem]
  exact decide_eq_decide.2 hz
theorem solved1_own {T : List Task} {l : Notice} {b : Int} (hT : T.length < 2000) (hb : ∀ t ∈ T, t.Bodies.length < 2000) : slices_ContainsFunc87_S 2000 T l.Kind l.Step l.From l.To l.Sets l.Bodies l.States b = some (T.any fun t => decide (t.Owner = l.From) && t.Bodies.contains b) := by
 refine Yld.eq ?_
 unfold slices_ContainsFunc87_S slices_IndexFunc96_S
 have h1 : ∀ t ∈ T, owner_node_results_1_S 2000 t l.Kind l.Step l.From l.To l.Sets l.Bodies l.States b = some (decide (t.Owner = l.From) && t.Bodies.contains b) := fun t ht => by
  refine Yld.eq ?_
  unfold owner_node_results_1_S
  cases decide (t.Owner = l.From) with
  | false => exact Yld.g0 rfl (Yld.some rfl)
  | true => exact Yld.g1 rfl (Yld.bindE (containsI_own (hb t ht)) (Yld.some rfl))
 refine Yld.bind (P := fun z : Int => (0 ≤ z ↔ (T.any fun t => decide (t.Owner = l.From) && t.Bodies.contains b) = true)) ?_ fun z hz => Yld.some ?_
 ·refine Yld.bind (P := fun o : Unit ⊕ Int => (o = .inl () ∧ ¬ (T.any fun t => decide (t.Owner = l.From) && t.Bodies.contains b) = true) ∨ ∃ k, o = .inr k ∧ 0 ≤ k ∧ (T.any fun t => decide (t.Owner = l.From) && t.Bodies.contains b) = true) ?_ ?_
  ·refine Yld.ea1 (fun pre => ∀ t ∈ pre, ¬ (decide (t.Owner = l.From) && t.Bodies.contains b) = true) hT (by omega) (by simp) (fun pre x post e hx hI => ?_) fun h => .inl ⟨rfl, fun hh => by obtain ⟨t, ht, h'⟩ := List.any_eq_true.1 hh; exact h t ht h'⟩
   have hxm : x ∈ T := by rw [e]; simp
   refine Yld.bindE hx (Yld.bindE (h1 x hxm) (Yld.ite (fun h => ?_) fun h => ?_))
   ·exact Yld.some (.inr ⟨_, rfl, .inr ⟨_, rfl, by omega, List.any_eq_true.2 ⟨x, hxm, h⟩⟩⟩)
   ·refine Yld.some (.inl ⟨rfl, fun t ht => ?_⟩)
    rcases List.mem_append.1 ht with ht | ht
    ·exact hI t ht
    ·rw [List.mem_singleton.1 ht, h]; simp
  ·rintro o (⟨rfl, h⟩ | ⟨k, rfl, h0, h⟩)
   ·exact Yld.some (by simp only [h]; simp)
   ·exact Yld.some (by simp only [h, h0])
 ·cases hh : (T.any fun t => decide (t.Owner = l.From) && t.Bodies.contains b) with
  | true => exact decide_eq_true (hz.2 hh)
  | false => exact decide_eq_false fun h0 => by rw [hz.1 h0] at hh; cases hh
theorem results_own {l : Notice} {r : Round} {out : List Notice} (w : Wf r) (k : Lk l) : owner_node_results_S 2000 l r out = some (hearResults r l) := by
 refine Yld.eq ?_
 unfold owner_node_results_S hearResults
 refine Yld.bindE (isFull_own k.b) ?_
 cases hf : isFull l r.Me r with
 | false => exact Yld.g0 rfl (Yld.ift rfl (Yld.some (by simp)))
 | true =>
 refine Yld.g1 rfl (Yld.bindE (contains_own (by have := w.heard; have := w.reg; omega)) ?_)
 cases hw : whole r.Heard with
 | false => exact Yld.ift rfl (Yld.some (by simp))
 | true =>
 refine Yld.iff rfl ?_
 obtain ⟨h1, h2, h3, h4⟩ := isFull_iff.1 hf
 have kb := k.b
 have hT := w.tlen
 refine Yld.bind (P := fun o : Unit ⊕ Round => (o = .inl () ∧ solvedB r.Tasks l.Bodies l.From = true) ∨ (o = .inr r ∧ solvedB r.Tasks l.Bodies l.From = false)) ?_ ?_
 ·refine Yld.ea1 (fun pre => solvedB r.Tasks pre l.From = true) (by omega) (by omega) (by simp [solvedB]) (fun pre x post e hx hI => ?_) fun h => .inl ⟨rfl, h⟩
  refine Yld.bindE hx (Yld.bindE (solved1_own (by omega) fun t ht => by have := (w.task ht).2.1; omega) (Yld.ite (fun h => ?_) fun h => ?_))
  ·refine Yld.some (.inr ⟨_, rfl, .inr ⟨rfl, ?_⟩⟩)
   unfold solvedB
   rw [List.all_eq_false]
   exact ⟨x, by rw [e]; simp, by rw [Bool.not_eq_true'] at h; rw [h]; simp⟩
  ·refine Yld.some (.inl ⟨rfl, ?_⟩)
   unfold solvedB at hI ⊢
   rw [Bool.not_eq_false'] at h
   rw [List.all_append, hI]
   simp only [List.all_cons, List.all_nil, h]; rfl
 ·rintro o (⟨rfl, h⟩ | ⟨rfl, h⟩)
  ·refine Yld.bindE (learn_own (by omega) (by have := w.re; have := w.hl; omega) h2 fun x hx => ?_) (Yld.some (by simp [h]))
   have := h4 x hx; have := w.re; omega
  ·exact Yld.some (by simp [h])
theorem sets_size {r : Round} {l : Notice} (w : Wf r) (k : Lk l) : Sz (r.Sets ++ l.Sets) := by
 have := flat8 k.c; have := k.s; have := w.sl; have := w.sf
 refine ⟨by rw [List.length_append]; omega, by rw [List.flatten_append, List.length_append]; omega⟩
theorem sets_own {l : Notice} {r : Round} (w : Wf r) (k : Lk l) (h0 : 0 ≤ l.From) (h1 : l.From < r.Regions) : owner_node_sets_S 2000 l r [] = some (hearSets r l) := by
 refine Yld.eq ?_
 unfold owner_node_sets_S hearSets
 have hhl := w.heard; have hrg := w.reg; have ks := k.s
 have hz := sets_size w k
 refine Yld.idx h0 (by omega) ?_
 show Yld (Option.bind (gcall (!(idx r.Heard l.From || big l)) _) fun x_2 => if ((idx r.Heard l.From || big l) || !x_2) = true then _ else _) _
 cases hc : (idx r.Heard l.From || big l) with
 | true => exact Yld.g0 rfl (Yld.ift rfl (Yld.some (by simp)))
 | false =>
 obtain ⟨q, eq, hq⟩ := isHoused_ok (h := r.Home) (L := l.Sets) (by omega) (fun c hc => by have := k.c c hc; omega)
 have : q = hsdB r.Home l.Sets := by
  cases hb : hsdB r.Home l.Sets with
  | true => exact hq.2 (hsdB_iff.1 hb)
  | false =>
   cases q with
   | false => rfl
   | true => rw [hsdB_iff.2 (hq.1 rfl)] at hb; cases hb
 subst this
 refine Yld.g1 rfl (Yld.bindE eq ?_)
 cases hb : hsdB r.Home l.Sets with
 | false => exact Yld.ift rfl (Yld.some (by simp))
 | true =>
 have hsd : Hsd r.Home (r.Sets ++ l.Sets) := hsd_append w.sets (hsdB_iff.1 hb)
 obtain ⟨f1, f2⟩ := mg_flat hz hsd
 have hll := w.hl
 refine Yld.iff rfl (Yld.bindE (x := r.Heard) (by unfold slices_Clone_S; rw [app?_eq (by simp only [List.length_nil]; omega)]; rfl) (Yld.idx h0 (by omega) ?_))
 refine Yld.bindE (mg_own (Ls := [r.Sets, l.Sets]) (by simpa using hz) (by simp)) ?_
 rw [show [r.Sets, l.Sets].flatten = r.Sets ++ l.Sets by simp]
 refine Yld.bindE (plan_own (r := { r with Heard := r.Heard.set l.From.toNat true, Sets := mg (r.Sets ++ l.Sets) }) w.hl (by simp only; omega) (by simp only; omega) (hsd_mg hz hsd) (by simp only [List.length_set]; omega) w.st (by simp)) (Yld.some (by simp))
theorem hear_own {l : Notice} {r : Round} (w : Wf r) (k : Lk l) : owner_Hear_S 2000 r l = some (hear r l) := by
 refine Yld.eq ?_
 unfold owner_Hear_S hear
 show Yld (letN _ fun x_1 => letN _ fun x_2 => _) _
 refine Yld.ln (Yld.lnE (ours r l) rfl (Yld.ite (fun h => Yld.some (by rw [h]; simp)) fun h => ?_))
 rw [h]
 simp only [Bool.false_eq_true, if_false]
 have hf : 0 ≤ l.From ∧ l.From < r.Regions := by
  unfold ours at h
  simp only [Bool.or_eq_false_iff, decide_eq_false_iff_not] at h
  omega
 by_cases k1 : l.Kind = 1
 ·simp only [k1, decide_true, if_true]
  rw [sets_own w k hf.1 hf.2]
  exact Yld.some rfl
 by_cases k2 : l.Kind = 2
 ·simp only [k2, decide_true, if_true]
  rw [states_own w k]
  exact Yld.some rfl
 by_cases k3 : l.Kind = 3
 ·simp only [k3, decide_true, if_true]
  rw [results_own w k]
  exact Yld.some rfl
 ·simp only [k1, k2, k3, decide_false, Bool.false_eq_true, if_false]
  exact Yld.some rfl
end Go.Proofs.Ytnpddoaeoefcnaa

namespace Go.Proofs.Ytnpddoaeoefcnaa
open Go Go.Sk
set_option linter.unusedVariables false
set_option linter.unusedSimpArgs false
theorem w_idx {l : List Bool} {i : Int} (h : whole l = true) (h0 : 0 ≤ i) (h1 : i < l.length) : idx l i = true := by
 unfold whole at h
 exact List.all_eq_true.1 h _ (idx_mem h0 h1)
theorem plan_wf {r : Round} {out : List Notice} (hl : r.Home.length ≤ 40) (hs : Homes r.Home r.Regions) (reg : 1 ≤ r.Regions ∧ r.Regions ≤ 16) (me : 0 ≤ r.Me ∧ r.Me < r.Regions) (heard : (r.Heard.length : Int) = r.Regions) (sets : Hsd r.Home r.Sets) (sl : r.Sets.length ≤ 40) (sf : r.Sets.flatten.length ≤ 40)
  (st : r.States.length = r.Home.length) (re : r.Results.length = r.Home.length) (ht : r.Tasks = []) (hd : r.Done = []) : Wf (plan r out).1 := by
 unfold plan
 split
 ·next hw => exact ⟨hl, hs, reg, me, heard, sets, sl, sf, st, re, by simp, by simp [hw]⟩
 ·next hw => exact ⟨hl, hs, reg, me, heard, sets, sl, sf, st, re, by rw [ht, hd]; rfl, by rw [ht, if_neg hw]⟩
theorem ours_from {r : Round} {l : Notice} (h : ours r l = false) : 0 ≤ l.From ∧ l.From < r.Regions ∧ l.From ≠ r.Me ∧ l.To = r.Me ∧ l.Step = r.Step := by
 unfold ours at h
 simp only [Bool.or_eq_false_iff, decide_eq_false_iff_not] at h
 exact ⟨by omega, by omega, h.1.1.2, by omega, by omega⟩
theorem hear_wf {r : Round} {l : Notice} (w : Wf r) (k : Lk l) : Wf (hear r l).1 := by
 unfold hear
 split
 ·exact w
 ·next ho =>
  have ho : ours r l = false := by simpa using ho
  obtain ⟨f0, f1, _⟩ := ours_from ho
  split
  ·unfold hearSets
   split
   ·exact w
   ·next hc =>
    simp only [Bool.or_eq_true, Bool.not_eq_true', not_or, Bool.not_eq_true, Bool.not_eq_false] at hc
    have hz := sets_size w k
    have hsd : Hsd r.Home (r.Sets ++ l.Sets) := hsd_append w.sets (hsdB_iff.1 hc.2)
    obtain ⟨f1', f2'⟩ := mg_flat hz hsd
    have hl := w.hl
    have hnw : whole r.Heard = false := by
     cases hw : whole r.Heard with
     | false => rfl
     | true => have := w_idx hw f0 (by rw [w.heard]; exact f1); rw [hc.1.1] at this; cases this
    have ht : r.Tasks = [] := by rw [w.tsk, hnw]; rfl
    have hd : r.Done = [] := List.length_eq_zero_iff.1 (by rw [w.dn, ht]; rfl)
    exact plan_wf hl w.hs w.reg w.me (by simp only [List.length_set]; exact w.heard) (hsd_mg hz hsd) (by simp only; omega) (by simp only; omega) w.st w.re ht hd
  ·split
   ·unfold hearStates
    split
    ·exact ⟨w.hl, w.hs, w.reg, w.me, w.heard, w.sets, w.sl, w.sf, by simp only [learn_len]; exact w.st, w.re, w.dn, w.tsk⟩
    ·exact w
   ·split
    ·unfold hearResults
     split
     ·exact w
     ·split
      ·exact ⟨w.hl, w.hs, w.reg, w.me, w.heard, w.sets, w.sl, w.sf, w.st, by simp only [learn_len]; exact w.re, w.dn, w.tsk⟩
      ·exact w
    ·exact w
theorem learn_keep {z : List (Int × Str)} : ∀ {o : List Str}, (∀ p ∈ z, idx o p.1 ≠ []) → z.foldl learn1 o = o := by
 induction z with
 | nil => intro o _; rfl
 | cons p z ih =>
  intro o h
  have : learn1 o p = o := by unfold learn1; rw [if_neg (h p (List.mem_cons_self ..))]
  rw [List.foldl_cons, this]
  exact ih fun q hq => h q (List.mem_cons_of_mem _ hq)
theorem learn1_mono {o : List Str} {p : Int × Str} {x : Int} (hp : p.2 ≠ []) (h0 : 0 ≤ p.1) (h1 : p.1 < o.length) (hx : 0 ≤ x) (h : idx o x ≠ []) : idx (learn1 o p) x ≠ [] := by
 unfold learn1
 split
 ·rw [idx_set h0 h1 hx]; split
  ·exact hp
  ·exact h
 ·exact h
theorem learn1_at {o : List Str} {p : Int × Str} (hp : p.2 ≠ []) (h0 : 0 ≤ p.1) (h1 : p.1 < o.length) : idx (learn1 o p) p.1 ≠ [] := by
 unfold learn1
 split
 ·rw [idx_set h0 h1 h0, if_pos rfl]; exact hp
 ·assumption
theorem learn_full {z : List (Int × Str)} : ∀ {o : List Str}, (∀ p ∈ z, p.2 ≠ [] ∧ 0 ≤ p.1 ∧ p.1 < o.length) → (∀ x, 0 ≤ x → idx o x ≠ [] → idx (z.foldl learn1 o) x ≠ []) ∧ ∀ p ∈ z, idx (z.foldl learn1 o) p.1 ≠ [] := by
 induction z with
 | nil => intro o _; exact ⟨fun x _ h => h, by simp⟩
 | cons p z ih =>
  intro o h
  obtain ⟨g1, g2, g3⟩ := h p (List.mem_cons_self ..)
  obtain ⟨i1, i2⟩ := ih (o := learn1 o p) fun q hq => by rw [learn1_len]; exact h q (List.mem_cons_of_mem _ hq)
  rw [List.foldl_cons]
  refine ⟨fun x hx hh => i1 x hx (learn1_mono g1 g2 g3 hx hh), fun q hq => ?_⟩
  rcases List.mem_cons.1 hq with rfl | hq
  ·exact i1 _ g2 (learn1_at g1 g2 g3)
  ·exact i2 q hq
theorem learn_idem {o : List Str} {b : List Int} {s : List Str} (hs : ([] : Str) ∉ s) (hb : ∀ x ∈ b, 0 ≤ x ∧ x < o.length) : learn (learn o b s) b s = learn o b s := by
 unfold learn
 refine learn_keep (learn_full fun p hp => ?_).2
 obtain ⟨h1, h2⟩ := List.of_mem_zip hp
 exact ⟨fun e => hs (e ▸ h2), hb _ h1⟩
theorem isFull_home {l : Notice} {g : Int} {r s : Round} (h : s.Home = r.Home) : isFull l g s = isFull l g r := by unfold isFull; rw [h]
theorem plan_fields (r : Round) (out : List Notice) : (plan r out).1.Me = r.Me ∧ (plan r out).1.Regions = r.Regions ∧ (plan r out).1.Step = r.Step ∧ (plan r out).1.Home = r.Home ∧ (plan r out).1.Heard = r.Heard ∧ (plan r out).1.Sets = r.Sets ∧ (plan r out).1.States = r.States ∧ (plan r out).1.Results = r.Results := by
 unfold plan; split <;> simp
theorem hear_twice {r : Round} {l : Notice} (w : Wf r) (k : Lk l) : hear (hear r l).1 l = ((hear r l).1, []) := by
 cases ho : ours r l with
 | true =>
  have : hear r l = (r, []) := by unfold hear; rw [ho]; rfl
  rw [this, this]
 | false =>
 obtain ⟨f0, f1, _⟩ := ours_from ho
 by_cases k1 : l.Kind = 1
 ·have e : hear r l = hearSets r l := by unfold hear; rw [ho]; simp [k1]
  have key : ∀ s : Round, ours s l = false → hear s l = hearSets s l := fun s hs => by unfold hear; rw [hs]; simp [k1]
  rw [e]
  unfold hearSets
  split
  ·next hc => rw [key r ho]; unfold hearSets; rw [if_pos hc]
  ·next hc =>
   have pf := plan_fields { r with Heard := r.Heard.set l.From.toNat true, Sets := mg (r.Sets ++ l.Sets) } []
   generalize plan { r with Heard := r.Heard.set l.From.toNat true, Sets := mg (r.Sets ++ l.Sets) } [] = z at pf
   obtain ⟨p1, p2, p3, p4, p5, p6, p7, p8⟩ := pf
   have ho2 : ours z.1 l = false := by unfold ours at ho ⊢; rw [p1, p2, p3]; exact ho
   rw [key _ ho2]
   unfold hearSets
   have : idx z.1.Heard l.From = true := by
    rw [p5, idx_set f0 (by have := w.heard; omega) f0, if_pos rfl]
   rw [this]; simp
 ·by_cases k2 : l.Kind = 2
  ·have key : ∀ s : Round, ours s l = false → hear s l = (hearStates s l, []) := fun s hs => by unfold hear; rw [hs]; simp [k2]
   rw [key r ho]
   have ho2 : ours (hearStates r l) l = false := by unfold hearStates; split <;> exact ho
   rw [key _ ho2]
   show (hearStates (hearStates r l) l, []) = (hearStates r l, [])
   congr 1
   cases hf : isFull l l.From r with
   | false =>
    have : hearStates r l = r := by unfold hearStates; rw [hf]; rfl
    rw [this, this]
   | true =>
    have e1 : hearStates r l = { r with States := learn r.States l.Bodies l.States } := by unfold hearStates; rw [hf]; rfl
    rw [e1]
    unfold hearStates
    rw [isFull_home (s := { r with States := learn r.States l.Bodies l.States }) (r := r) rfl, hf, if_pos rfl]
    obtain ⟨h1, h2, h3, h4⟩ := isFull_iff.1 hf
    simp only
    rw [learn_idem h3 fun x hx => by have := h4 x hx; have := w.st; omega]
  ·by_cases k3 : l.Kind = 3
   ·have key : ∀ s : Round, ours s l = false → hear s l = (hearResults s l, []) := fun s hs => by unfold hear; rw [hs]; simp [k3]
    rw [key r ho]
    have ho2 : ours (hearResults r l) l = false := by unfold hearResults; split; exact ho; split <;> exact ho
    rw [key _ ho2]
    show (hearResults (hearResults r l) l, []) = (hearResults r l, [])
    congr 1
    cases hf : (!isFull l r.Me r || !whole r.Heard) with
    | true =>
     have : hearResults r l = r := by unfold hearResults; rw [hf]; rfl
     rw [this, this]
    | false =>
     cases hs : solvedB r.Tasks l.Bodies l.From with
     | false =>
      have : hearResults r l = r := by unfold hearResults; rw [hf, hs]; rfl
      rw [this, this]
     | true =>
      have e1 : hearResults r l = { r with Results := learn r.Results l.Bodies l.States } := by unfold hearResults; rw [hf, hs]; rfl
      rw [e1]
      unfold hearResults
      simp only [Bool.or_eq_false_iff, Bool.not_eq_false'] at hf
      rw [isFull_home (s := { r with Results := learn r.Results l.Bodies l.States }) (r := r) rfl]
      simp only [hf.1, hf.2, hs]
      obtain ⟨h1, h2, h3, h4⟩ := isFull_iff.1 hf.1
      simp only [Bool.not_true, Bool.or_self, Bool.false_eq_true, if_false, if_true]
      rw [learn_idem h3 fun x hx => by have := h4 x hx; have := w.re; omega]
   ·have key : ∀ s : Round, ours s l = false → hear s l = (s, []) := fun s hs => by unfold hear; rw [hs]; simp [k1, k2, k3]
    rw [key r ho, key r ho]
def Valid (me regions step : Int) (home : List Int) (sets : List (List Int)) (states : List Str) : Prop :=
 (1 ≤ regions ∧ regions ≤ 16) ∧ (0 ≤ me ∧ me < regions) ∧ 0 ≤ step ∧ Homes home regions ∧ Hsd home sets ∧ states.length = home.length ∧ ∀ b : Nat, b < home.length → (idx states (b : Int) ≠ [] ↔ idx home (b : Int) = me)
def begin0 (me regions step : Int) (home : List Int) (sets : List (List Int)) (states : List Str) : Round :=
 ⟨me, regions, step, home, (List.replicate regions.toNat false).set me.toNat true, mg sets, states, [], [], List.replicate home.length []⟩
def beginOut (me step : Int) (sets : List (List Int)) (n : Nat) : List Notice := ((List.range n).filter fun i : Nat => decide ((i : Int) ≠ me)).map fun i : Nat => ⟨1, step, me, (i : Int), mg sets, [], []⟩
theorem begin_own {me regions step : Int} {home : List Int} {sets : List (List Int)} {states : List Str} (hh : home.length ≤ 40) (h1 : sets.length ≤ 30) (h2 : ∀ c ∈ sets, c.length ≤ 8) :
  Yld (owner_Begin_S 2000 me regions step home sets states) fun z => (z = (⟨0, 0, 0, [], [], [], [], [], [], []⟩, [], 1) ∧ ¬ Valid me regions step home sets states) ∨ (Valid me regions step home sets states ∧ z = ((plan (begin0 me regions step home sets states) (beginOut me step sets regions.toNat)).1, (plan (begin0 me regions step home sets states) (beginOut me step sets regions.toNat)).2, 0)) := by
 unfold owner_Begin_S
 have hfl := flat8 h2
 by_cases c1 : (1 ≤ regions ∧ regions ≤ 16) ∧ (0 ≤ me ∧ me < regions) ∧ 0 ≤ step
 rotate_left
 ·have e : (((((decide (regions < 1)) || (decide (16 < regions))) || (decide (me < 0))) || (decide (regions ≤ me))) || (decide (step < 0))) = true := by
   simp only [Bool.or_eq_true, decide_eq_true_eq]
   omega
  refine Yld.ln ?_
  rw [e]
  refine Yld.g0 rfl (Yld.lnE true rfl (Yld.g0 rfl (Yld.lnE true rfl (Yld.ift rfl (Yld.some (.inl ⟨rfl, fun hv => c1 ⟨hv.1, hv.2.1, hv.2.2.1⟩⟩))))))
 obtain ⟨r1, r2, r3⟩ := c1
 have e : (((((decide (regions < 1)) || (decide (16 < regions))) || (decide (me < 0))) || (decide (regions ≤ me))) || (decide (step < 0))) = false := by
  simp only [Bool.or_eq_false_iff, decide_eq_false_iff_not]
  omega
 refine Yld.ln ?_
 rw [e]
 refine Yld.g1 rfl (Yld.bind (isHome_ok (by omega)) fun q1 hq1 => ?_)
 refine Yld.ln ?_
 cases q1 with
 | false => exact Yld.g0 rfl (Yld.lnE true rfl (Yld.ift rfl (Yld.some (.inl ⟨rfl, fun hv => by simpa using hq1.2 hv.2.2.2.1⟩))))
 | true =>
 refine Yld.g1 rfl (Yld.bind (isHoused_ok (by omega) fun c hc => by have := h2 c hc; omega) fun q2 hq2 => ?_)
 cases q2 with
 | false => exact Yld.lnE true rfl (Yld.ift rfl (Yld.some (.inl ⟨rfl, fun hv => by simpa using hq2.2 hv.2.2.2.2.1⟩)))
 | true =>
 have hH := hq1.1 rfl
 have hS := hq2.1 rfl
 by_cases hlen : states.length = home.length
 rotate_left
 ·exact Yld.lnE true (by rw [decide_eq_true (by omega : (states.length : Int) ≠ home.length)]; rfl) (Yld.ift rfl (Yld.some (.inl ⟨rfl, fun hv => hlen hv.2.2.2.2.2.1⟩)))
 refine Yld.lnE false (by rw [decide_eq_false (by omega : ¬ (states.length : Int) ≠ home.length)]; rfl) (Yld.iff rfl ?_)
 refine Yld.bind (P := fun o : Unit ⊕ (Round × List Notice × Int) => (o = .inl () ∧ ∀ b : Nat, b < home.length → (idx states (b : Int) ≠ [] ↔ idx home (b : Int) = me)) ∨ (o = .inr (⟨0, 0, 0, [], [], [], [], [], [], []⟩, [], 1) ∧ ¬ ∀ b : Nat, b < home.length → (idx states (b : Int) ≠ [] ↔ idx home (b : Int) = me))) ?_ ?_
 ·refine Yld.ea1 (fun pre => ∀ b : Nat, b < pre.length → (idx states (b : Int) ≠ [] ↔ idx home (b : Int) = me)) (by omega) (by omega) (by simp) (fun pre x post e hx hI => ?_) fun h => .inl ⟨rfl, h⟩
  have hpl : pre.length < home.length := by rw [e]; simp
  have ex := ix_eq hx
  refine Yld.bindE hx (Yld.idx (by omega) (by omega) (Yld.ite (fun hc => ?_) fun hc => ?_))
  ·refine Yld.some (.inr ⟨_, rfl, .inr ⟨rfl, fun hh => ?_⟩⟩)
   have := hh pre.length hpl
   rw [ex] at this
   have e2 : decide (idx states (pre.length : Int) ≠ []) = decide (x = me) := decide_eq_decide.2 this
   rw [e2] at hc
   simp at hc
  ·refine Yld.some (.inl ⟨rfl, fun b hb => ?_⟩)
   by_cases hbp : b < pre.length
   ·exact hI b hbp
   ·have : b = pre.length := by simp at hb; omega
    subst this
    rw [ex]
    have e2 : decide (idx states (pre.length : Int) ≠ []) = decide (x = me) := bne_eq_false_iff_eq.1 hc
    exact decide_eq_decide.1 e2
 ·rintro o (⟨rfl, hst⟩ | ⟨rfl, hst⟩)
  rotate_left
  ·exact Yld.some (.inl ⟨rfl, fun hv => hst hv.2.2.2.2.2.2⟩)
  have hz : Sz sets := ⟨by omega, by omega⟩
  obtain ⟨f1, f2⟩ := mg_flat hz hS
  refine Yld.bindE (x := List.replicate regions.toNat false) (by unfold mk?; rw [if_pos (by omega)]) (Yld.bindE (mg_own (Ls := [sets]) (by simpa using hz) (by simp)) ?_)
  rw [show [sets].flatten = sets by simp]
  refine Yld.bindE (x := List.replicate home.length []) (by unfold mk?; rw [if_pos (by omega)]; rfl) (Yld.idx r2.1 (by simp; omega) ?_)
  refine Yld.bind (P := (· = ((List.replicate regions.toNat false).set me.toNat true, List.replicate home.length ([] : Str), beginOut me step sets regions.toNat))) ?_ ?_
  ·refine Yld.rounds (n := regions.toNat) (I := fun k s => k ≤ regions.toNat ∧ s = ((List.replicate regions.toNat false).set me.toNat true, List.replicate home.length ([] : Str), beginOut me step sets k, (k : Int))) (by omega) ⟨by omega, by simp [beginOut]⟩ ?_
   rintro k s hk ⟨_, rfl⟩
   have hbl : (beginOut me step sets k).length ≤ k := by
    unfold beginOut; rw [List.length_map]; refine Nat.le_trans (List.length_filter_le _ _) (by simp)
   refine Yld.ite (fun hc => ?_) fun hc => ?_
   ·have hc : (k : Int) < regions := of_decide_eq_true hc
    refine Yld.bind (P := (· = beginOut me step sets (k + 1))) ?_ ?_
    ·have eb : beginOut me step sets (k + 1) = beginOut me step sets k ++ if decide ((k : Int) ≠ me) then [⟨1, step, me, (k : Int), mg sets, [], []⟩] else [] := by
      unfold beginOut
      rw [List.range_succ, List.filter_append, List.map_append]
      simp only [List.filter_cons, List.filter_nil]
      split <;> rfl
     rw [eb]
     refine Yld.ite (fun h => ?_) fun h => ?_
     ·refine Yld.bindE (send_own (by simp only; omega)) (Yld.some ?_)
      rw [h]; rfl
     ·refine Yld.some ?_
      rw [h]; simp
    ·rintro _ rfl
     refine Yld.some (.inl ⟨_, rfl, ⟨by omega, ?_⟩, by omega⟩)
     simp only
     rw [wi64' (by omega) (by omega)]; push_cast; rfl
   ·have hc : ¬ (k : Int) < regions := of_decide_eq_false hc
    have : k = regions.toNat := by omega
    subst this
    exact Yld.some (.inr ⟨_, rfl, rfl⟩)
  ·rintro _ rfl
   simp only [un3]
   have hbl : (beginOut me step sets regions.toNat).length ≤ 16 := by
    unfold beginOut; rw [List.length_map]; refine Nat.le_trans (List.length_filter_le _ _) (by simp; omega)
   refine Yld.bindE (plan_own (r := begin0 me regions step home sets states) hh (by show (mg sets).length ≤ 800; omega) (by show (mg sets).flatten.length ≤ 800; omega) (hsd_mg hz hS) (by show ((List.replicate regions.toNat false).set me.toNat true).length < 2000; simp; omega) hlen (by omega)) (Yld.some (.inr ⟨⟨r1, r2, r3, hH, hS, hlen, hst⟩, rfl⟩))
theorem begin_wf {me regions step : Int} {home : List Int} {sets : List (List Int)} {states : List Str} {out : List Notice} (hh : home.length ≤ 40) (h1 : sets.length ≤ 30) (h2 : ∀ c ∈ sets, c.length ≤ 8) (hv : Valid me regions step home sets states) : Wf (plan (begin0 me regions step home sets states) out).1 := by
 have hfl := flat8 h2
 have hz : Sz sets := ⟨by omega, by omega⟩
 obtain ⟨r1, r2, r3, hH, hS, hlen, hst⟩ := hv
 obtain ⟨f1, f2⟩ := mg_flat hz hS
 exact plan_wf (r := begin0 me regions step home sets states) hh hH r1 r2 (by show ((((List.replicate regions.toNat false).set me.toNat true).length : Nat) : Int) = regions; simp; omega) (hsd_mg hz hS) (by show (mg sets).length ≤ 40; omega) (by show (mg sets).flatten.length ≤ 40; omega) hlen (by show (List.replicate home.length ([] : Str)).length = home.length; simp) rfl rfl
end Go.Proofs.Ytnpddoaeoefcnaa

namespace Go.Proofs.Ytnpddoaeoefcnaa
open Go Go.Sk
set_option linter.unusedVariables false
set_option linter.unusedSimpArgs false
theorem bools_ok {l : List Bool} (hl : l.length ≤ 1000) : skewbackref44_sameBools_S 2000 l l = some true := by
 refine Yld.eq ?_
 unfold skewbackref44_sameBools_S
 refine Yld.iff (by simp) (Yld.bind (P := (· = .inl ())) ?_ (fun o ho => by rw [ho]; exact Yld.some rfl))
 refine Yld.pass (by omega) (by omega) (by omega) (fun k h1 h2 => ?_) rfl
 rw [idx?_eq h1 h2]; simp
theorem texts_ok {l : List Str} (hl : l.length ≤ 1000) : skewbackref44_sameTexts_S 2000 l l = some true := by
 refine Yld.eq ?_
 unfold skewbackref44_sameTexts_S
 refine Yld.iff (by simp) (Yld.bind (P := (· = .inl ())) ?_ (fun o ho => by rw [ho]; exact Yld.some rfl))
 refine Yld.pass (by omega) (by omega) (by omega) (fun k h1 h2 => ?_) rfl
 rw [idx?_eq h1 h2]; simp
theorem sets_ok {l : List (List Int)} (hl : l.length ≤ 1000) (hc : ∀ c ∈ l, c.length ≤ 1000) : skewbackref35_SameSets_S 2000 l l = some true := by
 refine Yld.eq ?_
 unfold skewbackref35_SameSets_S
 refine Yld.iff (by simp) (Yld.bind (P := (· = .inl ())) ?_ (fun o ho => by rw [ho]; exact Yld.some rfl))
 refine Yld.pass (by omega) (by omega) (by omega) (fun k h1 h2 => ?_) rfl
 rw [idx?_eq h1 h2]
 simp only [Option.bind_some]
 rw [same_ok (hc _ (idx_mem h1 h2))]; rfl
theorem tasks_ok {l : List Task} (hl : l.length ≤ 1000) (hc : ∀ t ∈ l, t.Bodies.length ≤ 1000 ∧ t.Helpers.length ≤ 1000) : skewbackref44_SameTasks_S 2000 l l = some true := by
 refine Yld.eq ?_
 unfold skewbackref44_SameTasks_S
 refine Yld.iff (by simp) (Yld.bind (P := (· = .inl ())) ?_ (fun o ho => by rw [ho]; exact Yld.some rfl))
 refine Yld.pass (by omega) (by omega) (by omega) (fun k h1 h2 => ?_) rfl
 obtain ⟨g1, g2⟩ := hc _ (idx_mem h1 h2)
 refine Yld.eq ?_
 have e := idx?_eq (xs := l) h1 h2
 have e0 : decide ((idx l k).Owner ≠ (idx l k).Owner) = false := by simp
 refine Yld.bindE e (Yld.bindE e ?_)
 rw [e0]
 exact Yld.g1 rfl (Yld.bindE e (Yld.g1 rfl (Yld.bindE e (Yld.g1 rfl (Yld.bindE (same_ok g1) (Yld.g1 rfl (Yld.bindE e (Yld.g1 rfl (Yld.bindE e (Yld.g1 rfl (Yld.bindE (same_ok g2) (Yld.iff rfl (Yld.some rfl)))))))))))))
theorem flat_le {s : List (List Int)} {c : List Int} (hc : c ∈ s) : c.length ≤ s.flatten.length := by
 induction s with
 | nil => cases hc
 | cons d s ih =>
  rcases List.mem_cons.1 hc with rfl | hc
  ·simp
  ·have := ih hc; simp only [List.flatten_cons, List.length_append]; omega
theorem round_ok {r : Round} (w : Wf r) : skewbackref44_SameRound_S 2000 r r = some true := by
 unfold skewbackref44_SameRound_S
 have hl := w.hl; have hr := w.reg; have hh := w.heard; have hst := w.st; have hre := w.re; have hdn := w.dn; have hT := w.tlen
 rw [same_ok (by omega), bools_ok (l := r.Heard) (by omega), sets_ok (by have := w.sl; omega) (fun c hc => by have := flat_le hc; have := w.sf; omega), texts_ok (l := r.States) (by omega), tasks_ok (by omega) (fun t ht => by have := w.task ht; omega), bools_ok (l := r.Done) (by omega), texts_ok (l := r.Results) (by omega)]
 simp [letN, gcall]
theorem lk_of {l : Notice} (h : l.Bodies.length ≤ 40) (h2 : l.Sets.length ≤ 30 ∧ ∀ c ∈ l.Sets, c.length ≤ 8) : Lk l := ⟨h, h2.1, h2.2⟩
theorem doubles_law (me regions : Int) (home : List Int) (sets : List (List Int)) (states : List Str) (l : List Notice) (x : Notice)
  (h1 : sets.length ≤ 9223372036854775807) (h2 : x.Sets.length ≤ 9223372036854775807) (h3 : ∀ y ∈ l, y.Sets.length ≤ 9223372036854775807) {F : Nat} (hF : 2000 ≤ F) (f1 : sets.length < F) (f2 : x.Sets.length < F) (f3 : ∀ y ∈ l, y.Sets.length < F) :
  skewbacklaw44_OwnerForgetsDoubles_S F me regions home sets states l x = some true := by
 refine Yld.eq ?_
 unfold skewbacklaw44_OwnerForgetsDoubles_S
 have hsan := sanity_F hF
 by_cases hh : home.length ≤ 20
 rotate_left
 ·have e : decide (20 < (home.length : Int)) = true := decide_eq_true (by omega)
  rw [e]
  exact Yld.g0 rfl (Yld.ln (Yld.ln (Yld.g0 (by simp) (Yld.ift (by simp) (Yld.bindE hsan (Yld.some rfl))))))
 have e : decide (20 < (home.length : Int)) = false := decide_eq_false (by omega)
 rw [e]
 refine Yld.g1 rfl (Yld.bind (few_F f1 h1) fun q hq => ?_)
 cases q with
 | false => exact Yld.ln (Yld.ln (Yld.g0 (by simp) (Yld.ift (by simp) (Yld.bindE hsan (Yld.some rfl)))))
 | true =>
 obtain ⟨s1, s2⟩ := hq rfl
 refine Yld.ln (Yld.ln ?_)
 cases c2 : (((false || !true) || decide (22 < (states.length : Int))) || decide (10 < (l.length : Int)) || decide (20 < (x.Bodies.length : Int))) with
 | true => exact Yld.g0 rfl (Yld.ift rfl (Yld.bindE hsan (Yld.some rfl)))
 | false =>
 simp only [Bool.not_true, Bool.or_false, Bool.false_or, Bool.or_eq_false_iff, decide_eq_false_iff_not] at c2
 obtain ⟨⟨c3, c4⟩, c5⟩ := c2
 refine Yld.g1 rfl (Yld.bind (few_F f2 h2) fun q hq => ?_)
 cases q with
 | false => exact Yld.ift rfl (Yld.bindE hsan (Yld.some rfl))
 | true =>
 have hx := hq rfl
 have kx : Lk x := lk_of (by omega) hx
 refine Yld.iff rfl (Yld.bind ((owner_Begin_mono hF _ _ _ _ _ _).yld (begin_own (by omega) s1 s2)) ?_)
 rintro z (⟨rfl, _⟩ | ⟨hv, rfl⟩)
 ·exact Yld.ift rfl (Yld.bindE hsan (Yld.some rfl))
 have w0 := begin_wf (out := beginOut me x.Step sets regions.toNat) (by omega) s1 s2 hv
 generalize plan (begin0 me regions x.Step home sets states) (beginOut me x.Step sets regions.toNat) = p at w0
 simp only [un3]
 refine Yld.iff rfl ?_
 refine Yld.bind (P := fun o : Round ⊕ Bool => o = .inr true ∨ ∃ r, o = .inl r ∧ Wf r) ?_ ?_
 ·refine Yld.ea2 (I := fun _ r => Wf r) (by omega) (by omega) w0 ?_ fun r h => .inr ⟨r, rfl, h⟩
  rintro pre y post r e hy w
  have hym : y ∈ l := by rw [e]; simp
  refine Yld.bindE hy ?_
  by_cases hb : y.Bodies.length ≤ 20
  rotate_left
  ·have e : decide (20 < (y.Bodies.length : Int)) = true := decide_eq_true (by omega)
   rw [e]
   exact Yld.g0 rfl (Yld.g0 rfl (Yld.ift rfl (Yld.bindE hsan (Yld.some (.inr ⟨_, rfl, .inl rfl⟩)))))
  have e : decide (20 < (y.Bodies.length : Int)) = false := decide_eq_false (by omega)
  rw [e]
  refine Yld.g1 rfl (Yld.bindE hy (Yld.g1 rfl (Yld.bind (few_F (f3 y hym) (h3 y hym)) fun q hq => ?_)))
  cases q with
  | false => exact Yld.ift rfl (Yld.bindE hsan (Yld.some (.inr ⟨_, rfl, .inl rfl⟩)))
  | true =>
  have ky : Lk y := lk_of (by omega) (hq rfl)
  exact Yld.iff rfl (Yld.bindE hy (Yld.bindE (owner_Hear_mono hF _ _ _ (hear_own w ky)) (Yld.some (.inl ⟨_, rfl, hear_wf w ky⟩))))
 ·rintro o (rfl | ⟨r, rfl, w⟩)
  ·exact Yld.some rfl
  have e1 := owner_Hear_mono hF _ _ _ (hear_own w kx)
  have wa := hear_wf w kx
  have e2 := owner_Hear_mono hF _ _ _ (hear_own wa kx)
  rw [hear_twice w kx] at e2
  have es := skewbackref44_SameRound_mono hF _ _ _ (round_ok wa)
  refine Yld.bindE e1 (Yld.bindE e2 (Yld.bindE e1 (Yld.bindE hsan (Yld.g1 rfl (Yld.bindE es (Yld.g1 rfl (Yld.bindE es (Yld.lnE true rfl (Yld.some rfl)))))))))
end Go.Proofs.Ytnpddoaeoefcnaa

namespace Go.Proofs.Ytnpddoaeoefcnaa
open Go Go.Sk
set_option linter.unusedVariables false
theorem sum_ge {α : Type} (f : α → Nat) : ∀ {l : List α} {y : α}, y ∈ l → f y ≤ (l.map f).sum
 | a :: l, y, h => by
  rw [List.map_cons, List.sum_cons]
  rcases List.mem_cons.1 h with rfl | h
  ·omega
  ·have := sum_ge f h; omega
abbrev fuelD (sets : List (List Int)) (l : List Notice) (x : Notice) : Nat := 2001 + sets.length + x.Sets.length + (l.map fun y => y.Sets.length).sum
theorem doubles_end (me regions : Int) (home : List Int) (sets : List (List Int)) (states : List Str) (l : List Notice) (x : Notice)
  (h1 : sets.length ≤ 9223372036854775807) (h3 : ∀ y ∈ l, y.Sets.length ≤ 9223372036854775807) (h2 : x.Sets.length ≤ 9223372036854775807) : skewbacklaw44_OwnerForgetsDoubles_S (fuelD sets l x) me regions home sets states l x = some true :=
 doubles_law me regions home sets states l x h1 h2 h3 (by unfold fuelD; omega) (by unfold fuelD; omega) (by unfold fuelD; omega) fun y hy => by
  have := sum_ge (fun y : Notice => y.Sets.length) hy
  unfold fuelD; omega
theorem notice_len {h : PH} {v : Value} {l : List Notice} (hv : (CP.sl 7 (l.map eNotice)).rel h v) {y : Notice} (hy : y ∈ l) : y.Sets.length ≤ 9223372036854775807 := by
 have := sl_len_le (sl_rel_mem hv (List.mem_map.2 ⟨y, hy, rfl⟩) (p := .sl 1 (y.Sets.map (eL 1 eI))) (by simp [eNotice]))
 simpa using this
theorem notice_len1 {h : PH} {v : Value} {x : Notice} (hv : ∃ cs, v = .agg cs ∧ cellsRel h (eNotice x) cs.toList) : x.Sets.length ≤ 9223372036854775807 := by
 obtain ⟨cs, _, hr⟩ := hv
 have := sl_len_le (cells_rel_mem hr (p := .sl 1 (x.Sets.map (eL 1 eI))) (by simp [eNotice]))
 simpa using this
end Go.Proofs.Ytnpddoaeoefcnaa

namespace Go.Proofs.Ytnpddoaeoefcnaa
open Go Go.Sk
theorem doubles_ctr (x0 : Int) (x1 : Int) (x2 : List Int) (x3 : List (List Int)) (x4 : List Str) (x5 : List Notice) (x6 : Notice) (hx3 : x3.length ≤ 9223372036854775807) (hx5 : ∀ y ∈ x5, y.Sets.length ≤ 9223372036854775807) (hx6 : x6.Sets.length ≤ 9223372036854775807) : Meets Try.prog [] 6 [] [.one (.i x0), .one (.i x1), .one (.sl 1 (x2.map eI)), .one (.sl 1 (x3.map (eL 1 eI))), .one (.sl 1 (x4.map eS)), .one (.sl 7 (x5.map eNotice)), .agg (eNotice x6)] (Is [] (.b (.one (.bool true)))) :=
 skewbacklaw44_OwnerForgetsDoubles_spec (doubles_end x0 x1 x2 x3 x4 x5 x6 hx3 hx5 hx6)
end Go.Proofs.Ytnpddoaeoefcnaa

