/- the plain law -/
import Derived.Test.YtipepglcceogiaaW4
namespace Go.Proofs.Ytipepglcceogiaa
open Go.Sk
open Go
set_option linter.unusedSimpArgs false
set_option linter.unusedVariables false
/-! ## holdings as a sorted list -/
def rightB (h : Holding) : Bool :=
  if h.Body < 1 ∨ 400 < h.Body ∨ h.Epoch < 0 ∨ 1099511627776 < h.Epoch then false
  else if h.Phase = 0 then decide (h.Peer = 0) && decide (h.Data = [])
  else if h.Phase = 1 then decide (h.Peer = 0)
  else if h.Phase = 2 ∨ h.Phase = 3 ∨ h.Phase = 4 then decide (0 ≤ h.Peer) && decide (h.Peer < 16) && decide (1 ≤ h.Epoch)
  else false
def validB (lo : Int) : List Holding → Bool
  | [] => true
  | a :: l => rightB a && decide (lo < a.Body) && validB a.Body l
def getB (c : Int) : List Holding → Holding
  | [] => ⟨c, 0, 0, 0, []⟩
  | a :: l => if a.Body = c then a else getB c l
def hasB (c : Int) : List Holding → Bool
  | [] => false
  | a :: l => decide (a.Body = c) || hasB c l
def putB (h : Holding) : List Holding → List Holding
  | [] => [h]
  | a :: l => if a.Body < h.Body then a :: putB h l else if a.Body = h.Body then h :: l else h :: a :: l
theorem rightB_neg {h : Holding} (hc : ¬ (h.Body < 1 ∨ 400 < h.Body ∨ h.Epoch < 0 ∨ 1099511627776 < h.Epoch)) : rightB h = (if h.Phase = 0 then decide (h.Peer = 0) && decide (h.Data = [])
  else if h.Phase = 1 then decide (h.Peer = 0)
  else if h.Phase = 2 ∨ h.Phase = 3 ∨ h.Phase = 4 then decide (0 ≤ h.Peer) && decide (h.Peer < 16) && decide (1 ≤ h.Epoch)
  else false) := by unfold rightB; rw [if_neg hc]
theorem rightB_pos {h : Holding} (hc : h.Body < 1 ∨ 400 < h.Body ∨ h.Epoch < 0 ∨ 1099511627776 < h.Epoch) : rightB h = false := by unfold rightB; rw [if_pos hc]
theorem right_rest (h : Holding) (f : Int → Option Bool) (hf : f h.Peer = some (decide (0 ≤ h.Peer) && decide (h.Peer < 16))) : Option.bind (if decide (h.Phase = 0) = true then (some (.inr ((decide (h.Peer = 0)) && (decide (h.Data = []))))) else (if (decide (h.Phase = 1)) = true then (some (.inr (decide (h.Peer = 0)))) else (Option.bind (if (decide (h.Phase = 2)) = true then (some (decide (h.Phase = 2))) else (if (decide (h.Phase = 3)) = true then (some (decide (h.Phase = 3))) else (some (decide (h.Phase = 4))))) (fun x_3 => if x_3 = true then (Option.bind (f h.Peer) (fun x_4 => some (.inr (x_4 && (decide (1 ≤ h.Epoch)))))) else (some (.inl ())))))) (alt2 (fun (_ : Unit) => some false) (fun y => some y)) = some (if h.Phase = 0 then decide (h.Peer = 0) && decide (h.Data = [])
  else if h.Phase = 1 then decide (h.Peer = 0)
  else if h.Phase = 2 ∨ h.Phase = 3 ∨ h.Phase = 4 then decide (0 ≤ h.Peer) && decide (h.Peer < 16) && decide (1 ≤ h.Epoch)
  else false) := by
  by_cases h0 : h.Phase = 0
  · simp only [h0, decide_true, if_true, Option.bind_some, alt2]
  by_cases h2 : h.Phase = 1
  · simp [h2, alt2]
  by_cases h3 : h.Phase = 2
  · simp [h3, alt2, hf, Bool.and_assoc]
  by_cases h4 : h.Phase = 3
  · simp [h4, alt2, hf, Bool.and_assoc]
  by_cases h5 : h.Phase = 4
  · simp [h5, alt2, hf, Bool.and_assoc]
  simp [h0, h2, h3, h4, h5, alt2]
theorem region_right_val (F : Nat) (h : Holding) : region_right_S F h = some (rightB h) := by
  simp only [region_right_S, region_known_S, Option.bind_some, letN]
  split <;> rename_i h1
  · simp at h1
    rw [rightB_pos (by omega)]
  · simp at h1
    rw [rightB_neg (by omega)]
    exact right_rest h (region_node_S F) rfl
theorem ref_right_val (F : Nat) (h : Holding) : skewbackref41_right_S F h = some (rightB h) := by
  simp only [skewbackref41_right_S, skewbackref41_body_S, skewbackref41_most_S, Option.bind_some, letN, gcall_some]
  by_cases hc : h.Body < 1 ∨ 400 < h.Body ∨ h.Epoch < 0 ∨ 1099511627776 < h.Epoch
  · rw [rightB_pos hc, if_pos]
    by_cases hq : (1 ≤ h.Body ∧ h.Body ≤ 400) ∧ 0 ≤ h.Epoch
    · have e : 1099511627776 < h.Epoch := by omega
      simp [hq.1.1, hq.1.2, e, show ¬ h.Epoch < 0 by omega]
    · simp
      omega
  · rw [rightB_neg hc, if_neg]
    · exact right_rest h (skewbackref41_node_S F) rfl
    · simp [show 1 ≤ h.Body by omega, show h.Body ≤ 400 by omega, show ¬ h.Epoch < 0 by omega, show 0 ≤ h.Epoch by omega, show h.Epoch ≤ 1099511627776 by omega]
theorem validB_fold : ∀ (l : List Holding) (lo : Int), foldE (fun (s : Int) (a : Holding) => if (!rightB a || decide (a.Body ≤ s)) = true then Sum.inr (Sum.inr false) else Sum.inl a.Body) (fun _ => (Sum.inl () : Unit ⊕ Bool)) lo l = if validB lo l = true then .inl () else .inr false
  | [], lo => rfl
  | a :: l, lo => by
    rw [foldE, validB]
    by_cases h : (!rightB a || decide (a.Body ≤ lo)) = true
    · rw [if_pos h]
      simp at h
      rw [if_neg]
      simp
      rcases h with h | h
      · simp [h]
      · intro _ h2; omega
    · rw [if_neg h]
      simp at h
      dsimp only
      rw [validB_fold l a.Body]
      simp [h.1, h.2]
theorem region_Valid_val {F : Nat} {l : List Holding} (hF : l.length < F) (hl : l.length ≤ 1000000) : region_Valid_S F l = some (validB 0 l) := by
  unfold region_Valid_S
  have := iter_foldE (ρ := Int × Int) l (fun s i => (s, i)) (un2 fun last_1 x_2 => if (decide (x_2 < (l.length : Int))) = true then (Option.bind (idx? l x_2) (fun x_3 => Option.bind (region_right_S F x_3) (fun x_4 => if ((!x_4) || (decide (x_3.Body ≤ last_1))) = true then (some (.inr (.inr false))) else (some (.inl (x_3.Body, IntKind.i64.wrap (x_2 + 1))))))) else (some (.inr (.inl ()))))
    (fun (s : Int) (a : Holding) => if (!rightB a || decide (a.Body ≤ s)) = true then Sum.inr (Sum.inr false) else Sum.inl a.Body) (fun _ => (Sum.inl () : Unit ⊕ Bool)) (fun s i h0 h1 => by
      simp only [un2, idx?_eq h0 h1, Option.bind_some, region_right_val, h1, decide_true, if_true]
      rw [wrap64 (by omega) (by omega)]
      split <;> rfl) (fun s => by simp [un2]) F 0 hF
  rw [this, validB_fold]
  cases validB 0 l <;> rfl
theorem ref_Valid_val {F : Nat} {l : List Holding} (hF : l.length < F) (hl : l.length ≤ 1000000) : skewbackref41_Valid_S F l = some (validB 0 l) := by
  unfold skewbackref41_Valid_S
  have := iter_foldE (ρ := Int × Int) l (fun s i => (s, i)) (un2 fun last_1 i_2 => if (decide (i_2 < (l.length : Int))) = true then (Option.bind (idx? l i_2) (fun x_3 => Option.bind (skewbackref41_right_S F x_3) (fun x_4 => Option.bind (gcall (!(!x_4)) (idx? l i_2)) (fun x_5 => if ((!x_4) || (decide (x_5.Body ≤ last_1))) = true then (some (.inr (.inr false))) else (Option.bind (idx? l i_2) (fun x_6 => some (.inl (x_6.Body, IntKind.i64.wrap (i_2 + 1))))))))) else (some (.inr (.inl ()))))
    (fun (s : Int) (a : Holding) => if (!rightB a || decide (a.Body ≤ s)) = true then Sum.inr (Sum.inr false) else Sum.inl a.Body) (fun _ => (Sum.inl () : Unit ⊕ Bool)) (fun s i h0 h1 => by
      simp only [un2, idx?_eq h0 h1, Option.bind_some, ref_right_val, h1, decide_true, if_true, gcall_some]
      rw [wrap64 (by omega) (by omega)]
      cases rightB (idx l i) <;> simp <;> split <;> simp_all) (fun s => by simp [un2]) F 0 hF
  rw [this, validB_fold]
  cases validB 0 l <;> rfl
theorem rightB_body {h : Holding} (hr : rightB h = true) : 1 ≤ h.Body ∧ h.Body ≤ 400 ∧ 0 ≤ h.Epoch ∧ h.Epoch ≤ 1099511627776 := by
  by_cases hc : h.Body < 1 ∨ 400 < h.Body ∨ h.Epoch < 0 ∨ 1099511627776 < h.Epoch
  · rw [rightB_pos hc] at hr; simp at hr
  · omega
theorem valid_mem : ∀ {l : List Holding} {lo : Int}, validB lo l = true → ∀ h ∈ l, rightB h = true ∧ lo < h.Body
  | a :: l, lo, hv, h, hm => by
    simp only [validB, Bool.and_eq_true, decide_eq_true_eq] at hv
    cases List.mem_cons.1 hm with
    | inl e => subst e; exact hv.1
    | inr e => have := valid_mem hv.2 h e; exact ⟨this.1, by omega⟩
theorem idx_succ {α : Type} [Inhabited α] (a : α) (l : List α) {i : Int} (h : 1 ≤ i) : idx (a :: l) i = idx l (i - 1) := by
  have e : i.toNat = (i - 1).toNat + 1 := by omega
  unfold idx
  rw [e]
  rfl
theorem valid_mono : ∀ {l : List Holding} {lo : Int}, validB lo l = true → ∀ i j : Int, 0 ≤ i → i < j → j < l.length → (idx l i).Body < (idx l j).Body
  | [], _, _, i, j, h0, h1, h2 => by simp at h2; omega
  | a :: l, lo, hv, i, j, h0, h1, h2 => by
    simp only [validB, Bool.and_eq_true, decide_eq_true_eq] at hv
    simp only [List.length_cons] at h2
    rw [idx_succ a l (show 1 ≤ j by omega)]
    by_cases hi : i = 0
    · subst hi
      rw [idx_cons_zero]
      exact (valid_mem hv.2 _ (idx_mem (by omega) (by omega))).2
    · rw [idx_succ a l (show 1 ≤ i by omega)]
      exact valid_mono hv.2 (i - 1) (j - 1) (by omega) (by omega) (by omega)
def cmpv (t : Int) (h : Holding) : Int := IntKind.i64.wrap (h.Body - t)
theorem search_val {F : Nat} {l : List Holding} {t : Int} (hF : l.length < F) (hl : l.length ≤ 1000000) :
    ∃ p : Int, 0 ≤ p ∧ p ≤ l.length ∧ (p = 0 ∨ cmpv t (idx l (p - 1)) < 0) ∧ (p = l.length ∨ ¬ cmpv t (idx l p) < 0) ∧
      slices_BinarySearchFunc_S F l t = some (p, decide (p < l.length) && decide (cmpv t (idx l p) = 0)) := by
  have := iter_spec (σ := Int × Int) (τ := Int) (body := un2 fun i_2 j_3 => if (decide (i_2 < j_3)) = true then (letN (IntKind.u64.wrap (IntKind.i64.wrap (i_2 + j_3))) fun x_5 => Option.bind (idx? l (IntKind.i64.wrap (x_5 / 2))) (fun x_6 => Option.bind (region_place_1_S F x_6 t) (fun x_7 => if (decide (x_7 < 0)) = true then (letN (IntKind.i64.wrap ((IntKind.i64.wrap (x_5 / 2)) + 1)) fun x_8 => some (.inl (x_8, j_3))) else (some (.inl (i_2, IntKind.i64.wrap (x_5 / 2))))))) else (some (.inr i_2)))
    (fun s => 0 ≤ s.1 ∧ s.1 ≤ s.2 ∧ s.2 ≤ l.length ∧ (s.1 = 0 ∨ cmpv t (idx l (s.1 - 1)) < 0) ∧ (s.2 = l.length ∨ ¬ cmpv t (idx l s.2) < 0)) (fun s => (s.2 - s.1).toNat)
    (fun p => 0 ≤ p ∧ p ≤ l.length ∧ (p = 0 ∨ cmpv t (idx l (p - 1)) < 0) ∧ (p = l.length ∨ ¬ cmpv t (idx l p) < 0)) (by
      rintro ⟨i, j⟩ ⟨h0, h1, h2, h3, h4⟩
      dsimp only at h0 h1 h2 h3 h4
      by_cases hij : i < j
      · have hw : IntKind.u64.wrap (IntKind.i64.wrap (i + j)) = i + j := by rw [wrap64 (by omega) (by omega), wrapu64 (by omega) (by omega)]
        have hw2 : IntKind.i64.wrap ((i + j) / 2) = (i + j) / 2 := wrap64 (by omega) (by omega)
        have hw3 : IntKind.i64.wrap ((i + j) / 2 + 1) = (i + j) / 2 + 1 := wrap64 (by omega) (by omega)
        simp only [un2, hij, decide_true, if_true, letN, hw, hw2, hw3]
        rw [idx?_eq (by omega) (by omega)]
        simp only [Option.bind_some, region_place_1_S]
        by_cases hc : cmpv t (idx l ((i + j) / 2)) < 0
        · rw [if_pos (by simpa [cmpv] using hc)]
          refine ⟨_, rfl, fun s' hs => ?_, fun t' ht => by simp at ht⟩
          cases hs
          refine ⟨⟨by dsimp only; omega, by dsimp only; omega, h2, .inr ?_, h4⟩, by dsimp only; omega⟩
          rw [show (i + j) / 2 + 1 - 1 = (i + j) / 2 by omega]
          exact hc
        · rw [if_neg (by simpa [cmpv] using hc)]
          refine ⟨_, rfl, fun s' hs => ?_, fun t' ht => by simp at ht⟩
          cases hs
          exact ⟨⟨h0, by dsimp only; omega, by dsimp only; omega, h3, .inr hc⟩, by dsimp only; omega⟩
      · simp only [un2, hij, decide_false]
        refine ⟨_, rfl, fun s' hs => by simp at hs, fun t' ht => ?_⟩
        simp at ht
        subst ht
        have : i = j := by omega
        subst this
        exact ⟨h0, h2, h3, h4⟩) F (0, (l.length : Int)) ⟨by simp, by simp, by simp, .inl rfl, .inl rfl⟩ (by dsimp only; omega)
  obtain ⟨p, hp, h0, h1, h2, h3⟩ := this
  refine ⟨p, h0, h1, h2, h3, ?_⟩
  unfold slices_BinarySearchFunc_S
  rw [hp]
  simp only [Option.bind_some]
  by_cases hpl : p < l.length
  · simp only [hpl, decide_true, gcall_true, idx?_eq h0 hpl, Option.bind_some, region_place_1_S, cmpv]
    rfl
  · simp only [hpl, decide_false, gcall_false, Option.bind_some, Bool.false_and]
/-- the number of holdings before a body -/
def posB (t : Int) : List Holding → Nat
  | [] => 0
  | a :: l => if a.Body < t then posB t l + 1 else 0
theorem posB_le (t : Int) : ∀ l, posB t l ≤ l.length
  | [] => Nat.le_refl _
  | a :: l => by have := posB_le t l; simp only [posB, List.length_cons]; split <;> omega
theorem posB_uniq {t : Int} : ∀ {l : List Holding} {p : Int}, 0 ≤ p → p ≤ l.length → (∀ i : Int, 0 ≤ i → i < p → (idx l i).Body < t) → (p = l.length ∨ t ≤ (idx l p).Body) → (posB t l : Int) = p
  | [], p, h0, h1, _, _ => by simp at h1; simp [posB]; omega
  | a :: l, p, h0, h1, h2, h3 => by
    simp only [List.length_cons] at h1 h3
    by_cases hp : p = 0
    · subst hp
      have : t ≤ a.Body := by
        rcases h3 with h | h
        · omega
        · rwa [idx_cons_zero] at h
      simp [posB, show ¬ a.Body < t by omega]
    · have ha := h2 0 (by omega) (by omega)
      rw [idx_cons_zero] at ha
      have := posB_uniq (t := t) (l := l) (p := p - 1) (by omega) (by omega) (fun i hi hi' => by
        have := h2 (i + 1) (by omega) (by omega)
        rw [idx_succ a l (by omega)] at this
        rwa [show i + 1 - 1 = i by omega] at this) (by
        rcases h3 with h | h
        · left; omega
        · right; rwa [idx_succ a l (by omega)] at h)
      simp [posB, ha]; omega
theorem hasB_iff {t : Int} : ∀ {l : List Holding}, hasB t l = true ↔ ∃ h ∈ l, h.Body = t
  | [] => by simp [hasB]
  | a :: l => by simp [hasB, hasB_iff (l := l)]
theorem region_place_val {F : Nat} {l : List Holding} {t : Int} (hF : l.length < F) (hl : l.length ≤ 1000000) (hv : validB 0 l = true) (ht : inR .i64 t) :
    ∃ p : Int, 0 ≤ p ∧ p ≤ l.length ∧ region_place_S F l t = some (p, hasB t l) ∧ (1 ≤ t → t ≤ 400 → p = posB t l) ∧ (hasB t l = true → p < l.length ∧ (idx l p).Body = t) := by
  obtain ⟨p, h0, h1, h2, h3, h4⟩ := search_val (t := t) hF hl
  have htr := inR_i64_iff.1 ht
  have hb : ∀ i : Int, 0 ≤ i → i < l.length → 1 ≤ (idx l i).Body ∧ (idx l i).Body ≤ 400 := fun i hi hi' => by
    have := rightB_body (valid_mem hv _ (idx_mem hi hi')).1
    omega
  have hcmp : 1 ≤ t → t ≤ 400 → ∀ i : Int, 0 ≤ i → i < l.length → cmpv t (idx l i) = (idx l i).Body - t := fun q1 q2 i hi hi' => by
    have := hb i hi hi'
    exact wrap64 (by omega) (by omega)
  have hz : ∀ i : Int, 0 ≤ i → i < l.length → cmpv t (idx l i) = 0 → (idx l i).Body = t := fun i hi hi' he => by
    have := hb i hi hi'
    simp only [cmpv, IntKind.wrap, IntKind.bits, IntKind.signed] at he
    simp at he
    omega
  have hlt : 1 ≤ t → t ≤ 400 → ∀ i : Int, 0 ≤ i → i < p → (idx l i).Body < t := fun q1 q2 i hi hip => by
    rcases h2 with h | h
    · omega
    · rw [hcmp q1 q2 _ (by omega) (by omega)] at h
      by_cases e : i = p - 1
      · subst e; omega
      · have := valid_mono hv i (p - 1) hi (by omega) (by omega)
        omega
  have hge : 1 ≤ t → t ≤ 400 → (p = l.length ∨ t ≤ (idx l p).Body) := fun q1 q2 => by
    rcases h3 with h | h
    · exact .inl h
    · by_cases e : p = l.length
      · exact .inl e
      · rw [hcmp q1 q2 _ h0 (by omega)] at h
        right; omega
  have hfound : (decide (p < l.length) && decide (cmpv t (idx l p) = 0)) = hasB t l := by
    rw [Bool.eq_iff_iff, hasB_iff]
    simp only [Bool.and_eq_true, decide_eq_true_eq]
    constructor
    · rintro ⟨q1, q2⟩
      exact ⟨idx l p, idx_mem h0 q1, hz p h0 q1 q2⟩
    · rintro ⟨h, hm, rfl⟩
      obtain ⟨i, hi, hi', rfl⟩ := mem_idx hm
      have hbi := hb i hi hi'
      have q := hge (by omega) (by omega)
      have q' := hlt (by omega) (by omega)
      have hpi : p ≤ i := by
        rcases Int.lt_or_le i p with h | h
        · have := q' i hi h; omega
        · exact h
      have hpl : p < l.length := by omega
      have hq : (idx l i).Body ≤ (idx l p).Body := by
        rcases q with h | h
        · omega
        · exact h
      have : p = i := by
        by_cases e : p = i
        · exact e
        · have := valid_mono hv p i h0 (by omega) hi'
          omega
      subst this
      exact ⟨hpl, by rw [hcmp (by omega) (by omega) _ h0 hpl]; omega⟩
  refine ⟨p, h0, h1, ?_, fun q1 q2 => (posB_uniq h0 h1 (hlt q1 q2) (hge q1 q2)).symm, fun hh => ?_⟩
  · unfold region_place_S
    rw [h4, hfound]
    rfl
  · rw [← hfound] at hh
    simp only [Bool.and_eq_true, decide_eq_true_eq] at hh
    exact ⟨hh.1, hz p h0 hh.1 hh.2⟩
theorem getB_of {t : Int} : ∀ {l : List Holding} {h : Holding}, (∀ a b : Holding, a ∈ l → b ∈ l → a.Body = b.Body → a = b) → h ∈ l → h.Body = t → getB t l = h
  | a :: l, h, hu, hm, hb => by
    unfold getB
    split
    · next e => exact hu a h (by simp) hm (by omega)
    · next e =>
      cases List.mem_cons.1 hm with
      | inl e' => subst e'; exact absurd hb e
      | inr e' => exact getB_of (fun x y hx hy => hu x y (by simp [hx]) (by simp [hy])) e' hb
theorem getB_none {t : Int} : ∀ {l : List Holding}, hasB t l = false → getB t l = ⟨t, 0, 0, 0, []⟩
  | [], _ => rfl
  | a :: l, h => by
    simp only [hasB, Bool.or_eq_false_iff, decide_eq_false_iff_not] at h
    unfold getB
    rw [if_neg h.1]
    exact getB_none h.2
theorem valid_uniq {l : List Holding} {lo : Int} (hv : validB lo l = true) : ∀ a b : Holding, a ∈ l → b ∈ l → a.Body = b.Body → a = b := fun a b ha hb e => by
  obtain ⟨i, hi, hi', rfl⟩ := mem_idx ha
  obtain ⟨j, hj, hj', rfl⟩ := mem_idx hb
  rcases Int.lt_trichotomy i j with h | h | h
  · have := valid_mono hv i j hi h hj'; omega
  · rw [h]
  · have := valid_mono hv j i hj h hi'; omega
theorem region_Get_val {F : Nat} {l : List Holding} {t : Int} (hF : l.length < F) (hl : l.length ≤ 1000000) (hv : validB 0 l = true) (ht : inR .i64 t) : region_Get_S F l t = some (getB t l) := by
  obtain ⟨p, h0, h1, h2, _, h4⟩ := region_place_val hF hl hv ht
  unfold region_Get_S
  rw [h2]
  simp only [Option.bind_some, un2]
  cases hh : hasB t l with
  | true =>
    obtain ⟨q1, q2⟩ := h4 hh
    simp only [if_true, idx?_eq h0 q1, Option.bind_some]
    rw [getB_of (valid_uniq hv) (idx_mem h0 q1) q2]
  | false =>
    rw [getB_none hh]
    rfl
theorem getB_fold (t : Int) : ∀ l : List Holding, foldE (fun (_ : Unit) (a : Holding) => if decide (a.Body = t) = true then Sum.inr (Sum.inr a) else Sum.inl ()) (fun _ => (Sum.inl () : Unit ⊕ Holding)) () l = if hasB t l = true then .inr (getB t l) else .inl ()
  | [] => rfl
  | a :: l => by
    rw [foldE, hasB, getB]
    by_cases h : a.Body = t
    · simp [h]
    · simp only [h, decide_false, Bool.false_or, if_false]
      exact getB_fold t l
theorem ref_Get_val {F : Nat} {l : List Holding} {t : Int} (hF : l.length < F) (hl : l.length ≤ 1000000) : skewbackref41_Get_S F l t = some (getB t l) := by
  unfold skewbackref41_Get_S
  have := iter_foldE (ρ := Int) l (fun (_ : Unit) i => i) (fun i_1 => if (decide (i_1 < (l.length : Int))) = true then (Option.bind (idx? l i_1) (fun x_2 => if (decide (x_2.Body = t)) = true then (Option.bind (idx? l i_1) (fun x_3 => some (.inr (.inr x_3)))) else (some (.inl (IntKind.i64.wrap (i_1 + 1)))))) else (some (.inr (.inl ()))))
    (fun (_ : Unit) (a : Holding) => if decide (a.Body = t) = true then Sum.inr (Sum.inr a) else Sum.inl ()) (fun _ => (Sum.inl () : Unit ⊕ Holding)) (fun s i h0 h1 => by
      simp only [idx?_eq h0 h1, Option.bind_some, h1, decide_true, if_true]
      rw [wrap64 (by omega) (by omega)]
      split <;> rfl) (fun s => by simp) F () hF
  rw [this, getB_fold]
  cases hh : hasB t l with
  | true => rfl
  | false => rw [getB_none hh]; rfl
theorem putB_at : ∀ {l : List Holding} {lo : Int} (h : Holding), validB lo l = true → putB h l = if hasB h.Body l = true then l.set (posB h.Body l) h else l.take (posB h.Body l) ++ [h] ++ l.drop (posB h.Body l)
  | [], _, h, _ => by simp [putB, hasB, posB]
  | a :: l, lo, h, hv => by
    have hv' := hv
    simp only [validB, Bool.and_eq_true, decide_eq_true_eq] at hv
    unfold putB posB hasB
    by_cases h1 : a.Body < h.Body
    · have h2 : ¬ a.Body = h.Body := by omega
      rw [if_pos h1, if_pos h1, putB_at h hv.2]
      simp only [h2, decide_false, Bool.false_or]
      split <;> simp
    · rw [if_neg h1, if_neg h1]
      by_cases h2 : a.Body = h.Body
      · simp [h2]
      · have h3 : hasB h.Body l = false := by
          rw [Bool.eq_false_iff]
          intro hc
          obtain ⟨x, hx, he⟩ := hasB_iff.1 hc
          have := (valid_mem hv.2 x hx).2
          omega
        simp [h2, h3]
theorem app?_nil {α : Type} {l : List α} (h : l.length ≤ 1000000000) : app? [] l = some l := by simp [app?, h]
theorem region_set_val {F : Nat} {l : List Holding} {h : Holding} (hF : l.length < F) (hl : l.length ≤ 1000000) (hv : validB 0 l = true) (h1 : 1 ≤ h.Body) (h2 : h.Body ≤ 400) : region_set_S F l h = some (putB h l) := by
  obtain ⟨p, p0, p1, p2, p3, p4⟩ := region_place_val (t := h.Body) hF hl hv (inR_i64 (by omega) (by omega))
  have hp := p3 h1 h2
  unfold region_set_S slices_Clone_S
  rw [app?_nil (by omega)]
  simp only [Option.bind_some, p2, un2]
  rw [putB_at h hv]
  cases hh : hasB h.Body l with
  | true =>
    obtain ⟨q1, q2⟩ := p4 hh
    simp only [if_true, idx?_eq p0 q1, Option.bind_some]
    rw [hp]; simp
  | false =>
    have : slices_Insert_S F p [h] l = some (l.take p.toNat ++ [h] ++ l.drop p.toNat) := by
      unfold slices_Insert_S ins1?
      rw [if_pos ⟨p0, p1, rfl, by omega⟩]
    simp only [this, Option.bind_some, Bool.false_eq_true, if_false]
    rw [hp]; simp
theorem region_set_val' {F : Nat} {l : List Holding} (hF : l.length < F) (hl : l.length ≤ 1000000) (hv : validB 0 l = true) {b e p q : Int} {d : Str} (hb : 1 ≤ b ∧ b ≤ 400) : region_set_S F l ⟨b, e, p, q, d⟩ = some (putB ⟨b, e, p, q, d⟩ l) := region_set_val hF hl hv hb.1 hb.2
theorem putB_len (h : Holding) : ∀ l : List Holding, (putB h l).length ≤ l.length + 1
  | [] => by simp [putB]
  | a :: l => by
    have := putB_len h l
    unfold putB
    split
    · simp; omega
    · split <;> simp
theorem putB_valid : ∀ {l : List Holding} {lo : Int} {h : Holding}, validB lo l = true → rightB h = true → lo < h.Body → validB lo (putB h l) = true
  | [], lo, h, _, hr, hlo => by simp [putB, validB, hr, hlo]
  | a :: l, lo, h, hv, hr, hlo => by
    have hv' := hv
    simp only [validB, Bool.and_eq_true, decide_eq_true_eq] at hv
    unfold putB
    by_cases h1 : a.Body < h.Body
    · rw [if_pos h1]
      simp only [validB, Bool.and_eq_true, decide_eq_true_eq]
      exact ⟨hv.1, putB_valid hv.2 hr h1⟩
    · rw [if_neg h1]
      split
      · next e =>
        simp only [validB, Bool.and_eq_true, decide_eq_true_eq]
        exact ⟨⟨hr, hlo⟩, by rw [← e]; exact hv.2⟩
      · next e =>
        simp only [validB, Bool.and_eq_true, decide_eq_true_eq]
        exact ⟨⟨hr, hlo⟩, ⟨hv.1.1, by omega⟩, hv.2⟩
theorem getB_put : ∀ (l : List Holding) (lo : Int) (h : Holding), validB lo l = true → getB h.Body (putB h l) = h
  | [], _, h, _ => by simp [putB, getB]
  | a :: l, lo, h, hv => by
    simp only [validB, Bool.and_eq_true, decide_eq_true_eq] at hv
    unfold putB
    by_cases h1 : a.Body < h.Body
    · rw [if_pos h1, getB, if_neg (by omega)]
      exact getB_put l a.Body h hv.2
    · rw [if_neg h1]
      split <;> simp [getB]
theorem getB_body (t : Int) : ∀ l : List Holding, (getB t l).Body = t
  | [] => rfl
  | a :: l => by
    unfold getB
    split
    · assumption
    · exact getB_body t l
/-- the reference's loop -/
def setGo (h : Holding) : List Holding → Bool → List Holding
  | [], put => if put then [] else [h]
  | a :: l, put => (if !put && decide (h.Body ≤ a.Body) then [h] else []) ++ ((if a.Body ≠ h.Body then [a] else []) ++ setGo h l (put || decide (h.Body ≤ a.Body)))
theorem setGo_true (h : Holding) : ∀ (l : List Holding) (lo : Int), validB lo l = true → h.Body ≤ lo → setGo h l true = l
  | [], _, _, _ => rfl
  | a :: l, lo, hv, hlo => by
    simp only [validB, Bool.and_eq_true, decide_eq_true_eq] at hv
    unfold setGo
    simp only [Bool.not_true, Bool.false_and, Bool.false_eq_true, if_false, List.nil_append, Bool.true_or]
    rw [if_pos (by omega), setGo_true h l a.Body hv.2 (by omega)]
    rfl
theorem setGo_put (h : Holding) : ∀ (l : List Holding) (lo : Int), validB lo l = true → setGo h l false = putB h l
  | [], _, _ => rfl
  | a :: l, lo, hv => by
    simp only [validB, Bool.and_eq_true, decide_eq_true_eq] at hv
    unfold setGo putB
    by_cases h1 : a.Body < h.Body
    · have e1 : decide (h.Body ≤ a.Body) = false := by simp; omega
      rw [if_pos h1, e1]
      simp only [Bool.and_false, Bool.false_eq_true, if_false, Bool.or_false, List.nil_append]
      rw [if_pos (by omega), setGo_put h l a.Body hv.2]
      rfl
    · have e1 : decide (h.Body ≤ a.Body) = true := by simp; omega
      rw [if_neg h1, e1, Bool.false_or, setGo_true h l a.Body hv.2 (by omega)]
      by_cases h2 : a.Body = h.Body <;> simp [h2]
theorem ref_set_val {F : Nat} {l : List Holding} {h : Holding} (hF : l.length < F) (hl : l.length ≤ 1000000) (hv : validB 0 l = true) : skewbackref41_set_S F l h = some (putB h l) := by
  unfold skewbackref41_set_S
  have key := iter_foldI (ρ := List Holding × Bool × Int) l (fun (s : List Holding × Bool) i => (s.1, s.2, i)) (un3 fun out_3 put_4 i_5 => if (decide (i_5 < (l.length : Int))) = true then (Option.bind (Option.bind (Option.bind (gcall (!put_4) (idx? l i_5)) (fun x_12 => if ((!put_4) && (decide (h.Body ≤ x_12.Body))) = true then (Option.bind (app? out_3 [h]) (fun x_13 => some (x_13, true))) else (some (out_3, put_4)))) (un2 fun out_10 put_11 => Option.bind (idx? l i_5) (fun x_14 => if (decide (x_14.Body ≠ h.Body)) = true then (Option.bind (idx? l i_5) (fun x_15 => Option.bind (app? out_10 [x_15]) (fun x_16 => some (x_16, put_11)))) else (some (out_10, put_11))))) (un2 fun out_8 put_9 => some (.inl (out_8, put_9, IntKind.i64.wrap (i_5 + 1))))) else (some (.inr (out_3, put_4))))
    (fun (s : List Holding × Bool) (a : Holding) => .inl (s.1 ++ ((if (!s.2 && decide (h.Body ≤ a.Body)) = true then [h] else []) ++ (if a.Body ≠ h.Body then [a] else [])), s.2 || decide (h.Body ≤ a.Body))) (fun s => s) (fun i s => (s.1.length : Int) ≤ 2 * i)
    (fun s i h0 h1 hI => by
      obtain ⟨out, put⟩ := s
      dsimp only at hI ⊢
      have q1 : app? out [h] = some (out ++ [h]) := app?_eq (by simp; omega)
      have q2 : app? out [idx l i] = some (out ++ [idx l i]) := app?_eq (by simp; omega)
      have q3 : app? (out ++ [h]) [idx l i] = some (out ++ [h] ++ [idx l i]) := app?_eq (by simp; omega)
      simp only [un3, un2, h1, decide_true, if_true, idx?_eq h0 h1, Option.bind_some, gcall_some]
      rw [wrap64 (by omega) (by omega)]
      cases put with
      | true =>
        simp only [Bool.not_true, Bool.false_eq_true, if_false, Bool.false_and, Option.bind_some, Bool.true_or]
        by_cases hb : (idx l i).Body = h.Body <;> simp [hb, q2, un2]
      | false =>
        simp only [Bool.not_false, if_true, Bool.true_and, Bool.false_or]
        by_cases ha : h.Body ≤ (idx l i).Body
        · simp only [ha, decide_true, if_true, q1, Option.bind_some]
          by_cases hb : (idx l i).Body = h.Body <;> simp [hb, q3, un2]
        · simp only [ha, decide_false, Bool.false_eq_true, if_false, Option.bind_some]
          by_cases hb : (idx l i).Body = h.Body <;> simp [hb, q2, un2])
    (fun s hI => by simp [un3]) (fun s i s' h0 h1 hI hs => by
      cases hs
      dsimp only
      simp only [List.length_append]
      split <;> split <;> simp <;> omega) F ([], false) 0 (by omega) (by omega) (by simp) (by omega)
  have go : ∀ (l : List Holding) (out : List Holding) (put : Bool), ∃ o p, foldE (τ := List Holding × Bool) (fun (s : List Holding × Bool) (a : Holding) => .inl (s.1 ++ ((if (!s.2 && decide (h.Body ≤ a.Body)) = true then [h] else []) ++ (if a.Body ≠ h.Body then [a] else [])), s.2 || decide (h.Body ≤ a.Body))) (fun s => s) (out, put) l = (o, p) ∧
      (if p then o else o ++ [h]) = out ++ setGo h l put ∧ o.length ≤ out.length + 2 * l.length := by
    intro l
    induction l with
    | nil => intro out put; exact ⟨out, put, rfl, by cases put <;> simp [setGo], by simp⟩
    | cons a l ih =>
      intro out put
      obtain ⟨o, p, h1, h2, h3⟩ := ih (out ++ ((if (!put && decide (h.Body ≤ a.Body)) = true then [h] else []) ++ (if a.Body ≠ h.Body then [a] else []))) (put || decide (h.Body ≤ a.Body))
      refine ⟨o, p, h1, ?_, ?_⟩
      · rw [h2, setGo]
        simp only [List.append_assoc]
      · have : (out ++ ((if (!put && decide (h.Body ≤ a.Body)) = true then [h] else []) ++ (if a.Body ≠ h.Body then [a] else []))).length ≤ out.length + 2 := by
          simp only [List.length_append]
          split <;> split <;> simp
        simp only [List.length_cons]; omega
  obtain ⟨o, p, g1, g2, g3⟩ := go l [] false
  rw [key]
  have e0 : (0 : Int).toNat = 0 := rfl
  rw [e0, List.drop_zero, g1]
  simp only [Option.bind_some, un2]
  rw [← setGo_put h l 0 hv]
  simp only [List.nil_append] at g2
  rw [← g2]
  cases p with
  | true => rfl
  | false =>
    have : app? o [h] = some (o ++ [h]) := app?_eq (by simp at g3 ⊢; omega)
    simp [this]
theorem rightB_mk {b e p q : Int} {d : Str} (hb : 1 ≤ b ∧ b ≤ 400) (he : 0 ≤ e ∧ e ≤ 1099511627776) (hq : (p = 0 ∧ q = 0 ∧ d = []) ∨ (p = 1 ∧ q = 0) ∨ ((p = 2 ∨ p = 3 ∨ p = 4) ∧ 0 ≤ q ∧ q < 16 ∧ 1 ≤ e)) : rightB ⟨b, e, p, q, d⟩ = true := by
  rw [rightB_neg (by dsimp only; omega)]
  dsimp only
  rcases hq with ⟨rfl, rfl, rfl⟩ | ⟨rfl, rfl⟩ | ⟨hp, h1, h2, h3⟩
  · simp
  · simp
  · rw [if_neg (by omega), if_neg (by omega), if_pos hp]
    simp [h1, h2, h3]
theorem rightB_iff {h : Holding} : rightB h = true ↔ (1 ≤ h.Body ∧ h.Body ≤ 400) ∧ (0 ≤ h.Epoch ∧ h.Epoch ≤ 1099511627776) ∧ ((h.Phase = 0 ∧ h.Peer = 0 ∧ h.Data = []) ∨ (h.Phase = 1 ∧ h.Peer = 0) ∨ ((h.Phase = 2 ∨ h.Phase = 3 ∨ h.Phase = 4) ∧ 0 ≤ h.Peer ∧ h.Peer < 16 ∧ 1 ≤ h.Epoch)) := by
  constructor
  · intro hr
    have hb := rightB_body hr
    rw [rightB_neg (by omega)] at hr
    refine ⟨by omega, by omega, ?_⟩
    split at hr
    · left; simp at hr; exact ⟨by assumption, hr⟩
    · split at hr
      · right; left; simp at hr; exact ⟨by assumption, hr⟩
      · split at hr
        · right; right; simp at hr; refine ⟨by assumption, ?_⟩; omega
        · simp at hr
  · rintro ⟨h1, h2, h3⟩
    exact rightB_mk h1 h2 h3
theorem getB_right {l : List Holding} (hv : validB 0 l = true) (t : Int) : hasB t l = true → getB t l ∈ l ∧ rightB (getB t l) = true := by
  intro hh
  obtain ⟨x, hx, hb⟩ := hasB_iff.1 hh
  rw [getB_of (valid_uniq hv) hx hb]
  exact ⟨hx, (valid_mem hv x hx).1⟩
/-- a phase that is not 0 is that of a holding of the list -/
theorem getB_phase {l : List Holding} (hv : validB 0 l = true) {t : Int} (hp : (getB t l).Phase ≠ 0) : rightB (getB t l) = true := by
  cases hh : hasB t l with
  | true => exact (getB_right hv t hh).2
  | false => rw [getB_none hh] at hp; simp at hp
/-! ## the steps -/
def beginK (l : List Holding) (c : Int) (d : Str) : Known := if 1 ≤ c ∧ c ≤ 400 then (if hasB c l then ⟨[], [], 6⟩ else ⟨putB ⟨c, 0, 1, 0, d⟩ l, [], 0⟩) else ⟨[], [], 1⟩
def putK (l : List Holding) (c : Int) (d : Str) : Known := if (getB c l).Phase = 1 then ⟨putB ⟨(getB c l).Body, (getB c l).Epoch, (getB c l).Phase, (getB c l).Peer, d⟩ l, [], 0⟩ else ⟨[], [], 4⟩
def offerK (l : List Holding) (f c t : Int) : Known := if (0 ≤ f ∧ f < 16) ∧ (0 ≤ t ∧ t < 16) ∧ f ≠ t then (if (getB c l).Phase = 1 then (if (getB c l).Epoch = 1099511627776 then ⟨[], [], 2⟩ else ⟨putB ⟨c, (getB c l).Epoch + 1, 2, t, (getB c l).Data⟩ l, [], 0⟩) else ⟨[], [], 4⟩) else ⟨[], [], 1⟩
def cancelK (l : List Holding) (c : Int) : Known := if (getB c l).Phase = 2 then ⟨putB ⟨c, (getB c l).Epoch, 1, 0, (getB c l).Data⟩ l, [], 0⟩ else ⟨[], [], 4⟩
section
variable {F : Nat} {l : List Holding} (hF : l.length < F) (hl : l.length ≤ 1000000) (hv : validB 0 l = true)
include hF hl hv
theorem region_Begin_val {c : Int} {d : Str} (hc : inR .i64 c) : region_Begin_S F l c d = some ((beginK l c d).L, (beginK l c d).E) := by
  obtain ⟨p, p0, p1, p2, p3, p4⟩ := region_place_val (t := c) hF hl hv hc
  unfold region_Begin_S beginK
  simp only [region_known_S, Option.bind_some, p2, un2]
  by_cases h : 1 ≤ c ∧ c ≤ 400
  · rw [if_pos h, region_set_val' hF hl hv h]
    simp only [h.1, h.2, decide_true, Bool.and_self, Bool.not_true, Bool.false_eq_true, if_false, Option.bind_some]
    cases hasB c l <;> rfl
  · rw [if_neg h]
    have : (decide (1 ≤ c) && decide (c ≤ 400)) = false := by simpa using h
    rw [this]; rfl
theorem ref_Begin_val {c : Int} {d : Str} : skewbackref41_Begin_S F l c d = some (beginK l c d) := by
  unfold skewbackref41_Begin_S beginK
  simp only [skewbackref41_body_S, Option.bind_some]
  by_cases h : 1 ≤ c ∧ c ≤ 400
  · rw [if_pos h]
    simp only [h.1, h.2, decide_true, Bool.and_self, Bool.not_true, Bool.false_eq_true, if_false]
    have := iter_foldE (ρ := Int) l (fun (_ : Unit) i => i) (fun i_2 => if (decide (i_2 < (l.length : Int))) = true then (Option.bind (idx? l i_2) (fun x_3 => if (decide (x_3.Body = c)) = true then (some (.inr (.inr (⟨[], [], 6⟩ : Known)))) else (some (.inl (IntKind.i64.wrap (i_2 + 1)))))) else (some (.inr (.inl ()))))
      (fun (_ : Unit) (a : Holding) => if decide (a.Body = c) = true then Sum.inr (Sum.inr (⟨[], [], 6⟩ : Known)) else Sum.inl ()) (fun _ => (Sum.inl () : Unit ⊕ Known)) (fun s i h0 h1 => by
        simp only [idx?_eq h0 h1, Option.bind_some, h1, decide_true, if_true]
        rw [wrap64 (by omega) (by omega)]
        split <;> rfl) (fun s => by simp) F () hF
    rw [this]
    have go : ∀ l : List Holding, foldE (fun (_ : Unit) (a : Holding) => if decide (a.Body = c) = true then Sum.inr (Sum.inr (⟨[], [], 6⟩ : Known)) else Sum.inl ()) (fun _ => (Sum.inl () : Unit ⊕ Known)) () l = if hasB c l = true then .inr ⟨[], [], 6⟩ else .inl () := by
      intro l
      induction l with
      | nil => rfl
      | cons a l ih =>
        rw [foldE, hasB]
        by_cases h : a.Body = c
        · simp [h]
        · simp only [h, decide_false, Bool.false_or, Bool.false_eq_true, if_false]
          exact ih
    rw [go, ref_set_val hF hl hv]
    cases hasB c l <;> rfl
  · rw [if_neg h]
    have : (decide (1 ≤ c) && decide (c ≤ 400)) = false := by simpa using h
    rw [this]; rfl
theorem region_Put_val {c : Int} {d : Str} (hc : inR .i64 c) : region_Put_S F l c d = some ((putK l c d).L, (putK l c d).E) := by
  unfold region_Put_S putK
  rw [region_Get_val hF hl hv hc]
  simp only [Option.bind_some]
  by_cases h : (getB c l).Phase = 1
  · have hr := (rightB_iff.1 (getB_phase hv (by omega : (getB c l).Phase ≠ 0))).1
    rw [if_neg (by simpa using h), if_pos h, region_set_val' hF hl hv hr]
    rfl
  · rw [if_pos (by simpa using h), if_neg h]
theorem ref_Put_val {c : Int} {d : Str} : skewbackref41_Put_S F l c d = some (putK l c d) := by
  unfold skewbackref41_Put_S putK
  rw [ref_Get_val hF hl]
  simp only [Option.bind_some]
  by_cases h : (getB c l).Phase = 1
  · rw [if_neg (by simpa using h), if_pos h, ref_set_val hF hl hv]
    rfl
  · rw [if_pos (by simpa using h), if_neg h]
theorem region_Cancel_val {c : Int} (hc : inR .i64 c) : region_Cancel_S F l c = some ((cancelK l c).L, (cancelK l c).E) := by
  unfold region_Cancel_S cancelK
  rw [region_Get_val hF hl hv hc]
  simp only [Option.bind_some]
  by_cases h : (getB c l).Phase = 2
  · have hr := (rightB_iff.1 (getB_phase hv (by omega : (getB c l).Phase ≠ 0))).1
    rw [if_neg (by simpa using h), if_pos h, region_set_val' hF hl hv hr, getB_body]
    rfl
  · rw [if_pos (by simpa using h), if_neg h]
theorem ref_Cancel_val {c : Int} : skewbackref41_Cancel_S F l c = some (cancelK l c) := by
  unfold skewbackref41_Cancel_S cancelK
  rw [ref_Get_val hF hl]
  simp only [Option.bind_some]
  by_cases h : (getB c l).Phase = 2
  · rw [if_neg (by simpa using h), if_pos h, ref_set_val hF hl hv]
    rfl
  · rw [if_pos (by simpa using h), if_neg h]
theorem region_Offer_val {f c t : Int} (hc : inR .i64 c) : region_Offer_S F l f c t = some ((offerK l f c t).L, (offerK l f c t).E) := by
  unfold region_Offer_S offerK
  rw [region_Get_val hF hl hv hc]
  simp only [Option.bind_some, region_node_S, gcall_some]
  by_cases hn : (0 ≤ f ∧ f < 16) ∧ (0 ≤ t ∧ t < 16) ∧ f ≠ t
  · rw [if_pos hn]
    obtain ⟨⟨a1, a2⟩, ⟨a3, a4⟩, a5⟩ := hn
    simp only [a1, a2, a3, a4, a5, decide_true, decide_false, Bool.and_self, Bool.not_true, Bool.not_false, if_true, Bool.or_self, Bool.false_eq_true, if_false]
    by_cases h : (getB c l).Phase = 1
    · have hr := rightB_iff.1 (getB_phase hv (by omega : (getB c l).Phase ≠ 0))
      rw [if_neg (by simpa using h), if_pos h]
      by_cases he : (getB c l).Epoch = 1099511627776
      · rw [if_pos (by simpa using he), if_pos he]
      · rw [if_neg (by simpa using he), if_neg he, wrap64 (by omega) (by omega), region_set_val' hF hl hv hr.1, getB_body]
        rfl
    · rw [if_pos (by simpa using h), if_neg h]
  · rw [if_neg hn, if_pos]
    by_cases b1 : 0 ≤ f ∧ f < 16
    · by_cases b2 : 0 ≤ t ∧ t < 16
      · have : f = t := by
          by_cases e : f = t
          · exact e
          · exact absurd ⟨b1, b2, e⟩ hn
        simp [this]
      · have : (decide (0 ≤ t) && decide (t < 16)) = false := by simpa using b2
        simp [b1.1, b1.2, this]
    · have : (decide (0 ≤ f) && decide (f < 16)) = false := by simpa using b1
      simp [this]
theorem ref_Offer_val {f c t : Int} : skewbackref41_Offer_S F l f c t = some (offerK l f c t) := by
  unfold skewbackref41_Offer_S offerK
  rw [ref_Get_val hF hl]
  simp only [Option.bind_some, skewbackref41_node_S, gcall_some, skewbackref41_most_S]
  by_cases hn : (0 ≤ f ∧ f < 16) ∧ (0 ≤ t ∧ t < 16) ∧ f ≠ t
  · rw [if_pos hn]
    obtain ⟨⟨a1, a2⟩, ⟨a3, a4⟩, a5⟩ := hn
    simp only [a1, a2, a3, a4, a5, decide_true, decide_false, Bool.and_self, Bool.not_true, Bool.not_false, if_true, Bool.or_self, Bool.false_eq_true, if_false]
    by_cases h : (getB c l).Phase = 1
    · have hr := rightB_iff.1 (getB_phase hv (by omega : (getB c l).Phase ≠ 0))
      rw [if_neg (by simpa using h), if_pos h]
      by_cases he : (getB c l).Epoch = 1099511627776
      · rw [if_pos (by simp; omega), if_pos he]
      · rw [if_neg (by simp; omega), if_neg he, wrap64 (by omega) (by omega), ref_set_val hF hl hv]
        rfl
    · rw [if_pos (by simpa using h), if_neg h]
  · rw [if_neg hn, if_pos]
    by_cases b1 : 0 ≤ f ∧ f < 16
    · by_cases b2 : 0 ≤ t ∧ t < 16
      · have : f = t := by
          by_cases e : f = t
          · exact e
          · exact absurd ⟨b1, b2, e⟩ hn
        simp [this]
      · have : (decide (0 ≤ t) && decide (t < 16)) = false := by simpa using b2
        simp [b1.1, b1.2, this]
    · have : (decide (0 ≤ f) && decide (f < 16)) = false := by simpa using b1
      simp [this]
end
def badP (a : Int) (x : Parcel) : Prop := x.To ≠ a ∨ ¬ (0 ≤ x.From ∧ x.From < 16) ∨ x.From = a ∨ ¬ (1 ≤ x.Body ∧ x.Body ≤ 400) ∨ x.Epoch < 1 ∨ 1099511627776 < x.Epoch
instance (a : Int) (x : Parcel) : Decidable (badP a x) := by unfold badP; infer_instance
def ansK (a : Int) (x : Parcel) (q : Int) : List Parcel := [⟨a, x.From, q, x.Body, x.Epoch, []⟩]
def matK (l : List Holding) (x : Parcel) : Prop := (getB x.Body l).Epoch = x.Epoch ∧ (getB x.Body l).Peer = x.From
instance (l : List Holding) (x : Parcel) : Decidable (matK l x) := by unfold matK; infer_instance
def recvK (l : List Holding) (a : Int) (x : Parcel) : Known :=
  if badP a x then ⟨l, [], 0⟩
  else if x.Kind = 1 then
    (if (getB x.Body l).Epoch < x.Epoch ∧ ((getB x.Body l).Phase = 0 ∨ (getB x.Body l).Phase = 4 ∨ (getB x.Body l).Phase = 3) then ⟨putB ⟨x.Body, x.Epoch, 4, x.From, x.Data⟩ l, ansK a x 2, 0⟩
     else if (getB x.Body l).Phase = 4 ∧ matK l x then ⟨l, ansK a x 2, 0⟩ else ⟨l, [], 0⟩)
  else if x.Kind = 2 then
    (if (getB x.Body l).Phase = 2 ∧ matK l x then ⟨putB ⟨x.Body, x.Epoch, 3, x.From, (getB x.Body l).Data⟩ l, ansK a x 3, 0⟩ else ⟨l, [], 0⟩)
  else if x.Kind = 3 then
    (if (getB x.Body l).Phase = 4 ∧ matK l x then ⟨putB ⟨x.Body, x.Epoch, 1, 0, (getB x.Body l).Data⟩ l, ansK a x 4, 0⟩
     else if x.Epoch < (getB x.Body l).Epoch ∨ ((getB x.Body l).Epoch = x.Epoch ∧ (getB x.Body l).Phase ≠ 4) then ⟨l, ansK a x 4, 0⟩ else ⟨l, [], 0⟩)
  else if x.Kind = 4 then
    (if (getB x.Body l).Phase = 3 ∧ matK l x then ⟨putB ⟨x.Body, x.Epoch, 0, 0, []⟩ l, [], 0⟩ else ⟨l, [], 0⟩)
  else ⟨l, [], 0⟩
theorem bad_region {F : Nat} {a : Int} {x : Parcel} {β : Type} (k : Bool → Option β) :
    Option.bind (gcall (!(decide (x.To ≠ a))) (region_node_S F x.From)) (fun x_1 => letN (((decide (x.To ≠ a)) || (!x_1)) || (decide (x.From = a))) fun x_2 => Option.bind (gcall (!x_2) (region_known_S F x.Body)) (fun x_3 => letN (((x_2 || (!x_3)) || (decide (x.Epoch < 1))) || (decide (1099511627776 < x.Epoch))) k)) = k (decide (badP a x)) := by
  simp only [region_node_S, region_known_S, gcall_some, Option.bind_some, letN]
  congr 1
  rw [Bool.eq_iff_iff]
  simp only [badP, decide_eq_true_eq]
  by_cases h1 : x.To = a
  · by_cases h2 : 0 ≤ x.From ∧ x.From < 16
    · by_cases h3 : x.From = a
      · simp [h1, h2, h3]
      · simp [h1, h2.1, h2.2, h3]; omega
    · have : (decide (0 ≤ x.From) && decide (x.From < 16)) = false := by simpa using h2
      simp [h1, h2, this]
  · simp [h1]
theorem bad_ref {F : Nat} {a : Int} {x : Parcel} {β : Type} (A B : Option β) :
    Option.bind (gcall (!(decide (x.To ≠ a))) (skewbackref41_node_S F x.From)) (fun x_1 => Option.bind (gcall (!(((decide (x.To ≠ a)) || (!x_1)) || (decide (x.From = a)))) (skewbackref41_body_S F x.Body)) (fun x_2 => Option.bind (gcall (!(((((decide (x.To ≠ a)) || (!x_1)) || (decide (x.From = a))) || (!x_2)) || (decide (x.Epoch < 1)))) (skewbackref41_most_S F)) (fun x_3 => if ((((((decide (x.To ≠ a)) || (!x_1)) || (decide (x.From = a))) || (!x_2)) || (decide (x.Epoch < 1))) || (decide (x_3 < x.Epoch))) = true then A else B))) = if badP a x then A else B := by
  simp only [skewbackref41_node_S, skewbackref41_body_S, skewbackref41_most_S, gcall_some, Option.bind_some]
  by_cases hb : badP a x
  · rw [if_pos hb, if_pos]
    simp only [badP] at hb
    by_cases h1 : x.To = a
    · by_cases h2 : 0 ≤ x.From ∧ x.From < 16
      · by_cases h3 : x.From = a
        · simp [h1, h2, h3]
        · by_cases h4 : 1 ≤ x.Body ∧ x.Body ≤ 400
          · by_cases h5 : x.Epoch < 1
            · simp [h1, h2.1, h2.2, h3, h4.1, h4.2, h5]
            · have h6 : 1099511627776 < x.Epoch := by omega
              simp [h1, h2.1, h2.2, h3, h4.1, h4.2, h5, h6]
          · have : (decide (1 ≤ x.Body) && decide (x.Body ≤ 400)) = false := by simpa using h4
            simp [h1, h2.1, h2.2, h3, this]
      · have : (decide (0 ≤ x.From) && decide (x.From < 16)) = false := by simpa using h2
        simp [h1, this]
    · simp [h1]
  · rw [if_neg hb, if_neg]
    simp only [badP] at hb
    have h1 : x.To = a := by omega
    have h2 : 0 ≤ x.From ∧ x.From < 16 := by omega
    have h3 : ¬ x.From = a := by omega
    have h4 : 1 ≤ x.Body ∧ x.Body ≤ 400 := by omega
    have h5 : ¬ x.Epoch < 1 := by omega
    have h6 : ¬ 1099511627776 < x.Epoch := by omega
    simp [h1, h2.1, h2.2, h3, h4.1, h4.2, h5, h6]
    try omega
section
variable {F : Nat} {l : List Holding} (hF : l.length < F) (hl : l.length ≤ 1000000) (hv : validB 0 l = true)
include hF hl hv
theorem ref_Receive_val {a : Int} {x : Parcel} : skewbackref41_Receive_S F l a x = some (recvK l a x) := by
  unfold skewbackref41_Receive_S
  rw [bad_ref (a := a) (x := x)]
  unfold recvK
  by_cases hb : badP a x
  · rw [if_pos hb, if_pos hb]
  · rw [if_neg hb, if_neg hb, ref_Get_val hF hl]
    have hta : x.To = a := by simp only [badP] at hb; omega
    have hmd : (decide ((getB x.Body l).Epoch = x.Epoch) && decide ((getB x.Body l).Peer = x.From)) = decide (matK l x) := by rw [Bool.eq_iff_iff, decide_eq_true_iff]; simp [matK]
    have hans : ∀ q, skewbackref41_answer_S F x q = some (ansK a x q) := fun q => by simp [skewbackref41_answer_S, ansK, hta]
    simp only [Option.bind_some, letN, hmd, hans, ref_set_val hF hl hv]
    by_cases k1 : x.Kind = 1
    · rw [if_pos k1, if_pos (show decide (x.Kind = 1) = true by simpa using k1)]
      by_cases c1 : (getB x.Body l).Epoch < x.Epoch ∧ ((getB x.Body l).Phase = 0 ∨ (getB x.Body l).Phase = 4 ∨ (getB x.Body l).Phase = 3)
      · rw [if_pos c1, if_pos (by simp; exact ⟨c1.1, by rcases c1.2 with h | h | h <;> simp [h]⟩)]; rfl
      · rw [if_neg c1, if_neg (by simp; intro h; have := fun q => c1 ⟨h, q⟩; omega)]
        by_cases c2 : (getB x.Body l).Phase = 4 ∧ matK l x
        · rw [if_pos c2, if_pos (by simpa using c2)]; rfl
        · rw [if_neg c2, if_neg (by simpa using c2)]; rfl
    by_cases k2 : x.Kind = 2
    · rw [if_neg k1, if_pos k2, if_neg (show ¬ decide (x.Kind = 1) = true by simpa using k1), if_pos (show decide (x.Kind = 2) = true by simpa using k2)]
      by_cases c2 : (getB x.Body l).Phase = 2 ∧ matK l x
      · rw [if_pos c2, if_pos (by simpa using c2)]
        have h1 := c2.2.1
        have h2 := c2.2.2
        simp only [h1, h2, getB_body]; rfl
      · rw [if_neg c2, if_neg (by simpa using c2)]; rfl
    by_cases k3 : x.Kind = 3
    · rw [if_neg k1, if_neg k2, if_pos k3, if_neg (show ¬ decide (x.Kind = 1) = true by simpa using k1), if_neg (show ¬ decide (x.Kind = 2) = true by simpa using k2), if_pos (show decide (x.Kind = 3) = true by simpa using k3)]
      by_cases c2 : (getB x.Body l).Phase = 4 ∧ matK l x
      · rw [if_pos c2, if_pos (by simpa using c2)]; rfl
      · rw [if_neg c2, if_neg (by simpa using c2)]
        by_cases c3 : x.Epoch < (getB x.Body l).Epoch ∨ ((getB x.Body l).Epoch = x.Epoch ∧ (getB x.Body l).Phase ≠ 4)
        · rw [if_pos c3, if_pos (by simpa using c3)]; rfl
        · rw [if_neg c3, if_neg (by simpa using c3)]; rfl
    by_cases k4 : x.Kind = 4
    · rw [if_neg k1, if_neg k2, if_neg k3, if_pos k4, if_neg (show ¬ decide (x.Kind = 1) = true by simpa using k1), if_neg (show ¬ decide (x.Kind = 2) = true by simpa using k2), if_neg (show ¬ decide (x.Kind = 3) = true by simpa using k3), if_pos (show decide (x.Kind = 4) = true by simpa using k4)]
      by_cases c2 : (getB x.Body l).Phase = 3 ∧ matK l x
      · rw [if_pos c2, if_pos (by simpa using c2)]; rfl
      · rw [if_neg c2, if_neg (by simpa using c2)]; rfl
    rw [if_neg k1, if_neg k2, if_neg k3, if_neg k4, if_neg (show ¬ decide (x.Kind = 1) = true by simpa using k1), if_neg (show ¬ decide (x.Kind = 2) = true by simpa using k2), if_neg (show ¬ decide (x.Kind = 3) = true by simpa using k3), if_neg (show ¬ decide (x.Kind = 4) = true by simpa using k4)]; rfl
end
theorem rules_iter {τ : Type} {K : Int} {E : τ} {T : Rule → τ} {n : Nat} {body : Int → Option (Int ⊕ τ)} (hb : ∀ k : Int, 0 ≤ k → body k = if k < 4 then (if (idx [(⟨1, 60⟩ : Rule), ⟨2, 61⟩, ⟨3, 62⟩, ⟨4, 63⟩] k).kind = K then some (.inr (T (idx [(⟨1, 60⟩ : Rule), ⟨2, 61⟩, ⟨3, 62⟩, ⟨4, 63⟩] k))) else some (.inl (k + 1))) else some (.inr E)) :
    iter (n + 6) body 0 = some (if K = 1 then T ⟨1, 60⟩ else if K = 2 then T ⟨2, 61⟩ else if K = 3 then T ⟨3, 62⟩ else if K = 4 then T ⟨4, 63⟩ else E) := by
  have i0 : idx [(⟨1, 60⟩ : Rule), ⟨2, 61⟩, ⟨3, 62⟩, ⟨4, 63⟩] 0 = ⟨1, 60⟩ := rfl
  have i1 : idx [(⟨1, 60⟩ : Rule), ⟨2, 61⟩, ⟨3, 62⟩, ⟨4, 63⟩] 1 = ⟨2, 61⟩ := rfl
  have i2 : idx [(⟨1, 60⟩ : Rule), ⟨2, 61⟩, ⟨3, 62⟩, ⟨4, 63⟩] 2 = ⟨3, 62⟩ := rfl
  have i3 : idx [(⟨1, 60⟩ : Rule), ⟨2, 61⟩, ⟨3, 62⟩, ⟨4, 63⟩] 3 = ⟨4, 63⟩ := rfl
  have b0 := hb 0 (by decide)
  have b1 := hb 1 (by decide)
  have b2 := hb 2 (by decide)
  have b3 := hb 3 (by decide)
  have b4 := hb 4 (by decide)
  rw [if_pos (by decide), i0] at b0
  rw [if_pos (by decide), i1] at b1
  rw [if_pos (by decide), i2] at b2
  rw [if_pos (by decide), i3] at b3
  rw [if_neg (by decide)] at b4
  by_cases k1 : K = 1
  · rw [iter_succ, b0, if_pos k1, if_pos k1.symm]; rfl
  rw [if_neg (fun e => k1 e.symm)] at b0
  rw [iter_succ, b0, if_neg k1]
  simp only [Option.bind_some, alt2]
  rw [show (0 : Int) + 1 = 1 from rfl]
  by_cases k2 : K = 2
  · rw [iter_succ, b1, if_pos k2, if_pos k2.symm]; rfl
  rw [if_neg (fun e => k2 e.symm)] at b1
  rw [iter_succ, b1, if_neg k2]
  simp only [Option.bind_some, alt2]
  rw [show (1 : Int) + 1 = 2 from rfl]
  by_cases k3 : K = 3
  · rw [iter_succ, b2, if_pos k3, if_pos k3.symm]; rfl
  rw [if_neg (fun e => k3 e.symm)] at b2
  rw [iter_succ, b2, if_neg k3]
  simp only [Option.bind_some, alt2]
  rw [show (2 : Int) + 1 = 3 from rfl]
  by_cases k4 : K = 4
  · rw [iter_succ, b3, if_pos k4, if_pos k4.symm]; rfl
  rw [if_neg (fun e => k4 e.symm)] at b3
  rw [iter_succ, b3, if_neg k4]
  simp only [Option.bind_some, alt2]
  rw [show (3 : Int) + 1 = 4 from rfl, iter_succ, b4]
  rfl
/-- what a rule makes of a holding, and its answer -/
def ruleN (q : Int) (g : Holding) (x : Parcel) (m : Bool) : Holding × Int :=
  if q = 1 then (if g.Epoch < x.Epoch ∧ (g.Phase = 0 ∨ g.Phase = 4 ∨ g.Phase = 3) then (⟨x.Body, x.Epoch, 4, x.From, x.Data⟩, 2) else if g.Phase = 4 ∧ m = true then (g, 2) else (g, 0))
  else if q = 2 then (if g.Phase = 2 ∧ m = true then (⟨g.Body, g.Epoch, 3, g.Peer, g.Data⟩, 3) else (g, 0))
  else if q = 3 then (if g.Phase = 4 ∧ m = true then (⟨g.Body, g.Epoch, 1, 0, g.Data⟩, 4) else if x.Epoch < g.Epoch ∨ (g.Epoch = x.Epoch ∧ g.Phase ≠ 4) then (g, 4) else (g, 0))
  else (if g.Phase = 3 ∧ m = true then (⟨g.Body, g.Epoch, 0, 0, []⟩, 0) else (g, 0))
theorem ruleAt_val {F : Nat} {q : Int} {f : Nat} {g : Holding} {x : Parcel} {m : Bool} (hq : (q = 1 ∧ f = 60) ∨ (q = 2 ∧ f = 61) ∨ (q = 3 ∧ f = 62) ∨ (q = 4 ∧ f = 63)) : ruleAt_S F f g x m = some (ruleN q g x m) := by
  rcases hq with ⟨rfl, rfl⟩ | ⟨rfl, rfl⟩ | ⟨rfl, rfl⟩ | ⟨rfl, rfl⟩
  · simp only [ruleAt_S, if_true, region_rules_1_S, letN, ruleN]
    by_cases c1 : g.Epoch < x.Epoch ∧ (g.Phase = 0 ∨ g.Phase = 4 ∨ g.Phase = 3)
    · rw [if_pos c1, if_pos (by simp; exact ⟨c1.1, by rcases c1.2 with h | h | h <;> simp [h]⟩)]
    · rw [if_neg c1, if_neg (by simp; intro h; have := fun q => c1 ⟨h, q⟩; omega)]
      by_cases c2 : g.Phase = 4 ∧ m = true
      · rw [if_pos c2, if_pos (by simpa using c2)]
      · rw [if_neg c2, if_neg (by simpa using c2)]
  · rw [show ruleAt_S F 61 g x m = region_rules_2_S F g x m from rfl, show ruleN 2 g x m = (if g.Phase = 2 ∧ m = true then (⟨g.Body, g.Epoch, 3, g.Peer, g.Data⟩, 3) else (g, 0)) from rfl]
    unfold region_rules_2_S
    by_cases c2 : g.Phase = 2 ∧ m = true
    · rw [if_pos c2, if_neg (by simp [c2.1, c2.2])]
    · rw [if_neg c2, if_pos (by simp; by_cases h : g.Phase = 2 <;> simp_all)]
  · rw [show ruleAt_S F 62 g x m = region_rules_3_S F g x m from rfl, show ruleN 3 g x m = (if g.Phase = 4 ∧ m = true then (⟨g.Body, g.Epoch, 1, 0, g.Data⟩, 4) else if x.Epoch < g.Epoch ∨ (g.Epoch = x.Epoch ∧ g.Phase ≠ 4) then (g, 4) else (g, 0)) from rfl]
    unfold region_rules_3_S letN
    dsimp only
    by_cases c2 : g.Phase = 4 ∧ m = true
    · rw [if_pos c2, if_pos (by simpa using c2)]
    · rw [if_neg c2, if_neg (by simpa using c2)]
      by_cases c3 : x.Epoch < g.Epoch ∨ (g.Epoch = x.Epoch ∧ g.Phase ≠ 4)
      · rw [if_pos c3, if_pos (by simpa using c3)]
      · rw [if_neg c3, if_neg (by simpa using c3)]
  · rw [show ruleAt_S F 63 g x m = region_rules_4_S F g x m from rfl, show ruleN 4 g x m = (if g.Phase = 3 ∧ m = true then (⟨g.Body, g.Epoch, 0, 0, []⟩, 0) else (g, 0)) from rfl]
    unfold region_rules_4_S
    by_cases c2 : g.Phase = 3 ∧ m = true
    · rw [if_pos c2, if_pos (by simpa using c2)]
    · rw [if_neg c2, if_neg (by simpa using c2)]
theorem ruleN_body {q : Int} {g : Holding} {x : Parcel} {m : Bool} (h : g.Body = x.Body) : (ruleN q g x m).1.Body = x.Body := by
  unfold ruleN
  repeat' split
  all_goals first | exact h | rfl
section
variable {F : Nat} {l : List Holding} (hF : l.length < F) (hl : l.length ≤ 1000000) (hv : validB 0 l = true)
include hF hl hv
theorem region_Receive_val {a : Int} {x : Parcel} (hF6 : 6 ≤ F) : region_Receive_S F l a x = some ((recvK l a x).L, (recvK l a x).Sent) := by
  unfold region_Receive_S
  rw [bad_region (a := a) (x := x)]
  have hclone : slices_Clone_S F l = some l := by unfold slices_Clone_S; rw [app?_nil (by omega)]; rfl
  by_cases hb : badP a x
  · rw [if_pos (by simpa using hb), hclone]
    simp only [Option.bind_some, recvK, if_pos hb]
  · rw [if_neg (by simpa using hb), hclone]
    have hbody : 1 ≤ x.Body ∧ x.Body ≤ 400 := by simp only [badP] at hb; omega
    rw [region_Get_val hF hl hv (inR_i64 (by omega) (by omega))]
    have hgb := getB_body x.Body l
    simp only [Option.bind_some, region_rules_S]
    have hmd : (decide ((getB x.Body l).Epoch = x.Epoch) && decide ((getB x.Body l).Peer = x.From)) = decide (matK l x) := by rw [Bool.eq_iff_iff, decide_eq_true_iff]; simp [matK]
    obtain ⟨n, rfl⟩ : ∃ n, F = n + 6 := ⟨F - 6, by omega⟩
    have hset : ∀ r : Rule, (if decide ((ruleN r.kind (getB x.Body l) x (decide (matK l x))).1 ≠ getB x.Body l) = true then (Option.bind (region_set_S (n + 6) l (ruleN r.kind (getB x.Body l) x (decide (matK l x))).1) (fun x_15 => some x_15)) else some l) = some (if (ruleN r.kind (getB x.Body l) x (decide (matK l x))).1 ≠ getB x.Body l then putB (ruleN r.kind (getB x.Body l) x (decide (matK l x))).1 l else l) := fun r => by
      by_cases h : (ruleN r.kind (getB x.Body l) x (decide (matK l x))).1 = getB x.Body l
      · rw [if_neg (by simpa using h), if_neg (by simpa using h)]
      · have hb2 := ruleN_body (q := r.kind) (m := decide (matK l x)) hgb
        rw [if_pos (by simpa using h), if_pos (by simpa using h), region_set_val hF hl hv (by omega) (by omega)]
        rfl
    rw [rules_iter (K := x.Kind) (E := Sum.inl ()) (T := fun r => Sum.inr ((if (ruleN r.kind (getB x.Body l) x (decide (matK l x))).1 ≠ getB x.Body l then putB (ruleN r.kind (getB x.Body l) x (decide (matK l x))).1 l else l), if (ruleN r.kind (getB x.Body l) x (decide (matK l x))).2 = 0 then [] else ansK a x (ruleN r.kind (getB x.Body l) x (decide (matK l x))).2))]
    · unfold recvK
      rw [if_neg hb]
      simp only [Option.bind_some, hclone]
      have fin : ∀ q : Int, (if (ruleN q (getB x.Body l) x (decide (matK l x))).1 ≠ getB x.Body l then putB (ruleN q (getB x.Body l) x (decide (matK l x))).1 l else l, if (ruleN q (getB x.Body l) x (decide (matK l x))).2 = 0 then [] else ansK a x (ruleN q (getB x.Body l) x (decide (matK l x))).2) =
          (((if q = 1 then
              (if (getB x.Body l).Epoch < x.Epoch ∧ ((getB x.Body l).Phase = 0 ∨ (getB x.Body l).Phase = 4 ∨ (getB x.Body l).Phase = 3) then ⟨putB ⟨x.Body, x.Epoch, 4, x.From, x.Data⟩ l, ansK a x 2, 0⟩
               else if (getB x.Body l).Phase = 4 ∧ matK l x then ⟨l, ansK a x 2, 0⟩ else ⟨l, [], 0⟩)
            else if q = 2 then
              (if (getB x.Body l).Phase = 2 ∧ matK l x then ⟨putB ⟨x.Body, x.Epoch, 3, x.From, (getB x.Body l).Data⟩ l, ansK a x 3, 0⟩ else ⟨l, [], 0⟩)
            else if q = 3 then
              (if (getB x.Body l).Phase = 4 ∧ matK l x then ⟨putB ⟨x.Body, x.Epoch, 1, 0, (getB x.Body l).Data⟩ l, ansK a x 4, 0⟩
               else if x.Epoch < (getB x.Body l).Epoch ∨ ((getB x.Body l).Epoch = x.Epoch ∧ (getB x.Body l).Phase ≠ 4) then ⟨l, ansK a x 4, 0⟩ else ⟨l, [], 0⟩)
            else
              (if (getB x.Body l).Phase = 3 ∧ matK l x then ⟨putB ⟨x.Body, x.Epoch, 0, 0, []⟩ l, [], 0⟩ else ⟨l, [], 0⟩) : Known)).L, ((if q = 1 then
              (if (getB x.Body l).Epoch < x.Epoch ∧ ((getB x.Body l).Phase = 0 ∨ (getB x.Body l).Phase = 4 ∨ (getB x.Body l).Phase = 3) then ⟨putB ⟨x.Body, x.Epoch, 4, x.From, x.Data⟩ l, ansK a x 2, 0⟩
               else if (getB x.Body l).Phase = 4 ∧ matK l x then ⟨l, ansK a x 2, 0⟩ else ⟨l, [], 0⟩)
            else if q = 2 then
              (if (getB x.Body l).Phase = 2 ∧ matK l x then ⟨putB ⟨x.Body, x.Epoch, 3, x.From, (getB x.Body l).Data⟩ l, ansK a x 3, 0⟩ else ⟨l, [], 0⟩)
            else if q = 3 then
              (if (getB x.Body l).Phase = 4 ∧ matK l x then ⟨putB ⟨x.Body, x.Epoch, 1, 0, (getB x.Body l).Data⟩ l, ansK a x 4, 0⟩
               else if x.Epoch < (getB x.Body l).Epoch ∨ ((getB x.Body l).Epoch = x.Epoch ∧ (getB x.Body l).Phase ≠ 4) then ⟨l, ansK a x 4, 0⟩ else ⟨l, [], 0⟩)
            else
              (if (getB x.Body l).Phase = 3 ∧ matK l x then ⟨putB ⟨x.Body, x.Epoch, 0, 0, []⟩ l, [], 0⟩ else ⟨l, [], 0⟩) : Known)).Sent) := by
        intro q
        have hne : ∀ (z : Holding), (z.Epoch ≠ (getB x.Body l).Epoch ∨ z.Phase ≠ (getB x.Body l).Phase) → z ≠ getB x.Body l := fun z h e => by subst e; simp at h
        unfold ruleN
        simp only [decide_eq_true_eq]
        by_cases k1 : q = 1
        · rw [if_pos k1, if_pos k1]
          by_cases c1 : (getB x.Body l).Epoch < x.Epoch ∧ ((getB x.Body l).Phase = 0 ∨ (getB x.Body l).Phase = 4 ∨ (getB x.Body l).Phase = 3)
          · rw [if_pos c1, if_pos c1, if_pos (hne _ (.inl (by dsimp only; omega)))]; rfl
          · rw [if_neg c1, if_neg c1]
            by_cases c2 : (getB x.Body l).Phase = 4 ∧ matK l x
            · rw [if_pos c2, if_pos c2]; simp
            · rw [if_neg c2, if_neg c2]; simp
        rw [if_neg k1, if_neg k1]
        by_cases k2 : q = 2
        · rw [if_pos k2, if_pos k2]
          by_cases c2 : (getB x.Body l).Phase = 2 ∧ matK l x
          · have h1 := c2.2.1
            have h2 := c2.2.2
            rw [if_pos c2, if_pos c2, if_pos (hne _ (.inr (by dsimp only; omega)))]
            simp only [h1, h2, hgb]; rfl
          · rw [if_neg c2, if_neg c2]; simp
        rw [if_neg k2, if_neg k2]
        by_cases k3 : q = 3
        · rw [if_pos k3, if_pos k3]
          by_cases c2 : (getB x.Body l).Phase = 4 ∧ matK l x
          · have h1 := c2.2.1
            rw [if_pos c2, if_pos c2, if_pos (hne _ (.inr (by dsimp only; omega)))]
            simp only [h1, hgb]; rfl
          · rw [if_neg c2, if_neg c2]
            by_cases c3 : x.Epoch < (getB x.Body l).Epoch ∨ ((getB x.Body l).Epoch = x.Epoch ∧ (getB x.Body l).Phase ≠ 4)
            · rw [if_pos c3, if_pos c3]; simp
            · rw [if_neg c3, if_neg c3]; simp
        rw [if_neg k3, if_neg k3]
        by_cases c2 : (getB x.Body l).Phase = 3 ∧ matK l x
        · have h1 := c2.2.1
          rw [if_pos c2, if_pos c2, if_pos (hne _ (.inr (by dsimp only; omega)))]
          simp only [h1, hgb]; rfl
        · rw [if_neg c2, if_neg c2]; simp
      by_cases k1 : x.Kind = 1
      · rw [if_pos k1, if_pos k1]; simp only [alt2]; rw [fin 1]; rfl
      rw [if_neg k1, if_neg k1]
      by_cases k2 : x.Kind = 2
      · rw [if_pos k2, if_pos k2]; simp only [alt2]; rw [fin 2]; rfl
      rw [if_neg k2, if_neg k2]
      by_cases k3 : x.Kind = 3
      · rw [if_pos k3, if_pos k3]; simp only [alt2]; rw [fin 3]; rfl
      rw [if_neg k3, if_neg k3]
      by_cases k4 : x.Kind = 4
      · rw [if_pos k4, if_pos k4]; simp only [alt2]; rw [fin 4]; rfl
      rw [if_neg k4, if_neg k4]
    · intro k hk
      by_cases h4 : k < 4
      · have hlen : ([(⟨1, 60⟩ : Rule), ⟨2, 61⟩, ⟨3, 62⟩, ⟨4, 63⟩].length : Int) = 4 := rfl
        rw [if_pos h4, if_pos (by simpa [hlen] using h4), idx?_eq hk (by rw [hlen]; exact h4)]
        have hq : ∀ k : Int, 0 ≤ k → k < 4 → ((idx [(⟨1, 60⟩ : Rule), ⟨2, 61⟩, ⟨3, 62⟩, ⟨4, 63⟩] k).kind = 1 ∧ (idx [(⟨1, 60⟩ : Rule), ⟨2, 61⟩, ⟨3, 62⟩, ⟨4, 63⟩] k).next = 60) ∨ ((idx [(⟨1, 60⟩ : Rule), ⟨2, 61⟩, ⟨3, 62⟩, ⟨4, 63⟩] k).kind = 2 ∧ (idx [(⟨1, 60⟩ : Rule), ⟨2, 61⟩, ⟨3, 62⟩, ⟨4, 63⟩] k).next = 61) ∨ ((idx [(⟨1, 60⟩ : Rule), ⟨2, 61⟩, ⟨3, 62⟩, ⟨4, 63⟩] k).kind = 3 ∧ (idx [(⟨1, 60⟩ : Rule), ⟨2, 61⟩, ⟨3, 62⟩, ⟨4, 63⟩] k).next = 62) ∨ ((idx [(⟨1, 60⟩ : Rule), ⟨2, 61⟩, ⟨3, 62⟩, ⟨4, 63⟩] k).kind = 4 ∧ (idx [(⟨1, 60⟩ : Rule), ⟨2, 61⟩, ⟨3, 62⟩, ⟨4, 63⟩] k).next = 63) := fun k h0 h1 => by
          have : k = 0 ∨ k = 1 ∨ k = 2 ∨ k = 3 := by omega
          rcases this with rfl | rfl | rfl | rfl
          · exact .inl ⟨rfl, rfl⟩
          · exact .inr (.inl ⟨rfl, rfl⟩)
          · exact .inr (.inr (.inl ⟨rfl, rfl⟩))
          · exact .inr (.inr (.inr ⟨rfl, rfl⟩))
        simp only [Option.bind_some]
        rw [wrap64 (by omega) (by omega)]
        by_cases hkk : (idx [(⟨1, 60⟩ : Rule), ⟨2, 61⟩, ⟨3, 62⟩, ⟨4, 63⟩] k).kind = x.Kind
        · rw [if_pos hkk, if_neg (by simpa using hkk)]
          simp only [letN, hmd]
          rw [ruleAt_val (hq k hk h4)]
          simp only [Option.bind_some, un2, hset]
          by_cases hz : (ruleN (idx [(⟨1, 60⟩ : Rule), ⟨2, 61⟩, ⟨3, 62⟩, ⟨4, 63⟩] k).kind (getB x.Body l) x (decide (matK l x))).2 = 0
          · rw [if_pos (by simpa using hz), if_pos hz]
          · rw [if_neg (by simpa using hz), if_neg hz]; rfl
        · rw [if_neg hkk, if_pos (by simpa using hkk)]
      · have hlen : ([(⟨1, 60⟩ : Rule), ⟨2, 61⟩, ⟨3, 62⟩, ⟨4, 63⟩].length : Int) = 4 := rfl
        rw [if_neg h4, if_neg (by simpa [hlen] using h4)]
end
end Go.Proofs.Ytipepglcceogiaa
