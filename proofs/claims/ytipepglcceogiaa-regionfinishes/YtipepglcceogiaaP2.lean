/- the plain law -/
import Derived.Test.YtipepglcceogiaaP1
namespace Go.Proofs.Ytipepglcceogiaa
open Go.Sk
open Go
set_option linter.unusedSimpArgs false
set_option linter.unusedVariables false
/-! ## what compares and collects -/
theorem eq_loop {α : Type} [Inhabited α] [DecidableEq α] {a b : List α} (hlen : a.length = b.length) {body : Int → Option (Int ⊕ (Unit ⊕ Bool))} (hb : ∀ i : Int, 0 ≤ i → i < a.length → body i = if idx a i ≠ idx b i then some (.inr (.inr false)) else some (.inl (i + 1))) (he : body a.length = some (.inr (.inl ()))) :
    ∀ (F : Nat) (k : Int), 0 ≤ k → k ≤ a.length → (∀ j : Int, 0 ≤ j → j < k → idx a j = idx b j) → (a.length : Int) - k < F → iter F body k = some (if a = b then .inl () else .inr false) := by
  intro F
  induction F with
  | zero => intro k h0 h1 _ h; omega
  | succ F ih =>
    intro k h0 h1 hI hF
    rw [iter_succ]
    by_cases hk : k < a.length
    · rw [hb k h0 hk]
      by_cases hd : idx a k = idx b k
      · rw [if_neg (by simpa using hd)]
        simp only [Option.bind_some, alt2]
        refine ih (k + 1) (by omega) (by omega) (fun j hj hj' => ?_) (by omega)
        by_cases e : j = k
        · subst e; exact hd
        · exact hI j hj (by omega)
      · rw [if_pos hd, if_neg (fun e => hd (by rw [e]))]; rfl
    · have : k = a.length := by omega
      subst this
      rw [he]
      have : a = b := by
        refine List.ext_getElem hlen fun i h1 h2 => ?_
        have := hI i (by omega) (by omega)
        rwa [idx_nat a i h1, idx_nat b i h2] at this
      rw [if_pos this]; rfl
theorem Same_val {F : Nat} {a b : List Holding} (hF : a.length < F) (hl : a.length ≤ 1000000) : skewbackref41_Same_S F a b = some (decide (a = b)) := by
  unfold skewbackref41_Same_S
  by_cases h : a.length = b.length
  · rw [if_neg (by simp only [decide_eq_true_eq]; omega)]
    rw [eq_loop (a := a) (b := b) h (fun i h0 h1 => by
      rw [if_pos (by simpa using h1), idx?_eq h0 h1, idx?_eq h0 (by omega)]
      simp only [Option.bind_some]
      rw [wrap64 (by omega) (by omega)]
      by_cases hd : idx a i = idx b i <;> simp [hd]) (by simp) F 0 (by omega) (by omega) (fun j hj hj' => by omega) (by omega)]
    by_cases hab : a = b <;> simp [hab, alt2]
  · rw [if_pos (by simp only [decide_eq_true_eq]; omega)]
    have : a ≠ b := fun e => h (by rw [e])
    simp [this]
theorem SameLetters_val {F : Nat} {a b : List Parcel} (hF : a.length < F) (hl : a.length ≤ 1000000) : skewbackref41_SameLetters_S F a b = some (decide (a = b)) := by
  unfold skewbackref41_SameLetters_S
  by_cases h : a.length = b.length
  · rw [if_neg (by simp only [decide_eq_true_eq]; omega)]
    rw [eq_loop (a := a) (b := b) h (fun i h0 h1 => by
      rw [if_pos (by simpa using h1), idx?_eq h0 h1, idx?_eq h0 (by omega)]
      simp only [Option.bind_some]
      rw [wrap64 (by omega) (by omega)]
      by_cases hd : idx a i = idx b i <;> simp [hd]) (by simp) F 0 (by omega) (by omega) (fun j hj hj' => by omega) (by omega)]
    by_cases hab : a = b <;> simp [hab, alt2]
  · rw [if_pos (by simp only [decide_eq_true_eq]; omega)]
    have : a ≠ b := fun e => h (by rw [e])
    simp [this]
theorem fold_app {α β : Type} (g : α → List β) : ∀ (l : List α) (s : List β), foldE (τ := List β) (fun (s : List β) (a : α) => .inl (s ++ g a)) (fun s => s) s l = s ++ l.flatMap g
  | [], s => by simp [foldE]
  | a :: l, s => by rw [foldE]; show foldE _ _ (s ++ g a) l = _; rw [fold_app g l]; simp
def letterOf (f : Int) (h : Holding) : List Parcel := if h.Phase = 2 then [⟨f, h.Peer, 1, h.Body, h.Epoch, h.Data⟩] else if h.Phase = 3 then [⟨f, h.Peer, 3, h.Body, h.Epoch, []⟩] else []
theorem letterOf_len (f : Int) (h : Holding) : (letterOf f h).length ≤ 1 := by unfold letterOf; split; simp; split <;> simp
theorem region_Letters_val {F : Nat} {l : List Holding} {f : Int} (hF : l.length < F) (hl : l.length ≤ 1000000) : region_Letters_S F l f = some (l.flatMap (letterOf f)) := by
  unfold region_Letters_S
  rw [iter_foldI (ρ := List Parcel × Int) l (fun s i => (s, i)) _ (fun (s : List Parcel) (a : Holding) => .inl (s ++ letterOf f a)) (fun s => s) (fun i s => (s.length : Int) ≤ i) (fun s i h0 h1 hI => by
      simp only [un2, h1, decide_true, if_true, idx?_eq h0 h1, Option.bind_some]
      rw [wrap64 (by omega) (by omega)]
      unfold letterOf
      by_cases p2 : (idx l i).Phase = 2
      · simp only [p2, decide_true, if_true, Option.bind_some, alt2]
        rw [app?_eq (by simp; omega)]; rfl
      by_cases p3 : (idx l i).Phase = 3
      · simp only [p3, decide_true, if_true, Option.bind_some, alt2]
        rw [if_neg (by decide)]
        simp only [Option.bind_some, alt2]
        rw [app?_eq (by simp; omega), if_neg (by decide)]; rfl
      simp [p2, p3, alt2]) (fun s _ => by simp [un2]) (fun s i s' h0 h1 hI hs => by
      cases hs
      have := letterOf_len f (idx l i)
      simp only [List.length_append]; omega) F [] 0 (by omega) (by omega) (by simp) (by omega)]
  rw [show (0 : Int).toNat = 0 from rfl, List.drop_zero, fold_app]
  simp
theorem ref_Letters_val {F : Nat} {l : List Holding} {f : Int} (hF : l.length < F) (hl : l.length ≤ 1000000) : skewbackref41_Letters_S F l f = some (l.flatMap (letterOf f)) := by
  unfold skewbackref41_Letters_S
  rw [iter_foldI (ρ := List Parcel × Int) l (fun s i => (s, i)) _ (fun (s : List Parcel) (a : Holding) => .inl (s ++ letterOf f a)) (fun s => s) (fun i s => (s.length : Int) ≤ i) (fun s i h0 h1 hI => by
      simp only [un2, h1, decide_true, if_true, idx?_eq h0 h1, Option.bind_some]
      rw [wrap64 (by omega) (by omega)]
      unfold letterOf
      by_cases p2 : (idx l i).Phase = 2
      · simp only [p2, decide_true, if_true, Option.bind_some]
        rw [app?_eq (by simp; omega)]; rfl
      by_cases p3 : (idx l i).Phase = 3
      · simp only [p3, decide_true, if_true, Option.bind_some]
        rw [if_neg (by decide), app?_eq (by simp; omega), if_neg (by decide)]; rfl
      simp [p2, p3]) (fun s _ => by simp [un2]) (fun s i s' h0 h1 hI hs => by
      cases hs
      have := letterOf_len f (idx l i)
      simp only [List.length_append]; omega) F [] 0 (by omega) (by omega) (by simp) (by omega)]
  rw [show (0 : Int).toNat = 0 from rfl, List.drop_zero, fold_app]
  simp
def activeOf (h : Holding) : List Int := if h.Phase = 1 then [h.Body] else []
theorem activeOf_len (h : Holding) : (activeOf h).length ≤ 1 := by unfold activeOf; split <;> simp
theorem region_Active_val {F : Nat} {l : List Holding} (hF : l.length < F) (hl : l.length ≤ 1000000) : region_Active_S F l = some (l.flatMap activeOf) := by
  unfold region_Active_S
  rw [iter_foldI (ρ := List Int × Int) l (fun s i => (s, i)) _ (fun (s : List Int) (a : Holding) => .inl (s ++ activeOf a)) (fun s => s) (fun i s => (s.length : Int) ≤ i) (fun s i h0 h1 hI => by
      simp only [un2, h1, decide_true, if_true, idx?_eq h0 h1, Option.bind_some]
      rw [wrap64 (by omega) (by omega)]
      unfold activeOf
      by_cases p1 : (idx l i).Phase = 1
      · simp only [p1, decide_true, if_true, Option.bind_some]
        rw [app?_eq (by simp; omega)]; rfl
      simp [p1]) (fun s _ => by simp [un2]) (fun s i s' h0 h1 hI hs => by
      cases hs
      have := activeOf_len (idx l i)
      simp only [List.length_append]; omega) F [] 0 (by omega) (by omega) (by simp) (by omega)]
  rw [show (0 : Int).toNat = 0 from rfl, List.drop_zero, fold_app]
  simp
theorem ref_Active_val {F : Nat} {l : List Holding} (hF : l.length < F) (hl : l.length ≤ 1000000) : skewbackref41_Active_S F l = some (l.flatMap activeOf) := by
  unfold skewbackref41_Active_S
  rw [iter_foldI (ρ := List Int × Int) l (fun s i => (s, i)) _ (fun (s : List Int) (a : Holding) => .inl (s ++ activeOf a)) (fun s => s) (fun i s => (s.length : Int) ≤ i) (fun s i h0 h1 hI => by
      simp only [un2, h1, decide_true, if_true, idx?_eq h0 h1, Option.bind_some]
      rw [wrap64 (by omega) (by omega)]
      unfold activeOf
      by_cases p1 : (idx l i).Phase = 1
      · simp only [p1, decide_true, if_true, Option.bind_some]
        rw [app?_eq (by simp; omega)]; rfl
      simp [p1]) (fun s _ => by simp [un2]) (fun s i s' h0 h1 hI hs => by
      cases hs
      have := activeOf_len (idx l i)
      simp only [List.length_append]; omega) F [] 0 (by omega) (by omega) (by simp) (by omega)]
  rw [show (0 : Int).toNat = 0 from rfl, List.drop_zero, fold_app]
  simp
theorem flatMap_len {α β : Type} (g : α → List β) (h : ∀ a, (g a).length ≤ 1) : ∀ l : List α, (l.flatMap g).length ≤ l.length
  | [] => by simp
  | a :: l => by have := flatMap_len g h l; have := h a; simp only [List.flatMap_cons, List.length_append, List.length_cons]; omega
theorem short_val {F : Nat} {l : List Holding} (hF : l.length < F) (hl : l.length ≤ 9223372036854775807) : ∃ b, skewbacklaw41_short_S F l = some b ∧ (b = true → l.length ≤ 20) := by
  unfold skewbacklaw41_short_S
  rw [iter_foldE (ρ := Int) l (fun (_ : Unit) i => i) _ (fun (_ : Unit) (a : Holding) => if decide (100 < (a.Data.length : Int)) = true then Sum.inr (Sum.inr false) else Sum.inl ()) (fun _ => (Sum.inl () : Unit ⊕ Bool)) (fun s i h0 h1 => by
        simp only [idx?_eq h0 h1, Option.bind_some, h1, decide_true, if_true]
        rw [wrap64 (by omega) (by omega)]
        split <;> rfl) (fun s => by simp) F () hF]
  have go : ∀ l : List Holding, foldE (fun (_ : Unit) (a : Holding) => if decide (100 < (a.Data.length : Int)) = true then Sum.inr (Sum.inr false) else Sum.inl ()) (fun _ => (Sum.inl () : Unit ⊕ Bool)) () l = .inl () ∨ foldE (fun (_ : Unit) (a : Holding) => if decide (100 < (a.Data.length : Int)) = true then Sum.inr (Sum.inr false) else Sum.inl ()) (fun _ => (Sum.inl () : Unit ⊕ Bool)) () l = .inr false := by
    intro l
    induction l with
    | nil => exact .inl rfl
    | cons a l ih =>
      rw [foldE]
      by_cases h : decide (100 < (a.Data.length : Int)) = true
      · rw [if_pos h]; exact .inr rfl
      · rw [if_neg h]; exact ih
  rcases go l with h | h <;> rw [h]
  · exact ⟨_, rfl, fun h => by simp at h; omega⟩
  · exact ⟨_, rfl, fun h => by simp at h⟩
end Go.Proofs.Ytipepglcceogiaa
