/- Plain laws of the words in which functions are printed: loops over lists, wraps, indices. -/
import Derived.Test.YtipepglcceogiaaSkX
namespace Go.Sk
set_option linter.unusedSimpArgs false
set_option linter.unusedVariables false
open Go
/-- a list gone through, with an early end -/
def foldE {σ α τ : Type} (f : σ → α → σ ⊕ τ) (fin : σ → τ) : σ → List α → τ
  | s, [] => fin s
  | s, a :: l => match f s a with
    | .inl s' => foldE f fin s' l
    | .inr t => t
theorem drop_idx {α : Type} [Inhabited α] {l : List α} {k : Int} (h0 : 0 ≤ k) (h1 : k < l.length) : l.drop k.toNat = idx l k :: l.drop (k + 1).toNat := by
  have hk : k.toNat < l.length := by omega
  have e : (k + 1).toNat = k.toNat + 1 := by omega
  rw [e, List.drop_eq_getElem_cons hk]
  congr 1
  simp [idx, List.getD, List.getElem?_eq_getElem hk]
theorem idx_nat {α : Type} [Inhabited α] (l : List α) (i : Nat) (h : i < l.length) : idx l (i : Int) = l[i] := by
  simp [idx, List.getD, List.getElem?_eq_getElem h]
theorem iter_foldI {ρ σ α τ : Type} [Inhabited α] (l : List α) (mk : σ → Int → ρ) (body : ρ → Option (ρ ⊕ τ)) (f : σ → α → σ ⊕ τ) (fin : σ → τ) (I : Int → σ → Prop)
    (hb : ∀ s (i : Int), 0 ≤ i → i < l.length → I i s → body (mk s i) = some (match f s (idx l i) with | .inl s' => .inl (mk s' (i + 1)) | .inr t => .inr t))
    (he : ∀ s, I l.length s → body (mk s l.length) = some (.inr (fin s)))
    (hI : ∀ s (i : Int) s', 0 ≤ i → i < l.length → I i s → f s (idx l i) = .inl s' → I (i + 1) s') :
    ∀ (F : Nat) (s : σ) (k : Int), 0 ≤ k → k ≤ l.length → I k s → (l.length : Int) - k < F → iter F body (mk s k) = some (foldE f fin s (l.drop k.toNat)) := by
  intro F
  induction F with
  | zero => intro s k h0 h1 _ h; omega
  | succ F ih =>
    intro s k h0 h1 hIk hF
    rw [iter_succ]
    by_cases hk : k < l.length
    · rw [hb s k h0 hk hIk, drop_idx h0 hk, foldE]
      cases hf : f s (idx l k) with
      | inl s' =>
        simp only [Option.bind_some, alt2]
        exact ih s' (k + 1) (by omega) (by omega) (hI s k s' h0 hk hIk hf) (by omega)
      | inr t => rfl
    · have : k = l.length := by omega
      subst this
      rw [he s hIk]
      have : (l.length : Int).toNat = l.length := by omega
      rw [this, List.drop_length]
      rfl
theorem iter_foldE {ρ σ α τ : Type} [Inhabited α] (l : List α) (mk : σ → Int → ρ) (body : ρ → Option (ρ ⊕ τ)) (f : σ → α → σ ⊕ τ) (fin : σ → τ)
    (hb : ∀ s (i : Int), 0 ≤ i → i < l.length → body (mk s i) = some (match f s (idx l i) with | .inl s' => .inl (mk s' (i + 1)) | .inr t => .inr t))
    (he : ∀ s, body (mk s l.length) = some (.inr (fin s))) (F : Nat) (s : σ) (hF : l.length < F) : iter F body (mk s 0) = some (foldE f fin s l) := by
  have := iter_foldI l mk body f fin (fun _ _ => True) (fun s i h0 h1 _ => hb s i h0 h1) (fun s _ => he s) (fun _ _ _ _ _ _ _ => trivial) F s 0 (by omega) (by omega) trivial (by omega)
  simpa using this
theorem wrap64 {z : Int} (h1 : -9223372036854775808 ≤ z) (h2 : z ≤ 9223372036854775807) : IntKind.i64.wrap z = z := wrap_of_inR (inR_i64 h1 h2)
theorem wrapu64 {z : Int} (h1 : 0 ≤ z) (h2 : z ≤ 18446744073709551615) : IntKind.u64.wrap z = z := wrap_of_inR (inR_u64 h1 h2)
theorem gcall_true {α : Type} [Inhabited α] {m : Option α} : gcall true m = m := rfl
theorem gcall_false {α : Type} [Inhabited α] {m : Option α} : gcall false m = some default := rfl
theorem gcall_some {α : Type} [Inhabited α] {g : Bool} {x : α} : gcall g (some x) = some (if g then x else default) := by cases g <;> rfl
theorem idx_cons_zero {α : Type} [Inhabited α] (a : α) (l : List α) : idx (a :: l) 0 = a := rfl
theorem idx_mem {α : Type} [Inhabited α] {l : List α} {i : Int} (h0 : 0 ≤ i) (h1 : i < l.length) : idx l i ∈ l := List.mem_of_getElem? (idx_eq h0 h1)
theorem mem_idx {α : Type} [Inhabited α] {l : List α} {a : α} (h : a ∈ l) : ∃ i : Int, 0 ≤ i ∧ i < l.length ∧ idx l i = a := by
  obtain ⟨i, hi, rfl⟩ := List.getElem_of_mem h
  exact ⟨i, by omega, by omega, idx_nat l i hi⟩
end Go.Sk
