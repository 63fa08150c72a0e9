/- The framework, part R: what a function computes is printed as a function into Option; the walk follows it. -/
import Derived.Test.YtipepglcceogiaaSkQ
namespace Go.Sk
set_option linter.unusedSimpArgs false
set_option linter.unusedVariables false
open Go

/-! ## the words in which a function is printed -/
def letN {α β : Type} (a : α) (k : α → β) : β := k a
@[reducible] def un2 {α β γ : Type} (f : α → β → γ) (z : α × β) : γ := f z.1 z.2
@[reducible] def un3 {α β γ δ : Type} (f : α → β → γ → δ) (z : α × β × γ) : δ := f z.1 z.2.1 z.2.2
@[reducible] def un4 {α β γ δ ε : Type} (f : α → β → γ → δ → ε) (z : α × β × γ × δ) : ε := f z.1 z.2.1 z.2.2.1 z.2.2.2
@[reducible] def un5 {α β γ δ ε ζ : Type} (f : α → β → γ → δ → ε → ζ) (z : α × β × γ × δ × ε) : ζ := f z.1 z.2.1 z.2.2.1 z.2.2.2.1 z.2.2.2.2
@[reducible] def un6 {α β γ δ ε ζ η : Type} (f : α → β → γ → δ → ε → ζ → η) (z : α × β × γ × δ × ε × ζ) : η := f z.1 z.2.1 z.2.2.1 z.2.2.2.1 z.2.2.2.2.1 z.2.2.2.2.2
@[reducible] def un7 {α β γ δ ε ζ η θ : Type} (f : α → β → γ → δ → ε → ζ → η → θ) (z : α × β × γ × δ × ε × ζ × η) : θ := f z.1 z.2.1 z.2.2.1 z.2.2.2.1 z.2.2.2.2.1 z.2.2.2.2.2.1 z.2.2.2.2.2.2
@[reducible] def un8 {α β γ δ ε ζ η θ κ : Type} (f : α → β → γ → δ → ε → ζ → η → θ → κ) (z : α × β × γ × δ × ε × ζ × η × θ) : κ := f z.1 z.2.1 z.2.2.1 z.2.2.2.1 z.2.2.2.2.1 z.2.2.2.2.2.1 z.2.2.2.2.2.2.1 z.2.2.2.2.2.2.2
@[reducible] def un0 {γ : Type} (f : γ) (_ : Unit) : γ := f
/-- which end it was -/
@[reducible] def alt2 {α β γ : Type} (f : α → γ) (g : β → γ) (z : α ⊕ β) : γ := match z with | .inl x => f x | .inr y => g y
/-- a loop: at most n rounds -/
def iter {σ τ : Type} : Nat → (σ → Option (σ ⊕ τ)) → σ → Option τ
  | 0, _, _ => none
  | n + 1, body, s => (body s).bind (alt2 (iter n body) some)
def idx? {α : Type} [Inhabited α] (xs : List α) (i : Int) : Option α := if 0 ≤ i ∧ i < xs.length then some (idx xs i) else none
def app? {α : Type} (xs ys : List α) : Option (List α) := if xs.length + ys.length ≤ 1000000000 then some (xs ++ ys) else none
def drop? {α : Type} (xs : List α) (i : Int) : Option (List α) := if 0 ≤ i ∧ i ≤ xs.length then some (xs.drop i.toNat) else none
def take? {α : Type} (xs : List α) (i : Int) : Option (List α) := if 0 ≤ i ∧ i ≤ xs.length then some (xs.take i.toNat) else none
def quo? (k : IntKind) (a b : Int) : Option Int := if b = 0 then none else some (k.wrap (a.tdiv b))
def rem? (a b : Int) : Option Int := if b = 0 then none else some (a.tmod b)
/-- only under a guard -/
def gcall {α : Type} [Inhabited α] (g : Bool) (m : Option α) : Option α := if g then m else some default
def req? (b : Bool) : Option Unit := if b then some () else none

theorem bnd {α β : Type} {m : Option α} {k : α → Option β} {r : β} (h : m.bind k = some r) : ∃ x, m = some x ∧ k x = some r := by
  cases m with
  | none => simp at h
  | some x => exact ⟨x, rfl, h⟩
theorem gc {α : Type} [Inhabited α] {g : Bool} {m : Option α} {x : α} (h : gcall g m = some x) (hg : g = true) : m = some x := by subst hg; exact h
theorem ix_lo {α : Type} [Inhabited α] {xs : List α} {i : Int} {x : α} (h : idx? xs i = some x) : 0 ≤ i := by
  unfold idx? at h; split at h
  · exact (by assumption : 0 ≤ i ∧ _).1
  · simp at h
theorem ix_hi {α : Type} [Inhabited α] {xs : List α} {i : Int} {x : α} (h : idx? xs i = some x) : i < xs.length := by
  unfold idx? at h; split at h
  · exact (by assumption : 0 ≤ i ∧ _).2
  · simp at h
theorem ix_eq {α : Type} [Inhabited α] {xs : List α} {i : Int} {x : α} (h : idx? xs i = some x) : idx xs i = x := by
  unfold idx? at h; split at h
  · simpa using h
  · simp at h
theorem ix_get {α : Type} [Inhabited α] {xs : List α} {i : Int} {x : α} (h : idx? xs i = some x) : xs[i.toNat]? = some x := by
  rw [idx_eq (ix_lo h) (ix_hi h), ix_eq h]
theorem ix_map {α β : Type} [Inhabited α] {xs : List α} {i : Int} {x : α} {e : α → β} (h : idx? xs i = some x) : (xs.map e)[i.toNat]? = some (e x) := by
  rw [List.getElem?_map, ix_get h]; rfl
theorem ix_lt {α β : Type} [Inhabited α] {xs : List α} {i : Int} {x : α} {e : α → β} (h : idx? xs i = some x) : i.toNat < (xs.map e).length := by
  have := ix_lo h; have := ix_hi h; simp; omega
theorem ix_lt' {α β : Type} [Inhabited α] {xs : List α} {i : Int} {x : α} {e : α → β} (h : idx? xs i = some x) : i < ((xs.map e).length : Int) := by
  have := ix_hi h; simpa using this
theorem idx?_eq {α : Type} [Inhabited α] {xs : List α} {i : Int} (h0 : 0 ≤ i) (h1 : i < xs.length) : idx? xs i = some (idx xs i) := by simp [idx?, h0, h1]
theorem app_len {α : Type} {xs ys z : List α} (h : app? xs ys = some z) : xs.length + ys.length ≤ 1000000000 := by
  unfold app? at h; split at h
  · assumption
  · simp at h
theorem app_eq {α : Type} {xs ys z : List α} (h : app? xs ys = some z) : xs ++ ys = z := by
  unfold app? at h; split at h
  · simpa using h
  · simp at h
theorem app_map {α : Type} {xs ys z : List α} {e : α → List CP} (h : app? xs ys = some z) : xs.map e ++ ys.map e = z.map e := by rw [← app_eq h, List.map_append]
theorem app_b {α β : Type} {xs ys z : List α} {e : α → β} (h : app? xs ys = some z) {bytes : Nat} (hb : bytes ≤ 140737 := by decide) : ((xs.map e).length + (ys.map e).length) * bytes ≤ 140737488355328 := by
  have := app_len h
  simp only [List.length_map]
  calc (xs.length + ys.length) * bytes ≤ 1000000000 * 140737 := Nat.mul_le_mul this hb
    _ ≤ _ := by decide
theorem app_m {α β : Type} {xs ys z : List α} {e : α → β} (h : app? xs ys = some z) : (xs.map e).length + (ys.map e).length ≤ 9223372036854775807 := by
  have := app_len h
  simp only [List.length_map]; omega
theorem app?_eq {α : Type} {xs ys : List α} (h : xs.length + ys.length ≤ 1000000000) : app? xs ys = some (xs ++ ys) := by simp [app?, h]
theorem drop_ok {α : Type} {xs z : List α} {i : Int} (h : drop? xs i = some z) : 0 ≤ i ∧ i ≤ xs.length ∧ xs.drop i.toNat = z := by
  unfold drop? at h; split at h
  · next hh => exact ⟨hh.1, hh.2, by simpa using h⟩
  · simp at h
theorem take_ok {α : Type} {xs z : List α} {i : Int} (h : take? xs i = some z) : 0 ≤ i ∧ i ≤ xs.length ∧ xs.take i.toNat = z := by
  unfold take? at h; split at h
  · next hh => exact ⟨hh.1, hh.2, by simpa using h⟩
  · simp at h
theorem quo_ok {k : IntKind} {a b z : Int} (h : quo? k a b = some z) : b ≠ 0 ∧ k.wrap (a.tdiv b) = z := by
  unfold quo? at h; split at h
  · simp at h
  · exact ⟨by assumption, by simpa using h⟩
theorem rem_ok {a b z : Int} (h : rem? a b = some z) : b ≠ 0 ∧ a.tmod b = z := by
  unfold rem? at h; split at h
  · simp at h
  · exact ⟨by assumption, by simpa using h⟩
theorem req_ok {b : Bool} {u : Unit} (h : req? b = some u) : b = true := by
  unfold req? at h; split at h
  · assumption
  · simp at h

section
variable {σ τ : Type} {body : σ → Option (σ ⊕ τ)}
theorem iter_zero {s : σ} : iter 0 body s = none := rfl
theorem iter_succ {n : Nat} {s : σ} : iter (n + 1) body s = (body s).bind (alt2 (iter n body) some) := rfl
/-- a loop, by what holds at each round -/
theorem iter_spec (I : σ → Prop) (μ : σ → Nat) (Post : τ → Prop) (step : ∀ s, I s → ∃ o, body s = some o ∧ (∀ s', o = .inl s' → I s' ∧ μ s' < μ s) ∧ ∀ t, o = .inr t → Post t) :
    ∀ (n : Nat) (s : σ), I s → μ s < n → ∃ t, iter n body s = some t ∧ Post t := by
  intro n
  induction n with
  | zero => intro s _ h; omega
  | succ n ih =>
    intro s hI hlt
    obtain ⟨o, ho, h1, h2⟩ := step s hI
    rw [iter_succ, ho]
    cases o with
    | inl s' => obtain ⟨hI', hm⟩ := h1 s' rfl; exact ih s' hI' (by omega)
    | inr t => exact ⟨t, rfl, h2 t rfl⟩
end

theorem neg_dec {p : Prop} [Decidable p] : (!decide p) = decide (¬ p) := by simp

/-! ## the walk along it -/
section
variable {P : Program} {E : Env} {n : Sh} {ops : Array Oper} {l : List Oper} {s s' : St} {Q : Post} {o : Oper} {c x y : Code}

theorem OpsL.consI {α : Type} (k : IntKind) {a : Int} {K : Int → Option α} {r : α} (h : letN a K = some r) (hg : o.guard = none) (h1 : Op1 P E n o s (s.put n o.dst (.b (.one (.int k a)))))
    (H : ∀ z, K z = some r → OpsL P E n ops l (s.put n o.dst (.b (.one (.int k z)))) Q) : OpsL P E n ops (o :: l) s Q := OpsL.cons hg h1 (H a h)
theorem OpsL.consB {α : Type} {a : Bool} {K : Bool → Option α} {r : α} (h : letN a K = some r) (hg : o.guard = none) (h1 : Op1 P E n o s (s.put n o.dst (.b (.one (.bool a)))))
    (H : ∀ z, K z = some r → OpsL P E n ops l (s.put n o.dst (.b (.one (.bool z)))) Q) : OpsL P E n ops (o :: l) s Q := OpsL.cons hg h1 (H a h)
theorem Tri.ite {α : Type} {t : Nat} {b : Bool} {A B : Option α} {r : α} (h : (if b = true then A else B) = some r) (hs : s.get t = some (.b (.one (.bool b)))) (h1 : b = true → A = some r → Tri P E n x s Q) (h2 : b = false → B = some r → Tri P E n y s Q) : Tri P E n (.cond (.tmp t) x y) s Q := by
  refine Tri.cond hs (fun e => h1 e ?_) (fun e => h2 e ?_)
  · subst e; exact h
  · subst e; exact h
theorem Tri.seqJ {σ τ : Type} {v : τ} (S : σ → St) (al : σ → τ) (h1 : Tri P E n x s (Exit.then (fun a w => ∃ z, v = al z ∧ R E n (S z) a w) Q)) (h2 : ∀ z, v = al z → Tri P E n y (S z) Q) : Tri P E n (.seq x y) s Q := by
  refine Tri.seq fun a w hr => ?_
  refine Code.wp_mono (fun e a' w' he => ?_) (h1 a w hr)
  cases e with
  | normal => obtain ⟨z, hz, hr'⟩ := he; exact h2 z hz a' w' hr'
  | exit id => exact he
  | goto l => exact he
  | ret => exact he
  | panic ch => exact he
  | outgrown => exact he
theorem Fin.join {σ τ : Type} {v : τ} {S : σ → St} {al : σ → τ} (ks kos : List Nat) (z : σ) (hv : al z = v) (hs : s.keep ks kos = S z) : Fin E n .normal s (Exit.then (fun a w => ∃ z, v = al z ∧ R E n (S z) a w) Q) :=
  fun _ _ hr => ⟨z, hv.symm, hs ▸ hr.keep ks kos⟩
theorem Tri.loopJ {σ τ : Type} {F : Nat} {body : σ → Option (σ ⊕ τ)} {s0 : σ} {v : τ} (h : iter F body s0 = some v) (S : σ → St) (ks kos : List Nat) (hs : s.keep ks kos = S s0)
    (round : ∀ z o, body z = some o → (∀ y, o = .inr y → y = v) → Tri P E n c (S z) (Exit.then (fun a w => ∃ z', o = .inl z' ∧ R E n (S z') a w) Q)) : Tri P E n (.loop c) s Q := by
  refine Tri.keep ks kos hs ?_
  refine Tri.loop (ι := σ × Nat) (fun j => S j.1) (fun j => iter j.2 body j.1 = some v) (fun j => j.2) (s0, F) h rfl ?_
  rintro ⟨z, m⟩ hj
  dsimp only at hj ⊢
  cases m with
  | zero => simp [iter_zero] at hj
  | succ m =>
    rw [iter_succ] at hj
    obtain ⟨o, ho, hj⟩ := bnd hj
    intro a w hr
    refine Code.wp_mono (fun e a' w' he => ?_) (round z o ho (fun y hy => by subst hy; exact Option.some.inj hj) a w hr)
    cases e with
    | normal => obtain ⟨z', hz, hr'⟩ := he; subst hz; exact ⟨(z', m), hj, Nat.lt_succ_self m, hr'⟩
    | exit id => exact he
    | goto l => exact he
    | ret => exact he
    | panic ch => exact he
    | outgrown => exact he
theorem Fin.againJ {σ τ : Type} {o : σ ⊕ τ} {S : σ → St} (ks kos : List Nat) (z : σ) (hv : .inl z = o) (hs : s.keep ks kos = S z) : Fin E n .normal s (Exit.then (fun a w => ∃ z', o = .inl z' ∧ R E n (S z') a w) Q) :=
  fun _ _ hr => ⟨z, hv.symm, hs ▸ hr.keep ks kos⟩
theorem OpsL.nilT {y : Code} (h : Tri P E n y s Q) : OpsL P E n ops [] s (Exit.then (y.wp P Q) Q) := fun a w hr => h a w hr
end
end Go.Sk
