/- The framework, part W: drawn regions in which some operations write: by stages, one for each set of writers that are done. -/
import Derived.Test.YtipepglcceogiaaSkV
namespace Go.Sk
set_option linter.unusedSimpArgs false
set_option linter.unusedVariables false
open Go Go.BigFrame
structure Stg where
  done : List Bool
  base : List (Nat × SV)
  own : List (Nat × OC)
  live : List Bool
  must : List Nat
def nb (l : List Bool) (i : Nat) : Bool := l.getD i false
def stgOf : List Stg → List Bool → Option Stg
  | [], _ => none
  | σ :: tab, d => if σ.done == d then some σ else stgOf tab d
theorem stgOf_done : ∀ {tab : List Stg} {d : List Bool} {σ : Stg}, stgOf tab d = some σ → σ.done = d ∧ σ ∈ tab
  | σ0 :: tab, d, σ, h => by
    unfold stgOf at h
    split at h
    · next e => cases h; exact ⟨by simpa using e, List.mem_cons_self⟩
    · exact ⟨(stgOf_done h).1, List.mem_cons_of_mem _ (stgOf_done h).2⟩
def depFactsL (p : Nat → Bool) (l : List Oper) (Fs : List SV) : List Edge → List (Nat × SV)
  | [] => []
  | e :: es => if Region.binds .any e && p e.on then
      match l[e.on]?, Fs[e.on]? with
      | some o, some x => (match o.dst with | some d => (d, x) :: depFactsL p l Fs es | none => depFactsL p l Fs es)
      | _, _ => depFactsL p l Fs es
    else depFactsL p l Fs es
theorem mem_depFactsL {p : Nat → Bool} {l : List Oper} {Fs : List SV} : ∀ {es : List Edge} {q : Nat × SV}, q ∈ depFactsL p l Fs es → ∃ e, e ∈ es ∧ Region.binds .any e = true ∧ p e.on = true ∧ ∃ o, l[e.on]? = some o ∧ o.dst = some q.1 ∧ Fs[e.on]? = some q.2
  | [], q, h => by simp [depFactsL] at h
  | e :: es, q, h => by
    have hrec : q ∈ depFactsL p l Fs es → ∃ e', e' ∈ e :: es ∧ Region.binds .any e' = true ∧ p e'.on = true ∧ ∃ o, l[e'.on]? = some o ∧ o.dst = some q.1 ∧ Fs[e'.on]? = some q.2 := fun h => by
      obtain ⟨e', h1, h2⟩ := mem_depFactsL h
      exact ⟨e', List.mem_cons_of_mem _ h1, h2⟩
    unfold depFactsL at h
    split at h
    · rename_i hb
      simp only [Bool.and_eq_true] at hb
      split at h
      · rename_i o x ho hx
        split at h
        · rename_i d hd
          cases List.mem_cons.1 h with
          | inl e' => subst e'; exact ⟨e, List.mem_cons_self, hb.1, hb.2, o, ho, hd, hx⟩
          | inr e' => exact hrec e'
        · exact hrec h
      · exact hrec h
    · exact hrec h
def dropO : Option Nat → List (Nat × SV) → List (Nat × SV)
  | some k, l => dropU k l
  | none, l => l
def usesO : Option Nat → SV → Bool
  | some k, x => x.uses k
  | none, _ => false
def edgeTo (o : Oper) (j : Nat) : Bool := o.after.toList.any fun e => Region.binds .any e && e.on == j
section
variable {P : Program} {E : Env} {n : Sh} {s s' : St} {l : List Oper} {Q : Post} {o : Oper}
def may (isW : List Bool) (σ : Stg) (i : Nat) (o : Oper) : Bool := !nb σ.done i && !σ.must.contains i && (o.after.toList.all fun e => !Region.binds .any e || !nb isW e.on || nb σ.done e.on)
def mustOk (isW : List Bool) (l : List Oper) (σ : Stg) : Bool := σ.must.all fun j => (nb isW j && nb σ.done j) || (σ.must.any fun i => decide (j < i) && (match l[i]? with | some o => edgeTo o j | none => false))
theorem Step1.to {ops : Array Oper} {s1 s2 : St} (h : Step1 P E n ops o s s1) (e : s1 = s2) : Step1 P E n ops o s s2 := e ▸ h
/-- the steps at one stage -/
def WOps (P : Program) (E : Env) (n : Sh) (isW : List Bool) (tab : List Stg) (l : List Oper) (Fs : List SV) (σ : Stg) : Nat → List Oper → Prop
  | _, [] => True
  | i, o :: r => (if may isW σ i o = true then
      (if nb isW i = true then ∃ τ key x, stgOf tab (σ.done.set i true) = some τ ∧ (o.dst.isSome = true → Fs[i]? = some x) ∧ τ.base = dropO key σ.base ∧ ((List.range l.length).all fun j => !nb τ.live j || j == i || (nb σ.live j && (match Fs[j]? with | some y => !usesO key y | none => true))) = true ∧
          ∀ extra, Step1 P E n l.toArray o ⟨depFactsL (nb σ.live) l Fs o.after.toList ++ (σ.base ++ extra), σ.own⟩ (St.put n o.dst x ⟨dropO key (depFactsL (nb σ.live) l Fs o.after.toList ++ (σ.base ++ extra)), τ.own⟩)
        else ∃ x, (o.dst.isSome = true → Fs[i]? = some x) ∧ ∀ extra, Step1 P E n l.toArray o ⟨depFactsL (nb σ.live) l Fs o.after.toList ++ (σ.base ++ extra), σ.own⟩ (St.put n o.dst x ⟨depFactsL (nb σ.live) l Fs o.after.toList ++ (σ.base ++ extra), σ.own⟩))
      else True) ∧ WOps P E n isW tab l Fs σ (i + 1) r
def WTab (P : Program) (E : Env) (n : Sh) (isW : List Bool) (tab : List Stg) (l : List Oper) (Fs : List SV) : List Stg → Prop
  | [] => True
  | σ :: r => (mustOk isW l σ && ((List.range l.length).all fun i => !nb σ.done i || nb isW i) && (σ.base.all fun p => !(dsts l).contains p.1) && (σ.done.length == l.length)) = true ∧ WOps P E n isW tab l Fs σ 0 l ∧ WTab P E n isW tab l Fs r
theorem WOps.get {isW : List Bool} {tab : List Stg} {l0 : List Oper} {Fs : List SV} {σ : Stg} : ∀ {r : List Oper} {k : Nat}, WOps P E n isW tab l0 Fs σ k r → ∀ (i : Nat) (o : Oper), r[i]? = some o → may isW σ (k + i) o = true →
      (if nb isW (k + i) = true then ∃ τ key x, stgOf tab (σ.done.set (k + i) true) = some τ ∧ (o.dst.isSome = true → Fs[k + i]? = some x) ∧ τ.base = dropO key σ.base ∧ ((List.range l0.length).all fun j => !nb τ.live j || j == k + i || (nb σ.live j && (match Fs[j]? with | some y => !usesO key y | none => true))) = true ∧
          ∀ extra, Step1 P E n l0.toArray o ⟨depFactsL (nb σ.live) l0 Fs o.after.toList ++ (σ.base ++ extra), σ.own⟩ (St.put n o.dst x ⟨dropO key (depFactsL (nb σ.live) l0 Fs o.after.toList ++ (σ.base ++ extra)), τ.own⟩)
        else ∃ x, (o.dst.isSome = true → Fs[k + i]? = some x) ∧ ∀ extra, Step1 P E n l0.toArray o ⟨depFactsL (nb σ.live) l0 Fs o.after.toList ++ (σ.base ++ extra), σ.own⟩ (St.put n o.dst x ⟨depFactsL (nb σ.live) l0 Fs o.after.toList ++ (σ.base ++ extra), σ.own⟩))
  | [], k, h, i, o, ho, _ => by simp at ho
  | p :: r, k, h, i, o, ho, hm => by
    obtain ⟨h1, h2⟩ := h
    cases i with
    | zero =>
      simp at ho; subst ho
      rw [Nat.add_zero] at hm ⊢
      rw [if_pos hm] at h1
      exact h1
    | succ i =>
      have := WOps.get h2 i o (by simpa using ho) (by rw [← hm]; congr 1; omega)
      have e : k + 1 + i = k + (i + 1) := by omega
      rwa [e] at this
theorem WTab.get {isW : List Bool} {tab : List Stg} {Fs : List SV} : ∀ {r : List Stg}, WTab P E n isW tab l Fs r → ∀ σ ∈ r, (mustOk isW l σ && ((List.range l.length).all fun i => !nb σ.done i || nb isW i) && (σ.base.all fun p => !(dsts l).contains p.1) && (σ.done.length == l.length)) = true ∧ WOps P E n isW tab l Fs σ 0 l
  | σ :: r, h, τ, hm => by
    cases List.mem_cons.1 hm with
    | inl e => subst e; exact ⟨h.1, h.2.1⟩
    | inr e => exact WTab.get h.2.2 τ e
theorem mem_dropO {key : Option Nat} {l : List (Nat × SV)} {q : Nat × SV} (h : q ∈ l) (hu : usesO key q.2 = false) : q ∈ dropO key l := by
  cases key with
  | none => exact h
  | some k =>
    show q ∈ dropU k l
    have hu' : q.2.uses k = false := hu
    clear hu
    induction l with
    | nil => simp at h
    | cons p l ih =>
      obtain ⟨i, x⟩ := p
      show q ∈ (if x.uses k = true then dropU k l else (i, x) :: dropU k l)
      cases List.mem_cons.1 h with
      | inl e =>
        subst e
        rw [if_neg (by rw [hu']; simp)]
        exact List.mem_cons_self
      | inr e =>
        split
        · exact ih e
        · exact List.mem_cons_of_mem _ (ih e)
theorem nb_eq {a b : List Bool} (hl : a.length = b.length) (h : ∀ i, nb a i = nb b i) : a = b := by
  refine List.ext_getElem hl fun i h1 h2 => ?_
  have := h i
  simpa [nb, List.getD, List.getElem?_eq_getElem h1, List.getElem?_eq_getElem h2] using this
theorem nb_set {a : List Bool} {i j : Nat} : nb (a.set i true) j = if j = i ∧ i < a.length then true else nb a j := by
  unfold nb
  simp only [List.getD, List.getElem?_set]
  by_cases h : i = j
  · subst h
    by_cases h2 : i < a.length <;> simp [h2]
  · have h' : ¬ j = i := fun e => h e.symm
    simp [h, h']
theorem must_listed {isW : List Bool} {σ : Stg} {listed : Array Bool} (hm : mustOk isW l σ = true) (hw : ∀ i, nb isW i = true → listed.getD i false = nb σ.done i) (hcl : ∀ (i : Nat) (p : Oper), l[i]? = some p → listed.getD i false = true → ∀ e ∈ p.after.toList, Region.binds .any e = true → listed.getD e.on false = true) :
    ∀ m j, l.length - j = m → j ∈ σ.must → listed.getD j false = true := by
  intro m
  induction m using Nat.strongRecOn with
  | _ m ih =>
    intro j hm' hj
    have := List.all_eq_true.1 hm j hj
    simp only [Bool.or_eq_true, Bool.and_eq_true, List.any_eq_true, decide_eq_true_eq] at this
    rcases this with ⟨h1, h2⟩ | ⟨i, hi, hji, hp⟩
    · rw [hw j h1]; exact h2
    · cases hpi : l[i]? with
      | none => rw [hpi] at hp; simp at hp
      | some p =>
        rw [hpi] at hp
        have hil := (List.getElem?_eq_some_iff.1 hpi).1
        simp only [edgeTo, List.any_eq_true, Bool.and_eq_true, beq_iff_eq] at hp
        obtain ⟨e, he, hb, hon⟩ := hp
        have := hcl i p hpi (ih (l.length - i) (by omega) i rfl hi) e he hb
        rwa [hon] at this
theorem anyW {isW : List Bool} {tab : List Stg} {Fs : List SV} (hok : (edgesOk 0 l && nodupB (dsts l) && (dsts l).all (· < n.n) && (isW.length == l.length)) = true) (htab : WTab P E n isW tab l Fs tab)
    (hfin : ∀ σ, stgOf tab isW = some σ → Fin E n .normal ⟨σ.base ++ factsFrom (nb σ.live) 0 l Fs, σ.own⟩ Q) : ∀ (fuel : Nat) (listed : Array Bool) (σ : Stg) (a : Act) (w : World),
    listed.size = l.length → stgOf tab σ.done = some σ → (∀ i, nb isW i = true → listed.getD i false = nb σ.done i) → (∀ (i : Nat) (p : Oper), l[i]? = some p → listed.getD i false = true → ∀ e ∈ p.after.toList, Region.binds .any e = true → listed.getD e.on false = true) →
    l.length ≤ fuel + (listed.toList.filter id).length → R E n ⟨σ.base ++ factsFrom (fun i => listed.getD i false && nb σ.live i) 0 l Fs, σ.own⟩ a w → wpAny P .any l.toArray Q fuel listed a w := by
  simp only [Bool.and_eq_true, beq_iff_eq] at hok
  obtain ⟨⟨⟨hedges, hnd⟩, hlt⟩, hWl⟩ := hok
  simp only [List.all_eq_true] at hlt
  have hcount : ∀ (L : List Bool) (i : Nat) (hi : i < L.length), L[i] = false → ((L.set i true).filter id).length = (L.filter id).length + 1 := by
    intro L
    induction L with
    | nil => intro i hi; simp at hi
    | cons b L ihL =>
      intro i hi hb
      cases i with
      | zero => simp at hb; subst hb; simp
      | succ i =>
        have := ihL i (by simpa using hi) (by simpa using hb)
        cases b <;> simp [this]
  have hready : ∀ (listed : Array Bool), listed.size = l.length → Region.ready .any l.toArray listed = [] → ∀ j, j < l.length → listed.getD j false = true := by
    intro listed hsz hr j hj
    induction j using Nat.strongRecOn with
    | _ j ih =>
      cases hb : listed.getD j false with
      | true => rfl
      | false =>
        exfalso
        have hjs : j < listed.size := by omega
        have hjr : j ∈ Region.ready .any l.toArray listed := by
          rw [mem_ready]
          have hlj : listed.getD j true = false := by
            simp only [Array.getD_eq_getD_getElem?, Array.getElem?_eq_getElem hjs, Option.getD_some] at hb ⊢
            exact hb
          refine ⟨hlj, l[j], by simp [hj], fun e he hbd => ?_⟩
          have := edgesOk_spec hedges j l[j] (by simp) e he hbd
          exact ih e.on (by omega) (by omega)
        rw [hr] at hjr
        simp at hjr
  have hdone : ∀ (listed : Array Bool) (σ : Stg) (a : Act) (w : World), listed.size = l.length → stgOf tab σ.done = some σ → (∀ i, nb isW i = true → listed.getD i false = nb σ.done i) → Region.ready .any l.toArray listed = [] →
      R E n ⟨σ.base ++ factsFrom (fun i => listed.getD i false && nb σ.live i) 0 l Fs, σ.own⟩ a w → Q .normal a w := by
    intro listed σ a w hsz hσ hwl hr hR
    have hall := hready listed hsz hr
    obtain ⟨hσ1, hσ2⟩ := stgOf_done hσ
    obtain ⟨hc, _⟩ := htab.get σ hσ2
    simp only [Bool.and_eq_true, List.all_eq_true, List.mem_range, Bool.or_eq_true, Bool.not_eq_true', beq_iff_eq] at hc
    obtain ⟨⟨⟨_, hc2⟩, _⟩, hc4⟩ := hc
    have he : σ.done = isW := by
      refine nb_eq (by omega) fun i => ?_
      by_cases hi : i < l.length
      · cases hw : nb isW i with
        | true => rw [← hwl i hw]; exact hall i hi
        | false =>
          rcases hc2 i hi with h | h
          · exact h
          · rw [hw] at h; simp at h
      · have h1 : nb σ.done i = false := by simp [nb, List.getD, List.getElem?_eq_none (show σ.done.length ≤ i by omega)]
        have h2 : nb isW i = false := by simp [nb, List.getD, List.getElem?_eq_none (show isW.length ≤ i by omega)]
        rw [h1, h2]
    refine hfin σ (by rw [← he]; exact hσ) a w ?_
    obtain ⟨h1, h2, h, ρ, hw, hs⟩ := hR
    refine ⟨h1, h2, h, ρ, hw, fun k x hx => hs k x ?_⟩
    rcases List.mem_append.1 hx with hx | hx
    · exact List.mem_append.2 (.inl hx)
    · refine List.mem_append.2 (.inr ?_)
      rw [mem_factsFrom] at hx ⊢
      obtain ⟨j, oj, hj, hd, hF, hl⟩ := hx
      rw [Nat.zero_add] at hl
      exact ⟨j, oj, hj, hd, hF, by rw [Nat.zero_add, hall j (List.getElem?_eq_some_iff.1 hj).1, hl]; rfl⟩
  intro fuel
  induction fuel with
  | zero =>
    intro listed σ a w hsz hσ hwl hcl hf hR
    have hnr : Region.ready .any l.toArray listed = [] := by
      apply List.eq_nil_iff_forall_not_mem.2
      intro j hj
      rw [mem_ready] at hj
      obtain ⟨hj1, oj, hoj, _⟩ := hj
      have hjl : j < l.length := by
        have := (Array.getElem?_eq_some_iff.1 hoj).1
        simpa using this
      have hjs : j < listed.size := by omega
      have hz' : listed.toList[j]'(by simpa using hjs) = false := by simpa [Array.getD_eq_getD_getElem?, Array.getElem?_eq_getElem hjs] using hj1
      have h1 := hcount listed.toList j (by simpa using hjs) hz'
      have h2 := List.length_filter_le id (listed.toList.set j true)
      simp at h1 h2 hf
      omega
    exact ⟨hnr, hdone listed σ a w hsz hσ hwl hnr hR⟩
  | succ fuel ih =>
    intro listed σ a w hsz hσ hwl hcl hf hR
    refine ⟨fun hr => hdone listed σ a w hsz hσ hwl hr hR, fun i hi => ?_⟩
    rw [mem_ready] at hi
    obtain ⟨hi1, o', ho, hdeps⟩ := hi
    have hil : i < l.length := by
      have := (Array.getElem?_eq_some_iff.1 ho).1
      simpa using this
    have hol : l[i]? = some o' := by simpa using ho
    have his : i < listed.size := by omega
    have hi1' : listed[i] = false := by simpa [Array.getD_eq_getD_getElem?, Array.getElem?_eq_getElem his] using hi1
    have hi2 : listed.getD i false = false := by simp [Array.getD_eq_getD_getElem?, Array.getElem?_eq_getElem his, hi1']
    obtain ⟨hσ1, hσ2⟩ := stgOf_done hσ
    obtain ⟨hc, hops⟩ := htab.get σ hσ2
    simp only [Bool.and_eq_true, List.all_eq_true, List.mem_range, Bool.or_eq_true, Bool.not_eq_true', beq_iff_eq] at hc
    obtain ⟨⟨⟨hc1, hc2⟩, hc3⟩, hc4⟩ := hc
    have hmust := must_listed (l := l) (σ := σ) (isW := isW) hc1 hwl hcl
    have hmay : may isW σ i o' = true := by
      simp only [may, Bool.and_eq_true, Bool.not_eq_true', List.all_eq_true, Bool.or_eq_true]
      refine ⟨⟨?_, ?_⟩, fun e he => ?_⟩
      · cases hd : nb σ.done i with
        | false => rfl
        | true =>
          rcases hc2 i hil with h | h
          · rw [hd] at h; simp at h
          · rw [hwl i h, hd] at hi2; simp at hi2
      · cases hd : σ.must.contains i with
        | false => rfl
        | true =>
          have := hmust _ i rfl (by simpa using hd)
          rw [hi2] at this; simp at this
      · cases hb : Region.binds .any e with
        | false => simp
        | true =>
          have := hdeps e (by simpa using he) hb
          cases hw : nb isW e.on with
          | false => simp
          | true => rw [hwl _ hw] at this; simp [this]
    have hstep := WOps.get hops i o' hol (by rw [Nat.zero_add]; exact hmay)
    simp only [Nat.zero_add] at hstep
    have hR2 : R E n ⟨depFactsL (nb σ.live) l Fs o'.after.toList ++ (σ.base ++ factsFrom (fun i => listed.getD i false && nb σ.live i) 0 l Fs), σ.own⟩ a w := by
      obtain ⟨h1, h2, h, ρ, hw, hs⟩ := hR
      refine ⟨h1, h2, h, ρ, hw, fun k y hy => ?_⟩
      rcases List.mem_append.1 hy with hy | hy
      · obtain ⟨e, he, hb, hp, o'', ho', hd', hF'⟩ := mem_depFactsL hy
        refine hs k y (List.mem_append.2 (.inr ?_))
        rw [mem_factsFrom]
        exact ⟨e.on, o'', ho', hd', hF', by rw [Nat.zero_add, hdeps e (by simpa using he) hb, hp]; rfl⟩
      · exact hs k y hy
    have hcl' : ∀ (j : Nat) (p : Oper), l[j]? = some p → (listed.setIfInBounds i true).getD j false = true → ∀ e ∈ p.after.toList, Region.binds .any e = true → (listed.setIfInBounds i true).getD e.on false = true := by
      intro j p hj hlj e he hb
      have hset : ∀ q, listed.getD q false = true → (listed.setIfInBounds i true).getD q false = true := fun q hq => by
        by_cases e : q = i
        · subst e; simp [Array.getD_eq_getD_getElem?, his]
        · rw [getD_set_ne false (fun h => e h.symm)]; exact hq
      by_cases e' : j = i
      · subst e'
        rw [hol] at hj; cases hj
        exact hset _ (hdeps e (by simpa using he) hb)
      · rw [getD_set_ne false (fun h => e' h.symm)] at hlj
        exact hset _ (hcl j p hj hlj e he hb)
    have hcnt : l.length ≤ fuel + ((listed.setIfInBounds i true).toList.filter id).length := by
      have := hcount listed.toList i (by simpa using his) (by simpa using hi1')
      rw [Array.toList_setIfInBounds]
      omega
    have hsz' : (listed.setIfInBounds i true).size = l.length := by simpa using hsz
    -- what the step leaves, for the next stage
    have hnext : ∀ (τ : Stg) (key : Option Nat) (x : SV) (a' : Act) (w' : World), (o'.dst.isSome = true → Fs[i]? = some x) → τ.base = dropO key σ.base →
        (∀ j, j < l.length → nb τ.live j = true → j = i ∨ (nb σ.live j = true ∧ ∀ y, Fs[j]? = some y → usesO key y = false)) →
        R E n (St.put n o'.dst x ⟨dropO key (depFactsL (nb σ.live) l Fs o'.after.toList ++ (σ.base ++ factsFrom (fun i => listed.getD i false && nb σ.live i) 0 l Fs)), τ.own⟩) a' w' →
        R E n ⟨τ.base ++ factsFrom (fun i' => (listed.setIfInBounds i true).getD i' false && nb τ.live i') 0 l Fs, τ.own⟩ a' w' := by
      intro τ key x a' w' hx hbase hlive hR'
      obtain ⟨h1, h2, h, ρ, hw, hs⟩ := hR'
      have hown : (St.put n o'.dst x ⟨dropO key (depFactsL (nb σ.live) l Fs o'.after.toList ++ (σ.base ++ factsFrom (fun i => listed.getD i false && nb σ.live i) 0 l Fs)), τ.own⟩).own = τ.own := by
        cases hd : o'.dst with
        | none => rfl
        | some d => simp only [St.put, St.set]; split <;> rfl
      rw [hown] at hw
      refine ⟨h1, h2, h, ρ, hw, fun k y hy => ?_⟩
      have hold : (∀ d, o'.dst = some d → k ≠ d) → (k, y) ∈ dropO key (depFactsL (nb σ.live) l Fs o'.after.toList ++ (σ.base ++ factsFrom (fun i => listed.getD i false && nb σ.live i) 0 l Fs)) → ∃ v, a'.tmps[k]? = some v ∧ y.rel h ρ v := by
        intro hkd hm
        refine hs k y ?_
        cases hd : o'.dst with
        | none => exact hm
        | some d =>
          simp only [St.put, St.set]
          split
          · exact List.mem_cons_of_mem _ (del_of_mem hm (hkd d hd))
          · exact hm
      rcases List.mem_append.1 hy with hy | hy
      · rw [hbase] at hy
        have hy2 : (k, y) ∈ σ.base ∧ usesO key y = false := by
          cases key with
          | none => exact ⟨hy, rfl⟩
          | some q => exact mem_dropU hy
        refine hold (fun d hd e => ?_) (mem_dropO (List.mem_append.2 (.inr (List.mem_append.2 (.inl hy2.1)))) hy2.2)
        have := hc3 (k, y) hy2.1
        simp only [List.contains_eq_mem, decide_eq_false_iff_not] at this
        exact this (by rw [e]; exact mem_dsts hol hd)
      · rw [mem_factsFrom] at hy
        obtain ⟨j, oj, hj, hd', hF', hl'⟩ := hy
        rw [Nat.zero_add] at hl'
        simp only [Bool.and_eq_true] at hl'
        have hjl := (List.getElem?_eq_some_iff.1 hj).1
        by_cases hji : j = i
        · subst hji
          rw [hol] at hj; cases hj
          have hxy : x = y := by
            have := hx (by rw [hd']; rfl)
            rw [this] at hF'; exact Option.some.inj hF'
          subst hxy
          refine hs k x ?_
          have hk : k < n.n := by simpa using hlt k (mem_dsts hol hd')
          simp only [hd', St.put, St.set, hk, if_true]
          exact List.mem_cons_self
        · rcases hlive j hjl hl'.2 with h | ⟨h3, h4⟩
          · exact absurd h hji
          · have hl2 : listed.getD j false = true := by
              have := hl'.1
              rwa [getD_set_ne false (fun e => hji e.symm)] at this
            refine hold (fun d hd e => hji (dsts_inj hnd hj hol (e ▸ hd') hd)) (mem_dropO (List.mem_append.2 (.inr (List.mem_append.2 (.inr ?_)))) (h4 y hF'))
            rw [mem_factsFrom]
            exact ⟨j, oj, hj, hd', hF', by rw [Nat.zero_add, hl2, h3]; rfl⟩
    unfold wpOp
    rw [ho]
    dsimp only
    have fin : ∀ (K : Act → World → Prop), (if Region.wanted o' (yielded l.toArray a.tmps) = true then o'.wp P a w K Q else K (a.put o'.dst undef) w) → (∀ a' w', K a' w' → wpAny P .any l.toArray Q fuel (listed.setIfInBounds i true) a' w') → (if Region.wanted o' (yielded l.toArray a.tmps) = true then (o'.wp P a w (wpAny P .any l.toArray Q fuel (listed.setIfInBounds i true)) Q ∨ False) else wpAny P .any l.toArray Q fuel (listed.setIfInBounds i true) (a.put o'.dst undef) w) := by
      intro K hK hk
      split
      · rename_i hw'
        simp only [hw', if_true] at hK
        exact .inl (Oper.wp_mono hk hK)
      · rename_i hw'
        simp only [hw'] at hK
        exact hk _ _ hK
    by_cases hw : nb isW i = true
    · rw [if_pos hw] at hstep
      obtain ⟨τ, key, x, hτ, hx, hbase, hlive, hst⟩ := hstep
      obtain ⟨hτ1, hτ2⟩ := stgOf_done hτ
      have key1 := hst (factsFrom (fun i => listed.getD i false && nb σ.live i) 0 l Fs) a w hR2 (wpAny P .any l.toArray Q fuel (listed.setIfInBounds i true)) Q (fun a' w' hR' => by
        refine ih _ τ a' w' hsz' (by rw [hτ1]; exact hτ) ?_ hcl' hcnt (hnext τ key x a' w' hx hbase ?_ hR')
        · intro j hj
          rw [hτ1, nb_set]
          by_cases e : j = i
          · subst e
            rw [if_pos ⟨rfl, by omega⟩]
            simp [Array.getD_eq_getD_getElem?, his]
          · rw [if_neg (fun h => e h.1), getD_set_ne false (fun h => e h.symm)]
            exact hwl j hj
        · intro j hjl hlj
          have := List.all_eq_true.1 hlive j (List.mem_range.2 hjl)
          simp only [Bool.or_eq_true, Bool.not_eq_true', beq_iff_eq, Bool.and_eq_true] at this
          rcases this with (h | h) | ⟨h, h'⟩
          · rw [hlj] at h; simp at h
          · exact .inl h
          · refine .inr ⟨h, fun y hy => ?_⟩
            rw [hy] at h'
            simpa using h')
      split
      · rename_i hw'
        simp only [hw', if_true] at key1
        exact .inl key1
      · rename_i hw'
        simp only [hw'] at key1
        exact key1
    · rw [if_neg hw] at hstep
      obtain ⟨x, hx, hst⟩ := hstep
      have key1 := hst (factsFrom (fun i => listed.getD i false && nb σ.live i) 0 l Fs) a w hR2 (wpAny P .any l.toArray Q fuel (listed.setIfInBounds i true)) Q (fun a' w' hR' => by
        refine ih _ σ a' w' hsz' hσ ?_ hcl' hcnt (hnext σ none x a' w' hx rfl (fun j _ hlj => .inr ⟨hlj, fun _ _ => rfl⟩) hR')
        intro j hj
        by_cases e : j = i
        · subst e; exact absurd hj hw
        · rw [getD_set_ne false (fun h => e h.symm)]
          exact hwl j hj)
      split
      · rename_i hw'
        simp only [hw', if_true] at key1
        exact .inl key1
      · rename_i hw'
        simp only [hw'] at key1
        exact key1
/-- a drawn region with writers -/
theorem Tri.regionWF {rid : Nat} {ops : List Oper} (hm : P.follows .mixedOrders = true) (isW : List Bool) (Fs : List SV) (tab : List Stg) {σ0 σf : Stg} (hok : (edgesOk 0 ops && nodupB (dsts ops) && (dsts ops).all (· < n.n) && (isW.length == ops.length)) = true)
    (htab : WTab P E n isW tab ops Fs tab) (h0 : stgOf tab (List.replicate ops.length false) = some σ0) (hs0 : s = ⟨σ0.base, σ0.own⟩) (hf : stgOf tab isW = some σf) (ks kos : List Nat)
    (hs : (⟨σf.base ++ factsFrom (nb σf.live) 0 ops Fs, σf.own⟩ : St).keep ks kos = s') (h : Fin E n .normal s' Q) : Tri P E n (.region rid ops.toArray true) s Q := by
  subst hs0
  intro a w hr
  refine wp_region_any hm ?_
  refine anyW hok htab (Fs := Fs) (fun σ hσ => ?_) _ _ σ0 _ _ (by simp) (by rw [(stgOf_done h0).1]; exact h0) ?_ ?_ (by simp) ?_
  · rw [hf] at hσ; cases hσ
    exact fun a w hr => h a w (hs ▸ hr.keep ks kos)
  · intro i _
    rw [(stgOf_done h0).1]
    by_cases hi : i < ops.length <;> simp [nb, List.getD, Array.getD_eq_getD_getElem?, hi]
  · intro i p hi hl
    exfalso
    simp only [Array.getD_eq_getD_getElem?, Array.getElem?_replicate] at hl
    split at hl <;> simp at hl
  · have hr' := hr.drawn
    obtain ⟨h1, h2, hh, ρ, hw, hsl⟩ := hr'
    refine ⟨h1, h2, hh, ρ, hw, fun k x hx => hsl k x ?_⟩
    rcases List.mem_append.1 hx with hx | hx
    · exact hx
    · rw [mem_factsFrom] at hx
      obtain ⟨j, o, hj, _, _, hl⟩ := hx
      simp only [Nat.zero_add, Array.getD_eq_getD_getElem?, Array.getElem?_replicate, Bool.and_eq_true] at hl
      have := hl.1
      split at this <;> simp at this
theorem Tri.regionW {rid : Nat} {ops : List Oper} {y : Code} (hm : P.follows .mixedOrders = true) (isW : List Bool) (Fs : List SV) (tab : List Stg) {σ0 σf : Stg} (hok : (edgesOk 0 ops && nodupB (dsts ops) && (dsts ops).all (· < n.n) && (isW.length == ops.length)) = true)
    (htab : WTab P E n isW tab ops Fs tab) (h0 : stgOf tab (List.replicate ops.length false) = some σ0) (hs0 : s = ⟨σ0.base, σ0.own⟩) (hf : stgOf tab isW = some σf) (ks kos : List Nat)
    (hs : (⟨σf.base ++ factsFrom (nb σf.live) 0 ops Fs, σf.own⟩ : St).keep ks kos = s') (h : Tri P E n y s' Q) : Tri P E n (.region rid ops.toArray true) s (Exit.then (y.wp P Q) Q) :=
  Tri.regionWF hm isW Fs tab hok htab h0 hs0 hf ks kos hs (Fin.then h)
end
end Go.Sk
namespace Go.Sk
open Go
theorem Meets.nilA {P : Program} {f : FuncId} {own : List (Nat × OC)} {args : List BV} {post : SPost} {size : Nat} (i : Nat) (hz : 0 < size) (h : Meets P f own args post) (hi : args[i]? = some (.one (.sl size []))) : Meets P f own (args.set i (.one .nil)) post := by
  intro w hh ρ vals h1 h2 h3
  refine h w hh ρ vals h1 h2 ?_
  clear h h1 h2
  induction args generalizing i vals with
  | nil => simp at hi
  | cons z args ih =>
    cases i with
    | zero =>
      simp at hi
      subst hi
      cases h3 with
      | cons a b => exact .cons ⟨fun ps hp => by simp at hp, hz, .inl ⟨a.1, rfl⟩⟩ b
    | succ i =>
      cases h3 with
      | cons a b => exact .cons a (ih i (by simpa using hi) _ b)
end Go.Sk
