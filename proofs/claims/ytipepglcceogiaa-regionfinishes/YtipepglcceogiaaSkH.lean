/- The framework, part H: regions whose order is drawn. -/
import Derived.Test.YtipepglcceogiaaSkG
namespace Go.Sk
set_option linter.unusedSimpArgs false
set_option linter.unusedVariables false
open Go Go.BigFrame

section
variable {P : Program} {E : Env} {n : Sh} {s s' : St} {ops : Array Oper} {l : List Oper} {Q : Post} {o : Oper}

/-- an operation, guarded or not -/
def Step1 (P : Program) (E : Env) (n : Sh) (ops : Array Oper) (o : Oper) (s s' : St) : Prop :=
  ∀ a w, R E n s a w → ∀ (K : Act → World → Prop) (Q : Post), (∀ a' w', R E n s' a' w' → K a' w') → if Region.wanted o (yielded ops a.tmps) then o.wp P a w K Q else K (a.put o.dst undef) w
theorem Step1.plain (hg : o.guard = none) (h : Op1 P E n o s s') : Step1 P E n ops o s s' := by
  intro a w hr K Q hk
  have : Region.wanted o (yielded ops a.tmps) = true := by simp [Region.wanted, hg]
  simp only [this, if_true]
  exact h a w hr K Q hk
theorem Step1.guard {j t : Nat} {want gd : Bool} {z : BV} (gd' : Bool) (m : Nat) (ks : List Nat) (hG : GuardAt s t want gd) (hgd : gd = gd') (hg : o.guard = some (j, want)) (hj : (ops[j]?).bind (·.dst) = some t)
    (hc : gd' = true → optConds m ks s.slots) (h1 : gd' = true → Op1 P E n o (s.unopt m ks) ((s.unopt m ks).put n o.dst (.b z))) : Step1 P E n ops o s (s.put n o.dst (.opt gd' z)) := by
  subst hgd
  intro a w hr K Q hk
  have hwant := hG.wanted hg hj hr
  cases hb : gd with
  | true =>
    rw [hb] at hwant
    simp only [hwant, if_true]
    exact h1 hb a w (hr.unopt (hc hb)) _ _ fun a' w' hr' => hk a' w' (back_of_unopt hb (hc hb) hr')
  | false =>
    rw [hb] at hwant
    simp only [hwant, Bool.false_eq_true, if_false]
    refine hk _ _ ?_
    rw [hb]
    obtain ⟨hdf, hn, h, ρ, hw, hsl⟩ := hr
    exact R.put (s := s) hdf hn hw hsl ⟨fun e => by simp at e, fun _ => rfl⟩

/-- the facts of the operations i, i + 1, .. that p picks -/
def factsFrom (p : Nat → Bool) : Nat → List Oper → List SV → List (Nat × SV)
  | i, o :: l, x :: Fs => match o.dst with
    | some d => if p i then (d, x) :: factsFrom p (i + 1) l Fs else factsFrom p (i + 1) l Fs
    | none => factsFrom p (i + 1) l Fs
  | _, _, _ => []
theorem mem_factsFrom {p : Nat → Bool} : ∀ {l : List Oper} {Fs : List SV} {i : Nat} {q : Nat × SV}, q ∈ factsFrom p i l Fs ↔ ∃ j o, l[j]? = some o ∧ o.dst = some q.1 ∧ Fs[j]? = some q.2 ∧ p (i + j) = true
  | [], Fs, i, q => by simp [factsFrom]
  | o :: l, [], i, q => by simp [factsFrom]
  | o :: l, x :: Fs, i, q => by
    have ih := mem_factsFrom (p := p) (l := l) (Fs := Fs) (i := i + 1) (q := q)
    have step : (∃ j o', (o :: l)[j]? = some o' ∧ o'.dst = some q.1 ∧ (x :: Fs)[j]? = some q.2 ∧ p (i + j) = true) ↔ (o.dst = some q.1 ∧ x = q.2 ∧ p i = true) ∨ ∃ j o', l[j]? = some o' ∧ o'.dst = some q.1 ∧ Fs[j]? = some q.2 ∧ p (i + 1 + j) = true := by
      constructor
      · rintro ⟨j, o', h1, h2, h3, h4⟩
        cases j with
        | zero => simp at h1 h3; subst h1; exact .inl ⟨h2, h3, h4⟩
        | succ j => exact .inr ⟨j, o', by simpa using h1, h2, by simpa using h3, by rw [Nat.add_assoc, Nat.add_comm 1 j]; exact h4⟩
      · rintro (⟨h1, h2, h3⟩ | ⟨j, o', h1, h2, h3, h4⟩)
        · exact ⟨0, o, by simp, h1, by simp [h2], h3⟩
        · exact ⟨j + 1, o', by simpa using h1, h2, by simpa using h3, by rw [Nat.add_assoc, Nat.add_comm 1 j] at h4; exact h4⟩
    have hcons : factsFrom p i (o :: l) (x :: Fs) = (match o.dst with
      | some d => if p i then (d, x) :: factsFrom p (i + 1) l Fs else factsFrom p (i + 1) l Fs
      | none => factsFrom p (i + 1) l Fs) := rfl
    rw [step, ← ih, hcons]
    cases hd : o.dst with
    | none => simp
    | some d =>
      dsimp only
      split
      · rename_i hp
        rw [List.mem_cons]
        constructor
        · rintro (rfl | h)
          · exact .inl ⟨rfl, rfl, hp⟩
          · exact .inr h
        · rintro (⟨h1, h2, _⟩ | h)
          · left; cases q; simp at h1 h2; simp [h1, h2]
          · exact .inr h
      · rename_i hp
        constructor
        · exact .inr
        · rintro (⟨_, _, h3⟩ | h)
          · exact absurd h3 hp
          · exact h
/-- the facts on which an operation waits -/
def depFacts (l : List Oper) (Fs : List SV) : List Edge → List (Nat × SV)
  | [] => []
  | e :: es => if Region.binds .any e then
      match l[e.on]?, Fs[e.on]? with
      | some o, some x => (match o.dst with | some d => (d, x) :: depFacts l Fs es | none => depFacts l Fs es)
      | _, _ => depFacts l Fs es
    else depFacts l Fs es
theorem mem_depFacts {l : List Oper} {Fs : List SV} : ∀ {es : List Edge} {q : Nat × SV}, q ∈ depFacts l Fs es → ∃ e, e ∈ es ∧ Region.binds .any e = true ∧ ∃ o, l[e.on]? = some o ∧ o.dst = some q.1 ∧ Fs[e.on]? = some q.2
  | [], q, h => by simp [depFacts] at h
  | e :: es, q, h => by
    have hrec : q ∈ depFacts l Fs es → ∃ e', e' ∈ e :: es ∧ Region.binds .any e' = true ∧ ∃ o, l[e'.on]? = some o ∧ o.dst = some q.1 ∧ Fs[e'.on]? = some q.2 := fun h => by
      obtain ⟨e', h1, h2⟩ := mem_depFacts h
      exact ⟨e', List.mem_cons_of_mem _ h1, h2⟩
    unfold depFacts at h
    split at h
    · rename_i hb
      split at h
      · rename_i o x ho hx
        split at h
        · rename_i d hd
          cases List.mem_cons.1 h with
          | inl e' => subst e'; exact ⟨e, List.mem_cons_self, hb, o, ho, hd, hx⟩
          | inr e' => exact hrec e'
        · exact hrec h
      · exact hrec h
    · exact hrec h
/-- each operation's step, from what it waits on -/
def StepsD (P : Program) (E : Env) (n : Sh) (ops : Array Oper) (s : St) (l : List Oper) (Fs : List SV) : List Oper → List SV → Prop
  | [], [] => True
  | o :: r, x :: xs => (∀ extra, Step1 P E n ops o ⟨depFacts l Fs o.after.toList ++ (s.slots ++ extra), s.own⟩ (St.put n o.dst x ⟨depFacts l Fs o.after.toList ++ (s.slots ++ extra), s.own⟩)) ∧ StepsD P E n ops s l Fs r xs
  | _, _ => False
theorem stepsD_get {Fs : List SV} {l0 : List Oper} {Fs0 : List SV} : ∀ {r : List Oper} {xs : List SV}, StepsD P E n ops s l0 Fs0 r xs → r.length = xs.length ∧ ∀ (i : Nat) (o : Oper), r[i]? = some o → ∃ x, xs[i]? = some x ∧ ∀ extra, Step1 P E n ops o ⟨depFacts l0 Fs0 o.after.toList ++ (s.slots ++ extra), s.own⟩ (St.put n o.dst x ⟨depFacts l0 Fs0 o.after.toList ++ (s.slots ++ extra), s.own⟩)
  | [], [], _ => ⟨rfl, fun i o h => by simp at h⟩
  | o :: r, x :: xs, h => by
    obtain ⟨h1, h2⟩ := h
    obtain ⟨h3, h4⟩ := stepsD_get (Fs := Fs) h2
    refine ⟨by simp [h3], fun i o' ho => ?_⟩
    cases i with
    | zero => simp at ho; subst ho; exact ⟨x, by simp, h1⟩
    | succ i => obtain ⟨y, hy, hz⟩ := h4 i o' (by simpa using ho); exact ⟨y, by simpa using hy, hz⟩
  | [], _ :: _, h => h.elim
  | _ :: _, [], h => h.elim
/-- the edges lead back; the slots written are all distinct, and none is known before -/
def edgesOk : Nat → List Oper → Bool
  | _, [] => true
  | i, o :: l => o.after.toList.all (fun e => !Region.binds .any e || e.on < i) && edgesOk (i + 1) l
def dsts : List Oper → List Nat
  | [] => []
  | o :: l => match o.dst with | some d => d :: dsts l | none => dsts l
def nodupB : List Nat → Bool
  | [] => true
  | a :: l => !l.contains a && nodupB l
def okD (s : St) (l : List Oper) (m : Nat) : Bool := edgesOk 0 l && nodupB (dsts l) && (s.slots.all fun p => !(dsts l).contains p.1) && (dsts l).all (· < m)
theorem edgesOk_spec : ∀ {l : List Oper} {i : Nat}, edgesOk i l = true → ∀ (j : Nat) (o : Oper), l[j]? = some o → ∀ e ∈ o.after, Region.binds .any e = true → e.on < i + j
  | [], i, h, j, o', ho, e, he, hb => by simp at ho
  | o :: l, i, h, j, o', ho, e, he, hb => by
    simp only [edgesOk, Bool.and_eq_true, List.all_eq_true] at h
    cases j with
    | zero =>
      simp at ho; subst ho
      have := h.1 e (by simpa using he)
      simp [hb] at this
      omega
    | succ j => have := edgesOk_spec h.2 j o' (by simpa using ho) e he hb; omega
theorem mem_dsts : ∀ {l : List Oper} {j : Nat} {o : Oper} {d : Nat}, l[j]? = some o → o.dst = some d → d ∈ dsts l
  | [], j, o, d, h, hd => by simp at h
  | o' :: l, 0, o, d, h, hd => by simp at h; subst h; simp [dsts, hd]
  | o' :: l, j + 1, o, d, h, hd => by
    have := mem_dsts (l := l) (j := j) (by simpa using h) hd
    unfold dsts
    split
    · exact List.mem_cons_of_mem _ this
    · exact this
theorem dsts_inj : ∀ {l : List Oper}, nodupB (dsts l) = true → ∀ {j j' : Nat} {o o' : Oper} {d : Nat}, l[j]? = some o → l[j']? = some o' → o.dst = some d → o'.dst = some d → j = j'
  | [], hn, j, j', o, o', d, h, h', hd, hd' => by simp at h
  | o0 :: l, hn, j, j', o, o', d, h, h', hd, hd' => by
    have hn2 : nodupB (dsts l) = true := by
      unfold dsts at hn
      split at hn
      · simp only [nodupB, Bool.and_eq_true] at hn; exact hn.2
      · exact hn
    have hnot : ∀ d, o0.dst = some d → d ∉ dsts l := fun d hd0 => by
      unfold dsts at hn
      rw [hd0] at hn
      simp only [nodupB, Bool.and_eq_true, Bool.not_eq_true', List.contains_eq_mem, decide_eq_false_iff_not] at hn
      exact hn.1
    cases j with
    | zero =>
      cases j' with
      | zero => rfl
      | succ j' =>
        simp at h; subst h
        exact absurd (mem_dsts (by simpa using h') hd') (hnot d hd)
    | succ j =>
      cases j' with
      | zero =>
        simp at h'; subst h'
        exact absurd (mem_dsts (by simpa using h) hd) (hnot d hd')
      | succ j' => exact congrArg (· + 1) (dsts_inj hn2 (j := j) (j' := j') (o := o) (o' := o') (d := d) (by simpa using h) (by simpa using h') hd hd')

theorem R.drawn {a : Act} {w : World} (hr : R E n s a w) : R E n s a { w with drawn := w.drawn + 1 } := by
  obtain ⟨h1, h2, h, ρ, hw, hs⟩ := hr
  refine ⟨h1, h2, h, ρ, ⟨hw.agree, hw.le, hw.fresh, hw.size, hw.same, hw.fixed, hw.os, hw.out, ?_⟩, hs⟩
  intro k c hk
  obtain ⟨e1, e2, e3⟩ := hw.owned k c hk
  exact ⟨e1.congr fun _ _ => rfl, e2, e3⟩

def stD (s : St) (l : List Oper) (Fs : List SV) (listed : Array Bool) : St := ⟨s.slots ++ factsFrom (fun i => listed.getD i false) 0 l Fs, s.own⟩
theorem anyD {Fs : List SV} (hst : StepsD P E n l.toArray s l Fs l Fs) (hok : okD s l n.n = true) (hfin : Fin E n .normal ⟨s.slots ++ factsFrom (fun _ => true) 0 l Fs, s.own⟩ Q) : ∀ (fuel : Nat) (listed : Array Bool) (a : Act) (w : World),
    listed.size = l.length → l.length ≤ fuel + (listed.toList.filter id).length → R E n (stD s l Fs listed) a w → wpAny P .any l.toArray Q fuel listed a w := by
  simp only [okD, Bool.and_eq_true, List.all_eq_true] at hok
  obtain ⟨⟨⟨hedges, hnd⟩, hbase⟩, hlt⟩ := hok
  obtain ⟨hlen, hsteps⟩ := stepsD_get (Fs := Fs) hst
  have hready : ∀ (listed : Array Bool), listed.size = l.length → Region.ready .any l.toArray listed = [] → ∀ j, j < l.length → listed.getD j false = true := by
    intro listed hsz hr j hj
    induction j using Nat.strongRecOn with
    | _ j ih =>
      cases hb : listed.getD j false with
      | true => rfl
      | false =>
        exfalso
        have hjr : j ∈ Region.ready .any l.toArray listed := by
          rw [mem_ready]
          refine ⟨?_, l[j], by simp [hj], fun e he hbd => ?_⟩
          · have : j < listed.size := by omega
            simp only [Array.getD_eq_getD_getElem?, Array.getElem?_eq_getElem this, Option.getD_some] at hb ⊢
            exact hb
          · have := edgesOk_spec hedges j l[j] (by simp) e he hbd
            exact ih e.on (by omega) (by omega)
        rw [hr] at hjr
        simp at hjr
  have hdone : ∀ (listed : Array Bool) a w, listed.size = l.length → Region.ready .any l.toArray listed = [] → R E n (stD s l Fs listed) a w → Q .normal a w := by
    intro listed a w hsz hr hR
    refine hfin a w ?_
    obtain ⟨h1, h2, h, ρ, hw, hs⟩ := hR
    refine ⟨h1, h2, h, ρ, hw, fun k x hx => hs k x ?_⟩
    simp only [stD, List.mem_append] at hx ⊢
    rcases hx with hx | hx
    · exact .inl hx
    · right
      rw [mem_factsFrom] at hx ⊢
      obtain ⟨j, o, hj, hd, hF, _⟩ := hx
      exact ⟨j, o, hj, hd, hF, by rw [Nat.zero_add]; exact hready listed hsz hr j (List.getElem?_eq_some_iff.1 hj).1⟩
  intro fuel
  induction fuel with
  | zero =>
    intro listed a w hsz hf hR
    have hall : ∀ j, j < l.length → listed.getD j false = true := by
      intro j hj
      have hfl : (listed.toList.filter id).length = listed.toList.length := by
        have := List.length_filter_le id listed.toList
        simp at this ⊢; omega
      have hall2 := List.filter_eq_self.1 (List.filter_sublist.eq_of_length hfl)
      have hjs : j < listed.size := by omega
      have := hall2 listed[j] (by simp)
      simp only [Array.getD_eq_getD_getElem?, Array.getElem?_eq_getElem hjs, Option.getD_some]
      simpa using this
    have hr : Region.ready .any l.toArray listed = [] := by
      apply List.eq_nil_iff_forall_not_mem.2
      intro j hj
      rw [mem_ready] at hj
      obtain ⟨hj1, o, ho, _⟩ := hj
      have hjl : j < l.length := by simpa using (Array.getElem?_eq_some_iff.1 ho).1
      have hjs : j < listed.size := by omega
      have := hall j hjl
      simp only [Array.getD_eq_getD_getElem?, Array.getElem?_eq_getElem hjs, Option.getD_some] at this hj1
      rw [this] at hj1; simp at hj1
    exact ⟨hr, hdone listed a w hsz hr hR⟩
  | succ fuel ih =>
    intro listed a w hsz hf hR
    refine ⟨fun hr => hdone listed a w hsz hr hR, fun i hi => ?_⟩
    rw [mem_ready] at hi
    obtain ⟨hi1, o, ho, hdeps⟩ := hi
    have hol : l[i]? = some o := by simpa using ho
    have hil : i < l.length := (List.getElem?_eq_some_iff.1 hol).1
    have his : i < listed.size := by omega
    have hi1' : listed[i] = false := by simpa [Array.getD_eq_getD_getElem?, Array.getElem?_eq_getElem his] using hi1
    obtain ⟨x, hx, hstep⟩ := hsteps i o hol
    have hR2 : R E n ⟨depFacts l Fs o.after.toList ++ (s.slots ++ factsFrom (fun i => listed.getD i false) 0 l Fs), s.own⟩ a w := by
      obtain ⟨h1, h2, h, ρ, hw, hs⟩ := hR
      refine ⟨h1, h2, h, ρ, hw, fun k y hy => ?_⟩
      rcases List.mem_append.1 hy with hy | hy
      · obtain ⟨e, he, hb, o', ho', hd', hF'⟩ := mem_depFacts hy
        refine hs k y (List.mem_append.2 (.inr ?_))
        rw [mem_factsFrom]
        exact ⟨e.on, o', ho', hd', hF', by rw [Nat.zero_add]; exact hdeps e (by simpa using he) hb⟩
      · exact hs k y hy
    unfold wpOp
    rw [ho]
    dsimp only
    have key := hstep (factsFrom (fun i => listed.getD i false) 0 l Fs) a w hR2 (wpAny P .any l.toArray Q fuel (listed.setIfInBounds i true)) Q (fun a' w' hR' => by
      refine ih _ a' w' (by simpa using hsz) ?_ ?_
      · -- one more is listed
        have hcount : ((listed.setIfInBounds i true).toList.filter id).length = (listed.toList.filter id).length + 1 := by
          rw [Array.toList_setIfInBounds]
          have : ∀ (L : List Bool) (i : Nat) (hi : i < L.length), L[i] = false → ((L.set i true).filter id).length = (L.filter id).length + 1 := by
            intro L
            induction L with
            | nil => intro i hi; simp at hi
            | cons b L ihL =>
              intro i hi hb
              cases i with
              | zero => simp at hb; subst hb; simp
              | succ i =>
                have := ihL i (by simpa using hi) (by simpa using hb)
                cases b <;> simp [this]
          exact this listed.toList i (by simpa using his) (by simpa using hi1')
        omega
      · -- the facts grow by one
        obtain ⟨h1, h2, h, ρ, hw, hs⟩ := hR'
        have hown : (St.put n o.dst x ⟨depFacts l Fs o.after.toList ++ (s.slots ++ factsFrom (fun i => listed.getD i false) 0 l Fs), s.own⟩).own = s.own := by
          cases hd : o.dst with
          | none => rfl
          | some d => simp only [St.put, St.set]; split <;> rfl
        rw [hown] at hw
        refine ⟨h1, h2, h, ρ, hw, fun k y hy => ?_⟩
        have hold : ∀ d, o.dst = some d → k ≠ d → (k, y) ∈ s.slots ++ factsFrom (fun i => listed.getD i false) 0 l Fs → ∃ v, a'.tmps[k]? = some v ∧ y.rel h ρ v := by
          intro d hd hkd hm
          refine hs k y ?_
          simp only [hd, St.put, St.set]
          split
          · exact List.mem_cons_of_mem _ (del_of_mem (List.mem_append.2 (.inr hm)) hkd)
          · exact List.mem_append.2 (.inr hm)
        have hnone : o.dst = none → (k, y) ∈ s.slots ++ factsFrom (fun i => listed.getD i false) 0 l Fs → ∃ v, a'.tmps[k]? = some v ∧ y.rel h ρ v := by
          intro hd hm
          refine hs k y ?_
          simp only [hd, St.put]
          exact List.mem_append.2 (.inr hm)
        rcases List.mem_append.1 hy with hy | hy
        · cases hd : o.dst with
          | none => exact hnone hd (List.mem_append.2 (.inl hy))
          | some d =>
            refine hold d hd ?_ (List.mem_append.2 (.inl hy))
            intro e
            have := hbase (k, y) hy
            simp only [Bool.not_eq_true', List.contains_eq_mem, decide_eq_false_iff_not] at this
            exact this (by rw [e]; exact mem_dsts hol hd)
        · rw [mem_factsFrom] at hy
          obtain ⟨j, o', hj, hd', hF', hl'⟩ := hy
          rw [Nat.zero_add] at hl'
          by_cases hji : j = i
          · subst hji
            rw [hol] at hj; cases hj
            rw [hx] at hF'
            refine hs k y ?_
            have : (St.put n o.dst x ⟨depFacts l Fs o.after.toList ++ (s.slots ++ factsFrom (fun i => listed.getD i false) 0 l Fs), s.own⟩).slots = (k, x) :: del k (depFacts l Fs o.after.toList ++ (s.slots ++ factsFrom (fun i => listed.getD i false) 0 l Fs)) := by
              have hk : k < n.n := by
                have := hlt k (mem_dsts hol hd')
                simpa using this
              simp only [hd', St.put, St.set, hk, if_true]
            rw [this]
            cases hF'
            exact List.mem_cons_self
          · have hl2 : listed.getD j false = true := by
              rw [getD_set_ne false (fun e => hji e.symm)] at hl'
              exact hl'
            have hm : (k, y) ∈ factsFrom (fun i => listed.getD i false) 0 l Fs := by
              rw [mem_factsFrom]
              exact ⟨j, o', hj, hd', hF', by rw [Nat.zero_add]; exact hl2⟩
            cases hd : o.dst with
            | none => exact hnone hd (List.mem_append.2 (.inr hm))
            | some d =>
              refine hold d hd ?_ (List.mem_append.2 (.inr hm))
              intro e
              exact hji (dsts_inj hnd hj hol (e ▸ hd') hd))
    split
    · rename_i hw'
      simp only [hw', if_true] at key
      exact .inl key
    · rename_i hw'
      simp only [hw'] at key
      exact key
/-- a region whose order is drawn; each operation only adds what it makes -/
theorem Tri.regionDF {rid : Nat} (hm : P.follows .mixedOrders = true) (Fs : List SV) (ks kos : List Nat) (hok : okD s l n.n = true) (hst : StepsD P E n l.toArray s l Fs l Fs)
    (hs : (⟨s.slots ++ factsFrom (fun _ => true) 0 l Fs, s.own⟩ : St).keep ks kos = s') (h : Fin E n .normal s' Q) : Tri P E n (.region rid l.toArray true) s Q := by
  intro a w hr
  refine wp_region_any hm ?_
  refine anyD hst hok (Fs := Fs) ?_ _ _ _ _ (by simp) (by simp) ?_
  · exact fun a w hr => h a w (hs ▸ hr.keep ks kos)
  · have hr' := hr.drawn
    obtain ⟨h1, h2, h, ρ, hw, hsl⟩ := hr'
    refine ⟨h1, h2, h, ρ, hw, fun k x hx => hsl k x ?_⟩
    rcases List.mem_append.1 hx with hx | hx
    · exact hx
    · rw [mem_factsFrom] at hx
      obtain ⟨j, o, hj, _, _, hl⟩ := hx
      have hjl := (List.getElem?_eq_some_iff.1 hj).1
      simp [Array.getD_eq_getD_getElem?, hjl] at hl
theorem Tri.regionD {rid : Nat} {y : Code} (hm : P.follows .mixedOrders = true) (Fs : List SV) (ks kos : List Nat) (hok : okD s l n.n = true) (hst : StepsD P E n l.toArray s l Fs l Fs)
    (hs : (⟨s.slots ++ factsFrom (fun _ => true) 0 l Fs, s.own⟩ : St).keep ks kos = s') (h : Tri P E n y s' Q) : Tri P E n (.region rid l.toArray true) s (Exit.then (y.wp P Q) Q) :=
  Tri.regionDF hm Fs ks kos hok hst hs (Fin.then h)
end
end Go.Sk
