/- The framework, part M: nil cells of a box as empty slices; parts of rows; copies. -/
import Derived.Test.YtipepglcceogiaaSkL
namespace Go.Sk
set_option linter.unusedSimpArgs false
set_option linter.unusedVariables false
open Go Go.BigFrame
section
variable {P : Program} {E : Env} {n : Sh} {s s' : St} {dst : Option Nat} {t ty yt : TypeId} {pos : String} {after : Array Edge} {g : Option (Nat × Bool)} {x y c : Operand} {ops : Array Oper} {l : List Oper} {Q : Post} {cd : Code}
theorem cellsRel.nilset {h : PH} {size : Nat} (hz : 0 < size) : ∀ {ps : List CP} {cs : List Value} (i : Nat), ps[i]? = some .nil → cellsRel h ps cs → cellsRel h (ps.set i (.sl size [])) cs
  | [], _, i, hi, hc => by simp at hi
  | p :: ps, _, 0, hi, .cons h1 h2 => by
    simp at hi; subst hi
    exact .cons ⟨fun q hq => by simp at hq, hz, .inl ⟨h1.1, rfl⟩⟩ h2
  | p :: ps, _, i + 1, hi, .cons h1 h2 => .cons h1 (cellsRel.nilset hz i (by simpa using hi) h2)
theorem R.nilbox {k i size : Nat} {T : TypeId} {ps : List CP} {a : Act} {w : World} (hr : R E n s a w) (hk : lk s.own k = some (.box T ps)) (hi : ps[i]? = some .nil) (hz : 0 < size) : R E n ⟨s.slots, ins k (.box T (ps.set i (.sl size []))) s.own⟩ a w := by
  obtain ⟨h1, h2, h, ρ, hw, hs⟩ := hr
  refine ⟨h1, h2, h, ρ, ⟨hw.agree, hw.le, hw.fresh, hw.size, hw.same, hw.fixed, hw.os, hw.out, ?_⟩, hs⟩
  intro j x hx
  have hkk := hw.owned k _ (lk_mem hk)
  have back : ∀ j' x', (j', x') ∈ ins k (OC.box T (ps.set i (.sl size []))) s.own → ∃ x'', (j', x'') ∈ s.own := fun j' x' hm => by
    rcases mem_ins hm with ⟨rfl, rfl⟩ | ⟨_, hm⟩
    · exact ⟨_, lk_mem hk⟩
    · exact ⟨_, hm⟩
  rcases mem_ins hx with ⟨rfl, rfl⟩ | ⟨hne, hm⟩
  · refine ⟨?_, hkk.2.1, fun k' c' hm' hne => ?_⟩
    · obtain ⟨b, cur, e1, e2, e3⟩ := hkk.1
      exact ⟨b, cur, e1, e2, e3.nilset hz i hi⟩
    · obtain ⟨c'', hm''⟩ := back k' c' hm'
      exact hkk.2.2 k' c'' hm'' hne
  · have hj := hw.owned j _ hm
    refine ⟨hj.1, hj.2.1, fun k' c' hm' hne => ?_⟩
    obtain ⟨c'', hm''⟩ := back k' c' hm'
    exact hj.2.2 k' c'' hm'' hne
theorem Fin.nilbox {e : Exit} (k i size : Nat) {T : TypeId} {ps : List CP} (hk : lk s.own k = some (.box T ps)) (hi : ps[i]? = some .nil) (hz : 0 < size) (h : Fin E n e ⟨s.slots, ins k (.box T (ps.set i (.sl size []))) s.own⟩ Q) : Fin E n e s Q :=
  fun a w hr => h a w (hr.nilbox hk hi hz)
end

/-! ## a drawn region whose last operation waits on all others -/
section
variable {P : Program} {E : Env} {n : Sh} {s s' s2 : St} {l : List Oper} {Q : Post} {o : Oper}
def lastOk (l : List Oper) (o : Oper) : Bool := (o.after.toList.all fun e => !Region.binds .any e || e.on < l.length) && ((List.range l.length).all fun j => (o.after.toList.any fun e => Region.binds .any e && e.on == j) || ((List.range l.length).any fun i => decide (j < i) && (match l[i]? with | some p => p.after.toList.any fun e => Region.binds .any e && e.on == j | none => false)))
theorem anyDL {Fs : List SV} (hst : StepsD P E n (l ++ [o]).toArray s l Fs l Fs) (hok : okD s l n.n = true) (hlo : lastOk l o = true) (hlast : Step1 P E n (l ++ [o]).toArray o ⟨s.slots ++ factsFrom (fun _ => true) 0 l Fs, s.own⟩ s2) (hfin : Fin E n .normal s2 Q) : ∀ (fuel : Nat) (listed : Array Bool) (a : Act) (w : World),
    listed.size = l.length + 1 → listed.getD l.length false = false → (∀ (i : Nat) (p : Oper), l[i]? = some p → listed.getD i false = true → ∀ e ∈ p.after.toList, Region.binds .any e = true → listed.getD e.on false = true) → l.length + 1 ≤ fuel + (listed.toList.filter id).length → R E n (stD s l Fs listed) a w → wpAny P .any (l ++ [o]).toArray Q fuel listed a w := by
  simp only [okD, Bool.and_eq_true, List.all_eq_true] at hok
  obtain ⟨⟨⟨hedges, hnd⟩, hbase⟩, hlt⟩ := hok
  simp only [lastOk, Bool.and_eq_true, List.all_eq_true, List.any_eq_true, List.mem_range, Bool.or_eq_true, Bool.not_eq_true', beq_iff_eq, decide_eq_true_eq] at hlo
  obtain ⟨hle, hlall⟩ := hlo
  obtain ⟨hlen, hsteps⟩ := stepsD_get (Fs := Fs) hst
  have hcount : ∀ (L : List Bool) (i : Nat) (hi : i < L.length), L[i] = false → ((L.set i true).filter id).length = (L.filter id).length + 1 := by
    intro L
    induction L with
    | nil => intro i hi; simp at hi
    | cons b L ihL =>
      intro i hi hb
      cases i with
      | zero => simp at hb; subst hb; simp
      | succ i =>
        have := ihL i (by simpa using hi) (by simpa using hb)
        cases b <;> simp [this]
  have hready : ∀ (listed : Array Bool), listed.size = l.length + 1 → Region.ready .any (l ++ [o]).toArray listed = [] → ∀ j, j < l.length + 1 → listed.getD j false = true := by
    intro listed hsz hr j hj
    induction j using Nat.strongRecOn with
    | _ j ih =>
      cases hb : listed.getD j false with
      | true => rfl
      | false =>
        exfalso
        have hjs : j < listed.size := by omega
        have hjr : j ∈ Region.ready .any (l ++ [o]).toArray listed := by
          rw [mem_ready]
          have hlj : listed.getD j true = false := by
            simp only [Array.getD_eq_getD_getElem?, Array.getElem?_eq_getElem hjs, Option.getD_some] at hb ⊢
            exact hb
          by_cases hjl : j < l.length
          · refine ⟨hlj, l[j], by simp [List.getElem?_append_left hjl, hjl], fun e he hbd => ?_⟩
            have := edgesOk_spec hedges j l[j] (by simp) e he hbd
            exact ih e.on (by omega) (by omega)
          · have ej : j = l.length := by omega
            refine ⟨hlj, o, by subst ej; simp, fun e he hbd => ?_⟩
            rcases hle e (by simpa using he) with h | h
            · rw [h] at hbd; simp at hbd
            · exact ih e.on (by omega) (by omega)
        rw [hr] at hjr
        simp at hjr
  intro fuel
  induction fuel with
  | zero =>
    intro listed a w hsz hz hcl hf hR
    exfalso
    have hls : l.length < listed.toList.length := by simp; omega
    have hz' : listed.toList[l.length] = false := by
      simp only [Array.getD_eq_getD_getElem?] at hz
      rw [Array.getElem?_eq_getElem (by omega)] at hz
      simpa using hz
    have h1 := hcount listed.toList l.length hls hz'
    have h2 := List.length_filter_le id (listed.toList.set l.length true)
    simp at h1 h2 hf
    omega
  | succ fuel ih =>
    intro listed a w hsz hz hcl hf hR
    refine ⟨fun hr => ?_, fun i hi => ?_⟩
    · have := hready listed hsz hr l.length (by omega)
      rw [hz] at this; simp at this
    rw [mem_ready] at hi
    obtain ⟨hi1, o', ho, hdeps⟩ := hi
    have hil : i < l.length + 1 := by
      have := (Array.getElem?_eq_some_iff.1 ho).1
      simpa using this
    have his : i < listed.size := by omega
    have hi1' : listed[i] = false := by simpa [Array.getD_eq_getD_getElem?, Array.getElem?_eq_getElem his] using hi1
    by_cases hlast' : i = l.length
    · -- the last one
      subst hlast'
      have eo : o' = o := by simpa using ho.symm
      subst eo
      have hall : ∀ j, j < l.length → listed.getD j false = true := by
        have key : ∀ m j, l.length - j = m → j < l.length → listed.getD j false = true := by
          intro m
          induction m using Nat.strongRecOn with
          | _ m ihm =>
            intro j hm hj
            rcases hlall j hj with ⟨e, he, hb, hon⟩ | ⟨i, hi, hji, hp⟩
            · have := hdeps e (by simpa using he) hb
              rw [hon] at this
              exact this
            · cases hpi : l[i]? with
              | none => rw [hpi] at hp; simp at hp
              | some p =>
                rw [hpi] at hp
                simp only [List.any_eq_true, Bool.and_eq_true, beq_iff_eq] at hp
                obtain ⟨e, he, hb, hon⟩ := hp
                have h1 := ihm (l.length - i) (by omega) i rfl hi
                have := hcl i p hpi h1 e he hb
                rw [hon] at this
                exact this
        exact fun j hj => key _ j rfl hj
      have hR2 : R E n ⟨s.slots ++ factsFrom (fun _ => true) 0 l Fs, s.own⟩ a w := by
        obtain ⟨h1, h2, h, ρ, hw, hs⟩ := hR
        refine ⟨h1, h2, h, ρ, hw, fun k x hx => hs k x ?_⟩
        simp only [stD, List.mem_append] at hx ⊢
        rcases hx with hx | hx
        · exact .inl hx
        · right
          rw [mem_factsFrom] at hx ⊢
          obtain ⟨j, oj, hj, hd, hF, _⟩ := hx
          exact ⟨j, oj, hj, hd, hF, by rw [Nat.zero_add]; exact hall j (List.getElem?_eq_some_iff.1 hj).1⟩
      unfold wpOp
      rw [ho]
      dsimp only
      have hdone : ∀ a' w', R E n s2 a' w' → wpAny P .any (l ++ [o']).toArray Q fuel (listed.setIfInBounds l.length true) a' w' := by
        intro a' w' hR'
        have hnr : Region.ready .any (l ++ [o']).toArray (listed.setIfInBounds l.length true) = [] := by
          apply List.eq_nil_iff_forall_not_mem.2
          intro j hj
          rw [mem_ready] at hj
          obtain ⟨hj1, oj, hoj, _⟩ := hj
          have hjl : j < l.length + 1 := by
            have := (Array.getElem?_eq_some_iff.1 hoj).1
            simpa using this
          have hjs : j < (listed.setIfInBounds l.length true).size := by simp; omega
          have hjt : (listed.setIfInBounds l.length true).getD j false = true := by
            by_cases e : j = l.length
            · subst e; simp [Array.getD_eq_getD_getElem?, his]
            · rw [getD_set_ne false (fun h => e h.symm)]; exact hall j (by omega)
          simp only [Array.getD_eq_getD_getElem?, Array.getElem?_eq_getElem hjs, Option.getD_some] at hj1 hjt
          rw [hjt] at hj1; simp at hj1
        cases fuel with
        | zero => exact ⟨hnr, hfin a' w' hR'⟩
        | succ f => exact ⟨fun _ => hfin a' w' hR', fun j hj => by rw [hnr] at hj; simp at hj⟩
      have key := hlast a w hR2 (wpAny P .any (l ++ [o']).toArray Q fuel (listed.setIfInBounds l.length true)) Q hdone
      split
      · rename_i hw'
        simp only [hw', if_true] at key
        exact .inl key
      · rename_i hw'
        simp only [hw'] at key
        exact key
    · have hil2 : i < l.length := by omega
      have hol : l[i]? = some o' := by
        have h := ho
        simp only [List.getElem?_toArray] at h
        rwa [List.getElem?_append_left hil2] at h
      obtain ⟨x, hx, hstep⟩ := hsteps i o' hol
      have hR2 : R E n ⟨depFacts l Fs o'.after.toList ++ (s.slots ++ factsFrom (fun i => listed.getD i false) 0 l Fs), s.own⟩ a w := by
        obtain ⟨h1, h2, h, ρ, hw, hs⟩ := hR
        refine ⟨h1, h2, h, ρ, hw, fun k y hy => ?_⟩
        rcases List.mem_append.1 hy with hy | hy
        · obtain ⟨e, he, hb, o'', ho', hd', hF'⟩ := mem_depFacts hy
          refine hs k y (List.mem_append.2 (.inr ?_))
          rw [mem_factsFrom]
          exact ⟨e.on, o'', ho', hd', hF', by rw [Nat.zero_add]; exact hdeps e (by simpa using he) hb⟩
        · exact hs k y hy
      unfold wpOp
      rw [ho]
      dsimp only
      have key := hstep (factsFrom (fun i => listed.getD i false) 0 l Fs) a w hR2 (wpAny P .any (l ++ [o]).toArray Q fuel (listed.setIfInBounds i true)) Q (fun a' w' hR' => by
        refine ih _ a' w' (by simpa using hsz) ?_ ?_ ?_ ?_
        · rw [getD_set_ne false hlast']; exact hz
        · intro j p hj hlj e he hb
          have hset : ∀ q, listed.getD q false = true → (listed.setIfInBounds i true).getD q false = true := fun q hq => by
            by_cases e : q = i
            · subst e; simp [Array.getD_eq_getD_getElem?, his]
            · rw [getD_set_ne false (fun h => e h.symm)]; exact hq
          by_cases e' : j = i
          · subst e'
            rw [hol] at hj; cases hj
            exact hset _ (hdeps e (by simpa using he) hb)
          · rw [getD_set_ne false (fun h => e' h.symm)] at hlj
            exact hset _ (hcl j p hj hlj e he hb)
        · have := hcount listed.toList i (by simpa using his) (by simpa using hi1')
          rw [Array.toList_setIfInBounds]
          omega
        · obtain ⟨h1, h2, h, ρ, hw, hs⟩ := hR'
          have hown : (St.put n o'.dst x ⟨depFacts l Fs o'.after.toList ++ (s.slots ++ factsFrom (fun i => listed.getD i false) 0 l Fs), s.own⟩).own = s.own := by
            cases hd : o'.dst with
            | none => rfl
            | some d => simp only [St.put, St.set]; split <;> rfl
          rw [hown] at hw
          refine ⟨h1, h2, h, ρ, hw, fun k y hy => ?_⟩
          have hold : ∀ d, o'.dst = some d → k ≠ d → (k, y) ∈ s.slots ++ factsFrom (fun i => listed.getD i false) 0 l Fs → ∃ v, a'.tmps[k]? = some v ∧ y.rel h ρ v := by
            intro d hd hkd hm
            refine hs k y ?_
            simp only [hd, St.put, St.set]
            split
            · exact List.mem_cons_of_mem _ (del_of_mem (List.mem_append.2 (.inr hm)) hkd)
            · exact List.mem_append.2 (.inr hm)
          have hnone : o'.dst = none → (k, y) ∈ s.slots ++ factsFrom (fun i => listed.getD i false) 0 l Fs → ∃ v, a'.tmps[k]? = some v ∧ y.rel h ρ v := by
            intro hd hm
            refine hs k y ?_
            simp only [hd, St.put]
            exact List.mem_append.2 (.inr hm)
          rcases List.mem_append.1 hy with hy | hy
          · cases hd : o'.dst with
            | none => exact hnone hd (List.mem_append.2 (.inl hy))
            | some d =>
              refine hold d hd ?_ (List.mem_append.2 (.inl hy))
              intro e
              have := hbase (k, y) hy
              simp only [Bool.not_eq_true', List.contains_eq_mem, decide_eq_false_iff_not] at this
              exact this (by rw [e]; exact mem_dsts hol hd)
          · rw [mem_factsFrom] at hy
            obtain ⟨j, oj, hj, hd', hF', hl'⟩ := hy
            rw [Nat.zero_add] at hl'
            by_cases hji : j = i
            · subst hji
              rw [hol] at hj; cases hj
              rw [hx] at hF'
              refine hs k y ?_
              have : (St.put n o'.dst x ⟨depFacts l Fs o'.after.toList ++ (s.slots ++ factsFrom (fun i => listed.getD i false) 0 l Fs), s.own⟩).slots = (k, x) :: del k (depFacts l Fs o'.after.toList ++ (s.slots ++ factsFrom (fun i => listed.getD i false) 0 l Fs)) := by
                have hk : k < n.n := by
                  have := hlt k (mem_dsts hol hd')
                  simpa using this
                simp only [hd', St.put, St.set, hk, if_true]
              rw [this]
              cases hF'
              exact List.mem_cons_self
            · have hl2 : listed.getD j false = true := by
                rw [getD_set_ne false (fun e => hji e.symm)] at hl'
                exact hl'
              have hm : (k, y) ∈ factsFrom (fun i => listed.getD i false) 0 l Fs := by
                rw [mem_factsFrom]
                exact ⟨j, oj, hj, hd', hF', by rw [Nat.zero_add]; exact hl2⟩
              cases hd : o'.dst with
              | none => exact hnone hd (List.mem_append.2 (.inr hm))
              | some d =>
                refine hold d hd ?_ (List.mem_append.2 (.inr hm))
                intro e
                exact hji (dsts_inj hnd hj hol (e ▸ hd') hd))
      split
      · rename_i hw'
        simp only [hw', if_true] at key
        exact .inl key
      · rename_i hw'
        simp only [hw'] at key
        exact key
def initL : List Oper → List Oper
  | [] => []
  | [_] => []
  | o :: p :: r => o :: initL (p :: r)
def lastL (d : Oper) : List Oper → Oper
  | [] => d
  | [o] => o
  | _ :: p :: r => lastL d (p :: r)
theorem init_last (d : Oper) : ∀ {l : List Oper}, l ≠ [] → initL l ++ [lastL d l] = l
  | [], h => absurd rfl h
  | [o], _ => rfl
  | o :: p :: r, _ => by
    have := init_last d (l := p :: r) (by simp)
    simp only [initL, lastL, List.cons_append, this]
/-- a region whose order is drawn, but for its last operation, which waits on all others -/
theorem Tri.regionLF {rid : Nat} {ops : Array Oper} (hm : P.follows .mixedOrders = true) (Fs : List SV) (l : List Oper) (o : Oper) (ho : ops = (l ++ [o]).toArray) (ks kos : List Nat) (hok : okD s l n.n = true) (hlo : lastOk l o = true) (hst : StepsD P E n (l ++ [o]).toArray s l Fs l Fs)
    (hlast : Step1 P E n (l ++ [o]).toArray o ⟨s.slots ++ factsFrom (fun _ => true) 0 l Fs, s.own⟩ s2) (hs : s2.keep ks kos = s') (h : Fin E n .normal s' Q) : Tri P E n (.region rid ops true) s Q := by
  subst ho
  intro a w hr
  refine wp_region_any hm ?_
  refine anyDL hst hok hlo hlast (Fs := Fs) ?_ _ _ _ _ (by simp) ?_ ?_ (by simp) ?_
  · exact fun a w hr => h a w (hs ▸ hr.keep ks kos)
  · simp [Array.getD_eq_getD_getElem?]
  · intro i p hi hl
    exfalso
    simp only [Array.getD_eq_getD_getElem?, Array.getElem?_replicate] at hl
    split at hl <;> simp at hl
  · have hr' := hr.drawn
    obtain ⟨h1, h2, h, ρ, hw, hsl⟩ := hr'
    refine ⟨h1, h2, h, ρ, hw, fun k x hx => hsl k x ?_⟩
    rcases List.mem_append.1 hx with hx | hx
    · exact hx
    · rw [mem_factsFrom] at hx
      obtain ⟨j, o, hj, _, _, hl⟩ := hx
      have hjl := (List.getElem?_eq_some_iff.1 hj).1
      simp only [Nat.zero_add, Array.getD_eq_getD_getElem?, Array.getElem?_replicate] at hl
      split at hl <;> simp at hl
/-- .. as the printed walks use it -/
def NoOp : Oper := ⟨none, .move (.const (.bool false)), 0, "", #[], none⟩
theorem Tri.regionZF {rid : Nat} {ops : List Oper} (hm : P.follows .mixedOrders = true) (Fs : List SV) (ks kos : List Nat) (hne : ops ≠ []) (hok : okD s (initL ops) n.n = true) (hlo : lastOk (initL ops) (lastL NoOp ops) = true) (hst : StepsD P E n ops.toArray s (initL ops) Fs (initL ops) Fs)
    (hlast : Step1 P E n ops.toArray (lastL NoOp ops) ⟨s.slots ++ factsFrom (fun _ => true) 0 (initL ops) Fs, s.own⟩ s2) (hs : s2.keep ks kos = s') (h : Fin E n .normal s' Q) : Tri P E n (.region rid ops.toArray true) s Q := by
  have e := init_last NoOp hne
  exact Tri.regionLF hm Fs (initL ops) (lastL NoOp ops) (by rw [e]) ks kos hok hlo (by rw [e]; exact hst) (by rw [e]; exact hlast) hs h
theorem Tri.regionZ {rid : Nat} {ops : List Oper} {y : Code} (hm : P.follows .mixedOrders = true) (Fs : List SV) (ks kos : List Nat) (hne : ops ≠ []) (hok : okD s (initL ops) n.n = true) (hlo : lastOk (initL ops) (lastL NoOp ops) = true) (hst : StepsD P E n ops.toArray s (initL ops) Fs (initL ops) Fs)
    (hlast : Step1 P E n ops.toArray (lastL NoOp ops) ⟨s.slots ++ factsFrom (fun _ => true) 0 (initL ops) Fs, s.own⟩ s2) (hs : s2.keep ks kos = s') (h : Tri P E n y s' Q) : Tri P E n (.region rid ops.toArray true) s (Exit.then (y.wp P Q) Q) :=
  Tri.regionZF hm Fs ks kos hne hok hlo hst hlast hs (Fin.then h)
end
end Go.Sk
