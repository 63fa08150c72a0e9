/- The framework, part G: contracts, calls, a function's beginning and end. -/
import Derived.Test.YtipepglcceogiaaSkF
namespace Go.Sk
set_option linter.unusedSimpArgs false
set_option linter.unusedVariables false
open Go Go.BigFrame

/-- what is known of the boxes that are lent to a call -/
def Lent (own : List (Nat × OC)) (h : PH) (ρ : RM) (w : World) : Prop :=
  ∀ k c, (k, c) ∈ own → c.ok h ρ (ρ k) w ∧ (∀ b, blkOf (ρ k) = some b → ∀ o, h b o = none) ∧ ∀ k' c', (k', c') ∈ own → k' ≠ k → ∀ b, blkOf (ρ k) = some b → blkOf (ρ k') ≠ some b
def keysOf (own : List (Nat × OC)) : List Nat := own.map (·.1)
def boxKeys : List (Nat × OC) → List Nat
  | [] => []
  | (k, c) :: l => if c.isBox then k :: boxKeys l else boxKeys l
abbrev SPost := List (Nat × OC) → SV → Prop
def SEnd (E : Env) (n : Sh) (post : SPost) (e : Ending) (w' : World) : Prop :=
  ∃ v own' res h' ρ', e = .returned v ∧ post own' res ∧ WR E n own' h' ρ' w' ∧ res.rel h' ρ' v
/-- THE CONTRACT: called with what args say (own: the boxes lent), it returns what post says -/
def Meets (P : Program) (f : FuncId) (own : List (Nat × OC)) (args : List BV) (post : SPost) : Prop :=
  ∀ (w : World) (h : PH) (ρ : RM) (vals : List Value), Agree h w → Lent own h ρ w → All2 (fun (x : BV) v => x.rel h ρ v) args vals →
    Calls P f vals.toArray w (SEnd ⟨w, h, ρ⟩ ⟨0, boxKeys own, keysOf own⟩ post)
/-- just this -/
def Is (own : List (Nat × OC)) (res : SV) : SPost := fun o r => o = own ∧ r = res

theorem WR.sh {E : Env} {n n' : Sh} {own : List (Nat × OC)} {h : PH} {ρ : RM} {w : World} (hn : n.fix = n'.fix) (hl : n.lnd = n'.lnd) (hw : WR E n own h ρ w) : WR E n' own h ρ w := by
  cases n; cases n'; cases hn; cases hl
  exact ⟨hw.agree, hw.le, hw.fresh, hw.size, hw.same, hw.fixed, hw.os, hw.out, hw.owned⟩
theorem Meets.weaken {P : Program} {f : FuncId} {own : List (Nat × OC)} {args : List BV} {post post' : SPost} (hs : Meets P f own args post) (hp : ∀ o r, post o r → post' o r) : Meets P f own args post' :=
  fun w h ρ vals h1 h2 h3 => (hs w h ρ vals h1 h2 h3).mono fun _ _ ⟨v, own', res, h', ρ', e1, e2, e3, e4⟩ => ⟨v, own', res, h', ρ', e1, hp _ _ e2, e3, e4⟩

def argSlots : Nat → List BV → List (Nat × SV)
  | _, [] => []
  | i, x :: l => (i, .b x) :: argSlots (i + 1) l
theorem mem_argSlots : ∀ {l : List BV} {i k : Nat} {x : SV}, (k, x) ∈ argSlots i l → ∃ j z, k = i + j ∧ l[j]? = some z ∧ x = .b z
  | [], i, k, x, h => by simp [argSlots] at h
  | y :: l, i, k, x, h => by
    unfold argSlots at h
    cases List.mem_cons.1 h with
    | inl e => obtain ⟨rfl, rfl⟩ := Prod.mk.inj e; exact ⟨0, y, rfl, rfl, rfl⟩
    | inr e => obtain ⟨j, z, rfl, hz, rfl⟩ := mem_argSlots e; exact ⟨j + 1, z, by omega, by simpa using hz, rfl⟩

/-- how a body ends -/
def Ret (P : Program) (fn : Func) (E : Env) (n : Sh) (post : SPost) : Post := bodyPost P fn (SEnd E n post)
theorem Meets.intro {P : Program} {f : FuncId} {fn : Func} {c : Code} {own : List (Nat × OC)} {args : List BV} {post : SPost} (m : Nat) (hf : P.funcs[f]? = some fn) (hm : fn.ntmps = m) (hb : fn.body = some c) (hl : args.length ≤ m)
    (hbody : ∀ E : Env, Tri P E ⟨m, boxKeys own, keysOf own⟩ c ⟨argSlots 0 args, own⟩ (Ret P fn E ⟨m, boxKeys own, keysOf own⟩ post)) : Meets P f own args post := by
  intro w h ρ vals hag hlent hargs
  have hlen := hargs.length
  refine (calls_of_wp (R := SEnd ⟨w, h, ρ⟩ ⟨m, boxKeys own, keysOf own⟩ post) hf hb (hbody ⟨w, h, ρ⟩ _ w ⟨rfl, ?_, h, ρ, ⟨hag, PH.le_refl h, fun _ _ _ => rfl, Nat.le_refl _, fun _ _ _ => rfl, fun _ _ => rfl, rfl, rfl, ?_⟩, ?_⟩)).mono ?_
  · simp [hm]; omega
  · intro k c hc
    obtain ⟨h1, h3, h4⟩ := hlent k c hc
    exact ⟨h1, fun b hb => ⟨.inr ⟨k, List.mem_map.2 ⟨(k, c), hc, rfl⟩, hb⟩, h3 b hb⟩, h4⟩
  · intro k x hx
    obtain ⟨j, z, rfl, hz, rfl⟩ := mem_argSlots hx
    obtain ⟨v, hv, hr⟩ := hargs.get j z hz
    refine ⟨v, ?_, hr⟩
    have hj := (List.getElem?_eq_some_iff.1 hv).1
    rw [Nat.zero_add, Array.getElem?_append_left (by simpa using hj)]
    simpa using hv
  · rintro e w' ⟨v, own', res, h', ρ', e1, e2, e3, e4⟩
    exact ⟨v, own', res, h', ρ', e1, e2, WR.sh (n := ⟨m, boxKeys own, keysOf own⟩) (n' := ⟨0, boxKeys own, keysOf own⟩) rfl rfl e3, e4⟩

section
variable {P : Program} {E : Env} {n : Sh} {s s' : St} {dst : Option Nat} {t ty yt : TypeId} {pos : String} {after : Array Edge} {g : Option (Nat × Bool)} {x y c : Operand} {ops : Array Oper} {l : List Oper} {Q : Post} {cd : Code}

/-! ## results -/
def resStep (tmps : Array Value) : ResultVar → Sem Value
  | .tmp t => pure (tmps.getD t undef)
  | .cell b t => do loadVar t (← asAddr (tmps.getD b undef))
theorem results_eq (fn : Func) (tmps : Array Value) : results fn tmps = (do let vs ← fn.results.mapM (resStep tmps); pure (if h : vs.size = 1 then vs[0] else .tuple vs)) := by
  have : (fun x => match x with
    | ResultVar.tmp t => pure (tmps.getD t undef)
    | ResultVar.cell a t => do loadVar t (← asAddr (tmps.getD a undef))) = resStep tmps := by funext x; cases x <;> rfl
  unfold results
  rw [← this]
  rfl
inductive ResOk (P : Program) (s : St) : ResultVar → BV → Prop
  | tmp {t : Nat} {z : BV} (h : s.get t = some (.b z)) : ResOk P s (.tmp t) z
  | agg {t k off m : Nat} {T T' : TypeId} {ps qs : List CP} (ht : TyAgg P T m) (h : s.get t = some (.b (.ptr k off))) (hk : lk s.own k = some (.box T' ps)) (hp : (ps.drop off).take m = qs) (hq : qs.length = m) : ResOk P s (.cell t T) (.agg qs)
  | one {t k off : Nat} {T T' : TypeId} {ps : List CP} {p : CP} (ht : TyOne P T) (h : s.get t = some (.b (.ptr k off))) (hk : lk s.own k = some (.box T' ps)) (hp : ps[off]? = some p) : ResOk P s (.cell t T) (.one p)
def resSV : List BV → SV
  | [z] => .b z
  | l => .tup l
theorem ResOk.run {rv : ResultVar} {z : BV} (hr : ResOk P s rv z) {a : Act} {w : World} {h : PH} {ρ : RM} (hw : WR E n s.own h ρ w) (hs : SlotsRel h ρ s.slots a.tmps) :
    ∃ v, (resStep a.tmps rv).run P w = .ok v w ∧ z.rel h ρ v := by
  cases hr with
  | tmp h' =>
    obtain ⟨v, hv, hrel⟩ := hs _ _ (lk_mem (show lk s.slots _ = some _ from h'))
    exact ⟨v, by simp [resStep, Array.getD_eq_getD_getElem?, hv], hrel⟩
  | @agg t' k off m T T' ps qs ht h' hk hp hq =>
    obtain ⟨v, hv, b, he, hv'⟩ := hs _ _ (lk_mem (show lk s.slots _ = some _ from h'))
    obtain ⟨b', cur, hb1, hb2, hb3⟩ := box_cells hw hk
    have : b' = b := by rw [hb1] at he; simpa using he
    subst this
    have hc : cellsRel h qs ((cur.toList.drop off).take m) := by rw [← hp]; exact All2.take (All2.drop hb3 off) m
    have hrun := run_load_agg ht (w := w) (b := b') (o := off) (cs := (cur.toList.drop off).take m) (by rw [← hc.length, hq]) (fun j v hv => by
      rw [cell_row hb2]
      rw [List.getElem?_take] at hv
      split at hv
      · simpa using hv
      · simp at hv)
    have hg : a.tmps.getD t' undef = .pointer (some ⟨b', off, none⟩) := by simp [Array.getD_eq_getD_getElem?, hv, hv']
    refine ⟨.agg ((cur.toList.drop off).take m).toArray, ?_, _, rfl, by simpa using hc⟩
    simp only [resStep, hg]
    simp [asAddr, hrun]
  | @one t' k off T T' ps p ht h' hk hp =>
    obtain ⟨v, hv, b, he, hv'⟩ := hs _ _ (lk_mem (show lk s.slots _ = some _ from h'))
    obtain ⟨b', cur, hb1, hb2, hb3⟩ := box_cells hw hk
    have : b' = b := by rw [hb1] at he; simpa using he
    subst this
    obtain ⟨u, hu, hpu⟩ := hb3.get off p hp
    have hrun := run_load_one ht (w := w) (b := b') (o := off) (v := u) (by rw [cell_row hb2]; simpa using hu)
    have hg : a.tmps.getD t' undef = .pointer (some ⟨b', off, none⟩) := by simp [Array.getD_eq_getD_getElem?, hv, hv']
    refine ⟨u, ?_, hpu⟩
    simp only [resStep, hg]
    simp [asAddr, hrun]
theorem results_run {fn : Func} {zs : List BV} (hr : All2 (ResOk P s) fn.results.toList zs) {a : Act} {w : World} {h : PH} {ρ : RM} (hw : WR E n s.own h ρ w) (hs : SlotsRel h ρ s.slots a.tmps) :
    ∃ v, (results fn a.tmps).run P w = .ok v w ∧ (resSV zs).rel h ρ v := by
  have key : ∀ (rs : List ResultVar) (zs : List BV), All2 (ResOk P s) rs zs → ∃ vs, (rs.mapM (resStep a.tmps)).run P w = .ok vs w ∧ All2 (fun (x : BV) u => x.rel h ρ u) zs vs := by
    intro rs zs hh
    induction hh with
    | nil => exact ⟨[], by simp, .nil⟩
    | cons h' _ ih =>
      obtain ⟨v, hv, hrel⟩ := h'.run hw hs
      obtain ⟨vs, hvs, hall⟩ := ih
      refine ⟨v :: vs, ?_, .cons hrel hall⟩
      rw [List.mapM_cons, Sem.run_bind, hv, Result.andThen, Sem.run_bind, hvs]
      rfl
  obtain ⟨vs, hvs, hall⟩ := key _ _ hr
  rw [results_eq]
  have hm : (fn.results.mapM (resStep a.tmps)).run P w = .ok vs.toArray w := by
    rw [Array.mapM_eq_mapM_toList]
    simp [hvs]
  rw [Sem.run_bind, hm, Result.andThen]
  cases hall with
  | nil => exact ⟨.tuple #[], by simp, _, rfl, .nil⟩
  | @cons z v zs' vs' h1 h2 =>
    cases h2 with
    | nil => exact ⟨v, by simp, h1⟩
    | @cons z2 v2 zs2 vs2 h3 h4 =>
      exact ⟨.tuple (v :: v2 :: vs2).toArray, by simp, _, rfl, by simpa using .cons h1 (.cons h3 h4)⟩
/-- the end of a body -/
theorem Fin.result {fn : Func} {post : SPost} {e : Exit} {rs : List ResultVar} (zs : List BV) (he : e = .ret ∨ e = .normal) (hrs : fn.results.toList = rs) (hr : All2 (ResOk P s) rs zs) (hp : post s.own (resSV zs)) : Fin E n e s (Ret P fn E n post) := by
  intro a w ⟨h1, h2, h, ρ, hw, hs⟩
  obtain ⟨v, hv, hrel⟩ := results_run (fn := fn) (hrs ▸ hr) hw hs
  have : a.defers = [] ∧ ∃ v, (results fn a.tmps).run P w = .ok v w ∧ SEnd E n post (.returned v) w := ⟨h1, v, hv, v, s.own, _, h, ρ, rfl, hp, hw, hrel⟩
  rcases he with rfl | rfl <;> exact this

/-! ## calls -/
def evB (s : St) (x : Operand) : Option BV :=
  match s.ev x with
  | some (.b z) => some z
  | _ => none
def evArgs (s : St) : List Operand → Option (List BV)
  | [] => some []
  | x :: l => (evB s x).bind fun z => (evArgs s l).map fun r => z :: r
theorem evArgs_rel {h : PH} {ρ : RM} {a : Act} (hs : SlotsRel h ρ s.slots a.tmps) : ∀ {l : List Operand} {zs : List BV}, evArgs s l = some zs → All2 (fun (x : BV) v => x.rel h ρ v) zs (l.map a.eval)
  | [], zs, e => by simp [evArgs] at e; subst e; exact .nil
  | x :: l, zs, e => by
    unfold evArgs at e
    simp only [Option.bind_eq_some_iff, Option.map_eq_some_iff] at e
    obtain ⟨z, hz, r, hr, rfl⟩ := e
    refine .cons ?_ (evArgs_rel hs hr)
    unfold evB at hz
    split at hz
    · rename_i z' hz'
      simp at hz; subst hz
      exact ev_rel hs hz'
    · simp at hz
/-- a slice of one's own, lent for reading -/
def evBB (s : St) (x : Operand) : Option BV :=
  match s.ev x with
  | some (.b (.row k)) => match lk s.own k with
    | some (.row _ size es) => some (.one (.sl size es))
    | _ => none
  | some (.b z) => some z
  | _ => none
def evArgsB (s : St) : List Operand → Option (List BV)
  | [] => some []
  | x :: l => (evBB s x).bind fun z => (evArgsB s l).map fun r => z :: r
def full (w : World) : PH := fun b o => w.cell? ⟨b, o, none⟩
theorem le_full {h : PH} {w : World} (ha : Agree h w) : h.le (full w) := fun b o v hv => ha b o v hv
theorem row_full {h : PH} {ρ : RM} {own : List (Nat × OC)} {w : World} (hw : WR E n own h ρ w) {k : Nat} {T : TypeId} {size : Nat} {es : List (List CP)} (hk : lk own k = some (.row T size es)) : (CP.sl size es).rel (full w) (ρ k) := by
  obtain ⟨hu, hz, hf⟩ := row_form hw hk
  refine ⟨hu, hz, ?_⟩
  rcases hf with hf | ⟨b, cap, cur, h1, h2, h3, h4, h5, h6⟩
  · exact .inl hf
  · refine .inr ⟨b, 0, cap, h1, h3, h4, fun j c hc => ?_⟩
    obtain ⟨u, hu, hr⟩ := h6.get j c hc
    refine ⟨u, ?_, c.mono (le_full hw.agree) hr⟩
    rw [List.getElem?_take] at hu
    unfold full
    rw [cell_row h2, Nat.zero_add]
    split at hu
    · simpa using hu
    · simp at hu
theorem evArgsB_rel {h : PH} {ρ : RM} {a : Act} {w : World} (hw : WR E n s.own h ρ w) (hs : SlotsRel h ρ s.slots a.tmps) : ∀ {l : List Operand} {zs : List BV}, evArgsB s l = some zs → All2 (fun (x : BV) v => x.rel (full w) ρ v) zs (l.map a.eval)
  | [], zs, e => by simp [evArgsB] at e; subst e; exact .nil
  | x :: l, zs, e => by
    unfold evArgsB at e
    simp only [Option.bind_eq_some_iff, Option.map_eq_some_iff] at e
    obtain ⟨z, hz, r, hr, rfl⟩ := e
    refine .cons ?_ (evArgsB_rel hw hs hr)
    unfold evBB at hz
    split at hz
    · rename_i k hk
      split at hz
      · rename_i T size es hko
        simp at hz; subst hz
        have hv : a.eval x = ρ k := (ev_rel hs hk : BV.rel h ρ (.row k) _)
        rw [hv]; exact row_full hw hko
      · simp at hz
    · rename_i z' _ hz'
      simp at hz; subst hz
      exact BV.mono (le_full hw.agree) (fun _ _ => rfl) (ev_rel hs hz')
    · simp at hz

def CP.flat (p : CP) : Prop := ∀ h h' v, p.rel h v → p.rel h' v
def BV.flat : BV → Prop
  | .one p => p.flat
  | .agg ps => ∀ p ∈ ps, p.flat
  | _ => False
def SV.flat : SV → Prop
  | .b z => z.flat
  | .tup l => ∀ z ∈ l, z.flat
  | .opt _ z => z.flat
  | .xagg _ => False
theorem CP.flat_int {k : IntKind} {m : Int} : (CP.int k m).flat := fun _ _ _ h => h
theorem CP.flat_bool {b : Bool} : (CP.bool b).flat := fun _ _ _ h => h
theorem CP.flat_str {z : Str} : (CP.str z).flat := fun _ _ _ h => h
theorem CP.flat_raw {v : Value} : (CP.raw v).flat := fun _ _ _ h => h
theorem BV.flat_rel {z : BV} (hz : z.flat) {h h' : PH} {ρ ρ' : RM} {v : Value} (hv : z.rel h ρ v) : z.rel h' ρ' v := by
  cases z with
  | one p => exact hz _ _ _ hv
  | agg ps =>
    obtain ⟨cs, e, ha⟩ := hv
    refine ⟨cs, e, ?_⟩
    have hz' : ∀ p ∈ ps, p.flat := hz
    clear e hz
    generalize cs.toList = l at ha
    induction ha with
    | nil => exact .nil
    | cons h1 _ ih => exact .cons (hz' _ (by simp) _ _ _ h1) (ih fun p hp => hz' p (by simp [hp]))
  | _ => exact hz.elim
theorem SV.flat_rel {z : SV} (hz : z.flat) {h h' : PH} {ρ ρ' : RM} {v : Value} (hv : z.rel h ρ v) : z.rel h' ρ' v := by
  cases z with
  | b z => exact BV.flat_rel hz hv
  | opt c z => exact ⟨fun hc => BV.flat_rel hz (hv.1 hc), hv.2⟩
  | xagg l => exact hz.elim
  | tup l =>
    obtain ⟨vs, e, ha⟩ := hv
    refine ⟨vs, e, ?_⟩
    have hz' : ∀ p ∈ l, p.flat := hz
    clear e hz
    generalize vs.toList = q at ha
    induction ha with
    | nil => exact .nil
    | cons h1 _ ih => exact .cons (BV.flat_rel (hz' _ (by simp)) h1) (ih fun p hp => hz' p (by simp [hp]))

/-- the call of a Go function that the source names -/
structure Goes (P : Program) (f : FuncId) : Prop where
  run : ∀ (args : Array Value) (w : World), (callFunc f args).run P w = .ok (.enter f args) w
theorem call_run {f : FuncId} {xs : Array Operand} {ats : Array TypeId} (hf : Goes P f) (a : Act) (w : World) : (execOp a.eval ⟨dst, .call ⟨.value (.func f), xs, ats⟩, ty, pos, after, g⟩).run P w = .ok (.enter f (xs.toList.map a.eval).toArray) w := by
  rw [show execOp a.eval ⟨dst, .call ⟨.value (.func f), xs, ats⟩, ty, pos, after, g⟩ = callFunc f (#[] ++ xs.map a.eval ++ #[]) from rfl, hf.run]
  congr 2
  apply Array.ext'
  simp
theorem call_run_raw {f : FuncId} {xs : Array Operand} {ats : Array TypeId} (hf : Goes P f) (a : Act) (w : World) (hx : a.eval x = .func (.func f) #[] #[]) : (execOp a.eval ⟨dst, .call ⟨.value x, xs, ats⟩, ty, pos, after, g⟩).run P w = .ok (.enter f (xs.toList.map a.eval).toArray) w := by
  have : execOp a.eval ⟨dst, .call ⟨.value x, xs, ats⟩, ty, pos, after, g⟩ = (do let d ← Deferred.ofValue (a.eval x) (xs.map a.eval); invoke d.target d.args) := rfl
  rw [this, hx]
  have h2 : (do let d ← Deferred.ofValue (.func (.func f) #[] #[]) (xs.map a.eval); invoke d.target d.args : Sem Next) = callFunc f (#[] ++ xs.map a.eval ++ #[]) := rfl
  rw [h2, hf.run]
  congr 2
  apply Array.ext'
  simp

/-- the callee's new blocks under their keys -/
def insAll : List (Nat × OC) → List (Nat × OC) → List (Nat × OC)
  | [], own => own
  | p :: l, own => insAll l (ins p.1 p.2 own)
theorem mem_insAll : ∀ {l own : List (Nat × OC)} {j : Nat} {x : OC}, (j, x) ∈ insAll l own → (j, x) ∈ l ∨ ((j, x) ∈ own ∧ j ∉ keysOf l)
  | [], own, j, x, h => .inr ⟨h, by simp [keysOf]⟩
  | p :: l, own, j, x, h => by
    rcases mem_insAll (l := l) h with h | ⟨h, hn⟩
    · exact .inl (List.mem_cons_of_mem _ h)
    · rcases mem_ins h with ⟨rfl, rfl⟩ | ⟨h1, h2⟩
      · exact .inl List.mem_cons_self
      · exact .inr ⟨h2, by simp only [keysOf, List.map_cons, List.mem_cons, not_or]; exact ⟨h1, hn⟩⟩
def delAll : List (Nat × OC) → List (Nat × OC) → List (Nat × OC)
  | [], own => own
  | p :: l, own => delAll l (del p.1 own)
theorem mem_delAll : ∀ {l own : List (Nat × OC)} {p : Nat × OC}, p ∈ delAll l own → p ∈ own ∧ p.1 ∉ keysOf l
  | [], own, p, h => ⟨h, by simp [keysOf]⟩
  | q :: l, own, p, h => by
    obtain ⟨h1, h2⟩ := mem_delAll (l := l) h
    obtain ⟨h3, h4⟩ := mem_del h1
    exact ⟨h3, by simp only [keysOf, List.map_cons, List.mem_cons, not_or]; exact ⟨h4, h2⟩⟩
def hasKey (k : Nat) : List (Nat × OC) → Bool
  | [] => false
  | (j, _) :: l => k == j || hasKey k l
theorem hasKey_iff {k : Nat} : ∀ {l : List (Nat × OC)}, hasKey k l = true ↔ k ∈ keysOf l
  | [] => by simp [hasKey, keysOf]
  | (j, c) :: l => by
    have := hasKey_iff (k := k) (l := l)
    simp only [hasKey, keysOf, List.map_cons, List.mem_cons, Bool.or_eq_true, this]
    simp
def hasBox (k : Nat) (own : List (Nat × OC)) : Bool := (boxKeys own).contains k
theorem hasBox_iff {k : Nat} {l : List (Nat × OC)} : hasBox k l = true ↔ k ∈ boxKeys l := by simp [hasBox]
def dropNew (own_a : List (Nat × OC)) : List (Nat × OC) → List (Nat × SV) → List (Nat × SV)
  | [], sl => sl
  | p :: l, sl => dropNew own_a l (if hasBox p.1 own_a then sl else dropU p.1 sl)
theorem mem_dropNew {own_a : List (Nat × OC)} : ∀ {l : List (Nat × OC)} {sl : List (Nat × SV)} {q : Nat × SV}, q ∈ dropNew own_a l sl → q ∈ sl ∧ ∀ k, k ∈ keysOf l → k ∉ boxKeys own_a → q.2.uses k = false
  | [], sl, q, h => ⟨h, fun k hk => by simp [keysOf] at hk⟩
  | p :: l, sl, q, h => by
    obtain ⟨h1, h2⟩ := mem_dropNew (l := l) h
    split at h1
    · rename_i hk
      refine ⟨h1, fun k hk' hn => ?_⟩
      simp only [keysOf, List.map_cons, List.mem_cons] at hk'
      rcases hk' with rfl | hk'
      · exact absurd (hasBox_iff.1 hk) hn
      · exact h2 k hk' hn
    · obtain ⟨h3, h4⟩ := mem_dropU h1
      refine ⟨h3, fun k hk' hn => ?_⟩
      simp only [keysOf, List.map_cons, List.mem_cons] at hk'
      rcases hk' with rfl | hk'
      · exact h4
      · exact h2 k hk' hn
/-- the new keys are none of those that came in -/
def okNew (n : Sh) (own_a : List (Nat × OC)) : List (Nat × OC) → Bool
  | [] => true
  | p :: l => (hasBox p.1 own_a || !n.fix.contains p.1) && okNew n own_a l
theorem okNew_spec {own_a : List (Nat × OC)} : ∀ {l : List (Nat × OC)}, okNew n own_a l = true → ∀ k, k ∈ keysOf l → k ∈ boxKeys own_a ∨ k ∉ n.fix
  | [], _, k, hk => by simp [keysOf] at hk
  | p :: l, h, k, hk => by
    simp only [okNew, Bool.and_eq_true, Bool.or_eq_true, hasBox_iff] at h
    simp only [keysOf, List.map_cons, List.mem_cons] at hk
    rcases hk with rfl | hk
    · exact h.1.imp id (fun e => by simpa using e)
    · exact okNew_spec h.2 k hk
def comb (own' : List (Nat × OC)) (ρ' ρ : RM) : RM := fun k => if hasKey k own' then ρ' k else ρ k
theorem comb_in {own' : List (Nat × OC)} {ρ' ρ : RM} {k : Nat} (h : k ∈ keysOf own') : comb own' ρ' ρ k = ρ' k := by simp [comb, hasKey_iff.2 h]
theorem comb_out {own' : List (Nat × OC)} {ρ' ρ : RM} {k : Nat} (h : k ∉ keysOf own') : comb own' ρ' ρ k = ρ k := by
  have : hasKey k own' = false := by
    cases e : hasKey k own' with
    | false => rfl
    | true => exact absurd (hasKey_iff.1 e) h
  simp [comb, this]
def OC.keysIn (own : List (Nat × OC)) : OC → Bool
  | .xbox _ cs => cs.all fun z => match z with
    | .ptr k _ | .row k | .rptr k _ | .part k _ _ _ _ => hasKey k own
    | _ => true
  | _ => true
theorem OC.keysIn_uses {own : List (Nat × OC)} {c : OC} (h : c.keysIn own = true) {k : Nat} (hk : c.uses k = true) : k ∈ keysOf own := by
  cases c with
  | xbox T cs =>
    simp only [OC.uses, List.any_eq_true] at hk
    obtain ⟨z, hz, hk⟩ := hk
    simp only [OC.keysIn, List.all_eq_true] at h
    have h1 := h z hz
    cases z <;> first | (simp [BV.uses] at hk; done) | (simp only [BV.uses, beq_iff_eq] at hk; subst hk; exact hasKey_iff.1 h1)
  | _ => simp [OC.uses] at hk
/-- what the caller keeps speaks of no key that a call may change; what comes back speaks of itself -/
def okOwn (own own_a own' : List (Nat × OC)) : Bool := (own'.all fun p => p.2.keysIn own') && ((delAll own_a own).all fun p => (keysOf own').all fun k => (boxKeys own_a).contains k || !p.2.uses k)
theorem WR.call {h h' : PH} {ρ ρ' : RM} {own own_a own' : List (Nat × OC)} {w w' : World} (hw : WR E n own h ρ w) (ha : ∀ k c, (k, c) ∈ own_a → (k, c) ∈ own) (hc : WR ⟨w, h, ρ⟩ ⟨0, boxKeys own_a, keysOf own_a⟩ own' h' ρ' w')
    (hk : okNew n own_a own' = true) (hcl : okOwn own own_a own' = true) : WR E n (insAll own' (delAll own_a own)) h' (comb own' ρ' ρ) w' := by
  have hkn := okNew_spec hk
  simp only [okOwn, Bool.and_eq_true, List.all_eq_true, Bool.or_eq_true, Bool.not_eq_true'] at hcl
  have hren' : ∀ k c, (k, c) ∈ own' → ∀ j, c.uses j = true → comb own' ρ' ρ j = ρ' j := fun k c hkc j hj => comb_in (OC.keysIn_uses (hcl.1 _ hkc) hj)
  have hrenr : ∀ k c, (k, c) ∈ delAll own_a own → ∀ j, c.uses j = true → comb own' ρ' ρ j = ρ j := fun k c hkc j hj => by
    by_cases hin : j ∈ keysOf own'
    · rw [comb_in hin]
      rcases hcl.2 _ hkc j hin with h1 | h1
      · exact hc.fixed j (by simpa using h1)
      · rw [h1] at hj; simp at hj
    · exact comb_out hin
  have hlent : ∀ b, lent ⟨w, h, ρ⟩ ⟨0, boxKeys own_a, keysOf own_a⟩ b → ∃ k c, (k, c) ∈ own_a ∧ blkOf (ρ k) = some b := fun b ⟨k, hk, hb⟩ => by
    obtain ⟨⟨k', c⟩, hm, rfl⟩ := List.mem_map.1 hk
    exact ⟨k', c, hm, hb⟩
  have hrest : ∀ j x, (j, x) ∈ delAll own_a own → ∀ b, blkOf (ρ j) = some b → b < w.heap.size ∧ ¬ lent ⟨w, h, ρ⟩ ⟨0, boxKeys own_a, keysOf own_a⟩ b := fun j x hj b hb => by
    obtain ⟨h1, h2⟩ := mem_delAll hj
    have ho := hw.owned j x h1
    refine ⟨ho.1.lt hb, fun hl => ?_⟩
    obtain ⟨k, c, hkc, hkb⟩ := hlent b hl
    exact ho.2.2 k c (ha k c hkc) (fun e => h2 (by subst e; exact List.mem_map.2 ⟨_, hkc, rfl⟩)) b hb hkb
  have hsame : ∀ j x, (j, x) ∈ delAll own_a own → ∀ b, blkOf (ρ j) = some b → w'.heap[b]? = w.heap[b]? := fun j x hj b hb => hc.same b (hrest j x hj b hb).1 (hrest j x hj b hb).2
  refine ⟨hc.agree, PH.le_trans hw.le hc.le, ?_, Nat.le_trans hw.size hc.size, ?_, ?_, hc.os.trans hw.os, hc.out.trans hw.out, ?_⟩
  · intro b hb hl
    rw [hc.fresh b (Nat.lt_of_lt_of_le hb hw.size) fun hl' => ?_]
    · exact hw.fresh b hb hl
    · obtain ⟨k, c, hkc, hkb⟩ := hlent b hl'
      rcases ((hw.owned k c (ha k c hkc)).2.1 b hkb).1 with h1 | h1
      · omega
      · exact hl h1
  · intro b hb hl
    rw [hc.same b (Nat.lt_of_lt_of_le hb hw.size) fun hl' => ?_]
    · exact hw.same b hb hl
    · obtain ⟨k, c, hkc, hkb⟩ := hlent b hl'
      rcases ((hw.owned k c (ha k c hkc)).2.1 b hkb).1 with h1 | h1
      · omega
      · exact hl h1
  · intro k hkf
    by_cases hin : k ∈ keysOf own'
    · rw [comb_in hin]
      rcases hkn k hin with h1 | h1
      · rw [hc.fixed k h1]; exact hw.fixed k hkf
      · exact absurd hkf h1
    · rw [comb_out hin]; exact hw.fixed k hkf
  · intro k c hkc
    rcases mem_insAll hkc with hin | ⟨hin, hnin⟩
    · have hkin : k ∈ keysOf own' := List.mem_map.2 ⟨_, hin, rfl⟩
      rw [comb_in hkin]
      obtain ⟨e1, e2, e3⟩ := hc.owned k c hin
      have hcase : ∀ b, blkOf (ρ' k) = some b → w.heap.size ≤ b ∨ ∃ k2 c2, (k2, c2) ∈ own_a ∧ blkOf (ρ k2) = some b := fun b hb => by
        rcases (e2 b hb).1 with h1 | h1
        · exact .inl h1
        · obtain ⟨k2, c2, h3, h4⟩ := hlent b h1
          exact .inr ⟨k2, c2, h3, h4⟩
      refine ⟨e1.ren (hren' k c hin), fun b hb => ⟨?_, (e2 b hb).2⟩, ?_⟩
      · rcases hcase b hb with h1 | ⟨k2, c2, h3, h4⟩
        · exact .inl (Nat.le_trans hw.size h1)
        · rcases ((hw.owned k2 c2 (ha k2 c2 h3)).2.1 b h4).1 with h6 | h6
          · exact .inl h6
          · exact .inr h6
      · intro j x hj hjk b hb
        rcases mem_insAll hj with hjin | ⟨hjin, hjn⟩
        · rw [comb_in (List.mem_map.2 ⟨_, hjin, rfl⟩)]
          exact e3 j x hjin hjk b hb
        · rw [comb_out hjn]
          intro hb'
          have hr := hrest j x hjin b hb'
          rcases (e2 b hb).1 with h1 | h1
          · exact absurd hr.1 (Nat.not_lt.2 h1)
          · exact hr.2 h1
    · rw [comb_out hnin]
      obtain ⟨e1, e2, e3⟩ := hw.owned k c (mem_delAll hin).1
      refine ⟨((e1.congr (hsame k c hin)).mono hc.le).ren (hrenr k c hin), fun b hb => ⟨(e2 b hb).1, fun o => ?_⟩, ?_⟩
      · rw [hc.fresh b (hrest k c hin b hb).1 (hrest k c hin b hb).2]; exact (e2 b hb).2 o
      · intro j x hj hjk b hb
        rcases mem_insAll hj with hjin | ⟨hjin, hjn⟩
        · rw [comb_in (List.mem_map.2 ⟨_, hjin, rfl⟩)]
          intro hb'
          have hr := hrest k c hin b hb
          rcases ((hc.owned j x hjin).2.1 b hb').1 with h1 | h1
          · exact absurd hr.1 (Nat.not_lt.2 h1)
          · exact hr.2 h1
        · rw [comb_out hjn]
          exact e3 j x (mem_delAll hjin).1 hjk b hb

theorem lent_of {h : PH} {ρ : RM} {own own_a : List (Nat × OC)} {w : World} (hw : WR E n own h ρ w) (ha : ∀ k c, (k, c) ∈ own_a → (k, c) ∈ own) : Lent own_a h ρ w := fun k c hk => by
  obtain ⟨e1, e2, e3⟩ := hw.owned k c (ha k c hk)
  exact ⟨e1, fun b hb => (e2 b hb).2, fun k' c' hk' => e3 k' c' (ha k' c' hk')⟩
def BV.keysIn (own : List (Nat × OC)) : BV → Bool
  | .ptr k _ | .row k | .rptr k _ | .part k _ _ _ _ => hasKey k own
  | _ => true
def SV.keysIn (own : List (Nat × OC)) : SV → Bool
  | .b z => z.keysIn own
  | .tup l => l.all (·.keysIn own)
  | .xagg l => l.all (·.keysIn own)
  | .opt _ z => z.keysIn own
theorem BV.keysIn_uses {own : List (Nat × OC)} {z : BV} (h : z.keysIn own = true) {k : Nat} (hk : z.uses k = true) : k ∈ keysOf own := by
  cases z with
  | ptr j _ => have e : j = k := by simpa [BV.uses] using hk
               subst e; exact hasKey_iff.1 h
  | row j => have e : j = k := by simpa [BV.uses] using hk
             subst e; exact hasKey_iff.1 h
  | rptr j _ => have e : j = k := by simpa [BV.uses] using hk
                subst e; exact hasKey_iff.1 h
  | part j _ _ _ _ => have e : j = k := by simpa [BV.uses] using hk
                      subst e; exact hasKey_iff.1 h
  | _ => simp [BV.uses] at hk
theorem SV.keysIn_uses {own : List (Nat × OC)} {z : SV} (h : z.keysIn own = true) {k : Nat} (hk : z.uses k = true) : k ∈ keysOf own := by
  cases z with
  | b z => exact BV.keysIn_uses h hk
  | opt c z => exact BV.keysIn_uses h hk
  | tup l =>
    simp only [SV.uses, List.any_eq_true] at hk
    obtain ⟨z, hz, hk⟩ := hk
    simp only [SV.keysIn, List.all_eq_true] at h
    exact BV.keysIn_uses (h z hz) hk
  | xagg l =>
    simp only [SV.uses, List.any_eq_true] at hk
    obtain ⟨z, hz, hk⟩ := hk
    simp only [SV.keysIn, List.all_eq_true] at h
    exact BV.keysIn_uses (h z hz) hk
/-- the state behind a call -/
def St.aft (n : Sh) (s : St) (own_a own' : List (Nat × OC)) (dst : Option Nat) (res : SV) : St := (⟨dropNew own_a own' s.slots, insAll own' (delAll own_a s.own)⟩ : St).put n dst res
def lentOk (own : List (Nat × OC)) : List (Nat × OC) → Prop
  | [] => True
  | p :: l => lk own p.1 = some p.2 ∧ lentOk own l
theorem lentOk_spec {own : List (Nat × OC)} : ∀ {l : List (Nat × OC)}, lentOk own l → ∀ k c, (k, c) ∈ l → (k, c) ∈ own
  | [], _, k, c, h => by simp at h
  | p :: l, hl, k, c, h => by
    cases List.mem_cons.1 h with
    | inl e => subst e; exact lk_mem hl.1
    | inr e => exact lentOk_spec hl.2 k c e
theorem call_core {o : Oper} {f : FuncId} {own_a : List (Nat × OC)} {args : List BV} {xs : List Operand} {post : SPost} (hspec : Meets P f own_a args post) (hrun : ∀ (a : Act) (w : World), R E n s a w → (execOp a.eval o).run P w = .ok (.enter f (xs.map a.eval).toArray) w)
    (ha : evArgs s xs = some args) (hl : lentOk s.own own_a) {a : Act} {w : World} (hr : R E n s a w) {next : Act → World → Prop} {Q : Post}
    (hnext : ∀ own' res, post own' res → okNew n own_a own' = true ∧ okOwn s.own own_a own' = true ∧ res.keysIn own' = true ∧ ∀ a' w', R E n (s.aft n own_a own' o.dst res) a' w' → next a' w') : o.wp P a w next Q := by
  have hr0 := hrun a w hr
  obtain ⟨hdf, hn, h, ρ, hw, hs⟩ := hr
  unfold Oper.wp
  rw [hr0]
  show Calls P f _ w _
  have hla := lentOk_spec hl
  refine (hspec w h ρ _ hw.agree (lent_of hw hla) (evArgs_rel hs ha)).mono ?_
  rintro e w' ⟨v, own', res, h', ρ', rfl, hp, hc, hres⟩
  obtain ⟨hok, hcl, hki, hnx⟩ := hnext own' res hp
  have hwc := hw.call hla hc hok hcl
  refine hnx _ _ (R.put (s := ⟨dropNew own_a own' s.slots, insAll own' (delAll own_a s.own)⟩) hdf hn hwc ?_ ?_)
  · intro k x hx
    obtain ⟨h1, h2⟩ := mem_dropNew hx
    obtain ⟨u, hu, hrel⟩ := hs k x h1
    refine ⟨u, hu, SV.mono hc.le (fun j hj => ?_) hrel⟩
    by_cases hin : j ∈ keysOf own'
    · rw [comb_in hin]
      by_cases hia : j ∈ boxKeys own_a
      · exact hc.fixed j hia
      · have := h2 j hin hia; simp [this] at hj
    · exact comb_out hin
  · exact SV.mono (PH.le_refl _) (fun j hj => comb_in (SV.keysIn_uses hki hj)) hres
/-- a call; what is lent is given back -/
theorem OpsL.call {f : FuncId} {own_a : List (Nat × OC)} {args : List BV} {xs : Array Operand} {ats : Array TypeId} {post : SPost} (hspec : Meets P f own_a args post) (hf : Goes P f) (ha : evArgs s xs.toList = some args) (hl : lentOk s.own own_a)
    (h2 : ∀ own' res, post own' res → okNew n own_a own' = true ∧ okOwn s.own own_a own' = true ∧ res.keysIn own' = true ∧ OpsL P E n ops l (s.aft n own_a own' dst res) Q) : OpsL P E n ops (⟨dst, .call ⟨.value (.func f), xs, ats⟩, ty, pos, after, none⟩ :: l) s Q := by
  intro a w hr
  unfold wpL
  have : ∀ tmps, Region.wanted ⟨dst, .call ⟨.value (.func f), xs, ats⟩, ty, pos, after, none⟩ (yielded ops tmps) = true := fun _ => rfl
  simp only [this, if_true]
  exact call_core hspec (fun a w _ => call_run hf a w) ha hl hr fun own' res hp => ⟨(h2 own' res hp).1, (h2 own' res hp).2.1, (h2 own' res hp).2.2.1, fun a' w' hr' => (h2 own' res hp).2.2.2 a' w' hr'⟩
theorem op_call {f : FuncId} {own_a own' : List (Nat × OC)} {args : List BV} {xs : Array Operand} {ats : Array TypeId} {res : SV} (hspec : Meets P f own_a args (Is own' res)) (hf : Goes P f) (ha : evArgs s xs.toList = some args) (hl : lentOk s.own own_a)
    (hok : okNew n own_a own' = true) (hki : res.keysIn own' = true) (hcl : okOwn s.own own_a own' = true := by rfl) : Op1 P E n ⟨dst, .call ⟨.value (.func f), xs, ats⟩, ty, pos, after, g⟩ s (s.aft n own_a own' dst res) :=
  fun _ _ hr _ _ hnext => call_core hspec (fun a w _ => call_run hf a w) ha hl hr fun _ _ hp => by
    obtain ⟨rfl, rfl⟩ := hp
    exact ⟨hok, hcl, hki, hnext⟩
theorem op_callv {f : FuncId} {own_a own' : List (Nat × OC)} {args : List BV} {xs : Array Operand} {ats : Array TypeId} {res : SV} (hspec : Meets P f own_a args (Is own' res)) (hf : Goes P f) (hx : s.ev x = some (.b (.one (.raw (.func (.func f) #[] #[]))))) (ha : evArgs s xs.toList = some args) (hl : lentOk s.own own_a)
    (hok : okNew n own_a own' = true) (hki : res.keysIn own' = true) (hcl : okOwn s.own own_a own' = true := by rfl) : Op1 P E n ⟨dst, .call ⟨.value x, xs, ats⟩, ty, pos, after, g⟩ s (s.aft n own_a own' dst res) :=
  fun _ _ hr _ _ hnext => call_core hspec (fun a w hr => call_run_raw hf a w (by obtain ⟨_, _, h, ρ, hw, hs⟩ := hr; exact (ev_rel hs hx : (CP.raw _).rel h _).1)) ha hl hr fun _ _ hp => by
    obtain ⟨rfl, rfl⟩ := hp
    exact ⟨hok, hcl, hki, hnext⟩
theorem OpsL.callv {f : FuncId} {own_a : List (Nat × OC)} {args : List BV} {xs : Array Operand} {ats : Array TypeId} {post : SPost} (hspec : Meets P f own_a args post) (hf : Goes P f) (hx : s.ev x = some (.b (.one (.raw (.func (.func f) #[] #[]))))) (ha : evArgs s xs.toList = some args) (hl : lentOk s.own own_a)
    (h2 : ∀ own' res, post own' res → okNew n own_a own' = true ∧ okOwn s.own own_a own' = true ∧ res.keysIn own' = true ∧ OpsL P E n ops l (s.aft n own_a own' dst res) Q) : OpsL P E n ops (⟨dst, .call ⟨.value x, xs, ats⟩, ty, pos, after, none⟩ :: l) s Q := by
  intro a w hr
  unfold wpL
  have : ∀ tmps, Region.wanted ⟨dst, .call ⟨.value x, xs, ats⟩, ty, pos, after, none⟩ (yielded ops tmps) = true := fun _ => rfl
  simp only [this, if_true]
  exact call_core hspec (fun a w hr => call_run_raw hf a w (by obtain ⟨_, _, h, ρ, hw, hs⟩ := hr; exact (ev_rel hs hx : (CP.raw _).rel h _).1)) ha hl hr fun own' res hp => ⟨(h2 own' res hp).1, (h2 own' res hp).2.1, (h2 own' res hp).2.2.1, fun a' w' hr' => (h2 own' res hp).2.2.2 a' w' hr'⟩

/-- a call that reads slices of one's own; its result holds no memory -/
theorem callB_core {o : Oper} {f : FuncId} {args : List BV} {xs : List Operand} {post : SPost} (hspec : Meets P f [] args post) (hrun : ∀ (a : Act) (w : World), R E n s a w → (execOp a.eval o).run P w = .ok (.enter f (xs.map a.eval).toArray) w)
    (ha : evArgsB s xs = some args) {a : Act} {w : World} (hr : R E n s a w) {next : Act → World → Prop} {Q : Post}
    (hnext : ∀ own' res, post own' res → res.flat ∧ ∀ a' w', R E n (s.put n o.dst res) a' w' → next a' w') : o.wp P a w next Q := by
  have hr0 := hrun a w hr
  obtain ⟨hdf, hn, h, ρ, hw, hs⟩ := hr
  unfold Oper.wp
  rw [hr0]
  show Calls P f _ w _
  refine (hspec w (full w) ρ _ (fun _ _ _ hv => hv) (fun k c hk => by simp at hk) (evArgsB_rel hw hs ha)).mono ?_
  rintro e w' ⟨v, own', res, h', ρ', rfl, hp, hc, hres⟩
  obtain ⟨hfl, hnx⟩ := hnext own' res hp
  have hsame : ∀ b, b < w.heap.size → w'.heap[b]? = w.heap[b]? := fun b hb => hc.same b hb fun ⟨k, hk, _⟩ => by simp [keysOf] at hk
  have hwc : WR E n s.own h ρ w' := by
    refine ⟨?_, hw.le, hw.fresh, Nat.le_trans hw.size hc.size, ?_, hw.fixed, hc.os.trans hw.os, hc.out.trans hw.out, ?_⟩
    · intro b o v hv
      have hcell := hw.agree b o v hv
      rw [cell_of_heap (hsame b (lt_of_cell hcell))]; exact hcell
    · intro b hb hl
      rw [hsame b (Nat.lt_of_lt_of_le hb hw.size)]; exact hw.same b hb hl
    · intro k c hk
      obtain ⟨e1, e2, e3⟩ := hw.owned k c hk
      exact ⟨e1.congr fun b hb => hsame b (e1.lt hb), e2, e3⟩
  exact hnx _ _ (R.put (s := s) hdf hn hwc hs (SV.flat_rel hfl hres))
theorem op_callB {f : FuncId} {own' : List (Nat × OC)} {args : List BV} {xs : Array Operand} {ats : Array TypeId} {res : SV} (hspec : Meets P f [] args (Is own' res)) (hf : Goes P f) (ha : evArgsB s xs.toList = some args) (hfl : res.flat) :
    Op1 P E n ⟨dst, .call ⟨.value (.func f), xs, ats⟩, ty, pos, after, g⟩ s (s.put n dst res) :=
  fun _ _ hr _ _ hnext => callB_core hspec (fun a w _ => call_run hf a w) ha hr fun _ _ hp => by
    obtain ⟨rfl, rfl⟩ := hp
    exact ⟨hfl, hnext⟩
theorem OpsL.callB {f : FuncId} {args : List BV} {xs : Array Operand} {ats : Array TypeId} {post : SPost} (hspec : Meets P f [] args post) (hf : Goes P f) (ha : evArgsB s xs.toList = some args)
    (h2 : ∀ own' res, post own' res → res.flat ∧ OpsL P E n ops l (s.put n dst res) Q) : OpsL P E n ops (⟨dst, .call ⟨.value (.func f), xs, ats⟩, ty, pos, after, none⟩ :: l) s Q := by
  intro a w hr
  unfold wpL
  have : ∀ tmps, Region.wanted ⟨dst, .call ⟨.value (.func f), xs, ats⟩, ty, pos, after, none⟩ (yielded ops tmps) = true := fun _ => rfl
  simp only [this, if_true]
  exact callB_core hspec (fun a w _ => call_run hf a w) ha hr fun own' res hp => ⟨(h2 own' res hp).1, fun a' w' hr' => (h2 own' res hp).2 a' w' hr'⟩
end
end Go.Sk
