/- The framework, part J: nil tests, empty literals, == on structs, drawn regions order by order. -/
import Derived.Test.YtipepglcceogiaaSkI
import Derived.Laws.Cover3
namespace Go.Sk
set_option linter.unusedSimpArgs false
set_option linter.unusedVariables false
open Go Go.BigFrame

section
variable {P : Program} {E : Env} {n : Sh} {s s' : St} {dst : Option Nat} {t ty yt : TypeId} {pos : String} {after : Array Edge} {g : Option (Nat × Bool)} {x y c : Operand} {ops : Array Oper} {l : List Oper} {Q : Post} {cd : Code}

/-! ## x == nil -/
theorem run_equal_nil {e : TypeId} (ht : P.underlying t = some (.slice e)) (w : World) (a : Option Addr) (m q : Nat) : (Op.equal t (.slice a m q) (.slice none 0 0)).run P w = .ok a.isNone w := run_equal_slice_nil w t e a m q ht
theorem eqnil_core {o : Oper} {e : TypeId} {op : BinOp} (ht : P.underlying t = some (.slice e)) (ho : o = ⟨dst, .binOp op t x (.const (.slice none 0 0)) yt, ty, pos, after, none⟩) (hop : op = .eql ∨ op = .neq)
    {emp : Prop} (hform : ∀ (a : Act) (w : World) (h : PH) (ρ : RM), WR E n s.own h ρ w → SlotsRel h ρ s.slots a.tmps → ∃ ad m q, a.eval x = .slice ad m q ∧ (ad = none → emp))
    (h2 : ∀ b : Bool, (b = true → emp) → OpsL P E n ops l (s.put n dst (B (if op = .eql then b else !b))) Q) : OpsL P E n ops (o :: l) s Q := by
  intro a w hr
  subst ho
  unfold wpL
  have : ∀ tmps, Region.wanted ⟨dst, .binOp op t x (.const (.slice none 0 0)) yt, ty, pos, after, none⟩ (yielded ops tmps) = true := fun _ => rfl
  simp only [this, if_true]
  obtain ⟨hdf, hn, h, ρ, hw, hs⟩ := id hr
  obtain ⟨ad, m, q, hv, hemp⟩ := hform a w h ρ hw hs
  have hrun : (execOp a.eval ⟨dst, .binOp op t x (.const (.slice none 0 0)) yt, ty, pos, after, none⟩).run P w = .ok (.value (.bool (if op = .eql then ad.isNone else !ad.isNone))) w := by
    have hcst : a.eval (.const (.slice none 0 0)) = .slice none 0 0 := rfl
    simp only [execOp, hv, hcst]
    have hq := run_equal_nil ht w ad m q
    rcases hop with rfl | rfl <;> simp [eqGuard, binOp, hq]
  unfold Oper.wp
  rw [hrun]
  exact h2 ad.isNone (fun e => hemp (by cases ad <;> simp_all)) _ _ (R.put (s := s) hdf hn hw hs rfl)
/-- x == nil, x a slice that is only read -/
theorem OpsL.eqnil_e {size : Nat} {es : List (List CP)} {e : TypeId} (ht : P.underlying t = some (.slice e)) (hx : s.ev x = some (.b (.one (.sl size es)))) (h2 : ∀ b : Bool, (b = true → es = []) → OpsL P E n ops l (s.put n dst (B b)) Q) :
    OpsL P E n ops (⟨dst, .binOp .eql t x (.const (.slice none 0 0)) yt, ty, pos, after, none⟩ :: l) s Q :=
  eqnil_core (op := .eql) (emp := es = []) ht rfl (.inl rfl) (fun a w h ρ hw hs => by
    obtain ⟨hu, hz, hv⟩ := (ev_rel hs hx : (CP.sl size es).rel h _)
    rcases hv with ⟨hv, he⟩ | ⟨b, o, c, hv, _⟩
    · exact ⟨_, _, _, hv, fun _ => he⟩
    · exact ⟨_, _, _, hv, fun e => by simp at e⟩) h2
theorem OpsL.neqnil_e {size : Nat} {es : List (List CP)} {e : TypeId} (ht : P.underlying t = some (.slice e)) (hx : s.ev x = some (.b (.one (.sl size es)))) (h2 : ∀ b : Bool, (b = true → es = []) → OpsL P E n ops l (s.put n dst (B (!b))) Q) :
    OpsL P E n ops (⟨dst, .binOp .neq t x (.const (.slice none 0 0)) yt, ty, pos, after, none⟩ :: l) s Q :=
  eqnil_core (op := .neq) (emp := es = []) ht rfl (.inr rfl) (fun a w h ρ hw hs => by
    obtain ⟨hu, hz, hv⟩ := (ev_rel hs hx : (CP.sl size es).rel h _)
    rcases hv with ⟨hv, he⟩ | ⟨b, o, c, hv, _⟩
    · exact ⟨_, _, _, hv, fun _ => he⟩
    · exact ⟨_, _, _, hv, fun e => by simp at e⟩) h2

/-- an empty literal -/
theorem op_build0 {e k size bytes : Nat} {zs : List CP} (ht : TySl P t e size bytes zs) (hfx : n.fix.contains k = false) (hnu : noUse k s.own = true := by rfl) :
    Op1 P E n ⟨dst, .buildSlice t 0 #[], ty, pos, after, g⟩ s ((⟨dropU k s.slots, ins k (.row e size []) s.own⟩ : St).put n dst (.b (.row k))) :=
  Op1.make (hfx := hfx) (hnu := hnu) (o := ⟨dst, .buildSlice t 0 #[], ty, pos, after, g⟩) fun ac w h ρ hw hs => by
    obtain ⟨i, z, h1, h2, h3, h4, h5, h6, h7⟩ := ht.info
    refine ⟨.slice (some ⟨w.heap.size, 0, none⟩) 0 0, .slice (some ⟨w.heap.size, 0, none⟩) 0 0, w.alloc (.cells #[] e), none, ?_, fun b e => by simp at e, by simp, rfl, rfl, fun b hb _ => heap_alloc_old w _ hb, ?_,
      fun b e => by simp [blkOf] at e; subst e; exact .inr (Nat.le_refl _), (upd_same _ _ _).symm⟩
    · have hrun : (Instr.buildSlice t 0 #[]).run P w = .ok (.slice (some ⟨w.heap.size, 0, none⟩) 0 0) (w.alloc (.cells #[] e)) := by
        unfold Instr.buildSlice
        rw [Sem.run_bind, run_underlying ht.und, Result.andThen]
        simp only [Sem.run_bind, run_sizeOf h1, Result.andThen_ok, Nat.zero_mul]
        have hz0 : ((Array.range 0).map fun _ => (default : Value)) = #[] := by simp
        simp [Instr.fill, newRow, hz0]
      simp only [execOp]
      simp [hrun]
    · exact ⟨fun ps hps => by simp at hps, h6, [], ⟨by simp, .inr ⟨w.heap.size, 0, #[], by simp, Nat.zero_le _, heap_alloc_new w _, by simp, by simp [maxLen], by simp, by simp⟩⟩, .nil⟩

/-! ## == on structs -/
structure EqAgg (P : Program) (t : TypeId) (ps qs : List CP) (r : Bool) : Prop where
  guard : P.eqGuardType P.depth t = false
  run : ∀ (h : PH) (cs ds : Array Value) (w : World), cellsRel h ps cs.toList → cellsRel h qs ds.toList → (Op.equalIn 10000 t (.agg cs) (.agg ds)).run P w = .ok r w
theorem op_eql_agg {ps qs : List CP} {r : Bool} (he : EqAgg P t ps qs r) (hx : s.ev x = some (.b (.agg ps))) (hy : s.ev y = some (.b (.agg qs))) : Op1 P E n ⟨dst, .binOp .eql t x y yt, ty, pos, after, g⟩ s (s.put n dst (B r)) :=
  Op1.val (o := ⟨dst, .binOp .eql t x y yt, ty, pos, after, g⟩) fun ac w h ρ hw hs => by
    obtain ⟨cs, hv, hr⟩ := (ev_rel hs hx : BV.rel h ρ (.agg ps) _)
    obtain ⟨ds, hv2, hr2⟩ := (ev_rel hs hy : BV.rel h ρ (.agg qs) _)
    refine ⟨.bool r, ?_, rfl⟩
    simp only [execOp, hv, hv2]
    simp [run_eqGuard_agg w _ _ _ _ _ _ he.guard, run_eql_struct, he.run h cs ds w hr hr2]
theorem op_neq_agg {ps qs : List CP} {r r' : Bool} (he : EqAgg P t ps qs r) (hx : s.ev x = some (.b (.agg ps))) (hy : s.ev y = some (.b (.agg qs))) (hr' : (!r) = r') : Op1 P E n ⟨dst, .binOp .neq t x y yt, ty, pos, after, g⟩ s (s.put n dst (B r')) :=
  Op1.val (o := ⟨dst, .binOp .neq t x y yt, ty, pos, after, g⟩) fun ac w h ρ hw hs => by
    obtain ⟨cs, hv, hr⟩ := (ev_rel hs hx : BV.rel h ρ (.agg ps) _)
    obtain ⟨ds, hv2, hr2⟩ := (ev_rel hs hy : BV.rel h ρ (.agg qs) _)
    refine ⟨.bool r', ?_, rfl⟩
    simp only [execOp, hv, hv2]
    simp [run_eqGuard_agg w _ _ _ _ _ _ he.guard, run_neq_struct, he.run h cs ds w hr hr2, hr']
/-- two cells of one basic type, compared -/
structure EqCell (P : Program) (t : TypeId) (p q : CP) (r : Bool) : Prop where
  one : TyOne P t
  run : ∀ (h : PH) (u v : Value) (w : World), p.rel h u → q.rel h v → (Op.equalIn 9999 t u v).run P w = .ok r w
theorem EqCell.int {k k' : IntKind} {a b : Int} (h1 : TyOne P t) (hu : P.underlying t = some (.int k')) : EqCell P t (.int k a) (.int k b) (decide (a = b)) :=
  ⟨h1, fun h u v w hp hq => by rw [hp.1, hq.1, run_equalIn_int w 9998 t k k' a b hu, int_beq]⟩
theorem EqCell.str {a b : Str} (h1 : TyOne P t) (hu : P.underlying t = some .string) : EqCell P t (.str a) (.str b) (decide (a = b)) :=
  ⟨h1, fun h u v w hp hq => by rw [hp.1, hq.1, run_equalIn_string w 9998 t _ _ hu, str_beq]⟩
theorem EqCell.bool {a b : Bool} (h1 : TyOne P t) (hu : P.underlying t = some .bool) : EqCell P t (.bool a) (.bool b) (a == b) :=
  ⟨h1, fun h u v w hp hq => by rw [show u = .bool a from hp, show v = .bool b from hq, run_equalIn_bool' w 9998 t a b hu]⟩
def EqCells (P : Program) (ps qs : List CP) : List Field → List Bool → Prop
  | [], [] => True
  | f :: fs, r :: rs => f.name ≠ "_" ∧ (∃ p q, ps[f.offset]? = some p ∧ qs[f.offset]? = some q ∧ EqCell P f.type p q r) ∧ EqCells P ps qs fs rs
  | _, _ => False
theorem eqFields_run {h : PH} {ps qs : List CP} {cs ds : Array Value} (hp : cellsRel h ps cs.toList) (hq : cellsRel h qs ds.toList) (w : World) : ∀ {fs : List Field} {rs : List Bool}, EqCells P ps qs fs rs → (Op.eqFields 9999 cs ds fs).run P w = .ok (rs.all id) w
  | [], [], _ => rfl
  | [], _ :: _, h => h.elim
  | _ :: _, [], h => h.elim
  | f :: fs, r :: rs, ⟨h1, ⟨p, q, hp', hq', he⟩, h3⟩ => by
    have ih := eqFields_run hp hq w h3
    obtain ⟨u, hu, hur⟩ := hp.get _ p hp'
    obtain ⟨v, hv, hvr⟩ := hq.get _ q hq'
    obtain ⟨d, hd, hag⟩ := he.one.und
    have hpart : ∀ {A : Array Value} {z : Value}, A.toList[f.offset]? = some z → (part f.type A f.offset).run P w = .ok z w := fun {A z} hz => by
      unfold part
      rw [Sem.run_bind, run_isAgg hd, Result.andThen, hag]
      have : A[f.offset]? = some z := by simpa using hz
      simp [this]
    unfold Op.eqFields
    rw [if_pos h1]
    rw [Sem.run_bind, hpart hu, Result.andThen, Sem.run_bind, hpart hv, Result.andThen, Sem.run_bind, he.run h u v w hur hvr, Result.andThen]
    cases r
    · simp
    · simpa using ih
theorem EqAgg.of {ps qs : List CP} {fs : Array Field} {rs : List Bool} {r : Bool} (hg : P.eqGuardType P.depth t = false) (hh : P.stoodInHeld t = false) (hu : P.underlying t = some (.struct fs)) (hc : EqCells P ps qs fs.toList rs) (hr : rs.all id = r) : EqAgg P t ps qs r := by
  have hf : P.fieldsOf t = fs := by simp [Program.fieldsOf, hu]
  exact ⟨hg, fun h cs ds w hp hq => by
    rw [run_equalIn_struct w 9999 t cs ds (by rw [hf]; exact hu) hh, hf, eqFields_run hp hq w hc, hr]⟩

/-! ## drawn regions, order by order -/
/-- which operations can come next -/
def readyL (l : List Oper) (listed : List Bool) : List Nat := Region.ready .any l.toArray listed.toArray
def NextAll (step : Nat → Prop) : List Nat → Prop
  | [] => True
  | i :: is => step i ∧ NextAll step is
theorem NextAll.mem {step : Nat → Prop} : ∀ {is : List Nat}, NextAll step is → ∀ i, i ∈ is → step i
  | [], _, i, hi => by simp at hi
  | j :: is, h, i, hi => by
    cases List.mem_cons.1 hi with
    | inl e => subst e; exact h.1
    | inr e => exact NextAll.mem h.2 i e
def chain (P : Program) (E : Env) (n : Sh) (l : List Oper) (Q : Post) : Nat → List Bool → St → Prop
  | 0, listed, s => readyL l listed = [] ∧ Fin E n .normal s Q
  | f + 1, listed, s => readyL l listed ≠ [] ∧ ∀ i, i ∈ readyL l listed → ∃ o s', l[i]? = some o ∧ Step1 P E n l.toArray o s s' ∧ chain P E n l Q f (listed.set i true) s'
theorem chain.done {listed : List Bool} (hr : readyL l listed = []) (h : Fin E n .normal s Q) : chain P E n l Q 0 listed s := ⟨hr, h⟩
theorem chain.next {f : Nat} {listed : List Bool} (is : List Nat) (hr : readyL l listed = is) (hne : is ≠ []) (h : NextAll (fun i => ∃ o s', l[i]? = some o ∧ Step1 P E n l.toArray o s s' ∧ chain P E n l Q f (listed.set i true) s') is) : chain P E n l Q (f + 1) listed s :=
  ⟨by rw [hr]; exact hne, fun i hi => NextAll.mem h i (hr ▸ hi)⟩
theorem any_of_chain : ∀ (f : Nat) (listed : List Bool) (s : St), chain P E n l Q f listed s → ∀ a w, R E n s a w → ∀ m, wpAny P .any l.toArray Q (f + m) listed.toArray a w
  | 0, listed, s, h, a, w, hr, 0 => ⟨h.1, h.2 a w hr⟩
  | 0, listed, s, h, a, w, hr, m + 1 => by
    have hr0 : Region.ready .any l.toArray listed.toArray = [] := h.1
    rw [Nat.zero_add]
    exact ⟨fun _ => h.2 a w hr, fun i hi => by rw [hr0] at hi; simp at hi⟩
  | f + 1, listed, s, h, a, w, hr, m => by
    have e : f + 1 + m = (f + m) + 1 := by omega
    rw [e]
    refine ⟨fun h0 => absurd h0 h.1, fun i hi => ?_⟩
    obtain ⟨o, s', ho, hst, hch⟩ := h.2 i hi
    unfold wpOp
    have ho' : l.toArray[i]? = some o := by simpa using ho
    rw [ho']
    dsimp only
    have key := hst a w hr (wpAny P .any l.toArray Q (f + m) (listed.toArray.setIfInBounds i true)) Q (fun a' w' hr' => by
      have := any_of_chain f (listed.set i true) s' hch a' w' hr' m
      simpa using this)
    split
    · rename_i hw'
      simp only [hw', if_true] at key
      exact .inl key
    · rename_i hw'
      simp only [hw'] at key
      exact key
theorem Tri.regionE {id : Nat} {s₁ : St} (hm : P.follows .mixedOrders = true) (ks kos : List Nat) (hch : ∀ Q' : Post, Fin E n .normal s₁ Q' → chain P E n l Q' l.length (List.replicate l.length false) s)
    (hs : s₁.keep ks kos = s') (h : Fin E n .normal s' Q) : Tri P E n (.region id l.toArray true) s Q := by
  intro a w hr
  refine wp_region_any hm ?_
  have := any_of_chain (P := P) (Q := Q) l.length _ s (hch _ fun a w hr => h a w (hs ▸ hr.keep ks kos)) _ _ hr.drawn 0
  simpa using this
theorem Step1.toKeep (ks kos : List Nat) {s₂ : St} {o : Oper} (hs : s'.keep ks kos = s₂) (h : Step1 P E n ops o s s') : Step1 P E n ops o s s₂ := fun a w hr K Q hk => h a w hr K Q fun a' w' hr' => hk a' w' (hs ▸ hr'.keep ks kos)
/-! the same by a table of what has been done -/
abbrev Tab := List (List Bool × List Nat × St)
def lkT : Tab → List Bool → Option St
  | [], _ => none
  | (b, _, s) :: r, c => if b == c then some s else lkT r c
def TabOk (P : Program) (E : Env) (n : Sh) (l : List Oper) (tab : Tab) : Tab → Prop
  | [] => True
  | (b, is, s) :: r => (readyL l b = is ∧ (is.isEmpty == b.all id) = true) ∧ NextAll (fun i => ∃ o s', l[i]? = some o ∧ lkT tab (b.set i true) = some s' ∧ Step1 P E n l.toArray o s s') is ∧ TabOk P E n l tab r
theorem TabOk.get {tab : Tab} : ∀ {r : Tab}, TabOk P E n l tab r → ∀ b s, lkT r b = some s → ∃ is, readyL l b = is ∧ (is.isEmpty == b.all id) = true ∧ NextAll (fun i => ∃ o s', l[i]? = some o ∧ lkT tab (b.set i true) = some s' ∧ Step1 P E n l.toArray o s s') is
  | [], _, b, s, h => by simp [lkT] at h
  | (c, is, s0) :: r, h, b, s, hb => by
    unfold lkT at hb
    split at hb
    · rename_i hc
      have hc' : c = b := by simpa using hc
      subst hc'
      cases hb
      exact ⟨is, h.1.1, h.1.2, h.2.1⟩
    · exact TabOk.get h.2.2 b s hb
theorem count_set : ∀ (b : List Bool) (i : Nat), b[i]? = some false → ((b.set i true).filter (!·)).length + 1 = (b.filter (!·)).length
  | [], i, h => by simp at h
  | c :: b, 0, h => by simp at h; subst h; simp
  | c :: b, i + 1, h => by
    have ih := count_set b i (by simpa using h)
    cases c <;> simp_all
theorem chain_of_tab {tab : Tab} {sf : St} (ht : TabOk P E n l tab tab) (hf : ∀ b s, lkT tab b = some s → b.all id = true → s = sf) (hfin : Fin E n .normal sf Q) : ∀ (m : Nat) (b : List Bool) (s : St), (b.filter (!·)).length = m → lkT tab b = some s → chain P E n l Q m b s := by
  intro m
  induction m with
  | zero =>
    intro b s hm hb
    obtain ⟨is, h1, h2, h3⟩ := ht.get b s hb
    have hall : b.all id = true := by
      rw [List.all_eq_true]
      intro x hx
      cases x with
      | true => rfl
      | false =>
        have : (false : Bool) ∈ b.filter (!·) := by simp [hx]
        rw [List.eq_nil_of_length_eq_zero hm] at this
        simp at this
    rw [hall] at h2
    have hnil : is = [] := by cases is <;> simp_all
    exact ⟨by rw [h1, hnil], by rw [hf b s hb hall]; exact hfin⟩
  | succ m ih =>
    intro b s hm hb
    obtain ⟨is, h1, h2, h3⟩ := ht.get b s hb
    refine ⟨?_, fun i hi => ?_⟩
    · rw [h1]
      intro hnil
      rw [hnil] at h2
      have hall : b.all id = true := by simpa using h2
      have : b.filter (!·) = [] := by
        rw [List.filter_eq_nil_iff]
        intro x hx
        have := List.all_eq_true.1 hall x hx
        simp at this; simp [this]
      rw [this] at hm; simp at hm
    · have hready := hi
      unfold readyL at hready
      rw [mem_ready] at hready
      obtain ⟨o, s', ho, hs', hst⟩ := NextAll.mem h3 i (h1 ▸ hi)
      have hbi : b[i]? = some false := by
        have h0 := hready.1
        simp only [Array.getD_eq_getD_getElem?] at h0
        cases hbi : b[i]? with
        | none => simp [hbi] at h0
        | some c => simp [hbi] at h0; rw [h0]
      have hc := count_set b i hbi
      exact ⟨o, s', ho, hst, ih _ s' (by omega) hs'⟩
theorem Tri.regionTF {rid : Nat} {sf : St} (hm : P.follows .mixedOrders = true) (tab : Tab) (ks kos : List Nat) (ht : TabOk P E n l tab tab) (h0 : lkT tab (List.replicate l.length false) = some s)
    (hf : ∀ b s, lkT tab b = some s → b.all id = true → s = sf) (hs : sf.keep ks kos = s') (h : Fin E n .normal s' Q) : Tri P E n (.region rid l.toArray true) s Q :=
  Tri.regionE (s₁ := sf) hm ks kos (fun _ hF => chain_of_tab ht hf hF l.length _ s (by simp) h0) hs h
theorem Tri.regionT {rid : Nat} {sf : St} {y : Code} (hm : P.follows .mixedOrders = true) (tab : Tab) (ks kos : List Nat) (ht : TabOk P E n l tab tab) (h0 : lkT tab (List.replicate l.length false) = some s)
    (hf : ∀ b s, lkT tab b = some s → b.all id = true → s = sf) (hs : sf.keep ks kos = s') (h : Tri P E n y s' Q) : Tri P E n (.region rid l.toArray true) s (Exit.then (y.wp P Q) Q) :=
  Tri.regionTF hm tab ks kos ht h0 hf hs (Fin.then h)
/-- the table's entry where all is done -/
def finOk (sf : St) : Tab → Prop
  | [] => True
  | (b, _, s) :: r => (if b.all id then s = sf else True) ∧ finOk sf r
theorem finOk_spec {sf : St} : ∀ {tab : Tab}, finOk sf tab → ∀ b s, lkT tab b = some s → b.all id = true → s = sf
  | [], _, b, s, h, _ => by simp [lkT] at h
  | (c, is, s0) :: r, h, b, s, hb, hall => by
    unfold lkT at hb
    split at hb
    · rename_i hc
      have hc' : c = b := by simpa using hc
      subst hc'
      cases hb
      have := h.1
      rw [hall] at this
      simpa using this
    · exact finOk_spec h.2 b s hb hall
end
end Go.Sk
namespace Go.Sk
open Go Go.BigFrame
section
variable {P : Program} {E : Env} {n : Sh} {s s' : St} {dst : Option Nat} {t ty yt : TypeId} {pos : String} {after : Array Edge} {g : Option (Nat × Bool)} {x y c : Operand} {ops : Array Oper} {l : List Oper} {Q : Post} {cd : Code}
/-- a part of a row from lo on, of which nothing is said -/
theorem op_slice_row_any {k size bytes : Nat} {e T : TypeId} {zs : List CP} {es : List (List CP)} {lo : Operand} {kk : IntKind} {i : Int} (ht : TySl P t e size bytes zs) (h0 : 0 ≤ i) (h1 : i ≤ es.length) (hx : s.ev x = some (.b (.row k))) (hk : lk s.own k = some (.row T size es)) (hy : s.ev lo = some (.b (.one (.int kk i)))) :
    Op1 P E n ⟨dst, .slice t x (some lo) none none, ty, pos, after, g⟩ s (s.put n dst (.b (.one .any))) :=
  Op1.val (o := ⟨dst, .slice t x (some lo) none none, ty, pos, after, g⟩) fun ac w h ρ hw hs => by
    have hv : ac.eval x = ρ k := (ev_rel hs hx : BV.rel h ρ (.row k) _)
    obtain ⟨_, _, hf⟩ := row_form hw hk
    obtain ⟨inf, z, hi, hsz, _⟩ := ht.info
    have hel : P.elem t = e := by simp [Program.elem, ht.und]
    have hund : P.underlying t = some (.slice (P.elem t)) := by rw [hel]; exact ht.und
    have hform : ∃ ad cap, ρ k = .slice ad es.length cap := by
      rcases hf with ⟨hr, he⟩ | ⟨b, cap, cur, hr, _⟩
      · exact ⟨none, 0, by rw [he]; exact hr⟩
      · exact ⟨_, cap, hr⟩
    obtain ⟨ad, cap, hρ⟩ := hform
    have hb := run_slice_l (P := P) (w := w) (t := t) (a := ad) (len := es.length) (cap := cap) hund kk i h0 h1
    refine ⟨sliced ad i.toNat es.length cap size, ?_, rfl⟩
    simp only [execOp, hv, hρ, Option.map_some, Option.map_none, (ev_int hs hy).1]
    rw [Sem.run_bind, run_sliceAt_slice w t _ _ _ _ hund, hb, run_sizeOf (i := inf) (by rw [hel]; exact hi), hsz]
    rfl
end
end Go.Sk
namespace Go.Sk
open Go
end Go.Sk
namespace Go.Sk
open Go Go.BigFrame
section
variable {P : Program} {E : Env} {n : Sh} {s s' : St} {dst : Option Nat} {t ty yt : TypeId} {pos : String} {after : Array Edge} {g : Option (Nat × Bool)} {x y c : Operand} {ops : Array Oper} {l : List Oper} {Q : Post} {cd : Code}
theorem WR.allocP {h : PH} {ρ : RM} {own : List (Nat × OC)} {w : World} (hw : WR E n own h ρ w) (cs : Array Value) (T : TypeId) : h.le (addRow h w.heap.size cs.toList) ∧ WR E n own (addRow h w.heap.size cs.toList) ρ (w.alloc (.cells cs T)) := by
  have hnone : ∀ o, h w.heap.size o = none := fun o => by
    cases e : h w.heap.size o with
    | none => rfl
    | some u => have := lt_of_cell (hw.agree _ o u e); omega
  have hle : h.le (addRow h w.heap.size cs.toList) := fun b o v hv => by
    unfold addRow
    split
    · rename_i e; subst e; rw [hnone o] at hv; simp at hv
    · exact hv
  have hold : ∀ b, b < w.heap.size → (w.alloc (.cells cs T)).heap[b]? = w.heap[b]? := fun b hb => heap_alloc_old w _ hb
  refine ⟨hle, ?_, PH.le_trans hw.le hle, ?_, by have := hw.size; simp; omega, ?_, hw.fixed, hw.os, hw.out, ?_⟩
  · intro b o v hv
    unfold addRow at hv
    split at hv
    · rename_i e; subst e
      rw [cell_row (heap_alloc_new w _)]
      simpa using hv
    · have hc := hw.agree b o v hv
      rw [cell_of_heap (hold b (lt_of_cell hc))]; exact hc
  · intro b hb hnl
    rw [← hw.fresh b hb hnl]
    funext o
    unfold addRow
    rw [if_neg (by have := hw.size; omega)]
  · intro b hb hl
    rw [hold b (Nat.lt_of_lt_of_le hb hw.size)]; exact hw.same b hb hl
  · intro j c hj
    obtain ⟨e1, e2, e3⟩ := hw.owned j c hj
    refine ⟨(e1.congr fun b hb => hold b (e1.lt hb)).mono hle, fun b hb => ⟨(e2 b hb).1, fun o => ?_⟩, e3⟩
    have := e1.lt hb
    unfold addRow
    rw [if_neg (by omega)]
    exact (e2 b hb).2 o
/-- a literal slice, only read from here on -/
theorem op_buildSliceP {e len size bytes : Nat} {zs : List CP} {es : List (List CP)} {parts : Array (Nat × Operand)} {cps : List (Nat × List CP)} (ht : TySl P t e size bytes zs) (hp : evParts s parts.toList = some cps)
    (hf : cfill (fun i => some (i * size, size)) ((List.range (len * size)).map fun i => zs.getD (i % size) .any) cps = some es.flatten) (hu : Uniform size es) (hl : es.length = len) (h0 : 0 < len * size) (h24 : len * size ≤ 16777216) :
    Op1 P E n ⟨dst, .buildSlice t len parts, ty, pos, after, g⟩ s (s.put n dst (.b (.one (.sl size es)))) := by
  intro a w ⟨hdf, hn, h, ρ, hw, hs⟩ next Q hnext
  obtain ⟨i, z, h1, h2, h3, h4, h5, h6, h7⟩ := ht.info
  have hzr := cvs_rel h h7
  have hzl : zs.length = size := by rw [hzr.length]; simpa using h5
  have hzeros := zeros_rel hzr (by omega) (len * size)
  rw [hzl] at hzeros
  have hzc : ((Array.range (len * size)).map (z.cells[· % z.cells.size]!)).toList = (List.range (len * size)).map fun i => z.cells.toList[i % z.cells.toList.length]! := by
    rw [Array.toList_map, Array.toList_range]
    refine List.map_congr_left fun j _ => ?_
    rw [List.getElem!_eq_getElem?_getD, Array.getElem!_eq_getD]
    simp [Array.getD_eq_getD_getElem?]
  obtain ⟨cs, hc1, hc2⟩ := fill_rel hs (fun i => some (i * size, size)) parts.toList cps _ es.flatten ((Array.range (len * size)).map (z.cells[· % z.cells.size]!)) hp hf (by rw [hzc]; exact hzeros)
  have hne : ¬ len * size = 0 := by omega
  have hrun : (Instr.buildSlice t len (parts.map fun (i, x) => (i, a.eval x))).run P w = .ok (.slice (some ⟨w.heap.size, 0, none⟩) len len) (w.alloc (.cells cs e)) := by
    have hmap : (parts.map fun x => (x.1, a.eval x.2)).toList = parts.toList.map fun p => (p.1, a.eval p.2) := by simp
    unfold Instr.buildSlice
    rw [Sem.run_bind, run_underlying ht.und, Result.andThen]
    simp only [Sem.run_bind, run_sizeOf h1, h2, Result.andThen_ok]
    rw [if_neg (by omega), if_neg hne]
    simp [zeroValue, typeInfo, h1, h4, hc1, newRow]
  have hrun' : (execOp a.eval ⟨dst, .buildSlice t len parts, ty, pos, after, g⟩).run P w = .ok (.value (.slice (some ⟨w.heap.size, 0, none⟩) len len)) (w.alloc (.cells cs e)) := by
    simp only [execOp]
    simp [hrun]
  unfold Oper.wp
  rw [hrun']
  obtain ⟨hle, hwp⟩ := hw.allocP cs e
  refine hnext _ _ (R.put (s := s) hdf hn hwp (hs.mono hle) ?_)
  refine ⟨hu, h6, .inr ⟨w.heap.size, 0, len, by rw [hl], by omega, ?_, fun j c hc => ?_⟩⟩
  · have : len ≤ len * size := Nat.le_mul_of_pos_right _ h6
    rw [maxLen_eq]; omega
  · obtain ⟨u, hu', hr⟩ := hc2.get j c hc
    exact ⟨u, by simp only [addRow, if_true, Nat.zero_add]; exact hu', c.mono hle hr⟩
/-- a contract whose result is a row: the row, only read from here on -/
theorem Meets.pers {f : FuncId} {args : List BV} {T : TypeId} {size : Nat} {es : List (List CP)} (h : Meets P f [] args (Is [(0, .row T size es)] (.b (.row 0)))) : Meets P f [] args (Is [] (.b (.one (.sl size es)))) := by
  intro w hh ρ vals hag hl hargs
  refine (h w hh ρ vals hag hl hargs).mono ?_
  rintro e w' ⟨v, own', res, h', ρ', rfl, ⟨rfl, rfl⟩, hw, hres⟩
  have hR : R ⟨w, hh, ρ⟩ ⟨1, boxKeys [], keysOf []⟩ ⟨[(0, .b (.row 0))], [(0, .row T size es)]⟩ ⟨#[v], []⟩ w' := ⟨rfl, rfl, h', ρ', WR.sh (n := ⟨0, boxKeys [], keysOf []⟩) (n' := ⟨1, boxKeys [], keysOf []⟩) rfl rfl hw, fun k x hx => by
    simp only [List.mem_singleton, Prod.mk.injEq] at hx
    obtain ⟨rfl, rfl⟩ := hx
    exact ⟨v, by simp, hres⟩⟩
  obtain ⟨_, _, h'', ρ'', hw'', hs''⟩ := hR.persist (k := 0) rfl
  obtain ⟨u, hu, hur⟩ := hs'' 0 (.b (.one (.sl size es))) (by simp [persS, SV.pers, BV.pers])
  have huv : u = v := by simpa using hu.symm
  subst huv
  exact ⟨u, [], _, h'', ρ'', rfl, ⟨rfl, rfl⟩, WR.sh (n := ⟨1, boxKeys [], keysOf []⟩) (n' := ⟨0, boxKeys [], keysOf []⟩) rfl rfl (hw''.sub (own' := []) (by simp)), hur⟩
theorem Meets.persG {f : FuncId} {args : List BV} {T : TypeId} {size : Nat} {es : List (List CP)} {res : SV} (h : Meets P f [] args (Is [(0, .row T size es)] res)) : Meets P f [] args (Is [] (res.pers 0 (.sl size es))) := by
  intro w hh ρ vals hag hl hargs
  refine (h w hh ρ vals hag hl hargs).mono ?_
  rintro e w' ⟨v, own', res, h', ρ', rfl, ⟨rfl, rfl⟩, hw, hres⟩
  have hR : R ⟨w, hh, ρ⟩ ⟨1, boxKeys [], keysOf []⟩ ⟨[(0, res)], [(0, .row T size es)]⟩ ⟨#[v], []⟩ w' := ⟨rfl, rfl, h', ρ', WR.sh (n := ⟨0, boxKeys [], keysOf []⟩) (n' := ⟨1, boxKeys [], keysOf []⟩) rfl rfl hw, fun k x hx => by
    simp only [List.mem_singleton, Prod.mk.injEq] at hx
    obtain ⟨rfl, rfl⟩ := hx
    exact ⟨v, by simp, hres⟩⟩
  obtain ⟨_, _, h'', ρ'', hw'', hs''⟩ := hR.persist (k := 0) rfl
  obtain ⟨u, hu, hur⟩ := hs'' 0 (res.pers 0 (.sl size es)) (by simp [persS])
  have huv : u = v := by simpa using hu.symm
  subst huv
  exact ⟨u, [], _, h'', ρ'', rfl, ⟨rfl, rfl⟩, WR.sh (n := ⟨1, boxKeys [], keysOf []⟩) (n' := ⟨0, boxKeys [], keysOf []⟩) rfl rfl (hw''.sub (own' := []) (by simp)), hur⟩
end
theorem all_step {p : Int → Prop} {k : Int} (h : ∀ j, 0 ≤ j → j < k → p j) (hk : p k) : ∀ j, 0 ≤ j → j < k + 1 → p j := fun j h0 h1 => by
  by_cases e : j = k
  · subst e; exact hk
  · exact h j h0 (by omega)
end Go.Sk
