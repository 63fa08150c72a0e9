/- The framework, part J: nil tests, empty literals, == on structs, drawn regions order by order. -/
import Derived.Test.YtaigaoifloldcaaDoorF1
import Derived.Laws.Cover3
import Derived.OpenShut
import Derived.ReadAgain
import Derived.Deep.Slices
import Derived.JoinedCond
import Derived.Handed
import Derived.Lib.AppendZerosOnto
import Derived.Lib.Overlaps
import Derived.Laws.BytesArg
namespace Go.Sk
set_option linter.unusedSimpArgs false
set_option linter.unusedVariables false
open Go Go.BigFrame

section
variable {P : Program} {TB : Tabs} {E : Env TB} {n : Sh} {s s' : St} {dst : Option Nat} {t ty yt : TypeId} {pos : String} {after : Array Edge} {g : Option (Nat × Bool)} {x y c : Operand} {ops : Array Oper} {l : List Oper} {Q : Post} {cd : Code}

/-! ## x == nil -/
theorem run_equal_nil {e : TypeId} (ht : P.underlying t = some (.slice e)) (w : World) (a : Option Addr) (m q : Nat) : (Op.equal t (.slice a m q) (.slice none 0 0)).run P w = .ok a.isNone w := run_equal_slice_nil w t e a m q ht
theorem eqnil_core {o : Oper} {e : TypeId} {op : BinOp} (ht : P.underlying t = some (.slice e)) (ho : o = ⟨dst, .binOp op t x (.const (.slice none 0 0)) yt, ty, pos, after, none⟩) (hop : op = .eql ∨ op = .neq)
    {emp : Prop} (hform : ∀ (a : Act) (w : World) (h : PH) (ρ : RM), WR E n s.own h ρ w → SlotsRel h ρ s.slots a.tmps → ∃ ad m q, a.eval x = .slice ad m q ∧ (ad = none → emp))
    (h2 : ∀ b : Bool, (b = true → emp) → OpsL P E n ops l (s.put n dst (B (if op = .eql then b else !b))) Q) : OpsL P E n ops (o :: l) s Q := by
  intro a w hr
  subst ho
  unfold wpL
  have : ∀ tmps, Region.wanted ⟨dst, .binOp op t x (.const (.slice none 0 0)) yt, ty, pos, after, none⟩ (yielded ops tmps) = true := fun _ => rfl
  simp only [this, if_true]
  obtain ⟨hdf, hn, h, ρ, hw, hs⟩ := id hr
  obtain ⟨ad, m, q, hv, hemp⟩ := hform a w h ρ hw hs
  have hrun : (execOp a.eval ⟨dst, .binOp op t x (.const (.slice none 0 0)) yt, ty, pos, after, none⟩).run P w = .ok (.value (.bool (if op = .eql then ad.isNone else !ad.isNone))) w := by
    have hcst : a.eval (.const (.slice none 0 0)) = .slice none 0 0 := rfl
    simp only [execOp, hv, hcst]
    have hq := run_equal_nil ht w ad m q
    rcases hop with rfl | rfl <;> simp [eqGuard, binOp, hq]
  unfold Oper.wp
  rw [hrun]
  exact h2 ad.isNone (fun e => hemp (by cases ad <;> simp_all)) _ _ (R.put (s := s) hdf hn hw hs rfl)
/-- x == nil, x a slice that is only read -/
theorem OpsL.eqnil_e {size : Nat} {es : List (List CP)} {e : TypeId} (ht : P.underlying t = some (.slice e)) (hx : s.ev x = some (.b (.one (.sl size es)))) (h2 : ∀ b : Bool, (b = true → es = []) → OpsL P E n ops l (s.put n dst (B b)) Q) :
    OpsL P E n ops (⟨dst, .binOp .eql t x (.const (.slice none 0 0)) yt, ty, pos, after, none⟩ :: l) s Q :=
  eqnil_core (op := .eql) (emp := es = []) ht rfl (.inl rfl) (fun a w h ρ hw hs => by
    obtain ⟨hu, hz, hv⟩ := (ev_rel hs hx : (CP.sl size es).rel h _)
    rcases hv with ⟨hv, he⟩ | ⟨b, o, c, hv, _⟩
    · exact ⟨_, _, _, hv, fun _ => he⟩
    · exact ⟨_, _, _, hv, fun e => by simp at e⟩) h2
theorem OpsL.neqnil_e {size : Nat} {es : List (List CP)} {e : TypeId} (ht : P.underlying t = some (.slice e)) (hx : s.ev x = some (.b (.one (.sl size es)))) (h2 : ∀ b : Bool, (b = true → es = []) → OpsL P E n ops l (s.put n dst (B (!b))) Q) :
    OpsL P E n ops (⟨dst, .binOp .neq t x (.const (.slice none 0 0)) yt, ty, pos, after, none⟩ :: l) s Q :=
  eqnil_core (op := .neq) (emp := es = []) ht rfl (.inr rfl) (fun a w h ρ hw hs => by
    obtain ⟨hu, hz, hv⟩ := (ev_rel hs hx : (CP.sl size es).rel h _)
    rcases hv with ⟨hv, he⟩ | ⟨b, o, c, hv, _⟩
    · exact ⟨_, _, _, hv, fun _ => he⟩
    · exact ⟨_, _, _, hv, fun e => by simp at e⟩) h2

/-- an empty literal -/
theorem op_build0 {e k size bytes : Nat} {zs : List CP} (ht : TySl P t e size bytes zs) (hfx : n.fix.contains k = false) (hnu : noUse k s.own = true := by rfl) :
    Op1 P E n ⟨dst, .buildSlice t 0 #[], ty, pos, after, g⟩ s ((⟨dropU k s.slots, ins k (.row e size []) s.own⟩ : St).put n dst (.b (.row k))) :=
  Op1.make (hfx := hfx) (hnu := hnu) (o := ⟨dst, .buildSlice t 0 #[], ty, pos, after, g⟩) fun ac w h ρ hw hs => by
    obtain ⟨i, z, h1, h2, h3, h4, h5, h6, h7⟩ := ht.info
    refine ⟨.slice (some ⟨w.heap.size, 0, none⟩) 0 0, .slice (some ⟨w.heap.size, 0, none⟩) 0 0, w.alloc (.cells #[] e), none, ?_, fun b e => by simp at e, by simp, rfl, rfl, fun b hb _ => heap_alloc_old w _ hb, ?_,
      fun b e => by simp [blkOf] at e; subst e; exact .inr (Nat.le_refl _), (upd_same _ _ _).symm⟩
    · have hrun : (Instr.buildSlice t 0 #[]).run P w = .ok (.slice (some ⟨w.heap.size, 0, none⟩) 0 0) (w.alloc (.cells #[] e)) := by
        unfold Instr.buildSlice
        rw [Sem.run_bind, run_underlying ht.und, Result.andThen]
        simp only [Sem.run_bind, run_sizeOf h1, Result.andThen_ok, Nat.zero_mul]
        have hz0 : ((Array.range 0).map fun _ => (default : Value)) = #[] := by simp
        simp [Instr.fill, newRow, hz0]
      simp only [execOp]
      simp [hrun]
    · exact ⟨fun ps hps => by simp at hps, h6, [], ⟨by simp, .inr ⟨w.heap.size, 0, #[], by simp, Nat.zero_le _, heap_alloc_new w _, by simp, by simp [maxLen], by simp, by simp⟩⟩, .nil⟩

/-! ## == on structs -/
structure EqAgg (P : Program) (t : TypeId) (ps qs : List CP) (r : Bool) : Prop where
  guard : P.eqGuardType P.depth t = false
  run : ∀ (h : PH) (cs ds : Array Value) (w : World), cellsRel h ps cs.toList → cellsRel h qs ds.toList → (Op.equalIn 10000 t (.agg cs) (.agg ds)).run P w = .ok r w
theorem op_eql_agg {ps qs : List CP} {r : Bool} (he : EqAgg P t ps qs r) (hx : s.ev x = some (.b (.agg ps))) (hy : s.ev y = some (.b (.agg qs))) : Op1 P E n ⟨dst, .binOp .eql t x y yt, ty, pos, after, g⟩ s (s.put n dst (B r)) :=
  Op1.val (o := ⟨dst, .binOp .eql t x y yt, ty, pos, after, g⟩) fun ac w h ρ hw hs => by
    obtain ⟨cs, hv, hr⟩ := (ev_rel hs hx : BV.rel h ρ (.agg ps) _)
    obtain ⟨ds, hv2, hr2⟩ := (ev_rel hs hy : BV.rel h ρ (.agg qs) _)
    refine ⟨.bool r, ?_, rfl⟩
    simp only [execOp, hv, hv2]
    simp [run_eqGuard_agg w _ _ _ _ _ _ he.guard, run_eql_struct, he.run h cs ds w hr hr2]
theorem op_neq_agg {ps qs : List CP} {r r' : Bool} (he : EqAgg P t ps qs r) (hx : s.ev x = some (.b (.agg ps))) (hy : s.ev y = some (.b (.agg qs))) (hr' : (!r) = r') : Op1 P E n ⟨dst, .binOp .neq t x y yt, ty, pos, after, g⟩ s (s.put n dst (B r')) :=
  Op1.val (o := ⟨dst, .binOp .neq t x y yt, ty, pos, after, g⟩) fun ac w h ρ hw hs => by
    obtain ⟨cs, hv, hr⟩ := (ev_rel hs hx : BV.rel h ρ (.agg ps) _)
    obtain ⟨ds, hv2, hr2⟩ := (ev_rel hs hy : BV.rel h ρ (.agg qs) _)
    refine ⟨.bool r', ?_, rfl⟩
    simp only [execOp, hv, hv2]
    simp [run_eqGuard_agg w _ _ _ _ _ _ he.guard, run_neq_struct, he.run h cs ds w hr hr2, hr']
/-- two cells of one basic type, compared -/
structure EqCell (P : Program) (t : TypeId) (p q : CP) (r : Bool) : Prop where
  one : TyOne P t
  run : ∀ (h : PH) (u v : Value) (w : World), p.rel h u → q.rel h v → (Op.equalIn 9999 t u v).run P w = .ok r w
theorem EqCell.int {k k' : IntKind} {a b : Int} (h1 : TyOne P t) (hu : P.underlying t = some (.int k')) : EqCell P t (.int k a) (.int k b) (decide (a = b)) :=
  ⟨h1, fun h u v w hp hq => by rw [hp.1, hq.1, run_equalIn_int w 9998 t k k' a b hu, int_beq]⟩
theorem EqCell.str {a b : Str} (h1 : TyOne P t) (hu : P.underlying t = some .string) : EqCell P t (.str a) (.str b) (decide (a = b)) :=
  ⟨h1, fun h u v w hp hq => by rw [hp.1, hq.1, run_equalIn_string w 9998 t _ _ hu, str_beq]⟩
theorem EqCell.bool {a b : Bool} (h1 : TyOne P t) (hu : P.underlying t = some .bool) : EqCell P t (.bool a) (.bool b) (a == b) :=
  ⟨h1, fun h u v w hp hq => by rw [show u = .bool a from hp, show v = .bool b from hq, run_equalIn_bool' w 9998 t a b hu]⟩
def EqCells (P : Program) (ps qs : List CP) : List Field → List Bool → Prop
  | [], [] => True
  | f :: fs, r :: rs => f.name ≠ "_" ∧ (∃ p q, ps[f.offset]? = some p ∧ qs[f.offset]? = some q ∧ EqCell P f.type p q r) ∧ EqCells P ps qs fs rs
  | _, _ => False
theorem eqFields_run {h : PH} {ps qs : List CP} {cs ds : Array Value} (hp : cellsRel h ps cs.toList) (hq : cellsRel h qs ds.toList) (w : World) : ∀ {fs : List Field} {rs : List Bool}, EqCells P ps qs fs rs → (Op.eqFields 9999 cs ds fs).run P w = .ok (rs.all id) w
  | [], [], _ => rfl
  | [], _ :: _, h => h.elim
  | _ :: _, [], h => h.elim
  | f :: fs, r :: rs, ⟨h1, ⟨p, q, hp', hq', he⟩, h3⟩ => by
    have ih := eqFields_run hp hq w h3
    obtain ⟨u, hu, hur⟩ := hp.get _ p hp'
    obtain ⟨v, hv, hvr⟩ := hq.get _ q hq'
    obtain ⟨d, hd, hag⟩ := he.one.und
    have hpart : ∀ {A : Array Value} {z : Value}, A.toList[f.offset]? = some z → (part f.type A f.offset).run P w = .ok z w := fun {A z} hz => by
      unfold part
      rw [Sem.run_bind, run_isAgg hd, Result.andThen, hag]
      have : A[f.offset]? = some z := by simpa using hz
      simp [this]
    unfold Op.eqFields
    rw [if_pos h1]
    rw [Sem.run_bind, hpart hu, Result.andThen, Sem.run_bind, hpart hv, Result.andThen, Sem.run_bind, he.run h u v w hur hvr, Result.andThen]
    cases r
    · simp
    · simpa using ih
theorem EqAgg.of {ps qs : List CP} {fs : Array Field} {rs : List Bool} {r : Bool} (hg : P.eqGuardType P.depth t = false) (hh : P.stoodInHeld t = false) (hu : P.underlying t = some (.struct fs)) (hc : EqCells P ps qs fs.toList rs) (hr : rs.all id = r) : EqAgg P t ps qs r := by
  have hf : P.fieldsOf t = fs := by simp [Program.fieldsOf, hu]
  exact ⟨hg, fun h cs ds w hp hq => by
    rw [run_equalIn_struct w 9999 t cs ds (by rw [hf]; exact hu) hh, hf, eqFields_run hp hq w hc, hr]⟩

/-! ## drawn regions, order by order -/
/-- which operations can come next -/
def readyL (l : List Oper) (listed : List Bool) : List Nat := Region.ready .any l.toArray listed.toArray
def NextAll (step : Nat → Prop) : List Nat → Prop
  | [] => True
  | i :: is => step i ∧ NextAll step is
theorem NextAll.mem {step : Nat → Prop} : ∀ {is : List Nat}, NextAll step is → ∀ i, i ∈ is → step i
  | [], _, i, hi => by simp at hi
  | j :: is, h, i, hi => by
    cases List.mem_cons.1 hi with
    | inl e => subst e; exact h.1
    | inr e => exact NextAll.mem h.2 i e
def chain (P : Program) {TB : Tabs} (E : Env TB) (n : Sh) (l : List Oper) (Q : Post) : Nat → List Bool → St → Prop
  | 0, listed, s => readyL l listed = [] ∧ Fin E n .normal s Q
  | f + 1, listed, s => readyL l listed ≠ [] ∧ ∀ i, i ∈ readyL l listed → ∃ o s', l[i]? = some o ∧ Step1 P E n l.toArray o s s' ∧ chain P E n l Q f (listed.set i true) s'
theorem chain.done {listed : List Bool} (hr : readyL l listed = []) (h : Fin E n .normal s Q) : chain P E n l Q 0 listed s := ⟨hr, h⟩
theorem chain.next {f : Nat} {listed : List Bool} (is : List Nat) (hr : readyL l listed = is) (hne : is ≠ []) (h : NextAll (fun i => ∃ o s', l[i]? = some o ∧ Step1 P E n l.toArray o s s' ∧ chain P E n l Q f (listed.set i true) s') is) : chain P E n l Q (f + 1) listed s :=
  ⟨by rw [hr]; exact hne, fun i hi => NextAll.mem h i (hr ▸ hi)⟩
theorem any_of_chain : ∀ (f : Nat) (listed : List Bool) (s : St), chain P E n l Q f listed s → ∀ a w, R E n s a w → ∀ m, wpAny P .any l.toArray Q (f + m) listed.toArray a w
  | 0, listed, s, h, a, w, hr, 0 => ⟨h.1, h.2 a w hr⟩
  | 0, listed, s, h, a, w, hr, m + 1 => by
    have hr0 : Region.ready .any l.toArray listed.toArray = [] := h.1
    rw [Nat.zero_add]
    exact ⟨fun _ => h.2 a w hr, fun i hi => by rw [hr0] at hi; simp at hi⟩
  | f + 1, listed, s, h, a, w, hr, m => by
    have e : f + 1 + m = (f + m) + 1 := by omega
    rw [e]
    refine ⟨fun h0 => absurd h0 h.1, fun i hi => ?_⟩
    obtain ⟨o, s', ho, hst, hch⟩ := h.2 i hi
    unfold wpOp
    have ho' : l.toArray[i]? = some o := by simpa using ho
    rw [ho']
    dsimp only
    have key := hst a w hr (wpAny P .any l.toArray Q (f + m) (listed.toArray.setIfInBounds i true)) Q (fun a' w' hr' => by
      have := any_of_chain f (listed.set i true) s' hch a' w' hr' m
      simpa using this)
    split
    · rename_i hw'
      simp only [hw', if_true] at key
      exact .inl key
    · rename_i hw'
      simp only [hw'] at key
      exact key
theorem Tri.regionE {id : Nat} {s₁ : St} (hm : P.follows .mixedOrders = true) (ks kos : List Nat) (hch : ∀ Q' : Post, Fin E n .normal s₁ Q' → chain P E n l Q' l.length (List.replicate l.length false) s)
    (hs : s₁.keep ks kos = s') (h : Fin E n .normal s' Q) : Tri P E n (.region id l.toArray true) s Q := by
  intro a w hr
  refine wp_region_any hm ?_
  have := any_of_chain (P := P) (Q := Q) l.length _ s (hch _ fun a w hr => h a w (hs ▸ hr.keep ks kos)) _ _ hr.drawn 0
  simpa using this
theorem Step1.toKeep (ks kos : List Nat) {s₂ : St} {o : Oper} (hs : s'.keep ks kos = s₂) (h : Step1 P E n ops o s s') : Step1 P E n ops o s s₂ := fun a w hr K Q hk => h a w hr K Q fun a' w' hr' => hk a' w' (hs ▸ hr'.keep ks kos)
/-! the same by a table of what has been done -/
abbrev Tab := List (List Bool × List Nat × St)
def lkT : Tab → List Bool → Option St
  | [], _ => none
  | (b, _, s) :: r, c => if b == c then some s else lkT r c
def TabOk (P : Program) {TB : Tabs} (E : Env TB) (n : Sh) (l : List Oper) (tab : Tab) : Tab → Prop
  | [] => True
  | (b, is, s) :: r => (readyL l b = is ∧ (is.isEmpty == b.all id) = true) ∧ NextAll (fun i => ∃ o s', l[i]? = some o ∧ lkT tab (b.set i true) = some s' ∧ Step1 P E n l.toArray o s s') is ∧ TabOk P E n l tab r
theorem TabOk.get {tab : Tab} : ∀ {r : Tab}, TabOk P E n l tab r → ∀ b s, lkT r b = some s → ∃ is, readyL l b = is ∧ (is.isEmpty == b.all id) = true ∧ NextAll (fun i => ∃ o s', l[i]? = some o ∧ lkT tab (b.set i true) = some s' ∧ Step1 P E n l.toArray o s s') is
  | [], _, b, s, h => by simp [lkT] at h
  | (c, is, s0) :: r, h, b, s, hb => by
    unfold lkT at hb
    split at hb
    · rename_i hc
      have hc' : c = b := by simpa using hc
      subst hc'
      cases hb
      exact ⟨is, h.1.1, h.1.2, h.2.1⟩
    · exact TabOk.get h.2.2 b s hb
theorem count_set : ∀ (b : List Bool) (i : Nat), b[i]? = some false → ((b.set i true).filter (!·)).length + 1 = (b.filter (!·)).length
  | [], i, h => by simp at h
  | c :: b, 0, h => by simp at h; subst h; simp
  | c :: b, i + 1, h => by
    have ih := count_set b i (by simpa using h)
    cases c <;> simp_all
theorem chain_of_tab {tab : Tab} {sf : St} (ht : TabOk P E n l tab tab) (hf : ∀ b s, lkT tab b = some s → b.all id = true → s = sf) (hfin : Fin E n .normal sf Q) : ∀ (m : Nat) (b : List Bool) (s : St), (b.filter (!·)).length = m → lkT tab b = some s → chain P E n l Q m b s := by
  intro m
  induction m with
  | zero =>
    intro b s hm hb
    obtain ⟨is, h1, h2, h3⟩ := ht.get b s hb
    have hall : b.all id = true := by
      rw [List.all_eq_true]
      intro x hx
      cases x with
      | true => rfl
      | false =>
        have : (false : Bool) ∈ b.filter (!·) := by simp [hx]
        rw [List.eq_nil_of_length_eq_zero hm] at this
        simp at this
    rw [hall] at h2
    have hnil : is = [] := by cases is <;> simp_all
    exact ⟨by rw [h1, hnil], by rw [hf b s hb hall]; exact hfin⟩
  | succ m ih =>
    intro b s hm hb
    obtain ⟨is, h1, h2, h3⟩ := ht.get b s hb
    refine ⟨?_, fun i hi => ?_⟩
    · rw [h1]
      intro hnil
      rw [hnil] at h2
      have hall : b.all id = true := by simpa using h2
      have : b.filter (!·) = [] := by
        rw [List.filter_eq_nil_iff]
        intro x hx
        have := List.all_eq_true.1 hall x hx
        simp at this; simp [this]
      rw [this] at hm; simp at hm
    · have hready := hi
      unfold readyL at hready
      rw [mem_ready] at hready
      obtain ⟨o, s', ho, hs', hst⟩ := NextAll.mem h3 i (h1 ▸ hi)
      have hbi : b[i]? = some false := by
        have h0 := hready.1
        simp only [Array.getD_eq_getD_getElem?] at h0
        cases hbi : b[i]? with
        | none => simp [hbi] at h0
        | some c => simp [hbi] at h0; rw [h0]
      have hc := count_set b i hbi
      exact ⟨o, s', ho, hst, ih _ s' (by omega) hs'⟩
theorem Tri.regionTF {rid : Nat} {sf : St} (hm : P.follows .mixedOrders = true) (tab : Tab) (ks kos : List Nat) (ht : TabOk P E n l tab tab) (h0 : lkT tab (List.replicate l.length false) = some s)
    (hf : ∀ b s, lkT tab b = some s → b.all id = true → s = sf) (hs : sf.keep ks kos = s') (h : Fin E n .normal s' Q) : Tri P E n (.region rid l.toArray true) s Q :=
  Tri.regionE (s₁ := sf) hm ks kos (fun _ hF => chain_of_tab ht hf hF l.length _ s (by simp) h0) hs h
theorem Tri.regionT {rid : Nat} {sf : St} {y : Code} (hm : P.follows .mixedOrders = true) (tab : Tab) (ks kos : List Nat) (ht : TabOk P E n l tab tab) (h0 : lkT tab (List.replicate l.length false) = some s)
    (hf : ∀ b s, lkT tab b = some s → b.all id = true → s = sf) (hs : sf.keep ks kos = s') (h : Tri P E n y s' Q) : Tri P E n (.region rid l.toArray true) s (Exit.then (y.wp P Q) Q) :=
  Tri.regionTF hm tab ks kos ht h0 hf hs (Fin.then h)
/-- the table's entry where all is done -/
def finOk (sf : St) : Tab → Prop
  | [] => True
  | (b, _, s) :: r => (if b.all id then s = sf else True) ∧ finOk sf r
theorem finOk_spec {sf : St} : ∀ {tab : Tab}, finOk sf tab → ∀ b s, lkT tab b = some s → b.all id = true → s = sf
  | [], _, b, s, h, _ => by simp [lkT] at h
  | (c, is, s0) :: r, h, b, s, hb, hall => by
    unfold lkT at hb
    split at hb
    · rename_i hc
      have hc' : c = b := by simpa using hc
      subst hc'
      cases hb
      have := h.1
      rw [hall] at this
      simpa using this
    · exact finOk_spec h.2 b s hb hall
end
end Go.Sk
namespace Go.Sk
open Go Go.BigFrame
section
variable {P : Program} {TB : Tabs} {E : Env TB} {n : Sh} {s s' : St} {dst : Option Nat} {t ty yt : TypeId} {pos : String} {after : Array Edge} {g : Option (Nat × Bool)} {x y c : Operand} {ops : Array Oper} {l : List Oper} {Q : Post} {cd : Code}
/-- a part of a row from lo on, of which nothing is said -/
theorem op_slice_row_any {k size bytes : Nat} {e T : TypeId} {zs : List CP} {es : List (List CP)} {lo : Operand} {kk : IntKind} {i : Int} (ht : TySl P t e size bytes zs) (h0 : 0 ≤ i) (h1 : i ≤ es.length) (hx : s.ev x = some (.b (.row k))) (hk : lk s.own k = some (.row T size es)) (hy : s.ev lo = some (.b (.one (.int kk i)))) :
    Op1 P E n ⟨dst, .slice t x (some lo) none none, ty, pos, after, g⟩ s (s.put n dst (.b (.one .any))) :=
  Op1.val (o := ⟨dst, .slice t x (some lo) none none, ty, pos, after, g⟩) fun ac w h ρ hw hs => by
    have hv : ac.eval x = ρ k := (ev_rel hs hx : BV.rel h ρ (.row k) _)
    obtain ⟨_, _, hf⟩ := row_form hw hk
    obtain ⟨inf, z, hi, hsz, _⟩ := ht.info
    have hel : P.elem t = e := by simp [Program.elem, ht.und]
    have hund : P.underlying t = some (.slice (P.elem t)) := by rw [hel]; exact ht.und
    have hform : ∃ ad cap, ρ k = .slice ad es.length cap := by
      rcases hf with ⟨hr, he⟩ | ⟨b, cap, cur, hr, _⟩
      · exact ⟨none, 0, by rw [he]; exact hr⟩
      · exact ⟨_, cap, hr⟩
    obtain ⟨ad, cap, hρ⟩ := hform
    have hb := run_slice_l (P := P) (w := w) (t := t) (a := ad) (len := es.length) (cap := cap) hund kk i h0 h1
    refine ⟨sliced ad i.toNat es.length cap size, ?_, rfl⟩
    simp only [execOp, hv, hρ, Option.map_some, Option.map_none, (ev_int hs hy).1]
    rw [Sem.run_bind, run_sliceAt_slice w t _ _ _ _ hund, hb, run_sizeOf (i := inf) (by rw [hel]; exact hi), hsz]
    rfl
end
end Go.Sk
namespace Go.Sk
open Go
end Go.Sk
namespace Go.Sk
open Go Go.BigFrame
section
variable {P : Program} {TB : Tabs} {E : Env TB} {n : Sh} {s s' : St} {dst : Option Nat} {t ty yt : TypeId} {pos : String} {after : Array Edge} {g : Option (Nat × Bool)} {x y c : Operand} {ops : Array Oper} {l : List Oper} {Q : Post} {cd : Code}
theorem WR.allocP {h : PH} {ρ : RM} {own : List (Nat × OC)} {w : World} (hw : WR E n own h ρ w) (cs : Array Value) (T : TypeId) : h.le (addRow h w.heap.size cs.toList) ∧ WR E n own (addRow h w.heap.size cs.toList) ρ (w.alloc (.cells cs T)) := by
  have hnone : ∀ o, h w.heap.size o = none := fun o => by
    cases e : h w.heap.size o with
    | none => rfl
    | some u => have := lt_of_cell (hw.agree _ o u e); omega
  have hle : h.le (addRow h w.heap.size cs.toList) := fun b o v hv => by
    unfold addRow
    split
    · rename_i e; subst e; rw [hnone o] at hv; simp at hv
    · exact hv
  have hold : ∀ b, b < w.heap.size → (w.alloc (.cells cs T)).heap[b]? = w.heap[b]? := fun b hb => heap_alloc_old w _ hb
  refine ⟨hle, ?_, PH.le_trans hw.le hle, ?_, by have := hw.size; simp; omega, ?_, hw.fixed, hw.os, hw.out, hw.nl, ?_⟩
  · intro b o v hv
    unfold addRow at hv
    split at hv
    · rename_i e; subst e
      rw [cell_row (heap_alloc_new w _)]
      simpa using hv
    · have hc := hw.agree b o v hv
      rw [cell_of_heap (hold b (lt_of_cell hc))]; exact hc
  · intro b hb hnl
    rw [← hw.fresh b hb hnl]
    funext o
    unfold addRow
    rw [if_neg (by have := hw.size; omega)]
  · intro b hb hl
    rw [hold b (Nat.lt_of_lt_of_le hb hw.size)]; exact hw.same b hb hl
  · intro j c hj
    obtain ⟨e1, e2, e3⟩ := hw.owned j c hj
    refine ⟨(e1.congr fun b hb => hold b (e1.lt hb)).mono hle, fun b hb => ⟨(e2 b hb).1, fun o => ?_⟩, e3⟩
    have := e1.lt hb
    unfold addRow
    rw [if_neg (by omega)]
    exact (e2 b hb).2 o
/-- a literal slice, only read from here on -/
theorem op_buildSliceP {e len size bytes : Nat} {zs : List CP} {es : List (List CP)} {parts : Array (Nat × Operand)} {cps : List (Nat × List CP)} (ht : TySl P t e size bytes zs) (hp : evParts s parts.toList = some cps)
    (hf : cfill (fun i => some (i * size, size)) ((List.range (len * size)).map fun i => zs.getD (i % size) .any) cps = some es.flatten) (hu : Uniform size es) (hl : es.length = len) (h0 : 0 < len * size) (h24 : len * size ≤ 16777216) :
    Op1 P E n ⟨dst, .buildSlice t len parts, ty, pos, after, g⟩ s (s.put n dst (.b (.one (.sl size es)))) := by
  intro a w ⟨hdf, hn, h, ρ, hw, hs⟩ next Q hnext
  obtain ⟨i, z, h1, h2, h3, h4, h5, h6, h7⟩ := ht.info
  have hzr := cvs_rel h h7
  have hzl : zs.length = size := by rw [hzr.length]; simpa using h5
  have hzeros := zeros_rel hzr (by omega) (len * size)
  rw [hzl] at hzeros
  have hzc : ((Array.range (len * size)).map (z.cells[· % z.cells.size]!)).toList = (List.range (len * size)).map fun i => z.cells.toList[i % z.cells.toList.length]! := by
    rw [Array.toList_map, Array.toList_range]
    refine List.map_congr_left fun j _ => ?_
    rw [List.getElem!_eq_getElem?_getD, Array.getElem!_eq_getD]
    simp [Array.getD_eq_getD_getElem?]
  obtain ⟨cs, hc1, hc2⟩ := fill_rel hs (fun i => some (i * size, size)) parts.toList cps _ es.flatten ((Array.range (len * size)).map (z.cells[· % z.cells.size]!)) hp hf (by rw [hzc]; exact hzeros)
  have hne : ¬ len * size = 0 := by omega
  have hrun : (Instr.buildSlice t len (parts.map fun (i, x) => (i, a.eval x))).run P w = .ok (.slice (some ⟨w.heap.size, 0, none⟩) len len) (w.alloc (.cells cs e)) := by
    have hmap : (parts.map fun x => (x.1, a.eval x.2)).toList = parts.toList.map fun p => (p.1, a.eval p.2) := by simp
    unfold Instr.buildSlice
    rw [Sem.run_bind, run_underlying ht.und, Result.andThen]
    simp only [Sem.run_bind, run_sizeOf h1, h2, Result.andThen_ok]
    rw [if_neg (by omega), if_neg hne]
    simp [zeroValue, typeInfo, h1, h4, hc1, newRow]
  have hrun' : (execOp a.eval ⟨dst, .buildSlice t len parts, ty, pos, after, g⟩).run P w = .ok (.value (.slice (some ⟨w.heap.size, 0, none⟩) len len)) (w.alloc (.cells cs e)) := by
    simp only [execOp]
    simp [hrun]
  unfold Oper.wp
  rw [hrun']
  obtain ⟨hle, hwp⟩ := hw.allocP cs e
  refine hnext _ _ (R.put (s := s) hdf hn hwp (hs.mono hle) ?_)
  refine ⟨hu, h6, .inr ⟨w.heap.size, 0, len, by rw [hl], by omega, ?_, fun j c hc => ?_⟩⟩
  · have : len ≤ len * size := Nat.le_mul_of_pos_right _ h6
    rw [maxLen_eq]; omega
  · obtain ⟨u, hu', hr⟩ := hc2.get j c hc
    exact ⟨u, by simp only [addRow, if_true, Nat.zero_add]; exact hu', c.mono hle hr⟩
/-- a contract whose result is a row: the row, only read from here on -/
theorem Meets.pers {f : FuncId} {args : List BV} {T : TypeId} {size : Nat} {es : List (List CP)} (h : Meets P TB f [] args (Is [(0, .row T size es)] (.b (.row 0)))) : Meets P TB f [] args (Is [] (.b (.one (.sl size es)))) := by
  intro w hh ρ vals tb hag hl hargs
  refine (h w hh ρ vals tb hag hl hargs).mono ?_
  rintro e w' ⟨v, own', res, h', ρ', rfl, ⟨rfl, rfl⟩, hw, hres⟩
  have hR : R ⟨w, hh, ρ, tb⟩ ⟨1, boxKeys [], keysOf []⟩ ⟨[(0, .b (.row 0))], [(0, .row T size es)]⟩ ⟨#[v], []⟩ w' := ⟨rfl, rfl, h', ρ', WR.sh (n := ⟨0, boxKeys [], keysOf []⟩) (n' := ⟨1, boxKeys [], keysOf []⟩) rfl rfl hw, fun k x hx => by
    simp only [List.mem_singleton, Prod.mk.injEq] at hx
    obtain ⟨rfl, rfl⟩ := hx
    exact ⟨v, by simp, hres⟩⟩
  obtain ⟨_, _, h'', ρ'', hw'', hs''⟩ := hR.persist (k := 0) rfl
  obtain ⟨u, hu, hur⟩ := hs'' 0 (.b (.one (.sl size es))) (by simp [persS, SV.pers, BV.pers])
  have huv : u = v := by simpa using hu.symm
  subst huv
  exact ⟨u, [], _, h'', ρ'', rfl, ⟨rfl, rfl⟩, WR.sh (n := ⟨1, boxKeys [], keysOf []⟩) (n' := ⟨0, boxKeys [], keysOf []⟩) rfl rfl (hw''.sub (own' := []) (by simp)), hur⟩
theorem Meets.persG {f : FuncId} {args : List BV} {T : TypeId} {size : Nat} {es : List (List CP)} {res : SV} (h : Meets P TB f [] args (Is [(0, .row T size es)] res)) : Meets P TB f [] args (Is [] (res.pers 0 (.sl size es))) := by
  intro w hh ρ vals tb hag hl hargs
  refine (h w hh ρ vals tb hag hl hargs).mono ?_
  rintro e w' ⟨v, own', res, h', ρ', rfl, ⟨rfl, rfl⟩, hw, hres⟩
  have hR : R ⟨w, hh, ρ, tb⟩ ⟨1, boxKeys [], keysOf []⟩ ⟨[(0, res)], [(0, .row T size es)]⟩ ⟨#[v], []⟩ w' := ⟨rfl, rfl, h', ρ', WR.sh (n := ⟨0, boxKeys [], keysOf []⟩) (n' := ⟨1, boxKeys [], keysOf []⟩) rfl rfl hw, fun k x hx => by
    simp only [List.mem_singleton, Prod.mk.injEq] at hx
    obtain ⟨rfl, rfl⟩ := hx
    exact ⟨v, by simp, hres⟩⟩
  obtain ⟨_, _, h'', ρ'', hw'', hs''⟩ := hR.persist (k := 0) rfl
  obtain ⟨u, hu, hur⟩ := hs'' 0 (res.pers 0 (.sl size es)) (by simp [persS])
  have huv : u = v := by simpa using hu.symm
  subst huv
  exact ⟨u, [], _, h'', ρ'', rfl, ⟨rfl, rfl⟩, WR.sh (n := ⟨1, boxKeys [], keysOf []⟩) (n' := ⟨0, boxKeys [], keysOf []⟩) rfl rfl (hw''.sub (own' := []) (by simp)), hur⟩
end
theorem all_step {p : Int → Prop} {k : Int} (h : ∀ j, 0 ≤ j → j < k → p j) (hk : p k) : ∀ j, 0 ≤ j → j < k + 1 → p j := fun j h0 h1 => by
  by_cases e : j = k
  · subst e; exact hk
  · exact h j h0 (by omega)
end Go.Sk

/- The framework, part K: min, max; nil as an argument. -/
namespace Go.Sk
set_option linter.unusedSimpArgs false
set_option linter.unusedVariables false
open Go Go.BigFrame
section
variable {P : Program} {TB : Tabs} {E : Env TB} {n : Sh} {s : St} {dst : Option Nat} {t ty yt : TypeId} {pos : String} {after : Array Edge} {g : Option (Nat × Bool)} {x y c : Operand} {k : IntKind} {a b : Int} {ats : Array TypeId}
theorem op_min (hx : s.ev x = some (.b (.one (.int k a)))) (hy : s.ev y = some (.b (.one (.int k b)))) :
    Op1 P E n ⟨dst, .call ⟨.builtin .min, #[x, y], ats⟩, ty, pos, after, g⟩ s (s.put n dst (.b (.one (.int k (min a b))))) :=
  Op1.val (o := ⟨dst, .call ⟨.builtin .min, #[x, y], ats⟩, ty, pos, after, g⟩) fun ac w h ρ hw hs => by
    have h1 := ev_int hs hx
    have h2 := ev_int hs hy
    refine ⟨.int k (min a b), ?_, rfl, ?_⟩
    · rw [execOp_builtin]
      show Sem.run _ _ _ = _
      simp only [builtin, Builtin.min_, List.map_toArray, List.map_cons, List.map_nil, h1.1, h2.1, List.foldlM_cons, List.foldlM_nil, Builtin.min2]
      have : (if b < a then b else a) = min a b := by rw [Int.min_def]; split <;> split <;> omega
      rw [this]; rfl
    · rw [Int.min_def]; split
      · exact h1.2
      · exact h2.2
theorem op_max (hx : s.ev x = some (.b (.one (.int k a)))) (hy : s.ev y = some (.b (.one (.int k b)))) :
    Op1 P E n ⟨dst, .call ⟨.builtin .max, #[x, y], ats⟩, ty, pos, after, g⟩ s (s.put n dst (.b (.one (.int k (max a b))))) :=
  Op1.val (o := ⟨dst, .call ⟨.builtin .max, #[x, y], ats⟩, ty, pos, after, g⟩) fun ac w h ρ hw hs => by
    have h1 := ev_int hs hx
    have h2 := ev_int hs hy
    refine ⟨.int k (max a b), ?_, rfl, ?_⟩
    · rw [execOp_builtin]
      show Sem.run _ _ _ = _
      simp only [builtin, Builtin.max_, List.map_toArray, List.map_cons, List.map_nil, h1.1, h2.1, List.foldlM_cons, List.foldlM_nil, Builtin.max2]
      have : (if b > a then b else a) = max a b := by rw [Int.max_def]; split <;> split <;> omega
      rw [this]; rfl
    · rw [Int.max_def]; split
      · exact h2.2
      · exact h1.2
/-- nil where a slice that is only read is wanted -/
theorem Meets.nil0 {f : FuncId} {own : List (Nat × OC)} {as : List BV} {post : SPost} {size : Nat} (hz : 0 < size) (h : Meets P TB f own (.one (.sl size []) :: as) post) : Meets P TB f own (.one .nil :: as) post := by
  intro w hh ρ vals tb hag hl hargs
  refine h w hh ρ vals tb hag hl ?_
  cases hargs with
  | cons h1 h2 => exact .cons ⟨fun ps hps => by simp at hps, hz, .inl ⟨h1.1, rfl⟩⟩ h2
end
end Go.Sk

/- The framework, part L: from what a statement reads to what a walk knows, and back. -/
namespace Go.Sk
set_option linter.unusedSimpArgs false
set_option linter.unusedVariables false
open Go Go.ChangeShapes Go.WideShapes Go.ChangeAt Go.RowKit Go.Deep

theorem agree_full (W : World) : Agree (full W) W := fun _ _ _ h => h

/-- how a type's values are read as plain data -/
structure TyRead (P : Program) (t : TypeId) {α : Type} (e : α → List CP) : Prop where
  len : ∀ a, (e a).length = P.cellsOf t
  op : ∀ {H : Type} {enc : TypeId × Value → H} {W : World} {sp : Nat → Bool} {held : Bool} {fuel : Nat} {cs : List Value} {x : DataW H × List MemPlace}, DataW.trod enc P W 0 sp held fuel t cs = some x → ∃ a, cellsRel (full W) (e a) cs

theorem inR_of_wf {k : IntKind} {n : Int} (h : (Lit.int k n).wf = true) : inR k n := by
  simp only [Lit.wf, Bool.and_eq_true, decide_eq_true_eq] at h
  exact h
theorem TyRead.int {P : Program} {t : TypeId} {k : IntKind} (ht : P.underlying t = some (.int k)) (hc : P.cellsOf t = 1) : TyRead P t (fun x : Int => [.int k x]) where
  len _ := by simp [hc]
  op h := by
    obtain ⟨n, rfl, _, hw⟩ := DataW.trod_int ht h
    exact ⟨n, .cons ⟨rfl, inR_of_wf hw⟩ .nil⟩
theorem TyRead.bool {P : Program} {t : TypeId} (ht : P.underlying t = some .bool) (hc : P.cellsOf t = 1) : TyRead P t eB where
  len _ := by simp [hc, eB]
  op h := by
    obtain ⟨n, rfl, _⟩ := DataW.trod_bool ht h
    exact ⟨n, .cons rfl .nil⟩
theorem TyRead.str {P : Program} {t : TypeId} (ht : P.underlying t = some .string) (hc : P.cellsOf t = 1) : TyRead P t eS where
  len _ := by simp [hc, eS]
  op h := by
    obtain ⟨s, rfl, _, hs⟩ := DataW.trod_string ht h
    refine ⟨s.data.toList, .cons ⟨?_, ?_⟩ .nil⟩
    · cases s with | mk d => cases d; rfl
    · simpa using hs

/-- the fields from the i-th on, of a struct of T cells -/
inductive TyFlds (P : Program) (fs : Array Field) (T : Nat) : Nat → Nat → {β : Type} → (β → List CP) → Prop where
  | nil {i : Nat} (hi : fs.size ≤ i) : TyFlds P fs T i T (fun _ : Unit => [])
  | cons {i o : Nat} {α β : Type} {e : α → List CP} {es : β → List CP} {f : Field} (hf : fs[i]? = some f) (ho : f.offset = o) (hr : TyRead P f.type e) (h : TyFlds P fs T (i + 1) (o + P.cellsOf f.type) es) : TyFlds P fs T i o (fun x : α × β => e x.1 ++ es x.2)
theorem TyFlds.len {P : Program} {fs : Array Field} {T i o : Nat} {β : Type} {es : β → List CP} (h : TyFlds P fs T i o es) : ∀ b, o + (es b).length = T := by
  induction h with
  | nil hi => intro b; simp
  | cons hf ho hr h ih => intro b; have := ih b.2; have h2 := hr.len b.1; simp only [List.length_append]; omega
theorem TyFlds.op {P : Program} {fs : Array Field} {T i o : Nat} {β : Type} {es : β → List CP} (h : TyFlds P fs T i o es) {H : Type} {enc : TypeId × Value → H} {W : World} {sp : Nat → Bool} {held : Bool} {n : Nat} {cs : List Value} {xs : List (DataW H × List MemPlace)} (hl : cs.length = T)
    (hx : xs.length = fs.size) (hv : ∀ (j : Nat) (f : Field), fs[j]? = some f → DataW.trod enc P W 0 sp held n f.type ((cs.drop f.offset).take (P.cellsOf f.type)) = xs[j]?) : ∃ b, cellsRel (full W) (es b) (cs.drop o) := by
  induction h with
  | nil hi => exact ⟨(), by rw [List.drop_of_length_le (by omega)]; exact .nil⟩
  | @cons i o α β e es f hf ho hr h ih =>
    obtain ⟨b, hb⟩ := ih
    have hi : i < xs.length := by
      rw [hx]
      exact (Array.getElem?_eq_some_iff.1 hf).1
    have h1 := hv i f hf
    rw [List.getElem?_eq_getElem hi] at h1
    obtain ⟨a, ha⟩ := hr.op h1
    refine ⟨(a, b), ?_⟩
    have e1 : cs.drop o = (cs.drop o).take (P.cellsOf f.type) ++ cs.drop (o + P.cellsOf f.type) := by
      rw [← List.drop_drop, List.take_append_drop]
    rw [e1]
    subst ho
    exact All2.append ha hb
theorem TyRead.struct {P : Program} {t : TypeId} {fs : Array Field} {α β : Type} {e : α → List CP} {es : β → List CP} (g : β → α) (ht : P.underlying t = some (.struct fs)) (h : TyFlds P fs (P.cellsOf t) 0 0 es) (hl : ∀ a, (e a).length = P.cellsOf t) (he : ∀ b, e (g b) = es b) : TyRead P t e where
  len := hl
  op hh := by
    obtain ⟨xs, n, _, _, hcl, hxl, hv⟩ := DataW.trod_struct ht hh
    obtain ⟨b, hb⟩ := h.op hcl hxl hv
    exact ⟨g b, by rw [he]; exact hb⟩

/-! ## arguments -/
theorem add_none (b o n : Nat) : (⟨b, o, none⟩ : Addr).add n = ⟨b, o + n, none⟩ := by
  unfold Addr.add
  split
  · simp_all
  · rfl
theorem okWide_cells_slice {P : Program} {W : World} {base : Nat} {t e : TypeId} {v : Value} (ht : P.underlying t = some (.slice e)) (hv : Value.okWide P W .any base t v) :
    v = .slice none 0 0 ∨ ∃ b o len cap, v = .slice (some ⟨b, o, none⟩) len cap := by
  simp only [Value.okWide, ht, Cell.okWide] at hv
  cases v <;> simp_all [Cell.ok]
  rename_i a len cap
  cases a with
  | none =>
    left
    cases len with
    | zero => cases cap with
      | zero => simp
      | succ _ => simp at hv
    | succ _ => simp at hv
  | some a =>
    right
    cases a with
    | mk b o s =>
      simp only [World.has] at hv
      exact ⟨b, o, by simpa using hv.2.2.2.1⟩
theorem forall_choose {α : Type} {p : Nat → α → Prop} : ∀ (n : Nat), (∀ i, i < n → ∃ a, p i a) → ∃ l : List α, l.length = n ∧ ∀ (i : Nat) a, l[i]? = some a → p i a
  | 0, _ => ⟨[], rfl, fun i a h => by simp at h⟩
  | n + 1, h => by
    obtain ⟨l, hl, hp⟩ := forall_choose n fun i hi => h i (by omega)
    obtain ⟨a, ha⟩ := h n (by omega)
    refine ⟨l ++ [a], by simp [hl], fun i b hb => ?_⟩
    by_cases hi : i < n
    · rw [List.getElem?_append_left (by omega)] at hb; exact hp i b hb
    · have hi2 : i < (l ++ [a]).length := (List.getElem?_eq_some_iff.1 hb).1
      have e : i = n := by simp [hl] at hi2; omega
      subst e
      rw [List.getElem?_append_right (by omega)] at hb
      simp [hl] at hb
      subst hb; exact ha
/-- what the reading of a slice says: so many elements -/
def lenIs {H : Type} (d : DataW H) (n : Nat) : Prop := (d = .nil ∧ n = 0) ∨ ∃ els spare, d = .slice els spare ∧ els.length = n
theorem open_sl {P : Program} {H : Type} {enc : TypeId × Value → H} {W : World} {base : Nat} {sp : Nat → Bool} {held : Bool} {t el : TypeId} {α : Type} {e : α → List CP} {v : Value} {d : DataW H} {ps : List MemPlace} (ht : P.underlying t = some (.slice el)) (hr : TyRead P el e) {size : Nat} (hs : P.cellsOf el = size) (hpos : 0 < size)
    (hval : Value.okWide P W .any base t v) (h : DataW.Trod enc P W 0 sp held t v d ps) : ∃ l : List α, (CP.sl size (l.map e)).rel (full W) v ∧ lenIs d l.length := by
  obtain ⟨fuel, hf⟩ := h
  subst hs
  have hu : ∀ l : List α, Uniform (P.cellsOf el) (l.map e) := fun l => uni_map fun x => hr.len x
  have hc : v.cells.toList = [v] := by
    rcases okWide_cells_slice ht hval with rfl | ⟨b, o, len, cap, rfl⟩ <;> rfl
  rw [hc] at hf
  rcases open_slice ht hf with ⟨h1, hx0⟩ | ⟨a, len, cap, m, n, D, Pl, h1, hb, hl, hm, hmm, hx, hi⟩
  · simp at h1
    exact ⟨[], ⟨hu [], hpos, .inl ⟨h1, rfl⟩⟩, .inl ⟨congrArg Prod.fst hx0, rfl⟩⟩
  · simp at h1
    subst h1
    have hlm : len ≤ m := by rw [hmm]; split <;> omega
    obtain ⟨l, hll, hp⟩ := forall_choose (p := fun i a' => cellsRel (full W) (e a') ((W.cells? 0 (a.add (i * P.cellsOf el)) (P.cellsOf el)).getD [])) len fun i hil => by
      obtain ⟨cs', h2, h3⟩ := hi i (by omega)
      obtain ⟨a', ha'⟩ := hr.op h3
      exact ⟨a', by rw [h2]; exact ha'⟩
    rcases okWide_cells_slice ht hval with h0 | ⟨b, o, len', cap', h0⟩
    · simp at h0
    · simp only [Value.slice.injEq, Option.some.injEq] at h0
      obtain ⟨rfl, rfl, rfl⟩ := h0
      refine ⟨l, ⟨hu l, hpos, .inr ⟨b, o, cap, by simp [hll], by simp [hll]; omega, hm, ?_⟩⟩, .inr ⟨_, _, congrArg Prod.fst hx, by simp [hll]⟩⟩
      intro j c hj
      have hjl : j < (l.map e).flatten.length := (List.getElem?_eq_some_iff.1 hj).1
      rw [flatten_len (hu l), List.length_map, hll] at hjl
      have hi' : j / P.cellsOf el < len := by
        rw [Nat.div_lt_iff_lt_mul hpos]; exact hjl
      have hj' : j % P.cellsOf el < P.cellsOf el := Nat.mod_lt _ hpos
      have hdm := Nat.div_add_mod j (P.cellsOf el)
      obtain ⟨cs', h2, h3⟩ := hi (j / P.cellsOf el) (by omega)
      have hli : l[j / P.cellsOf el]? = some (l[j / P.cellsOf el]'(by omega)) := List.getElem?_eq_getElem (by omega)
      have hrel := hp _ _ hli
      rw [h2] at hrel
      have hget := flatten_get (hu l) (j / P.cellsOf el) (e (l[j / P.cellsOf el]'(by omega))) (by rw [List.getElem?_map, hli]; rfl) (j % P.cellsOf el) hj'
      have ej : j / P.cellsOf el * P.cellsOf el + j % P.cellsOf el = j := by rw [Nat.mul_comm]; omega
      rw [ej, hj] at hget
      obtain ⟨u, hu1, hu2⟩ := All2.get hrel _ _ hget.symm
      refine ⟨u, ?_, hu2⟩
      obtain ⟨_, hcl, hcell⟩ := World.cells?_some h2
      have := hcell _ hj'
      simp only [Option.getD_some] at hu1
      have ea : ((⟨b, o, none⟩ : Addr).add (j / P.cellsOf el * P.cellsOf el)).add (j % P.cellsOf el) = ⟨b, o + j, none⟩ := by
        rw [add_none, add_none, Nat.add_assoc, ej]
      rw [hu1, ea] at this
      exact this
theorem open_int1 {P : Program} {W : World} {base : Nat} {t : TypeId} {k : IntKind} {v : Value} (ht : P.underlying t = some (.int k)) (hval : Value.okWide P W .any base t v) : ∃ n, (CP.int k n).rel (full W) v := by
  simp only [Value.okWide, ht, Cell.okWide] at hval
  cases v <;> simp_all [Cell.ok]
  exact ⟨_, rfl, hval.2⟩
theorem open_bool1 {P : Program} {W : World} {base : Nat} {t : TypeId} {v : Value} (ht : P.underlying t = some .bool) (hval : Value.okWide P W .any base t v) : ∃ b, (CP.bool b).rel (full W) v := by
  obtain ⟨b, rfl⟩ := okWide_bool ht hval
  exact ⟨b, rfl⟩
theorem open_str1 {P : Program} {W : World} {base : Nat} {t : TypeId} {v : Value} (ht : P.underlying t = some .string) (hval : Value.okWide P W .any base t v) : ∃ s, (CP.str s).rel (full W) v := by
  obtain ⟨s, rfl⟩ := okWide_string ht hval
  simp only [Value.okWide, ht, Cell.okWide, Cell.ok] at hval
  have h2 : IntKind.i64.max = 9223372036854775807 := rfl
  rw [h2] at hval
  refine ⟨s.data.toList, by cases s with | mk d => cases d; rfl, ?_⟩
  rw [maxLen_eq]
  have : s.size = s.data.toList.length := by rw [Array.length_toList]; rfl
  omega
theorem open_agg1 {P : Program} {H : Type} {enc : TypeId × Value → H} {W : World} {base : Nat} {sp : Nat → Bool} {held : Bool} {t : TypeId} {fs : Array Field} {α : Type} {e : α → List CP} {v : Value} {d : DataW H} {ps : List MemPlace} (ht : P.underlying t = some (.struct fs)) (hr : TyRead P t e)
    (hval : Value.okWide P W .any base t v) (h : DataW.Trod enc P W 0 sp held t v d ps) : ∃ a, ∃ cs, v = .agg cs ∧ cellsRel (full W) (e a) cs.toList := by
  obtain ⟨fuel, hf⟩ := h
  obtain ⟨cs, rfl, _⟩ := okWide_struct ht hval
  obtain ⟨a, ha⟩ := hr.op hf
  exact ⟨a, cs, rfl, ha⟩

/-! ## the end -/
/-- nothing that was there is changed -/
structure Kept (W W' : World) : Prop where
  os : W'.os = W.os
  out : W'.output = W.output
  heap : ∀ b, b < W.heap.size → W'.heap[b]? = W.heap[b]?
theorem Kept.same {W W' : World} (h : Kept W W') {p : MemPlace} (hp : p.block < W.heap.size) : W.sameAt W' p := by
  have := h.heap _ hp
  cases p with
  | cell b o => simp only [MemPlace.block] at this; simp [World.sameAt, World.cell?, this]
  | map b => simp only [MemPlace.block] at this; simp [World.sameAt, this]
theorem Kept.keptBut {W W' : World} (h : Kept W W') (may : MemPlace → Prop) : W.keptBut W' may := by
  refine ⟨h.os, h.out, fun i hi => ?_⟩
  rw [h.heap i hi]
  cases W.heap[i]? with
  | none => rfl
  | some o => cases o with
    | cells c t fr => exact ⟨rfl, rfl, rfl, fun _ _ => rfl⟩
    | map es c => exact .inr ⟨rfl, rfl⟩
    | _ => rfl
theorem trodAll_carry {P : Program} {H : Type} {enc : TypeId × Value → H} {W W' : World} {base : Nat} {sp : Nat → Bool} {held : Bool} : ∀ {ts : List TypeId} {vs : List Value} {ds : List (DataW H)} {ps : List MemPlace}, DataW.TrodAll enc P W base sp held ts vs ds ps → (∀ p ∈ ps, W.sameAt W' p) → DataW.TrodAll enc P W' base sp held ts vs ds ps
  | [], [], [], _, h, _ => h
  | _ :: _, _ :: _, _ :: _, _, ⟨p, q, ⟨n, h1⟩, h2, e⟩, hs => ⟨p, q, ⟨n, DataW.trod_carry n _ _ _ h1 fun x hx => hs x (by rw [e]; exact List.mem_append_left _ hx)⟩, trodAll_carry h2 (fun x hx => hs x (by rw [e]; exact List.mem_append_right _ hx)), e⟩
theorem post_of_kept {P : Program} {H : Type} {enc : TypeId × Value → H} {f : Func} {s : ChangeSpec} {apart fresh handsOn again : Bool} {W W' : World} {args : Array Value} {v : Value} {ds gs : List (DataW H)} {before : List MemPlace}
    {T : TypeId → Prop} (K : Kids P T) (hz : ∀ t e, T t → P.underlying t = some (.slice e) → 0 < P.cellsOf e) (hT : ∀ t ∈ f.params.toList, T t)
    (hW : DataW.Whole enc P f.params.toList s.vars apart W args.toList ds gs before) (hv0 : s.vars = [])
    (ha : (s.fn H (ds ++ gs)).args = ds) (hvv : (s.fn H (ds ++ gs)).vars = []) (hk : Kept W W')
    (hres : ∀ (b : Nat) (sp : Nat → Bool) (hd : Bool), DataW.TrodAll enc P W' b sp hd f.resultTypes.toList (v.resultList f.resultTypes.size) (s.fn H (ds ++ gs)).results [])
    (hok : ∀ (j : Nat) (t : TypeId) (r : Value), f.resultTypes[j]? = some t → (v.resultList f.resultTypes.size)[j]? = some r → Value.okWide P W' .any 0 t r) :
    s.post enc P f apart fresh handsOn again W args v W' := by
  have hlt := hW.lt
  have hW2 := hW
  obtain ⟨p, q, h1, h2, rfl, hz2, hn⟩ := hW2
  rw [hv0] at h2
  obtain ⟨_, rfl⟩ := trodVars_none h2
  simp only [List.append_nil] at *
  have hcarry : DataW.TrodAll enc P W' 0 (fun _ => true) true f.params.toList args.toList ds p := trodAll_carry h1 fun x hx => hk.same (hlt x hx)
  have hargs : ∀ sp : Nat → Bool, (∀ x ∈ p, sp x.block = true) → DataW.TrodAll enc P W' 0 sp true f.params.toList args.toList (s.fn H (ds ++ gs)).args p := fun sp hsp => by
    rw [ha]; exact hcarry.respare K hz hT hsp
  have hvars : ∀ sp : Nat → Bool, DataW.TrodVars enc P W' sp s.vars (s.fn H (ds ++ gs)).vars [] := fun sp => by
    rw [hv0, hvv]; rfl
  have hold : ∀ x ∈ p, (fun b => decide (b < W.heap.size)) x.block = true := fun x hx => by simpa using hlt x hx
  refine ⟨ds, gs, p, [], p, [], hW, hres _ _ _, hargs _ hold, hvars _, hk.keptBut _, fun _ => ?_⟩
  refine ⟨hok, _, _, ([] ++ p) ++ [], ⟨[] ++ p, [], trodAll_append (hargs _ (fun _ _ => rfl)) (hres _ _ _), hvars _, rfl, ?_, ?_⟩, ?_⟩
  · intro b off hp
    have hb : b < W.heap.size := hlt (.cell b off) (by simpa using hp)
    have e : W'.frozen? ⟨b, off, none⟩ = W.frozen? ⟨b, off, none⟩ := by simp only [World.frozen?, hk.heap b hb]
    rw [e]
    exact hz2 b off (by simpa using hp)
  · intro ha
    simpa using hn ha
  · intro x hx _
    simpa using hx
/-- a law's end: the contract says 'true', and all that was there is as it was -/
theorem law_end {P : Program} {TB : Tabs} {f : FuncId} {args : List BV} {vals : List Value} {W : World} {Q : Ending → World → Prop} (hm : Meets P TB f [] args (Is [] (B true))) (htb : TabsOk TB (full W) W) (ha : All2 (fun (x : BV) v => x.rel (full W) (fun _ => .bool false) v) args vals)
    (hQ : ∀ W', Kept W W' → Q (.returned (.bool true)) W') : Calls P f vals.toArray W Q := by
  refine (hm W (full W) (fun _ => .bool false) vals htb (agree_full W) (fun k c h => by simp at h) ha).mono ?_
  rintro e W' ⟨v, own', res, h', ρ', rfl, ⟨rfl, rfl⟩, hw, hres⟩
  have hv : v = .bool true := hres
  subst hv
  exact hQ W' ⟨hw.os, hw.out, fun b hb => hw.same b hb (by simp [lent, keysOf])⟩
end Go.Sk

/- The framework, part M: nil cells of a box as empty slices; parts of rows; copies. -/
namespace Go.Sk
set_option linter.unusedSimpArgs false
set_option linter.unusedVariables false
open Go Go.BigFrame
section
variable {P : Program} {TB : Tabs} {E : Env TB} {n : Sh} {s s' : St} {dst : Option Nat} {t ty yt : TypeId} {pos : String} {after : Array Edge} {g : Option (Nat × Bool)} {x y c : Operand} {ops : Array Oper} {l : List Oper} {Q : Post} {cd : Code}
theorem cellsRel.nilset {h : PH} {size : Nat} (hz : 0 < size) : ∀ {ps : List CP} {cs : List Value} (i : Nat), ps[i]? = some .nil → cellsRel h ps cs → cellsRel h (ps.set i (.sl size [])) cs
  | [], _, i, hi, hc => by simp at hi
  | p :: ps, _, 0, hi, .cons h1 h2 => by
    simp at hi; subst hi
    exact .cons ⟨fun q hq => by simp at hq, hz, .inl ⟨h1.1, rfl⟩⟩ h2
  | p :: ps, _, i + 1, hi, .cons h1 h2 => .cons h1 (cellsRel.nilset hz i (by simpa using hi) h2)
theorem R.nilbox {k i size : Nat} {T : TypeId} {ps : List CP} {a : Act} {w : World} (hr : R E n s a w) (hk : lk s.own k = some (.box T ps)) (hi : ps[i]? = some .nil) (hz : 0 < size) : R E n ⟨s.slots, ins k (.box T (ps.set i (.sl size []))) s.own⟩ a w := by
  obtain ⟨h1, h2, h, ρ, hw, hs⟩ := hr
  refine ⟨h1, h2, h, ρ, ⟨hw.agree, hw.le, hw.fresh, hw.size, hw.same, hw.fixed, hw.os, hw.out, hw.nl, ?_⟩, hs⟩
  intro j x hx
  have hkk := hw.owned k _ (lk_mem hk)
  have back : ∀ j' x', (j', x') ∈ ins k (OC.box T (ps.set i (.sl size []))) s.own → ∃ x'', (j', x'') ∈ s.own := fun j' x' hm => by
    rcases mem_ins hm with ⟨rfl, rfl⟩ | ⟨_, hm⟩
    · exact ⟨_, lk_mem hk⟩
    · exact ⟨_, hm⟩
  rcases mem_ins hx with ⟨rfl, rfl⟩ | ⟨hne, hm⟩
  · refine ⟨?_, hkk.2.1, fun k' c' hm' hne => ?_⟩
    · obtain ⟨b, cur, e1, e2, e3⟩ := hkk.1
      exact ⟨b, cur, e1, e2, e3.nilset hz i hi⟩
    · obtain ⟨c'', hm''⟩ := back k' c' hm'
      exact hkk.2.2 k' c'' hm'' hne
  · have hj := hw.owned j _ hm
    refine ⟨hj.1, hj.2.1, fun k' c' hm' hne => ?_⟩
    obtain ⟨c'', hm''⟩ := back k' c' hm'
    exact hj.2.2 k' c'' hm'' hne
theorem Fin.nilbox {e : Exit} (k i size : Nat) {T : TypeId} {ps : List CP} (hk : lk s.own k = some (.box T ps)) (hi : ps[i]? = some .nil) (hz : 0 < size) (h : Fin E n e ⟨s.slots, ins k (.box T (ps.set i (.sl size []))) s.own⟩ Q) : Fin E n e s Q :=
  fun a w hr => h a w (hr.nilbox hk hi hz)
end

/-! ## a drawn region whose last operation waits on all others -/
section
variable {P : Program} {TB : Tabs} {E : Env TB} {n : Sh} {s s' s2 : St} {l : List Oper} {Q : Post} {o : Oper}
def lastOk (l : List Oper) (o : Oper) : Bool := (o.after.toList.all fun e => !Region.binds .any e || e.on < l.length) && ((List.range l.length).all fun j => (o.after.toList.any fun e => Region.binds .any e && e.on == j) || ((List.range l.length).any fun i => decide (j < i) && (match l[i]? with | some p => p.after.toList.any fun e => Region.binds .any e && e.on == j | none => false)))
theorem anyDL {Fs : List SV} (hst : StepsD P E n (l ++ [o]).toArray s l Fs l Fs) (hok : okD s l n.n = true) (hlo : lastOk l o = true) (hlast : Step1 P E n (l ++ [o]).toArray o ⟨s.slots ++ factsFrom (fun _ => true) 0 l Fs, s.own⟩ s2) (hfin : Fin E n .normal s2 Q) : ∀ (fuel : Nat) (listed : Array Bool) (a : Act) (w : World),
    listed.size = l.length + 1 → listed.getD l.length false = false → (∀ (i : Nat) (p : Oper), l[i]? = some p → listed.getD i false = true → ∀ e ∈ p.after.toList, Region.binds .any e = true → listed.getD e.on false = true) → l.length + 1 ≤ fuel + (listed.toList.filter id).length → R E n (stD s l Fs listed) a w → wpAny P .any (l ++ [o]).toArray Q fuel listed a w := by
  simp only [okD, Bool.and_eq_true, List.all_eq_true] at hok
  obtain ⟨⟨⟨hedges, hnd⟩, hbase⟩, hlt⟩ := hok
  simp only [lastOk, Bool.and_eq_true, List.all_eq_true, List.any_eq_true, List.mem_range, Bool.or_eq_true, Bool.not_eq_true', beq_iff_eq, decide_eq_true_eq] at hlo
  obtain ⟨hle, hlall⟩ := hlo
  obtain ⟨hlen, hsteps⟩ := stepsD_get (Fs := Fs) hst
  have hcount : ∀ (L : List Bool) (i : Nat) (hi : i < L.length), L[i] = false → ((L.set i true).filter id).length = (L.filter id).length + 1 := by
    intro L
    induction L with
    | nil => intro i hi; simp at hi
    | cons b L ihL =>
      intro i hi hb
      cases i with
      | zero => simp at hb; subst hb; simp
      | succ i =>
        have := ihL i (by simpa using hi) (by simpa using hb)
        cases b <;> simp [this]
  have hready : ∀ (listed : Array Bool), listed.size = l.length + 1 → Region.ready .any (l ++ [o]).toArray listed = [] → ∀ j, j < l.length + 1 → listed.getD j false = true := by
    intro listed hsz hr j hj
    induction j using Nat.strongRecOn with
    | _ j ih =>
      cases hb : listed.getD j false with
      | true => rfl
      | false =>
        exfalso
        have hjs : j < listed.size := by omega
        have hjr : j ∈ Region.ready .any (l ++ [o]).toArray listed := by
          rw [mem_ready]
          have hlj : listed.getD j true = false := by
            simp only [Array.getD_eq_getD_getElem?, Array.getElem?_eq_getElem hjs, Option.getD_some] at hb ⊢
            exact hb
          by_cases hjl : j < l.length
          · refine ⟨hlj, l[j], by simp [List.getElem?_append_left hjl, hjl], fun e he hbd => ?_⟩
            have := edgesOk_spec hedges j l[j] (by simp) e he hbd
            exact ih e.on (by omega) (by omega)
          · have ej : j = l.length := by omega
            refine ⟨hlj, o, by subst ej; simp, fun e he hbd => ?_⟩
            rcases hle e (by simpa using he) with h | h
            · rw [h] at hbd; simp at hbd
            · exact ih e.on (by omega) (by omega)
        rw [hr] at hjr
        simp at hjr
  intro fuel
  induction fuel with
  | zero =>
    intro listed a w hsz hz hcl hf hR
    exfalso
    have hls : l.length < listed.toList.length := by simp; omega
    have hz' : listed.toList[l.length] = false := by
      simp only [Array.getD_eq_getD_getElem?] at hz
      rw [Array.getElem?_eq_getElem (by omega)] at hz
      simpa using hz
    have h1 := hcount listed.toList l.length hls hz'
    have h2 := List.length_filter_le id (listed.toList.set l.length true)
    simp at h1 h2 hf
    omega
  | succ fuel ih =>
    intro listed a w hsz hz hcl hf hR
    refine ⟨fun hr => ?_, fun i hi => ?_⟩
    · have := hready listed hsz hr l.length (by omega)
      rw [hz] at this; simp at this
    rw [mem_ready] at hi
    obtain ⟨hi1, o', ho, hdeps⟩ := hi
    have hil : i < l.length + 1 := by
      have := (Array.getElem?_eq_some_iff.1 ho).1
      simpa using this
    have his : i < listed.size := by omega
    have hi1' : listed[i] = false := by simpa [Array.getD_eq_getD_getElem?, Array.getElem?_eq_getElem his] using hi1
    by_cases hlast' : i = l.length
    · -- the last one
      subst hlast'
      have eo : o' = o := by simpa using ho.symm
      subst eo
      have hall : ∀ j, j < l.length → listed.getD j false = true := by
        have key : ∀ m j, l.length - j = m → j < l.length → listed.getD j false = true := by
          intro m
          induction m using Nat.strongRecOn with
          | _ m ihm =>
            intro j hm hj
            rcases hlall j hj with ⟨e, he, hb, hon⟩ | ⟨i, hi, hji, hp⟩
            · have := hdeps e (by simpa using he) hb
              rw [hon] at this
              exact this
            · cases hpi : l[i]? with
              | none => rw [hpi] at hp; simp at hp
              | some p =>
                rw [hpi] at hp
                simp only [List.any_eq_true, Bool.and_eq_true, beq_iff_eq] at hp
                obtain ⟨e, he, hb, hon⟩ := hp
                have h1 := ihm (l.length - i) (by omega) i rfl hi
                have := hcl i p hpi h1 e he hb
                rw [hon] at this
                exact this
        exact fun j hj => key _ j rfl hj
      have hR2 : R E n ⟨s.slots ++ factsFrom (fun _ => true) 0 l Fs, s.own⟩ a w := by
        obtain ⟨h1, h2, h, ρ, hw, hs⟩ := hR
        refine ⟨h1, h2, h, ρ, hw, fun k x hx => hs k x ?_⟩
        simp only [stD, List.mem_append] at hx ⊢
        rcases hx with hx | hx
        · exact .inl hx
        · right
          rw [mem_factsFrom] at hx ⊢
          obtain ⟨j, oj, hj, hd, hF, _⟩ := hx
          exact ⟨j, oj, hj, hd, hF, by rw [Nat.zero_add]; exact hall j (List.getElem?_eq_some_iff.1 hj).1⟩
      unfold wpOp
      rw [ho]
      dsimp only
      have hdone : ∀ a' w', R E n s2 a' w' → wpAny P .any (l ++ [o']).toArray Q fuel (listed.setIfInBounds l.length true) a' w' := by
        intro a' w' hR'
        have hnr : Region.ready .any (l ++ [o']).toArray (listed.setIfInBounds l.length true) = [] := by
          apply List.eq_nil_iff_forall_not_mem.2
          intro j hj
          rw [mem_ready] at hj
          obtain ⟨hj1, oj, hoj, _⟩ := hj
          have hjl : j < l.length + 1 := by
            have := (Array.getElem?_eq_some_iff.1 hoj).1
            simpa using this
          have hjs : j < (listed.setIfInBounds l.length true).size := by simp; omega
          have hjt : (listed.setIfInBounds l.length true).getD j false = true := by
            by_cases e : j = l.length
            · subst e; simp [Array.getD_eq_getD_getElem?, his]
            · rw [getD_set_ne false (fun h => e h.symm)]; exact hall j (by omega)
          simp only [Array.getD_eq_getD_getElem?, Array.getElem?_eq_getElem hjs, Option.getD_some] at hj1 hjt
          rw [hjt] at hj1; simp at hj1
        cases fuel with
        | zero => exact ⟨hnr, hfin a' w' hR'⟩
        | succ f => exact ⟨fun _ => hfin a' w' hR', fun j hj => by rw [hnr] at hj; simp at hj⟩
      have key := hlast a w hR2 (wpAny P .any (l ++ [o']).toArray Q fuel (listed.setIfInBounds l.length true)) Q hdone
      split
      · rename_i hw'
        simp only [hw', if_true] at key
        exact .inl key
      · rename_i hw'
        simp only [hw'] at key
        exact key
    · have hil2 : i < l.length := by omega
      have hol : l[i]? = some o' := by
        have h := ho
        simp only [List.getElem?_toArray] at h
        rwa [List.getElem?_append_left hil2] at h
      obtain ⟨x, hx, hstep⟩ := hsteps i o' hol
      have hR2 : R E n ⟨depFacts l Fs o'.after.toList ++ (s.slots ++ factsFrom (fun i => listed.getD i false) 0 l Fs), s.own⟩ a w := by
        obtain ⟨h1, h2, h, ρ, hw, hs⟩ := hR
        refine ⟨h1, h2, h, ρ, hw, fun k y hy => ?_⟩
        rcases List.mem_append.1 hy with hy | hy
        · obtain ⟨e, he, hb, o'', ho', hd', hF'⟩ := mem_depFacts hy
          refine hs k y (List.mem_append.2 (.inr ?_))
          rw [mem_factsFrom]
          exact ⟨e.on, o'', ho', hd', hF', by rw [Nat.zero_add]; exact hdeps e (by simpa using he) hb⟩
        · exact hs k y hy
      unfold wpOp
      rw [ho]
      dsimp only
      have key := hstep (factsFrom (fun i => listed.getD i false) 0 l Fs) a w hR2 (wpAny P .any (l ++ [o]).toArray Q fuel (listed.setIfInBounds i true)) Q (fun a' w' hR' => by
        refine ih _ a' w' (by simpa using hsz) ?_ ?_ ?_ ?_
        · rw [getD_set_ne false hlast']; exact hz
        · intro j p hj hlj e he hb
          have hset : ∀ q, listed.getD q false = true → (listed.setIfInBounds i true).getD q false = true := fun q hq => by
            by_cases e : q = i
            · subst e; simp [Array.getD_eq_getD_getElem?, his]
            · rw [getD_set_ne false (fun h => e h.symm)]; exact hq
          by_cases e' : j = i
          · subst e'
            rw [hol] at hj; cases hj
            exact hset _ (hdeps e (by simpa using he) hb)
          · rw [getD_set_ne false (fun h => e' h.symm)] at hlj
            exact hset _ (hcl j p hj hlj e he hb)
        · have := hcount listed.toList i (by simpa using his) (by simpa using hi1')
          rw [Array.toList_setIfInBounds]
          omega
        · obtain ⟨h1, h2, h, ρ, hw, hs⟩ := hR'
          have hown : (St.put n o'.dst x ⟨depFacts l Fs o'.after.toList ++ (s.slots ++ factsFrom (fun i => listed.getD i false) 0 l Fs), s.own⟩).own = s.own := by
            cases hd : o'.dst with
            | none => rfl
            | some d => simp only [St.put, St.set]; split <;> rfl
          rw [hown] at hw
          refine ⟨h1, h2, h, ρ, hw, fun k y hy => ?_⟩
          have hold : ∀ d, o'.dst = some d → k ≠ d → (k, y) ∈ s.slots ++ factsFrom (fun i => listed.getD i false) 0 l Fs → ∃ v, a'.tmps[k]? = some v ∧ y.rel h ρ v := by
            intro d hd hkd hm
            refine hs k y ?_
            simp only [hd, St.put, St.set]
            split
            · exact List.mem_cons_of_mem _ (del_of_mem (List.mem_append.2 (.inr hm)) hkd)
            · exact List.mem_append.2 (.inr hm)
          have hnone : o'.dst = none → (k, y) ∈ s.slots ++ factsFrom (fun i => listed.getD i false) 0 l Fs → ∃ v, a'.tmps[k]? = some v ∧ y.rel h ρ v := by
            intro hd hm
            refine hs k y ?_
            simp only [hd, St.put]
            exact List.mem_append.2 (.inr hm)
          rcases List.mem_append.1 hy with hy | hy
          · cases hd : o'.dst with
            | none => exact hnone hd (List.mem_append.2 (.inl hy))
            | some d =>
              refine hold d hd ?_ (List.mem_append.2 (.inl hy))
              intro e
              have := hbase (k, y) hy
              simp only [Bool.not_eq_true', List.contains_eq_mem, decide_eq_false_iff_not] at this
              exact this (by rw [e]; exact mem_dsts hol hd)
          · rw [mem_factsFrom] at hy
            obtain ⟨j, oj, hj, hd', hF', hl'⟩ := hy
            rw [Nat.zero_add] at hl'
            by_cases hji : j = i
            · subst hji
              rw [hol] at hj; cases hj
              rw [hx] at hF'
              refine hs k y ?_
              have : (St.put n o'.dst x ⟨depFacts l Fs o'.after.toList ++ (s.slots ++ factsFrom (fun i => listed.getD i false) 0 l Fs), s.own⟩).slots = (k, x) :: del k (depFacts l Fs o'.after.toList ++ (s.slots ++ factsFrom (fun i => listed.getD i false) 0 l Fs)) := by
                have hk : k < n.n := by
                  have := hlt k (mem_dsts hol hd')
                  simpa using this
                simp only [hd', St.put, St.set, hk, if_true]
              rw [this]
              cases hF'
              exact List.mem_cons_self
            · have hl2 : listed.getD j false = true := by
                rw [getD_set_ne false (fun e => hji e.symm)] at hl'
                exact hl'
              have hm : (k, y) ∈ factsFrom (fun i => listed.getD i false) 0 l Fs := by
                rw [mem_factsFrom]
                exact ⟨j, oj, hj, hd', hF', by rw [Nat.zero_add]; exact hl2⟩
              cases hd : o'.dst with
              | none => exact hnone hd (List.mem_append.2 (.inr hm))
              | some d =>
                refine hold d hd ?_ (List.mem_append.2 (.inr hm))
                intro e
                exact hji (dsts_inj hnd hj hol (e ▸ hd') hd))
      split
      · rename_i hw'
        simp only [hw', if_true] at key
        exact .inl key
      · rename_i hw'
        simp only [hw'] at key
        exact key
def initL : List Oper → List Oper
  | [] => []
  | [_] => []
  | o :: p :: r => o :: initL (p :: r)
def lastL (d : Oper) : List Oper → Oper
  | [] => d
  | [o] => o
  | _ :: p :: r => lastL d (p :: r)
theorem init_last (d : Oper) : ∀ {l : List Oper}, l ≠ [] → initL l ++ [lastL d l] = l
  | [], h => absurd rfl h
  | [o], _ => rfl
  | o :: p :: r, _ => by
    have := init_last d (l := p :: r) (by simp)
    simp only [initL, lastL, List.cons_append, this]
/-- a region whose order is drawn, but for its last operation, which waits on all others -/
theorem Tri.regionLF {rid : Nat} {ops : Array Oper} (hm : P.follows .mixedOrders = true) (Fs : List SV) (l : List Oper) (o : Oper) (ho : ops = (l ++ [o]).toArray) (ks kos : List Nat) (hok : okD s l n.n = true) (hlo : lastOk l o = true) (hst : StepsD P E n (l ++ [o]).toArray s l Fs l Fs)
    (hlast : Step1 P E n (l ++ [o]).toArray o ⟨s.slots ++ factsFrom (fun _ => true) 0 l Fs, s.own⟩ s2) (hs : s2.keep ks kos = s') (h : Fin E n .normal s' Q) : Tri P E n (.region rid ops true) s Q := by
  subst ho
  intro a w hr
  refine wp_region_any hm ?_
  refine anyDL hst hok hlo hlast (Fs := Fs) ?_ _ _ _ _ (by simp) ?_ ?_ (by simp) ?_
  · exact fun a w hr => h a w (hs ▸ hr.keep ks kos)
  · simp [Array.getD_eq_getD_getElem?]
  · intro i p hi hl
    exfalso
    simp only [Array.getD_eq_getD_getElem?, Array.getElem?_replicate] at hl
    split at hl <;> simp at hl
  · have hr' := hr.drawn
    obtain ⟨h1, h2, h, ρ, hw, hsl⟩ := hr'
    refine ⟨h1, h2, h, ρ, hw, fun k x hx => hsl k x ?_⟩
    rcases List.mem_append.1 hx with hx | hx
    · exact hx
    · rw [mem_factsFrom] at hx
      obtain ⟨j, o, hj, _, _, hl⟩ := hx
      have hjl := (List.getElem?_eq_some_iff.1 hj).1
      simp only [Nat.zero_add, Array.getD_eq_getD_getElem?, Array.getElem?_replicate] at hl
      split at hl <;> simp at hl
/-- .. as the printed walks use it -/
def NoOp : Oper := ⟨none, .move (.const (.bool false)), 0, "", #[], none⟩
theorem Tri.regionZF {rid : Nat} {ops : List Oper} (hm : P.follows .mixedOrders = true) (Fs : List SV) (ks kos : List Nat) (hne : ops ≠ []) (hok : okD s (initL ops) n.n = true) (hlo : lastOk (initL ops) (lastL NoOp ops) = true) (hst : StepsD P E n ops.toArray s (initL ops) Fs (initL ops) Fs)
    (hlast : Step1 P E n ops.toArray (lastL NoOp ops) ⟨s.slots ++ factsFrom (fun _ => true) 0 (initL ops) Fs, s.own⟩ s2) (hs : s2.keep ks kos = s') (h : Fin E n .normal s' Q) : Tri P E n (.region rid ops.toArray true) s Q := by
  have e := init_last NoOp hne
  exact Tri.regionLF hm Fs (initL ops) (lastL NoOp ops) (by rw [e]) ks kos hok hlo (by rw [e]; exact hst) (by rw [e]; exact hlast) hs h
theorem Tri.regionZ {rid : Nat} {ops : List Oper} {y : Code} (hm : P.follows .mixedOrders = true) (Fs : List SV) (ks kos : List Nat) (hne : ops ≠ []) (hok : okD s (initL ops) n.n = true) (hlo : lastOk (initL ops) (lastL NoOp ops) = true) (hst : StepsD P E n ops.toArray s (initL ops) Fs (initL ops) Fs)
    (hlast : Step1 P E n ops.toArray (lastL NoOp ops) ⟨s.slots ++ factsFrom (fun _ => true) 0 (initL ops) Fs, s.own⟩ s2) (hs : s2.keep ks kos = s') (h : Tri P E n y s' Q) : Tri P E n (.region rid ops.toArray true) s (Exit.then (y.wp P Q) Q) :=
  Tri.regionZF hm Fs ks kos hne hok hlo hst hlast hs (Fin.then h)
end
end Go.Sk

/- The framework, part N: parts of rows, copy, cap. -/
namespace Go.Sk
set_option linter.unusedSimpArgs false
set_option linter.unusedVariables false
open Go Go.BigFrame
section
variable {P : Program} {TB : Tabs} {E : Env TB} {n : Sh} {s s' : St} {dst : Option Nat} {t ty yt : TypeId} {pos : String} {after : Array Edge} {g : Option (Nat × Bool)} {x y c : Operand} {ops : Array Oper} {l : List Oper} {Q : Post} {cd : Code}
theorem part_of_row {ρ : RM} {k b nn cc size : Nat} (h : ρ k = .slice (some ⟨b, 0, none⟩) nn cc) (hl : nn ≤ cc) : BV.rel (fun _ _ => none) ρ (.part k size 0 nn cc) (ρ k) := ⟨b, nn, h, by rw [h, Nat.zero_mul]; simp, by omega⟩
/-- a part of a part: from lo on -/
theorem op_slice_pl {k size bytes lo len cap : Nat} {e : TypeId} {zs : List CP} {yo : Operand} {kk : IntKind} {i : Int} (ht : TySl P t e size bytes zs) (h0 : 0 ≤ i) (h1 : i ≤ len) (h2 : lo + i < cap) (hx : s.ev x = some (.b (.part k size lo len cap))) (hy : s.ev yo = some (.b (.one (.int kk i)))) :
    Op1 P E n ⟨dst, .slice t x (some yo) none none, ty, pos, after, g⟩ s (s.put n dst (.b (.part k size (lo + i.toNat) (len - i.toNat) cap))) :=
  Op1.val (o := ⟨dst, .slice t x (some yo) none none, ty, pos, after, g⟩) fun ac w h ρ hw hs => by
    obtain ⟨b, nn, hρ, hv, hle⟩ := (ev_rel hs hx : BV.rel h ρ (.part k size lo len cap) _)
    obtain ⟨inf, z, hi, hsz, _⟩ := ht.info
    have hel : P.elem t = e := by simp [Program.elem, ht.und]
    have hund : P.underlying t = some (.slice (P.elem t)) := by rw [hel]; exact ht.und
    have hb := run_slice_l (P := P) (w := w) (t := t) (a := some ⟨b, lo * size, none⟩) (len := len) (cap := cap - lo) hund kk i h0 h1
    refine ⟨sliced (some ⟨b, lo * size, none⟩) i.toNat len (cap - lo) size, ?_, b, nn, hρ, ?_, by omega⟩
    · simp only [execOp, hv, Option.map_some, Option.map_none, (ev_int hs hy).1]
      rw [Sem.run_bind, run_sliceAt_slice w t _ _ _ _ hund, hb, run_sizeOf (i := inf) (by rw [hel]; exact hi), hsz]
      rfl
    · unfold sliced
      rw [if_neg (by omega)]
      simp only [Option.map_some, add_none, ← Nat.add_mul, Value.slice.injEq, true_and]
      omega
/-- a part of a part: up to hi -/
theorem op_slice_ph {k size bytes lo len cap : Nat} {e : TypeId} {zs : List CP} {yo : Operand} {kk : IntKind} {i : Int} (ht : TySl P t e size bytes zs) (h0 : 0 ≤ i) (h2 : lo + i ≤ cap) (hx : s.ev x = some (.b (.part k size lo len cap))) (hy : s.ev yo = some (.b (.one (.int kk i)))) :
    Op1 P E n ⟨dst, .slice t x none (some yo) none, ty, pos, after, g⟩ s (s.put n dst (.b (.part k size lo i.toNat cap))) :=
  Op1.val (o := ⟨dst, .slice t x none (some yo) none, ty, pos, after, g⟩) fun ac w h ρ hw hs => by
    obtain ⟨b, nn, hρ, hv, hle⟩ := (ev_rel hs hx : BV.rel h ρ (.part k size lo len cap) _)
    obtain ⟨inf, z, hi, hsz, _⟩ := ht.info
    have hel : P.elem t = e := by simp [Program.elem, ht.und]
    have hund : P.underlying t = some (.slice (P.elem t)) := by rw [hel]; exact ht.und
    have hb := run_slice_h (P := P) (w := w) (t := t) (a := some ⟨b, lo * size, none⟩) (len := len) (cap := cap - lo) hund kk i h0 (by omega)
    refine ⟨sliced (some ⟨b, lo * size, none⟩) 0 i.toNat (cap - lo) size, ?_, b, nn, hρ, ?_, by omega⟩
    · simp only [execOp, hv, Option.map_some, Option.map_none, (ev_int hs hy).1]
      rw [Sem.run_bind, run_sliceAt_slice w t _ _ _ _ hund, hb, run_sizeOf (i := inf) (by rw [hel]; exact hi), hsz]
      rfl
    · unfold sliced
      simp only [Nat.zero_mul, Option.map_some, add_none, Nat.add_zero, Nat.sub_zero]
      split <;> rfl
theorem op_len_part {k size lo len cap : Nat} {e : TypeId} (ht : P.underlying t = some (.slice e)) (hm : cap ≤ maxLen) (hx : s.ev x = some (.b (.part k size lo len cap))) :
    Op1 P E n ⟨dst, .call ⟨.builtin .len, #[x], #[t]⟩, ty, pos, after, g⟩ s (s.put n dst (I (len : Int))) :=
  Op1.val (o := ⟨dst, .call ⟨.builtin .len, #[x], #[t]⟩, ty, pos, after, g⟩) fun ac w h ρ hw hs => by
    obtain ⟨b, nn, hρ, hv, hle⟩ := (ev_rel hs hx : BV.rel h ρ (.part k size lo len cap) _)
    refine ⟨.int .i64 len, ?_, rfl, inR_len (by omega)⟩
    rw [execOp_builtin, builtin_len]
    simp [hv, Builtin.len_, run_underlying ht, goInt]
/-- slots that hold a row, seen as parts of it -/
def BV.toPart (k size m cap : Nat) : BV → BV
  | .row j => if j == k then .part k size 0 m cap else .row j
  | z => z
def SV.toPart (k size m cap : Nat) : SV → SV
  | .b z => .b (z.toPart k size m cap)
  | .tup l => .tup (l.map (BV.toPart k size m cap))
  | .xagg l => .xagg (l.map (BV.toPart k size m cap))
  | .opt c z => .opt c (z.toPart k size m cap)
def partS (k size m cap : Nat) (l : List (Nat × SV)) : List (Nat × SV) := l.map fun p => (p.1, p.2.toPart k size m cap)
theorem BV.toPart_rel {h : PH} {ρ : RM} {k size m cap b : Nat} (hρ : ρ k = .slice (some ⟨b, 0, none⟩) m cap) (hm : m ≤ cap) {z : BV} {v : Value} (hz : z.rel h ρ v) : (z.toPart k size m cap).rel h ρ v := by
  cases z with
  | row j =>
    by_cases e : j = k
    · subst e
      have hv : v = ρ j := hz
      rw [show (BV.row j).toPart j size m cap = .part j size 0 m cap by simp [BV.toPart]]
      exact ⟨b, m, hρ, by rw [hv, hρ, Nat.zero_mul, Nat.sub_zero], by omega⟩
    · rw [show (BV.row j).toPart k size m cap = .row j by simp [BV.toPart, e]]
      exact hz
  | _ => exact hz
theorem SV.toPart_rel {h : PH} {ρ : RM} {k size m cap b : Nat} (hρ : ρ k = .slice (some ⟨b, 0, none⟩) m cap) (hm : m ≤ cap) {z : SV} {v : Value} (hz : z.rel h ρ v) : (z.toPart k size m cap).rel h ρ v := by
  cases z with
  | b z => exact BV.toPart_rel hρ hm hz
  | opt c z => exact ⟨fun hc => BV.toPart_rel hρ hm (hz.1 hc), hz.2⟩
  | tup l =>
    obtain ⟨vs, e, ha⟩ := hz
    refine ⟨vs, e, ?_⟩
    clear e
    generalize vs.toList = vl at ha
    induction ha with
    | nil => exact .nil
    | cons h1 _ ih => exact .cons (BV.toPart_rel hρ hm h1) ih
  | xagg l =>
    obtain ⟨vs, e, ha⟩ := hz
    refine ⟨vs, e, ?_⟩
    clear e
    generalize vs.toList = vl at ha
    induction ha with
    | nil => exact .nil
    | cons h1 _ ih => exact .cons ⟨BV.toPart_rel hρ hm h1.1, h1.2⟩ ih
theorem R.toPart {k size : Nat} {T : TypeId} {es : List (List CP)} {a : Act} {w : World} (hr : R E n s a w) (hk : lk s.own k = some (.row T size es)) (hne : 0 < es.length) :
    ∃ cap, es.length ≤ cap ∧ cap ≤ 9223372036854775807 ∧ R E n ⟨partS k size es.length cap s.slots, s.own⟩ a w := by
  obtain ⟨h1, h2, h, ρ, hw, hs⟩ := hr
  obtain ⟨_, _, hf⟩ := row_form hw hk
  rcases hf with ⟨_, he⟩ | ⟨b, cap, cur, e1, e2, e3, e4, _⟩
  · rw [he] at hne; simp at hne
  · refine ⟨cap, e3, by rw [maxLen_eq] at e4; exact e4, h1, h2, h, ρ, hw, fun j z hz => ?_⟩
    simp only [partS, List.mem_map, Prod.mk.injEq] at hz
    obtain ⟨⟨j', z'⟩, hm, rfl, rfl⟩ := hz
    obtain ⟨v, hv, hrel⟩ := hs _ _ hm
    exact ⟨v, hv, SV.toPart_rel e1 e3 hrel⟩
theorem OpsL.toPart (k : Nat) {size : Nat} {T : TypeId} {es : List (List CP)} (hk : lk s.own k = some (.row T size es)) (hne : 0 < es.length) (h : ∀ cap : Nat, es.length ≤ cap → cap ≤ 9223372036854775807 → OpsL P E n ops l ⟨partS k size es.length cap s.slots, s.own⟩ Q) : OpsL P E n ops l s Q := fun a w hr => by
  obtain ⟨cap, h1, h2, hr'⟩ := hr.toPart hk hne
  exact h cap h1 h2 a w hr'
theorem op_cap_part {k size lo len cap : Nat} {e : TypeId} (ht : P.underlying t = some (.slice e)) (hm : cap ≤ 9223372036854775807) (hx : s.ev x = some (.b (.part k size lo len cap))) :
    Op1 P E n ⟨dst, .call ⟨.builtin .cap, #[x], #[t]⟩, ty, pos, after, g⟩ s (s.put n dst (I ((cap - lo : Nat) : Int))) :=
  Op1.val (o := ⟨dst, .call ⟨.builtin .cap, #[x], #[t]⟩, ty, pos, after, g⟩) fun ac w h ρ hw hs => by
    obtain ⟨b, nn, hρ, hv, hle⟩ := (ev_rel hs hx : BV.rel h ρ (.part k size lo len cap) _)
    have hel : P.elem t = e := by simp [Program.elem, ht]
    refine ⟨.int .i64 (cap - lo : Nat), ?_, rfl, inR_len (by rw [maxLen_eq]; omega)⟩
    rw [execOp_builtin]
    show Sem.run _ _ _ = _
    simp only [builtin, List.map_toArray, List.map_cons, List.map_nil, hv]
    rw [Sem.run_bind, run_cap_slice w t ty _ _ _ (by rw [hel]; exact ht)]
    rfl

/-! ## copy -/
def spliceE {α : Type} (es : List α) (lo : Nat) (news : List α) : List α := es.take lo ++ news ++ es.drop (lo + news.length)
theorem take_flatten {size : Nat} : ∀ {es : List (List CP)}, Uniform size es → ∀ i, (es.take i).flatten = es.flatten.take (i * size)
  | [], _, i => by simp
  | p :: es, hu, 0 => by simp
  | p :: es, hu, i + 1 => by
    have hp : p.length = size := hu p (by simp)
    have ih := take_flatten (es := es) (fun q hq => hu q (by simp [hq])) i
    have e : (i + 1) * size = p.length + i * size := by rw [Nat.add_mul, hp]; omega
    rw [List.take_succ_cons, List.flatten_cons, ih, List.flatten_cons, e, List.take_length_add_append]
theorem drop_flatten {size : Nat} : ∀ {es : List (List CP)}, Uniform size es → ∀ i, (es.drop i).flatten = es.flatten.drop (i * size)
  | [], _, i => by simp
  | p :: es, hu, 0 => by simp
  | p :: es, hu, i + 1 => by
    have hp : p.length = size := hu p (by simp)
    have ih := drop_flatten (es := es) (fun q hq => hu q (by simp [hq])) i
    have e : (i + 1) * size = p.length + i * size := by rw [Nat.add_mul, hp]; omega
    rw [List.drop_succ_cons, ih, List.flatten_cons, e, List.drop_length_add_append]
theorem spliceE_flat {size : Nat} {es news : List (List CP)} (hu : Uniform size es) (hn : Uniform size news) (lo : Nat) : (spliceE es lo news).flatten = splice es.flatten (lo * size) news.flatten := by
  unfold spliceE splice
  rw [List.flatten_append, List.flatten_append, take_flatten hu, drop_flatten hu, flatten_len hn, Nat.add_mul]
theorem spliceE_uni {size : Nat} {es news : List (List CP)} (hu : Uniform size es) (hn : Uniform size news) (lo : Nat) : Uniform size (spliceE es lo news) := fun ps hp => by
  simp only [spliceE, List.mem_append] at hp
  rcases hp with (h | h) | h
  · exact hu ps (List.mem_of_mem_take h)
  · exact hn ps h
  · exact hu ps (List.mem_of_mem_drop h)
theorem spliceE_len {α : Type} {es news : List α} {lo : Nat} (h : lo ≤ es.length) : (spliceE es lo news).length = max es.length (lo + news.length) := by
  simp only [spliceE, List.length_append, List.length_take, List.length_drop]
  omega
theorem copy_core {h : PH} {ρ : RM} {w : World} (hw : WR E n s.own h ρ w) {k size bytes lo dlen dcap cap b nn sb so slen sc : Nat} {T e : TypeId} {zs : List CP} {es news : List (List CP)} {cs : List Value} (ht : TySl P t e size bytes zs) (hk : lk s.own k = some (.row T size es))
    (hρ : ρ k = .slice (some ⟨b, 0, none⟩) nn cap) (hn : min slen dlen = news.length) (hun : Uniform size news) (hcr : cellsRel h news.flatten cs) (hcell : ∀ j u, cs[j]? = some u → w.cell? ⟨sb, so + j, none⟩ = some u) (hlo : lo ≤ es.length) (hcap : lo + news.length ≤ cap) :
    ∃ w', (Builtin.copy_ #[t, yt] ty #[.slice (some ⟨b, lo * size, none⟩) dlen dcap, .slice (some ⟨sb, so, none⟩) slen sc]).run P w = .ok (goInt news.length) w' ∧ w'.heap.size = w.heap.size ∧ w'.os = w.os ∧ w'.output = w.output ∧ (∀ b', b' ≠ b → w'.heap[b']? = w.heap[b']?) ∧
      (OC.row T size (spliceE es lo news)).ok h ρ (.slice (some ⟨b, 0, none⟩) (spliceE es lo news).length cap) w' := by
  obtain ⟨inf, z, hi, hsz, _⟩ := ht.info
  obtain ⟨hu, hz, cap', cur, h1, h2, h3, h4, h5, h6⟩ := row_some hw hk hρ
  have hcc : cap' = cap ∧ nn = es.length := by rw [hρ] at h1; simp at h1; exact ⟨h1.2.symm, h1.1⟩
  obtain ⟨rfl, rfl⟩ := hcc
  have hcl : cs.length = news.length * size := by rw [← hcr.length, flatten_len hun]
  have hfit : lo * size + 0 + cs.length ≤ cur.size := by
    rw [hcl, h5, Nat.add_zero, ← Nat.add_mul]
    exact Nat.mul_le_mul_right _ hcap
  have hsl : (splice cur.toList (lo * size) cs).length = cur.size := by simp [splice]; omega
  have hl := run_loadCells_list (P := P) (w := w) ⟨sb, so, none⟩ cs fun j v hj => by rw [add_none]; exact hcell j v hj
  have hst := run_storeCells_at P b (lo * size) T cs 0 cur w h2 hfit hcr.one
  rw [Nat.add_zero] at hst
  change _ = Result.ok () (w.setRow b (splice cur.toList (lo * size) cs).toArray) at hst
  refine ⟨w.setRow b (splice cur.toList (lo * size) cs).toArray, ?_, by simp, rfl, rfl, fun b' hb' => setRow_other _ _ _ _ hb', spliceE_uni hu hun lo, hz, (splice cur.toList (lo * size) cs).take ((spliceE es lo news).length * size), ⟨?_, .inr ⟨b, cap', _, rfl, Nat.zero_le _, setRow_heap _ _ _ _ _ _ h2, ?_, h4, ?_, ?_⟩⟩, ?_⟩
  · rw [hcl] at hl
    simp [Builtin.copy_, run_underlying ht.und, Builtin.lenOf, Builtin.firstCells, sizeOf, typeInfo, hi, hsz, hn, hl, hst]
  · rw [List.length_take, hsl, h5, spliceE_len hlo]
    have : max es.length (lo + news.length) * size ≤ cap' * size := Nat.mul_le_mul_right _ (by omega)
    omega
  · rw [spliceE_len hlo]; omega
  · rw [List.size_toArray, hsl, h5]
  · rfl
  · rw [spliceE_len hlo, spliceE_flat hu hun]
    have hrel := All2.splice h6 hcr (lo * size)
    have hle : es.length * size ≤ cap' * size := Nat.mul_le_mul_right _ h3
    have hlo' : lo * size ≤ es.length * size := Nat.mul_le_mul_right _ hlo
    have e : splice (cur.toList.take (es.length * size)) (lo * size) cs = (splice cur.toList (lo * size) cs).take (max es.length (lo + news.length) * size) := by
      unfold splice
      rw [List.take_take, Nat.min_eq_left hlo', List.take_append, List.take_append]
      have hmx : max es.length (lo + news.length) * size = max (es.length * size) (lo * size + cs.length) := by
        rw [hcl, ← Nat.add_mul, Nat.max_def, Nat.max_def]
        by_cases hh : es.length ≤ lo + news.length
        · rw [if_pos hh, if_pos (Nat.mul_le_mul_right _ hh)]
        · have : (lo + news.length) * size < es.length * size := Nat.mul_lt_mul_of_pos_right (by omega) hz
          rw [if_neg hh, if_neg (by omega)]
      rw [hmx]
      simp only [List.length_take, List.length_append, Array.length_toList, List.drop_take]
      rw [List.take_of_length_le (l := cur.toList.take (lo * size)) (by simp; omega), List.take_of_length_le (l := cs) (by first | omega | (simp only [List.length_take, Array.length_toList]; omega))]
      congr 1
      congr 1
      simp only [h5] at *
      omega
    rw [← e]
    exact hrel

/-- what stays true of a slot when the row k is changed in its place -/
def BV.fine (k : Nat) : BV → Bool
  | .row j => !(j == k)
  | .ptr j _ => !(j == k)
  | _ => true
def SV.fine (k : Nat) : SV → Bool
  | .b z => z.fine k
  | .tup l => l.all (BV.fine k)
  | .xagg l => l.all (BV.fine k)
  | .opt _ z => z.fine k
theorem BV.fine_rel {h : PH} {ρ : RM} {k b nn nn' cap : Nat} (hρ : ρ k = .slice (some ⟨b, 0, none⟩) nn cap) {z : BV} (hz : z.fine k = true) {v : Value} (hr : z.rel h ρ v) : z.rel h (upd ρ k (.slice (some ⟨b, 0, none⟩) nn' cap)) v := by
  have same : ∀ j, j ≠ k → upd ρ k (.slice (some ⟨b, 0, none⟩) nn' cap) j = ρ j := fun j hj => upd_other ρ _ hj
  cases z with
  | one p => exact hr
  | agg ps => exact hr
  | eptr ps => exact hr
  | psl j off len c =>
    by_cases hj : j = k
    · subst hj
      obtain ⟨b', h1, h2⟩ := hr
      rw [hρ] at h1
      simp at h1
    · simpa [BV.rel, same j hj] using hr
  | row j =>
    have hj : j ≠ k := by simpa [BV.fine] using hz
    simpa [BV.rel, same j hj] using hr
  | ptr j o =>
    have hj : j ≠ k := by simpa [BV.fine] using hz
    simpa [BV.rel, same j hj] using hr
  | rptr j o =>
    by_cases hj : j = k
    · subst hj
      obtain ⟨b', m', c', h1, h2⟩ := hr
      rw [hρ] at h1
      simp at h1
      obtain ⟨rfl, rfl, rfl⟩ := h1
      exact ⟨b, nn', cap, upd_same _ _ _, h2⟩
    · simpa [BV.rel, same j hj] using hr
  | part j size lo len c =>
    by_cases hj : j = k
    · subst hj
      obtain ⟨b', m', h1, h2⟩ := hr
      rw [hρ] at h1
      simp at h1
      obtain ⟨rfl, rfl, rfl⟩ := h1
      exact ⟨b, nn', upd_same _ _ _, h2⟩
    · simpa [BV.rel, same j hj] using hr
theorem SV.fine_rel {h : PH} {ρ : RM} {k b nn nn' cap : Nat} (hρ : ρ k = .slice (some ⟨b, 0, none⟩) nn cap) {z : SV} (hz : z.fine k = true) {v : Value} (hr : z.rel h ρ v) : z.rel h (upd ρ k (.slice (some ⟨b, 0, none⟩) nn' cap)) v := by
  cases z with
  | b z => exact BV.fine_rel hρ hz hr
  | opt c z => exact ⟨fun hc => BV.fine_rel hρ hz (hr.1 hc), hr.2⟩
  | tup l =>
    obtain ⟨vs, e, ha⟩ := hr
    refine ⟨vs, e, ?_⟩
    simp only [SV.fine] at hz
    clear e
    generalize vs.toList = vl at ha
    induction ha with
    | nil => exact .nil
    | cons h1 _ ih =>
      simp only [List.all_cons, Bool.and_eq_true] at hz
      exact .cons (BV.fine_rel hρ hz.1 h1) (ih hz.2)
  | xagg l =>
    obtain ⟨vs, e, ha⟩ := hr
    refine ⟨vs, e, ?_⟩
    simp only [SV.fine] at hz
    clear e
    generalize vs.toList = vl at ha
    induction ha with
    | nil => exact .nil
    | cons h1 _ ih =>
      simp only [List.all_cons, Bool.and_eq_true] at hz
      exact .cons ⟨BV.fine_rel hρ hz.1 h1.1, h1.2⟩ (ih hz.2)
theorem map_spliceE {α : Type} (e : α → List CP) (xs ys : List α) (lo : Nat) : spliceE (xs.map e) lo (ys.map e) = (spliceE xs lo ys).map e := by
  simp [spliceE, List.map_take, List.map_drop]
/-- copy into a part of a row -/
theorem op_copy_core {k size bytes lo dlen cap m : Nat} {T e : TypeId} {zs : List CP} {es es' news : List (List CP)} (ht : TySl P t e size bytes zs) (hk : lk s.own k = some (.row T size es)) (hlo : lo ≤ es.length) (hcap : lo + m ≤ cap) (he : spliceE es lo news = es') (hx : s.ev x = some (.b (.part k size lo dlen cap))) (hfine : (s.slots.all fun p => p.2.fine k) = true) (hfx : n.fix.contains k = false) (hnu : noUse k s.own = true)
    (hm : news.length = m) (hml : m ≤ 9223372036854775807)
    (hsrc : ∀ (ac : Act) (w : World) (h : PH) (ρ : RM), WR E n s.own h ρ w → SlotsRel h ρ s.slots ac.tmps → ∃ sb so slen sc cs, ac.eval y = .slice (some ⟨sb, so, none⟩) slen sc ∧ min slen dlen = m ∧ Uniform size news ∧ cellsRel h news.flatten cs ∧ ∀ j u, cs[j]? = some u → w.cell? ⟨sb, so + j, none⟩ = some u) :
    Op1 P E n ⟨dst, .call ⟨.builtin .copy, #[x, y], #[t, yt]⟩, ty, pos, after, g⟩ s ((⟨s.slots, ins k (.row T size es') s.own⟩ : St).put n dst (I (m : Int))) := by
  intro a w hr next Q hnext
  obtain ⟨hdf, hn, h, ρ, hw, hs⟩ := hr
  obtain ⟨b, nn, hρ, hv, hle⟩ := (ev_rel hs hx : BV.rel h ρ (.part k size lo dlen cap) _)
  obtain ⟨sb, so, slen, sc, cs, hy, hmin, hun, hcr, hcell⟩ := hsrc a w h ρ hw hs
  obtain ⟨w', hrun, h1, h2, h3, h4, h5⟩ := copy_core (ty := ty) (yt := yt) (dcap := cap - lo) (sc := sc) hw ht hk hρ (by rw [hmin, hm]) hun hcr hcell hlo (by rw [hm]; exact hcap)
  have hst := hw.step (w' := w') k (.slice (some ⟨b, 0, none⟩) (spliceE es lo news).length cap) (.row T size (spliceE es lo news)) (some b) (fun b' e => by cases e; exact ⟨_, lk_mem hk, by rw [hρ]; rfl⟩) (by omega) h2 h3
    (fun b' _ hne => h4 b' (fun e => hne (by rw [e]))) h5 (fun b' hb' => by simp [blkOf] at hb'; exact .inl (by rw [hb'])) (.inr fun e => by simp at hfx; exact hfx e) (.inr hnu)
  have hrun' : (execOp a.eval (⟨dst, .call ⟨.builtin .copy, #[x, y], #[t, yt]⟩, ty, pos, after, g⟩ : Oper)).run P w = .ok (.value (.int .i64 m)) w' := by
    rw [execOp_builtin]
    show Sem.run _ _ _ = _
    simp only [builtin, List.map_toArray, List.map_cons, List.map_nil, hv, hy]
    rw [Sem.run_bind, hrun, hm]
    rfl
  unfold Oper.wp
  rw [hrun']
  subst he
  refine hnext _ _ (R.put (s := ⟨s.slots, ins k (.row T size (spliceE es lo news)) s.own⟩) hdf hn hst (fun j z hz => ?_) ⟨rfl, inR_len (by rw [maxLen_eq]; exact hml)⟩)
  obtain ⟨v, hv', hrel⟩ := hs j z hz
  exact ⟨v, hv', SV.fine_rel hρ (List.all_eq_true.1 hfine _ hz) hrel⟩
/-- copy of a slice that is only read -/
theorem op_copy_sl {k size bytes lo dlen cap : Nat} {T e : TypeId} {zs : List CP} {es es' news : List (List CP)} (ht : TySl P t e size bytes zs) (hlo : lo ≤ es.length) (hcap : lo + news.length ≤ cap) (hd : news.length ≤ dlen) (hne : 0 < news.length) (hx : s.ev x = some (.b (.part k size lo dlen cap))) (hk : lk s.own k = some (.row T size es)) (hy : s.ev y = some (.b (.one (.sl size news)))) (he : spliceE es lo news = es') (hfine : (s.slots.all fun p => p.2.fine k) = true) (hfx : n.fix.contains k = false) (hml : news.length ≤ 9223372036854775807) (hnu : noUse k s.own = true := by rfl) :
    Op1 P E n ⟨dst, .call ⟨.builtin .copy, #[x, y], #[t, yt]⟩, ty, pos, after, g⟩ s ((⟨s.slots, ins k (.row T size es') s.own⟩ : St).put n dst (I (news.length : Int))) :=
  op_copy_core ht hk hlo hcap he hx hfine hfx hnu rfl hml fun ac w h ρ hw hs => by
    obtain ⟨hu, hz, hf⟩ := (ev_rel hs hy : (CP.sl size news).rel h _)
    rcases hf with ⟨_, he0⟩ | ⟨sb, so, sc, hv, h1, h2, h3⟩
    · rw [he0] at hne; simp at hne
    · obtain ⟨cs, hc1, hc2⟩ := h3.list
      exact ⟨sb, so, news.length, sc, cs, hv, by omega, hu, hc1, fun j u hu => hw.agree _ _ _ (hc2 j u hu)⟩
/-- copy of a part of a row -/
theorem op_copy_part {k k2 size bytes lo dlen cap lo2 slen cap2 m : Nat} {T T2 e : TypeId} {zs : List CP} {es es2 es' : List (List CP)} (ht : TySl P t e size bytes zs) (hlo : lo ≤ es.length) (hcap : lo + m ≤ cap) (hmin : min slen dlen = m) (hl2 : lo2 + m ≤ es2.length) (hx : s.ev x = some (.b (.part k size lo dlen cap))) (hk : lk s.own k = some (.row T size es)) (hy : s.ev y = some (.b (.part k2 size lo2 slen cap2))) (hk2 : lk s.own k2 = some (.row T2 size es2))
    (he : spliceE es lo ((es2.drop lo2).take m) = es') (hfine : (s.slots.all fun p => p.2.fine k) = true) (hfx : n.fix.contains k = false) (hml : m ≤ 9223372036854775807) (hnu : noUse k s.own = true := by rfl) :
    Op1 P E n ⟨dst, .call ⟨.builtin .copy, #[x, y], #[t, yt]⟩, ty, pos, after, g⟩ s ((⟨s.slots, ins k (.row T size es') s.own⟩ : St).put n dst (I (m : Int))) :=
  op_copy_core ht hk hlo hcap he hx hfine hfx hnu (by simp; omega) hml fun ac w h ρ hw hs => by
    obtain ⟨b, nn, hρ, hv, hle⟩ := (ev_rel hs hy : BV.rel h ρ (.part k2 size lo2 slen cap2) _)
    obtain ⟨hu, hz, cap', cur, h1, h2, h3, h4, h5, h6⟩ := row_some hw hk2 hρ
    have hu2 : Uniform size (es2.drop lo2) := fun ps hp => hu ps (List.mem_of_mem_drop hp)
    refine ⟨b, lo2 * size, slen, _, ((cur.toList.take (es2.length * size)).drop (lo2 * size)).take (m * size), hv, hmin, fun ps hp => hu2 ps (List.mem_of_mem_take hp), ?_, fun j u hj => ?_⟩
    · rw [take_flatten hu2, drop_flatten hu]
      exact (All2.drop h6 _).take _
    · rw [List.getElem?_take] at hj
      split at hj
      · rw [List.getElem?_drop, List.getElem?_take] at hj
        split at hj
        · rw [cell_row h2]; simpa using hj
        · simp at hj
      · simp at hj
end
end Go.Sk

/- The framework, part O: append of a make onto a part; overlaps. -/
namespace Go.Sk
set_option linter.unusedSimpArgs false
set_option linter.unusedVariables false
open Go Go.BigFrame
section
variable {P : Program} {TB : Tabs} {E : Env TB} {n : Sh} {s s' : St} {dst : Option Nat} {t ty yt : TypeId} {pos : String} {after : Array Edge} {g : Option (Nat × Bool)} {x y c : Operand} {ops : Array Oper} {l : List Oper} {Q : Post} {cd : Code}
theorem uni_rep {size N : Nat} {zs : List CP} (h : zs.length = size) : Uniform size (List.replicate N zs) := fun ps hp => by rw [List.eq_of_mem_replicate hp]; exact h
theorem zeroCells_rel {h : PH} {zs : List CP} {z : Array Value} {size N : Nat} (hz : z.size = size) (hpos : 0 < size) (hr : cellsRel h zs z.toList) : cellsRel h (List.replicate N zs).flatten (Builtin.zeroCells z N).toList := by
  have hzl : zs.length = size := by rw [hr.length]; simpa using hz
  have hu := uni_rep (N := N) hzl
  refine All2.of_get ?_ fun j cp v h1 h2 => ?_
  · rw [flatten_len hu]; simp [Builtin.zeroCells, hz]
  · have hj : j < N * size := by
      have := (List.getElem?_eq_some_iff.1 h1).1
      rw [flatten_len hu, List.length_replicate] at this
      exact this
    have hdiv : j / size < N := by rw [Nat.div_lt_iff_lt_mul hpos]; exact hj
    have hmod : j % size < size := Nat.mod_lt _ hpos
    have e : j / size * size + j % size = j := by rw [Nat.mul_comm]; exact Nat.div_add_mod j size
    have hg := flatten_get hu (j / size) zs (by rw [List.getElem?_replicate, if_pos hdiv]) (j % size) hmod
    rw [e, h1] at hg
    obtain ⟨u, hu1, hu2⟩ := All2.get hr _ _ hg.symm
    have hv : v = z[j % size]! := by
      simp only [Builtin.zeroCells, Array.toList_map, List.getElem?_map, hz] at h2
      rw [Option.map_eq_some_iff] at h2
      obtain ⟨i, hi, rfl⟩ := h2
      have : i = j := by
        simp at hi
        rw [List.getElem?_range hj] at hi
        simpa using hi.symm
      rw [this]
    rw [hv]
    have hms : j % size < z.size := by omega
    have hu1' : z[j % size] = u := by
      have := hu1
      simp only [Array.getElem?_toList] at this
      rw [Array.getElem?_eq_getElem hms] at this
      exact Option.some.inj this
    rw [getElem!_pos z _ hms, hu1']
    exact hu2
theorem op_append_zeros {k k2 size bytes p cap N : Nat} {T e : TypeId} {zs : List CP} {es es' : List (List CP)} {a : Int} {kn : IntKind} (ht : TySl P t e size bytes zs) (htn : P.underlying yt = some (.int kn)) (hN : 0 < N) (hg : cap < p + N) (hb : (p + N) * bytes ≤ 140737488355328) (hm : p + N ≤ 9223372036854775807)
    (hp : p ≤ es.length) (ha : a = (N : Int)) (he : es.take p ++ List.replicate N zs = es') (hx : s.ev x = some (.b (.part k size 0 p cap))) (hk : lk s.own k = some (.row T size es)) (hy : s.ev y = some (I a)) (hfx : n.fix.contains k2 = false) (hnu : noUse k2 s.own = true := by rfl) :
    Op1 P E n ⟨dst, .call ⟨.builtin .append, #[x, y], #[t, yt]⟩, ty, pos, after, g⟩ s ((⟨dropU k2 s.slots, ins k2 (.row e size es') s.own⟩ : St).put n dst (.b (.row k2))) :=
  Op1.make (hfx := hfx) (hnu := hnu) (o := ⟨dst, .call ⟨.builtin .append, #[x, y], #[t, yt]⟩, ty, pos, after, g⟩) fun ac w h ρ hw hs => by
    obtain ⟨b, nn, hρ, hv, hle⟩ := (ev_rel hs hx : BV.rel h ρ (.part k size 0 p cap) _)
    obtain ⟨hu, hz, cap', cur, h1, h2, h3, h4, h5, h6⟩ := row_some hw hk hρ
    obtain ⟨inf, z, hi, hsz, hby, hz0, hzs, _, hcv⟩ := ht.info
    have hyv := (ev_int hs hy).1
    subst ha
    have hcs : ((cur.toList.take (es.length * size)).take (p * size)).length = p * inf.size := by
      rw [hsz]
      have : p * size ≤ es.length * size := Nat.mul_le_mul_right _ hp
      have : es.length * size ≤ cap' * size := Nat.mul_le_mul_right _ h3
      simp; omega
    have hold := run_firstCells_some (P := P) w.drew inf.size p ⟨b, 0, none⟩ p cap _ hcs (fun j v hj => by
      rw [add_none, Nat.zero_add]
      rw [List.getElem?_take] at hj
      split at hj
      · rw [List.getElem?_take] at hj
        split at hj
        · have := cell_row (w := w) h2 (o := j)
          rw [show w.drew.cell? ⟨b, j, none⟩ = w.cell? ⟨b, j, none⟩ from rfl, this]
          simpa using hj
        · simp at hj
      · simp at hj)
    have hrun := Lib.run_append_grow_zeros w t yt ty e inf z .i64 kn ht.und htn hi hz0 (some ⟨b, 0, none⟩) p cap _ hold N hN (by omega) hg (by omega) (by rw [hby]; have : N * bytes ≤ (p + N) * bytes := Nat.mul_le_mul_right _ (by omega); omega) (growslice_fits hg (by rw [hby]; exact hb))
    have hge := grownCap_ge w (p + N) cap e
    have hmx := grownCap_le_maxLen w (p + N) cap e (by rw [maxLen_eq]; omega)
    subst he
    have hlen : (es.take p ++ List.replicate N zs).length = p + N := by simp; omega
    have hold1 : cellsRel h (es.take p).flatten ((cur.toList.take (es.length * size)).take (p * size)) := by
      rw [take_flatten hu]; exact All2.take h6 _
    have hzr : cellsRel h (List.replicate N zs).flatten (Builtin.zeroCells z.cells N).toList := zeroCells_rel hzs hz (cvs_rel h hcv)
    have hzl : zs.length = size := by rw [(cvs_rel h hcv).length]; simpa using hzs
    have hrel : cellsRel h (es.take p ++ List.replicate N zs).flatten ((cur.toList.take (es.length * size)).take (p * size) ++ (Builtin.zeroCells z.cells N).toList) := by
      rw [List.flatten_append]; exact All2.append hold1 hzr
    have hrl : ((cur.toList.take (es.length * size)).take (p * size) ++ (Builtin.zeroCells z.cells N).toList).length = (p + N) * size := by
      rw [List.length_append, hcs, hsz]; simp [Builtin.zeroCells, hzs, Nat.add_mul]
    have hun : Uniform size (es.take p ++ List.replicate N zs) := fun ps hps => by
      rcases List.mem_append.1 hps with h | h
      · exact hu ps (List.mem_of_mem_take h)
      · exact uni_rep hzl ps h
    obtain ⟨ROW, hROW⟩ : ∃ R, R = ((cur.toList.take (es.length * size)).take (p * size)).toArray ++ Builtin.zeroCells z.cells N ++ Builtin.zeroCells z.cells (grownCap w (p + N) cap e - (p + N)) := ⟨_, rfl⟩
    rw [← hROW] at hrun
    refine ⟨.slice (some ⟨w.heap.size, 0, none⟩) (p + N) (grownCap w (p + N) cap e), .slice (some ⟨w.heap.size, 0, none⟩) (p + N) (grownCap w (p + N) cap e), w.drew.alloc (.cells ROW e), none, ?_, fun b e => by simp at e, ?_, ?_, ?_, ?_,
      ⟨hun, hz, _, ⟨by rw [hlen]; exact hrl, .inr ⟨w.heap.size, grownCap w (p + N) cap e, ROW, by rw [hlen], Nat.zero_le _, heap_alloc_new w.drew _, by rw [hlen]; exact hge, hmx, ?_, ?_⟩⟩, hrel⟩, ?_, (upd_same _ _ _).symm⟩
    · rw [execOp_builtin, builtin_append]
      simp only [List.map_toArray, List.map_cons, List.map_nil, hv, hyv, Nat.zero_mul, Nat.sub_zero]
      rw [Sem.run_bind, hrun]; rfl
    · simp
    · rfl
    · rfl
    · intro b' hb' _; exact heap_alloc_old w.drew _ hb'
    · have h7 : ROW.toList.length = grownCap w (p + N) cap e * size := by
        rw [hROW, Array.toList_append, List.length_append, Array.toList_append, List.toList_toArray, hrl]
        simp only [Builtin.zeroCells, Array.toList_map, List.length_map, Array.length_toList, Array.size_range, hzs]
        rw [← Nat.add_mul]; congr 1; omega
      simpa using h7
    · rw [hlen, hROW]
      simp only [Array.toList_append, List.toList_toArray]
      rw [List.take_append_of_le_length (by rw [hrl]; exact Nat.le_refl _), List.take_of_length_le (by rw [hrl]; exact Nat.le_refl _)]
    · intro b' hb'; simp [blkOf] at hb'; exact .inr (by omega)
end
end Go.Sk

/- The framework, part P: slices.overlaps at a row of one's own. -/
namespace Go.Sk
set_option linter.unusedSimpArgs false
set_option linter.unusedVariables false
open Go Go.BigFrame
theorem run_overlaps_own {P : Program} (w : World) (tS tR e : TypeId) (ht : P.underlying tS = some (.slice e)) (size : Nat) (hz : ∀ w, (Go.sizeOf e).run P w = .ok size w)
    (a b : Addr) (la ca lb cb : Nat) (hne : a.block ≠ b.block) (tA : TypeId) (kA : Nat) (cur : Array Value) (T : TypeId)
    (hsa : w.shape? a.block = some (tA, kA)) (hb : w.heap[b.block]? = some (.cells cur T (0, 0))) (hkB : cur.size ≠ 0) (hkA : kA ≠ 0) :
    (Extern.SlicesOverlaps.overlaps #[tS, tS] #[tR] #[.slice (some a) la ca, .slice (some b) lb cb]).run P w = .ok (.bool false) w := by
  have hnb : (a.block != b.block) = true := by simpa using hne
  have hnb' : (a.block == b.block) = false := by simpa using hne
  have hsb : w.shape? b.block = some (T, cur.size) := by simp [World.shape?, hb]
  have hfb : w.frozen? b = false := by simp [World.frozen?, hb]
  have hfb2 : w.frozen? { block := b.block, off := cur.size } = false := by simp [World.frozen?, hb]
  change Sem.run P (α := Value) (do
    let some t := (#[tS, tS] : Array TypeId)[0]? | stuck "slices.overlaps: no parameter types"
    let .slice elem ← underlying t | stuck "slices.overlaps: slice type expected"
    let size ← sizeOf elem
    match (some a : Option Addr), (some b : Option Addr) with
    | some a, some b =>
      if la = 0 ∨ lb = 0 ∨ size = 0 then pure (Value.bool false)
      else if a.block != b.block && (← frozen a) && (← frozen b) then unsupported .addressObserved
      else do
        if a.block != b.block then do
          noView a; noView b
          if ← mayBeOne a b then return Value.bool ((← choose (.extern "sameAddr.stringBytes" 2)) == 1)
        pure (Value.bool (a.block == b.block && a.off < b.off + lb * size && b.off < a.off + la * size))
    | _, _ => pure (Value.bool false)) w = _
  by_cases h0 : la = 0 ∨ lb = 0 ∨ size = 0
  · simp [run_underlying ht, hz, h0]
  · cases hc : cur.size with
    | zero => exact absurd hc hkB
    | succ kB =>
      rw [hc] at hsb hfb2
      cases kA with
      | zero => exact absurd rfl hkA
      | succ kA =>
      cases hfa : w.frozen? a <;> cases hfe : w.frozen? { block := a.block, off := kA + 1 } <;>
        simp [run_underlying ht, hz, h0, hnb, hnb', frozen, noView, viewAt, mayBeOne, stringish, shape, Sem.run, hsa, hsb, hfa, hfe, hfb, hfb2]

/-- a function of the model's own -/
structure Ext (P : Program) (f : FuncId) (e : Array Value → Sem Value) : Prop where
  ok : ∃ fn, P.funcs[f]? = some fn ∧ (fn.name == "runtime.NumGoroutine") = false ∧ fn.body.isNone = true ∧ Extern.findNext fn = none ∧ Extern.find fn = some e
theorem Ext.run {P : Program} {f : FuncId} {e : Array Value → Sem Value} (h : Ext P f e) (args : Array Value) (w : World) : (callFunc f args).run P w = ((e args).run P w).andThen fun v w' => .ok (.value v) w' := by
  obtain ⟨fn, h1, h2, h3, h4, h5⟩ := h.ok
  exact run_callFunc_extern h1 h2 h3 h4 h5 args w
section
variable {P : Program} {TB : Tabs} {E : Env TB} {n : Sh} {s s' : St} {dst : Option Nat} {t ty yt : TypeId} {pos : String} {after : Array Edge} {g : Option (Nat × Bool)} {x y c : Operand} {ats : Array TypeId}
theorem op_overlaps {f : FuncId} {tR : TypeId} {k size bytes lo len cap : Nat} {T e : TypeId} {zs : List CP} {es news : List (List CP)} (hf : Ext P f (Extern.SlicesOverlaps.overlaps #[t, t] #[tR])) (ht : TySl P t e size bytes zs) (hne : 0 < news.length) (hx : s.ev x = some (.b (.one (.sl size news)))) (hy : s.ev y = some (.b (.part k size lo len cap))) (hk : lk s.own k = some (.row T size es)) (hes : 0 < es.length) :
    Op1 P E n ⟨dst, .call ⟨.value (.func f), #[x, y], ats⟩, ty, pos, after, g⟩ s (s.put n dst (B false)) :=
  Op1.val (o := ⟨dst, .call ⟨.value (.func f), #[x, y], ats⟩, ty, pos, after, g⟩) fun ac w h ρ hw hs => by
    obtain ⟨inf, z, hi, hsz, _⟩ := ht.info
    obtain ⟨b, nn, hρ, hv, hle⟩ := (ev_rel hs hy : BV.rel h ρ (.part k size lo len cap) _)
    obtain ⟨hu, hz, cap', cur, h1, h2, h3, h4, h5, h6⟩ := row_some hw hk hρ
    obtain ⟨hun, _, hsl⟩ := (ev_rel hs hx : (CP.sl size news).rel h _)
    refine ⟨.bool false, ?_, rfl⟩
    rw [show execOp ac.eval (⟨dst, .call ⟨.value (.func f), #[x, y], ats⟩, ty, pos, after, g⟩ : Oper) = callFunc f (#[] ++ (#[x, y] : Array Operand).map ac.eval ++ #[]) from rfl, hf.run]
    rcases hsl with ⟨_, he0⟩ | ⟨sb, so, sc, hxv, _, _, hrd⟩
    · rw [he0] at hne; simp at hne
    · have hargs : (#[] ++ (#[x, y] : Array Operand).map ac.eval ++ #[]) = #[.slice (some ⟨sb, so, none⟩) news.length sc, .slice (some ⟨b, lo * size, none⟩) len (cap - lo)] := by
        simp [hxv, hv]
      rw [hargs]
      have hfl : 0 < news.flatten.length := by rw [flatten_len hun]; exact Nat.mul_pos hne hz
      obtain ⟨u, hu1, _⟩ := hrd 0 _ (List.getElem?_eq_getElem hfl)
      have hcell := hw.agree _ _ _ hu1
      have hne' : sb ≠ b := fun e' => by
        have := ((hw.owned k _ (lk_mem hk)).2.1 b (by rw [hρ]; rfl)).2 (so + 0)
        rw [e'] at hu1; rw [hu1] at this; simp at this
      have hsa : ∃ tA kA, w.shape? sb = some (tA, kA) ∧ kA ≠ 0 := by
        simp only [World.cell?] at hcell
        split at hcell
        · rename_i c' t' fr' hh
          refine ⟨t', c'.size, by simp [World.shape?, hh], fun e0 => ?_⟩
          have : c' = #[] := Array.eq_empty_of_size_eq_zero e0
          simp [this] at hcell
        · simp at hcell
      obtain ⟨tA, kA, hsa1, hsa2⟩ := hsa
      have hc0 : cur.size ≠ 0 := by
        rw [h5]
        have : 0 < cap' * size := Nat.mul_pos (by omega) hz
        omega
      rw [run_overlaps_own w t tR e ht.und size (fun w => by rw [run_sizeOf (i := inf) hi, hsz]) ⟨sb, so, none⟩ ⟨b, lo * size, none⟩ _ _ _ _ hne' tA kA cur T hsa1 h2 hc0 hsa2]
      rfl
end
end Go.Sk

/- The framework, part Q: typed forms for parts. -/
namespace Go.Sk
set_option linter.unusedSimpArgs false
set_option linter.unusedVariables false
open Go
theorem map_zeros {α : Type} (xs : List α) (e : α → List CP) (p N : Nat) (z : α) : (xs.map e).take p ++ List.replicate N (e z) = (xs.take p ++ List.replicate N z).map e := by
  simp [List.map_take]
theorem map_spliceP {α : Type} (e : α → List CP) (xs ys : List α) (lo a m : Nat) : spliceE (xs.map e) lo (((ys.map e).drop a).take m) = (spliceE xs lo ((ys.drop a).take m)).map e := by
  rw [← map_spliceE, List.map_take, List.map_drop]
section
variable {P : Program} {TB : Tabs} {E : Env TB} {n : Sh} {s s' : St} {ops : Array Oper} {l : List Oper} {Q : Post}
/-- a part that is all of its row -/
theorem R.partrow {i k size m cap : Nat} {T : TypeId} {es : List (List CP)} {a : Act} {w : World} (hr : R E n s a w) (hi : s.get i = some (.b (.part k size 0 m cap))) (hk : lk s.own k = some (.row T size es)) (hm : m = es.length) : R E n ⟨(i, .b (.row k)) :: del i s.slots, s.own⟩ a w := by
  obtain ⟨h1, h2, h, ρ, hw, hs⟩ := hr
  refine ⟨h1, h2, h, ρ, hw, ?_⟩
  intro j x hx
  cases List.mem_cons.1 hx with
  | inl e =>
    obtain ⟨rfl, rfl⟩ := Prod.mk.inj e
    obtain ⟨v, hv, b, nn, e1, e2, e3⟩ := hs _ _ (lk_mem (show lk s.slots j = some _ from hi))
    obtain ⟨_, _, cap', cur, f1, _⟩ := row_some hw hk e1
    refine ⟨v, hv, ?_⟩
    have hc : cap' = cap := by rw [e1] at f1; simp at f1; exact f1.2.symm
    show v = ρ k
    rw [e2, f1, hm, Nat.zero_mul, Nat.sub_zero, hc]
  | inr e => exact hs j x (mem_del e).1
theorem OpsL.partrow (i k : Nat) {size m cap : Nat} {T : TypeId} {es : List (List CP)} (hi : s.get i = some (.b (.part k size 0 m cap))) (hk : lk s.own k = some (.row T size es)) (hm : m = es.length) (h : OpsL P E n ops l ⟨(i, .b (.row k)) :: del i s.slots, s.own⟩ Q) : OpsL P E n ops l s Q :=
  fun a w hr => h a w (hr.partrow hi hk hm)
theorem Fin.partrow {e : Exit} (i k : Nat) {size m cap : Nat} {T : TypeId} {es : List (List CP)} (hi : s.get i = some (.b (.part k size 0 m cap))) (hk : lk s.own k = some (.row T size es)) (hm : m = es.length) (h : Fin E n e ⟨(i, .b (.row k)) :: del i s.slots, s.own⟩ Q) : Fin E n e s Q :=
  fun a w hr => h a w (hr.partrow hi hk hm)
end
end Go.Sk

/- The framework, part R: what a function computes is printed as a function into Option; the walk follows it. -/
namespace Go.Sk
set_option linter.unusedSimpArgs false
set_option linter.unusedVariables false
open Go

/-! ## the words in which a function is printed -/
def letN {α β : Type} (a : α) (k : α → β) : β := k a
@[reducible] def un2 {α β γ : Type} (f : α → β → γ) (z : α × β) : γ := f z.1 z.2
@[reducible] def un3 {α β γ δ : Type} (f : α → β → γ → δ) (z : α × β × γ) : δ := f z.1 z.2.1 z.2.2
@[reducible] def un4 {α β γ δ ε : Type} (f : α → β → γ → δ → ε) (z : α × β × γ × δ) : ε := f z.1 z.2.1 z.2.2.1 z.2.2.2
@[reducible] def un5 {α β γ δ ε ζ : Type} (f : α → β → γ → δ → ε → ζ) (z : α × β × γ × δ × ε) : ζ := f z.1 z.2.1 z.2.2.1 z.2.2.2.1 z.2.2.2.2
@[reducible] def un6 {α β γ δ ε ζ η : Type} (f : α → β → γ → δ → ε → ζ → η) (z : α × β × γ × δ × ε × ζ) : η := f z.1 z.2.1 z.2.2.1 z.2.2.2.1 z.2.2.2.2.1 z.2.2.2.2.2
@[reducible] def un7 {α β γ δ ε ζ η θ : Type} (f : α → β → γ → δ → ε → ζ → η → θ) (z : α × β × γ × δ × ε × ζ × η) : θ := f z.1 z.2.1 z.2.2.1 z.2.2.2.1 z.2.2.2.2.1 z.2.2.2.2.2.1 z.2.2.2.2.2.2
@[reducible] def un8 {α β γ δ ε ζ η θ κ : Type} (f : α → β → γ → δ → ε → ζ → η → θ → κ) (z : α × β × γ × δ × ε × ζ × η × θ) : κ := f z.1 z.2.1 z.2.2.1 z.2.2.2.1 z.2.2.2.2.1 z.2.2.2.2.2.1 z.2.2.2.2.2.2.1 z.2.2.2.2.2.2.2
@[reducible] def un0 {γ : Type} (f : γ) (_ : Unit) : γ := f
/-- which end it was -/
@[reducible] def alt2 {α β γ : Type} (f : α → γ) (g : β → γ) (z : α ⊕ β) : γ := match z with | .inl x => f x | .inr y => g y
/-- a loop: at most n rounds -/
def iter {σ τ : Type} : Nat → (σ → Option (σ ⊕ τ)) → σ → Option τ
  | 0, _, _ => none
  | n + 1, body, s => (body s).bind (alt2 (iter n body) some)
def idx? {α : Type} [Inhabited α] (xs : List α) (i : Int) : Option α := if 0 ≤ i ∧ i < xs.length then some (idx xs i) else none
def app? {α : Type} (xs ys : List α) : Option (List α) := if xs.length + ys.length ≤ 1000000000 then some (xs ++ ys) else none
def drop? {α : Type} (xs : List α) (i : Int) : Option (List α) := if 0 ≤ i ∧ i ≤ xs.length then some (xs.drop i.toNat) else none
def take? {α : Type} (xs : List α) (i : Int) : Option (List α) := if 0 ≤ i ∧ i ≤ xs.length then some (xs.take i.toNat) else none
def quo? (k : IntKind) (a b : Int) : Option Int := if b = 0 then none else some (k.wrap (a.tdiv b))
def rem? (a b : Int) : Option Int := if b = 0 then none else some (a.tmod b)
/-- only under a guard -/
def gcall {α : Type} [Inhabited α] (g : Bool) (m : Option α) : Option α := if g then m else some default
def req? (b : Bool) : Option Unit := if b then some () else none

theorem bnd {α β : Type} {m : Option α} {k : α → Option β} {r : β} (h : m.bind k = some r) : ∃ x, m = some x ∧ k x = some r := by
  cases m with
  | none => simp at h
  | some x => exact ⟨x, rfl, h⟩
theorem gc {α : Type} [Inhabited α] {g : Bool} {m : Option α} {x : α} (h : gcall g m = some x) (hg : g = true) : m = some x := by subst hg; exact h
theorem ix_lo {α : Type} [Inhabited α] {xs : List α} {i : Int} {x : α} (h : idx? xs i = some x) : 0 ≤ i := by
  unfold idx? at h; split at h
  · exact (by assumption : 0 ≤ i ∧ _).1
  · simp at h
theorem ix_hi {α : Type} [Inhabited α] {xs : List α} {i : Int} {x : α} (h : idx? xs i = some x) : i < xs.length := by
  unfold idx? at h; split at h
  · exact (by assumption : 0 ≤ i ∧ _).2
  · simp at h
theorem ix_eq {α : Type} [Inhabited α] {xs : List α} {i : Int} {x : α} (h : idx? xs i = some x) : idx xs i = x := by
  unfold idx? at h; split at h
  · simpa using h
  · simp at h
theorem ix_get {α : Type} [Inhabited α] {xs : List α} {i : Int} {x : α} (h : idx? xs i = some x) : xs[i.toNat]? = some x := by
  rw [idx_eq (ix_lo h) (ix_hi h), ix_eq h]
theorem ix_map {α β : Type} [Inhabited α] {xs : List α} {i : Int} {x : α} {e : α → β} (h : idx? xs i = some x) : (xs.map e)[i.toNat]? = some (e x) := by
  rw [List.getElem?_map, ix_get h]; rfl
theorem ix_lt {α β : Type} [Inhabited α] {xs : List α} {i : Int} {x : α} {e : α → β} (h : idx? xs i = some x) : i.toNat < (xs.map e).length := by
  have := ix_lo h; have := ix_hi h; simp; omega
theorem ix_lt' {α β : Type} [Inhabited α] {xs : List α} {i : Int} {x : α} {e : α → β} (h : idx? xs i = some x) : i < ((xs.map e).length : Int) := by
  have := ix_hi h; simpa using this
theorem idx?_eq {α : Type} [Inhabited α] {xs : List α} {i : Int} (h0 : 0 ≤ i) (h1 : i < xs.length) : idx? xs i = some (idx xs i) := by simp [idx?, h0, h1]
theorem app_len {α : Type} {xs ys z : List α} (h : app? xs ys = some z) : xs.length + ys.length ≤ 1000000000 := by
  unfold app? at h; split at h
  · assumption
  · simp at h
theorem app_eq {α : Type} {xs ys z : List α} (h : app? xs ys = some z) : xs ++ ys = z := by
  unfold app? at h; split at h
  · simpa using h
  · simp at h
theorem app_map {α : Type} {xs ys z : List α} {e : α → List CP} (h : app? xs ys = some z) : xs.map e ++ ys.map e = z.map e := by rw [← app_eq h, List.map_append]
theorem app_b {α β : Type} {xs ys z : List α} {e : α → β} (h : app? xs ys = some z) {bytes : Nat} (hb : bytes ≤ 140737 := by decide) : ((xs.map e).length + (ys.map e).length) * bytes ≤ 140737488355328 := by
  have := app_len h
  simp only [List.length_map]
  calc (xs.length + ys.length) * bytes ≤ 1000000000 * 140737 := Nat.mul_le_mul this hb
    _ ≤ _ := by decide
theorem app_m {α β : Type} {xs ys z : List α} {e : α → β} (h : app? xs ys = some z) : (xs.map e).length + (ys.map e).length ≤ 9223372036854775807 := by
  have := app_len h
  simp only [List.length_map]; omega
theorem app?_eq {α : Type} {xs ys : List α} (h : xs.length + ys.length ≤ 1000000000) : app? xs ys = some (xs ++ ys) := by simp [app?, h]
theorem drop_ok {α : Type} {xs z : List α} {i : Int} (h : drop? xs i = some z) : 0 ≤ i ∧ i ≤ xs.length ∧ xs.drop i.toNat = z := by
  unfold drop? at h; split at h
  · next hh => exact ⟨hh.1, hh.2, by simpa using h⟩
  · simp at h
theorem take_ok {α : Type} {xs z : List α} {i : Int} (h : take? xs i = some z) : 0 ≤ i ∧ i ≤ xs.length ∧ xs.take i.toNat = z := by
  unfold take? at h; split at h
  · next hh => exact ⟨hh.1, hh.2, by simpa using h⟩
  · simp at h
theorem quo_ok {k : IntKind} {a b z : Int} (h : quo? k a b = some z) : b ≠ 0 ∧ k.wrap (a.tdiv b) = z := by
  unfold quo? at h; split at h
  · simp at h
  · exact ⟨by assumption, by simpa using h⟩
theorem rem_ok {a b z : Int} (h : rem? a b = some z) : b ≠ 0 ∧ a.tmod b = z := by
  unfold rem? at h; split at h
  · simp at h
  · exact ⟨by assumption, by simpa using h⟩
theorem req_ok {b : Bool} {u : Unit} (h : req? b = some u) : b = true := by
  unfold req? at h; split at h
  · assumption
  · simp at h

section
variable {σ τ : Type} {body : σ → Option (σ ⊕ τ)}
theorem iter_zero {s : σ} : iter 0 body s = none := rfl
theorem iter_succ {n : Nat} {s : σ} : iter (n + 1) body s = (body s).bind (alt2 (iter n body) some) := rfl
/-- a loop, by what holds at each round -/
theorem iter_spec (I : σ → Prop) (μ : σ → Nat) (Post : τ → Prop) (step : ∀ s, I s → ∃ o, body s = some o ∧ (∀ s', o = .inl s' → I s' ∧ μ s' < μ s) ∧ ∀ t, o = .inr t → Post t) :
    ∀ (n : Nat) (s : σ), I s → μ s < n → ∃ t, iter n body s = some t ∧ Post t := by
  intro n
  induction n with
  | zero => intro s _ h; omega
  | succ n ih =>
    intro s hI hlt
    obtain ⟨o, ho, h1, h2⟩ := step s hI
    rw [iter_succ, ho]
    cases o with
    | inl s' => obtain ⟨hI', hm⟩ := h1 s' rfl; exact ih s' hI' (by omega)
    | inr t => exact ⟨t, rfl, h2 t rfl⟩
end

theorem neg_dec {p : Prop} [Decidable p] : (!decide p) = decide (¬ p) := by simp

/-! ## the walk along it -/
section
variable {P : Program} {TB : Tabs} {E : Env TB} {n : Sh} {ops : Array Oper} {l : List Oper} {s s' : St} {Q : Post} {o : Oper} {c x y : Code}

theorem OpsL.consI {α : Type} (k : IntKind) {a : Int} {K : Int → Option α} {r : α} (h : letN a K = some r) (hg : o.guard = none) (h1 : Op1 P E n o s (s.put n o.dst (.b (.one (.int k a)))))
    (H : ∀ z, K z = some r → OpsL P E n ops l (s.put n o.dst (.b (.one (.int k z)))) Q) : OpsL P E n ops (o :: l) s Q := OpsL.cons hg h1 (H a h)
theorem OpsL.consB {α : Type} {a : Bool} {K : Bool → Option α} {r : α} (h : letN a K = some r) (hg : o.guard = none) (h1 : Op1 P E n o s (s.put n o.dst (.b (.one (.bool a)))))
    (H : ∀ z, K z = some r → OpsL P E n ops l (s.put n o.dst (.b (.one (.bool z)))) Q) : OpsL P E n ops (o :: l) s Q := OpsL.cons hg h1 (H a h)
theorem Tri.ite {α : Type} {t : Nat} {b : Bool} {A B : Option α} {r : α} (h : (if b = true then A else B) = some r) (hs : s.get t = some (.b (.one (.bool b)))) (h1 : b = true → A = some r → Tri P E n x s Q) (h2 : b = false → B = some r → Tri P E n y s Q) : Tri P E n (.cond (.tmp t) x y) s Q := by
  refine Tri.cond hs (fun e => h1 e ?_) (fun e => h2 e ?_)
  · subst e; exact h
  · subst e; exact h
theorem Tri.seqJ {σ τ : Type} {v : τ} (S : σ → St) (al : σ → τ) (h1 : Tri P E n x s (Exit.then (fun a w => ∃ z, v = al z ∧ R E n (S z) a w) Q)) (h2 : ∀ z, v = al z → Tri P E n y (S z) Q) : Tri P E n (.seq x y) s Q := by
  refine Tri.seq fun a w hr => ?_
  refine Code.wp_mono (fun e a' w' he => ?_) (h1 a w hr)
  cases e with
  | normal => obtain ⟨z, hz, hr'⟩ := he; exact h2 z hz a' w' hr'
  | exit id => exact he
  | goto l => exact he
  | ret => exact he
  | panic ch => exact he
  | outgrown => exact he
theorem Fin.join {σ τ : Type} {v : τ} {S : σ → St} {al : σ → τ} (ks kos : List Nat) (z : σ) (hv : al z = v) (hs : s.keep ks kos = S z) : Fin E n .normal s (Exit.then (fun a w => ∃ z, v = al z ∧ R E n (S z) a w) Q) :=
  fun _ _ hr => ⟨z, hv.symm, hs ▸ hr.keep ks kos⟩
theorem Tri.loopJ {σ τ : Type} {F : Nat} {body : σ → Option (σ ⊕ τ)} {s0 : σ} {v : τ} (h : iter F body s0 = some v) (S : σ → St) (ks kos : List Nat) (hs : s.keep ks kos = S s0)
    (round : ∀ z o, body z = some o → (∀ y, o = .inr y → y = v) → Tri P E n c (S z) (Exit.then (fun a w => ∃ z', o = .inl z' ∧ R E n (S z') a w) Q)) : Tri P E n (.loop c) s Q := by
  refine Tri.keep ks kos hs ?_
  refine Tri.loop (ι := σ × Nat) (fun j => S j.1) (fun j => iter j.2 body j.1 = some v) (fun j => j.2) (s0, F) h rfl ?_
  rintro ⟨z, m⟩ hj
  dsimp only at hj ⊢
  cases m with
  | zero => simp [iter_zero] at hj
  | succ m =>
    rw [iter_succ] at hj
    obtain ⟨o, ho, hj⟩ := bnd hj
    intro a w hr
    refine Code.wp_mono (fun e a' w' he => ?_) (round z o ho (fun y hy => by subst hy; exact Option.some.inj hj) a w hr)
    cases e with
    | normal => obtain ⟨z', hz, hr'⟩ := he; subst hz; exact ⟨(z', m), hj, Nat.lt_succ_self m, hr'⟩
    | exit id => exact he
    | goto l => exact he
    | ret => exact he
    | panic ch => exact he
    | outgrown => exact he
theorem Fin.againJ {σ τ : Type} {o : σ ⊕ τ} {S : σ → St} (ks kos : List Nat) (z : σ) (hv : .inl z = o) (hs : s.keep ks kos = S z) : Fin E n .normal s (Exit.then (fun a w => ∃ z', o = .inl z' ∧ R E n (S z') a w) Q) :=
  fun _ _ hr => ⟨z, hv.symm, hs ▸ hr.keep ks kos⟩
theorem OpsL.nilT {y : Code} (h : Tri P E n y s Q) : OpsL P E n ops [] s (Exit.then (y.wp P Q) Q) := fun a w hr => h a w hr
end
end Go.Sk

/- The framework, part S: operations as the printed functions have them. -/
namespace Go.Sk
set_option linter.unusedSimpArgs false
set_option linter.unusedVariables false
open Go
section
variable {P : Program} {TB : Tabs} {E : Env TB} {n : Sh} {s s' : St} {dst : Option Nat} {t ty yt : TypeId} {pos : String} {after : Array Edge} {g : Option (Nat × Bool)} {x y c : Operand} {k : IntKind} {a b : Int} {ops : Array Oper} {l : List Oper} {Q : Post} {cd : Code}
theorem op_rem2 {z : Int} (h : rem? a b = some z) (hx : s.ev x = some (.b (.one (.int k a)))) (hy : s.ev y = some (.b (.one (.int k b)))) : Op1 P E n ⟨dst, .binOp .rem t x y yt, ty, pos, after, g⟩ s (s.put n dst (.b (.one (.int k z)))) := by
  obtain ⟨h1, rfl⟩ := rem_ok h
  exact op_rem h1 hx hy
theorem op_quo2 {z : Int} (h : quo? k a b = some z) (hx : s.ev x = some (.b (.one (.int k a)))) (hy : s.ev y = some (.b (.one (.int k b)))) : Op1 P E n ⟨dst, .binOp .quo t x y yt, ty, pos, after, g⟩ s (s.put n dst (.b (.one (.int k z)))) := by
  obtain ⟨h1, rfl⟩ := quo_ok h
  exact Op1.val (o := ⟨dst, .binOp .quo t x y yt, ty, pos, after, g⟩) fun ac w h' ρ hw hs => by
    refine ⟨.int k (k.wrap (a.tdiv b)), ?_, rfl, wrap_inR _ _⟩
    simp only [execOp, (ev_int hs hx).1, (ev_int hs hy).1]
    simp [eqGuard, binOp, Op.intDiv, h1]
theorem op_add_str2 {u v z : Str} (h : app? u v = some z) (hx : s.ev x = some (.b (.one (.str u)))) (hy : s.ev y = some (.b (.one (.str v)))) : Op1 P E n ⟨dst, .binOp .add t x y yt, ty, pos, after, g⟩ s (s.put n dst (.b (.one (.str z)))) := by
  have h1 := app_len h
  have h2 := app_eq h
  subst h2
  exact op_add_str (by omega) hx hy
theorem op_conv_wrap {src d : TypeId} {k k0 : IntKind} {a : Int} (hsrc : P.underlying src = some (.int k0)) (ht : P.underlying d = some (.int k)) (hx : s.ev x = some (.b (.one (.int k0 a)))) :
    Op1 P E n ⟨dst, .convert src d x, ty, pos, after, g⟩ s (s.put n dst (.b (.one (.int k (k.wrap a))))) :=
  Op1.val (o := ⟨dst, .convert src d x, ty, pos, after, g⟩) fun ac w h' ρ hw hs => by
    refine ⟨.int k (k.wrap a), ?_, rfl, wrap_inR _ _⟩
    simp only [execOp, (ev_int hs hx).1]
    simp [convert, run_underlying hsrc, run_underlying ht, Conv.intToInt]
theorem op_shr2 {k2 : IntKind} {m : Nat} (hm : m ≤ k.bits) (hx : s.ev x = some (.b (.one (.int k a)))) (hy : s.ev y = some (.b (.one (.int k2 (m : Int))))) {q : Int} (hq : a / 2 ^ m = q) :
    Op1 P E n ⟨dst, .binOp .shr t x y yt, ty, pos, after, g⟩ s (s.put n dst (.b (.one (.int k q)))) :=
  Op1.val (o := ⟨dst, .binOp .shr t x y yt, ty, pos, after, g⟩) fun ac w h' ρ hw hs => by
    have hra := (ev_int hs hx).2
    have hpos : (0 : Int) < 2 ^ m := Int.pow_pos (by decide)
    refine ⟨.int k q, ?_, rfl, ?_⟩
    · have hmin : min m k.bits = m := Nat.min_eq_left hm
      have hd : a.fdiv (2 ^ m) = q := by rw [← hq, Int.fdiv_eq_ediv_of_nonneg _ (Int.pow_nonneg (by decide))]
      simp only [execOp, (ev_int hs hx).1, (ev_int hs hy).1]
      have hneg : ¬ ((m : Int) < 0) := by omega
      simp [eqGuard, binOp, Op.shift, hmin, hd, hneg]
    · unfold inR at hra ⊢
      have h5 : k.min ≤ 0 := by cases k <;> simp [IntKind.min, IntKind.signed, IntKind.bits]
      have h6 : 0 ≤ k.max := by cases k <;> simp [IntKind.max, IntKind.signed, IntKind.bits]
      subst hq
      by_cases h0 : 0 ≤ a
      · have h1 : 0 ≤ a / 2 ^ m := Int.ediv_nonneg h0 (Int.le_of_lt hpos)
        have h2 : a / 2 ^ m ≤ a := Int.ediv_le_self _ h0
        omega
      · have h1 : a / 2 ^ m ≤ 0 := by
          have := Int.ediv_neg_of_neg_of_pos (by omega : a < 0) hpos; omega
        have h2 : a ≤ a / 2 ^ m := by
          rw [Int.le_ediv_iff_mul_le hpos]
          have h3 : (1 : Int) ≤ 2 ^ m := by omega
          have h4 : a * 2 ^ m ≤ a * 1 := Int.mul_le_mul_of_nonpos_left (by omega) h3
          omega
        omega

/-! ## another key for a row -/
def BV.renA (k k' : Nat) : BV → BV
  | .row j => if j == k then .row k' else .row j
  | .ptr j o => if j == k then .ptr k' o else .ptr j o
  | .rptr j o => if j == k then .rptr k' o else .rptr j o
  | .part j a b c d => if j == k then .part k' a b c d else .part j a b c d
  | .psl j a b c => if j == k then .psl k' a b c else .psl j a b c
  | z => z
def SV.renA (k k' : Nat) : SV → SV
  | .b z => .b (z.renA k k')
  | .tup l => .tup (l.map (·.renA k k'))
  | .xagg l => .xagg (l.map (·.renA k k'))
  | .opt c z => .opt c (z.renA k k')
def renS (k k' : Nat) (l : List (Nat × SV)) : List (Nat × SV) := l.map fun p => (p.1, p.2.renA k k')
theorem BV.renA_rel {h : PH} {ρ ρ' : RM} {k k' : Nat} (hk : ρ' k' = ρ k) {z : BV} (ho : ∀ j, j ≠ k → z.uses j = true → ρ' j = ρ j) {v : Value} (hz : z.rel h ρ v) : (z.renA k k').rel h ρ' v := by
  cases z with
  | row j =>
    by_cases e : j = k
    · subst e; simpa [BV.renA, BV.rel, hk] using hz
    · have := ho j e (by simp [BV.uses]); simpa [BV.renA, BV.rel, e, this] using hz
  | ptr j o =>
    by_cases e : j = k
    · subst e; simpa [BV.renA, BV.rel, hk] using hz
    · have := ho j e (by simp [BV.uses]); simpa [BV.renA, BV.rel, e, this] using hz
  | rptr j o =>
    by_cases e : j = k
    · subst e; simpa [BV.renA, BV.rel, hk] using hz
    · have := ho j e (by simp [BV.uses]); simpa [BV.renA, BV.rel, e, this] using hz
  | part j a b c d =>
    by_cases e : j = k
    · subst e; simpa [BV.renA, BV.rel, hk] using hz
    · have := ho j e (by simp [BV.uses]); simpa [BV.renA, BV.rel, e, this] using hz
  | psl j a b c =>
    by_cases e : j = k
    · subst e; simpa [BV.renA, BV.rel, hk] using hz
    · have := ho j e (by simp [BV.uses]); simpa [BV.renA, BV.rel, e, this] using hz
  | one p => exact hz
  | agg ps => exact hz
  | eptr ps => exact hz
theorem SV.renA_rel {h : PH} {ρ ρ' : RM} {k k' : Nat} (hk : ρ' k' = ρ k) {z : SV} (ho : ∀ j, j ≠ k → z.uses j = true → ρ' j = ρ j) {v : Value} (hz : z.rel h ρ v) : (z.renA k k').rel h ρ' v := by
  cases z with
  | b z => exact BV.renA_rel hk ho hz
  | opt c z => exact ⟨fun e => BV.renA_rel hk ho (hz.1 e), hz.2⟩
  | tup zs =>
    obtain ⟨vs, e, ha⟩ := hz
    refine ⟨vs, e, ?_⟩
    clear e
    have ho' : ∀ j, j ≠ k → zs.any (·.uses j) = true → ρ' j = ρ j := ho
    clear ho
    generalize vs.toList = vl at ha
    induction ha with
    | nil => exact .nil
    | cons h1 t ih =>
      refine .cons (BV.renA_rel hk (fun j hj hu => ho' j hj (by simp [hu])) h1) (ih fun j hj hu => ho' j hj (by simp only [List.any_cons, hu, Bool.or_true]))
  | xagg zs =>
    obtain ⟨vs, e, ha⟩ := hz
    refine ⟨vs, e, ?_⟩
    clear e
    have ho' : ∀ j, j ≠ k → zs.any (·.uses j) = true → ρ' j = ρ j := ho
    clear ho
    generalize vs.toList = vl at ha
    induction ha with
    | nil => exact .nil
    | cons h1 t ih =>
      refine .cons ⟨BV.renA_rel hk (fun j hj hu => ho' j hj (by simp [hu])) h1.1, h1.2⟩ (ih fun j hj hu => ho' j hj (by simp only [List.any_cons, hu, Bool.or_true]))
def OC.renA (k k' : Nat) : OC → OC
  | .xbox T cs => .xbox T (cs.map (·.renA k k'))
  | c => c
def renO (k k' : Nat) (l : List (Nat × OC)) : List (Nat × OC) := l.map fun p => (p.1, p.2.renA k k')
theorem OC.renA_ok {h : PH} {ρ ρ' : RM} {k k' : Nat} (hk : ρ' k' = ρ k) {c : OC} (ho : ∀ j, j ≠ k → c.uses j = true → ρ' j = ρ j) {v : Value} {w : World} (hc : c.ok h ρ v w) : (c.renA k k').ok h ρ' v w := by
  cases c with
  | box T ps => exact hc
  | row T size es => exact hc
  | frow T size es => exact hc
  | xbox T cs =>
    obtain ⟨b, cur, e1, e2, ha⟩ := hc
    refine ⟨b, cur, e1, e2, ?_⟩
    clear e2
    have ho' : ∀ j, j ≠ k → (cs.any (·.uses j)) = true → ρ' j = ρ j := ho
    clear ho
    generalize cur.toList = l at ha
    induction ha with
    | nil => exact .nil
    | cons h1 t ih => exact .cons ⟨BV.renA_rel hk (fun j hj hu => ho' j hj (by simp [hu])) h1.1, h1.2⟩ (ih fun j hj hu => ho' j hj (by simp only [List.any_cons, hu, Bool.or_true]))
theorem R.rename {a : Act} {w : World} {c : OC} (hr : R E n s a w) (k k' : Nat) (hk : lk s.own k = some c) (hne : k' ≠ k) (hfx : n.fix.contains k' = false) (hnu : noUse k' s.own = true) : R E n ⟨renS k k' (dropU k' s.slots), ins k' (c.renA k k') (renO k k' (del k s.own))⟩ a w := by
  obtain ⟨hd, hn, h, ρ, hw, hs⟩ := hr
  have hfx' : k' ∉ n.fix := by simpa using hfx
  refine ⟨hd, hn, h, upd ρ k' (ρ k), ⟨hw.agree, hw.le, hw.fresh, hw.size, hw.same, fun j hj => ?_, hw.os, hw.out, hw.nl, ?_⟩, ?_⟩
  · have hjk : j ≠ k' := fun e => by subst e; exact hfx' hj
    rw [upd_other _ _ hjk]; exact hw.fixed j hj
  · have hkm := lk_mem hk
    have old : ∀ j x, (j, x) ∈ ins k' (c.renA k k') (renO k k' (del k s.own)) → ∃ i y, (i, y) ∈ s.own ∧ x = y.renA k k' ∧ upd ρ k' (ρ k) j = ρ i ∧ (j = k' → i = k) ∧ (j ≠ k' → i = j ∧ j ≠ k) := fun j x hj => by
      rcases mem_ins hj with ⟨rfl, rfl⟩ | ⟨h1, h2⟩
      · exact ⟨k, c, hkm, rfl, upd_same _ _ _, fun _ => rfl, fun e => absurd rfl e⟩
      · obtain ⟨⟨j0, y⟩, h3, he⟩ := List.mem_map.1 h2
        obtain ⟨rfl, rfl⟩ := Prod.mk.inj he
        obtain ⟨h4, h5⟩ := mem_del h3
        exact ⟨_, y, h4, rfl, upd_other _ _ h1, fun e => absurd e h1, fun _ => ⟨rfl, h5⟩⟩
    intro j x hj
    obtain ⟨i, y, hi, rfl, hρ, hi1, hi2⟩ := old j x hj
    obtain ⟨e1, e2, e3⟩ := hw.owned i y hi
    rw [hρ]
    refine ⟨OC.renA_ok (upd_same _ _ _) (fun q _ hu => upd_other _ _ fun e => ?_) e1, e2, fun j' x' hj' hne' b hb => ?_⟩
    · subst e
      rw [noUse_mem hnu hi] at hu
      simp at hu
    obtain ⟨i', y', hi', _, hρ', hi1', hi2'⟩ := old j' x' hj'
    rw [hρ']
    refine e3 i' y' hi' (fun e => hne' ?_) b hb
    by_cases h1 : j = k'
    · by_cases h2 : j' = k'
      · rw [h1, h2]
      · have := hi1 h1; have h3 := hi2' h2; omega
    · have h3 := hi2 h1
      by_cases h2 : j' = k'
      · have := hi1' h2; omega
      · have := hi2' h2; omega
  · intro i z hz
    obtain ⟨⟨i0, z0⟩, hm, he⟩ := List.mem_map.1 hz
    obtain ⟨rfl, rfl⟩ := Prod.mk.inj he
    obtain ⟨hm1, hm2⟩ := mem_dropU hm
    obtain ⟨v, hv, hrel⟩ := hs _ _ hm1
    refine ⟨v, hv, SV.renA_rel (upd_same _ _ _) (fun j _ hu => upd_other _ _ fun e => ?_) hrel⟩
    subst e
    rw [hm2] at hu
    simp at hu
theorem Fin.rename {e : Exit} (k k' : Nat) {c : OC} (hk : lk s.own k = some c) (hne : k' ≠ k) (hfx : n.fix.contains k' = false) (h : Fin E n e ⟨renS k k' (dropU k' s.slots), ins k' (c.renA k k') (renO k k' (del k s.own))⟩ Q) (hnu : noUse k' s.own = true := by rfl) : Fin E n e s Q := fun a w hr => h a w (hr.rename k k' hk hne hfx hnu)
theorem Tri.rename (k k' : Nat) {c : OC} (hk : lk s.own k = some c) (hne : k' ≠ k) (hfx : n.fix.contains k' = false) (h : Tri P E n cd ⟨renS k k' (dropU k' s.slots), ins k' (c.renA k k') (renO k k' (del k s.own))⟩ Q) (hnu : noUse k' s.own = true := by rfl) : Tri P E n cd s Q := fun a w hr => h a w (hr.rename k k' hk hne hfx hnu)
end
end Go.Sk

/- The framework, part T: boxes that hold rows; keys of a contract exchanged; ends that give back what was lent. -/
namespace Go.Sk
set_option linter.unusedSimpArgs false
set_option linter.unusedVariables false
open Go Go.BigFrame
section
variable {P : Program} {TB : Tabs} {E : Env TB} {n : Sh} {s s' : St} {dst : Option Nat} {t ty yt : TypeId} {pos : String} {after : Array Edge} {g : Option (Nat × Bool)} {x y c : Operand} {ops : Array Oper} {l : List Oper} {Q : Post} {cd : Code}

/-- a cell of a box: its value, and that it is of one cell -/
def CR (h : PH) (ρ : RM) (z : BV) (u : Value) : Prop := z.rel h ρ u ∧ u.oneCell' = true
def BV.cellOk (own : List (Nat × OC)) : BV → Bool
  | .one _ => true
  | .ptr _ _ => true
  | .row j => match lk own j with
    | some (.row _ _ _) => true
    | _ => false
  | _ => false
theorem cell_of {own : List (Nat × OC)} {h : PH} {ρ : RM} {w : World} (hw : WR E n own h ρ w) {z : BV} (hz : z.cellOk own = true) {v : Value} (hv : z.rel h ρ v) : CR h ρ z v := by
  refine ⟨hv, ?_⟩
  cases z with
  | one p => exact p.one hv
  | ptr k off => obtain ⟨b, _, rfl⟩ := hv; rfl
  | row j =>
    have hv' : v = ρ j := hv
    simp only [BV.cellOk] at hz
    cases e : lk own j with
    | none => rw [e] at hz; simp at hz
    | some c =>
      rw [e] at hz
      cases c with
      | row T size es =>
        obtain ⟨_, _, hf⟩ := row_form hw e
        rcases hf with ⟨h1, _⟩ | ⟨b, cap, cur, h1, _⟩ <;> rw [hv', h1] <;> rfl
      | _ => simp at hz
  | _ => simp [BV.cellOk] at hz
theorem upd_self (ρ : RM) (k : Nat) : upd ρ k (ρ k) = ρ := by funext j; simp only [upd]; split <;> simp_all
/-- other words for a block -/
theorem WR.repl {own : List (Nat × OC)} {h : PH} {ρ : RM} {w : World} (hw : WR E n own h ρ w) {k : Nat} {c0 c' : OC} (hk : lk own k = some c0) (hc : c'.ok h ρ (ρ k) w) : WR E n (ins k c' own) h ρ w := by
  have := hw.step (w' := w) k (ρ k) c' (blkOf (ρ k)) (fun b e => ⟨c0, lk_mem hk, e⟩) (Nat.le_refl _) rfl rfl (fun _ _ _ => rfl) (by rw [upd_self]; exact hc) (fun b hb => .inl hb) (.inl rfl) (.inl rfl)
  rwa [upd_self] at this
theorem xbox_cells {own : List (Nat × OC)} {h : PH} {ρ : RM} {w : World} (hw : WR E n own h ρ w) {k : Nat} {T : TypeId} {cs : List BV} (hk : lk own k = some (.xbox T cs)) :
    ∃ b cur, ρ k = .pointer (some ⟨b, 0, none⟩) ∧ w.heap[b]? = some (.cells cur T (0, 0)) ∧ All2 (CR h ρ) cs cur.toList := (hw.owned k _ (lk_mem hk)).1
theorem ones_rel {h : PH} {ρ : RM} : ∀ {ps : List CP} {vs : List Value}, cellsRel h ps vs → All2 (CR h ρ) (ps.map BV.one) vs
  | [], _, h => by cases h; exact .nil
  | p :: ps, _, h => by cases h with | cons h1 h2 => exact .cons ⟨h1, p.one h1⟩ (ones_rel h2)
theorem rel_ones {h : PH} {ρ : RM} : ∀ {ps : List CP} {vs : List Value}, All2 (CR h ρ) (ps.map BV.one) vs → cellsRel h ps vs
  | [], _, h => by cases h; exact .nil
  | p :: ps, _, h => by cases h with | cons h1 h2 => exact .cons h1.1 (rel_ones h2)
/-- a box, seen as one that may hold rows -/
theorem R.toX {a : Act} {w : World} (hr : R E n s a w) (k : Nat) {T : TypeId} {ps : List CP} (hk : lk s.own k = some (.box T ps)) : R E n ⟨s.slots, ins k (.xbox T (ps.map .one)) s.own⟩ a w := by
  obtain ⟨hd, hn, h, ρ, hw, hs⟩ := hr
  obtain ⟨b, cur, e1, e2, e3⟩ := box_cells hw hk
  exact ⟨hd, hn, h, ρ, hw.repl hk ⟨b, cur, e1, e2, ones_rel e3⟩, hs⟩
def ones : List BV → Option (List CP)
  | [] => some []
  | .one p :: l => (ones l).map (p :: ·)
  | _ :: _ => none
theorem ones_eq : ∀ {cs : List BV} {ps : List CP}, ones cs = some ps → cs = ps.map BV.one
  | [], ps, h => by simp [ones] at h; subst h; rfl
  | z :: cs, ps, h => by
    cases z with
    | one p =>
      simp only [ones, Option.map_eq_some_iff] at h
      obtain ⟨q, hq, rfl⟩ := h
      rw [ones_eq hq]; rfl
    | _ => simp [ones] at h
theorem R.unX {a : Act} {w : World} (hr : R E n s a w) (k : Nat) {T : TypeId} {cs : List BV} {ps : List CP} (hk : lk s.own k = some (.xbox T cs)) (ho : ones cs = some ps) : R E n ⟨s.slots, ins k (.box T ps) s.own⟩ a w := by
  obtain ⟨hd, hn, h, ρ, hw, hs⟩ := hr
  obtain ⟨b, cur, e1, e2, e3⟩ := xbox_cells hw hk
  rw [ones_eq ho] at e3
  exact ⟨hd, hn, h, ρ, hw.repl hk ⟨b, cur, e1, e2, rel_ones e3⟩, hs⟩
/-- a cell of which nothing more is known -/
theorem R.forget {a : Act} {w : World} (hr : R E n s a w) (k off : Nat) {T : TypeId} {cs : List BV} (hk : lk s.own k = some (.xbox T cs)) : R E n ⟨s.slots, ins k (.xbox T (cs.set off (.one .any))) s.own⟩ a w := by
  obtain ⟨hd, hn, h, ρ, hw, hs⟩ := hr
  obtain ⟨b, cur, e1, e2, e3⟩ := xbox_cells hw hk
  refine ⟨hd, hn, h, ρ, hw.repl hk ⟨b, cur, e1, e2, ?_⟩, hs⟩
  have : ∀ {cs : List BV} {vs : List Value} (i : Nat), All2 (CR h ρ) cs vs → All2 (CR h ρ) (cs.set i (.one .any)) vs := by
    intro cs vs i ha
    induction ha generalizing i with
    | nil => simp; exact .nil
    | cons h1 t ih => cases i with
      | zero => simp; exact .cons ⟨h1.2, h1.2⟩ t
      | succ i => simp; exact .cons h1 (ih i)
  exact this off e3
theorem Tri.toX (k : Nat) {T : TypeId} {ps : List CP} (hk : lk s.own k = some (.box T ps)) (h : Tri P E n cd ⟨s.slots, ins k (.xbox T (ps.map .one)) s.own⟩ Q) : Tri P E n cd s Q := fun a w hr => h a w (hr.toX k hk)
theorem OpsL.toX (k : Nat) {T : TypeId} {ps : List CP} (hk : lk s.own k = some (.box T ps)) (h : OpsL P E n ops l ⟨s.slots, ins k (.xbox T (ps.map .one)) s.own⟩ Q) : OpsL P E n ops l s Q := fun a w hr => h a w (hr.toX k hk)
theorem Fin.toX {e : Exit} (k : Nat) {T : TypeId} {ps : List CP} (hk : lk s.own k = some (.box T ps)) (h : Fin E n e ⟨s.slots, ins k (.xbox T (ps.map .one)) s.own⟩ Q) : Fin E n e s Q := fun a w hr => h a w (hr.toX k hk)
theorem Tri.unX (k : Nat) {T : TypeId} {cs : List BV} {ps : List CP} (hk : lk s.own k = some (.xbox T cs)) (ho : ones cs = some ps) (h : Tri P E n cd ⟨s.slots, ins k (.box T ps) s.own⟩ Q) : Tri P E n cd s Q := fun a w hr => h a w (hr.unX k hk ho)
theorem OpsL.unX (k : Nat) {T : TypeId} {cs : List BV} {ps : List CP} (hk : lk s.own k = some (.xbox T cs)) (ho : ones cs = some ps) (h : OpsL P E n ops l ⟨s.slots, ins k (.box T ps) s.own⟩ Q) : OpsL P E n ops l s Q := fun a w hr => h a w (hr.unX k hk ho)
theorem Fin.unX {e : Exit} (k : Nat) {T : TypeId} {cs : List BV} {ps : List CP} (hk : lk s.own k = some (.xbox T cs)) (ho : ones cs = some ps) (h : Fin E n e ⟨s.slots, ins k (.box T ps) s.own⟩ Q) : Fin E n e s Q := fun a w hr => h a w (hr.unX k hk ho)
theorem Tri.forget (k off : Nat) {T : TypeId} {cs : List BV} (hk : lk s.own k = some (.xbox T cs)) (h : Tri P E n cd ⟨s.slots, ins k (.xbox T (cs.set off (.one .any))) s.own⟩ Q) : Tri P E n cd s Q := fun a w hr => h a w (hr.forget k off hk)
theorem OpsL.forget (k off : Nat) {T : TypeId} {cs : List BV} (hk : lk s.own k = some (.xbox T cs)) (h : OpsL P E n ops l ⟨s.slots, ins k (.xbox T (cs.set off (.one .any))) s.own⟩ Q) : OpsL P E n ops l s Q := fun a w hr => h a w (hr.forget k off hk)
theorem Fin.forget {e : Exit} (k off : Nat) {T : TypeId} {cs : List BV} (hk : lk s.own k = some (.xbox T cs)) (h : Fin E n e ⟨s.slots, ins k (.xbox T (cs.set off (.one .any))) s.own⟩ Q) : Fin E n e s Q := fun a w hr => h a w (hr.forget k off hk)

theorem op_load_x1 {k off : Nat} {T : TypeId} {cs : List BV} {z : BV} (ht : TyOne P t) (hx : s.ev x = some (.b (.ptr k off))) (hk : lk s.own k = some (.xbox T cs)) (hp : cs[off]? = some z) :
    Op1 P E n ⟨dst, .load t x, ty, pos, after, g⟩ s (s.put n dst (.b z)) :=
  Op1.val (o := ⟨dst, .load t x, ty, pos, after, g⟩) fun ac w h ρ hw hs => by
    obtain ⟨b, he, hv⟩ := (ev_rel hs hx : BV.rel h ρ (.ptr k off) _)
    obtain ⟨b', cur, hb1, hb2, hb3⟩ := xbox_cells hw hk
    have : b' = b := by rw [hb1] at he; simpa using he
    subst this
    obtain ⟨u, hu, hpu⟩ := hb3.get off z hp
    have := run_load_one ht (w := w) (b := b') (o := off) (v := u) (by rw [cell_row hb2]; simpa using hu)
    refine ⟨u, ?_, hpu.1⟩
    simp only [execOp, hv, Instr.loadAt, Instr.sureAddr]
    simp [this]
theorem op_load_xa {k off m : Nat} {T : TypeId} {cs zs : List BV} (ht : TyAgg P t m) (hx : s.ev x = some (.b (.ptr k off))) (hk : lk s.own k = some (.xbox T cs)) (hp : (cs.drop off).take m = zs) (hq : zs.length = m) :
    Op1 P E n ⟨dst, .load t x, ty, pos, after, g⟩ s (s.put n dst (.xagg zs)) :=
  Op1.val (o := ⟨dst, .load t x, ty, pos, after, g⟩) fun ac w h ρ hw hs => by
    obtain ⟨b, he, hv⟩ := (ev_rel hs hx : BV.rel h ρ (.ptr k off) _)
    obtain ⟨b', cur, hb1, hb2, hb3⟩ := xbox_cells hw hk
    have : b' = b := by rw [hb1] at he; simpa using he
    subst this
    have hc : All2 (CR h ρ) zs ((cur.toList.drop off).take m) := by rw [← hp]; exact All2.take (All2.drop hb3 off) m
    refine ⟨.agg ((cur.toList.drop off).take m).toArray, ?_, _, rfl, hc⟩
    have := run_load_agg ht (w := w) (b := b') (o := off) (cs := (cur.toList.drop off).take m) (by rw [← hc.length, hq]) (fun j v hv => by
      rw [cell_row hb2]
      rw [List.getElem?_take] at hv
      split at hv
      · simpa using hv
      · simp at hv)
    simp only [execOp, hv, Instr.loadAt, Instr.sureAddr]
    simp [this]
theorem op_load_xp {k off m : Nat} {T : TypeId} {cs : List BV} {qs : List CP} (ht : TyAgg P t m) (hx : s.ev x = some (.b (.ptr k off))) (hk : lk s.own k = some (.xbox T cs)) (hp : ones ((cs.drop off).take m) = some qs) (hq : qs.length = m) :
    Op1 P E n ⟨dst, .load t x, ty, pos, after, g⟩ s (s.put n dst (.b (.agg qs))) := by
  intro a w hr next Q hnext
  refine op_load_xa ht hx hk (ones_eq hp) (by simpa using hq) a w hr next Q fun a' w' hr' => hnext a' w' ?_
  obtain ⟨hd, hn, h, ρ, hw, hs⟩ := hr'
  refine ⟨hd, hn, h, ρ, ?_, ?_⟩
  · cases dst with
    | none => exact hw
    | some d =>
      simp only [St.put, St.set] at hw ⊢
      split at hw
      · rename_i hdn; simp only [hdn, if_true]; exact hw
      · rename_i hdn; simp only [hdn, if_false]; exact hw
  · cases dst with
    | none => exact hs
    | some d =>
      simp only [St.put, St.set] at hs ⊢
      split at hs
      · rename_i hdn
        simp only [hdn, if_true]
        intro j y hy
        cases List.mem_cons.1 hy with
        | inl e =>
          obtain ⟨rfl, rfl⟩ := Prod.mk.inj e
          obtain ⟨v, hv, vs, e2, ha⟩ := hs j _ List.mem_cons_self
          exact ⟨v, hv, vs, e2, rel_ones ha⟩
        | inr e => exact hs j y (List.mem_cons_of_mem _ e)
      · rename_i hdn
        simp only [hdn, if_false]
        exact hs
theorem WR.setX {h : PH} {ρ : RM} {own : List (Nat × OC)} {w : World} (hw : WR E n own h ρ w) {k b : Nat} {T : TypeId} {ps ps' : List BV} {cur : Array Value} {cs : List Value} (hk : lk own k = some (.xbox T ps)) (hρ : ρ k = .pointer (some ⟨b, 0, none⟩))
    (hb : w.heap[b]? = some (.cells cur T (0, 0))) (hr : All2 (CR h ρ) ps' cs) : WR E n (ins k (.xbox T ps') own) h ρ (w.setRow b cs.toArray) := by
  have hst := hw.step (w' := w.setRow b cs.toArray) k (ρ k) (.xbox T ps') (some b) (fun b' e => by cases e; exact ⟨_, lk_mem hk, by rw [hρ]; rfl⟩) (by simp) rfl rfl
    (fun b' _ hne => setRow_other _ _ _ _ (fun e => hne (by rw [e]))) (by rw [upd_self]; exact ⟨b, cs.toArray, hρ, setRow_heap _ _ _ _ _ _ hb, hr⟩) (fun b' hb' => by rw [hρ] at hb'; simp [blkOf] at hb'; exact .inl (by rw [hb'])) (.inl rfl) (.inl rfl)
  rwa [upd_self] at hst
theorem cells_one {v : Value} (h : v.oneCell' = true) : v.cells = #[v] := by cases v <;> first | rfl | simp [Value.oneCell'] at h
theorem op_store_x1 {k off : Nat} {T : TypeId} {cs cs' : List BV} {z : BV} (ht : TyOne P t) (hx : s.ev x = some (.b (.ptr k off))) (hk : lk s.own k = some (.xbox T cs)) (hy : s.ev y = some (.b z)) (hz : z.cellOk s.own = true) (hlt : off < cs.length) (hps : cs.set off z = cs') :
    Op1 P E n ⟨none, .store t x y, ty, pos, after, g⟩ s ⟨s.slots, ins k (.xbox T cs') s.own⟩ :=
  Op1.store (o := ⟨none, .store t x y, ty, pos, after, g⟩) rfl fun ac w h ρ hw hs => by
    obtain ⟨b, he, hv⟩ := (ev_rel hs hx : BV.rel h ρ (.ptr k off) _)
    obtain ⟨b', cur, hb1, hb2, hb3⟩ := xbox_cells hw hk
    have : b' = b := by rw [hb1] at he; simpa using he
    subst this
    have hp : CR h ρ z (ac.eval y) := cell_of hw hz (ev_rel hs hy)
    obtain ⟨i, hi, hm⟩ := ht.size
    have hcells := cells_one hp.2
    have hlen := hb3.length
    have hrun := run_store_at (P := P) (t := t) hi hm hb2 (v := ac.eval y) (o := off) (by rw [hcells]; rfl) (by simp at hlen; omega) (by rw [hcells]; simpa using hp.2)
    refine ⟨_, by simp only [execOp, hv, Instr.storeAt, Instr.sureAddr]; simp [hrun]; rfl, ?_⟩
    refine hw.setX hk hb1 hb2 ?_
    rw [← hps]
    have hset : Sk.splice cur.toList off (ac.eval y).cells.toList = cur.toList.set off (ac.eval y) := by
      rw [hcells]
      have : off < cur.toList.length := by rw [← hlen]; exact hlt
      simp only [Sk.splice, List.length_cons, List.length_nil]
      rw [List.set_eq_take_append_cons_drop, if_pos this]; simp
    rw [hset]
    exact All2.set hb3 off hp
theorem op_store_xp {k off m : Nat} {T : TypeId} {cs cs' : List BV} {qs : List CP} (ht : TyAgg P t m) (hx : s.ev x = some (.b (.ptr k off))) (hk : lk s.own k = some (.xbox T cs)) (hy : s.ev y = some (.b (.agg qs))) (hq : qs.length = m) (hlt : off + m ≤ cs.length) (hps : Sk.splice cs off (qs.map .one) = cs') :
    Op1 P E n ⟨none, .store t x y, ty, pos, after, g⟩ s ⟨s.slots, ins k (.xbox T cs') s.own⟩ :=
  Op1.store (o := ⟨none, .store t x y, ty, pos, after, g⟩) rfl fun ac w h ρ hw hs => by
    obtain ⟨b, he, hv⟩ := (ev_rel hs hx : BV.rel h ρ (.ptr k off) _)
    obtain ⟨b', cur, hb1, hb2, hb3⟩ := xbox_cells hw hk
    have : b' = b := by rw [hb1] at he; simpa using he
    subst this
    obtain ⟨vs, hcv, hcr⟩ := (ev_rel hs hy : BV.rel h ρ (.agg qs) _)
    obtain ⟨i, hi, hm⟩ := ht.size
    have hlen := hb3.length
    have hlen2 := hcr.length
    have hrun := run_store_at (P := P) (t := t) hi hm hb2 (v := .agg vs) (o := off) (by simp [Value.cells] at hlen2 ⊢; omega) (by simp at hlen; omega) (by simpa [Value.cells] using hcr.one)
    refine ⟨_, by simp only [execOp, hv, hcv, Instr.storeAt, Instr.sureAddr]; simp [hrun]; rfl, ?_⟩
    refine hw.setX hk hb1 hb2 ?_
    rw [← hps]
    exact All2.splice hb3 (ones_rel hcr) off
theorem op_box_x {T k : Nat} {zs : List BV} (hx : s.ev x = some (.xagg zs)) (hfx : n.fix.contains k = false) (hself : (zs.any (·.uses k)) = false) (hnu : noUse k s.own = true := by rfl) : Op1 P E n ⟨dst, .box T x, ty, pos, after, g⟩ s ((⟨dropU k s.slots, ins k (.xbox T zs) s.own⟩ : St).put n dst (.b (.ptr k 0))) :=
  Op1.make (hfx := hfx) (hnu := hnu) (o := ⟨dst, .box T x, ty, pos, after, g⟩) fun ac w h ρ hw hs => by
    obtain ⟨cs, hv, hr⟩ := (ev_rel hs hx : SV.rel h ρ (.xagg zs) _)
    refine ⟨.pointer (some ⟨w.heap.size, 0, none⟩), .pointer (some ⟨w.heap.size, 0, none⟩), w.alloc (.cells cs T), none, ?_, fun b e => by simp at e, by simp, rfl, rfl, fun b hb _ => heap_alloc_old w _ hb, OC.ok.ren (c := .xbox T zs) ⟨w.heap.size, cs, rfl, heap_alloc_new w _, hr⟩ fun j hj => upd_other _ _ fun e => by subst e; simp only [OC.uses] at hj; rw [hself] at hj; simp at hj,
      fun b e => by simp [blkOf] at e; subst e; exact .inr (Nat.le_refl _), w.heap.size, upd_same _ _ _, rfl⟩
    simp only [execOp, hv]
    simp [Instr.box, newVar, newRow, Value.cells]
theorem op_box_x1 {T k : Nat} {z : BV} (hx : s.ev x = some (.b z)) (hz : z.cellOk s.own = true) (hfx : n.fix.contains k = false) (hself : z.uses k = false) (hnu : noUse k s.own = true := by rfl) : Op1 P E n ⟨dst, .box T x, ty, pos, after, g⟩ s ((⟨dropU k s.slots, ins k (.xbox T [z]) s.own⟩ : St).put n dst (.b (.ptr k 0))) :=
  Op1.make (hfx := hfx) (hnu := hnu) (o := ⟨dst, .box T x, ty, pos, after, g⟩) fun ac w h ρ hw hs => by
    have hr : CR h ρ z (ac.eval x) := cell_of hw hz (ev_rel hs hx)
    have hcells := cells_one hr.2
    refine ⟨.pointer (some ⟨w.heap.size, 0, none⟩), .pointer (some ⟨w.heap.size, 0, none⟩), w.alloc (.cells #[ac.eval x] T), none, ?_, fun b e => by simp at e, by simp, rfl, rfl, fun b hb _ => heap_alloc_old w _ hb, OC.ok.ren (c := .xbox T [z]) ⟨w.heap.size, #[ac.eval x], rfl, heap_alloc_new w _, .cons hr .nil⟩ fun j hj => upd_other _ _ fun e => by subst e; simp [OC.uses, hself] at hj,
      fun b e => by simp [blkOf] at e; subst e; exact .inr (Nat.le_refl _), w.heap.size, upd_same _ _ _, rfl⟩
    simp only [execOp]
    simp [Instr.box, newVar, newRow, hcells]
theorem op_fieldx1 {f off : Nat} {ft : TypeId} {zs : List BV} {z : BV} (ht : TyField P t f off ft) (h1 : TyOne P ft) (hx : s.ev x = some (.xagg zs)) (hp : zs[off]? = some z) :
    Op1 P E n ⟨dst, .field t x f, ty, pos, after, g⟩ s (s.put n dst (.b z)) :=
  Op1.val (o := ⟨dst, .field t x f, ty, pos, after, g⟩) fun ac w h ρ hw hs => by
    obtain ⟨cs, hv, ha⟩ := (ev_rel hs hx : SV.rel h ρ (.xagg zs) _)
    obtain ⟨fs, fd, i, e1, e2, rfl, rfl, e5, e6⟩ := ht.und
    obtain ⟨d, hd, hag⟩ := h1.und
    obtain ⟨u, hu, hr⟩ := ha.get _ z hp
    have hcu : cs[fd.offset]? = some u := by simpa using hu
    refine ⟨u, ?_, hr.1⟩
    simp only [execOp, hv]
    have : (part fd.type cs fd.offset).run P w = .ok u w := by
      unfold part
      rw [Sem.run_bind, run_isAgg hd, Result.andThen, hag]
      simp [hcu]
    simp [Instr.field, run_underlying e1, e2, asAgg, this]

/-! ## structs built of parts that may be rows -/
def SV.xcells (own : List (Nat × OC)) : SV → Option (List BV)
  | .b (.agg ps) => some (ps.map .one)
  | .b z => if z.cellOk own = true then some [z] else none
  | .xagg l => some l
  | _ => none
theorem SV.xcells_rel {own : List (Nat × OC)} {h : PH} {ρ : RM} {w : World} (hw : WR E n own h ρ w) {z : SV} {ps : List BV} {v : Value} (hz : z.xcells own = some ps) (hv : z.rel h ρ v) : All2 (CR h ρ) ps v.cells.toList := by
  cases z with
  | b z =>
    have one : ∀ z : BV, (if z.cellOk own = true then some [z] else none) = some ps → z.rel h ρ v → All2 (CR h ρ) ps v.cells.toList := fun z hz hv => by
      split at hz
      · next hc =>
        simp at hz; subst hz
        have hcr := cell_of hw hc hv
        rw [cells_one hcr.2]; exact .cons hcr .nil
      · simp at hz
    cases z with
    | agg qs => simp [SV.xcells] at hz; subst hz; obtain ⟨cs, rfl, hr⟩ := hv; exact ones_rel hr
    | one p => exact one (.one p) hz hv
    | ptr k o => exact one (.ptr k o) hz hv
    | row k => exact one (.row k) hz hv
    | rptr k o => exact one (.rptr k o) hz hv
    | part k a b c d => exact one (.part k a b c d) hz hv
    | eptr ps => exact one (.eptr ps) hz hv
    | psl k a b c => exact one (.psl k a b c) hz hv
  | xagg l => simp [SV.xcells] at hz; subst hz; obtain ⟨cs, rfl, hr⟩ := hv; exact hr
  | _ => simp [SV.xcells] at hz
def evPartsX (s : St) : List (Nat × Operand) → Option (List (Nat × List BV))
  | [] => some []
  | (i, x) :: l => (s.ev x).bind fun z => (z.xcells s.own).bind fun ps => (evPartsX s l).map fun r => (i, ps) :: r
def xfill (place : Nat → Option (Nat × Nat)) (zs : List BV) : List (Nat × List BV) → Option (List BV)
  | [] => some zs
  | (i, qs) :: r => (place i).bind fun q => if qs.length = q.2 ∧ q.1 + qs.length ≤ zs.length then xfill place (splice zs q.1 qs) r else none
theorem xfill_rel {h : PH} {ρ : RM} {w : World} (hw : WR E n s.own h ρ w) {ac : Act} (hs : SlotsRel h ρ s.slots ac.tmps) (place : Nat → Option (Nat × Nat)) : ∀ (parts : List (Nat × Operand)) (cps : List (Nat × List BV)) (zs qs : List BV) (zc : Array Value),
    evPartsX s parts = some cps → xfill place zs cps = some qs → All2 (CR h ρ) zs zc.toList → ∃ cs, Instr.fill place zc (parts.map fun p => (p.1, ac.eval p.2)) = some cs ∧ All2 (CR h ρ) qs cs.toList
  | [], cps, zs, qs, zc, he, hf, hz => by
    simp [evPartsX] at he; subst he
    simp [xfill] at hf; subst hf
    exact ⟨zc, rfl, hz⟩
  | (i, x) :: l, cps, zs, qs, zc, he, hf, hz => by
    unfold evPartsX at he
    simp only [Option.bind_eq_some_iff, Option.map_eq_some_iff] at he
    obtain ⟨z, hz1, ps, hps, r, hr, rfl⟩ := he
    unfold xfill at hf
    simp only [Option.bind_eq_some_iff] at hf
    obtain ⟨⟨off, size⟩, hpl, hf⟩ := hf
    split at hf
    · rename_i hc
      obtain ⟨hc1, hc2⟩ := hc
      have hrel := SV.xcells_rel hw hps (ev_rel hs hz1)
      have hl := hrel.length
      have hzl := hz.length
      simp only [Array.length_toList] at hl hzl
      dsimp only at hc1 hc2 hf
      have hsp : ((ac.eval x).cells.zipIdx.foldl (fun cs (p : Value × Nat) => cs.setIfInBounds (off + p.2) p.1) zc).toList = splice zc.toList off (ac.eval x).cells.toList := by
        have := fold_set off (ac.eval x).cells.toList 0 zc (by simp; omega)
        rw [Nat.add_zero] at this
        rw [← this, ← Array.foldl_toList]
        congr 2
        simp
      obtain ⟨cs, h1, h2⟩ := xfill_rel hw hs place l r (splice zs off ps) qs _ hr hf (by rw [hsp]; exact All2.splice hz hrel off)
      refine ⟨cs, ?_, h2⟩
      simp only [List.map_cons, Instr.fill, hpl]
      rw [if_neg (by simp; omega)]
      exact h1
    · simp at hf
theorem op_build_x {pl : List (Nat × Nat)} {zs : List CP} {qs : List BV} {parts : Array (Nat × Operand)} {cps : List (Nat × List BV)} (ht : TyBuild P t pl zs) (hp : evPartsX s parts.toList = some cps) (hf : xfill (pl.toArray[·]?) (zs.map .one) cps = some qs) :
    Op1 P E n ⟨dst, .build t parts, ty, pos, after, g⟩ s (s.put n dst (.xagg qs)) :=
  Op1.val (o := ⟨dst, .build t parts, ty, pos, after, g⟩) fun ac w h ρ hw hs => by
    obtain ⟨it, z, fs, h1, h2, h3, h4, h5⟩ := ht.info
    obtain ⟨cs, hc1, hc2⟩ := xfill_rel hw hs (pl.toArray[·]?) parts.toList cps (zs.map .one) qs z.cells hp hf (ones_rel (cvs_rel h h3))
    refine ⟨.agg cs, ?_, cs, rfl, hc2⟩
    have hb : P.built t (parts.map fun (i, x) => (i, ac.eval x)).toList = some cs := by
      simp only [Program.built, h1, h4, h2, h5]
      rw [← hc1]
      simp
    have := run_build (P := P) w t _ cs hb
    simp only [execOp]
    simp [this]

/-! ## a row of zeros -/
def mk? {α : Type} (z : α) (len cap : Int) : Option (List α) := if 0 ≤ len ∧ len ≤ cap ∧ cap ≤ 1000000000 then some (List.replicate len.toNat z) else none
theorem mk_ok {α : Type} {z : α} {len cap : Int} {r : List α} (h : mk? z len cap = some r) : 0 ≤ len ∧ len ≤ cap ∧ cap ≤ 1000000000 ∧ List.replicate len.toNat z = r := by
  unfold mk? at h; split at h
  · next hh => exact ⟨hh.1, hh.2.1, hh.2.2, by simpa using h⟩
  · simp at h
theorem rep_uni {zs : List CP} {size n : Nat} (h : zs.length = size) : Uniform size (List.replicate n zs) := fun ps hp => by rw [(List.mem_replicate.1 hp).2]; exact h
theorem made_rel {h : PH} {zs : List CP} {zc : Array Value} {size : Nat} (hz : cellsRel h zs zc.toList) (hs : zs.length = size) (hp : 0 < size) (n m : Nat) (hnm : n ≤ m) :
    cellsRel h (List.replicate n zs).flatten ((madeCells zc (m * size)).toList.take (n * size)) := by
  have hzl : zc.size = size := by have := hz.length; simp at this; omega
  have hle : n * size ≤ m * size := Nat.mul_le_mul_right _ hnm
  have hfl := flatten_len (rep_uni (n := n) hs)
  have hms : (madeCells zc (m * size)).toList.length = m * size := by simp [madeCells]
  refine All2.of_get (by rw [hfl, List.length_replicate, List.length_take, hms]; omega) fun j a b ha hb => ?_
  have hj : j < n * size := by
    have := (List.getElem?_eq_some_iff.1 ha).1
    rw [hfl] at this; simpa using this
  have hd : j / size < n := by rw [Nat.div_lt_iff_lt_mul hp]; exact hj
  have hm : j % size < size := Nat.mod_lt _ hp
  have hjj : j / size * size + j % size = j := by rw [Nat.mul_comm]; exact Nat.div_add_mod _ _
  have h1 := flatten_get (rep_uni (n := n) hs) (j / size) zs (by simp [hd]) (j % size) hm
  rw [hjj, ha] at h1
  rw [List.getElem?_take, if_pos hj] at hb
  have h2 : (madeCells zc (m * size)).toList[j]? = zc[j % size]? := by
    have hlt : j < m * size := by omega
    simp only [madeCells, Array.getElem?_toList]
    rw [Array.getElem?_map, Array.getElem?_range]
    simp only [hlt, if_true, Option.map_some, hzl]
    have : j % size < zc.size := by omega
    simp [this]
  rw [h2] at hb
  obtain ⟨u, hu, hr⟩ := hz.get (j % size) a h1.symm
  rw [Array.getElem?_toList, hb] at hu
  cases hu
  exact hr
/-- a zero cell, and what is read of it -/
def ZC (a b : CP) : Prop := ∀ h v, a.rel h v → b.rel h v
theorem ZC.refl {a : CP} : ZC a a := fun _ _ x => x
theorem ZC.nilsl {size : Nat} (h : 0 < size) : ZC .nil (.sl size []) := fun _ v x => ⟨fun ps hp => by simp at hp, h, .inl ⟨x.1, rfl⟩⟩
theorem zc_rel {h : PH} : ∀ {zs qs : List CP} {vs : List Value}, All2 ZC zs qs → cellsRel h zs vs → cellsRel h qs vs
  | [], _, _, h1, h2 => by cases h1; cases h2; exact .nil
  | _ :: _, _, _, h1, h2 => by cases h1 with | cons a b => cases h2 with | cons c d => exact .cons (a _ _ c) (zc_rel b d)
theorem op_makeSlice {k size bytes : Nat} {e : TypeId} {zs : List CP} {lo co : Operand} {kl kc : IntKind} {α : Type} {z0 : α} {enc : α → List CP} {a b : Int} {r : List α} (ht : TySl P t e size bytes zs) (hm : mk? z0 a b = some r) (hbb : bytes ≤ 281474) (hz0 : All2 ZC zs (enc z0))
    (hx : s.ev lo = some (.b (.one (.int kl a)))) (hy : s.ev co = some (.b (.one (.int kc b)))) (hfx : n.fix.contains k = false) (hnu : noUse k s.own = true := by rfl) :
    Op1 P E n ⟨dst, .makeSlice t lo co, ty, pos, after, g⟩ s ((⟨dropU k s.slots, ins k (.row e size (r.map enc)) s.own⟩ : St).put n dst (.b (.row k))) :=
  Op1.make (hfx := hfx) (hnu := hnu) (o := ⟨dst, .makeSlice t lo co, ty, pos, after, g⟩) fun ac w h ρ hw hs => by
    obtain ⟨i, z, h1, h2, h3, h4, h5, h6, h7⟩ := ht.info
    obtain ⟨q0, q1, q2, rfl⟩ := mk_ok hm
    have hzr := cvs_rel h h7
    have hzr : cellsRel h (enc z0) z.cells.toList := zc_rel hz0 hzr
    have hzl : (enc z0).length = size := by rw [hzr.length]; simpa using h5
    have hbytes : (i.bytes : Int) * b ≤ 281474976710656 := by
      rw [h3]
      have e1 : (bytes : Int) ≤ 281474 := by omega
      calc (bytes : Int) * b ≤ 281474 * b := Int.mul_le_mul_of_nonneg_right e1 (by omega)
        _ ≤ _ := by omega
    have hrun := run_make (P := P) w t e i z ht.und h1 h4 kl kc a b q0 q1 hbytes (by omega)
    rw [h2] at hrun
    refine ⟨.slice (some ⟨w.heap.size, 0, none⟩) a.toNat b.toNat, .slice (some ⟨w.heap.size, 0, none⟩) a.toNat b.toNat, w.alloc (.cells (madeCells z.cells (b.toNat * size)) e), none, ?_, fun b e => by simp at e, by simp, rfl, rfl, fun b hb _ => heap_alloc_old w _ hb, ?_,
      fun b e => by simp [blkOf] at e; subst e; exact .inr (Nat.le_refl _), (upd_same _ _ _).symm⟩
    · simp only [execOp, (ev_int hs hx).1, (ev_int hs hy).1]
      simp [hrun]
    · have hle : a.toNat ≤ b.toNat := by omega
      have hmap : (List.replicate a.toNat z0).map enc = List.replicate a.toNat (enc z0) := by rw [List.map_replicate]
      rw [hmap]
      refine ⟨rep_uni hzl, h6, (madeCells z.cells (b.toNat * size)).toList.take (a.toNat * size), ⟨?_, .inr ⟨w.heap.size, b.toNat, _, ?_, Nat.zero_le _, heap_alloc_new w _, ?_, ?_, ?_, ?_⟩⟩, made_rel hzr hzl h6 _ _ hle⟩
      · have : a.toNat * size ≤ b.toNat * size := Nat.mul_le_mul_right _ hle
        have hms : (madeCells z.cells (b.toNat * size)).toList.length = b.toNat * size := by simp [madeCells]
        rw [List.length_take, hms, List.length_replicate]; omega
      · simp
      · simpa using hle
      · rw [maxLen_eq]; omega
      · simp [madeCells]
      · simp
end
end Go.Sk

/- The framework, part U: the keys of a contract exchanged; nil in a box as a row. -/
namespace Go.Sk
set_option linter.unusedSimpArgs false
set_option linter.unusedVariables false
open Go Go.BigFrame
def swp (a b k : Nat) : Nat := if k == a then b else if k == b then a else k
theorem swp_swp (a b k : Nat) : swp a b (swp a b k) = k := by
  unfold swp
  by_cases h1 : k = a
  · subst h1
    by_cases h2 : b = k <;> simp [h2]
  · by_cases h2 : k = b
    · subst h2
      simp [h1]
    · simp [h1, h2]
def BV.mapK (f : Nat → Nat) : BV → BV
  | .row j => .row (f j)
  | .ptr j o => .ptr (f j) o
  | .rptr j o => .rptr (f j) o
  | .part j a b c d => .part (f j) a b c d
  | .psl j a b c => .psl (f j) a b c
  | z => z
def SV.mapK (f : Nat → Nat) : SV → SV
  | .b z => .b (z.mapK f)
  | .tup l => .tup (l.map (·.mapK f))
  | .opt c z => .opt c (z.mapK f)
  | .xagg l => .xagg (l.map (·.mapK f))
def OC.mapK (f : Nat → Nat) : OC → OC
  | .xbox T cs => .xbox T (cs.map (·.mapK f))
  | c => c
def mapO (f : Nat → Nat) (l : List (Nat × OC)) : List (Nat × OC) := l.map fun p => (f p.1, p.2.mapK f)
theorem BV.mapK_rel {f : Nat → Nat} {h : PH} {ρ : RM} {z : BV} {v : Value} : (z.mapK f).rel h ρ v ↔ z.rel h (fun k => ρ (f k)) v := by cases z <;> exact Iff.rfl
theorem all2_map {α β γ : Type} {r : β → γ → Prop} (g : α → β) : ∀ {l : List α} {vs : List γ}, All2 r (l.map g) vs ↔ All2 (fun a u => r (g a) u) l vs
  | [], vs => ⟨fun h => by cases h; exact .nil, fun h => by cases h; exact .nil⟩
  | a :: l, vs => ⟨fun h => by cases h with | cons h1 h2 => exact .cons h1 ((all2_map g).1 h2), fun h => by cases h with | cons h1 h2 => exact .cons h1 ((all2_map g).2 h2)⟩
theorem all2_iff {α γ : Type} {r r' : α → γ → Prop} {l : List α} {vs : List γ} (h : ∀ a u, r a u ↔ r' a u) : All2 r l vs ↔ All2 r' l vs := ⟨fun x => x.mono fun a u => (h a u).1, fun x => x.mono fun a u => (h a u).2⟩
theorem SV.mapK_rel {f : Nat → Nat} {h : PH} {ρ : RM} {z : SV} {v : Value} : (z.mapK f).rel h ρ v ↔ z.rel h (fun k => ρ (f k)) v := by
  cases z with
  | b z => exact BV.mapK_rel
  | opt c z => exact and_congr (imp_congr Iff.rfl BV.mapK_rel) Iff.rfl
  | tup l => exact exists_congr fun vs => and_congr Iff.rfl ((all2_map _).trans (all2_iff fun a u => BV.mapK_rel))
  | xagg l => exact exists_congr fun vs => and_congr Iff.rfl ((all2_map _).trans (all2_iff fun a u => and_congr BV.mapK_rel Iff.rfl))
theorem OC.mapK_ok {f : Nat → Nat} {h : PH} {ρ : RM} {c : OC} {v : Value} {w : World} : (c.mapK f).ok h ρ v w ↔ c.ok h (fun k => ρ (f k)) v w := by
  cases c with
  | box T ps => exact Iff.rfl
  | row T size es => exact Iff.rfl
  | frow T size es => exact Iff.rfl
  | xbox T cs => exact exists_congr fun b => exists_congr fun cur => and_congr Iff.rfl (and_congr Iff.rfl ((all2_map _).trans (all2_iff fun a u => and_congr BV.mapK_rel Iff.rfl)))
theorem mapO_mem {f : Nat → Nat} {l : List (Nat × OC)} {k : Nat} {c : OC} (h : (k, c) ∈ mapO f l) : ∃ k0 c0, (k0, c0) ∈ l ∧ k = f k0 ∧ c = c0.mapK f := by
  obtain ⟨⟨k0, c0⟩, hm, he⟩ := List.mem_map.1 h
  obtain ⟨rfl, rfl⟩ := Prod.mk.inj he
  exact ⟨k0, c0, hm, rfl, rfl⟩
theorem keysOf_mapO {f : Nat → Nat} {l : List (Nat × OC)} : keysOf (mapO f l) = (keysOf l).map f := by simp [keysOf, mapO]
theorem isBox_mapK {f : Nat → Nat} {c : OC} : (c.mapK f).isBox = c.isBox := by cases c <;> rfl
theorem boxKeys_mapO {f : Nat → Nat} : ∀ {l : List (Nat × OC)}, boxKeys (mapO f l) = (boxKeys l).map f
  | [] => rfl
  | (k, c) :: l => by
    have ih := boxKeys_mapO (f := f) (l := l)
    show (if (c.mapK f).isBox = true then f k :: boxKeys (mapO f l) else boxKeys (mapO f l)) = _
    rw [isBox_mapK, ih]
    cases hb : c.isBox <;> simp [boxKeys, hb]
/-- the same contract, two keys exchanged -/
theorem Meets.sw {P : Program} {TB : Tabs} {f : FuncId} {own own' : List (Nat × OC)} {args : List BV} {res : SV} (hm : Meets P TB f own args (Is own' res)) (a b : Nat) :
    Meets P TB f (mapO (swp a b) own) (args.map (·.mapK (swp a b))) (Is (mapO (swp a b) own') (res.mapK (swp a b))) := by
  intro w h ρ vals tb hag hlent hargs
  have hss : (fun k => ρ (swp a b (swp a b k))) = ρ := by funext k; rw [swp_swp]
  have hinj : ∀ {i j : Nat}, swp a b i = swp a b j → i = j := fun {i j} e => by have := congrArg (swp a b) e; rwa [swp_swp, swp_swp] at this
  have hl : Lent own h (fun k => ρ (swp a b k)) w := fun k c hk => by
    obtain ⟨e1, e2, e3⟩ := hlent (swp a b k) (c.mapK (swp a b)) (List.mem_map.2 ⟨(k, c), hk, rfl⟩)
    exact ⟨OC.mapK_ok.1 e1, e2, fun k' c' hk' hne b' hb' => e3 (swp a b k') (c'.mapK (swp a b)) (List.mem_map.2 ⟨(k', c'), hk', rfl⟩) (fun e => hne (hinj e)) b' hb'⟩
  have ha : All2 (fun (x : BV) v => x.rel h (fun k => ρ (swp a b k)) v) args vals := ((all2_map _).trans (all2_iff fun a u => BV.mapK_rel)).1 hargs
  refine (hm w h _ vals tb hag hl ha).mono ?_
  rintro e w' ⟨v, own1, res1, h', ρ', rfl, ⟨rfl, rfl⟩, hw, hres⟩
  have hlt : ∀ b', lent (TB := TB) ⟨w, h, fun k => ρ (swp a b k), tb⟩ ⟨0, boxKeys own, keysOf own⟩ b' ↔ lent (TB := TB) ⟨w, h, ρ, tb⟩ ⟨0, boxKeys (mapO (swp a b) own), keysOf (mapO (swp a b) own)⟩ b' := fun b' => by
    constructor
    · rintro ⟨k, hk, hb⟩
      exact ⟨swp a b k, by show _ ∈ keysOf _; rw [keysOf_mapO]; exact List.mem_map.2 ⟨k, hk, rfl⟩, hb⟩
    · rintro ⟨k, hk, hb⟩
      have hk' : k ∈ (keysOf own).map (swp a b) := by rw [← keysOf_mapO]; exact hk
      obtain ⟨k0, hk0, rfl⟩ := List.mem_map.1 hk'
      exact ⟨k0, hk0, hb⟩
  refine ⟨v, _, _, h', fun k => ρ' (swp a b k), rfl, ⟨rfl, rfl⟩, ⟨hw.agree, hw.le, fun b' hb' hn => hw.fresh b' hb' fun hh => hn ((hlt b').1 hh), hw.size, fun b' hb' hn => hw.same b' hb' fun hh => hn ((hlt b').1 hh), fun k hk => ?_, hw.os, hw.out, fun b' hn o => hw.nl b' ((hlt b').2 hn) o, fun k c hk => ?_⟩, ?_⟩
  · have hk' : k ∈ (boxKeys own).map (swp a b) := by rw [← boxKeys_mapO]; exact hk
    obtain ⟨k0, hk0, rfl⟩ := List.mem_map.1 hk'
    show ρ' (swp a b (swp a b k0)) = _
    rw [swp_swp]; exact hw.fixed k0 hk0
  · obtain ⟨k0, c0, hk0, rfl, rfl⟩ := mapO_mem hk
    obtain ⟨e1, e2, e3⟩ := hw.owned k0 c0 hk0
    have hss' : (fun k => ρ' (swp a b (swp a b k))) = ρ' := by funext k; rw [swp_swp]
    refine ⟨OC.mapK_ok.2 (by rw [swp_swp]; exact (congrArg (fun r => c0.ok h' r (ρ' k0) w') hss').mpr e1), fun b' hb' => ?_, fun k' c' hk' hne b' hb' => ?_⟩
    · have hb2 : blkOf (ρ' k0) = some b' := by rw [← hb']; show _ = blkOf (ρ' (swp a b (swp a b k0))); rw [swp_swp]
      exact ⟨(e2 b' hb2).1.imp_right (hlt b').1, (e2 b' hb2).2⟩
    · obtain ⟨k1, c1, hk1, rfl, rfl⟩ := mapO_mem hk'
      have hb2 : blkOf (ρ' k0) = some b' := by rw [← hb']; show _ = blkOf (ρ' (swp a b (swp a b k0))); rw [swp_swp]
      show blkOf (ρ' (swp a b (swp a b k1))) ≠ _
      rw [swp_swp]
      exact e3 k1 c1 hk1 (fun e => hne (by rw [e])) b' hb2
  · have hss' : (fun k => ρ' (swp a b (swp a b k))) = ρ' := by funext k; rw [swp_swp]
    exact SV.mapK_rel.2 (by rw [hss']; exact hres)
section
variable {P : Program} {TB : Tabs} {E : Env TB} {n : Sh} {s s' : St} {dst : Option Nat} {t ty yt : TypeId} {pos : String} {after : Array Edge} {g : Option (Nat × Bool)} {x y c : Operand} {ops : Array Oper} {l : List Oper} {Q : Post} {cd : Code}
theorem ins_of_mem {α : Type} {k : Nat} {c : α} : ∀ {l : List (Nat × α)} {j : Nat} {x : α}, (j, x) ∈ l → j ≠ k → (j, x) ∈ ins k c l
  | (i, y) :: l, j, x, h, hne => by
    unfold ins
    split
    · next e =>
      have e' : k = i := by simpa using e
      subst e'
      cases List.mem_cons.1 h with
      | inl e => obtain ⟨rfl, rfl⟩ := Prod.mk.inj e; exact absurd rfl hne
      | inr e => exact List.mem_cons_of_mem _ (del_of_mem e hne)
    · cases List.mem_cons.1 h with
      | inl e => rw [e]; exact List.mem_cons_self
      | inr e => exact List.mem_cons_of_mem _ (ins_of_mem e hne)
theorem WR.repl' {own : List (Nat × OC)} {h : PH} {ρ : RM} {w : World} (hw : WR E n own h ρ w) {k : Nat} {c0 c' : OC} (hk : (k, c0) ∈ own) (hc : c'.ok h ρ (ρ k) w) : WR E n (ins k c' own) h ρ w := by
  have := hw.step (w' := w) k (ρ k) c' (blkOf (ρ k)) (fun b e => ⟨c0, hk, e⟩) (Nat.le_refl _) rfl rfl (fun _ _ _ => rfl) (by rw [upd_self]; exact hc) (fun b hb => .inl hb) (.inl rfl) (.inl rfl)
  rwa [upd_self] at this
/-- nil in a box, as an empty row of one's own -/
theorem R.nilrowX {a : Act} {w : World} (hr : R E n s a w) (kb off k size : Nat) (T : TypeId) {T2 : TypeId} {cs : List BV} (hk : lk s.own kb = some (.xbox T2 cs)) (hi : cs[off]? = some (.one .nil)) (hz : 0 < size) (hne : kb ≠ k) (hfx : n.fix.contains k = false) (hnu : noUse k s.own = true) :
    R E n ⟨dropU k s.slots, ins kb (.xbox T2 (cs.set off (.row k))) (ins k (.row T size []) s.own)⟩ a w := by
  obtain ⟨h1, h2, h, ρ, hw, hs⟩ := hr
  obtain ⟨b, cur, e1, e2, e3⟩ := xbox_cells hw hk
  have hst := hw.step (w' := w) k (.slice none 0 0) (.row T size []) none (fun b e => by simp at e) (Nat.le_refl _) rfl rfl (fun _ _ _ => rfl)
    ⟨fun ps hps => by simp at hps, hz, [], ⟨by simp, .inl ⟨rfl, rfl⟩⟩, .nil⟩ (fun b hb => by simp [blkOf] at hb) (.inr fun e => by simp at hfx; exact hfx e) (.inr hnu)
  have hm := ins_of_mem (c := OC.row T size []) (lk_mem hk) hne
  have hcs : All2 (CR h (upd ρ k (.slice none 0 0))) (cs.set off (.row k)) cur.toList := by
    have hno : ∀ j, (cs.any (·.uses j)) = true → upd ρ k (.slice none 0 0) j = ρ j := fun j hj => upd_other _ _ fun e => by
      subst e
      have := noUse_mem hnu (lk_mem hk)
      simp only [OC.uses] at this
      rw [this] at hj; simp at hj
    clear hst hm hk e2
    generalize cur.toList = vl at e3
    induction e3 generalizing off with
    | nil => simp at hi
    | @cons z u cs vl h3 t ih =>
      have hno' : ∀ j, (cs.any (·.uses j)) = true → upd ρ k (.slice none 0 0) j = ρ j := fun j hj => hno j (by simp only [List.any_cons, hj, Bool.or_true])
      have hu : ∀ j, z.uses j = true → upd ρ k (.slice none 0 0) j = ρ j := fun j hj => hno j (by simp [hj])
      have hrest : ∀ {cs : List BV} {vl : List Value}, (∀ j, (cs.any (·.uses j)) = true → upd ρ k (.slice none 0 0) j = ρ j) → All2 (fun (z : BV) u => z.rel h ρ u ∧ u.oneCell' = true) cs vl → All2 (CR h (upd ρ k (.slice none 0 0))) cs vl := by
        intro cs vl hn ha
        induction ha with
        | nil => exact .nil
        | cons h4 _ ih2 => exact .cons ⟨BV.mono (PH.le_refl _) (fun j hj => hn j (by simp [hj])) h4.1, h4.2⟩ (ih2 fun j hj => hn j (by simp only [List.any_cons, hj, Bool.or_true]))
      cases off with
      | zero =>
        simp at hi
        subst hi
        have hv : u = .slice none 0 0 := h3.1.1
        exact .cons ⟨by rw [hv]; exact (upd_same _ _ _).symm, h3.2⟩ (hrest hno' t)
      | succ off => exact .cons ⟨BV.mono (PH.le_refl _) hu h3.1, h3.2⟩ (ih off (by simpa using hi) hno')
  refine ⟨h1, h2, h, _, WR.repl' hst hm ⟨b, cur, by rw [upd_other _ _ hne]; exact e1, e2, hcs⟩, hs.dropU k _⟩
theorem Tri.nilrowX (kb off k size : Nat) (T : TypeId) {T2 : TypeId} {cs : List BV} (hk : lk s.own kb = some (.xbox T2 cs)) (hi : cs[off]? = some (.one .nil)) (hz : 0 < size) (hne : kb ≠ k) (hfx : n.fix.contains k = false) (h : Tri P E n cd ⟨dropU k s.slots, ins kb (.xbox T2 (cs.set off (.row k))) (ins k (.row T size []) s.own)⟩ Q) (hnu : noUse k s.own = true := by rfl) : Tri P E n cd s Q := fun a w hr => h a w (hr.nilrowX kb off k size T hk hi hz hne hfx hnu)
theorem OpsL.nilrowX (kb off k size : Nat) (T : TypeId) {T2 : TypeId} {cs : List BV} (hk : lk s.own kb = some (.xbox T2 cs)) (hi : cs[off]? = some (.one .nil)) (hz : 0 < size) (hne : kb ≠ k) (hfx : n.fix.contains k = false) (h : OpsL P E n ops l ⟨dropU k s.slots, ins kb (.xbox T2 (cs.set off (.row k))) (ins k (.row T size []) s.own)⟩ Q) (hnu : noUse k s.own = true := by rfl) : OpsL P E n ops l s Q := fun a w hr => h a w (hr.nilrowX kb off k size T hk hi hz hne hfx hnu)
theorem Fin.nilrowX {e : Exit} (kb off k size : Nat) (T : TypeId) {T2 : TypeId} {cs : List BV} (hk : lk s.own kb = some (.xbox T2 cs)) (hi : cs[off]? = some (.one .nil)) (hz : 0 < size) (hne : kb ≠ k) (hfx : n.fix.contains k = false) (h : Fin E n e ⟨dropU k s.slots, ins kb (.xbox T2 (cs.set off (.row k))) (ins k (.row T size []) s.own)⟩ Q) (hnu : noUse k s.own = true := by rfl) : Fin E n e s Q := fun a w hr => h a w (hr.nilrowX kb off k size T hk hi hz hne hfx hnu)
end
end Go.Sk

/- The framework, part V: one element put into a slice (the plain side of slices.Insert). -/
namespace Go.Sk
set_option linter.unusedSimpArgs false
set_option linter.unusedVariables false
open Go
def ins1? {α : Type} (s : List α) (i : Int) (v : List α) : Option (List α) :=
  if 0 ≤ i ∧ i ≤ s.length ∧ v.length = 1 ∧ s.length ≤ 999999990 then some (s.take i.toNat ++ v ++ s.drop i.toNat) else none
theorem ins1_ok {α : Type} {s v r : List α} {i : Int} (h : ins1? s i v = some r) : 0 ≤ i ∧ i ≤ s.length ∧ v.length = 1 ∧ s.length ≤ 999999990 ∧ r = s.take i.toNat ++ v ++ s.drop i.toNat := by
  unfold ins1? at h; split at h
  · next hh => exact ⟨hh.1, hh.2.1, hh.2.2.1, hh.2.2.2, (Option.some.inj h).symm⟩
  · simp at h
theorem one_of {α : Type} {v : List α} (h : v.length = 1) : ∃ x, v = [x] := by
  cases v with
  | nil => simp at h
  | cons x l => cases l with
    | nil => exact ⟨x, rfl⟩
    | cons y l => simp at h
theorem ins_grow' {α : Type} (a b : List α) (x z : α) : spliceE (spliceE (a ++ List.replicate (b.length + 1) z) a.length [x]) (a.length + 1) b = a ++ [x] ++ b := by
  have e1 : spliceE (a ++ List.replicate (b.length + 1) z) a.length [x] = (a ++ [x]) ++ List.replicate b.length z := by
    unfold spliceE
    rw [List.take_left', List.drop_append]
    · simp
    · rfl
  rw [e1]
  unfold spliceE
  rw [List.take_left' (by simp), List.drop_append]
  have : (a ++ [x]).length = a.length + 1 := by simp
  rw [this, List.drop_of_length_le (by omega), List.drop_replicate]
  have : b.length - (a.length + 1 + b.length - (a.length + 1)) = 0 := by omega
  rw [this]; simp
theorem ins_place' {α : Type} (a b : List α) (x : α) (hb : 0 < b.length) : spliceE (spliceE (a ++ b) (a.length + 1) b) a.length [x] = a ++ [x] ++ b := by
  cases b with
  | nil => simp at hb
  | cons y b =>
    have e1 : spliceE (a ++ (y :: b)) (a.length + 1) (y :: b) = (a ++ [y]) ++ (y :: b) := by
      unfold spliceE
      have h1 : a ++ y :: b = (a ++ [y]) ++ b := by simp
      rw [h1, List.take_left' (by simp), List.drop_of_length_le (by simp)]
      simp
    rw [e1]
    unfold spliceE
    have h2 : a ++ [y] ++ (y :: b) = a ++ (y :: (y :: b)) := by simp
    rw [h2, List.take_left' rfl, List.drop_append]
    simp
theorem ins_grow {α : Type} {s v : List α} {i : Nat} {z : α} (hi : i < s.length) (hv : v.length = 1) :
    spliceE (spliceE (s.take i ++ List.replicate (s.length + 1 - i) z) i v) (i + 1) ((s.drop i).take (s.length - i)) = s.take i ++ v ++ s.drop i := by
  obtain ⟨x, rfl⟩ := one_of hv
  have h1 : (s.take i).length = i := by simp; omega
  have h2 : (s.drop i).length = s.length - i := by simp
  have := ins_grow' (s.take i) (s.drop i) x z
  rw [h1, h2] at this
  have h3 : (s.drop i).take (s.length - i) = s.drop i := List.take_of_length_le (by omega)
  rw [h3]
  have e : s.length + 1 - i = s.length - i + 1 := by omega
  rw [e]; exact this
theorem ins_place {α : Type} {s v : List α} {i : Nat} (hi : i < s.length) (hv : v.length = 1) :
    spliceE (spliceE s (i + 1) ((s.drop i).take (s.length - i))) i v = s.take i ++ v ++ s.drop i := by
  obtain ⟨x, rfl⟩ := one_of hv
  have h1 : (s.take i).length = i := by simp; omega
  have h2 : (s.drop i).length = s.length - i := by simp
  have := ins_place' (s.take i) (s.drop i) x (by omega)
  rw [h1, List.take_append_drop] at this
  have h3 : (s.drop i).take (s.length - i) = s.drop i := List.take_of_length_le (by omega)
  rw [h3]
  exact this
end Go.Sk
namespace Go.Sk
def slices_Insert_S {α : Type} (_F : Nat) (i : Int) (v s : List α) : Option (List α) := ins1? s i v
end Go.Sk

/- The framework, part W: drawn regions in which some operations write: by stages, one for each set of writers that are done. -/
namespace Go.Sk
set_option linter.unusedSimpArgs false
set_option linter.unusedVariables false
open Go Go.BigFrame
structure Stg where
  done : List Bool
  base : List (Nat × SV)
  own : List (Nat × OC)
  live : List Bool
  must : List Nat
def nb (l : List Bool) (i : Nat) : Bool := l.getD i false
def stgOf : List Stg → List Bool → Option Stg
  | [], _ => none
  | σ :: tab, d => if σ.done == d then some σ else stgOf tab d
theorem stgOf_done : ∀ {tab : List Stg} {d : List Bool} {σ : Stg}, stgOf tab d = some σ → σ.done = d ∧ σ ∈ tab
  | σ0 :: tab, d, σ, h => by
    unfold stgOf at h
    split at h
    · next e => cases h; exact ⟨by simpa using e, List.mem_cons_self⟩
    · exact ⟨(stgOf_done h).1, List.mem_cons_of_mem _ (stgOf_done h).2⟩
def depFactsL (p : Nat → Bool) (l : List Oper) (Fs : List SV) : List Edge → List (Nat × SV)
  | [] => []
  | e :: es => if Region.binds .any e && p e.on then
      match l[e.on]?, Fs[e.on]? with
      | some o, some x => (match o.dst with | some d => (d, x) :: depFactsL p l Fs es | none => depFactsL p l Fs es)
      | _, _ => depFactsL p l Fs es
    else depFactsL p l Fs es
theorem mem_depFactsL {p : Nat → Bool} {l : List Oper} {Fs : List SV} : ∀ {es : List Edge} {q : Nat × SV}, q ∈ depFactsL p l Fs es → ∃ e, e ∈ es ∧ Region.binds .any e = true ∧ p e.on = true ∧ ∃ o, l[e.on]? = some o ∧ o.dst = some q.1 ∧ Fs[e.on]? = some q.2
  | [], q, h => by simp [depFactsL] at h
  | e :: es, q, h => by
    have hrec : q ∈ depFactsL p l Fs es → ∃ e', e' ∈ e :: es ∧ Region.binds .any e' = true ∧ p e'.on = true ∧ ∃ o, l[e'.on]? = some o ∧ o.dst = some q.1 ∧ Fs[e'.on]? = some q.2 := fun h => by
      obtain ⟨e', h1, h2⟩ := mem_depFactsL h
      exact ⟨e', List.mem_cons_of_mem _ h1, h2⟩
    unfold depFactsL at h
    split at h
    · rename_i hb
      simp only [Bool.and_eq_true] at hb
      split at h
      · rename_i o x ho hx
        split at h
        · rename_i d hd
          cases List.mem_cons.1 h with
          | inl e' => subst e'; exact ⟨e, List.mem_cons_self, hb.1, hb.2, o, ho, hd, hx⟩
          | inr e' => exact hrec e'
        · exact hrec h
      · exact hrec h
    · exact hrec h
def dropO : Option Nat → List (Nat × SV) → List (Nat × SV)
  | some k, l => dropU k l
  | none, l => l
def usesO : Option Nat → SV → Bool
  | some k, x => x.uses k
  | none, _ => false
def edgeTo (o : Oper) (j : Nat) : Bool := o.after.toList.any fun e => Region.binds .any e && e.on == j
section
variable {P : Program} {TB : Tabs} {E : Env TB} {n : Sh} {s s' : St} {l : List Oper} {Q : Post} {o : Oper}
def may (isW : List Bool) (σ : Stg) (i : Nat) (o : Oper) : Bool := !nb σ.done i && !σ.must.contains i && (o.after.toList.all fun e => !Region.binds .any e || !nb isW e.on || nb σ.done e.on)
def mustOk (isW : List Bool) (l : List Oper) (σ : Stg) : Bool := σ.must.all fun j => (nb isW j && nb σ.done j) || (σ.must.any fun i => decide (j < i) && (match l[i]? with | some o => edgeTo o j | none => false))
theorem Step1.to {ops : Array Oper} {s1 s2 : St} (h : Step1 P E n ops o s s1) (e : s1 = s2) : Step1 P E n ops o s s2 := e ▸ h
/-- the steps at one stage -/
def WOps (P : Program) {TB : Tabs} (E : Env TB) (n : Sh) (isW : List Bool) (tab : List Stg) (l : List Oper) (Fs : List SV) (σ : Stg) : Nat → List Oper → Prop
  | _, [] => True
  | i, o :: r => (if may isW σ i o = true then
      (if nb isW i = true then ∃ τ key x, stgOf tab (σ.done.set i true) = some τ ∧ (o.dst.isSome = true → Fs[i]? = some x) ∧ τ.base = dropO key σ.base ∧ ((List.range l.length).all fun j => !nb τ.live j || j == i || (nb σ.live j && (match Fs[j]? with | some y => !usesO key y | none => true))) = true ∧
          ∀ extra, Step1 P E n l.toArray o ⟨depFactsL (nb σ.live) l Fs o.after.toList ++ (σ.base ++ extra), σ.own⟩ (St.put n o.dst x ⟨dropO key (depFactsL (nb σ.live) l Fs o.after.toList ++ (σ.base ++ extra)), τ.own⟩)
        else ∃ x, (o.dst.isSome = true → Fs[i]? = some x) ∧ ∀ extra, Step1 P E n l.toArray o ⟨depFactsL (nb σ.live) l Fs o.after.toList ++ (σ.base ++ extra), σ.own⟩ (St.put n o.dst x ⟨depFactsL (nb σ.live) l Fs o.after.toList ++ (σ.base ++ extra), σ.own⟩))
      else True) ∧ WOps P E n isW tab l Fs σ (i + 1) r
def WTab (P : Program) {TB : Tabs} (E : Env TB) (n : Sh) (isW : List Bool) (tab : List Stg) (l : List Oper) (Fs : List SV) : List Stg → Prop
  | [] => True
  | σ :: r => (mustOk isW l σ && ((List.range l.length).all fun i => !nb σ.done i || nb isW i) && (σ.base.all fun p => !(dsts l).contains p.1) && (σ.done.length == l.length)) = true ∧ WOps P E n isW tab l Fs σ 0 l ∧ WTab P E n isW tab l Fs r
theorem WOps.get {isW : List Bool} {tab : List Stg} {l0 : List Oper} {Fs : List SV} {σ : Stg} : ∀ {r : List Oper} {k : Nat}, WOps P E n isW tab l0 Fs σ k r → ∀ (i : Nat) (o : Oper), r[i]? = some o → may isW σ (k + i) o = true →
      (if nb isW (k + i) = true then ∃ τ key x, stgOf tab (σ.done.set (k + i) true) = some τ ∧ (o.dst.isSome = true → Fs[k + i]? = some x) ∧ τ.base = dropO key σ.base ∧ ((List.range l0.length).all fun j => !nb τ.live j || j == k + i || (nb σ.live j && (match Fs[j]? with | some y => !usesO key y | none => true))) = true ∧
          ∀ extra, Step1 P E n l0.toArray o ⟨depFactsL (nb σ.live) l0 Fs o.after.toList ++ (σ.base ++ extra), σ.own⟩ (St.put n o.dst x ⟨dropO key (depFactsL (nb σ.live) l0 Fs o.after.toList ++ (σ.base ++ extra)), τ.own⟩)
        else ∃ x, (o.dst.isSome = true → Fs[k + i]? = some x) ∧ ∀ extra, Step1 P E n l0.toArray o ⟨depFactsL (nb σ.live) l0 Fs o.after.toList ++ (σ.base ++ extra), σ.own⟩ (St.put n o.dst x ⟨depFactsL (nb σ.live) l0 Fs o.after.toList ++ (σ.base ++ extra), σ.own⟩))
  | [], k, h, i, o, ho, _ => by simp at ho
  | p :: r, k, h, i, o, ho, hm => by
    obtain ⟨h1, h2⟩ := h
    cases i with
    | zero =>
      simp at ho; subst ho
      rw [Nat.add_zero] at hm ⊢
      rw [if_pos hm] at h1
      exact h1
    | succ i =>
      have := WOps.get h2 i o (by simpa using ho) (by rw [← hm]; congr 1; omega)
      have e : k + 1 + i = k + (i + 1) := by omega
      rwa [e] at this
theorem WTab.get {isW : List Bool} {tab : List Stg} {Fs : List SV} : ∀ {r : List Stg}, WTab P E n isW tab l Fs r → ∀ σ ∈ r, (mustOk isW l σ && ((List.range l.length).all fun i => !nb σ.done i || nb isW i) && (σ.base.all fun p => !(dsts l).contains p.1) && (σ.done.length == l.length)) = true ∧ WOps P E n isW tab l Fs σ 0 l
  | σ :: r, h, τ, hm => by
    cases List.mem_cons.1 hm with
    | inl e => subst e; exact ⟨h.1, h.2.1⟩
    | inr e => exact WTab.get h.2.2 τ e
theorem mem_dropO {key : Option Nat} {l : List (Nat × SV)} {q : Nat × SV} (h : q ∈ l) (hu : usesO key q.2 = false) : q ∈ dropO key l := by
  cases key with
  | none => exact h
  | some k =>
    show q ∈ dropU k l
    have hu' : q.2.uses k = false := hu
    clear hu
    induction l with
    | nil => simp at h
    | cons p l ih =>
      obtain ⟨i, x⟩ := p
      show q ∈ (if x.uses k = true then dropU k l else (i, x) :: dropU k l)
      cases List.mem_cons.1 h with
      | inl e =>
        subst e
        rw [if_neg (by rw [hu']; simp)]
        exact List.mem_cons_self
      | inr e =>
        split
        · exact ih e
        · exact List.mem_cons_of_mem _ (ih e)
theorem nb_eq {a b : List Bool} (hl : a.length = b.length) (h : ∀ i, nb a i = nb b i) : a = b := by
  refine List.ext_getElem hl fun i h1 h2 => ?_
  have := h i
  simpa [nb, List.getD, List.getElem?_eq_getElem h1, List.getElem?_eq_getElem h2] using this
theorem nb_set {a : List Bool} {i j : Nat} : nb (a.set i true) j = if j = i ∧ i < a.length then true else nb a j := by
  unfold nb
  simp only [List.getD, List.getElem?_set]
  by_cases h : i = j
  · subst h
    by_cases h2 : i < a.length <;> simp [h2]
  · have h' : ¬ j = i := fun e => h e.symm
    simp [h, h']
theorem must_listed {isW : List Bool} {σ : Stg} {listed : Array Bool} (hm : mustOk isW l σ = true) (hw : ∀ i, nb isW i = true → listed.getD i false = nb σ.done i) (hcl : ∀ (i : Nat) (p : Oper), l[i]? = some p → listed.getD i false = true → ∀ e ∈ p.after.toList, Region.binds .any e = true → listed.getD e.on false = true) :
    ∀ m j, l.length - j = m → j ∈ σ.must → listed.getD j false = true := by
  intro m
  induction m using Nat.strongRecOn with
  | _ m ih =>
    intro j hm' hj
    have := List.all_eq_true.1 hm j hj
    simp only [Bool.or_eq_true, Bool.and_eq_true, List.any_eq_true, decide_eq_true_eq] at this
    rcases this with ⟨h1, h2⟩ | ⟨i, hi, hji, hp⟩
    · rw [hw j h1]; exact h2
    · cases hpi : l[i]? with
      | none => rw [hpi] at hp; simp at hp
      | some p =>
        rw [hpi] at hp
        have hil := (List.getElem?_eq_some_iff.1 hpi).1
        simp only [edgeTo, List.any_eq_true, Bool.and_eq_true, beq_iff_eq] at hp
        obtain ⟨e, he, hb, hon⟩ := hp
        have := hcl i p hpi (ih (l.length - i) (by omega) i rfl hi) e he hb
        rwa [hon] at this
theorem anyW {isW : List Bool} {tab : List Stg} {Fs : List SV} (hok : (edgesOk 0 l && nodupB (dsts l) && (dsts l).all (· < n.n) && (isW.length == l.length)) = true) (htab : WTab P E n isW tab l Fs tab)
    (hfin : ∀ σ, stgOf tab isW = some σ → Fin E n .normal ⟨σ.base ++ factsFrom (nb σ.live) 0 l Fs, σ.own⟩ Q) : ∀ (fuel : Nat) (listed : Array Bool) (σ : Stg) (a : Act) (w : World),
    listed.size = l.length → stgOf tab σ.done = some σ → (∀ i, nb isW i = true → listed.getD i false = nb σ.done i) → (∀ (i : Nat) (p : Oper), l[i]? = some p → listed.getD i false = true → ∀ e ∈ p.after.toList, Region.binds .any e = true → listed.getD e.on false = true) →
    l.length ≤ fuel + (listed.toList.filter id).length → R E n ⟨σ.base ++ factsFrom (fun i => listed.getD i false && nb σ.live i) 0 l Fs, σ.own⟩ a w → wpAny P .any l.toArray Q fuel listed a w := by
  simp only [Bool.and_eq_true, beq_iff_eq] at hok
  obtain ⟨⟨⟨hedges, hnd⟩, hlt⟩, hWl⟩ := hok
  simp only [List.all_eq_true] at hlt
  have hcount : ∀ (L : List Bool) (i : Nat) (hi : i < L.length), L[i] = false → ((L.set i true).filter id).length = (L.filter id).length + 1 := by
    intro L
    induction L with
    | nil => intro i hi; simp at hi
    | cons b L ihL =>
      intro i hi hb
      cases i with
      | zero => simp at hb; subst hb; simp
      | succ i =>
        have := ihL i (by simpa using hi) (by simpa using hb)
        cases b <;> simp [this]
  have hready : ∀ (listed : Array Bool), listed.size = l.length → Region.ready .any l.toArray listed = [] → ∀ j, j < l.length → listed.getD j false = true := by
    intro listed hsz hr j hj
    induction j using Nat.strongRecOn with
    | _ j ih =>
      cases hb : listed.getD j false with
      | true => rfl
      | false =>
        exfalso
        have hjs : j < listed.size := by omega
        have hjr : j ∈ Region.ready .any l.toArray listed := by
          rw [mem_ready]
          have hlj : listed.getD j true = false := by
            simp only [Array.getD_eq_getD_getElem?, Array.getElem?_eq_getElem hjs, Option.getD_some] at hb ⊢
            exact hb
          refine ⟨hlj, l[j], by simp [hj], fun e he hbd => ?_⟩
          have := edgesOk_spec hedges j l[j] (by simp) e he hbd
          exact ih e.on (by omega) (by omega)
        rw [hr] at hjr
        simp at hjr
  have hdone : ∀ (listed : Array Bool) (σ : Stg) (a : Act) (w : World), listed.size = l.length → stgOf tab σ.done = some σ → (∀ i, nb isW i = true → listed.getD i false = nb σ.done i) → Region.ready .any l.toArray listed = [] →
      R E n ⟨σ.base ++ factsFrom (fun i => listed.getD i false && nb σ.live i) 0 l Fs, σ.own⟩ a w → Q .normal a w := by
    intro listed σ a w hsz hσ hwl hr hR
    have hall := hready listed hsz hr
    obtain ⟨hσ1, hσ2⟩ := stgOf_done hσ
    obtain ⟨hc, _⟩ := htab.get σ hσ2
    simp only [Bool.and_eq_true, List.all_eq_true, List.mem_range, Bool.or_eq_true, Bool.not_eq_true', beq_iff_eq] at hc
    obtain ⟨⟨⟨_, hc2⟩, _⟩, hc4⟩ := hc
    have he : σ.done = isW := by
      refine nb_eq (by omega) fun i => ?_
      by_cases hi : i < l.length
      · cases hw : nb isW i with
        | true => rw [← hwl i hw]; exact hall i hi
        | false =>
          rcases hc2 i hi with h | h
          · exact h
          · rw [hw] at h; simp at h
      · have h1 : nb σ.done i = false := by simp [nb, List.getD, List.getElem?_eq_none (show σ.done.length ≤ i by omega)]
        have h2 : nb isW i = false := by simp [nb, List.getD, List.getElem?_eq_none (show isW.length ≤ i by omega)]
        rw [h1, h2]
    refine hfin σ (by rw [← he]; exact hσ) a w ?_
    obtain ⟨h1, h2, h, ρ, hw, hs⟩ := hR
    refine ⟨h1, h2, h, ρ, hw, fun k x hx => hs k x ?_⟩
    rcases List.mem_append.1 hx with hx | hx
    · exact List.mem_append.2 (.inl hx)
    · refine List.mem_append.2 (.inr ?_)
      rw [mem_factsFrom] at hx ⊢
      obtain ⟨j, oj, hj, hd, hF, hl⟩ := hx
      rw [Nat.zero_add] at hl
      exact ⟨j, oj, hj, hd, hF, by rw [Nat.zero_add, hall j (List.getElem?_eq_some_iff.1 hj).1, hl]; rfl⟩
  intro fuel
  induction fuel with
  | zero =>
    intro listed σ a w hsz hσ hwl hcl hf hR
    have hnr : Region.ready .any l.toArray listed = [] := by
      apply List.eq_nil_iff_forall_not_mem.2
      intro j hj
      rw [mem_ready] at hj
      obtain ⟨hj1, oj, hoj, _⟩ := hj
      have hjl : j < l.length := by
        have := (Array.getElem?_eq_some_iff.1 hoj).1
        simpa using this
      have hjs : j < listed.size := by omega
      have hz' : listed.toList[j]'(by simpa using hjs) = false := by simpa [Array.getD_eq_getD_getElem?, Array.getElem?_eq_getElem hjs] using hj1
      have h1 := hcount listed.toList j (by simpa using hjs) hz'
      have h2 := List.length_filter_le id (listed.toList.set j true)
      simp at h1 h2 hf
      omega
    exact ⟨hnr, hdone listed σ a w hsz hσ hwl hnr hR⟩
  | succ fuel ih =>
    intro listed σ a w hsz hσ hwl hcl hf hR
    refine ⟨fun hr => hdone listed σ a w hsz hσ hwl hr hR, fun i hi => ?_⟩
    rw [mem_ready] at hi
    obtain ⟨hi1, o', ho, hdeps⟩ := hi
    have hil : i < l.length := by
      have := (Array.getElem?_eq_some_iff.1 ho).1
      simpa using this
    have hol : l[i]? = some o' := by simpa using ho
    have his : i < listed.size := by omega
    have hi1' : listed[i] = false := by simpa [Array.getD_eq_getD_getElem?, Array.getElem?_eq_getElem his] using hi1
    have hi2 : listed.getD i false = false := by simp [Array.getD_eq_getD_getElem?, Array.getElem?_eq_getElem his, hi1']
    obtain ⟨hσ1, hσ2⟩ := stgOf_done hσ
    obtain ⟨hc, hops⟩ := htab.get σ hσ2
    simp only [Bool.and_eq_true, List.all_eq_true, List.mem_range, Bool.or_eq_true, Bool.not_eq_true', beq_iff_eq] at hc
    obtain ⟨⟨⟨hc1, hc2⟩, hc3⟩, hc4⟩ := hc
    have hmust := must_listed (l := l) (σ := σ) (isW := isW) hc1 hwl hcl
    have hmay : may isW σ i o' = true := by
      simp only [may, Bool.and_eq_true, Bool.not_eq_true', List.all_eq_true, Bool.or_eq_true]
      refine ⟨⟨?_, ?_⟩, fun e he => ?_⟩
      · cases hd : nb σ.done i with
        | false => rfl
        | true =>
          rcases hc2 i hil with h | h
          · rw [hd] at h; simp at h
          · rw [hwl i h, hd] at hi2; simp at hi2
      · cases hd : σ.must.contains i with
        | false => rfl
        | true =>
          have := hmust _ i rfl (by simpa using hd)
          rw [hi2] at this; simp at this
      · cases hb : Region.binds .any e with
        | false => simp
        | true =>
          have := hdeps e (by simpa using he) hb
          cases hw : nb isW e.on with
          | false => simp
          | true => rw [hwl _ hw] at this; simp [this]
    have hstep := WOps.get hops i o' hol (by rw [Nat.zero_add]; exact hmay)
    simp only [Nat.zero_add] at hstep
    have hR2 : R E n ⟨depFactsL (nb σ.live) l Fs o'.after.toList ++ (σ.base ++ factsFrom (fun i => listed.getD i false && nb σ.live i) 0 l Fs), σ.own⟩ a w := by
      obtain ⟨h1, h2, h, ρ, hw, hs⟩ := hR
      refine ⟨h1, h2, h, ρ, hw, fun k y hy => ?_⟩
      rcases List.mem_append.1 hy with hy | hy
      · obtain ⟨e, he, hb, hp, o'', ho', hd', hF'⟩ := mem_depFactsL hy
        refine hs k y (List.mem_append.2 (.inr ?_))
        rw [mem_factsFrom]
        exact ⟨e.on, o'', ho', hd', hF', by rw [Nat.zero_add, hdeps e (by simpa using he) hb, hp]; rfl⟩
      · exact hs k y hy
    have hcl' : ∀ (j : Nat) (p : Oper), l[j]? = some p → (listed.setIfInBounds i true).getD j false = true → ∀ e ∈ p.after.toList, Region.binds .any e = true → (listed.setIfInBounds i true).getD e.on false = true := by
      intro j p hj hlj e he hb
      have hset : ∀ q, listed.getD q false = true → (listed.setIfInBounds i true).getD q false = true := fun q hq => by
        by_cases e : q = i
        · subst e; simp [Array.getD_eq_getD_getElem?, his]
        · rw [getD_set_ne false (fun h => e h.symm)]; exact hq
      by_cases e' : j = i
      · subst e'
        rw [hol] at hj; cases hj
        exact hset _ (hdeps e (by simpa using he) hb)
      · rw [getD_set_ne false (fun h => e' h.symm)] at hlj
        exact hset _ (hcl j p hj hlj e he hb)
    have hcnt : l.length ≤ fuel + ((listed.setIfInBounds i true).toList.filter id).length := by
      have := hcount listed.toList i (by simpa using his) (by simpa using hi1')
      rw [Array.toList_setIfInBounds]
      omega
    have hsz' : (listed.setIfInBounds i true).size = l.length := by simpa using hsz
    -- what the step leaves, for the next stage
    have hnext : ∀ (τ : Stg) (key : Option Nat) (x : SV) (a' : Act) (w' : World), (o'.dst.isSome = true → Fs[i]? = some x) → τ.base = dropO key σ.base →
        (∀ j, j < l.length → nb τ.live j = true → j = i ∨ (nb σ.live j = true ∧ ∀ y, Fs[j]? = some y → usesO key y = false)) →
        R E n (St.put n o'.dst x ⟨dropO key (depFactsL (nb σ.live) l Fs o'.after.toList ++ (σ.base ++ factsFrom (fun i => listed.getD i false && nb σ.live i) 0 l Fs)), τ.own⟩) a' w' →
        R E n ⟨τ.base ++ factsFrom (fun i' => (listed.setIfInBounds i true).getD i' false && nb τ.live i') 0 l Fs, τ.own⟩ a' w' := by
      intro τ key x a' w' hx hbase hlive hR'
      obtain ⟨h1, h2, h, ρ, hw, hs⟩ := hR'
      have hown : (St.put n o'.dst x ⟨dropO key (depFactsL (nb σ.live) l Fs o'.after.toList ++ (σ.base ++ factsFrom (fun i => listed.getD i false && nb σ.live i) 0 l Fs)), τ.own⟩).own = τ.own := by
        cases hd : o'.dst with
        | none => rfl
        | some d => simp only [St.put, St.set]; split <;> rfl
      rw [hown] at hw
      refine ⟨h1, h2, h, ρ, hw, fun k y hy => ?_⟩
      have hold : (∀ d, o'.dst = some d → k ≠ d) → (k, y) ∈ dropO key (depFactsL (nb σ.live) l Fs o'.after.toList ++ (σ.base ++ factsFrom (fun i => listed.getD i false && nb σ.live i) 0 l Fs)) → ∃ v, a'.tmps[k]? = some v ∧ y.rel h ρ v := by
        intro hkd hm
        refine hs k y ?_
        cases hd : o'.dst with
        | none => exact hm
        | some d =>
          simp only [St.put, St.set]
          split
          · exact List.mem_cons_of_mem _ (del_of_mem hm (hkd d hd))
          · exact hm
      rcases List.mem_append.1 hy with hy | hy
      · rw [hbase] at hy
        have hy2 : (k, y) ∈ σ.base ∧ usesO key y = false := by
          cases key with
          | none => exact ⟨hy, rfl⟩
          | some q => exact mem_dropU hy
        refine hold (fun d hd e => ?_) (mem_dropO (List.mem_append.2 (.inr (List.mem_append.2 (.inl hy2.1)))) hy2.2)
        have := hc3 (k, y) hy2.1
        simp only [List.contains_eq_mem, decide_eq_false_iff_not] at this
        exact this (by rw [e]; exact mem_dsts hol hd)
      · rw [mem_factsFrom] at hy
        obtain ⟨j, oj, hj, hd', hF', hl'⟩ := hy
        rw [Nat.zero_add] at hl'
        simp only [Bool.and_eq_true] at hl'
        have hjl := (List.getElem?_eq_some_iff.1 hj).1
        by_cases hji : j = i
        · subst hji
          rw [hol] at hj; cases hj
          have hxy : x = y := by
            have := hx (by rw [hd']; rfl)
            rw [this] at hF'; exact Option.some.inj hF'
          subst hxy
          refine hs k x ?_
          have hk : k < n.n := by simpa using hlt k (mem_dsts hol hd')
          simp only [hd', St.put, St.set, hk, if_true]
          exact List.mem_cons_self
        · rcases hlive j hjl hl'.2 with h | ⟨h3, h4⟩
          · exact absurd h hji
          · have hl2 : listed.getD j false = true := by
              have := hl'.1
              rwa [getD_set_ne false (fun e => hji e.symm)] at this
            refine hold (fun d hd e => hji (dsts_inj hnd hj hol (e ▸ hd') hd)) (mem_dropO (List.mem_append.2 (.inr (List.mem_append.2 (.inr ?_)))) (h4 y hF'))
            rw [mem_factsFrom]
            exact ⟨j, oj, hj, hd', hF', by rw [Nat.zero_add, hl2, h3]; rfl⟩
    unfold wpOp
    rw [ho]
    dsimp only
    have fin : ∀ (K : Act → World → Prop), (if Region.wanted o' (yielded l.toArray a.tmps) = true then o'.wp P a w K Q else K (a.put o'.dst undef) w) → (∀ a' w', K a' w' → wpAny P .any l.toArray Q fuel (listed.setIfInBounds i true) a' w') → (if Region.wanted o' (yielded l.toArray a.tmps) = true then (o'.wp P a w (wpAny P .any l.toArray Q fuel (listed.setIfInBounds i true)) Q ∨ False) else wpAny P .any l.toArray Q fuel (listed.setIfInBounds i true) (a.put o'.dst undef) w) := by
      intro K hK hk
      split
      · rename_i hw'
        simp only [hw', if_true] at hK
        exact .inl (Oper.wp_mono hk hK)
      · rename_i hw'
        simp only [hw'] at hK
        exact hk _ _ hK
    by_cases hw : nb isW i = true
    · rw [if_pos hw] at hstep
      obtain ⟨τ, key, x, hτ, hx, hbase, hlive, hst⟩ := hstep
      obtain ⟨hτ1, hτ2⟩ := stgOf_done hτ
      have key1 := hst (factsFrom (fun i => listed.getD i false && nb σ.live i) 0 l Fs) a w hR2 (wpAny P .any l.toArray Q fuel (listed.setIfInBounds i true)) Q (fun a' w' hR' => by
        refine ih _ τ a' w' hsz' (by rw [hτ1]; exact hτ) ?_ hcl' hcnt (hnext τ key x a' w' hx hbase ?_ hR')
        · intro j hj
          rw [hτ1, nb_set]
          by_cases e : j = i
          · subst e
            rw [if_pos ⟨rfl, by omega⟩]
            simp [Array.getD_eq_getD_getElem?, his]
          · rw [if_neg (fun h => e h.1), getD_set_ne false (fun h => e h.symm)]
            exact hwl j hj
        · intro j hjl hlj
          have := List.all_eq_true.1 hlive j (List.mem_range.2 hjl)
          simp only [Bool.or_eq_true, Bool.not_eq_true', beq_iff_eq, Bool.and_eq_true] at this
          rcases this with (h | h) | ⟨h, h'⟩
          · rw [hlj] at h; simp at h
          · exact .inl h
          · refine .inr ⟨h, fun y hy => ?_⟩
            rw [hy] at h'
            simpa using h')
      split
      · rename_i hw'
        simp only [hw', if_true] at key1
        exact .inl key1
      · rename_i hw'
        simp only [hw'] at key1
        exact key1
    · rw [if_neg hw] at hstep
      obtain ⟨x, hx, hst⟩ := hstep
      have key1 := hst (factsFrom (fun i => listed.getD i false && nb σ.live i) 0 l Fs) a w hR2 (wpAny P .any l.toArray Q fuel (listed.setIfInBounds i true)) Q (fun a' w' hR' => by
        refine ih _ σ a' w' hsz' hσ ?_ hcl' hcnt (hnext σ none x a' w' hx rfl (fun j _ hlj => .inr ⟨hlj, fun _ _ => rfl⟩) hR')
        intro j hj
        by_cases e : j = i
        · subst e; exact absurd hj hw
        · rw [getD_set_ne false (fun h => e h.symm)]
          exact hwl j hj)
      split
      · rename_i hw'
        simp only [hw', if_true] at key1
        exact .inl key1
      · rename_i hw'
        simp only [hw'] at key1
        exact key1
/-- a drawn region with writers -/
theorem Tri.regionWF {rid : Nat} {ops : List Oper} (hm : P.follows .mixedOrders = true) (isW : List Bool) (Fs : List SV) (tab : List Stg) {σ0 σf : Stg} (hok : (edgesOk 0 ops && nodupB (dsts ops) && (dsts ops).all (· < n.n) && (isW.length == ops.length)) = true)
    (htab : WTab P E n isW tab ops Fs tab) (h0 : stgOf tab (List.replicate ops.length false) = some σ0) (hs0 : s = ⟨σ0.base, σ0.own⟩) (hf : stgOf tab isW = some σf) (ks kos : List Nat)
    (hs : (⟨σf.base ++ factsFrom (nb σf.live) 0 ops Fs, σf.own⟩ : St).keep ks kos = s') (h : Fin E n .normal s' Q) : Tri P E n (.region rid ops.toArray true) s Q := by
  subst hs0
  intro a w hr
  refine wp_region_any hm ?_
  refine anyW hok htab (Fs := Fs) (fun σ hσ => ?_) _ _ σ0 _ _ (by simp) (by rw [(stgOf_done h0).1]; exact h0) ?_ ?_ (by simp) ?_
  · rw [hf] at hσ; cases hσ
    exact fun a w hr => h a w (hs ▸ hr.keep ks kos)
  · intro i _
    rw [(stgOf_done h0).1]
    by_cases hi : i < ops.length <;> simp [nb, List.getD, Array.getD_eq_getD_getElem?, hi]
  · intro i p hi hl
    exfalso
    simp only [Array.getD_eq_getD_getElem?, Array.getElem?_replicate] at hl
    split at hl <;> simp at hl
  · have hr' := hr.drawn
    obtain ⟨h1, h2, hh, ρ, hw, hsl⟩ := hr'
    refine ⟨h1, h2, hh, ρ, hw, fun k x hx => hsl k x ?_⟩
    rcases List.mem_append.1 hx with hx | hx
    · exact hx
    · rw [mem_factsFrom] at hx
      obtain ⟨j, o, hj, _, _, hl⟩ := hx
      simp only [Nat.zero_add, Array.getD_eq_getD_getElem?, Array.getElem?_replicate, Bool.and_eq_true] at hl
      have := hl.1
      split at this <;> simp at this
theorem Tri.regionW {rid : Nat} {ops : List Oper} {y : Code} (hm : P.follows .mixedOrders = true) (isW : List Bool) (Fs : List SV) (tab : List Stg) {σ0 σf : Stg} (hok : (edgesOk 0 ops && nodupB (dsts ops) && (dsts ops).all (· < n.n) && (isW.length == ops.length)) = true)
    (htab : WTab P E n isW tab ops Fs tab) (h0 : stgOf tab (List.replicate ops.length false) = some σ0) (hs0 : s = ⟨σ0.base, σ0.own⟩) (hf : stgOf tab isW = some σf) (ks kos : List Nat)
    (hs : (⟨σf.base ++ factsFrom (nb σf.live) 0 ops Fs, σf.own⟩ : St).keep ks kos = s') (h : Tri P E n y s' Q) : Tri P E n (.region rid ops.toArray true) s (Exit.then (y.wp P Q) Q) :=
  Tri.regionWF hm isW Fs tab hok htab h0 hs0 hf ks kos hs (Fin.then h)
end
end Go.Sk
namespace Go.Sk
open Go
theorem Meets.nilA {P : Program} {TB : Tabs} {f : FuncId} {own : List (Nat × OC)} {args : List BV} {post : SPost} {size : Nat} (i : Nat) (hz : 0 < size) (h : Meets P TB f own args post) (hi : args[i]? = some (.one (.sl size []))) : Meets P TB f own (args.set i (.one .nil)) post := by
  intro w hh ρ vals tb h1 h2 h3
  refine h w hh ρ vals tb h1 h2 ?_
  clear h h1 h2
  induction args generalizing i vals with
  | nil => simp at hi
  | cons z args ih =>
    cases i with
    | zero =>
      simp at hi
      subst hi
      cases h3 with
      | cons a b => exact .cons ⟨fun ps hp => by simp at hp, hz, .inl ⟨a.1, rfl⟩⟩ b
    | succ i =>
      cases h3 with
      | cons a b => exact .cons a (ih i (by simpa using hi) _ b)
end Go.Sk

/- The framework, part X: bytes made into a string; bits masked; a step behind which a box's cell is forgotten. -/
namespace Go.Sk
set_option linter.unusedSimpArgs false
set_option linter.unusedVariables false
open Go Go.BigFrame
def toStr (l : List Int) : Str := l.map fun n => UInt8.ofNat n.toNat
section
variable {P : Program} {TB : Tabs} {E : Env TB} {n : Sh} {s s2 : St} {dst : Option Nat} {t ty yt : TypeId} {pos : String} {after : Array Edge} {g : Option (Nat × Bool)} {x y c : Operand} {k : IntKind} {a b : Int} {ops : Array Oper} {o : Oper}
theorem op_conv_bytes {src d e : TypeId} {xs : List Int} (hsrc : P.underlying src = some (.slice e)) (he : P.underlying e = some (.int .u8)) (hd : P.underlying d = some .string) (hx : s.ev x = some (.b (.one (.sl 1 (xs.map (eK .u8)))))) :
    Op1 P E n ⟨dst, .convert src d x, ty, pos, after, g⟩ s (s.put n dst (.b (.one (.str (toStr xs))))) :=
  Op1.val (o := ⟨dst, .convert src d x, ty, pos, after, g⟩) fun ac w h ρ hw hs => by
    obtain ⟨hu, hz, hv⟩ := (ev_rel hs hx : (CP.sl 1 (xs.map (eK .u8))).rel h _)
    rcases hv with ⟨hv, he0⟩ | ⟨bl, o, cp, hv, h1, h2, h3⟩
    · have hxs : xs = [] := by simpa using he0
      subst hxs
      refine ⟨.string ⟨⟨[]⟩⟩, ?_, rfl, Nat.zero_le _⟩
      simp only [execOp, hv]
      have := run_convert_bytes_nil (P := P) w src e hsrc he 0 0 d hd
      simp only [Sem.run_bind, this]
      rfl
    · have hlen : (xs.map (eK .u8)).length = xs.length := by simp
      have hfl : (xs.map (eK .u8)).flatten = xs.map (CP.int .u8) := by
        clear hx hu hv h1 h2 h3 hlen
        induction xs with
        | nil => rfl
        | cons a l ih => simp only [List.map_cons, List.flatten_cons, ih, eK]; rfl
      refine ⟨.string ⟨⟨toStr xs⟩⟩, ?_, rfl, by simp only [toStr, List.length_map] at h1 ⊢; omega⟩
      have hc : ∀ i, i < xs.length → w.cell? ⟨bl, o + i, none⟩ = some (.int .u8 (xs.getD i 0)) := fun i hi => by
        obtain ⟨u, hu1, hu2⟩ := h3 i (CP.int .u8 xs[i]) (by rw [hfl]; simp [hi])
        rw [hw.agree _ _ _ hu1, hu2.1]
        simp [List.getD, List.getElem?_eq_getElem hi]
      have := run_convert_bytes_arg (P := P) w src e hsrc he bl o xs.length cp xs rfl hc d hd
      simp only [execOp, hv, hlen]
      simp only [Sem.run_bind, this]
      rfl
theorem and_mask_nat (m a b : Nat) (h : b = 2 ^ m - 1) : a &&& b = a % 2 ^ m := by subst h; exact Nat.and_two_pow_sub_one_eq_mod a m
theorem op_and_mask2 (m : Nat) (hm : m < k.bits) (hb : b = 2 ^ m - 1) (hx : s.ev x = some (.b (.one (.int k a)))) (hy : s.ev y = some (.b (.one (.int k b)))) :
    Op1 P E n ⟨dst, .binOp .and t x y yt, ty, pos, after, g⟩ s (s.put n dst (.b (.one (.int k (a % 2 ^ m))))) :=
  Op1.val (o := ⟨dst, .binOp .and t x y yt, ty, pos, after, g⟩) fun ac w h ρ hw hs => by
    have hpos : (0 : Int) < 2 ^ m := Int.pow_pos (by decide)
    have hlt := Int.emod_lt_of_pos a hpos
    have hge := Int.emod_nonneg a (Int.ne_of_gt hpos)
    have hpow : (2 : Int) ^ m ≤ 2 ^ (k.bits - 1) := by
      have : (2 : Nat) ^ m ≤ 2 ^ (k.bits - 1) := Nat.pow_le_pow_right (by decide) (by omega)
      exact_mod_cast this
    have hr : inR k (a % 2 ^ m) := by
      unfold inR
      cases k <;> simp [IntKind.min, IntKind.max, IntKind.signed, IntKind.bits] at hpow ⊢ <;> omega
    have hbits : (BitVec.ofInt k.bits a &&& BitVec.ofInt k.bits b).toNat = (a % 2 ^ m).toNat := by
      rw [BitVec.toNat_and, BitVec.toNat_ofInt, BitVec.toNat_ofInt]
      have hbn : (b % ((2 ^ k.bits : Nat) : Int)).toNat = 2 ^ m - 1 := by
        have h1 : (2 : Nat) ^ m ≤ 2 ^ k.bits := Nat.pow_le_pow_right (by decide) (by omega)
        have h0 : 0 < (2 : Nat) ^ m := Nat.pow_pos (by decide)
        have h2 : b = ((2 ^ m - 1 : Nat) : Int) := by rw [hb]; push_cast [Nat.one_le_two_pow]; omega
        rw [h2, ← Int.natCast_emod, Int.toNat_natCast, Nat.mod_eq_of_lt (by omega)]
      rw [and_mask_nat m _ _ hbn]
      have hdvd : ((2 ^ m : Nat) : Int) ∣ ((2 ^ k.bits : Nat) : Int) := by
        exact_mod_cast Nat.pow_dvd_pow 2 (Nat.le_of_lt hm)
      have hbp : (0 : Int) < ((2 ^ k.bits : Nat) : Int) := by exact_mod_cast Nat.pow_pos (by decide)
      have hnn := Int.emod_nonneg a (Int.ne_of_gt hbp)
      have h3 : (((a % ((2 ^ k.bits : Nat) : Int)).toNat % 2 ^ m : Nat) : Int) = a % 2 ^ m := by
        rw [Int.natCast_emod, Int.toNat_of_nonneg hnn]
        have := Int.emod_emod_of_dvd a hdvd
        rw [this]
        simp
      omega
    refine ⟨.int k (a % 2 ^ m), ?_, rfl, hr⟩
    simp only [execOp, (ev_int hs hx).1, (ev_int hs hy).1]
    have hrun : (binOp .and t (.int k a) (.int k b) : Sem Value).run P w = .ok (.int k (a % 2 ^ m)) w := by
      have e1 : binOp .and t (.int k a) (.int k b) = Op.intBits .and k a b := by simp [binOp]
      rw [e1]
      simp only [Op.intBits]
      rw [hbits, Int.toNat_of_nonneg hge, wrap_of_inR hr]
      rfl
    simp [eqGuard, hrun]
theorem Step1.forget (kb off : Nat) {T : TypeId} {cs : List BV} (hk : lk s.own kb = some (.xbox T cs)) (h : Step1 P E n ops o ⟨s.slots, ins kb (.xbox T (cs.set off (.one .any))) s.own⟩ s2) : Step1 P E n ops o s s2 :=
  fun a w hr => h a w (hr.forget kb off hk)
end
end Go.Sk

/- Plain laws of the words in which functions are printed: loops over lists, wraps, indices. -/
namespace Go.Sk
set_option linter.unusedSimpArgs false
set_option linter.unusedVariables false
open Go
/-- a list gone through, with an early end -/
def foldE {σ α τ : Type} (f : σ → α → σ ⊕ τ) (fin : σ → τ) : σ → List α → τ
  | s, [] => fin s
  | s, a :: l => match f s a with
    | .inl s' => foldE f fin s' l
    | .inr t => t
theorem drop_idx {α : Type} [Inhabited α] {l : List α} {k : Int} (h0 : 0 ≤ k) (h1 : k < l.length) : l.drop k.toNat = idx l k :: l.drop (k + 1).toNat := by
  have hk : k.toNat < l.length := by omega
  have e : (k + 1).toNat = k.toNat + 1 := by omega
  rw [e, List.drop_eq_getElem_cons hk]
  congr 1
  simp [idx, List.getD, List.getElem?_eq_getElem hk]
theorem idx_nat {α : Type} [Inhabited α] (l : List α) (i : Nat) (h : i < l.length) : idx l (i : Int) = l[i] := by
  simp [idx, List.getD, List.getElem?_eq_getElem h]
theorem iter_foldI {ρ σ α τ : Type} [Inhabited α] (l : List α) (mk : σ → Int → ρ) (body : ρ → Option (ρ ⊕ τ)) (f : σ → α → σ ⊕ τ) (fin : σ → τ) (I : Int → σ → Prop)
    (hb : ∀ s (i : Int), 0 ≤ i → i < l.length → I i s → body (mk s i) = some (match f s (idx l i) with | .inl s' => .inl (mk s' (i + 1)) | .inr t => .inr t))
    (he : ∀ s, I l.length s → body (mk s l.length) = some (.inr (fin s)))
    (hI : ∀ s (i : Int) s', 0 ≤ i → i < l.length → I i s → f s (idx l i) = .inl s' → I (i + 1) s') :
    ∀ (F : Nat) (s : σ) (k : Int), 0 ≤ k → k ≤ l.length → I k s → (l.length : Int) - k < F → iter F body (mk s k) = some (foldE f fin s (l.drop k.toNat)) := by
  intro F
  induction F with
  | zero => intro s k h0 h1 _ h; omega
  | succ F ih =>
    intro s k h0 h1 hIk hF
    rw [iter_succ]
    by_cases hk : k < l.length
    · rw [hb s k h0 hk hIk, drop_idx h0 hk, foldE]
      cases hf : f s (idx l k) with
      | inl s' =>
        simp only [Option.bind_some, alt2]
        exact ih s' (k + 1) (by omega) (by omega) (hI s k s' h0 hk hIk hf) (by omega)
      | inr t => rfl
    · have : k = l.length := by omega
      subst this
      rw [he s hIk]
      have : (l.length : Int).toNat = l.length := by omega
      rw [this, List.drop_length]
      rfl
theorem iter_foldE {ρ σ α τ : Type} [Inhabited α] (l : List α) (mk : σ → Int → ρ) (body : ρ → Option (ρ ⊕ τ)) (f : σ → α → σ ⊕ τ) (fin : σ → τ)
    (hb : ∀ s (i : Int), 0 ≤ i → i < l.length → body (mk s i) = some (match f s (idx l i) with | .inl s' => .inl (mk s' (i + 1)) | .inr t => .inr t))
    (he : ∀ s, body (mk s l.length) = some (.inr (fin s))) (F : Nat) (s : σ) (hF : l.length < F) : iter F body (mk s 0) = some (foldE f fin s l) := by
  have := iter_foldI l mk body f fin (fun _ _ => True) (fun s i h0 h1 _ => hb s i h0 h1) (fun s _ => he s) (fun _ _ _ _ _ _ _ => trivial) F s 0 (by omega) (by omega) trivial (by omega)
  simpa using this
theorem wrap64 {z : Int} (h1 : -9223372036854775808 ≤ z) (h2 : z ≤ 9223372036854775807) : IntKind.i64.wrap z = z := wrap_of_inR (inR_i64 h1 h2)
theorem wrapu64 {z : Int} (h1 : 0 ≤ z) (h2 : z ≤ 18446744073709551615) : IntKind.u64.wrap z = z := wrap_of_inR (inR_u64 h1 h2)
theorem gcall_true {α : Type} [Inhabited α] {m : Option α} : gcall true m = m := rfl
theorem gcall_false {α : Type} [Inhabited α] {m : Option α} : gcall false m = some default := rfl
theorem gcall_some {α : Type} [Inhabited α] {g : Bool} {x : α} : gcall g (some x) = some (if g then x else default) := by cases g <;> rfl
theorem idx_cons_zero {α : Type} [Inhabited α] (a : α) (l : List α) : idx (a :: l) 0 = a := rfl
theorem idx_mem {α : Type} [Inhabited α] {l : List α} {i : Int} (h0 : 0 ≤ i) (h1 : i < l.length) : idx l i ∈ l := List.mem_of_getElem? (idx_eq h0 h1)
theorem mem_idx {α : Type} [Inhabited α] {l : List α} {a : α} (h : a ∈ l) : ∃ i : Int, 0 ≤ i ∧ i < l.length ∧ idx l i = a := by
  obtain ⟨i, hi, rfl⟩ := List.getElem_of_mem h
  exact ⟨i, by omega, by omega, idx_nat l i hi⟩
end Go.Sk
