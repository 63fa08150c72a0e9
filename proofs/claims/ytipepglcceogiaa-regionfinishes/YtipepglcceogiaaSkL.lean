/- The framework, part L: from what a statement reads to what a walk knows, and back. -/
import Derived.Test.YtipepglcceogiaaSkK
import Derived.OpenShut
import Derived.ReadAgain
import Derived.Deep.Slices
import Derived.JoinedCond
import Derived.Handed
namespace Go.Sk
set_option linter.unusedSimpArgs false
set_option linter.unusedVariables false
open Go Go.ChangeShapes Go.WideShapes Go.ChangeAt Go.RowKit Go.Deep

theorem agree_full (W : World) : Agree (full W) W := fun _ _ _ h => h

/-- how a type's values are read as plain data -/
structure TyRead (P : Program) (t : TypeId) {α : Type} (e : α → List CP) : Prop where
  len : ∀ a, (e a).length = P.cellsOf t
  op : ∀ {H : Type} {enc : TypeId × Value → H} {W : World} {sp : Nat → Bool} {held : Bool} {fuel : Nat} {cs : List Value} {x : DataW H × List MemPlace}, DataW.trod enc P W 0 sp held fuel t cs = some x → ∃ a, cellsRel (full W) (e a) cs

theorem inR_of_wf {k : IntKind} {n : Int} (h : (Lit.int k n).wf = true) : inR k n := by
  simp only [Lit.wf, Bool.and_eq_true, decide_eq_true_eq] at h
  exact h
theorem TyRead.int {P : Program} {t : TypeId} {k : IntKind} (ht : P.underlying t = some (.int k)) (hc : P.cellsOf t = 1) : TyRead P t (fun x : Int => [.int k x]) where
  len _ := by simp [hc]
  op h := by
    obtain ⟨n, rfl, _, hw⟩ := DataW.trod_int ht h
    exact ⟨n, .cons ⟨rfl, inR_of_wf hw⟩ .nil⟩
theorem TyRead.bool {P : Program} {t : TypeId} (ht : P.underlying t = some .bool) (hc : P.cellsOf t = 1) : TyRead P t eB where
  len _ := by simp [hc, eB]
  op h := by
    obtain ⟨n, rfl, _⟩ := DataW.trod_bool ht h
    exact ⟨n, .cons rfl .nil⟩
theorem TyRead.str {P : Program} {t : TypeId} (ht : P.underlying t = some .string) (hc : P.cellsOf t = 1) : TyRead P t eS where
  len _ := by simp [hc, eS]
  op h := by
    obtain ⟨s, rfl, _, hs⟩ := DataW.trod_string ht h
    refine ⟨s.data.toList, .cons ⟨?_, ?_⟩ .nil⟩
    · cases s with | mk d => cases d; rfl
    · simpa using hs

/-- the fields from the i-th on, of a struct of T cells -/
inductive TyFlds (P : Program) (fs : Array Field) (T : Nat) : Nat → Nat → {β : Type} → (β → List CP) → Prop where
  | nil {i : Nat} (hi : fs.size ≤ i) : TyFlds P fs T i T (fun _ : Unit => [])
  | cons {i o : Nat} {α β : Type} {e : α → List CP} {es : β → List CP} {f : Field} (hf : fs[i]? = some f) (ho : f.offset = o) (hr : TyRead P f.type e) (h : TyFlds P fs T (i + 1) (o + P.cellsOf f.type) es) : TyFlds P fs T i o (fun x : α × β => e x.1 ++ es x.2)
theorem TyFlds.len {P : Program} {fs : Array Field} {T i o : Nat} {β : Type} {es : β → List CP} (h : TyFlds P fs T i o es) : ∀ b, o + (es b).length = T := by
  induction h with
  | nil hi => intro b; simp
  | cons hf ho hr h ih => intro b; have := ih b.2; have h2 := hr.len b.1; simp only [List.length_append]; omega
theorem TyFlds.op {P : Program} {fs : Array Field} {T i o : Nat} {β : Type} {es : β → List CP} (h : TyFlds P fs T i o es) {H : Type} {enc : TypeId × Value → H} {W : World} {sp : Nat → Bool} {held : Bool} {n : Nat} {cs : List Value} {xs : List (DataW H × List MemPlace)} (hl : cs.length = T)
    (hx : xs.length = fs.size) (hv : ∀ (j : Nat) (f : Field), fs[j]? = some f → DataW.trod enc P W 0 sp held n f.type ((cs.drop f.offset).take (P.cellsOf f.type)) = xs[j]?) : ∃ b, cellsRel (full W) (es b) (cs.drop o) := by
  induction h with
  | nil hi => exact ⟨(), by rw [List.drop_of_length_le (by omega)]; exact .nil⟩
  | @cons i o α β e es f hf ho hr h ih =>
    obtain ⟨b, hb⟩ := ih
    have hi : i < xs.length := by
      rw [hx]
      exact (Array.getElem?_eq_some_iff.1 hf).1
    have h1 := hv i f hf
    rw [List.getElem?_eq_getElem hi] at h1
    obtain ⟨a, ha⟩ := hr.op h1
    refine ⟨(a, b), ?_⟩
    have e1 : cs.drop o = (cs.drop o).take (P.cellsOf f.type) ++ cs.drop (o + P.cellsOf f.type) := by
      rw [← List.drop_drop, List.take_append_drop]
    rw [e1]
    subst ho
    exact All2.append ha hb
theorem TyRead.struct {P : Program} {t : TypeId} {fs : Array Field} {α β : Type} {e : α → List CP} {es : β → List CP} (g : β → α) (ht : P.underlying t = some (.struct fs)) (h : TyFlds P fs (P.cellsOf t) 0 0 es) (hl : ∀ a, (e a).length = P.cellsOf t) (he : ∀ b, e (g b) = es b) : TyRead P t e where
  len := hl
  op hh := by
    obtain ⟨xs, n, _, _, hcl, hxl, hv⟩ := DataW.trod_struct ht hh
    obtain ⟨b, hb⟩ := h.op hcl hxl hv
    exact ⟨g b, by rw [he]; exact hb⟩

/-! ## arguments -/
theorem add_none (b o n : Nat) : (⟨b, o, none⟩ : Addr).add n = ⟨b, o + n, none⟩ := by
  unfold Addr.add
  split
  · simp_all
  · rfl
theorem okWide_cells_slice {P : Program} {W : World} {base : Nat} {t e : TypeId} {v : Value} (ht : P.underlying t = some (.slice e)) (hv : Value.okWide P W .any base t v) :
    v = .slice none 0 0 ∨ ∃ b o len cap, v = .slice (some ⟨b, o, none⟩) len cap := by
  simp only [Value.okWide, ht, Cell.okWide] at hv
  cases v <;> simp_all [Cell.ok]
  rename_i a len cap
  cases a with
  | none =>
    left
    cases len with
    | zero => cases cap with
      | zero => simp
      | succ _ => simp at hv
    | succ _ => simp at hv
  | some a =>
    right
    cases a with
    | mk b o s =>
      simp only [World.has] at hv
      exact ⟨b, o, by simpa using hv.2.2.2.1⟩
theorem forall_choose {α : Type} {p : Nat → α → Prop} : ∀ (n : Nat), (∀ i, i < n → ∃ a, p i a) → ∃ l : List α, l.length = n ∧ ∀ (i : Nat) a, l[i]? = some a → p i a
  | 0, _ => ⟨[], rfl, fun i a h => by simp at h⟩
  | n + 1, h => by
    obtain ⟨l, hl, hp⟩ := forall_choose n fun i hi => h i (by omega)
    obtain ⟨a, ha⟩ := h n (by omega)
    refine ⟨l ++ [a], by simp [hl], fun i b hb => ?_⟩
    by_cases hi : i < n
    · rw [List.getElem?_append_left (by omega)] at hb; exact hp i b hb
    · have hi2 : i < (l ++ [a]).length := (List.getElem?_eq_some_iff.1 hb).1
      have e : i = n := by simp [hl] at hi2; omega
      subst e
      rw [List.getElem?_append_right (by omega)] at hb
      simp [hl] at hb
      subst hb; exact ha
/-- what the reading of a slice says: so many elements -/
def lenIs {H : Type} (d : DataW H) (n : Nat) : Prop := (d = .nil ∧ n = 0) ∨ ∃ els spare, d = .slice els spare ∧ els.length = n
theorem open_sl {P : Program} {H : Type} {enc : TypeId × Value → H} {W : World} {base : Nat} {sp : Nat → Bool} {held : Bool} {t el : TypeId} {α : Type} {e : α → List CP} {v : Value} {d : DataW H} {ps : List MemPlace} (ht : P.underlying t = some (.slice el)) (hr : TyRead P el e) {size : Nat} (hs : P.cellsOf el = size) (hpos : 0 < size)
    (hval : Value.okWide P W .any base t v) (h : DataW.Trod enc P W 0 sp held t v d ps) : ∃ l : List α, (CP.sl size (l.map e)).rel (full W) v ∧ lenIs d l.length := by
  obtain ⟨fuel, hf⟩ := h
  subst hs
  have hu : ∀ l : List α, Uniform (P.cellsOf el) (l.map e) := fun l => uni_map fun x => hr.len x
  have hc : v.cells.toList = [v] := by
    rcases okWide_cells_slice ht hval with rfl | ⟨b, o, len, cap, rfl⟩ <;> rfl
  rw [hc] at hf
  rcases open_slice ht hf with ⟨h1, hx0⟩ | ⟨a, len, cap, m, n, D, Pl, h1, hb, hl, hm, hmm, hx, hi⟩
  · simp at h1
    exact ⟨[], ⟨hu [], hpos, .inl ⟨h1, rfl⟩⟩, .inl ⟨congrArg Prod.fst hx0, rfl⟩⟩
  · simp at h1
    subst h1
    have hlm : len ≤ m := by rw [hmm]; split <;> omega
    obtain ⟨l, hll, hp⟩ := forall_choose (p := fun i a' => cellsRel (full W) (e a') ((W.cells? 0 (a.add (i * P.cellsOf el)) (P.cellsOf el)).getD [])) len fun i hil => by
      obtain ⟨cs', h2, h3⟩ := hi i (by omega)
      obtain ⟨a', ha'⟩ := hr.op h3
      exact ⟨a', by rw [h2]; exact ha'⟩
    rcases okWide_cells_slice ht hval with h0 | ⟨b, o, len', cap', h0⟩
    · simp at h0
    · simp only [Value.slice.injEq, Option.some.injEq] at h0
      obtain ⟨rfl, rfl, rfl⟩ := h0
      refine ⟨l, ⟨hu l, hpos, .inr ⟨b, o, cap, by simp [hll], by simp [hll]; omega, hm, ?_⟩⟩, .inr ⟨_, _, congrArg Prod.fst hx, by simp [hll]⟩⟩
      intro j c hj
      have hjl : j < (l.map e).flatten.length := (List.getElem?_eq_some_iff.1 hj).1
      rw [flatten_len (hu l), List.length_map, hll] at hjl
      have hi' : j / P.cellsOf el < len := by
        rw [Nat.div_lt_iff_lt_mul hpos]; exact hjl
      have hj' : j % P.cellsOf el < P.cellsOf el := Nat.mod_lt _ hpos
      have hdm := Nat.div_add_mod j (P.cellsOf el)
      obtain ⟨cs', h2, h3⟩ := hi (j / P.cellsOf el) (by omega)
      have hli : l[j / P.cellsOf el]? = some (l[j / P.cellsOf el]'(by omega)) := List.getElem?_eq_getElem (by omega)
      have hrel := hp _ _ hli
      rw [h2] at hrel
      have hget := flatten_get (hu l) (j / P.cellsOf el) (e (l[j / P.cellsOf el]'(by omega))) (by rw [List.getElem?_map, hli]; rfl) (j % P.cellsOf el) hj'
      have ej : j / P.cellsOf el * P.cellsOf el + j % P.cellsOf el = j := by rw [Nat.mul_comm]; omega
      rw [ej, hj] at hget
      obtain ⟨u, hu1, hu2⟩ := All2.get hrel _ _ hget.symm
      refine ⟨u, ?_, hu2⟩
      obtain ⟨_, hcl, hcell⟩ := World.cells?_some h2
      have := hcell _ hj'
      simp only [Option.getD_some] at hu1
      have ea : ((⟨b, o, none⟩ : Addr).add (j / P.cellsOf el * P.cellsOf el)).add (j % P.cellsOf el) = ⟨b, o + j, none⟩ := by
        rw [add_none, add_none, Nat.add_assoc, ej]
      rw [hu1, ea] at this
      exact this
theorem open_int1 {P : Program} {W : World} {base : Nat} {t : TypeId} {k : IntKind} {v : Value} (ht : P.underlying t = some (.int k)) (hval : Value.okWide P W .any base t v) : ∃ n, (CP.int k n).rel (full W) v := by
  simp only [Value.okWide, ht, Cell.okWide] at hval
  cases v <;> simp_all [Cell.ok]
  exact ⟨_, rfl, hval.2⟩
theorem open_bool1 {P : Program} {W : World} {base : Nat} {t : TypeId} {v : Value} (ht : P.underlying t = some .bool) (hval : Value.okWide P W .any base t v) : ∃ b, (CP.bool b).rel (full W) v := by
  obtain ⟨b, rfl⟩ := okWide_bool ht hval
  exact ⟨b, rfl⟩
theorem open_str1 {P : Program} {W : World} {base : Nat} {t : TypeId} {v : Value} (ht : P.underlying t = some .string) (hval : Value.okWide P W .any base t v) : ∃ s, (CP.str s).rel (full W) v := by
  obtain ⟨s, rfl⟩ := okWide_string ht hval
  simp only [Value.okWide, ht, Cell.okWide, Cell.ok] at hval
  have h2 : IntKind.i64.max = 9223372036854775807 := rfl
  rw [h2] at hval
  refine ⟨s.data.toList, by cases s with | mk d => cases d; rfl, ?_⟩
  rw [maxLen_eq]
  have : s.size = s.data.toList.length := by rw [Array.length_toList]; rfl
  omega
theorem open_agg1 {P : Program} {H : Type} {enc : TypeId × Value → H} {W : World} {base : Nat} {sp : Nat → Bool} {held : Bool} {t : TypeId} {fs : Array Field} {α : Type} {e : α → List CP} {v : Value} {d : DataW H} {ps : List MemPlace} (ht : P.underlying t = some (.struct fs)) (hr : TyRead P t e)
    (hval : Value.okWide P W .any base t v) (h : DataW.Trod enc P W 0 sp held t v d ps) : ∃ a, ∃ cs, v = .agg cs ∧ cellsRel (full W) (e a) cs.toList := by
  obtain ⟨fuel, hf⟩ := h
  obtain ⟨cs, rfl, _⟩ := okWide_struct ht hval
  obtain ⟨a, ha⟩ := hr.op hf
  exact ⟨a, cs, rfl, ha⟩

/-! ## the end -/
/-- nothing that was there is changed -/
structure Kept (W W' : World) : Prop where
  os : W'.os = W.os
  out : W'.output = W.output
  heap : ∀ b, b < W.heap.size → W'.heap[b]? = W.heap[b]?
theorem Kept.same {W W' : World} (h : Kept W W') {p : MemPlace} (hp : p.block < W.heap.size) : W.sameAt W' p := by
  have := h.heap _ hp
  cases p with
  | cell b o => simp only [MemPlace.block] at this; simp [World.sameAt, World.cell?, this]
  | map b => simp only [MemPlace.block] at this; simp [World.sameAt, this]
theorem Kept.keptBut {W W' : World} (h : Kept W W') (may : MemPlace → Prop) : W.keptBut W' may := by
  refine ⟨h.os, h.out, fun i hi => ?_⟩
  rw [h.heap i hi]
  cases W.heap[i]? with
  | none => rfl
  | some o => cases o with
    | cells c t fr => exact ⟨rfl, rfl, rfl, fun _ _ => rfl⟩
    | map es c => exact .inr ⟨rfl, rfl⟩
    | _ => rfl
theorem trodAll_carry {P : Program} {H : Type} {enc : TypeId × Value → H} {W W' : World} {base : Nat} {sp : Nat → Bool} {held : Bool} : ∀ {ts : List TypeId} {vs : List Value} {ds : List (DataW H)} {ps : List MemPlace}, DataW.TrodAll enc P W base sp held ts vs ds ps → (∀ p ∈ ps, W.sameAt W' p) → DataW.TrodAll enc P W' base sp held ts vs ds ps
  | [], [], [], _, h, _ => h
  | _ :: _, _ :: _, _ :: _, _, ⟨p, q, ⟨n, h1⟩, h2, e⟩, hs => ⟨p, q, ⟨n, DataW.trod_carry n _ _ _ h1 fun x hx => hs x (by rw [e]; exact List.mem_append_left _ hx)⟩, trodAll_carry h2 (fun x hx => hs x (by rw [e]; exact List.mem_append_right _ hx)), e⟩
theorem post_of_kept {P : Program} {H : Type} {enc : TypeId × Value → H} {f : Func} {s : ChangeSpec} {apart fresh handsOn again : Bool} {W W' : World} {args : Array Value} {v : Value} {ds gs : List (DataW H)} {before : List MemPlace}
    {T : TypeId → Prop} (K : Kids P T) (hz : ∀ t e, T t → P.underlying t = some (.slice e) → 0 < P.cellsOf e) (hT : ∀ t ∈ f.params.toList, T t)
    (hW : DataW.Whole enc P f.params.toList s.vars apart W args.toList ds gs before) (hv0 : s.vars = [])
    (ha : (s.fn H (ds ++ gs)).args = ds) (hvv : (s.fn H (ds ++ gs)).vars = []) (hk : Kept W W')
    (hres : ∀ (b : Nat) (sp : Nat → Bool) (hd : Bool), DataW.TrodAll enc P W' b sp hd f.resultTypes.toList (v.resultList f.resultTypes.size) (s.fn H (ds ++ gs)).results [])
    (hok : ∀ (j : Nat) (t : TypeId) (r : Value), f.resultTypes[j]? = some t → (v.resultList f.resultTypes.size)[j]? = some r → Value.okWide P W' .any 0 t r) :
    s.post enc P f apart fresh handsOn again W args v W' := by
  have hlt := hW.lt
  have hW2 := hW
  obtain ⟨p, q, h1, h2, rfl, hz2, hn⟩ := hW2
  rw [hv0] at h2
  obtain ⟨_, rfl⟩ := trodVars_none h2
  simp only [List.append_nil] at *
  have hcarry : DataW.TrodAll enc P W' 0 (fun _ => true) true f.params.toList args.toList ds p := trodAll_carry h1 fun x hx => hk.same (hlt x hx)
  have hargs : ∀ sp : Nat → Bool, (∀ x ∈ p, sp x.block = true) → DataW.TrodAll enc P W' 0 sp true f.params.toList args.toList (s.fn H (ds ++ gs)).args p := fun sp hsp => by
    rw [ha]; exact hcarry.respare K hz hT hsp
  have hvars : ∀ sp : Nat → Bool, DataW.TrodVars enc P W' sp s.vars (s.fn H (ds ++ gs)).vars [] := fun sp => by
    rw [hv0, hvv]; rfl
  have hold : ∀ x ∈ p, (fun b => decide (b < W.heap.size)) x.block = true := fun x hx => by simpa using hlt x hx
  refine ⟨ds, gs, p, [], p, [], hW, hres _ _ _, hargs _ hold, hvars _, hk.keptBut _, fun _ => ?_⟩
  refine ⟨hok, _, _, ([] ++ p) ++ [], ⟨[] ++ p, [], trodAll_append (hargs _ (fun _ _ => rfl)) (hres _ _ _), hvars _, rfl, ?_, ?_⟩, ?_⟩
  · intro b off hp
    have hb : b < W.heap.size := hlt (.cell b off) (by simpa using hp)
    have e : W'.frozen? ⟨b, off, none⟩ = W.frozen? ⟨b, off, none⟩ := by simp only [World.frozen?, hk.heap b hb]
    rw [e]
    exact hz2 b off (by simpa using hp)
  · intro ha
    simpa using hn ha
  · intro x hx _
    simpa using hx
/-- a law's end: the contract says 'true', and all that was there is as it was -/
theorem law_end {P : Program} {f : FuncId} {args : List BV} {vals : List Value} {W : World} {Q : Ending → World → Prop} (hm : Meets P f [] args (Is [] (B true))) (ha : All2 (fun (x : BV) v => x.rel (full W) (fun _ => .bool false) v) args vals)
    (hQ : ∀ W', Kept W W' → Q (.returned (.bool true)) W') : Calls P f vals.toArray W Q := by
  refine (hm W (full W) (fun _ => .bool false) vals (agree_full W) (fun k c h => by simp at h) ha).mono ?_
  rintro e W' ⟨v, own', res, h', ρ', rfl, ⟨rfl, rfl⟩, hw, hres⟩
  have hv : v = .bool true := hres
  subst hv
  exact hQ W' ⟨hw.os, hw.out, fun b hb => hw.same b hb (by simp [lent, keysOf])⟩
end Go.Sk
