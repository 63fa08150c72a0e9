/- part of the proof: the framework -/
import Derived.Test.YtbcdabflmkgkiaaGreatDoorF1
import Derived.Lib.AppendZerosOnto
import Derived.Lib.Overlaps
import Derived.Laws.BytesArg
import Derived.ChangeKeysEq
import Derived.Lib.ConvBytes
import Derived.Below
import Derived.Lib.LaidTab
import Derived.Scope
import Derived.Shelf.Vars
import Derived.MapKept
import Derived.Shelf.Sort.Plain
import Derived.Shelf.Slices.CompactI
import Derived.RangeFuncNested
import Derived.RangeFuncLeaves
import Derived.LoopNIn
import Derived.Maps.RangeRun
namespace Go.Sk
set_option linter.unusedSimpArgs false
set_option linter.unusedVariables false
open Go Go.BigFrame
section
variable {P : Program} {TB : Tabs} {E : Env TB} {n : Sh} {s s' : St} {dst : Option Nat} {t ty yt : TypeId} {pos : String} {after : Array Edge} {g : Option (Nat × Bool)} {x y c : Operand} {ops : Array Oper} {l : List Oper} {Q : Post} {cd : Code}
theorem op_slice_pl {k size bytes lo len cap : Nat} {e : TypeId} {zs : List CP} {yo : Operand} {kk : IntKind} {i : Int} (ht : TySl P t e size bytes zs) (h0 : 0 ≤ i) (h1 : i ≤ len) (h2 : lo + i < cap) (hx : s.ev x = some (.b (.part k size lo len cap))) (hy : s.ev yo = some (.b (.one (.int kk i)))) :
  Op1 P E n ⟨dst, .slice t x (some yo) none none, ty, pos, after, g⟩ s (s.put n dst (.b (.part k size (lo + i.toNat) (len - i.toNat) cap))) :=
 Op1.val (o := ⟨dst, .slice t x (some yo) none none, ty, pos, after, g⟩) fun ac w h ρ hw hs => by
  obtain ⟨b, nn, hρ, hv, hle⟩ := (ev_rel hs hx : BV.rel h ρ (.part k size lo len cap) _)
  obtain ⟨inf, z, hi, hsz, _⟩ := ht.info
  have hel : P.elem t = e := by simp [Program.elem, ht.und]
  have hund : P.underlying t = some (.slice (P.elem t)) := by rw [hel]; exact ht.und
  have hb := run_slice_l (P := P) (w := w) (t := t) (a := some ⟨b, lo * size, none⟩) (len := len) (cap := cap - lo) hund kk i h0 h1
  refine ⟨sliced (some ⟨b, lo * size, none⟩) i.toNat len (cap - lo) size, ?_, b, nn, hρ, ?_, by omega⟩
  ·simp only [execOp, hv, Option.map_some, Option.map_none, (ev_int hs hy).1]
   rw [Sem.run_bind, run_sliceAt_slice w t _ _ _ _ hund, hb, run_sizeOf (i := inf) (by rw [hel]; exact hi), hsz]
   rfl
  ·unfold sliced
   rw [if_neg (by omega)]
   simp only [Option.map_some, add_none, ← Nat.add_mul, Value.slice.injEq, true_and]
   omega
def BV.toPart (k size m cap : Nat) : BV → BV
 | .row j => if j == k then .part k size 0 m cap else .row j
 | z => z
def SV.toPart (k size m cap : Nat) : SV → SV
 | .b z => .b (z.toPart k size m cap)
 | .tup l => .tup (l.map (BV.toPart k size m cap))
 | .xagg l => .xagg (l.map (BV.toPart k size m cap))
 | .opt c z => .opt c (z.toPart k size m cap)
def partS (k size m cap : Nat) (l : List (Nat × SV)) : List (Nat × SV) := l.map fun p => (p.1, p.2.toPart k size m cap)
theorem BV.toPart_rel {h : PH} {ρ : RM} {k size m cap b : Nat} (hρ : ρ k = .slice (some ⟨b, 0, none⟩) m cap) (hm : m ≤ cap) {z : BV} {v : Value} (hz : z.rel h ρ v) : (z.toPart k size m cap).rel h ρ v := by
 cases z with
 | row j =>
  by_cases e : j = k
  ·subst e
   have hv : v = ρ j := hz
   rw [show (BV.row j).toPart j size m cap = .part j size 0 m cap by simp [BV.toPart]]
   exact ⟨b, m, hρ, by rw [hv, hρ, Nat.zero_mul, Nat.sub_zero], by omega⟩
  ·rw [show (BV.row j).toPart k size m cap = .row j by simp [BV.toPart, e]]
   exact hz
 | _ => exact hz
theorem SV.toPart_rel {h : PH} {ρ : RM} {k size m cap b : Nat} (hρ : ρ k = .slice (some ⟨b, 0, none⟩) m cap) (hm : m ≤ cap) {z : SV} {v : Value} (hz : z.rel h ρ v) : (z.toPart k size m cap).rel h ρ v := by
 cases z with
 | b z => exact BV.toPart_rel hρ hm hz
 | opt c z => exact ⟨fun hc => BV.toPart_rel hρ hm (hz.1 hc), hz.2⟩
 | tup l =>
  obtain ⟨vs, e, ha⟩ := hz
  refine ⟨vs, e, ?_⟩
  clear e
  generalize vs.toList = vl at ha
  induction ha with
  | nil => exact .nil
  | cons h1 _ ih => exact .cons (BV.toPart_rel hρ hm h1) ih
 | xagg l =>
  obtain ⟨vs, e, ha⟩ := hz
  refine ⟨vs, e, ?_⟩
  clear e
  generalize vs.toList = vl at ha
  induction ha with
  | nil => exact .nil
  | cons h1 _ ih => exact .cons ⟨BV.toPart_rel hρ hm h1.1, h1.2⟩ ih
theorem R.toPart {k size : Nat} {T : TypeId} {es : List (List CP)} {a : Act} {w : World} (hr : R E n s a w) (hk : lk s.own k = some (.row T size es)) (hne : 0 < es.length) :
  ∃ cap, es.length ≤ cap ∧ cap ≤ 9223372036854775807 ∧ R E n ⟨partS k size es.length cap s.slots, s.own⟩ a w := by
 obtain ⟨h1, h2, h, ρ, hw, hs⟩ := hr
 obtain ⟨_, _, hf⟩ := row_form hw hk
 rcases hf with ⟨_, he⟩ | ⟨b, cap, cur, e1, e2, e3, e4, _⟩
 ·rw [he] at hne; simp at hne
 ·refine ⟨cap, e3, by rw [maxLen_eq] at e4; exact e4, h1, h2, h, ρ, hw, fun j z hz => ?_⟩
  simp only [partS, List.mem_map, Prod.mk.injEq] at hz
  obtain ⟨⟨j', z'⟩, hm, rfl, rfl⟩ := hz
  obtain ⟨v, hv, hrel⟩ := hs _ _ hm
  exact ⟨v, hv, SV.toPart_rel e1 e3 hrel⟩
theorem OpsL.toPart (k : Nat) {size : Nat} {T : TypeId} {es : List (List CP)} (hk : lk s.own k = some (.row T size es)) (hne : 0 < es.length) (h : ∀ cap : Nat, es.length ≤ cap → cap ≤ 9223372036854775807 → OpsL P E n ops l ⟨partS k size es.length cap s.slots, s.own⟩ Q) : OpsL P E n ops l s Q := fun a w hr => by
 obtain ⟨cap, h1, h2, hr'⟩ := hr.toPart hk hne
 exact h cap h1 h2 a w hr'
def spliceE {α : Type} (es : List α) (lo : Nat) (news : List α) : List α := es.take lo ++ news ++ es.drop (lo + news.length)
theorem take_flatten {size : Nat} : ∀ {es : List (List CP)}, Uniform size es → ∀ i, (es.take i).flatten = es.flatten.take (i * size)
 | [], _, i => by simp
 | p :: es, hu, 0 => by simp
 | p :: es, hu, i + 1 => by
  have hp : p.length = size := hu p (by simp)
  have ih := take_flatten (es := es) (fun q hq => hu q (by simp [hq])) i
  have e : (i + 1) * size = p.length + i * size := by rw [Nat.add_mul, hp]; omega
  rw [List.take_succ_cons, List.flatten_cons, ih, List.flatten_cons, e, List.take_length_add_append]
theorem drop_flatten {size : Nat} : ∀ {es : List (List CP)}, Uniform size es → ∀ i, (es.drop i).flatten = es.flatten.drop (i * size)
 | [], _, i => by simp
 | p :: es, hu, 0 => by simp
 | p :: es, hu, i + 1 => by
  have hp : p.length = size := hu p (by simp)
  have ih := drop_flatten (es := es) (fun q hq => hu q (by simp [hq])) i
  have e : (i + 1) * size = p.length + i * size := by rw [Nat.add_mul, hp]; omega
  rw [List.drop_succ_cons, ih, List.flatten_cons, e, List.drop_length_add_append]
theorem spliceE_flat {size : Nat} {es news : List (List CP)} (hu : Uniform size es) (hn : Uniform size news) (lo : Nat) : (spliceE es lo news).flatten = splice es.flatten (lo * size) news.flatten := by
 unfold spliceE splice
 rw [List.flatten_append, List.flatten_append, take_flatten hu, drop_flatten hu, flatten_len hn, Nat.add_mul]
theorem spliceE_uni {size : Nat} {es news : List (List CP)} (hu : Uniform size es) (hn : Uniform size news) (lo : Nat) : Uniform size (spliceE es lo news) := fun ps hp => by
 simp only [spliceE, List.mem_append] at hp
 rcases hp with (h | h) | h
 ·exact hu ps (List.mem_of_mem_take h)
 ·exact hn ps h
 ·exact hu ps (List.mem_of_mem_drop h)
theorem spliceE_len {α : Type} {es news : List α} {lo : Nat} (h : lo ≤ es.length) : (spliceE es lo news).length = max es.length (lo + news.length) := by
 simp only [spliceE, List.length_append, List.length_take, List.length_drop]
 omega
theorem copy_core {h : PH} {ρ : RM} {w : World} (hw : WR E n s.own h ρ w) {k size bytes lo dlen dcap cap b nn sb so slen sc : Nat} {T e : TypeId} {zs : List CP} {es news : List (List CP)} {cs : List Value} (ht : TySl P t e size bytes zs) (hk : lk s.own k = some (.row T size es))
  (hρ : ρ k = .slice (some ⟨b, 0, none⟩) nn cap) (hn : min slen dlen = news.length) (hun : Uniform size news) (hcr : cellsRel h news.flatten cs) (hcell : ∀ j u, cs[j]? = some u → w.cell? ⟨sb, so + j, none⟩ = some u) (hlo : lo ≤ es.length) (hcap : lo + news.length ≤ cap) :
  ∃ w', (Builtin.copy_ #[t, yt] ty #[.slice (some ⟨b, lo * size, none⟩) dlen dcap, .slice (some ⟨sb, so, none⟩) slen sc]).run P w = .ok (goInt news.length) w' ∧ w'.heap.size = w.heap.size ∧ w'.os = w.os ∧ w'.output = w.output ∧ (∀ b', b' ≠ b → w'.heap[b']? = w.heap[b']?) ∧
   (OC.row T size (spliceE es lo news)).ok h ρ (.slice (some ⟨b, 0, none⟩) (spliceE es lo news).length cap) w' := by
 obtain ⟨inf, z, hi, hsz, _⟩ := ht.info
 obtain ⟨hu, hz, cap', cur, h1, h2, h3, h4, h5, h6⟩ := row_some hw hk hρ
 have hcc : cap' = cap ∧ nn = es.length := by rw [hρ] at h1; simp at h1; exact ⟨h1.2.symm, h1.1⟩
 obtain ⟨rfl, rfl⟩ := hcc
 have hcl : cs.length = news.length * size := by rw [← hcr.length, flatten_len hun]
 have hfit : lo * size + 0 + cs.length ≤ cur.size := by
  rw [hcl, h5, Nat.add_zero, ← Nat.add_mul]
  exact Nat.mul_le_mul_right _ hcap
 have hsl : (splice cur.toList (lo * size) cs).length = cur.size := by simp [splice]; omega
 have hl := run_loadCells_list (P := P) (w := w) ⟨sb, so, none⟩ cs fun j v hj => by rw [add_none]; exact hcell j v hj
 have hst := run_storeCells_at P b (lo * size) T cs 0 cur w h2 hfit hcr.one
 rw [Nat.add_zero] at hst
 change _ = Result.ok () (w.setRow b (splice cur.toList (lo * size) cs).toArray) at hst
 refine ⟨w.setRow b (splice cur.toList (lo * size) cs).toArray, ?_, by simp, rfl, rfl, fun b' hb' => setRow_other _ _ _ _ hb', spliceE_uni hu hun lo, hz, (splice cur.toList (lo * size) cs).take ((spliceE es lo news).length * size), ⟨?_, .inr ⟨b, cap', _, rfl, Nat.zero_le _, setRow_heap _ _ _ _ _ _ h2, ?_, h4, ?_, ?_⟩⟩, ?_⟩
 ·rw [hcl] at hl
  simp [Builtin.copy_, run_underlying ht.und, Builtin.lenOf, Builtin.firstCells, sizeOf, typeInfo, hi, hsz, hn, hl, hst]
 ·rw [List.length_take, hsl, h5, spliceE_len hlo]
  have : max es.length (lo + news.length) * size ≤ cap' * size := Nat.mul_le_mul_right _ (by omega)
  omega
 ·rw [spliceE_len hlo]; omega
 ·rw [List.size_toArray, hsl, h5]
 ·rfl
 ·rw [spliceE_len hlo, spliceE_flat hu hun]
  have hrel := All2.splice h6 hcr (lo * size)
  have hle : es.length * size ≤ cap' * size := Nat.mul_le_mul_right _ h3
  have hlo' : lo * size ≤ es.length * size := Nat.mul_le_mul_right _ hlo
  have e : splice (cur.toList.take (es.length * size)) (lo * size) cs = (splice cur.toList (lo * size) cs).take (max es.length (lo + news.length) * size) := by
   unfold splice
   rw [List.take_take, Nat.min_eq_left hlo', List.take_append, List.take_append]
   have hmx : max es.length (lo + news.length) * size = max (es.length * size) (lo * size + cs.length) := by
    rw [hcl, ← Nat.add_mul, Nat.max_def, Nat.max_def]
    by_cases hh : es.length ≤ lo + news.length
    ·rw [if_pos hh, if_pos (Nat.mul_le_mul_right _ hh)]
    ·have : (lo + news.length) * size < es.length * size := Nat.mul_lt_mul_of_pos_right (by omega) hz
     rw [if_neg hh, if_neg (by omega)]
   rw [hmx]
   simp only [List.length_take, List.length_append, Array.length_toList, List.drop_take]
   rw [List.take_of_length_le (l := cur.toList.take (lo * size)) (by simp; omega), List.take_of_length_le (l := cs) (by first | omega | (simp only [List.length_take, Array.length_toList]; omega))]
   congr 1
   congr 1
   simp only [h5] at *
   omega
  rw [← e]
  exact hrel
theorem map_spliceE {α : Type} (e : α → List CP) (xs ys : List α) (lo : Nat) : spliceE (xs.map e) lo (ys.map e) = (spliceE xs lo ys).map e := by
 simp [spliceE, List.map_take, List.map_drop]
end
end Go.Sk

namespace Go.Sk
set_option linter.unusedSimpArgs false
set_option linter.unusedVariables false
open Go Go.BigFrame
section
variable {P : Program} {TB : Tabs} {E : Env TB} {n : Sh} {s s' : St} {dst : Option Nat} {t ty yt : TypeId} {pos : String} {after : Array Edge} {g : Option (Nat × Bool)} {x y c : Operand} {ops : Array Oper} {l : List Oper} {Q : Post} {cd : Code}
end
end Go.Sk

namespace Go.Sk
set_option linter.unusedSimpArgs false
set_option linter.unusedVariables false
open Go Go.BigFrame
structure Ext (P : Program) (f : FuncId) (e : Array Value → Sem Value) : Prop where
 ok : ∃ fn, P.funcs[f]? = some fn ∧ (fn.name == "runtime.NumGoroutine") = false ∧ fn.body.isNone = true ∧ Extern.findNext fn = none ∧ Extern.find fn = some e
theorem Ext.run {P : Program} {f : FuncId} {e : Array Value → Sem Value} (h : Ext P f e) (args : Array Value) (w : World) : (callFunc f args).run P w = ((e args).run P w).andThen fun v w' => .ok (.value v) w' := by
 obtain ⟨fn, h1, h2, h3, h4, h5⟩ := h.ok
 exact run_callFunc_extern h1 h2 h3 h4 h5 args w
section
variable {P : Program} {TB : Tabs} {E : Env TB} {n : Sh} {s s' : St} {dst : Option Nat} {t ty yt : TypeId} {pos : String} {after : Array Edge} {g : Option (Nat × Bool)} {x y c : Operand} {ats : Array TypeId}
end
end Go.Sk

namespace Go.Sk
set_option linter.unusedSimpArgs false
set_option linter.unusedVariables false
open Go
section
variable {P : Program} {TB : Tabs} {E : Env TB} {n : Sh} {s s' : St} {ops : Array Oper} {l : List Oper} {Q : Post}
theorem R.partrow {i k size m cap : Nat} {T : TypeId} {es : List (List CP)} {a : Act} {w : World} (hr : R E n s a w) (hi : s.get i = some (.b (.part k size 0 m cap))) (hk : lk s.own k = some (.row T size es)) (hm : m = es.length) : R E n ⟨(i, .b (.row k)) :: del i s.slots, s.own⟩ a w := by
 obtain ⟨h1, h2, h, ρ, hw, hs⟩ := hr
 refine ⟨h1, h2, h, ρ, hw, ?_⟩
 intro j x hx
 cases List.mem_cons.1 hx with
 | inl e =>
  obtain ⟨rfl, rfl⟩ := Prod.mk.inj e
  obtain ⟨v, hv, b, nn, e1, e2, e3⟩ := hs _ _ (lk_mem (show lk s.slots j = some _ from hi))
  obtain ⟨_, _, cap', cur, f1, _⟩ := row_some hw hk e1
  refine ⟨v, hv, ?_⟩
  have hc : cap' = cap := by rw [e1] at f1; simp at f1; exact f1.2.symm
  show v = ρ k
  rw [e2, f1, hm, Nat.zero_mul, Nat.sub_zero, hc]
 | inr e => exact hs j x (mem_del e).1
theorem OpsL.partrow (i k : Nat) {size m cap : Nat} {T : TypeId} {es : List (List CP)} (hi : s.get i = some (.b (.part k size 0 m cap))) (hk : lk s.own k = some (.row T size es)) (hm : m = es.length) (h : OpsL P E n ops l ⟨(i, .b (.row k)) :: del i s.slots, s.own⟩ Q) : OpsL P E n ops l s Q :=
 fun a w hr => h a w (hr.partrow hi hk hm)
theorem Fin.partrow {e : Exit} (i k : Nat) {size m cap : Nat} {T : TypeId} {es : List (List CP)} (hi : s.get i = some (.b (.part k size 0 m cap))) (hk : lk s.own k = some (.row T size es)) (hm : m = es.length) (h : Fin E n e ⟨(i, .b (.row k)) :: del i s.slots, s.own⟩ Q) : Fin E n e s Q :=
 fun a w hr => h a w (hr.partrow hi hk hm)
end
end Go.Sk

namespace Go.Sk
set_option linter.unusedSimpArgs false
set_option linter.unusedVariables false
open Go
def letN {α β : Type} (a : α) (k : α → β) : β := k a
@[reducible] def un2 {α β γ : Type} (f : α → β → γ) (z : α × β) : γ := f z.1 z.2
@[reducible] def un3 {α β γ δ : Type} (f : α → β → γ → δ) (z : α × β × γ) : δ := f z.1 z.2.1 z.2.2
@[reducible] def un4 {α β γ δ ε : Type} (f : α → β → γ → δ → ε) (z : α × β × γ × δ) : ε := f z.1 z.2.1 z.2.2.1 z.2.2.2
@[reducible] def un5 {α β γ δ ε ζ : Type} (f : α → β → γ → δ → ε → ζ) (z : α × β × γ × δ × ε) : ζ := f z.1 z.2.1 z.2.2.1 z.2.2.2.1 z.2.2.2.2
@[reducible] def un6 {α β γ δ ε ζ η : Type} (f : α → β → γ → δ → ε → ζ → η) (z : α × β × γ × δ × ε × ζ) : η := f z.1 z.2.1 z.2.2.1 z.2.2.2.1 z.2.2.2.2.1 z.2.2.2.2.2
@[reducible] def un7 {α β γ δ ε ζ η θ : Type} (f : α → β → γ → δ → ε → ζ → η → θ) (z : α × β × γ × δ × ε × ζ × η) : θ := f z.1 z.2.1 z.2.2.1 z.2.2.2.1 z.2.2.2.2.1 z.2.2.2.2.2.1 z.2.2.2.2.2.2
@[reducible] def un8 {α β γ δ ε ζ η θ κ : Type} (f : α → β → γ → δ → ε → ζ → η → θ → κ) (z : α × β × γ × δ × ε × ζ × η × θ) : κ := f z.1 z.2.1 z.2.2.1 z.2.2.2.1 z.2.2.2.2.1 z.2.2.2.2.2.1 z.2.2.2.2.2.2.1 z.2.2.2.2.2.2.2
@[reducible] def un0 {γ : Type} (f : γ) (_ : Unit) : γ := f
@[reducible] def alt2 {α β γ : Type} (f : α → γ) (g : β → γ) (z : α ⊕ β) : γ := match z with | .inl x => f x | .inr y => g y
def iter {σ τ : Type} : Nat → (σ → Option (σ ⊕ τ)) → σ → Option τ
 | 0, _, _ => none
 | n + 1, body, s => (body s).bind (alt2 (iter n body) some)
def idx? {α : Type} [Inhabited α] (xs : List α) (i : Int) : Option α := if 0 ≤ i ∧ i < xs.length then some (idx xs i) else none
def app? {α : Type} (xs ys : List α) : Option (List α) := if xs.length + ys.length ≤ 1000000000 then some (xs ++ ys) else none
def drop? {α : Type} (xs : List α) (i : Int) : Option (List α) := if 0 ≤ i ∧ i ≤ xs.length then some (xs.drop i.toNat) else none
def take? {α : Type} (xs : List α) (i : Int) : Option (List α) := if 0 ≤ i ∧ i ≤ xs.length then some (xs.take i.toNat) else none
def quo? (k : IntKind) (a b : Int) : Option Int := if b = 0 then none else some (k.wrap (a.tdiv b))
def rem? (a b : Int) : Option Int := if b = 0 then none else some (a.tmod b)
def gcall {α : Type} [Inhabited α] (g : Bool) (m : Option α) : Option α := if g then m else some default
theorem bnd {α β : Type} {m : Option α} {k : α → Option β} {r : β} (h : m.bind k = some r) : ∃ x, m = some x ∧ k x = some r := by
 cases m with
 | none => simp at h
 | some x => exact ⟨x, rfl, h⟩
theorem gc {α : Type} [Inhabited α] {g : Bool} {m : Option α} {x : α} (h : gcall g m = some x) (hg : g = true) : m = some x := by subst hg; exact h
theorem ix_lo {α : Type} [Inhabited α] {xs : List α} {i : Int} {x : α} (h : idx? xs i = some x) : 0 ≤ i := by
 unfold idx? at h; split at h
 ·exact (by assumption : 0 ≤ i ∧ _).1
 ·simp at h
theorem ix_hi {α : Type} [Inhabited α] {xs : List α} {i : Int} {x : α} (h : idx? xs i = some x) : i < xs.length := by
 unfold idx? at h; split at h
 ·exact (by assumption : 0 ≤ i ∧ _).2
 ·simp at h
theorem ix_eq {α : Type} [Inhabited α] {xs : List α} {i : Int} {x : α} (h : idx? xs i = some x) : idx xs i = x := by
 unfold idx? at h; split at h
 ·simpa using h
 ·simp at h
theorem ix_get {α : Type} [Inhabited α] {xs : List α} {i : Int} {x : α} (h : idx? xs i = some x) : xs[i.toNat]? = some x := by
 rw [idx_eq (ix_lo h) (ix_hi h), ix_eq h]
theorem ix_map {α β : Type} [Inhabited α] {xs : List α} {i : Int} {x : α} {e : α → β} (h : idx? xs i = some x) : (xs.map e)[i.toNat]? = some (e x) := by
 rw [List.getElem?_map, ix_get h]; rfl
theorem ix_lt {α β : Type} [Inhabited α] {xs : List α} {i : Int} {x : α} {e : α → β} (h : idx? xs i = some x) : i.toNat < (xs.map e).length := by
 have := ix_lo h; have := ix_hi h; simp; omega
theorem ix_lt' {α β : Type} [Inhabited α] {xs : List α} {i : Int} {x : α} {e : α → β} (h : idx? xs i = some x) : i < ((xs.map e).length : Int) := by
 have := ix_hi h; simpa using this
theorem idx?_eq {α : Type} [Inhabited α] {xs : List α} {i : Int} (h0 : 0 ≤ i) (h1 : i < xs.length) : idx? xs i = some (idx xs i) := by simp [idx?, h0, h1]
theorem app_len {α : Type} {xs ys z : List α} (h : app? xs ys = some z) : xs.length + ys.length ≤ 1000000000 := by
 unfold app? at h; split at h
 ·assumption
 ·simp at h
theorem app_eq {α : Type} {xs ys z : List α} (h : app? xs ys = some z) : xs ++ ys = z := by
 unfold app? at h; split at h
 ·simpa using h
 ·simp at h
theorem app_map {α : Type} {xs ys z : List α} {e : α → List CP} (h : app? xs ys = some z) : xs.map e ++ ys.map e = z.map e := by rw [← app_eq h, List.map_append]
theorem app_b {α β : Type} {xs ys z : List α} {e : α → β} (h : app? xs ys = some z) {bytes : Nat} (hb : bytes ≤ 140737 := by decide) : ((xs.map e).length + (ys.map e).length) * bytes ≤ 140737488355328 := by
 have := app_len h
 simp only [List.length_map]
 calc (xs.length + ys.length) * bytes ≤ 1000000000 * 140737 := Nat.mul_le_mul this hb
  _ ≤ _ := by decide
theorem app_m {α β : Type} {xs ys z : List α} {e : α → β} (h : app? xs ys = some z) : (xs.map e).length + (ys.map e).length ≤ 9223372036854775807 := by
 have := app_len h
 simp only [List.length_map]; omega
theorem app?_eq {α : Type} {xs ys : List α} (h : xs.length + ys.length ≤ 1000000000) : app? xs ys = some (xs ++ ys) := by simp [app?, h]
theorem drop_ok {α : Type} {xs z : List α} {i : Int} (h : drop? xs i = some z) : 0 ≤ i ∧ i ≤ xs.length ∧ xs.drop i.toNat = z := by
 unfold drop? at h; split at h
 ·next hh => exact ⟨hh.1, hh.2, by simpa using h⟩
 ·simp at h
theorem take_ok {α : Type} {xs z : List α} {i : Int} (h : take? xs i = some z) : 0 ≤ i ∧ i ≤ xs.length ∧ xs.take i.toNat = z := by
 unfold take? at h; split at h
 ·next hh => exact ⟨hh.1, hh.2, by simpa using h⟩
 ·simp at h
theorem quo_ok {k : IntKind} {a b z : Int} (h : quo? k a b = some z) : b ≠ 0 ∧ k.wrap (a.tdiv b) = z := by
 unfold quo? at h; split at h
 ·simp at h
 ·exact ⟨by assumption, by simpa using h⟩
theorem rem_ok {a b z : Int} (h : rem? a b = some z) : b ≠ 0 ∧ a.tmod b = z := by
 unfold rem? at h; split at h
 ·simp at h
 ·exact ⟨by assumption, by simpa using h⟩
section
variable {σ τ : Type} {body : σ → Option (σ ⊕ τ)}
theorem iter_zero {s : σ} : iter 0 body s = none := rfl
theorem iter_succ {n : Nat} {s : σ} : iter (n + 1) body s = (body s).bind (alt2 (iter n body) some) := rfl
theorem iter_spec (I : σ → Prop) (μ : σ → Nat) (Post : τ → Prop) (step : ∀ s, I s → ∃ o, body s = some o ∧ (∀ s', o = .inl s' → I s' ∧ μ s' < μ s) ∧ ∀ t, o = .inr t → Post t) :
  ∀ (n : Nat) (s : σ), I s → μ s < n → ∃ t, iter n body s = some t ∧ Post t := by
 intro n
 induction n with
 | zero => intro s _ h; omega
 | succ n ih =>
  intro s hI hlt
  obtain ⟨o, ho, h1, h2⟩ := step s hI
  rw [iter_succ, ho]
  cases o with
  | inl s' => obtain ⟨hI', hm⟩ := h1 s' rfl; exact ih s' hI' (by omega)
  | inr t => exact ⟨t, rfl, h2 t rfl⟩
end
theorem neg_dec {p : Prop} [Decidable p] : (!decide p) = decide (¬ p) := by simp
section
variable {P : Program} {TB : Tabs} {E : Env TB} {n : Sh} {ops : Array Oper} {l : List Oper} {s s' : St} {Q : Post} {o : Oper} {c x y : Code}
theorem OpsL.consI {α : Type} (k : IntKind) {a : Int} {K : Int → Option α} {r : α} (h : letN a K = some r) (hg : o.guard = none) (h1 : Op1 P E n o s (s.put n o.dst (.b (.one (.int k a)))))
  (H : ∀ z, K z = some r → OpsL P E n ops l (s.put n o.dst (.b (.one (.int k z)))) Q) : OpsL P E n ops (o :: l) s Q := OpsL.cons hg h1 (H a h)
theorem OpsL.consB {α : Type} {a : Bool} {K : Bool → Option α} {r : α} (h : letN a K = some r) (hg : o.guard = none) (h1 : Op1 P E n o s (s.put n o.dst (.b (.one (.bool a)))))
  (H : ∀ z, K z = some r → OpsL P E n ops l (s.put n o.dst (.b (.one (.bool z)))) Q) : OpsL P E n ops (o :: l) s Q := OpsL.cons hg h1 (H a h)
theorem Tri.ite {α : Type} {t : Nat} {b : Bool} {A B : Option α} {r : α} (h : (if b = true then A else B) = some r) (hs : s.get t = some (.b (.one (.bool b)))) (h1 : b = true → A = some r → Tri P E n x s Q) (h2 : b = false → B = some r → Tri P E n y s Q) : Tri P E n (.cond (.tmp t) x y) s Q := by
 refine Tri.cond hs (fun e => h1 e ?_) (fun e => h2 e ?_)
 ·subst e; exact h
 ·subst e; exact h
theorem Tri.seqJ {σ τ : Type} {v : τ} (S : σ → St) (al : σ → τ) (h1 : Tri P E n x s (Exit.then (fun a w => ∃ z, v = al z ∧ R E n (S z) a w) Q)) (h2 : ∀ z, v = al z → Tri P E n y (S z) Q) : Tri P E n (.seq x y) s Q := by
 refine Tri.seq fun a w hr => ?_
 refine Code.wp_mono (fun e a' w' he => ?_) (h1 a w hr)
 cases e with
 | normal => obtain ⟨z, hz, hr'⟩ := he; exact h2 z hz a' w' hr'
 | exit id => exact he
 | goto l => exact he
 | ret => exact he
 | panic ch => exact he
 | outgrown => exact he
theorem Fin.join {σ τ : Type} {v : τ} {S : σ → St} {al : σ → τ} (ks kos : List Nat) (z : σ) (hv : al z = v) (hs : s.keep ks kos = S z) : Fin E n .normal s (Exit.then (fun a w => ∃ z, v = al z ∧ R E n (S z) a w) Q) :=
 fun _ _ hr => ⟨z, hv.symm, hs ▸ hr.keep ks kos⟩
theorem Tri.loopJ {σ τ : Type} {F : Nat} {body : σ → Option (σ ⊕ τ)} {s0 : σ} {v : τ} (h : iter F body s0 = some v) (S : σ → St) (ks kos : List Nat) (hs : s.keep ks kos = S s0)
  (round : ∀ z o, body z = some o → (∀ y, o = .inr y → y = v) → Tri P E n c (S z) (Exit.then (fun a w => ∃ z', o = .inl z' ∧ R E n (S z') a w) Q)) : Tri P E n (.loop c) s Q := by
 refine Tri.keep ks kos hs ?_
 refine Tri.loop (ι := σ × Nat) (fun j => S j.1) (fun j => iter j.2 body j.1 = some v) (fun j => j.2) (s0, F) h rfl ?_
 rintro ⟨z, m⟩ hj
 dsimp only at hj ⊢
 cases m with
 | zero => simp [iter_zero] at hj
 | succ m =>
  rw [iter_succ] at hj
  obtain ⟨o, ho, hj⟩ := bnd hj
  intro a w hr
  refine Code.wp_mono (fun e a' w' he => ?_) (round z o ho (fun y hy => by subst hy; exact Option.some.inj hj) a w hr)
  cases e with
  | normal => obtain ⟨z', hz, hr'⟩ := he; subst hz; exact ⟨(z', m), hj, Nat.lt_succ_self m, hr'⟩
  | exit id => exact he
  | goto l => exact he
  | ret => exact he
  | panic ch => exact he
  | outgrown => exact he
theorem Fin.againJ {σ τ : Type} {o : σ ⊕ τ} {S : σ → St} (ks kos : List Nat) (z : σ) (hv : .inl z = o) (hs : s.keep ks kos = S z) : Fin E n .normal s (Exit.then (fun a w => ∃ z', o = .inl z' ∧ R E n (S z') a w) Q) :=
 fun _ _ hr => ⟨z, hv.symm, hs ▸ hr.keep ks kos⟩
end
end Go.Sk

namespace Go.Sk
set_option linter.unusedSimpArgs false
set_option linter.unusedVariables false
open Go
section
variable {P : Program} {TB : Tabs} {E : Env TB} {n : Sh} {s s' : St} {dst : Option Nat} {t ty yt : TypeId} {pos : String} {after : Array Edge} {g : Option (Nat × Bool)} {x y c : Operand} {k : IntKind} {a b : Int} {ops : Array Oper} {l : List Oper} {Q : Post} {cd : Code}
theorem op_rem2 {z : Int} (h : rem? a b = some z) (hx : s.ev x = some (.b (.one (.int k a)))) (hy : s.ev y = some (.b (.one (.int k b)))) : Op1 P E n ⟨dst, .binOp .rem t x y yt, ty, pos, after, g⟩ s (s.put n dst (.b (.one (.int k z)))) := by
 obtain ⟨h1, rfl⟩ := rem_ok h
 exact op_rem h1 hx hy
theorem op_quo2 {z : Int} (h : quo? k a b = some z) (hx : s.ev x = some (.b (.one (.int k a)))) (hy : s.ev y = some (.b (.one (.int k b)))) : Op1 P E n ⟨dst, .binOp .quo t x y yt, ty, pos, after, g⟩ s (s.put n dst (.b (.one (.int k z)))) := by
 obtain ⟨h1, rfl⟩ := quo_ok h
 exact Op1.val (o := ⟨dst, .binOp .quo t x y yt, ty, pos, after, g⟩) fun ac w h' ρ hw hs => by
  refine ⟨.int k (k.wrap (a.tdiv b)), ?_, rfl, wrap_inR _ _⟩
  simp only [execOp, (ev_int hs hx).1, (ev_int hs hy).1]
  simp [eqGuard, binOp, Op.intDiv, h1]
theorem op_add_str2 {u v z : Str} (h : app? u v = some z) (hx : s.ev x = some (.b (.one (.str u)))) (hy : s.ev y = some (.b (.one (.str v)))) : Op1 P E n ⟨dst, .binOp .add t x y yt, ty, pos, after, g⟩ s (s.put n dst (.b (.one (.str z)))) := by
 have h1 := app_len h
 have h2 := app_eq h
 subst h2
 exact op_add_str (by omega) hx hy
theorem op_conv_wrap {src d : TypeId} {k k0 : IntKind} {a : Int} (hsrc : P.underlying src = some (.int k0)) (ht : P.underlying d = some (.int k)) (hx : s.ev x = some (.b (.one (.int k0 a)))) :
  Op1 P E n ⟨dst, .convert src d x, ty, pos, after, g⟩ s (s.put n dst (.b (.one (.int k (k.wrap a))))) :=
 Op1.val (o := ⟨dst, .convert src d x, ty, pos, after, g⟩) fun ac w h' ρ hw hs => by
  refine ⟨.int k (k.wrap a), ?_, rfl, wrap_inR _ _⟩
  simp only [execOp, (ev_int hs hx).1]
  simp [convert, run_underlying hsrc, run_underlying ht, Conv.intToInt]
theorem op_shr2 {k2 : IntKind} {m : Nat} (hm : m ≤ k.bits) (hx : s.ev x = some (.b (.one (.int k a)))) (hy : s.ev y = some (.b (.one (.int k2 (m : Int))))) {q : Int} (hq : a / 2 ^ m = q) :
  Op1 P E n ⟨dst, .binOp .shr t x y yt, ty, pos, after, g⟩ s (s.put n dst (.b (.one (.int k q)))) :=
 Op1.val (o := ⟨dst, .binOp .shr t x y yt, ty, pos, after, g⟩) fun ac w h' ρ hw hs => by
  have hra := (ev_int hs hx).2
  have hpos : (0 : Int) < 2 ^ m := Int.pow_pos (by decide)
  refine ⟨.int k q, ?_, rfl, ?_⟩
  ·have hmin : min m k.bits = m := Nat.min_eq_left hm
   have hd : a.fdiv (2 ^ m) = q := by rw [← hq, Int.fdiv_eq_ediv_of_nonneg _ (Int.pow_nonneg (by decide))]
   simp only [execOp, (ev_int hs hx).1, (ev_int hs hy).1]
   have hneg : ¬ ((m : Int) < 0) := by omega
   simp [eqGuard, binOp, Op.shift, hmin, hd, hneg]
  ·unfold inR at hra ⊢
   have h5 : k.min ≤ 0 := by cases k <;> simp [IntKind.min, IntKind.signed, IntKind.bits]
   have h6 : 0 ≤ k.max := by cases k <;> simp [IntKind.max, IntKind.signed, IntKind.bits]
   subst hq
   by_cases h0 : 0 ≤ a
   ·have h1 : 0 ≤ a / 2 ^ m := Int.ediv_nonneg h0 (Int.le_of_lt hpos)
    have h2 : a / 2 ^ m ≤ a := Int.ediv_le_self _ h0
    omega
   ·have h1 : a / 2 ^ m ≤ 0 := by
     have := Int.ediv_neg_of_neg_of_pos (by omega : a < 0) hpos; omega
    have h2 : a ≤ a / 2 ^ m := by
     rw [Int.le_ediv_iff_mul_le hpos]
     have h3 : (1 : Int) ≤ 2 ^ m := by omega
     have h4 : a * 2 ^ m ≤ a * 1 := Int.mul_le_mul_of_nonpos_left (by omega) h3
     omega
    omega
def CV.renA (k k' : Nat) : CV → CV
 | .row j => if j == k then .row k' else .row j
 | .ptr j o => if j == k then .ptr k' o else .ptr j o
 | z => z
def BV.renA (k k' : Nat) : BV → BV
 | .row j => if j == k then .row k' else .row j
 | .ptr j o => if j == k then .ptr k' o else .ptr j o
 | .rptr j o => if j == k then .rptr k' o else .rptr j o
 | .part j a b c d => if j == k then .part k' a b c d else .part j a b c d
 | .psl j a b c => if j == k then .psl k' a b c else .psl j a b c
 | .clo f fs cs => .clo f (fs.map (·.renA k k')) (cs.map (·.renA k k'))
 | .xa cs => .xa (cs.map (·.renA k k'))
 | z => z
def SV.renA (k k' : Nat) : SV → SV
 | .b z => .b (z.renA k k')
 | .tup l => .tup (l.map (·.renA k k'))
 | .xagg l => .xagg (l.map (·.renA k k'))
 | .opt c z => .opt c (z.renA k k')
def renS (k k' : Nat) (l : List (Nat × SV)) : List (Nat × SV) := l.map fun p => (p.1, p.2.renA k k')
theorem CV.renA_rel {h : PH} {ρ ρ' : RM} {k k' : Nat} (hk : ρ' k' = ρ k) {z : CV} (ho : ∀ j, j ≠ k → z.uses j = true → ρ' j = ρ j) {v : Value} (hz : z.rel h ρ v) : (z.renA k k').rel h ρ' v := by
 cases z with
 | row j =>
  by_cases e : j = k
  ·subst e; simpa [CV.renA, CV.rel, hk] using hz
  ·have := ho j e (by simp [CV.uses]); simpa [CV.renA, CV.rel, e, this] using hz
 | ptr j o =>
  by_cases e : j = k
  ·subst e; simpa [CV.renA, CV.rel, hk] using hz
  ·have := ho j e (by simp [CV.uses]); simpa [CV.renA, CV.rel, e, this] using hz
 | one p => exact hz
theorem CV.renAL {h : PH} {ρ ρ' : RM} {k k' : Nat} (hk : ρ' k' = ρ k) : ∀ {l : List CV} {vs : List Value}, (∀ j, j ≠ k → l.any (·.uses j) = true → ρ' j = ρ j) → All2 (fun (x : CV) v => x.rel h ρ v) l vs → All2 (fun (x : CV) v => x.rel h ρ' v) (l.map (·.renA k k')) vs
 | _, _, _, .nil => .nil
 | _, _, ho, .cons h1 t => .cons (CV.renA_rel hk (fun j hj hu => ho j hj (by simp [hu])) h1) (CV.renAL hk (fun j hj hu => ho j hj (by simp only [List.any_cons, hu, Bool.or_true])) t)
theorem CV.renAX {h : PH} {ρ ρ' : RM} {k k' : Nat} (hk : ρ' k' = ρ k) : ∀ {l : List CV} {vs : List Value}, (∀ j, j ≠ k → l.any (·.uses j) = true → ρ' j = ρ j) → All2 (fun (x : CV) v => x.rel h ρ v ∧ v.oneCell' = true) l vs → All2 (fun (x : CV) v => x.rel h ρ' v ∧ v.oneCell' = true) (l.map (·.renA k k')) vs
 | _, _, _, .nil => .nil
 | _, _, ho, .cons h1 t => .cons ⟨CV.renA_rel hk (fun j hj hu => ho j hj (by simp [hu])) h1.1, h1.2⟩ (CV.renAX hk (fun j hj hu => ho j hj (by simp only [List.any_cons, hu, Bool.or_true])) t)
theorem BV.renA_rel {h : PH} {ρ ρ' : RM} {k k' : Nat} (hk : ρ' k' = ρ k) {z : BV} (ho : ∀ j, j ≠ k → z.uses j = true → ρ' j = ρ j) {v : Value} (hz : z.rel h ρ v) : (z.renA k k').rel h ρ' v := by
 cases z with
 | row j =>
  by_cases e : j = k
  ·subst e; simpa [BV.renA, BV.rel, hk] using hz
  ·have := ho j e (by simp [BV.uses]); simpa [BV.renA, BV.rel, e, this] using hz
 | ptr j o =>
  by_cases e : j = k
  ·subst e; simpa [BV.renA, BV.rel, hk] using hz
  ·have := ho j e (by simp [BV.uses]); simpa [BV.renA, BV.rel, e, this] using hz
 | rptr j o =>
  by_cases e : j = k
  ·subst e; simpa [BV.renA, BV.rel, hk] using hz
  ·have := ho j e (by simp [BV.uses]); simpa [BV.renA, BV.rel, e, this] using hz
 | part j a b c d =>
  by_cases e : j = k
  ·subst e; simpa [BV.renA, BV.rel, hk] using hz
  ·have := ho j e (by simp [BV.uses]); simpa [BV.renA, BV.rel, e, this] using hz
 | psl j a b c =>
  by_cases e : j = k
  ·subst e; simpa [BV.renA, BV.rel, hk] using hz
  ·have := ho j e (by simp [BV.uses]); simpa [BV.renA, BV.rel, e, this] using hz
 | one p => exact hz
 | agg ps => exact hz
 | eptr ps => exact hz
 | xa cs =>
  obtain ⟨a, e, h1⟩ := hz
  exact ⟨a, e, CV.renAX hk (fun j hj hu => ho j hj hu) h1⟩
 | clo f fs cs =>
  obtain ⟨a, b, e, h1, h2⟩ := hz
  exact ⟨a, b, e, CV.renAL hk (fun j hj hu => ho j hj (by simp only [BV.uses, hu, Bool.true_or])) h1, CV.renAL hk (fun j hj hu => ho j hj (by simp only [BV.uses, hu, Bool.or_true])) h2⟩
theorem SV.renA_rel {h : PH} {ρ ρ' : RM} {k k' : Nat} (hk : ρ' k' = ρ k) {z : SV} (ho : ∀ j, j ≠ k → z.uses j = true → ρ' j = ρ j) {v : Value} (hz : z.rel h ρ v) : (z.renA k k').rel h ρ' v := by
 cases z with
 | b z => exact BV.renA_rel hk ho hz
 | opt c z => exact ⟨fun e => BV.renA_rel hk ho (hz.1 e), hz.2⟩
 | tup zs =>
  obtain ⟨vs, e, ha⟩ := hz
  refine ⟨vs, e, ?_⟩
  clear e
  have ho' : ∀ j, j ≠ k → zs.any (·.uses j) = true → ρ' j = ρ j := ho
  clear ho
  generalize vs.toList = vl at ha
  induction ha with
  | nil => exact .nil
  | cons h1 t ih =>
   refine .cons (BV.renA_rel hk (fun j hj hu => ho' j hj (by simp [hu])) h1) (ih fun j hj hu => ho' j hj (by simp only [List.any_cons, hu, Bool.or_true]))
 | xagg zs =>
  obtain ⟨vs, e, ha⟩ := hz
  refine ⟨vs, e, ?_⟩
  clear e
  have ho' : ∀ j, j ≠ k → zs.any (·.uses j) = true → ρ' j = ρ j := ho
  clear ho
  generalize vs.toList = vl at ha
  induction ha with
  | nil => exact .nil
  | cons h1 t ih =>
   refine .cons ⟨BV.renA_rel hk (fun j hj hu => ho' j hj (by simp [hu])) h1.1, h1.2⟩ (ih fun j hj hu => ho' j hj (by simp only [List.any_cons, hu, Bool.or_true]))
def OC.renA (k k' : Nat) : OC → OC
 | .xbox T cs => .xbox T (cs.map (·.renA k k'))
 | .mp es => .mp (es.map fun q => (q.1, q.2.renA k k'))
 | .mit j m rest cur => .mit (if j == k then k' else j) m rest cur
 | c => c
def renO (k k' : Nat) (l : List (Nat × OC)) : List (Nat × OC) := l.map fun p => (p.1, p.2.renA k k')
theorem OC.renA_ok {h : PH} {ρ ρ' : RM} {k k' : Nat} (hk : ρ' k' = ρ k) {c : OC} (ho : ∀ j, j ≠ k → c.uses j = true → ρ' j = ρ j) {v : Value} {w : World} (hc : c.ok h ρ v w) : (c.renA k k').ok h ρ' v w := by
 cases c with
 | box T ps => exact hc
 | row T size es => exact hc
 | frow T size es => exact hc
 | orow T size es => exact hc
 | sit q pos => exact hc
 | mq m => exact hc
 | rr => exact hc
 | mit j m rest cur =>
  obtain ⟨b, ms, clk, D, seen, x⟩ := hc
  refine ⟨b, ms, clk, D, seen, x.ptr, x.it, ?_, x.obj, x.ents, x.born, x.left, x.at_⟩
  by_cases e : j = k
  ·subst e; simpa using hk.trans x.map
  ·simpa [e] using (ho j e (by simp [OC.uses])).trans x.map
 | mp es =>
  obtain ⟨b, ms, clk, e1, e2, ha, e3⟩ := hc
  refine ⟨b, ms, clk, e1, e2, ?_, e3⟩
  clear e2 e3
  have ho' : ∀ j, j ≠ k → (es.any (·.2.uses j)) = true → ρ' j = ρ j := ho
  clear ho
  unfold entsRel at ha ⊢
  generalize ms.toList = l at ha
  induction ha with
  | nil => exact .nil
  | cons h1 t ih => exact .cons ⟨h1.1, BV.renA_rel hk (fun j hj hu => ho' j hj (by simp [hu])) h1.2⟩ (ih fun j hj hu => ho' j hj (by simp only [List.any_cons, hu, Bool.or_true]))
 | xbox T cs =>
  obtain ⟨b, cur, e1, e2, ha⟩ := hc
  refine ⟨b, cur, e1, e2, ?_⟩
  clear e2
  have ho' : ∀ j, j ≠ k → (cs.any (·.uses j)) = true → ρ' j = ρ j := ho
  clear ho
  generalize cur.toList = l at ha
  induction ha with
  | nil => exact .nil
  | cons h1 t ih => exact .cons ⟨BV.renA_rel hk (fun j hj hu => ho' j hj (by simp [hu])) h1.1, h1.2⟩ (ih fun j hj hu => ho' j hj (by simp only [List.any_cons, hu, Bool.or_true]))
theorem OC.renA_foot {k k' : Nat} {c : OC} {v : Value} {w : World} {b : Nat} : (c.renA k k').foot v w b ↔ c.foot v w b := by cases c <;> exact Iff.rfl
theorem R.rename {a : Act} {w : World} {c : OC} (hr : R E n s a w) (k k' : Nat) (hk : lk s.own k = some c) (hne : k' ≠ k) (hfx : n.fix.contains k' = false) (hnu : noUse k' s.own = true) : R E n ⟨renS k k' (dropU k' s.slots), ins k' (c.renA k k') (renO k k' (del k s.own))⟩ a w := by
 obtain ⟨hd, hn, h, ρ, hw, hs⟩ := hr
 have hfx' : k' ∉ n.fix := by simpa using hfx
 refine ⟨hd, hn, h, upd ρ k' (ρ k), ⟨hw.agree, hw.le, hw.fresh, hw.size, hw.same, fun j hj => ?_, hw.os, hw.out, hw.nl, ?_⟩, ?_⟩
 ·have hjk : j ≠ k' := fun e => by subst e; exact hfx' hj
  rw [upd_other _ _ hjk]; exact hw.fixed j hj
 ·have hkm := lk_mem hk
  have old : ∀ j x, (j, x) ∈ ins k' (c.renA k k') (renO k k' (del k s.own)) → ∃ i y, (i, y) ∈ s.own ∧ x = y.renA k k' ∧ upd ρ k' (ρ k) j = ρ i ∧ (j = k' → i = k) ∧ (j ≠ k' → i = j ∧ j ≠ k) := fun j x hj => by
   rcases mem_ins hj with ⟨rfl, rfl⟩ | ⟨h1, h2⟩
   ·exact ⟨k, c, hkm, rfl, upd_same _ _ _, fun _ => rfl, fun e => absurd rfl e⟩
   ·obtain ⟨⟨j0, y⟩, h3, he⟩ := List.mem_map.1 h2
    obtain ⟨rfl, rfl⟩ := Prod.mk.inj he
    obtain ⟨h4, h5⟩ := mem_del h3
    exact ⟨_, y, h4, rfl, upd_other _ _ h1, fun e => absurd e h1, fun _ => ⟨rfl, h5⟩⟩
  intro j x hj
  obtain ⟨i, y, hi, rfl, hρ, hi1, hi2⟩ := old j x hj
  obtain ⟨e1, e2, e3⟩ := hw.owned i y hi
  rw [hρ]
  refine ⟨OC.renA_ok (upd_same _ _ _) (fun q _ hu => upd_other _ _ fun e => ?_) e1, fun b hb => e2 b (OC.renA_foot.1 hb), fun j' x' hj' hne' b hb => ?_⟩
  ·subst e
   rw [noUse_mem hnu hi] at hu
   simp at hu
  obtain ⟨i', y', hi', rfl, hρ', hi1', hi2'⟩ := old j' x' hj'
  rw [hρ']
  refine fun hb' => e3 i' y' hi' (fun e => hne' ?_) b (OC.renA_foot.1 hb) (OC.renA_foot.1 hb')
  by_cases h1 : j = k'
  ·by_cases h2 : j' = k'
   ·rw [h1, h2]
   ·have := hi1 h1; have h3 := hi2' h2; omega
  ·have h3 := hi2 h1
   by_cases h2 : j' = k'
   ·have := hi1' h2; omega
   ·have := hi2' h2; omega
 ·intro i z hz
  obtain ⟨⟨i0, z0⟩, hm, he⟩ := List.mem_map.1 hz
  obtain ⟨rfl, rfl⟩ := Prod.mk.inj he
  obtain ⟨hm1, hm2⟩ := mem_dropU hm
  obtain ⟨v, hv, hrel⟩ := hs _ _ hm1
  refine ⟨v, hv, SV.renA_rel (upd_same _ _ _) (fun j _ hu => upd_other _ _ fun e => ?_) hrel⟩
  subst e
  rw [hm2] at hu
  simp at hu
theorem Fin.rename {e : Exit} (k k' : Nat) {c : OC} (hk : lk s.own k = some c) (hne : k' ≠ k) (hfx : n.fix.contains k' = false) (h : Fin E n e ⟨renS k k' (dropU k' s.slots), ins k' (c.renA k k') (renO k k' (del k s.own))⟩ Q) (hnu : noUse k' s.own = true := by rfl) : Fin E n e s Q := fun a w hr => h a w (hr.rename k k' hk hne hfx hnu)
theorem Tri.rename (k k' : Nat) {c : OC} (hk : lk s.own k = some c) (hne : k' ≠ k) (hfx : n.fix.contains k' = false) (h : Tri P E n cd ⟨renS k k' (dropU k' s.slots), ins k' (c.renA k k') (renO k k' (del k s.own))⟩ Q) (hnu : noUse k' s.own = true := by rfl) : Tri P E n cd s Q := fun a w hr => h a w (hr.rename k k' hk hne hfx hnu)
end
end Go.Sk

namespace Go.Sk
set_option linter.unusedSimpArgs false
set_option linter.unusedVariables false
open Go Go.BigFrame
section
variable {P : Program} {TB : Tabs} {E : Env TB} {n : Sh} {s s' : St} {dst : Option Nat} {t ty yt : TypeId} {pos : String} {after : Array Edge} {g : Option (Nat × Bool)} {x y c : Operand} {ops : Array Oper} {l : List Oper} {Q : Post} {cd : Code}
def BV.cv : BV → Option CV
 | .one p => some (.one p)
 | .ptr k o => some (.ptr k o)
 | .row k => some (.row k)
 | _ => none
def CV.bv : CV → BV
 | .one p => .one p
 | .ptr k o => .ptr k o
 | .row k => .row k
theorem BV.cv_rel {h : PH} {ρ : RM} {z : BV} {q : CV} (hq : z.cv = some q) {v : Value} (hv : z.rel h ρ v) : q.rel h ρ v := by
 cases z <;> simp [BV.cv] at hq <;> subst hq <;> exact hv
theorem CV.bv_rel {h : PH} {ρ : RM} {q : CV} {v : Value} (hv : q.rel h ρ v) : q.bv.rel h ρ v := by cases q <;> exact hv
def CR (h : PH) (ρ : RM) (z : BV) (u : Value) : Prop := z.rel h ρ u ∧ u.oneCell' = true
def BV.cellOk (own : List (Nat × OC)) : BV → Bool
 | .one _ => true
 | .ptr _ _ => true
 | .clo _ _ _ => true
 | .row j => match lk own j with
  | some (.row _ _ _) => true
  | some (.mq _) => true
  | _ => false
 | _ => false
theorem CV.bvX {h : PH} {ρ : RM} : ∀ {l : List CV} {vs : List Value}, All2 (fun (x : CV) v => x.rel h ρ v ∧ v.oneCell' = true) l vs → All2 (CR h ρ) (l.map CV.bv) vs
 | _, _, .nil => .nil
 | _, _, .cons h1 t => .cons ⟨CV.bv_rel h1.1, h1.2⟩ (CV.bvX t)
theorem cell_of {own : List (Nat × OC)} {h : PH} {ρ : RM} {w : World} (hw : WR E n own h ρ w) {z : BV} (hz : z.cellOk own = true) {v : Value} (hv : z.rel h ρ v) : CR h ρ z v := by
 refine ⟨hv, ?_⟩
 cases z with
 | one p => exact p.one hv
 | ptr k off => obtain ⟨b, _, rfl⟩ := hv; rfl
 | clo f fs cs => obtain ⟨a, b, rfl, _⟩ := hv; rfl
 | row j =>
  have hv' : v = ρ j := hv
  simp only [BV.cellOk] at hz
  cases e : lk own j with
  | none => rw [e] at hz; simp at hz
  | some c =>
   rw [e] at hz
   cases c with
   | row T size es =>
    obtain ⟨_, _, hf⟩ := row_form hw e
    rcases hf with ⟨h1, _⟩ | ⟨b, cap, cur, h1, _⟩ <;> rw [hv', h1] <;> rfl
   | mq m =>
    obtain ⟨b, ms, clk, h1, _⟩ := (hw.owned j _ (lk_mem e)).1
    rw [hv', h1]
    rfl
   | _ => simp at hz
 | _ => simp [BV.cellOk] at hz
theorem upd_self (ρ : RM) (k : Nat) : upd ρ k (ρ k) = ρ := by funext j; simp only [upd]; split <;> simp_all
theorem WR.repl {own : List (Nat × OC)} {h : PH} {ρ : RM} {w : World} (hw : WR E n own h ρ w) {k : Nat} {c0 c' : OC} (hk : lk own k = some c0) (hc : c'.ok h ρ (ρ k) w) (hpl : c'.plain = true := by rfl) : WR E n (ins k c' own) h ρ w := by
 have := hw.step (w' := w) k (ρ k) c' (blkOf (ρ k)) (fun b e => ⟨c0, lk_mem hk, e⟩) (Nat.le_refl _) rfl rfl (fun _ _ _ => rfl) (by rw [upd_self]; exact hc) (fun b hb => .inl hb) (.inl rfl) (.inl rfl) hpl
 rwa [upd_self] at this
theorem xbox_cells {own : List (Nat × OC)} {h : PH} {ρ : RM} {w : World} (hw : WR E n own h ρ w) {k : Nat} {T : TypeId} {cs : List BV} (hk : lk own k = some (.xbox T cs)) :
  ∃ b cur, ρ k = .pointer (some ⟨b, 0, none⟩) ∧ w.heap[b]? = some (.cells cur T (0, 0)) ∧ All2 (CR h ρ) cs cur.toList := (hw.owned k _ (lk_mem hk)).1
theorem ones_rel {h : PH} {ρ : RM} : ∀ {ps : List CP} {vs : List Value}, cellsRel h ps vs → All2 (CR h ρ) (ps.map BV.one) vs
 | [], _, h => by cases h; exact .nil
 | p :: ps, _, h => by cases h with | cons h1 h2 => exact .cons ⟨h1, p.one h1⟩ (ones_rel h2)
theorem rel_ones {h : PH} {ρ : RM} : ∀ {ps : List CP} {vs : List Value}, All2 (CR h ρ) (ps.map BV.one) vs → cellsRel h ps vs
 | [], _, h => by cases h; exact .nil
 | p :: ps, _, h => by cases h with | cons h1 h2 => exact .cons h1.1 (rel_ones h2)
theorem R.toX {a : Act} {w : World} (hr : R E n s a w) (k : Nat) {T : TypeId} {ps : List CP} (hk : lk s.own k = some (.box T ps)) : R E n ⟨s.slots, ins k (.xbox T (ps.map .one)) s.own⟩ a w := by
 obtain ⟨hd, hn, h, ρ, hw, hs⟩ := hr
 obtain ⟨b, cur, e1, e2, e3⟩ := box_cells hw hk
 exact ⟨hd, hn, h, ρ, hw.repl hk ⟨b, cur, e1, e2, ones_rel e3⟩, hs⟩
def ones : List BV → Option (List CP)
 | [] => some []
 | .one p :: l => (ones l).map (p :: ·)
 | _ :: _ => none
theorem ones_eq : ∀ {cs : List BV} {ps : List CP}, ones cs = some ps → cs = ps.map BV.one
 | [], ps, h => by simp [ones] at h; subst h; rfl
 | z :: cs, ps, h => by
  cases z with
  | one p =>
   simp only [ones, Option.map_eq_some_iff] at h
   obtain ⟨q, hq, rfl⟩ := h
   rw [ones_eq hq]; rfl
  | _ => simp [ones] at h
theorem R.unX {a : Act} {w : World} (hr : R E n s a w) (k : Nat) {T : TypeId} {cs : List BV} {ps : List CP} (hk : lk s.own k = some (.xbox T cs)) (ho : ones cs = some ps) : R E n ⟨s.slots, ins k (.box T ps) s.own⟩ a w := by
 obtain ⟨hd, hn, h, ρ, hw, hs⟩ := hr
 obtain ⟨b, cur, e1, e2, e3⟩ := xbox_cells hw hk
 rw [ones_eq ho] at e3
 exact ⟨hd, hn, h, ρ, hw.repl hk ⟨b, cur, e1, e2, rel_ones e3⟩, hs⟩
theorem R.forget {a : Act} {w : World} (hr : R E n s a w) (k off : Nat) {T : TypeId} {cs : List BV} (hk : lk s.own k = some (.xbox T cs)) : R E n ⟨s.slots, ins k (.xbox T (cs.set off (.one .any))) s.own⟩ a w := by
 obtain ⟨hd, hn, h, ρ, hw, hs⟩ := hr
 obtain ⟨b, cur, e1, e2, e3⟩ := xbox_cells hw hk
 refine ⟨hd, hn, h, ρ, hw.repl hk ⟨b, cur, e1, e2, ?_⟩, hs⟩
 have : ∀ {cs : List BV} {vs : List Value} (i : Nat), All2 (CR h ρ) cs vs → All2 (CR h ρ) (cs.set i (.one .any)) vs := by
  intro cs vs i ha
  induction ha generalizing i with
  | nil => simp; exact .nil
  | cons h1 t ih => cases i with
   | zero => simp; exact .cons ⟨h1.2, h1.2⟩ t
   | succ i => simp; exact .cons h1 (ih i)
 exact this off e3
theorem Tri.toX (k : Nat) {T : TypeId} {ps : List CP} (hk : lk s.own k = some (.box T ps)) (h : Tri P E n cd ⟨s.slots, ins k (.xbox T (ps.map .one)) s.own⟩ Q) : Tri P E n cd s Q := fun a w hr => h a w (hr.toX k hk)
theorem OpsL.toX (k : Nat) {T : TypeId} {ps : List CP} (hk : lk s.own k = some (.box T ps)) (h : OpsL P E n ops l ⟨s.slots, ins k (.xbox T (ps.map .one)) s.own⟩ Q) : OpsL P E n ops l s Q := fun a w hr => h a w (hr.toX k hk)
theorem Fin.toX {e : Exit} (k : Nat) {T : TypeId} {ps : List CP} (hk : lk s.own k = some (.box T ps)) (h : Fin E n e ⟨s.slots, ins k (.xbox T (ps.map .one)) s.own⟩ Q) : Fin E n e s Q := fun a w hr => h a w (hr.toX k hk)
theorem Tri.unX (k : Nat) {T : TypeId} {cs : List BV} {ps : List CP} (hk : lk s.own k = some (.xbox T cs)) (ho : ones cs = some ps) (h : Tri P E n cd ⟨s.slots, ins k (.box T ps) s.own⟩ Q) : Tri P E n cd s Q := fun a w hr => h a w (hr.unX k hk ho)
theorem OpsL.unX (k : Nat) {T : TypeId} {cs : List BV} {ps : List CP} (hk : lk s.own k = some (.xbox T cs)) (ho : ones cs = some ps) (h : OpsL P E n ops l ⟨s.slots, ins k (.box T ps) s.own⟩ Q) : OpsL P E n ops l s Q := fun a w hr => h a w (hr.unX k hk ho)
theorem Fin.unX {e : Exit} (k : Nat) {T : TypeId} {cs : List BV} {ps : List CP} (hk : lk s.own k = some (.xbox T cs)) (ho : ones cs = some ps) (h : Fin E n e ⟨s.slots, ins k (.box T ps) s.own⟩ Q) : Fin E n e s Q := fun a w hr => h a w (hr.unX k hk ho)
theorem Tri.forget (k off : Nat) {T : TypeId} {cs : List BV} (hk : lk s.own k = some (.xbox T cs)) (h : Tri P E n cd ⟨s.slots, ins k (.xbox T (cs.set off (.one .any))) s.own⟩ Q) : Tri P E n cd s Q := fun a w hr => h a w (hr.forget k off hk)
theorem OpsL.forget (k off : Nat) {T : TypeId} {cs : List BV} (hk : lk s.own k = some (.xbox T cs)) (h : OpsL P E n ops l ⟨s.slots, ins k (.xbox T (cs.set off (.one .any))) s.own⟩ Q) : OpsL P E n ops l s Q := fun a w hr => h a w (hr.forget k off hk)
theorem Fin.forget {e : Exit} (k off : Nat) {T : TypeId} {cs : List BV} (hk : lk s.own k = some (.xbox T cs)) (h : Fin E n e ⟨s.slots, ins k (.xbox T (cs.set off (.one .any))) s.own⟩ Q) : Fin E n e s Q := fun a w hr => h a w (hr.forget k off hk)
theorem op_load_x1 {k off : Nat} {T : TypeId} {cs : List BV} {z : BV} (ht : TyOne P t) (hx : s.ev x = some (.b (.ptr k off))) (hk : lk s.own k = some (.xbox T cs)) (hp : cs[off]? = some z) :
  Op1 P E n ⟨dst, .load t x, ty, pos, after, g⟩ s (s.put n dst (.b z)) :=
 Op1.val (o := ⟨dst, .load t x, ty, pos, after, g⟩) fun ac w h ρ hw hs => by
  obtain ⟨b, he, hv⟩ := (ev_rel hs hx : BV.rel h ρ (.ptr k off) _)
  obtain ⟨b', cur, hb1, hb2, hb3⟩ := xbox_cells hw hk
  have : b' = b := by rw [hb1] at he; simpa using he
  subst this
  obtain ⟨u, hu, hpu⟩ := hb3.get off z hp
  have := run_load_one ht (w := w) (b := b') (o := off) (v := u) (by rw [cell_row hb2]; simpa using hu)
  refine ⟨u, ?_, hpu.1⟩
  simp only [execOp, hv, Instr.loadAt, Instr.sureAddr]
  simp [this]
theorem op_load_xa {k off m : Nat} {T : TypeId} {cs zs : List BV} (ht : TyAgg P t m) (hx : s.ev x = some (.b (.ptr k off))) (hk : lk s.own k = some (.xbox T cs)) (hp : (cs.drop off).take m = zs) (hq : zs.length = m) :
  Op1 P E n ⟨dst, .load t x, ty, pos, after, g⟩ s (s.put n dst (.xagg zs)) :=
 Op1.val (o := ⟨dst, .load t x, ty, pos, after, g⟩) fun ac w h ρ hw hs => by
  obtain ⟨b, he, hv⟩ := (ev_rel hs hx : BV.rel h ρ (.ptr k off) _)
  obtain ⟨b', cur, hb1, hb2, hb3⟩ := xbox_cells hw hk
  have : b' = b := by rw [hb1] at he; simpa using he
  subst this
  have hc : All2 (CR h ρ) zs ((cur.toList.drop off).take m) := by rw [← hp]; exact All2.take (All2.drop hb3 off) m
  refine ⟨.agg ((cur.toList.drop off).take m).toArray, ?_, _, rfl, hc⟩
  have := run_load_agg ht (w := w) (b := b') (o := off) (cs := (cur.toList.drop off).take m) (by rw [← hc.length, hq]) (fun j v hv => by
   rw [cell_row hb2]
   rw [List.getElem?_take] at hv
   split at hv
   ·simpa using hv
   ·simp at hv)
  simp only [execOp, hv, Instr.loadAt, Instr.sureAddr]
  simp [this]
theorem WR.setX {h : PH} {ρ : RM} {own : List (Nat × OC)} {w : World} (hw : WR E n own h ρ w) {k b : Nat} {T : TypeId} {ps ps' : List BV} {cur : Array Value} {cs : List Value} (hk : lk own k = some (.xbox T ps)) (hρ : ρ k = .pointer (some ⟨b, 0, none⟩))
  (hb : w.heap[b]? = some (.cells cur T (0, 0))) (hr : All2 (CR h ρ) ps' cs) : WR E n (ins k (.xbox T ps') own) h ρ (w.setRow b cs.toArray) := by
 have hst := hw.step (w' := w.setRow b cs.toArray) k (ρ k) (.xbox T ps') (some b) (fun b' e => by cases e; exact ⟨_, lk_mem hk, by rw [hρ]; rfl⟩) (by simp) rfl rfl
  (fun b' _ hne => setRow_other _ _ _ _ (fun e => hne (by rw [e]))) (by rw [upd_self]; exact ⟨b, cs.toArray, hρ, setRow_heap _ _ _ _ _ _ hb, hr⟩) (fun b' hb' => by rw [hρ] at hb'; simp [blkOf] at hb'; exact .inl (by rw [hb'])) (.inl rfl) (.inl rfl)
 rwa [upd_self] at hst
theorem cells_one {v : Value} (h : v.oneCell' = true) : v.cells = #[v] := by cases v <;> first | rfl | simp [Value.oneCell'] at h
theorem op_store_x1 {k off : Nat} {T : TypeId} {cs cs' : List BV} {z : BV} (ht : TyOne P t) (hx : s.ev x = some (.b (.ptr k off))) (hk : lk s.own k = some (.xbox T cs)) (hy : s.ev y = some (.b z)) (hz : z.cellOk s.own = true) (hlt : off < cs.length) (hps : cs.set off z = cs') :
  Op1 P E n ⟨none, .store t x y, ty, pos, after, g⟩ s ⟨s.slots, ins k (.xbox T cs') s.own⟩ :=
 Op1.store (o := ⟨none, .store t x y, ty, pos, after, g⟩) rfl fun ac w h ρ hw hs => by
  obtain ⟨b, he, hv⟩ := (ev_rel hs hx : BV.rel h ρ (.ptr k off) _)
  obtain ⟨b', cur, hb1, hb2, hb3⟩ := xbox_cells hw hk
  have : b' = b := by rw [hb1] at he; simpa using he
  subst this
  have hp : CR h ρ z (ac.eval y) := cell_of hw hz (ev_rel hs hy)
  obtain ⟨i, hi, hm⟩ := ht.size
  have hcells := cells_one hp.2
  have hlen := hb3.length
  have hrun := run_store_at (P := P) (t := t) hi hm hb2 (v := ac.eval y) (o := off) (by rw [hcells]; rfl) (by simp at hlen; omega) (by rw [hcells]; simpa using hp.2)
  refine ⟨_, by simp only [execOp, hv, Instr.storeAt, Instr.sureAddr]; simp [hrun]; rfl, ?_⟩
  refine hw.setX hk hb1 hb2 ?_
  rw [← hps]
  have hset : Sk.splice cur.toList off (ac.eval y).cells.toList = cur.toList.set off (ac.eval y) := by
   rw [hcells]
   have : off < cur.toList.length := by rw [← hlen]; exact hlt
   simp only [Sk.splice, List.length_cons, List.length_nil]
   rw [List.set_eq_take_append_cons_drop, if_pos this]; simp
  rw [hset]
  exact All2.set hb3 off hp
theorem op_box_x1 {T k : Nat} {z : BV} (hx : s.ev x = some (.b z)) (hz : z.cellOk s.own = true) (hfx : n.fix.contains k = false) (hself : z.uses k = false) (hnu : noUse k s.own = true := by rfl) : Op1 P E n ⟨dst, .box T x, ty, pos, after, g⟩ s ((⟨dropU k s.slots, ins k (.xbox T [z]) s.own⟩ : St).put n dst (.b (.ptr k 0))) :=
 Op1.make (hfx := hfx) (hnu := hnu) (o := ⟨dst, .box T x, ty, pos, after, g⟩) fun ac w h ρ hw hs => by
  have hr : CR h ρ z (ac.eval x) := cell_of hw hz (ev_rel hs hx)
  have hcells := cells_one hr.2
  refine ⟨.pointer (some ⟨w.heap.size, 0, none⟩), .pointer (some ⟨w.heap.size, 0, none⟩), w.alloc (.cells #[ac.eval x] T), none, ?_, fun b e => by simp at e, by simp, rfl, rfl, fun b hb _ => heap_alloc_old w _ hb, OC.ok.ren (c := .xbox T [z]) ⟨w.heap.size, #[ac.eval x], rfl, heap_alloc_new w _, .cons hr .nil⟩ fun j hj => upd_other _ _ fun e => by subst e; simp [OC.uses, hself] at hj,
   fun b e => by simp [blkOf] at e; subst e; exact .inr (Nat.le_refl _), w.heap.size, upd_same _ _ _, rfl⟩
  simp only [execOp]
  simp [Instr.box, newVar, newRow, hcells]
def SV.xcells (own : List (Nat × OC)) : SV → Option (List BV)
 | .b (.agg ps) => some (ps.map .one)
 | .b (.xa cs) => some (cs.map CV.bv)
 | .b z => if z.cellOk own = true then some [z] else none
 | .xagg l => some l
 | _ => none
theorem SV.xcells_rel {own : List (Nat × OC)} {h : PH} {ρ : RM} {w : World} (hw : WR E n own h ρ w) {z : SV} {ps : List BV} {v : Value} (hz : z.xcells own = some ps) (hv : z.rel h ρ v) : All2 (CR h ρ) ps v.cells.toList := by
 cases z with
 | b z =>
  have one : ∀ z : BV, (if z.cellOk own = true then some [z] else none) = some ps → z.rel h ρ v → All2 (CR h ρ) ps v.cells.toList := fun z hz hv => by
   split at hz
   ·next hc =>
    simp at hz; subst hz
    have hcr := cell_of hw hc hv
    rw [cells_one hcr.2]; exact .cons hcr .nil
   ·simp at hz
  cases z with
  | agg qs => simp [SV.xcells] at hz; subst hz; obtain ⟨cs, rfl, hr⟩ := hv; exact ones_rel hr
  | xa cs => simp [SV.xcells] at hz; subst hz; obtain ⟨vs, rfl, hr⟩ := hv; exact CV.bvX hr
  | one p => exact one (.one p) hz hv
  | ptr k o => exact one (.ptr k o) hz hv
  | row k => exact one (.row k) hz hv
  | rptr k o => exact one (.rptr k o) hz hv
  | part k a b c d => exact one (.part k a b c d) hz hv
  | eptr ps => exact one (.eptr ps) hz hv
  | psl k a b c => exact one (.psl k a b c) hz hv
  | clo f fs cs => exact one (.clo f fs cs) hz hv
 | xagg l => simp [SV.xcells] at hz; subst hz; obtain ⟨cs, rfl, hr⟩ := hv; exact hr
 | _ => simp [SV.xcells] at hz
def evPartsX (s : St) : List (Nat × Operand) → Option (List (Nat × List BV))
 | [] => some []
 | (i, x) :: l => (s.ev x).bind fun z => (z.xcells s.own).bind fun ps => (evPartsX s l).map fun r => (i, ps) :: r
def xfill (place : Nat → Option (Nat × Nat)) (zs : List BV) : List (Nat × List BV) → Option (List BV)
 | [] => some zs
 | (i, qs) :: r => (place i).bind fun q => if qs.length = q.2 ∧ q.1 + qs.length ≤ zs.length then xfill place (splice zs q.1 qs) r else none
theorem xfill_rel {h : PH} {ρ : RM} {w : World} (hw : WR E n s.own h ρ w) {ac : Act} (hs : SlotsRel h ρ s.slots ac.tmps) (place : Nat → Option (Nat × Nat)) : ∀ (parts : List (Nat × Operand)) (cps : List (Nat × List BV)) (zs qs : List BV) (zc : Array Value),
  evPartsX s parts = some cps → xfill place zs cps = some qs → All2 (CR h ρ) zs zc.toList → ∃ cs, Instr.fill place zc (parts.map fun p => (p.1, ac.eval p.2)) = some cs ∧ All2 (CR h ρ) qs cs.toList
 | [], cps, zs, qs, zc, he, hf, hz => by
  simp [evPartsX] at he; subst he
  simp [xfill] at hf; subst hf
  exact ⟨zc, rfl, hz⟩
 | (i, x) :: l, cps, zs, qs, zc, he, hf, hz => by
  unfold evPartsX at he
  simp only [Option.bind_eq_some_iff, Option.map_eq_some_iff] at he
  obtain ⟨z, hz1, ps, hps, r, hr, rfl⟩ := he
  unfold xfill at hf
  simp only [Option.bind_eq_some_iff] at hf
  obtain ⟨⟨off, size⟩, hpl, hf⟩ := hf
  split at hf
  ·rename_i hc
   obtain ⟨hc1, hc2⟩ := hc
   have hrel := SV.xcells_rel hw hps (ev_rel hs hz1)
   have hl := hrel.length
   have hzl := hz.length
   simp only [Array.length_toList] at hl hzl
   dsimp only at hc1 hc2 hf
   have hsp : ((ac.eval x).cells.zipIdx.foldl (fun cs (p : Value × Nat) => cs.setIfInBounds (off + p.2) p.1) zc).toList = splice zc.toList off (ac.eval x).cells.toList := by
    have := fold_set off (ac.eval x).cells.toList 0 zc (by simp; omega)
    rw [Nat.add_zero] at this
    rw [← this, ← Array.foldl_toList]
    congr 2
    simp
   obtain ⟨cs, h1, h2⟩ := xfill_rel hw hs place l r (splice zs off ps) qs _ hr hf (by rw [hsp]; exact All2.splice hz hrel off)
   refine ⟨cs, ?_, h2⟩
   simp only [List.map_cons, Instr.fill, hpl]
   rw [if_neg (by simp; omega)]
   exact h1
  ·simp at hf
theorem op_build_x {pl : List (Nat × Nat)} {zs : List CP} {qs : List BV} {parts : Array (Nat × Operand)} {cps : List (Nat × List BV)} (ht : TyBuild P t pl zs) (hp : evPartsX s parts.toList = some cps) (hf : xfill (pl.toArray[·]?) (zs.map .one) cps = some qs) :
  Op1 P E n ⟨dst, .build t parts, ty, pos, after, g⟩ s (s.put n dst (.xagg qs)) :=
 Op1.val (o := ⟨dst, .build t parts, ty, pos, after, g⟩) fun ac w h ρ hw hs => by
  obtain ⟨it, z, fs, h1, h2, h3, h4, h5⟩ := ht.info
  obtain ⟨cs, hc1, hc2⟩ := xfill_rel hw hs (pl.toArray[·]?) parts.toList cps (zs.map .one) qs z.cells hp hf (ones_rel (cvs_rel h h3))
  refine ⟨.agg cs, ?_, cs, rfl, hc2⟩
  have hb : P.built t (parts.map fun (i, x) => (i, ac.eval x)).toList = some cs := by
   simp only [Program.built, h1, h4, h2, h5]
   rw [← hc1]
   simp
  have := run_build (P := P) w t _ cs hb
  simp only [execOp]
  simp [this]
def mk? {α : Type} (z : α) (len cap : Int) : Option (List α) := if 0 ≤ len ∧ len ≤ cap ∧ cap ≤ 1000000000 then some (List.replicate len.toNat z) else none
theorem mk_ok {α : Type} {z : α} {len cap : Int} {r : List α} (h : mk? z len cap = some r) : 0 ≤ len ∧ len ≤ cap ∧ cap ≤ 1000000000 ∧ List.replicate len.toNat z = r := by
 unfold mk? at h; split at h
 ·next hh => exact ⟨hh.1, hh.2.1, hh.2.2, by simpa using h⟩
 ·simp at h
theorem rep_uni {zs : List CP} {size n : Nat} (h : zs.length = size) : Uniform size (List.replicate n zs) := fun ps hp => by rw [(List.mem_replicate.1 hp).2]; exact h
theorem made_rel {h : PH} {zs : List CP} {zc : Array Value} {size : Nat} (hz : cellsRel h zs zc.toList) (hs : zs.length = size) (hp : 0 < size) (n m : Nat) (hnm : n ≤ m) :
  cellsRel h (List.replicate n zs).flatten ((madeCells zc (m * size)).toList.take (n * size)) := by
 have hzl : zc.size = size := by have := hz.length; simp at this; omega
 have hle : n * size ≤ m * size := Nat.mul_le_mul_right _ hnm
 have hfl := flatten_len (rep_uni (n := n) hs)
 have hms : (madeCells zc (m * size)).toList.length = m * size := by simp [madeCells]
 refine All2.of_get (by rw [hfl, List.length_replicate, List.length_take, hms]; omega) fun j a b ha hb => ?_
 have hj : j < n * size := by
  have := (List.getElem?_eq_some_iff.1 ha).1
  rw [hfl] at this; simpa using this
 have hd : j / size < n := by rw [Nat.div_lt_iff_lt_mul hp]; exact hj
 have hm : j % size < size := Nat.mod_lt _ hp
 have hjj : j / size * size + j % size = j := by rw [Nat.mul_comm]; exact Nat.div_add_mod _ _
 have h1 := flatten_get (rep_uni (n := n) hs) (j / size) zs (by simp [hd]) (j % size) hm
 rw [hjj, ha] at h1
 rw [List.getElem?_take, if_pos hj] at hb
 have h2 : (madeCells zc (m * size)).toList[j]? = zc[j % size]? := by
  have hlt : j < m * size := by omega
  simp only [madeCells, Array.getElem?_toList]
  rw [Array.getElem?_map, Array.getElem?_range]
  simp only [hlt, if_true, Option.map_some, hzl]
  have : j % size < zc.size := by omega
  simp [this]
 rw [h2] at hb
 obtain ⟨u, hu, hr⟩ := hz.get (j % size) a h1.symm
 rw [Array.getElem?_toList, hb] at hu
 cases hu
 exact hr
def ZC (a b : CP) : Prop := ∀ h v, a.rel h v → b.rel h v
theorem ZC.refl {a : CP} : ZC a a := fun _ _ x => x
theorem zc_rel {h : PH} : ∀ {zs qs : List CP} {vs : List Value}, All2 ZC zs qs → cellsRel h zs vs → cellsRel h qs vs
 | [], _, _, h1, h2 => by cases h1; cases h2; exact .nil
 | _ :: _, _, _, h1, h2 => by cases h1 with | cons a b => cases h2 with | cons c d => exact .cons (a _ _ c) (zc_rel b d)
theorem op_makeSlice {k size bytes : Nat} {e : TypeId} {zs : List CP} {lo co : Operand} {kl kc : IntKind} {α : Type} {z0 : α} {enc : α → List CP} {a b : Int} {r : List α} (ht : TySl P t e size bytes zs) (hm : mk? z0 a b = some r) (hbb : bytes ≤ 281474) (hz0 : All2 ZC zs (enc z0))
  (hx : s.ev lo = some (.b (.one (.int kl a)))) (hy : s.ev co = some (.b (.one (.int kc b)))) (hfx : n.fix.contains k = false) (hnu : noUse k s.own = true := by rfl) :
  Op1 P E n ⟨dst, .makeSlice t lo co, ty, pos, after, g⟩ s ((⟨dropU k s.slots, ins k (.row e size (r.map enc)) s.own⟩ : St).put n dst (.b (.row k))) :=
 Op1.make (hfx := hfx) (hnu := hnu) (o := ⟨dst, .makeSlice t lo co, ty, pos, after, g⟩) fun ac w h ρ hw hs => by
  obtain ⟨i, z, h1, h2, h3, h4, h5, h6, h7⟩ := ht.info
  obtain ⟨q0, q1, q2, rfl⟩ := mk_ok hm
  have hzr := cvs_rel h h7
  have hzr : cellsRel h (enc z0) z.cells.toList := zc_rel hz0 hzr
  have hzl : (enc z0).length = size := by rw [hzr.length]; simpa using h5
  have hbytes : (i.bytes : Int) * b ≤ 281474976710656 := by
   rw [h3]
   have e1 : (bytes : Int) ≤ 281474 := by omega
   calc (bytes : Int) * b ≤ 281474 * b := Int.mul_le_mul_of_nonneg_right e1 (by omega)
    _ ≤ _ := by omega
  have hrun := run_make (P := P) w t e i z ht.und h1 h4 kl kc a b q0 q1 hbytes (by omega)
  rw [h2] at hrun
  refine ⟨.slice (some ⟨w.heap.size, 0, none⟩) a.toNat b.toNat, .slice (some ⟨w.heap.size, 0, none⟩) a.toNat b.toNat, w.alloc (.cells (madeCells z.cells (b.toNat * size)) e), none, ?_, fun b e => by simp at e, by simp, rfl, rfl, fun b hb _ => heap_alloc_old w _ hb, ?_,
   fun b e => by simp [blkOf] at e; subst e; exact .inr (Nat.le_refl _), (upd_same _ _ _).symm⟩
  ·simp only [execOp, (ev_int hs hx).1, (ev_int hs hy).1]
   simp [hrun]
  ·have hle : a.toNat ≤ b.toNat := by omega
   have hmap : (List.replicate a.toNat z0).map enc = List.replicate a.toNat (enc z0) := by rw [List.map_replicate]
   rw [hmap]
   refine ⟨rep_uni hzl, h6, (madeCells z.cells (b.toNat * size)).toList.take (a.toNat * size), ⟨?_, .inr ⟨w.heap.size, b.toNat, _, ?_, Nat.zero_le _, heap_alloc_new w _, ?_, ?_, ?_, ?_⟩⟩, made_rel hzr hzl h6 _ _ hle⟩
   ·have : a.toNat * size ≤ b.toNat * size := Nat.mul_le_mul_right _ hle
    have hms : (madeCells z.cells (b.toNat * size)).toList.length = b.toNat * size := by simp [madeCells]
    rw [List.length_take, hms, List.length_replicate]; omega
   ·simp
   ·simpa using hle
   ·rw [maxLen_eq]; omega
   ·simp [madeCells]
   ·simp
end
end Go.Sk

namespace Go.Sk
set_option linter.unusedSimpArgs false
set_option linter.unusedVariables false
open Go Go.BigFrame
def swp (a b k : Nat) : Nat := if k == a then b else if k == b then a else k
theorem swp_swp (a b k : Nat) : swp a b (swp a b k) = k := by
 unfold swp
 by_cases h1 : k = a
 ·subst h1
  by_cases h2 : b = k <;> simp [h2]
 ·by_cases h2 : k = b
  ·subst h2
   simp [h1]
  ·simp [h1, h2]
def CV.mapK (f : Nat → Nat) : CV → CV
 | .row j => .row (f j)
 | .ptr j o => .ptr (f j) o
 | z => z
def BV.mapK (f : Nat → Nat) : BV → BV
 | .clo g fs cs => .clo g (fs.map (·.mapK f)) (cs.map (·.mapK f))
 | .xa cs => .xa (cs.map (·.mapK f))
 | .row j => .row (f j)
 | .ptr j o => .ptr (f j) o
 | .rptr j o => .rptr (f j) o
 | .part j a b c d => .part (f j) a b c d
 | .psl j a b c => .psl (f j) a b c
 | z => z
def SV.mapK (f : Nat → Nat) : SV → SV
 | .b z => .b (z.mapK f)
 | .tup l => .tup (l.map (·.mapK f))
 | .opt c z => .opt c (z.mapK f)
 | .xagg l => .xagg (l.map (·.mapK f))
def OC.mapK (f : Nat → Nat) : OC → OC
 | .xbox T cs => .xbox T (cs.map (·.mapK f))
 | .mp es => .mp (es.map fun q => (q.1, q.2.mapK f))
 | .mit j m rest cur => .mit (f j) m rest cur
 | c => c
def mapO (f : Nat → Nat) (l : List (Nat × OC)) : List (Nat × OC) := l.map fun p => (f p.1, p.2.mapK f)
theorem all2_map {α β γ : Type} {r : β → γ → Prop} (g : α → β) : ∀ {l : List α} {vs : List γ}, All2 r (l.map g) vs ↔ All2 (fun a u => r (g a) u) l vs
 | [], vs => ⟨fun h => by cases h; exact .nil, fun h => by cases h; exact .nil⟩
 | a :: l, vs => ⟨fun h => by cases h with | cons h1 h2 => exact .cons h1 ((all2_map g).1 h2), fun h => by cases h with | cons h1 h2 => exact .cons h1 ((all2_map g).2 h2)⟩
theorem all2_iff {α γ : Type} {r r' : α → γ → Prop} {l : List α} {vs : List γ} (h : ∀ a u, r a u ↔ r' a u) : All2 r l vs ↔ All2 r' l vs := ⟨fun x => x.mono fun a u => (h a u).1, fun x => x.mono fun a u => (h a u).2⟩
theorem CV.mapK_rel {f : Nat → Nat} {h : PH} {ρ : RM} {z : CV} {v : Value} : (z.mapK f).rel h ρ v ↔ z.rel h (fun k => ρ (f k)) v := by cases z <;> exact Iff.rfl
theorem BV.mapK_rel {f : Nat → Nat} {h : PH} {ρ : RM} {z : BV} {v : Value} : (z.mapK f).rel h ρ v ↔ z.rel h (fun k => ρ (f k)) v := by
 cases z with
 | xa cs => exact exists_congr fun a => and_congr Iff.rfl ((all2_map _).trans (all2_iff fun a u => and_congr CV.mapK_rel Iff.rfl))
 | clo g fs cs => exact exists_congr fun a => exists_congr fun b => and_congr Iff.rfl (and_congr ((all2_map _).trans (all2_iff fun a u => CV.mapK_rel)) ((all2_map _).trans (all2_iff fun a u => CV.mapK_rel)))
 | _ => exact Iff.rfl
theorem SV.mapK_rel {f : Nat → Nat} {h : PH} {ρ : RM} {z : SV} {v : Value} : (z.mapK f).rel h ρ v ↔ z.rel h (fun k => ρ (f k)) v := by
 cases z with
 | b z => exact BV.mapK_rel
 | opt c z => exact and_congr (imp_congr Iff.rfl BV.mapK_rel) Iff.rfl
 | tup l => exact exists_congr fun vs => and_congr Iff.rfl ((all2_map _).trans (all2_iff fun a u => BV.mapK_rel))
 | xagg l => exact exists_congr fun vs => and_congr Iff.rfl ((all2_map _).trans (all2_iff fun a u => and_congr BV.mapK_rel Iff.rfl))
theorem OC.mapK_ok {f : Nat → Nat} {h : PH} {ρ : RM} {c : OC} {v : Value} {w : World} : (c.mapK f).ok h ρ v w ↔ c.ok h (fun k => ρ (f k)) v w := by
 cases c with
 | box T ps => exact Iff.rfl
 | row T size es => exact Iff.rfl
 | frow T size es => exact Iff.rfl
 | orow T size es => exact Iff.rfl
 | sit q pos => exact Iff.rfl
 | mq m => exact Iff.rfl
 | rr => exact Iff.rfl
 | mit j m rest cur => exact exists_congr fun _ => exists_congr fun _ => exists_congr fun _ => exists_congr fun _ => exists_congr fun _ => ⟨fun x => ⟨x.ptr, x.it, x.map, x.obj, x.ents, x.born, x.left, x.at_⟩, fun x => ⟨x.ptr, x.it, x.map, x.obj, x.ents, x.born, x.left, x.at_⟩⟩
 | mp es => exact exists_congr fun b => exists_congr fun ms => exists_congr fun clk => and_congr Iff.rfl (and_congr Iff.rfl (and_congr ((all2_map _).trans (all2_iff fun a u => and_congr Iff.rfl BV.mapK_rel)) Iff.rfl))
 | xbox T cs => exact exists_congr fun b => exists_congr fun cur => and_congr Iff.rfl (and_congr Iff.rfl ((all2_map _).trans (all2_iff fun a u => and_congr BV.mapK_rel Iff.rfl)))
theorem OC.mapK_foot {f : Nat → Nat} {c : OC} {v : Value} {w : World} {b : Nat} : (c.mapK f).foot v w b ↔ c.foot v w b := by cases c <;> exact Iff.rfl
theorem mapO_mem {f : Nat → Nat} {l : List (Nat × OC)} {k : Nat} {c : OC} (h : (k, c) ∈ mapO f l) : ∃ k0 c0, (k0, c0) ∈ l ∧ k = f k0 ∧ c = c0.mapK f := by
 obtain ⟨⟨k0, c0⟩, hm, he⟩ := List.mem_map.1 h
 obtain ⟨rfl, rfl⟩ := Prod.mk.inj he
 exact ⟨k0, c0, hm, rfl, rfl⟩
theorem keysOf_mapO {f : Nat → Nat} {l : List (Nat × OC)} : keysOf (mapO f l) = (keysOf l).map f := by simp [keysOf, mapO]
theorem isBox_mapK {f : Nat → Nat} {c : OC} : (c.mapK f).isBox = c.isBox := by cases c <;> rfl
theorem boxKeys_mapO {f : Nat → Nat} : ∀ {l : List (Nat × OC)}, boxKeys (mapO f l) = (boxKeys l).map f
 | [] => rfl
 | (k, c) :: l => by
  have ih := boxKeys_mapO (f := f) (l := l)
  show (if (c.mapK f).isBox = true then f k :: boxKeys (mapO f l) else boxKeys (mapO f l)) = _
  rw [isBox_mapK, ih]
  cases hb : c.isBox <;> simp [boxKeys, hb]
theorem Meets.sw {P : Program} {TB : Tabs} {f : FuncId} {own own' : List (Nat × OC)} {args : List BV} {res : SV} (hm : Meets P TB f own args (Is own' res)) (a b : Nat) :
  Meets P TB f (mapO (swp a b) own) (args.map (·.mapK (swp a b))) (Is (mapO (swp a b) own') (res.mapK (swp a b))) := by
 intro w h ρ vals tb hag hlent hargs
 have hss : (fun k => ρ (swp a b (swp a b k))) = ρ := by funext k; rw [swp_swp]
 have hinj : ∀ {i j : Nat}, swp a b i = swp a b j → i = j := fun {i j} e => by have := congrArg (swp a b) e; rwa [swp_swp, swp_swp] at this
 have hl : Lent own h (fun k => ρ (swp a b k)) w := fun k c hk => by
  obtain ⟨e1, e2, e3⟩ := hlent (swp a b k) (c.mapK (swp a b)) (List.mem_map.2 ⟨(k, c), hk, rfl⟩)
  exact ⟨OC.mapK_ok.1 e1, fun b hb => e2 b (OC.mapK_foot.2 hb), fun k' c' hk' hne b' hb' hb2 => e3 (swp a b k') (c'.mapK (swp a b)) (List.mem_map.2 ⟨(k', c'), hk', rfl⟩) (fun e => hne (hinj e)) b' (OC.mapK_foot.2 hb') (OC.mapK_foot.2 hb2)⟩
 have ha : All2 (fun (x : BV) v => x.rel h (fun k => ρ (swp a b k)) v) args vals := ((all2_map _).trans (all2_iff fun a u => BV.mapK_rel)).1 hargs
 refine (hm w h _ vals tb hag hl ha).mono ?_
 rintro e w' ⟨v, own1, res1, h', ρ', rfl, ⟨rfl, rfl⟩, hw, hres⟩
 have hlt : ∀ b', lent (TB := TB) ⟨w, h, fun k => ρ (swp a b k), tb⟩ ⟨0, boxKeys own, keysOf own, []⟩ b' ↔ lent (TB := TB) ⟨w, h, ρ, tb⟩ ⟨0, boxKeys (mapO (swp a b) own), keysOf (mapO (swp a b) own), []⟩ b' := fun b' => by
  constructor
  ·rintro ⟨k, hk, hb⟩
   exact ⟨swp a b k, by show _ ∈ keysOf _; rw [keysOf_mapO]; exact List.mem_map.2 ⟨k, hk, rfl⟩, hb⟩
  ·rintro ⟨k, hk, hb⟩
   have hk' : k ∈ (keysOf own).map (swp a b) := by rw [← keysOf_mapO]; exact hk
   obtain ⟨k0, hk0, rfl⟩ := List.mem_map.1 hk'
   exact ⟨k0, hk0, hb⟩
 refine ⟨v, _, _, h', fun k => ρ' (swp a b k), rfl, ⟨rfl, rfl⟩, ⟨hw.agree, hw.le, fun b' hb' hn => hw.fresh b' hb' fun hh => hn ((hlt b').1 hh), hw.size, fun b' hb' hn => hw.same b' hb' fun hh => hn ((hlt b').1 hh), fun k hk => ?_, hw.os, hw.out, fun b' hn o => hw.nl b' ((hlt b').2 hn) o, fun k c hk => ?_⟩, ?_⟩
 ·have hk' : k ∈ (boxKeys own).map (swp a b) := by rw [← boxKeys_mapO]; exact hk
  obtain ⟨k0, hk0, rfl⟩ := List.mem_map.1 hk'
  show ρ' (swp a b (swp a b k0)) = _
  rw [swp_swp]; exact hw.fixed k0 hk0
 ·obtain ⟨k0, c0, hk0, rfl, rfl⟩ := mapO_mem hk
  obtain ⟨e1, e2, e3⟩ := hw.owned k0 c0 hk0
  have hss' : (fun k => ρ' (swp a b (swp a b k))) = ρ' := by funext k; rw [swp_swp]
  refine ⟨OC.mapK_ok.2 (by rw [swp_swp]; exact (congrArg (fun r => c0.ok h' r (ρ' k0) w') hss').mpr e1), fun b' hb' => ?_, fun k' c' hk' hne b' hb' => ?_⟩
  ·have hb2 : c0.foot (ρ' k0) w' b' := by
    have := OC.mapK_foot.1 hb'
    rwa [swp_swp] at this
   exact ⟨(e2 b' hb2).1.imp_right (hlt b').1, (e2 b' hb2).2⟩
  ·obtain ⟨k1, c1, hk1, rfl, rfl⟩ := mapO_mem hk'
   have hb2 : c0.foot (ρ' k0) w' b' := by
    have := OC.mapK_foot.1 hb'
    rwa [swp_swp] at this
   intro hb3
   have hb4 : c1.foot (ρ' k1) w' b' := by
    have := OC.mapK_foot.1 hb3
    rwa [swp_swp] at this
   exact e3 k1 c1 hk1 (fun e => hne (by rw [e])) b' hb2 hb4
 ·have hss' : (fun k => ρ' (swp a b (swp a b k))) = ρ' := by funext k; rw [swp_swp]
  exact SV.mapK_rel.2 (by rw [hss']; exact hres)
section
variable {P : Program} {TB : Tabs} {E : Env TB} {n : Sh} {s s' : St} {dst : Option Nat} {t ty yt : TypeId} {pos : String} {after : Array Edge} {g : Option (Nat × Bool)} {x y c : Operand} {ops : Array Oper} {l : List Oper} {Q : Post} {cd : Code}
theorem ins_of_mem {α : Type} {k : Nat} {c : α} : ∀ {l : List (Nat × α)} {j : Nat} {x : α}, (j, x) ∈ l → j ≠ k → (j, x) ∈ ins k c l
 | (i, y) :: l, j, x, h, hne => by
  unfold ins
  split
  ·next e =>
   have e' : k = i := by simpa using e
   subst e'
   cases List.mem_cons.1 h with
   | inl e => obtain ⟨rfl, rfl⟩ := Prod.mk.inj e; exact absurd rfl hne
   | inr e => exact List.mem_cons_of_mem _ (del_of_mem e hne)
  ·cases List.mem_cons.1 h with
   | inl e => rw [e]; exact List.mem_cons_self
   | inr e => exact List.mem_cons_of_mem _ (ins_of_mem e hne)
theorem WR.repl' {own : List (Nat × OC)} {h : PH} {ρ : RM} {w : World} (hw : WR E n own h ρ w) {k : Nat} {c0 c' : OC} (hk : (k, c0) ∈ own) (hc : c'.ok h ρ (ρ k) w) (hpl : c'.plain = true := by rfl) : WR E n (ins k c' own) h ρ w := by
 have := hw.step (w' := w) k (ρ k) c' (blkOf (ρ k)) (fun b e => ⟨c0, hk, e⟩) (Nat.le_refl _) rfl rfl (fun _ _ _ => rfl) (by rw [upd_self]; exact hc) (fun b hb => .inl hb) (.inl rfl) (.inl rfl) hpl
 rwa [upd_self] at this
theorem R.nilrowX {a : Act} {w : World} (hr : R E n s a w) (kb off k size : Nat) (T : TypeId) {T2 : TypeId} {cs : List BV} (hk : lk s.own kb = some (.xbox T2 cs)) (hi : cs[off]? = some (.one .nil)) (hz : 0 < size) (hne : kb ≠ k) (hfx : n.fix.contains k = false) (hnu : noUse k s.own = true) :
  R E n ⟨dropU k s.slots, ins kb (.xbox T2 (cs.set off (.row k))) (ins k (.row T size []) s.own)⟩ a w := by
 obtain ⟨h1, h2, h, ρ, hw, hs⟩ := hr
 obtain ⟨b, cur, e1, e2, e3⟩ := xbox_cells hw hk
 have hst := hw.step (w' := w) k (.slice none 0 0) (.row T size []) none (fun b e => by simp at e) (Nat.le_refl _) rfl rfl (fun _ _ _ => rfl)
  ⟨fun ps hps => by simp at hps, hz, [], ⟨by simp, .inl ⟨rfl, rfl⟩⟩, .nil⟩ (fun b hb => by simp [blkOf] at hb) (.inr fun e => by simp at hfx; exact hfx e) (.inr hnu)
 have hm := ins_of_mem (c := OC.row T size []) (lk_mem hk) hne
 have hcs : All2 (CR h (upd ρ k (.slice none 0 0))) (cs.set off (.row k)) cur.toList := by
  have hno : ∀ j, (cs.any (·.uses j)) = true → upd ρ k (.slice none 0 0) j = ρ j := fun j hj => upd_other _ _ fun e => by
   subst e
   have := noUse_mem hnu (lk_mem hk)
   simp only [OC.uses] at this
   rw [this] at hj; simp at hj
  clear hst hm hk e2
  generalize cur.toList = vl at e3
  induction e3 generalizing off with
  | nil => simp at hi
  | @cons z u cs vl h3 t ih =>
   have hno' : ∀ j, (cs.any (·.uses j)) = true → upd ρ k (.slice none 0 0) j = ρ j := fun j hj => hno j (by simp only [List.any_cons, hj, Bool.or_true])
   have hu : ∀ j, z.uses j = true → upd ρ k (.slice none 0 0) j = ρ j := fun j hj => hno j (by simp [hj])
   have hrest : ∀ {cs : List BV} {vl : List Value}, (∀ j, (cs.any (·.uses j)) = true → upd ρ k (.slice none 0 0) j = ρ j) → All2 (fun (z : BV) u => z.rel h ρ u ∧ u.oneCell' = true) cs vl → All2 (CR h (upd ρ k (.slice none 0 0))) cs vl := by
    intro cs vl hn ha
    induction ha with
    | nil => exact .nil
    | cons h4 _ ih2 => exact .cons ⟨BV.mono (PH.le_refl _) (fun j hj => hn j (by simp [hj])) h4.1, h4.2⟩ (ih2 fun j hj => hn j (by simp only [List.any_cons, hj, Bool.or_true]))
   cases off with
   | zero =>
    simp at hi
    subst hi
    have hv : u = .slice none 0 0 := h3.1.1
    exact .cons ⟨by rw [hv]; exact (upd_same _ _ _).symm, h3.2⟩ (hrest hno' t)
   | succ off => exact .cons ⟨BV.mono (PH.le_refl _) hu h3.1, h3.2⟩ (ih off (by simpa using hi) hno')
 refine ⟨h1, h2, h, _, WR.repl' hst hm ⟨b, cur, by rw [upd_other _ _ hne]; exact e1, e2, hcs⟩, hs.dropU k _⟩
theorem Tri.nilrowX (kb off k size : Nat) (T : TypeId) {T2 : TypeId} {cs : List BV} (hk : lk s.own kb = some (.xbox T2 cs)) (hi : cs[off]? = some (.one .nil)) (hz : 0 < size) (hne : kb ≠ k) (hfx : n.fix.contains k = false) (h : Tri P E n cd ⟨dropU k s.slots, ins kb (.xbox T2 (cs.set off (.row k))) (ins k (.row T size []) s.own)⟩ Q) (hnu : noUse k s.own = true := by rfl) : Tri P E n cd s Q := fun a w hr => h a w (hr.nilrowX kb off k size T hk hi hz hne hfx hnu)
theorem OpsL.nilrowX (kb off k size : Nat) (T : TypeId) {T2 : TypeId} {cs : List BV} (hk : lk s.own kb = some (.xbox T2 cs)) (hi : cs[off]? = some (.one .nil)) (hz : 0 < size) (hne : kb ≠ k) (hfx : n.fix.contains k = false) (h : OpsL P E n ops l ⟨dropU k s.slots, ins kb (.xbox T2 (cs.set off (.row k))) (ins k (.row T size []) s.own)⟩ Q) (hnu : noUse k s.own = true := by rfl) : OpsL P E n ops l s Q := fun a w hr => h a w (hr.nilrowX kb off k size T hk hi hz hne hfx hnu)
theorem Fin.nilrowX {e : Exit} (kb off k size : Nat) (T : TypeId) {T2 : TypeId} {cs : List BV} (hk : lk s.own kb = some (.xbox T2 cs)) (hi : cs[off]? = some (.one .nil)) (hz : 0 < size) (hne : kb ≠ k) (hfx : n.fix.contains k = false) (h : Fin E n e ⟨dropU k s.slots, ins kb (.xbox T2 (cs.set off (.row k))) (ins k (.row T size []) s.own)⟩ Q) (hnu : noUse k s.own = true := by rfl) : Fin E n e s Q := fun a w hr => h a w (hr.nilrowX kb off k size T hk hi hz hne hfx hnu)
end
end Go.Sk

namespace Go.Sk
set_option linter.unusedSimpArgs false
set_option linter.unusedVariables false
open Go
end Go.Sk
namespace Go.Sk
end Go.Sk

namespace Go.Sk
set_option linter.unusedSimpArgs false
set_option linter.unusedVariables false
open Go Go.BigFrame
structure Stg where
 done : List Bool
 base : List (Nat × SV)
 own : List (Nat × OC)
 live : List Bool
 must : List Nat
 nots : List Nat
def nb (l : List Bool) (i : Nat) : Bool := l.getD i false
def stgOf : List Stg → List Bool → Option Stg
 | [], _ => none
 | σ :: tab, d => if σ.done == d then some σ else stgOf tab d
theorem stgOf_done : ∀ {tab : List Stg} {d : List Bool} {σ : Stg}, stgOf tab d = some σ → σ.done = d ∧ σ ∈ tab
 | σ0 :: tab, d, σ, h => by
  unfold stgOf at h
  split at h
  ·next e => cases h; exact ⟨by simpa using e, List.mem_cons_self⟩
  ·exact ⟨(stgOf_done h).1, List.mem_cons_of_mem _ (stgOf_done h).2⟩
def depFactsL (p : Nat → Bool) (l : List Oper) (Fs : List SV) : List Edge → List (Nat × SV)
 | [] => []
 | e :: es => if Region.binds .any e && p e.on then
   match l[e.on]?, Fs[e.on]? with
   | some o, some x => (match o.dst with | some d => (d, x) :: depFactsL p l Fs es | none => depFactsL p l Fs es)
   | _, _ => depFactsL p l Fs es
  else depFactsL p l Fs es
theorem mem_depFactsL {p : Nat → Bool} {l : List Oper} {Fs : List SV} : ∀ {es : List Edge} {q : Nat × SV}, q ∈ depFactsL p l Fs es → ∃ e, e ∈ es ∧ Region.binds .any e = true ∧ p e.on = true ∧ ∃ o, l[e.on]? = some o ∧ o.dst = some q.1 ∧ Fs[e.on]? = some q.2
 | [], q, h => by simp [depFactsL] at h
 | e :: es, q, h => by
  have hrec : q ∈ depFactsL p l Fs es → ∃ e', e' ∈ e :: es ∧ Region.binds .any e' = true ∧ p e'.on = true ∧ ∃ o, l[e'.on]? = some o ∧ o.dst = some q.1 ∧ Fs[e'.on]? = some q.2 := fun h => by
   obtain ⟨e', h1, h2⟩ := mem_depFactsL h
   exact ⟨e', List.mem_cons_of_mem _ h1, h2⟩
  unfold depFactsL at h
  split at h
  ·rename_i hb
   simp only [Bool.and_eq_true] at hb
   split at h
   ·rename_i o x ho hx
    split at h
    ·rename_i d hd
     cases List.mem_cons.1 h with
     | inl e' => subst e'; exact ⟨e, List.mem_cons_self, hb.1, hb.2, o, ho, hd, hx⟩
     | inr e' => exact hrec e'
    ·exact hrec h
   ·exact hrec h
  ·exact hrec h
def dropO : List Nat → List (Nat × SV) → List (Nat × SV)
 | [], l => l
 | k :: ks, l => dropO ks (dropU k l)
def usesO : List Nat → SV → Bool
 | [], _ => false
 | k :: ks, x => x.uses k || usesO ks x
theorem mem_dropO_inv {q : Nat × SV} : ∀ {key : List Nat} {l : List (Nat × SV)}, q ∈ dropO key l → q ∈ l ∧ usesO key q.2 = false
 | [], l, h => ⟨h, rfl⟩
 | k :: ks, l, h => by
  obtain ⟨h1, h2⟩ := mem_dropO_inv (key := ks) h
  obtain ⟨h3, h4⟩ := mem_dropU h1
  exact ⟨h3, by simp [usesO, h4, h2]⟩
def edgeTo (o : Oper) (j : Nat) : Bool := o.after.toList.any fun e => Region.binds .any e && e.on == j
section
variable {P : Program} {TB : Tabs} {E : Env TB} {n : Sh} {s s' : St} {l : List Oper} {Q : Post} {o : Oper}
def may (isW : List Bool) (σ : Stg) (i : Nat) (o : Oper) : Bool := !nb σ.done i && !σ.must.contains i && !σ.nots.contains i && (o.after.toList.all fun e => !Region.binds .any e || !nb isW e.on || nb σ.done e.on)
def mustOk (isW : List Bool) (l : List Oper) (σ : Stg) : Bool := σ.must.all fun j => (nb isW j && nb σ.done j) || (σ.must.any fun i => decide (j < i) && (match l[i]? with | some o => edgeTo o j | none => false))
def delD : Option Nat → List (Nat × SV) → List (Nat × SV)
 | some d, l => del d l
 | none, l => l
def baseOk (isW : List Bool) (l : List Oper) (σ : Stg) : Bool := (List.range l.length).all fun j => (nb isW j && !nb σ.done j) || (match l[j]? with
 | some o => (match o.dst with
  | some d => σ.base.all fun p => p.1 != d
  | none => true)
 | none => true)
def notOk (isW : List Bool) (l : List Oper) (σ : Stg) : Bool := σ.nots.all fun j => match l[j]? with
 | some o => o.after.toList.any fun e => Region.binds .any e && ((nb isW e.on && !nb σ.done e.on) || (decide (e.on < j) && σ.nots.contains e.on))
 | none => false
theorem Step1.to {ops : Array Oper} {s1 s2 : St} (h : Step1 P E n ops o s s1) (e : s1 = s2) : Step1 P E n ops o s s2 := e ▸ h
def WOps (P : Program) {TB : Tabs} (E : Env TB) (n : Sh) (isW : List Bool) (tab : List Stg) (l : List Oper) (Fs : List SV) (σ : Stg) : Nat → List Oper → Prop
 | _, [] => True
 | i, o :: r => (if may isW σ i o = true then
   (if nb isW i = true then ∃ τ key x, stgOf tab (σ.done.set i true) = some τ ∧ (o.dst.isSome = true → Fs[i]? = some x) ∧ τ.base = delD o.dst (dropO key σ.base) ∧ ((List.range l.length).all fun j => !nb τ.live j || j == i || σ.nots.contains j || (nb σ.live j && (match Fs[j]? with | some y => !usesO key y | none => true))) = true ∧
     ∀ extra, Step1 P E n l.toArray o ⟨depFactsL (nb σ.live) l Fs o.after.toList ++ (σ.base ++ extra), σ.own⟩ (St.put n o.dst x ⟨dropO key (depFactsL (nb σ.live) l Fs o.after.toList ++ (σ.base ++ extra)), τ.own⟩)
    else ∃ x, (o.dst.isSome = true → Fs[i]? = some x) ∧ ∀ extra, Step1 P E n l.toArray o ⟨depFactsL (nb σ.live) l Fs o.after.toList ++ (σ.base ++ extra), σ.own⟩ (St.put n o.dst x ⟨depFactsL (nb σ.live) l Fs o.after.toList ++ (σ.base ++ extra), σ.own⟩))
   else True) ∧ WOps P E n isW tab l Fs σ (i + 1) r
def WTab (P : Program) {TB : Tabs} (E : Env TB) (n : Sh) (isW : List Bool) (tab : List Stg) (l : List Oper) (Fs : List SV) : List Stg → Prop
 | [] => True
 | σ :: r => (mustOk isW l σ && notOk isW l σ && ((List.range l.length).all fun i => !nb σ.done i || nb isW i) && baseOk isW l σ && (σ.done.length == l.length)) = true ∧ WOps P E n isW tab l Fs σ 0 l ∧ WTab P E n isW tab l Fs r
theorem WOps.get {isW : List Bool} {tab : List Stg} {l0 : List Oper} {Fs : List SV} {σ : Stg} : ∀ {r : List Oper} {k : Nat}, WOps P E n isW tab l0 Fs σ k r → ∀ (i : Nat) (o : Oper), r[i]? = some o → may isW σ (k + i) o = true →
      (if nb isW (k + i) = true then ∃ τ key x, stgOf tab (σ.done.set (k + i) true) = some τ ∧ (o.dst.isSome = true → Fs[k + i]? = some x) ∧ τ.base = delD o.dst (dropO key σ.base) ∧ ((List.range l0.length).all fun j => !nb τ.live j || j == k + i || σ.nots.contains j || (nb σ.live j && (match Fs[j]? with | some y => !usesO key y | none => true))) = true ∧
          ∀ extra, Step1 P E n l0.toArray o ⟨depFactsL (nb σ.live) l0 Fs o.after.toList ++ (σ.base ++ extra), σ.own⟩ (St.put n o.dst x ⟨dropO key (depFactsL (nb σ.live) l0 Fs o.after.toList ++ (σ.base ++ extra)), τ.own⟩)
        else ∃ x, (o.dst.isSome = true → Fs[k + i]? = some x) ∧ ∀ extra, Step1 P E n l0.toArray o ⟨depFactsL (nb σ.live) l0 Fs o.after.toList ++ (σ.base ++ extra), σ.own⟩ (St.put n o.dst x ⟨depFactsL (nb σ.live) l0 Fs o.after.toList ++ (σ.base ++ extra), σ.own⟩))
  | [], k, h, i, o, ho, _ => by simp at ho
  | p :: r, k, h, i, o, ho, hm => by
    obtain ⟨h1, h2⟩ := h
    cases i with
    | zero =>
      simp at ho; subst ho
      rw [Nat.add_zero] at hm ⊢
      rw [if_pos hm] at h1
      exact h1
    | succ i =>
      have := WOps.get h2 i o (by simpa using ho) (by rw [← hm]; congr 1; omega)
      have e : k + 1 + i = k + (i + 1) := by omega
      rwa [e] at this
theorem WTab.get {isW : List Bool} {tab : List Stg} {Fs : List SV} : ∀ {r : List Stg}, WTab P E n isW tab l Fs r → ∀ σ ∈ r, (mustOk isW l σ && notOk isW l σ && ((List.range l.length).all fun i => !nb σ.done i || nb isW i) && baseOk isW l σ && (σ.done.length == l.length)) = true ∧ WOps P E n isW tab l Fs σ 0 l
 | σ :: r, h, τ, hm => by
  cases List.mem_cons.1 hm with
  | inl e => subst e; exact ⟨h.1, h.2.1⟩
  | inr e => exact WTab.get h.2.2 τ e
theorem mem_delD {d : Option Nat} {l : List (Nat × SV)} {k : Nat} {y : SV} (h : (k, y) ∈ delD d l) : (k, y) ∈ l ∧ ∀ d', d = some d' → k ≠ d' := by
 cases d with
 | none => exact ⟨h, fun d' e => by cases e⟩
 | some d => exact ⟨(mem_del h).1, fun d' e => by cases e; exact (mem_del h).2⟩
theorem baseOk_ne {isW : List Bool} {σ : Stg} {i d : Nat} {o : Oper} (h : baseOk isW l σ = true) (hi : i < l.length) (ho : l[i]? = some o) (hd : o.dst = some d) (hw : nb isW i = false ∨ nb σ.done i = true) {k : Nat} {y : SV} (hy : (k, y) ∈ σ.base) : k ≠ d := by
 have := List.all_eq_true.1 h i (List.mem_range.2 hi)
 rw [ho] at this
 simp only [hd, Bool.or_eq_true, Bool.and_eq_true, Bool.not_eq_true'] at this
 rcases this with ⟨h1, h2⟩ | h1
 ·rcases hw with hw | hw
  ·rw [hw] at h1; simp at h1
  ·rw [hw] at h2; simp at h2
 ·have := List.all_eq_true.1 h1 (k, y) hy
  simpa using this
theorem mem_dropU_of {k : Nat} {q : Nat × SV} (hu : q.2.uses k = false) : ∀ {l : List (Nat × SV)}, q ∈ l → q ∈ dropU k l
 | (i, x) :: l, h => by
  show q ∈ (if x.uses k = true then dropU k l else (i, x) :: dropU k l)
  cases List.mem_cons.1 h with
  | inl e =>
   subst e
   rw [if_neg (by rw [hu]; simp)]
   exact List.mem_cons_self
  | inr e =>
   split
   ·exact mem_dropU_of hu e
   ·exact List.mem_cons_of_mem _ (mem_dropU_of hu e)
theorem mem_dropO {q : Nat × SV} : ∀ {key : List Nat} {l : List (Nat × SV)}, q ∈ l → usesO key q.2 = false → q ∈ dropO key l
 | [], l, h, _ => h
 | k :: ks, l, h, hu => by
  simp only [usesO, Bool.or_eq_false_iff] at hu
  exact mem_dropO (key := ks) (mem_dropU_of hu.1 h) hu.2
theorem nb_eq {a b : List Bool} (hl : a.length = b.length) (h : ∀ i, nb a i = nb b i) : a = b := by
 refine List.ext_getElem hl fun i h1 h2 => ?_
 have := h i
 simpa [nb, List.getD, List.getElem?_eq_getElem h1, List.getElem?_eq_getElem h2] using this
theorem nb_set {a : List Bool} {i j : Nat} : nb (a.set i true) j = if j = i ∧ i < a.length then true else nb a j := by
 unfold nb
 simp only [List.getD, List.getElem?_set]
 by_cases h : i = j
 ·subst h
  by_cases h2 : i < a.length <;> simp [h2]
 ·have h' : ¬ j = i := fun e => h e.symm
  simp [h, h']
theorem must_listed {isW : List Bool} {σ : Stg} {listed : Array Bool} (hm : mustOk isW l σ = true) (hw : ∀ i, nb isW i = true → listed.getD i false = nb σ.done i) (hcl : ∀ (i : Nat) (p : Oper), l[i]? = some p → listed.getD i false = true → ∀ e ∈ p.after.toList, Region.binds .any e = true → listed.getD e.on false = true) :
  ∀ m j, l.length - j = m → j ∈ σ.must → listed.getD j false = true := by
 intro m
 induction m using Nat.strongRecOn with
 | _ m ih =>
  intro j hm' hj
  have := List.all_eq_true.1 hm j hj
  simp only [Bool.or_eq_true, Bool.and_eq_true, List.any_eq_true, decide_eq_true_eq] at this
  rcases this with ⟨h1, h2⟩ | ⟨i, hi, hji, hp⟩
  ·rw [hw j h1]; exact h2
  ·cases hpi : l[i]? with
   | none => rw [hpi] at hp; simp at hp
   | some p =>
    rw [hpi] at hp
    have hil := (List.getElem?_eq_some_iff.1 hpi).1
    simp only [edgeTo, List.any_eq_true, Bool.and_eq_true, beq_iff_eq] at hp
    obtain ⟨e, he, hb, hon⟩ := hp
    have := hcl i p hpi (ih (l.length - i) (by omega) i rfl hi) e he hb
    rwa [hon] at this
theorem not_listed {isW : List Bool} {σ : Stg} {listed : Array Bool} (hm : notOk isW l σ = true) (hw : ∀ i, nb isW i = true → listed.getD i false = nb σ.done i) (hcl : ∀ (i : Nat) (p : Oper), l[i]? = some p → listed.getD i false = true → ∀ e ∈ p.after.toList, Region.binds .any e = true → listed.getD e.on false = true) :
  ∀ j, j ∈ σ.nots → listed.getD j false = false := by
 intro j
 induction j using Nat.strongRecOn with
 | _ j ih =>
  intro hj
  cases hl : listed.getD j false with
  | false => rfl
  | true =>
   exfalso
   have := List.all_eq_true.1 hm j hj
   cases hpi : l[j]? with
   | none => rw [hpi] at this; simp at this
   | some p =>
    rw [hpi] at this
    simp only [List.any_eq_true, Bool.and_eq_true, Bool.or_eq_true, decide_eq_true_eq, Bool.not_eq_true'] at this
    obtain ⟨e, he, hb, h2⟩ := this
    have h3 := hcl j p hpi hl e he hb
    rcases h2 with ⟨h4, h5⟩ | ⟨h4, h5⟩
    ·rw [hw _ h4, h5] at h3; simp at h3
    ·rw [ih _ h4 (by simpa using h5)] at h3; simp at h3
theorem not_ready {isW : List Bool} {σ : Stg} {listed : Array Bool} (hm : notOk isW l σ = true) (hw : ∀ i, nb isW i = true → listed.getD i false = nb σ.done i) (hcl : ∀ (i : Nat) (p : Oper), l[i]? = some p → listed.getD i false = true → ∀ e ∈ p.after.toList, Region.binds .any e = true → listed.getD e.on false = true)
  {j : Nat} {p : Oper} (hj : j ∈ σ.nots) (hp : l[j]? = some p) (hr : ∀ e ∈ p.after.toList, Region.binds .any e = true → listed.getD e.on false = true) : False := by
 have := List.all_eq_true.1 hm j hj
 rw [hp] at this
 simp only [List.any_eq_true, Bool.and_eq_true, Bool.or_eq_true, decide_eq_true_eq, Bool.not_eq_true'] at this
 obtain ⟨e, he, hb, h2⟩ := this
 have h3 := hr e he hb
 rcases h2 with ⟨h4, h5⟩ | ⟨h4, h5⟩
 ·rw [hw _ h4, h5] at h3; simp at h3
 ·rw [not_listed hm hw hcl _ (by simpa using h5)] at h3; simp at h3
theorem anyW {isW : List Bool} {tab : List Stg} {Fs : List SV} (hok : (edgesOk 0 l && nodupB (dsts l) && (dsts l).all (· < n.n) && (isW.length == l.length)) = true) (htab : WTab P E n isW tab l Fs tab)
  (hfin : ∀ σ, stgOf tab isW = some σ → Fin E n .normal ⟨σ.base ++ factsFrom (nb σ.live) 0 l Fs, σ.own⟩ Q) : ∀ (fuel : Nat) (listed : Array Bool) (σ : Stg) (a : Act) (w : World),
  listed.size = l.length → stgOf tab σ.done = some σ → (∀ i, nb isW i = true → listed.getD i false = nb σ.done i) → (∀ (i : Nat) (p : Oper), l[i]? = some p → listed.getD i false = true → ∀ e ∈ p.after.toList, Region.binds .any e = true → listed.getD e.on false = true) →
  l.length ≤ fuel + (listed.toList.filter id).length → R E n ⟨σ.base ++ factsFrom (fun i => listed.getD i false && nb σ.live i) 0 l Fs, σ.own⟩ a w → wpAny P .any l.toArray Q fuel listed a w := by
 simp only [Bool.and_eq_true, beq_iff_eq] at hok
 obtain ⟨⟨⟨hedges, hnd⟩, hlt⟩, hWl⟩ := hok
 simp only [List.all_eq_true] at hlt
 have hcount : ∀ (L : List Bool) (i : Nat) (hi : i < L.length), L[i] = false → ((L.set i true).filter id).length = (L.filter id).length + 1 := by
  intro L
  induction L with
  | nil => intro i hi; simp at hi
  | cons b L ihL =>
   intro i hi hb
   cases i with
   | zero => simp at hb; subst hb; simp
   | succ i =>
    have := ihL i (by simpa using hi) (by simpa using hb)
    cases b <;> simp [this]
 have hready : ∀ (listed : Array Bool), listed.size = l.length → Region.ready .any l.toArray listed = [] → ∀ j, j < l.length → listed.getD j false = true := by
  intro listed hsz hr j hj
  induction j using Nat.strongRecOn with
  | _ j ih =>
   cases hb : listed.getD j false with
   | true => rfl
   | false =>
    exfalso
    have hjs : j < listed.size := by omega
    have hjr : j ∈ Region.ready .any l.toArray listed := by
     rw [mem_ready]
     have hlj : listed.getD j true = false := by
      simp only [Array.getD_eq_getD_getElem?, Array.getElem?_eq_getElem hjs, Option.getD_some] at hb ⊢
      exact hb
     refine ⟨hlj, l[j], by simp [hj], fun e he hbd => ?_⟩
     have := edgesOk_spec hedges j l[j] (by simp) e he hbd
     exact ih e.on (by omega) (by omega)
    rw [hr] at hjr
    simp at hjr
 have hdone : ∀ (listed : Array Bool) (σ : Stg) (a : Act) (w : World), listed.size = l.length → stgOf tab σ.done = some σ → (∀ i, nb isW i = true → listed.getD i false = nb σ.done i) → Region.ready .any l.toArray listed = [] →
   R E n ⟨σ.base ++ factsFrom (fun i => listed.getD i false && nb σ.live i) 0 l Fs, σ.own⟩ a w → Q .normal a w := by
  intro listed σ a w hsz hσ hwl hr hR
  have hall := hready listed hsz hr
  obtain ⟨hσ1, hσ2⟩ := stgOf_done hσ
  obtain ⟨hc, _⟩ := htab.get σ hσ2
  simp only [Bool.and_eq_true, List.all_eq_true, List.mem_range, Bool.or_eq_true, Bool.not_eq_true', beq_iff_eq] at hc
  obtain ⟨⟨⟨⟨_, _⟩, hc2⟩, _⟩, hc4⟩ := hc
  have he : σ.done = isW := by
   refine nb_eq (by omega) fun i => ?_
   by_cases hi : i < l.length
   ·cases hw : nb isW i with
    | true => rw [← hwl i hw]; exact hall i hi
    | false =>
     rcases hc2 i hi with h | h
     ·exact h
     ·rw [hw] at h; simp at h
   ·have h1 : nb σ.done i = false := by simp [nb, List.getD, List.getElem?_eq_none (show σ.done.length ≤ i by omega)]
    have h2 : nb isW i = false := by simp [nb, List.getD, List.getElem?_eq_none (show isW.length ≤ i by omega)]
    rw [h1, h2]
  refine hfin σ (by rw [← he]; exact hσ) a w ?_
  obtain ⟨h1, h2, h, ρ, hw, hs⟩ := hR
  refine ⟨h1, h2, h, ρ, hw, fun k x hx => hs k x ?_⟩
  rcases List.mem_append.1 hx with hx | hx
  ·exact List.mem_append.2 (.inl hx)
  ·refine List.mem_append.2 (.inr ?_)
   rw [mem_factsFrom] at hx ⊢
   obtain ⟨j, oj, hj, hd, hF, hl⟩ := hx
   rw [Nat.zero_add] at hl
   exact ⟨j, oj, hj, hd, hF, by rw [Nat.zero_add, hall j (List.getElem?_eq_some_iff.1 hj).1, hl]; rfl⟩
 intro fuel
 induction fuel with
 | zero =>
  intro listed σ a w hsz hσ hwl hcl hf hR
  have hnr : Region.ready .any l.toArray listed = [] := by
   apply List.eq_nil_iff_forall_not_mem.2
   intro j hj
   rw [mem_ready] at hj
   obtain ⟨hj1, oj, hoj, _⟩ := hj
   have hjl : j < l.length := by
    have := (Array.getElem?_eq_some_iff.1 hoj).1
    simpa using this
   have hjs : j < listed.size := by omega
   have hz' : listed.toList[j]'(by simpa using hjs) = false := by simpa [Array.getD_eq_getD_getElem?, Array.getElem?_eq_getElem hjs] using hj1
   have h1 := hcount listed.toList j (by simpa using hjs) hz'
   have h2 := List.length_filter_le id (listed.toList.set j true)
   simp at h1 h2 hf
   omega
  exact ⟨hnr, hdone listed σ a w hsz hσ hwl hnr hR⟩
 | succ fuel ih =>
  intro listed σ a w hsz hσ hwl hcl hf hR
  refine ⟨fun hr => hdone listed σ a w hsz hσ hwl hr hR, fun i hi => ?_⟩
  rw [mem_ready] at hi
  obtain ⟨hi1, o', ho, hdeps⟩ := hi
  have hil : i < l.length := by
   have := (Array.getElem?_eq_some_iff.1 ho).1
   simpa using this
  have hol : l[i]? = some o' := by simpa using ho
  have his : i < listed.size := by omega
  have hi1' : listed[i] = false := by simpa [Array.getD_eq_getD_getElem?, Array.getElem?_eq_getElem his] using hi1
  have hi2 : listed.getD i false = false := by simp [Array.getD_eq_getD_getElem?, Array.getElem?_eq_getElem his, hi1']
  obtain ⟨hσ1, hσ2⟩ := stgOf_done hσ
  obtain ⟨hc, hops⟩ := htab.get σ hσ2
  simp only [Bool.and_eq_true, List.all_eq_true, List.mem_range, Bool.or_eq_true, Bool.not_eq_true', beq_iff_eq] at hc
  obtain ⟨⟨⟨⟨hc1, hc0⟩, hc2⟩, hc3⟩, hc4⟩ := hc
  have hnot := not_listed (l := l) (σ := σ) (isW := isW) hc0 hwl hcl
  have hmust := must_listed (l := l) (σ := σ) (isW := isW) hc1 hwl hcl
  have hmay : may isW σ i o' = true := by
   simp only [may, Bool.and_eq_true, Bool.not_eq_true', List.all_eq_true, Bool.or_eq_true]
   refine ⟨⟨⟨?_, ?_⟩, ?_⟩, fun e he => ?_⟩
   ·cases hd : nb σ.done i with
    | false => rfl
    | true =>
     rcases hc2 i hil with h | h
     ·rw [hd] at h; simp at h
     ·rw [hwl i h, hd] at hi2; simp at hi2
   ·cases hd : σ.must.contains i with
    | false => rfl
    | true =>
     have := hmust _ i rfl (by simpa using hd)
     rw [hi2] at this; simp at this
   ·cases hd : σ.nots.contains i with
    | false => rfl
    | true => exact (not_ready (l := l) (σ := σ) (isW := isW) hc0 hwl hcl (by simpa using hd) hol (fun e he hb => hdeps e (by simpa using he) hb)).elim
   ·cases hb : Region.binds .any e with
    | false => simp
    | true =>
     have := hdeps e (by simpa using he) hb
     cases hw : nb isW e.on with
     | false => simp
     | true => rw [hwl _ hw] at this; simp [this]
  have hstep := WOps.get hops i o' hol (by rw [Nat.zero_add]; exact hmay)
  simp only [Nat.zero_add] at hstep
  have hR2 : R E n ⟨depFactsL (nb σ.live) l Fs o'.after.toList ++ (σ.base ++ factsFrom (fun i => listed.getD i false && nb σ.live i) 0 l Fs), σ.own⟩ a w := by
   obtain ⟨h1, h2, h, ρ, hw, hs⟩ := hR
   refine ⟨h1, h2, h, ρ, hw, fun k y hy => ?_⟩
   rcases List.mem_append.1 hy with hy | hy
   ·obtain ⟨e, he, hb, hp, o'', ho', hd', hF'⟩ := mem_depFactsL hy
    refine hs k y (List.mem_append.2 (.inr ?_))
    rw [mem_factsFrom]
    exact ⟨e.on, o'', ho', hd', hF', by rw [Nat.zero_add, hdeps e (by simpa using he) hb, hp]; rfl⟩
   ·exact hs k y hy
  have hcl' : ∀ (j : Nat) (p : Oper), l[j]? = some p → (listed.setIfInBounds i true).getD j false = true → ∀ e ∈ p.after.toList, Region.binds .any e = true → (listed.setIfInBounds i true).getD e.on false = true := by
   intro j p hj hlj e he hb
   have hset : ∀ q, listed.getD q false = true → (listed.setIfInBounds i true).getD q false = true := fun q hq => by
    by_cases e : q = i
    ·subst e; simp [Array.getD_eq_getD_getElem?, his]
    ·rw [getD_set_ne false (fun h => e h.symm)]; exact hq
   by_cases e' : j = i
   ·subst e'
    rw [hol] at hj; cases hj
    exact hset _ (hdeps e (by simpa using he) hb)
   ·rw [getD_set_ne false (fun h => e' h.symm)] at hlj
    exact hset _ (hcl j p hj hlj e he hb)
  have hcnt : l.length ≤ fuel + ((listed.setIfInBounds i true).toList.filter id).length := by
   have := hcount listed.toList i (by simpa using his) (by simpa using hi1')
   rw [Array.toList_setIfInBounds]
   omega
  have hsz' : (listed.setIfInBounds i true).size = l.length := by simpa using hsz
  have hnext : ∀ (τ : Stg) (key : List Nat) (x : SV) (a' : Act) (w' : World), (o'.dst.isSome = true → Fs[i]? = some x) → (∀ k y, (k, y) ∈ τ.base → (k, y) ∈ dropO key σ.base ∧ ∀ d, o'.dst = some d → k ≠ d) →
    (∀ j, j < l.length → nb τ.live j = true → j = i ∨ j ∈ σ.nots ∨ (nb σ.live j = true ∧ ∀ y, Fs[j]? = some y → usesO key y = false)) →
    R E n (St.put n o'.dst x ⟨dropO key (depFactsL (nb σ.live) l Fs o'.after.toList ++ (σ.base ++ factsFrom (fun i => listed.getD i false && nb σ.live i) 0 l Fs)), τ.own⟩) a' w' →
    R E n ⟨τ.base ++ factsFrom (fun i' => (listed.setIfInBounds i true).getD i' false && nb τ.live i') 0 l Fs, τ.own⟩ a' w' := by
   intro τ key x a' w' hx hbase hlive hR'
   obtain ⟨h1, h2, h, ρ, hw, hs⟩ := hR'
   have hown : (St.put n o'.dst x ⟨dropO key (depFactsL (nb σ.live) l Fs o'.after.toList ++ (σ.base ++ factsFrom (fun i => listed.getD i false && nb σ.live i) 0 l Fs)), τ.own⟩).own = τ.own := by
    cases hd : o'.dst with
    | none => rfl
    | some d => simp only [St.put, St.set]; split <;> rfl
   rw [hown] at hw
   refine ⟨h1, h2, h, ρ, hw, fun k y hy => ?_⟩
   have hold : (∀ d, o'.dst = some d → k ≠ d) → (k, y) ∈ dropO key (depFactsL (nb σ.live) l Fs o'.after.toList ++ (σ.base ++ factsFrom (fun i => listed.getD i false && nb σ.live i) 0 l Fs)) → ∃ v, a'.tmps[k]? = some v ∧ y.rel h ρ v := by
    intro hkd hm
    refine hs k y ?_
    cases hd : o'.dst with
    | none => exact hm
    | some d =>
     simp only [St.put, St.set]
     split
     ·exact List.mem_cons_of_mem _ (del_of_mem hm (hkd d hd))
     ·exact hm
   rcases List.mem_append.1 hy with hy | hy
   ·obtain ⟨hy, hkd⟩ := hbase k y hy
    have hy2 : (k, y) ∈ σ.base ∧ usesO key y = false := mem_dropO_inv hy
    exact hold hkd (mem_dropO (List.mem_append.2 (.inr (List.mem_append.2 (.inl hy2.1)))) hy2.2)
   ·rw [mem_factsFrom] at hy
    obtain ⟨j, oj, hj, hd', hF', hl'⟩ := hy
    rw [Nat.zero_add] at hl'
    simp only [Bool.and_eq_true] at hl'
    have hjl := (List.getElem?_eq_some_iff.1 hj).1
    by_cases hji : j = i
    ·subst hji
     rw [hol] at hj; cases hj
     have hxy : x = y := by
      have := hx (by rw [hd']; rfl)
      rw [this] at hF'; exact Option.some.inj hF'
     subst hxy
     refine hs k x ?_
     have hk : k < n.n := by simpa using hlt k (mem_dsts hol hd')
     simp only [hd', St.put, St.set, hk, if_true]
     exact List.mem_cons_self
    ·rcases hlive j hjl hl'.2 with h | h | ⟨h3, h4⟩
     ·exact absurd h hji
     ·exfalso
      have := hl'.1
      rw [getD_set_ne false (fun e => hji e.symm), hnot j h] at this
      simp at this
     ·have hl2 : listed.getD j false = true := by
       have := hl'.1
       rwa [getD_set_ne false (fun e => hji e.symm)] at this
      refine hold (fun d hd e => hji (dsts_inj hnd hj hol (e ▸ hd') hd)) (mem_dropO (List.mem_append.2 (.inr (List.mem_append.2 (.inr ?_)))) (h4 y hF'))
      rw [mem_factsFrom]
      exact ⟨j, oj, hj, hd', hF', by rw [Nat.zero_add, hl2, h3]; rfl⟩
  unfold wpOp
  rw [ho]
  dsimp only
  have fin : ∀ (K : Act → World → Prop), (if Region.wanted o' (yielded l.toArray a.tmps) = true then o'.wp P a w K Q else K (a.put o'.dst undef) w) → (∀ a' w', K a' w' → wpAny P .any l.toArray Q fuel (listed.setIfInBounds i true) a' w') → (if Region.wanted o' (yielded l.toArray a.tmps) = true then (o'.wp P a w (wpAny P .any l.toArray Q fuel (listed.setIfInBounds i true)) Q ∨ False) else wpAny P .any l.toArray Q fuel (listed.setIfInBounds i true) (a.put o'.dst undef) w) := by
   intro K hK hk
   split
   ·rename_i hw'
    simp only [hw', if_true] at hK
    exact .inl (Oper.wp_mono hk hK)
   ·rename_i hw'
    simp only [hw'] at hK
    exact hk _ _ hK
  by_cases hw : nb isW i = true
  ·rw [if_pos hw] at hstep
   obtain ⟨τ, key, x, hτ, hx, hbase, hlive, hst⟩ := hstep
   obtain ⟨hτ1, hτ2⟩ := stgOf_done hτ
   have key1 := hst (factsFrom (fun i => listed.getD i false && nb σ.live i) 0 l Fs) a w hR2 (wpAny P .any l.toArray Q fuel (listed.setIfInBounds i true)) Q (fun a' w' hR' => by
    refine ih _ τ a' w' hsz' (by rw [hτ1]; exact hτ) ?_ hcl' hcnt (hnext τ key x a' w' hx (fun k y hy => by rw [hbase] at hy; exact mem_delD hy) ?_ hR')
    ·intro j hj
     rw [hτ1, nb_set]
     by_cases e : j = i
     ·subst e
      rw [if_pos ⟨rfl, by omega⟩]
      simp [Array.getD_eq_getD_getElem?, his]
     ·rw [if_neg (fun h => e h.1), getD_set_ne false (fun h => e h.symm)]
      exact hwl j hj
    ·intro j hjl hlj
     have := List.all_eq_true.1 hlive j (List.mem_range.2 hjl)
     simp only [Bool.or_eq_true, Bool.not_eq_true', beq_iff_eq, Bool.and_eq_true] at this
     rcases this with ((h | h) | h) | ⟨h, h'⟩
     ·rw [hlj] at h; simp at h
     ·exact .inl h
     ·exact .inr (.inl (by simpa using h))
     ·refine .inr (.inr ⟨h, fun y hy => ?_⟩)
      rw [hy] at h'
      simpa using h')
   split
   ·rename_i hw'
    simp only [hw', if_true] at key1
    exact .inl key1
   ·rename_i hw'
    simp only [hw'] at key1
    exact key1
  ·rw [if_neg hw] at hstep
   obtain ⟨x, hx, hst⟩ := hstep
   have key1 := hst (factsFrom (fun i => listed.getD i false && nb σ.live i) 0 l Fs) a w hR2 (wpAny P .any l.toArray Q fuel (listed.setIfInBounds i true)) Q (fun a' w' hR' => by
    refine ih _ σ a' w' hsz' hσ ?_ hcl' hcnt (hnext σ [] x a' w' hx (fun k y hy => ⟨hy, fun d hd e => baseOk_ne hc3 hil hol hd (.inl (by simpa using hw)) hy e⟩) (fun j _ hlj => .inr (.inr ⟨hlj, fun _ _ => rfl⟩)) hR')
    intro j hj
    by_cases e : j = i
    ·subst e; exact absurd hj hw
    ·rw [getD_set_ne false (fun h => e h.symm)]
     exact hwl j hj)
   split
   ·rename_i hw'
    simp only [hw', if_true] at key1
    exact .inl key1
   ·rename_i hw'
    simp only [hw'] at key1
    exact key1
theorem RegA.W {ops : List Oper} (isW : List Bool) (Fs : List SV) (tab : List Stg) {σ0 σf : Stg} (hok : (edgesOk 0 ops && nodupB (dsts ops) && (dsts ops).all (· < n.n) && (isW.length == ops.length)) = true)
  (htab : WTab P E n isW tab ops Fs tab) (h0 : stgOf tab (List.replicate ops.length false) = some σ0) (hs0 : s = ⟨σ0.base, σ0.own⟩) (hf : stgOf tab isW = some σf) (ks kos : List Nat)
  (hs : (⟨σf.base ++ factsFrom (nb σf.live) 0 ops Fs, σf.own⟩ : St).keep ks kos = s') (h : Fin E n .normal s' Q) : RegA P E n ops.toArray s Q := by
 subst hs0
 intro a w hr
 refine anyW hok htab (Fs := Fs) (fun σ hσ => ?_) _ _ σ0 _ _ (by simp) (by rw [(stgOf_done h0).1]; exact h0) ?_ ?_ (by simp) ?_
 ·rw [hf] at hσ; cases hσ
  exact fun a w hr => h a w (hs ▸ hr.keep ks kos)
 ·intro i _
  rw [(stgOf_done h0).1]
  by_cases hi : i < ops.length <;> simp [nb, List.getD, Array.getD_eq_getD_getElem?, hi]
 ·intro i p hi hl
  exfalso
  simp only [Array.getD_eq_getD_getElem?, Array.getElem?_replicate] at hl
  split at hl <;> simp at hl
 ·have hr' := hr.drawn
  obtain ⟨h1, h2, hh, ρ, hw, hsl⟩ := hr'
  refine ⟨h1, h2, hh, ρ, hw, fun k x hx => hsl k x ?_⟩
  rcases List.mem_append.1 hx with hx | hx
  ·exact hx
  ·rw [mem_factsFrom] at hx
   obtain ⟨j, o, hj, _, _, hl⟩ := hx
   simp only [Nat.zero_add, Array.getD_eq_getD_getElem?, Array.getElem?_replicate, Bool.and_eq_true] at hl
   have := hl.1
   split at this <;> simp at this
theorem Tri.regionWF {rid : Nat} {ops : List Oper} (hm : P.follows .mixedOrders = true) (isW : List Bool) (Fs : List SV) (tab : List Stg) {σ0 σf : Stg} (hok : (edgesOk 0 ops && nodupB (dsts ops) && (dsts ops).all (· < n.n) && (isW.length == ops.length)) = true)
  (htab : WTab P E n isW tab ops Fs tab) (h0 : stgOf tab (List.replicate ops.length false) = some σ0) (hs0 : s = ⟨σ0.base, σ0.own⟩) (hf : stgOf tab isW = some σf) (ks kos : List Nat)
  (hs : (⟨σf.base ++ factsFrom (nb σf.live) 0 ops Fs, σf.own⟩ : St).keep ks kos = s') (h : Fin E n .normal s' Q) : Tri P E n (.region rid ops.toArray true) s Q := Tri.ofA hm (RegA.W isW Fs tab hok htab h0 hs0 hf ks kos hs h)
theorem Tri.regionW {rid : Nat} {ops : List Oper} {y : Code} (hm : P.follows .mixedOrders = true) (isW : List Bool) (Fs : List SV) (tab : List Stg) {σ0 σf : Stg} (hok : (edgesOk 0 ops && nodupB (dsts ops) && (dsts ops).all (· < n.n) && (isW.length == ops.length)) = true)
  (htab : WTab P E n isW tab ops Fs tab) (h0 : stgOf tab (List.replicate ops.length false) = some σ0) (hs0 : s = ⟨σ0.base, σ0.own⟩) (hf : stgOf tab isW = some σf) (ks kos : List Nat)
  (hs : (⟨σf.base ++ factsFrom (nb σf.live) 0 ops Fs, σf.own⟩ : St).keep ks kos = s') (h : Tri P E n y s' Q) : Tri P E n (.region rid ops.toArray true) s (Exit.then (y.wp P Q) Q) :=
 Tri.regionWF hm isW Fs tab hok htab h0 hs0 hf ks kos hs (Fin.then h)
end
end Go.Sk
namespace Go.Sk
open Go
end Go.Sk

namespace Go.Sk
set_option linter.unusedSimpArgs false
set_option linter.unusedVariables false
open Go Go.BigFrame
def toStr (l : List Int) : Str := l.map fun n => UInt8.ofNat n.toNat
section
variable {P : Program} {TB : Tabs} {E : Env TB} {n : Sh} {s s2 : St} {dst : Option Nat} {t ty yt : TypeId} {pos : String} {after : Array Edge} {g : Option (Nat × Bool)} {x y c : Operand} {k : IntKind} {a b : Int} {ops : Array Oper} {o : Oper}
theorem op_conv_bytes {src d e : TypeId} {xs : List Int} (hsrc : P.underlying src = some (.slice e)) (he : P.underlying e = some (.int .u8)) (hd : P.underlying d = some .string) (hx : s.ev x = some (.b (.one (.sl 1 (xs.map (eK .u8)))))) :
  Op1 P E n ⟨dst, .convert src d x, ty, pos, after, g⟩ s (s.put n dst (.b (.one (.str (toStr xs))))) :=
 Op1.val (o := ⟨dst, .convert src d x, ty, pos, after, g⟩) fun ac w h ρ hw hs => by
  obtain ⟨hu, hz, hv⟩ := (ev_rel hs hx : (CP.sl 1 (xs.map (eK .u8))).rel h _)
  rcases hv with ⟨hv, he0⟩ | ⟨bl, o, cp, hv, h1, h2, h3⟩ | ⟨ad, hv, he0⟩
  ·have hxs : xs = [] := by simpa using he0
   subst hxs
   refine ⟨.string ⟨⟨[]⟩⟩, ?_, rfl, Nat.zero_le _⟩
   simp only [execOp, hv]
   have := run_convert_bytes_nil (P := P) w src e hsrc he 0 0 d hd
   simp only [Sem.run_bind, this]
   rfl
  ·have hlen : (xs.map (eK .u8)).length = xs.length := by simp
   have hfl : (xs.map (eK .u8)).flatten = xs.map (CP.int .u8) := by
    clear hx hu hv h1 h2 h3 hlen
    induction xs with
    | nil => rfl
    | cons a l ih => simp only [List.map_cons, List.flatten_cons, ih, eK]; rfl
   refine ⟨.string ⟨⟨toStr xs⟩⟩, ?_, rfl, by simp only [toStr, List.length_map] at h1 ⊢; omega⟩
   have hc : ∀ i, i < xs.length → w.cell? ⟨bl, o + i, none⟩ = some (.int .u8 (xs.getD i 0)) := fun i hi => by
    obtain ⟨u, hu1, hu2⟩ := h3 i (CP.int .u8 xs[i]) (by rw [hfl]; simp [hi])
    rw [hw.agree.cell hu1 (CP.one _ hu2), hu2.1]
    simp [List.getD, List.getElem?_eq_getElem hi]
   have := run_convert_bytes_arg (P := P) w src e hsrc he bl o xs.length cp xs rfl hc d hd
   simp only [execOp, hv, hlen]
   simp only [Sem.run_bind, this]
   rfl
  ·have hxs : xs = [] := by simpa using he0
   subst hxs
   refine ⟨.string ⟨⟨[]⟩⟩, ?_, rfl, Nat.zero_le _⟩
   simp only [execOp, hv]
   have : (convert src d (.slice (some ad) 0 0)).run P w = .ok (.string ByteArray.empty) w := by
    rw [run_convert_bytes_string w src d e _ 0 0 hsrc he hd]
    simp [Conv.bytesToString, loadCells]
    rfl
   simp only [Sem.run_bind, this]
   rfl
theorem Step1.forget (kb off : Nat) {T : TypeId} {cs : List BV} (hk : lk s.own kb = some (.xbox T cs)) (h : Step1 P E n ops o ⟨s.slots, ins kb (.xbox T (cs.set off (.one .any))) s.own⟩ s2) : Step1 P E n ops o s s2 :=
 fun a w hr => h a w (hr.forget kb off hk)
end
end Go.Sk

namespace Go.Sk
set_option linter.unusedSimpArgs false
set_option linter.unusedVariables false
open Go
theorem idx_nat {α : Type} [Inhabited α] (l : List α) (i : Nat) (h : i < l.length) : idx l (i : Int) = l[i] := by
 simp [idx, List.getD, List.getElem?_eq_getElem h]
end Go.Sk

namespace Go.Sk
set_option linter.unusedSimpArgs false
set_option linter.unusedVariables false
open Go Go.BigFrame
def eA (k : IntKind) (l : List Int) : List CP := l.map (.int k)
@[simp] theorem eA_len (k : IntKind) (l : List Int) : (eA k l).length = l.length := by simp [eA]
theorem arr_get {cs post : List CP} {l : List Int} {k : IntKind} {i z : Int} {m o : Nat} (pre : List CP) (h : idx? l i = some z) (hm : pre.length = m) (hcs : cs = pre ++ (l.map (.int k) ++ post)) (ho : m + i.toNat * 1 = o) : cs[o]? = some (.int k z) := by
 subst ho hm hcs
 have h0 := ix_lo h
 have h1 := ix_hi h
 rw [List.getElem?_append_right (by omega), List.getElem?_append_left (by rw [List.length_map]; omega)]
 have e : pre.length + i.toNat * 1 - pre.length = i.toNat := by omega
 rw [e, List.getElem?_map, ix_get h]
 rfl
theorem arr_lt {cs post : List CP} {l : List Int} {k : IntKind} {i z : Int} {m o : Nat} (pre : List CP) (h : idx? l i = some z) (hm : pre.length = m) (hcs : cs = pre ++ (l.map (.int k) ++ post)) (ho : m + i.toNat * 1 = o) : o < cs.length := by
 subst ho hm hcs
 have h0 := ix_lo h
 have h1 := ix_hi h
 rw [List.length_append, List.length_append, List.length_map]
 omega
theorem arr_set {cs cs' post : List CP} {l l' : List Int} {k : IntKind} {i z x : Int} {m o : Nat} (pre : List CP) (h : idx? l i = some z) (hm : pre.length = m) (hcs : cs = pre ++ (l.map (.int k) ++ post)) (hl : l' = l.set i.toNat x)
  (hcs' : cs' = pre ++ (l'.map (.int k) ++ post)) (ho : m + i.toNat * 1 = o) : cs.set o (.int k x) = cs' := by
 subst ho hm hcs hcs' hl
 have h0 := ix_lo h
 have h1 := ix_hi h
 rw [List.set_append_right _ _ (by omega), List.set_append_left _ _ (by rw [List.length_map]; omega)]
 have e : pre.length + i.toNat * 1 - pre.length = i.toNat := by omega
 rw [e, List.map_set]
section
variable {P : Program} {t : TypeId}
def EqPart (P : Program) (d : Nat) (t : TypeId) (m : Nat) (ps qs : List CP) (r : Bool) : Prop :=
 ∀ (h : PH) (w : World) (A B : Array Value) (off : Nat), cellsRel h ps ((A.toList.drop off).take m) → cellsRel h qs ((B.toList.drop off).take m) → ps.length = m → qs.length = m →
  ∃ a b, (part t A off).run P w = .ok a w ∧ (part t B off).run P w = .ok b w ∧ (Op.equalIn d t a b).run P w = .ok r w
theorem run_part_one (ht : TyOne P t) {A : Array Value} {off : Nat} {v : Value} (hv : A[off]? = some v) (w : World) : (part t A off).run P w = .ok v w := by
 obtain ⟨d, hd, ha⟩ := ht.und
 unfold part
 rw [Sem.run_bind, run_isAgg hd, Result.andThen, ha]
 simp [hv]
theorem run_part_agg {m : Nat} (ht : TyAgg P t m) {A : Array Value} {off : Nat} (w : World) : (part t A off).run P w = .ok (.agg (A.extract off (off + m))) w := by
 obtain ⟨d, hd, ha⟩ := ht.und
 obtain ⟨i, hi, hn⟩ := ht.size
 unfold part
 rw [Sem.run_bind, run_isAgg hd, Result.andThen, ha]
 simp [run_sizeOf hi, hn]
theorem one_of_take {h : PH} {p : CP} {A : Array Value} {off : Nat} (hr : cellsRel h [p] ((A.toList.drop off).take 1)) : ∃ u, A[off]? = some u ∧ p.rel h u := by
 obtain ⟨u, hu, hp⟩ := hr.get 0 p rfl
 rw [List.getElem?_take] at hu
 simp at hu
 exact ⟨u, hu, hp⟩
theorem EqPart.one {d : Nat} {p q : CP} {r : Bool} (ht : TyOne P t) (hrun : ∀ (h : PH) (u v : Value) (w : World), p.rel h u → q.rel h v → (Op.equalIn d t u v).run P w = .ok r w) : EqPart P d t 1 [p] [q] r := by
 intro h w A B off ha hb _ _
 obtain ⟨u, hu, hp⟩ := one_of_take ha
 obtain ⟨v, hv, hq⟩ := one_of_take hb
 exact ⟨u, v, run_part_one ht hu w, run_part_one ht hv w, hrun h u v w hp hq⟩
theorem EqPart.int {d : Nat} {k k' : IntKind} {a b : Int} (h1 : TyOne P t) (hu : P.underlying t = some (.int k')) : EqPart P (d + 1) t 1 [.int k a] [.int k b] (decide (a = b)) :=
 .one h1 fun h u v w hp hq => by rw [hp.1, hq.1, run_equalIn_int w d t k k' a b hu, int_beq]
theorem EqPart.str {d : Nat} {a b : Str} (h1 : TyOne P t) (hu : P.underlying t = some .string) : EqPart P (d + 1) t 1 [.str a] [.str b] (decide (a = b)) :=
 .one h1 fun h u v w hp hq => by rw [hp.1, hq.1, run_equalIn_string w d t _ _ hu, str_beq]
theorem EqPart.bool {d : Nat} {a b : Bool} (h1 : TyOne P t) (hu : P.underlying t = some .bool) : EqPart P (d + 1) t 1 [.bool a] [.bool b] (a == b) :=
 .one h1 fun h u v w hp hq => by rw [show u = .bool a from hp, show v = .bool b from hq, run_equalIn_bool' w d t a b hu]
def EqFs (P : Program) (d : Nat) (ps qs : List CP) : List Field → List Bool → Prop
 | [], [] => True
 | f :: fs, r :: rs => f.name ≠ "_" ∧ (∃ m p' q', (ps.drop f.offset).take m = p' ∧ (qs.drop f.offset).take m = q' ∧ p'.length = m ∧ q'.length = m ∧ EqPart P d f.type m p' q' r) ∧ EqFs P d ps qs fs rs
 | _, _ => False
theorem eqFs_run {d : Nat} {h : PH} {ps qs : List CP} {A B : Array Value} (hp : cellsRel h ps A.toList) (hq : cellsRel h qs B.toList) (w : World) : ∀ {fs : List Field} {rs : List Bool}, EqFs P d ps qs fs rs → (Op.eqFields d A B fs).run P w = .ok (rs.all id) w
 | [], [], _ => rfl
 | [], _ :: _, h => h.elim
 | _ :: _, [], h => h.elim
 | f :: fs, r :: rs, ⟨h1, ⟨m, p', q', e1, e2, l1, l2, he⟩, h3⟩ => by
  have ih := eqFs_run hp hq w h3
  obtain ⟨a, b, r1, r2, r3⟩ := he h w A B f.offset (by rw [← e1]; exact All2.take (All2.drop hp _) _) (by rw [← e2]; exact All2.take (All2.drop hq _) _) l1 l2
  unfold Op.eqFields
  rw [if_pos h1]
  rw [Sem.run_bind, r1, Result.andThen, Sem.run_bind, r2, Result.andThen, Sem.run_bind, r3, Result.andThen]
  cases r
  ·simp
  ·simpa using ih
theorem extract_list {A : Array Value} {off m : Nat} : (A.extract off (off + m)).toList = (A.toList.drop off).take m := by
 rw [Array.toList_extract]
 show (A.toList.drop off).take (off + m - off) = _
 rw [Nat.add_sub_cancel_left]
theorem EqPart.struct {d m : Nat} {ps qs : List CP} {fs : Array Field} {rs : List Bool} {r : Bool} (ta : TyAgg P t m) (hh : P.stoodInHeld t = false) (hu : P.underlying t = some (.struct fs)) (hc : EqFs P d ps qs fs.toList rs) (hr : rs.all id = r) : EqPart P (d + 1) t m ps qs r := by
 intro h w A B off ha hb l1 l2
 have hf : P.fieldsOf t = fs := by simp [Program.fieldsOf, hu]
 refine ⟨_, _, run_part_agg ta w, run_part_agg ta w, ?_⟩
 rw [run_equalIn_struct w d t _ _ (by rw [hf]; exact hu) hh, hf, eqFs_run (by rw [extract_list]; exact ha) (by rw [extract_list]; exact hb) w hc, hr]
theorem eqItems_run {d k' : Nat} {e : TypeId} {k ke : IntKind} {h : PH} {l l' : List Int} {A B : Array Value} (h1 : TyOne P e) (hu : P.underlying e = some (.int ke)) (ha : cellsRel h (l.map (.int k)) A.toList) (hb : cellsRel h (l'.map (.int k)) B.toList) (hl : l.length = l'.length) (w : World) :
  ∀ (is : List Nat), (∀ i ∈ is, i < l.length) → (Op.eqItems (d + 1) e 1 A B is).run P w = .ok (is.all fun i => decide (l[i]? = l'[i]?)) w
 | [], _ => rfl
 | i :: is, hi => by
  have ih := eqItems_run (d := d) (k' := k') h1 hu ha hb hl w is (fun j hj => hi j (by simp [hj]))
  have hi0 := hi i (by simp)
  obtain ⟨u, hu1, hu2⟩ := ha.get i (.int k l[i]) (by rw [List.getElem?_map, List.getElem?_eq_getElem hi0]; rfl)
  obtain ⟨v, hv1, hv2⟩ := hb.get i (.int k (l'[i]'(by omega))) (by rw [List.getElem?_map, List.getElem?_eq_getElem (by omega)]; rfl)
  have p1 := run_part_one h1 (A := A) (off := i * 1) (v := u) (by rw [Nat.mul_one]; simpa using hu1) w
  have p2 := run_part_one h1 (A := B) (off := i * 1) (v := v) (by rw [Nat.mul_one]; simpa using hv1) w
  have p3 : (Op.equalIn (d + 1) e u v).run P w = .ok (decide (l[i] = l'[i]'(by omega))) w := by rw [hu2.1, hv2.1, run_equalIn_int w d e k ke _ _ hu, int_beq]
  unfold Op.eqItems
  rw [Sem.run_bind, p1, Result.andThen, Sem.run_bind, p2, Result.andThen, Sem.run_bind, p3, Result.andThen]
  have e0 : decide (l[i]? = l'[i]?) = decide (l[i] = l'[i]'(by omega)) := by
   rw [List.getElem?_eq_getElem hi0, List.getElem?_eq_getElem (show i < l'.length by omega), Bool.eq_iff_iff]; simp
  rw [List.all_cons, e0]
  cases decide (l[i] = l'[i]'(by omega))
  ·simp
  ·simpa using ih
theorem EqPart.arr {d m : Nat} {e : TypeId} {k ke : IntKind} {l l' : List Int} (ta : TyAgg P t m) (hu : P.underlying t = some (.array m e)) (he : TyOne P e) (hue : P.underlying e = some (.int ke)) : EqPart P (d + 2) t m (l.map (.int k)) (l'.map (.int k)) (decide (l = l')) := by
 intro h w A B off ha hb l1 l2
 rw [List.length_map] at l1 l2
 obtain ⟨i, hi, hs⟩ := he.size
 refine ⟨_, _, run_part_agg ta w, run_part_agg ta w, ?_⟩
 have hc : P.cellsOf e = 1 := by simp [Program.cellsOf, hi, hs]
 rw [run_equalIn_array w (d + 1) _ _ hu hi, hc, eqItems_run (k' := 0) he hue (by rw [extract_list]; exact ha) (by rw [extract_list]; exact hb) (by omega) w _ (fun j hj => by rw [l1]; simpa using hj)]
 congr 1
 rw [Bool.eq_iff_iff]
 simp only [List.all_eq_true, List.mem_range, decide_eq_true_eq]
 refine ⟨fun hh => List.ext_getElem? fun j => ?_, fun e j _ => by rw [e]⟩
 by_cases hj : j < m
 ·exact hh j hj
 ·rw [List.getElem?_eq_none (by omega), List.getElem?_eq_none (by omega)]
theorem EqAgg.ofPart {m : Nat} {ps qs : List CP} {r : Bool} (hg : P.eqGuardType P.depth t = false) (ta : TyAgg P t m) (hp : EqPart P 10000 t m ps qs r) (l1 : ps.length = m) (l2 : qs.length = m) : EqAgg P t ps qs r :=
 ⟨hg, fun h cs ds w ha hb => by
  have e1 : cs.toList.length = m := by rw [← l1]; exact ha.length.symm
  have e2 : ds.toList.length = m := by rw [← l2]; exact hb.length.symm
  obtain ⟨a, b, p1, p2, p3⟩ := hp h w cs ds 0 (by rw [List.drop_zero, List.take_of_length_le (by omega)]; exact ha) (by rw [List.drop_zero, List.take_of_length_le (by omega)]; exact hb) l1 l2
  rw [run_part_agg ta w] at p1 p2
  have x1 : cs.extract 0 (0 + m) = cs := by
   apply Array.ext'
   rw [extract_list, List.drop_zero, List.take_of_length_le (by omega)]
  have x2 : ds.extract 0 (0 + m) = ds := by
   apply Array.ext'
   rw [extract_list, List.drop_zero, List.take_of_length_le (by omega)]
  rw [x1] at p1
  rw [x2] at p2
  injection p1 with p1
  injection p2 with p2
  subst p1 p2
  exact p3⟩
theorem EqPart.cast {d m : Nat} {ps qs : List CP} {r r' : Bool} (h : EqPart P d t m ps qs r) (e : r = r') : EqPart P d t m ps qs r' := e ▸ h
end
structure TyBuildA (P : Program) (t : TypeId) (size : Nat) (zs : List CP) : Prop where
 info : ∃ it z m e ie, P.info? t = some it ∧ it.zero = some z ∧ cvs z.cells.toList = some zs ∧ P.underlying t = some (.array m e) ∧ P.info? e = some ie ∧ ie.size = size
section
variable {P : Program} {TB : Tabs} {E : Env TB} {n : Sh} {s s' : St} {dst : Option Nat} {t ty yt : TypeId} {pos : String} {after : Array Edge} {g : Option (Nat × Bool)} {x y c : Operand} {ops : Array Oper} {l : List Oper} {Q : Post} {cd : Code} {o : Oper}
theorem op_buildA {size : Nat} {zs qs : List CP} {parts : Array (Nat × Operand)} {cps : List (Nat × List CP)} (ht : TyBuildA P t size zs) (hp : evParts s parts.toList = some cps) (hf : cfill (fun i => some (i * size, size)) zs cps = some qs) :
  Op1 P E n ⟨dst, .build t parts, ty, pos, after, g⟩ s (s.put n dst (.b (.agg qs))) :=
 Op1.val (o := ⟨dst, .build t parts, ty, pos, after, g⟩) fun ac w h ρ hw hs => by
  obtain ⟨it, z, m, e, ie, h1, h2, h3, h4, h5, h6⟩ := ht.info
  obtain ⟨cs, hc1, hc2⟩ := fill_rel hs (fun i => some (i * size, size)) parts.toList cps zs qs z.cells hp hf (cvs_rel h h3)
  refine ⟨.agg cs, ?_, cs, rfl, hc2⟩
  have hb : P.built t (parts.map fun (i, x) => (i, ac.eval x)).toList = some cs := by
   simp only [Program.built, h1, h4, h2, h5, h6]
   rw [← hc1]
   simp
  have := run_build (P := P) w t _ cs hb
  simp only [execOp]
  simp [this]
theorem op_slice_a {e : TypeId} {m k off : Nat} (ht : TyArr P t e m 1) (hm : 0 < m) (hx : s.ev x = some (.b (.ptr k off))) :
  Op1 P E n ⟨dst, .slice t x none none none, ty, pos, after, g⟩ s (s.put n dst (.b (.psl k off m m))) :=
 Op1.val (o := ⟨dst, .slice t x none none none, ty, pos, after, g⟩) fun ac w h ρ hw hs => by
  obtain ⟨b, hb, hv⟩ := (ev_rel hs hx : BV.rel h ρ (.ptr k off) _)
  obtain ⟨i, hi, hsz⟩ := ht.info
  have e1 : P.arrayLen t = m := by simp [Program.arrayLen, ht.und]
  have e2 : P.elem t = e := by simp [Program.elem, ht.und]
  have hu : P.underlying t = some (.array (P.arrayLen t) (P.elem t)) := by rw [e1, e2]; exact ht.und
  refine ⟨.slice (some ⟨b, off, none⟩) m m, ?_, b, hb, rfl⟩
  simp only [execOp, hv, Option.map_none]
  rw [Sem.run_bind, run_sliceAt_array_all w t _ hu, e2, run_sizeOf hi, Result.andThen]
  simp [slicedAt, e1, add_none]
theorem op_slice_al {e : TypeId} {m k off : Nat} {kk : IntKind} {i : Int} {yo : Operand} (ht : TyArr P t e m 1) (h0 : 0 ≤ i) (h1 : i < m) (hx : s.ev x = some (.b (.ptr k off))) (hy : s.ev yo = some (.b (.one (.int kk i)))) :
  Op1 P E n ⟨dst, .slice t x (some yo) none none, ty, pos, after, g⟩ s (s.put n dst (.b (.psl k (off + i.toNat) (m - i.toNat) (m - i.toNat)))) :=
 Op1.val (o := ⟨dst, .slice t x (some yo) none none, ty, pos, after, g⟩) fun ac w h ρ hw hs => by
  obtain ⟨b, hb, hv⟩ := (ev_rel hs hx : BV.rel h ρ (.ptr k off) _)
  obtain ⟨inf, hi, hsz⟩ := ht.info
  have e1 : P.arrayLen t = m := by simp [Program.arrayLen, ht.und]
  have e2 : P.elem t = e := by simp [Program.elem, ht.und]
  have hu : P.underlying t = some (.array (P.arrayLen t) (P.elem t)) := by rw [e1, e2]; exact ht.und
  refine ⟨.slice (some ⟨b, off + i.toNat, none⟩) (m - i.toNat) (m - i.toNat), ?_, b, hb, rfl⟩
  simp only [execOp, hv, Option.map_none, Option.map_some, (ev_int hs hy).1]
  rw [Sem.run_bind, run_sliceAt_array_l w t _ hu kk i h0 (by rw [e1]; omega), e2, run_sizeOf hi, Result.andThen, hsz]
  have hne : ¬ m = i.toNat := by omega
  simp [slicedAt, e1, add_none, hne]
theorem op_slice_ah {e : TypeId} {m k off : Nat} {kk : IntKind} {i : Int} {yo : Operand} (ht : TyArr P t e m 1) (h0 : 0 ≤ i) (h1 : i ≤ m) (hx : s.ev x = some (.b (.ptr k off))) (hy : s.ev yo = some (.b (.one (.int kk i)))) :
  Op1 P E n ⟨dst, .slice t x none (some yo) none, ty, pos, after, g⟩ s (s.put n dst (.b (.psl k off i.toNat m))) :=
 Op1.val (o := ⟨dst, .slice t x none (some yo) none, ty, pos, after, g⟩) fun ac w h ρ hw hs => by
  obtain ⟨b, hb, hv⟩ := (ev_rel hs hx : BV.rel h ρ (.ptr k off) _)
  obtain ⟨inf, hi, hsz⟩ := ht.info
  have e1 : P.arrayLen t = m := by simp [Program.arrayLen, ht.und]
  have e2 : P.elem t = e := by simp [Program.elem, ht.und]
  have hu : P.underlying t = some (.array (P.arrayLen t) (P.elem t)) := by rw [e1, e2]; exact ht.und
  refine ⟨.slice (some ⟨b, off, none⟩) i.toNat m, ?_, b, hb, rfl⟩
  simp only [execOp, hv, Option.map_none, Option.map_some, (ev_int hs hy).1]
  rw [Sem.run_bind, run_sliceAt_array_h w t _ hu kk i h0 (by rw [e1]; omega), e2, run_sizeOf hi, Result.andThen, hsz]
  simp [slicedAt, e1, add_none]
theorem op_toArr {e : TypeId} {m size k off len cap : Nat} (ht : TyArr P t e m size) (h1 : m ≤ len) (hx : s.ev x = some (.b (.psl k off len cap))) :
  Op1 P E n ⟨dst, .sliceToArrayPointer t x, ty, pos, after, g⟩ s (s.put n dst (.b (.ptr k off))) :=
 Op1.val (o := ⟨dst, .sliceToArrayPointer t x, ty, pos, after, g⟩) fun ac w h ρ hw hs => by
  obtain ⟨b, hb, hv⟩ := (ev_rel hs hx : BV.rel h ρ (.psl k off len cap) _)
  refine ⟨.pointer (some ⟨b, off, none⟩), ?_, b, hb, rfl⟩
  simp only [execOp, hv]
  have hne : ¬ len < m := by omega
  simp [Instr.arrayAt, run_underlying ht.und, hne]
theorem op_copy_psl {k k2 off off2 len len2 cap cap2 m bytes : Nat} {e T T2 : TypeId} {zs cs cs2 cs' : List CP} (ht : TySl P t e 1 bytes zs) (hm : min len2 len = m) (hml : m ≤ 9223372036854775807) (hx : s.ev x = some (.b (.psl k off len cap))) (hy : s.ev y = some (.b (.psl k2 off2 len2 cap2)))
  (hk : lk s.own k = some (.box T cs)) (hk2 : lk s.own k2 = some (.box T2 cs2)) (h1 : off + m ≤ cs.length) (h2 : off2 + m ≤ cs2.length) (he : splice cs off ((cs2.drop off2).take m) = cs') :
  Op1 P E n ⟨dst, .call ⟨.builtin .copy, #[x, y], #[t, yt]⟩, ty, pos, after, g⟩ s ((⟨s.slots, ins k (.box T cs') s.own⟩ : St).put n dst (I (m : Int))) := by
 intro a w hr next Q hnext
 obtain ⟨hdf, hn, h, ρ, hw, hs⟩ := hr
 obtain ⟨b, hρ, hv⟩ := (ev_rel hs hx : BV.rel h ρ (.psl k off len cap) _)
 obtain ⟨b2, hρ2, hv2⟩ := (ev_rel hs hy : BV.rel h ρ (.psl k2 off2 len2 cap2) _)
 obtain ⟨c1, cur, q1, q2, q3⟩ := box_cells hw hk
 obtain ⟨c2, cur2, r1, r2, r3⟩ := box_cells hw hk2
 have : c1 = b := by rw [hρ] at q1; simpa using q1.symm
 subst this
 have : c2 = b2 := by rw [hρ2] at r1; simpa using r1.symm
 subst this
 obtain ⟨inf, z, hi, hsz, _⟩ := ht.info
 have l1 : cs.length = cur.size := by simpa using q3.length
 have l2 : cs2.length = cur2.size := by simpa using r3.length
 have hcr : cellsRel h ((cs2.drop off2).take m) ((cur2.toList.drop off2).take m) := All2.take (All2.drop r3 off2) m
 have hcl : ((cur2.toList.drop off2).take m).length = m := by simp; omega
 generalize hvs : (cur2.toList.drop off2).take m = vs at hcr hcl
 have hl := run_loadCells_list (P := P) (w := w) ⟨c2, off2, none⟩ vs fun j v hj => by
  rw [add_none, cell_row r2]
  rw [← hvs, List.getElem?_take] at hj
  split at hj
  ·simpa using hj
  ·simp at hj
 have hst := run_storeCells_at P c1 off T vs 0 cur w q2 (by omega) hcr.one
 rw [Nat.add_zero] at hst
 change _ = Result.ok () (w.setRow c1 (splice cur.toList off vs).toArray) at hst
 have hrel : cellsRel h cs' (splice cur.toList off vs) := by rw [← he]; exact All2.splice q3 hcr off
 have hstep := hw.step (w' := w.setRow c1 (splice cur.toList off vs).toArray) k (ρ k) (.box T cs') (some c1) (fun b' e => by cases e; exact ⟨_, lk_mem hk, by rw [hρ]; rfl⟩) (by simp) rfl rfl
  (fun b' _ hne => setRow_other _ _ _ _ (fun e => hne (by rw [e]))) (by rw [upd_self]; exact ⟨c1, _, hρ, setRow_heap _ _ _ _ _ _ q2, by simpa using hrel⟩) (fun b' hb' => by rw [hρ] at hb'; simp [blkOf] at hb'; exact .inl (by rw [hb'])) (.inl rfl) (.inl rfl)
 rw [upd_self] at hstep
 have hrun' : (execOp a.eval (⟨dst, .call ⟨.builtin .copy, #[x, y], #[t, yt]⟩, ty, pos, after, g⟩ : Oper)).run P w = .ok (.value (.int .i64 m)) (w.setRow c1 (splice cur.toList off vs).toArray) := by
  rw [execOp_builtin]
  show Sem.run _ _ _ = _
  simp only [builtin, List.map_toArray, List.map_cons, List.map_nil, hv, hv2]
  rw [hcl] at hl
  simp [Builtin.copy_, run_underlying ht.und, Builtin.lenOf, Builtin.firstCells, sizeOf, typeInfo, hi, hsz, hm, hl, hst, goInt]
 unfold Oper.wp
 rw [hrun']
 exact hnext _ _ (R.put (s := ⟨s.slots, ins k (.box T cs') s.own⟩) hdf hn hstep hs ⟨rfl, inR_len (by rw [maxLen_eq]; exact hml)⟩)
theorem splice_arr {cs cs2 cs' post post2 : List CP} {l l2 l' : List Int} {kd : IntKind} {lo lo2 m a a2 off off2 : Nat} (pre pre2 : List CP) (h1 : pre.length = a) (h2 : pre2.length = a2) (e1 : cs = pre ++ (l.map (.int kd) ++ post)) (e2 : cs2 = pre2 ++ (l2.map (.int kd) ++ post2))
  (o1 : a + lo = off) (o2 : a2 + lo2 = off2) (b1 : lo + m ≤ l.length) (b2 : lo2 + m ≤ l2.length) (hl : l' = spliceE l lo ((l2.drop lo2).take m)) (e' : cs' = pre ++ (l'.map (.int kd) ++ post)) : splice cs off ((cs2.drop off2).take m) = cs' := by
 subst e1 e2 o1 o2 e' h1 h2 hl
 rw [List.drop_append, List.drop_of_length_le (by omega), List.nil_append]
 have x1 : pre2.length + lo2 - pre2.length = lo2 := by omega
 rw [x1, List.drop_append_of_le_length (by rw [List.length_map]; omega), List.take_append_of_le_length (by rw [List.length_drop, List.length_map]; omega)]
 have hlen : (((l2.map (CP.int kd)).drop lo2).take m).length = m := by simp; omega
 unfold splice spliceE
 rw [hlen, List.take_append, List.take_of_length_le (by omega), List.drop_append, List.drop_of_length_le (l := pre) (by omega)]
 have x2 : pre.length + lo - pre.length = lo := by omega
 have x3 : pre.length + lo + m - pre.length = lo + m := by omega
 rw [x2, x3, List.take_append_of_le_length (by rw [List.length_map]; omega), List.drop_append_of_le_length (by rw [List.length_map]; omega)]
 have x4 : ((l2.drop lo2).take m).length = m := by simp; omega
 rw [x4]
 simp [List.map_take, List.map_drop]
theorem OpsL.consA {α β : Type} (en : β → List CP) {a : β} {K : β → Option α} {r : α} (h : letN a K = some r) (hg : o.guard = none) (h1 : Op1 P E n o s (s.put n o.dst (.b (.agg (en a)))))
  (H : ∀ z, K z = some r → OpsL P E n ops l (s.put n o.dst (.b (.agg (en z)))) Q) : OpsL P E n ops (o :: l) s Q := OpsL.cons hg h1 (H a h)
end
def ior (k : IntKind) (a b : Int) : Int := k.wrap ((BitVec.ofInt k.bits a ||| BitVec.ofInt k.bits b).toNat : Int)
def shl? (k : IntKind) (a n : Int) : Option Int := if n < 0 then none else some (k.wrap (a * 2 ^ (min n.toNat k.bits)))
def shr? (k : IntKind) (a n : Int) : Option Int := if n < 0 then none else some (a / 2 ^ (min n.toNat k.bits))
def sub? {α : Type} (xs : List α) (i j : Int) : Option (List α) := if 0 ≤ i ∧ i ≤ j ∧ j ≤ xs.length then some ((xs.take j.toNat).drop i.toNat) else none
def ofStr (l : Str) : List Int := l.map fun c => (c.toNat : Int)
theorem shl_ok {k : IntKind} {a n z : Int} (h : shl? k a n = some z) : ¬ n < 0 ∧ k.wrap (a * 2 ^ (min n.toNat k.bits)) = z := by
 unfold shl? at h; split at h
 ·simp at h
 ·exact ⟨by assumption, by simpa using h⟩
theorem shr_ok {k : IntKind} {a n z : Int} (h : shr? k a n = some z) : ¬ n < 0 ∧ a / 2 ^ (min n.toNat k.bits) = z := by
 unfold shr? at h; split at h
 ·simp at h
 ·exact ⟨by assumption, by simpa using h⟩
theorem sub_ok {α : Type} {xs z : List α} {i j : Int} (h : sub? xs i j = some z) : 0 ≤ i ∧ i ≤ j ∧ j ≤ xs.length ∧ (xs.take j.toNat).drop i.toNat = z := by
 unfold sub? at h; split at h
 ·next hh => exact ⟨hh.1, hh.2.1, hh.2.2, by simpa using h⟩
 ·simp at h
theorem shr_inR {k : IntKind} {a : Int} (m : Nat) (hra : inR k a) : inR k (a / 2 ^ m) := by
 have hpos : (0 : Int) < 2 ^ m := Int.pow_pos (by decide)
 unfold inR at hra ⊢
 have h5 : k.min ≤ 0 := by cases k <;> simp [IntKind.min, IntKind.signed, IntKind.bits]
 have h6 : 0 ≤ k.max := by cases k <;> simp [IntKind.max, IntKind.signed, IntKind.bits]
 by_cases h0 : 0 ≤ a
 ·have h1 : 0 ≤ a / 2 ^ m := Int.ediv_nonneg h0 (Int.le_of_lt hpos)
  have h2 : a / 2 ^ m ≤ a := Int.ediv_le_self _ h0
  omega
 ·have h1 : a / 2 ^ m ≤ 0 := by
   have := Int.ediv_neg_of_neg_of_pos (by omega : a < 0) hpos; omega
  have h2 : a ≤ a / 2 ^ m := by
   refine (Int.le_ediv_iff_mul_le hpos).2 ?_
   have h3 : (1 : Int) ≤ 2 ^ m := hpos
   have h4 : (-a) * 1 ≤ (-a) * 2 ^ m := Int.mul_le_mul_of_nonneg_left h3 (by omega)
   have e : (-a) * 2 ^ m = -(a * 2 ^ m) := Int.neg_mul _ _
   omega
  omega
section
variable {P : Program} {TB : Tabs} {E : Env TB} {n : Sh} {s s' : St} {dst : Option Nat} {t ty yt : TypeId} {pos : String} {after : Array Edge} {g : Option (Nat × Bool)} {x y c : Operand} {k : IntKind} {a b : Int} {ops : Array Oper} {l : List Oper} {Q : Post} {cd : Code} {o : Oper}
theorem op_bits {op : BinOp} {f : Int → Int → Int} (hf : ∀ a b, inR k (f a b)) (hop : (do eqGuard op t x y (.int k a) (.int k b); binOp op t (.int k a) (.int k b) : Sem Value) = (pure (.int k (f a b)) : Sem Value)) (hx : s.ev x = some (.b (.one (.int k a)))) (hy : s.ev y = some (.b (.one (.int k b)))) :
  Op1 P E n ⟨dst, .binOp op t x y yt, ty, pos, after, g⟩ s (s.put n dst (.b (.one (.int k (f a b))))) :=
 Op1.val (o := ⟨dst, .binOp op t x y yt, ty, pos, after, g⟩) fun ac w h ρ hw hs => by
  refine ⟨.int k (f a b), ?_, rfl, hf _ _⟩
  simp only [execOp, (ev_int hs hx).1, (ev_int hs hy).1]
  rw [Sem.run_bind, hop]; rfl
theorem op_or (hx : s.ev x = some (.b (.one (.int k a)))) (hy : s.ev y = some (.b (.one (.int k b)))) : Op1 P E n ⟨dst, .binOp .or t x y yt, ty, pos, after, g⟩ s (s.put n dst (.b (.one (.int k (ior k a b))))) :=
 op_bits (f := ior k) (fun _ _ => wrap_inR _ _) (by simp [eqGuard, binOp, Op.intBits, ior]) hx hy
theorem op_shl {k2 : IntKind} {m z : Int} (h : shl? k a m = some z) (hx : s.ev x = some (.b (.one (.int k a)))) (hy : s.ev y = some (.b (.one (.int k2 m)))) :
  Op1 P E n ⟨dst, .binOp .shl t x y yt, ty, pos, after, g⟩ s (s.put n dst (.b (.one (.int k z)))) :=
 Op1.val (o := ⟨dst, .binOp .shl t x y yt, ty, pos, after, g⟩) fun ac w h' ρ hw hs => by
  obtain ⟨h1, rfl⟩ := shl_ok h
  refine ⟨_, ?_, rfl, wrap_inR _ _⟩
  simp only [execOp, (ev_int hs hx).1, (ev_int hs hy).1]
  simp [eqGuard, binOp, Op.shift, h1]
theorem op_shr3 {k2 : IntKind} {m z : Int} (h : shr? k a m = some z) (hx : s.ev x = some (.b (.one (.int k a)))) (hy : s.ev y = some (.b (.one (.int k2 m)))) :
  Op1 P E n ⟨dst, .binOp .shr t x y yt, ty, pos, after, g⟩ s (s.put n dst (.b (.one (.int k z)))) :=
 Op1.val (o := ⟨dst, .binOp .shr t x y yt, ty, pos, after, g⟩) fun ac w h' ρ hw hs => by
  obtain ⟨h1, rfl⟩ := shr_ok h
  refine ⟨_, ?_, rfl, shr_inR _ (ev_int hs hx).2⟩
  have hd : ∀ q : Nat, a.fdiv (2 ^ q) = a / 2 ^ q := fun q => Int.fdiv_eq_ediv_of_nonneg _ (Int.pow_nonneg (by decide))
  simp only [execOp, (ev_int hs hx).1, (ev_int hs hy).1]
  simp [eqGuard, binOp, Op.shift, h1, hd]
theorem op_shl0 {k2 : IntKind} {m : Nat} (hm : m ≤ k.bits) (hx : s.ev x = some (.b (.one (.int k a)))) (hy : s.ev y = some (.b (.one (.int k2 (m : Int))))) {q : Int} (hq : (2 : Int) ^ m = q) :
  Op1 P E n ⟨dst, .binOp .shl t x y yt, ty, pos, after, g⟩ s (s.put n dst (.b (.one (.int k (k.wrap (a * q)))))) := by
 have : shl? k a (m : Int) = some (k.wrap (a * q)) := by
  have hneg : ¬ ((m : Int) < 0) := by omega
  simp only [shl?, hneg, if_false, Int.toNat_natCast, Nat.min_eq_left hm, hq]
 exact op_shl this hx hy
theorem op_slice_str {z : Str} {k1 k2 : IntKind} {i j : Int} {lo hi : Operand} {r : Str} (ht : P.underlying t = some .string) (h : sub? z i j = some r) (hx : s.ev x = some (.b (.one (.str z)))) (hl : s.ev lo = some (.b (.one (.int k1 i)))) (hh : s.ev hi = some (.b (.one (.int k2 j)))) :
  Op1 P E n ⟨dst, .slice t x (some lo) (some hi) none, ty, pos, after, g⟩ s (s.put n dst (.b (.one (.str r)))) :=
 Op1.val (o := ⟨dst, .slice t x (some lo) (some hi) none, ty, pos, after, g⟩) fun ac w h' ρ hw hs => by
  obtain ⟨h0, h1, h2, rfl⟩ := sub_ok h
  obtain ⟨hv, hln⟩ := ev_str hs hx
  refine ⟨.string ⟨⟨(z.take j.toNat).drop i.toNat⟩⟩, ?_, rfl, by simp; omega⟩
  simp only [execOp, hv, Option.map_some, Option.map_none, (ev_int hs hl).1, (ev_int hs hh).1]
  rw [Sem.run_bind, run_sliceAt_string w t _ _ _ _ ht, run_slice_string (P := P) (w := w) t ⟨⟨z⟩⟩ k1 k2 i j ht h0 h1 (by simpa [mk_size] using h2)]
  show Result.ok _ w = Result.ok _ w
  congr 4
  have e : i.toNat + (j.toNat - i.toNat) = j.toNat := by omega
  simp [ByteArray.extract, ByteArray.copySlice, List.take_drop, e]
theorem op_slice_str_l {z : Str} {k1 : IntKind} {i : Int} {lo : Operand} {r : Str} (ht : P.underlying t = some .string) (h : drop? z i = some r) (hx : s.ev x = some (.b (.one (.str z)))) (hl : s.ev lo = some (.b (.one (.int k1 i)))) :
  Op1 P E n ⟨dst, .slice t x (some lo) none none, ty, pos, after, g⟩ s (s.put n dst (.b (.one (.str r)))) :=
 Op1.val (o := ⟨dst, .slice t x (some lo) none none, ty, pos, after, g⟩) fun ac w h' ρ hw hs => by
  obtain ⟨h0, h1, rfl⟩ := drop_ok h
  obtain ⟨hv, hln⟩ := ev_str hs hx
  refine ⟨.string ⟨⟨z.drop i.toNat⟩⟩, ?_, rfl, by simp; omega⟩
  simp only [execOp, hv, Option.map_some, Option.map_none, (ev_int hs hl).1]
  rw [Sem.run_bind, run_sliceAt_string w t _ _ _ _ ht, run_slice_string_l (P := P) (w := w) (t := t) (s := ⟨⟨z⟩⟩) ht k1 i h0 (by simpa [mk_size] using h1)]
  show Result.ok _ w = Result.ok _ w
  congr 4
  simp [ByteArray.extract, ByteArray.copySlice, ByteArray.size, List.take_of_length_le]
theorem op_slice_str_h {z : Str} {k1 : IntKind} {i : Int} {hi : Operand} {r : Str} (ht : P.underlying t = some .string) (h : take? z i = some r) (hx : s.ev x = some (.b (.one (.str z)))) (hl : s.ev hi = some (.b (.one (.int k1 i)))) :
  Op1 P E n ⟨dst, .slice t x none (some hi) none, ty, pos, after, g⟩ s (s.put n dst (.b (.one (.str r)))) :=
 Op1.val (o := ⟨dst, .slice t x none (some hi) none, ty, pos, after, g⟩) fun ac w h' ρ hw hs => by
  obtain ⟨h0, h1, rfl⟩ := take_ok h
  obtain ⟨hv, hln⟩ := ev_str hs hx
  refine ⟨.string ⟨⟨z.take i.toNat⟩⟩, ?_, rfl, by simp; omega⟩
  simp only [execOp, hv, Option.map_some, Option.map_none, (ev_int hs hl).1]
  rw [Sem.run_bind, run_sliceAt_string w t _ _ _ _ ht, run_slice_string_h (P := P) (w := w) (t := t) (s := ⟨⟨z⟩⟩) ht k1 i h0 (by simpa [mk_size] using h1)]
  show Result.ok _ w = Result.ok _ w
  congr 4
  simp [ByteArray.extract, ByteArray.copySlice]
theorem WR.newP {h : PH} {ρ : RM} {own : List (Nat × OC)} {w w' : World} (hw : WR E n own h ρ w) (cs : List Value) (hold : ∀ b, b < w.heap.size → w'.heap[b]? = w.heap[b]?) (hsz : w.heap.size ≤ w'.heap.size) (hos : w'.os = w.os) (hout : w'.output = w.output)
  (hnew : ∀ o v, cs[o]? = some v → w'.cell? ⟨w.heap.size, o, none⟩ = some v) (hone : ∀ v ∈ cs, v.oneCell' = true) : h.le (addRow h w.heap.size cs) ∧ WR E n own (addRow h w.heap.size cs) ρ w' := by
 have hnone : ∀ o, h w.heap.size o = none := fun o => by
  cases e : h w.heap.size o with
  | none => rfl
  | some u => have := lt_of_look (hw.agree _ o u e); omega
 have hle : h.le (addRow h w.heap.size cs) := fun b o v hv => by
  unfold addRow
  split
  ·rename_i e; subst e; rw [hnone o] at hv; simp at hv
  ·exact hv
 refine ⟨hle, ?_, PH.le_trans hw.le hle, ?_, by have := hw.size; omega, ?_, hw.fixed, hos.trans hw.os, hout.trans hw.out, hw.nl, ?_⟩
 ·intro b o v hv
  unfold addRow at hv
  split at hv
  ·rename_i e; subst e
   exact look_of_cell (hnew o v hv) (hone v (List.mem_of_getElem? hv))
  ·have hc := hw.agree b o v hv
   rw [look_congr (hold b (lt_of_look hc))]; exact hc
 ·intro b hb hnl
  rw [← hw.fresh b hb hnl]
  funext o
  unfold addRow
  rw [if_neg (by have := hw.size; omega)]
 ·intro b hb hl
  rw [hold b (Nat.lt_of_lt_of_le hb hw.size)]; exact hw.same b hb hl
 ·intro j c hj
  obtain ⟨e1, e2, e3⟩ := hw.owned j c hj
  have hft : ∀ i x, (i, x) ∈ own → ∀ b, x.foot (ρ i) _ b → x.foot (ρ i) w b := fun i x hi b => OC.foot.congr fun b hb => hold b ((hw.owned i x hi).1.lt (.inl hb))
  refine ⟨(e1.congr fun b hb => hold b (e1.lt hb)).mono hle, fun b hb => ⟨(e2 b (hft j c hj b hb)).1, fun o => ?_⟩, fun i x hi hij b hb hb' => e3 i x hi hij b (hft j c hj b hb) (hft i x hi b hb')⟩
  have := e1.lt (hft j c hj b hb)
  unfold addRow
  rw [if_neg (by omega)]
  exact (e2 b (hft j c hj b hb)).2 o
theorem flat_eK : ∀ (l : List Int), (l.map (eK k)).flatten = l.map (CP.int k)
 | [] => rfl
 | a :: l => by simp only [List.map_cons, List.flatten_cons, flat_eK l, eK]; rfl
theorem op_conv_str {src d e : TypeId} {z : Str} (hs : P.underlying src = some .string) (hd : P.underlying d = some (.slice e)) (he : P.underlying e = some (.int .u8)) (hx : s.ev x = some (.b (.one (.str z)))) :
  Op1 P E n ⟨dst, .convert src d x, ty, pos, after, g⟩ s (s.put n dst (.b (.one (.sl 1 ((ofStr z).map (eK .u8)))))) := by
 intro a w ⟨hdf, hn, h, ρ, hw, hsl⟩ next Q hnext
 obtain ⟨hv, hl⟩ := ev_str hsl hx
 have hrun' : (execOp a.eval ⟨dst, .convert src d x, ty, pos, after, g⟩).run P w = .ok (.value (.slice (some ⟨w.heap.size, 0, none⟩) z.length (grownCap w z.length 0 e))) (Lib.bytesWorld w e ⟨⟨z⟩⟩) := by
  simp only [execOp, hv]
  rw [Sem.run_bind, Lib.run_convert_string_bytes w src d e ⟨⟨z⟩⟩ hs hd he]
  rfl
 unfold Oper.wp
 rw [hrun']
 obtain ⟨hle, hwp⟩ := hw.newP (w' := Lib.bytesWorld w e ⟨⟨z⟩⟩) (z.map fun c => Value.int .u8 c.toNat) (fun b hb => Lib.bytesWorld_at_old w e _ b hb) (by rw [Lib.bytesWorld_size]; omega) (by simp [Lib.bytesWorld, World.freeze, World.alloc, World.drew, -World.alloc_eq, -World.drew_eq]) (by simp [Lib.bytesWorld, World.freeze, World.alloc, World.drew, -World.alloc_eq, -World.drew_eq])
  (fun o v hv => by
   rw [List.getElem?_map] at hv
   simp only [Option.map_eq_some_iff] at hv
   obtain ⟨c, hc, rfl⟩ := hv
   have hlt := (List.getElem?_eq_some_iff.1 hc).1
   rw [Lib.bytesWorld_cell w e ⟨⟨z⟩⟩ o hlt]
   simp [List.getD, hc]) (fun v hv => by obtain ⟨c, _, rfl⟩ := List.mem_map.1 hv; rfl)
 refine hnext _ _ (R.put (s := s) hdf hn hwp (hsl.mono hle) ?_)
 have hlen : ((ofStr z).map (eK .u8)).length = z.length := by simp [ofStr]
 refine ⟨fun ps hps => ?_, by decide, .inr (.inl ⟨w.heap.size, 0, grownCap w z.length 0 e, by rw [hlen], by rw [hlen]; exact grownCap_ge w _ _ _, grownCap_le_maxLen w _ _ _ hl, fun j c hc => ?_⟩)⟩
 ·obtain ⟨q, _, rfl⟩ := List.mem_map.1 hps; rfl
 ·rw [flat_eK] at hc
  simp only [ofStr, List.map_map, List.getElem?_map, Option.map_eq_some_iff] at hc
  obtain ⟨b, hb, rfl⟩ := hc
  refine ⟨.int .u8 b.toNat, by simp [addRow, hb], rfl, ?_⟩
  have := b.toNat_lt
  simp [inR, IntKind.min, IntKind.max, IntKind.signed, IntKind.bits]
  omega
end
theorem spliceE_lenA {l l2 : List Int} {N lo lo2 m : Nat} (h : l.length = N) (h1 : lo + m ≤ N) (h2 : lo2 + m ≤ l2.length) : (spliceE l lo ((l2.drop lo2).take m)).length = N := by
 simp only [spliceE, List.length_append, List.length_take, List.length_drop]
 omega
end Go.Sk

namespace Go.Sk
set_option linter.unusedSimpArgs false
set_option linter.unusedVariables false
open Go Go.BigFrame
section
variable {P : Program} {TB : Tabs} {E : Env TB} {n : Sh} {s s' s2 : St} {l : List Oper} {L : List Oper} {Q : Post} {o : Oper}
def depB (L : List Oper) (i j : Nat) : Bool := match L[i]? with
 | some o => o.after.toList.any fun e => Region.binds .any e && e.on == j
 | none => false
theorem depB_spec {L : List Oper} {i j : Nat} (h : depB L i j = true) : ∃ o, L[i]? = some o ∧ ∃ e, e ∈ o.after ∧ Region.binds .any e = true ∧ e.on = j := by
 unfold depB at h
 split at h
 ·next o ho =>
  simp only [List.any_eq_true, Bool.and_eq_true, beq_iff_eq] at h
  obtain ⟨e, he, h1, h2⟩ := h
  exact ⟨o, ho, e, by simpa using he, h1, h2⟩
 ·simp at h
theorem filter_set_len : ∀ (L : List Bool) (i : Nat) (hi : i < L.length), L[i] = false → ((L.set i true).filter id).length = (L.filter id).length + 1
 | [], i, hi, _ => by simp at hi
 | b :: L, 0, hi, hb => by simp at hb; subst hb; simp
 | b :: L, i + 1, hi, hb => by
  have := filter_set_len L i (by simpa using hi) (by simpa using hb)
  cases b <;> simp [this]
def Closed (L : List Oper) (listed : Array Bool) : Prop := ∀ (i : Nat) (o : Oper), L[i]? = some o → listed.getD i false = true → ∀ e ∈ o.after, Region.binds .any e = true → listed.getD e.on false = true
theorem anyG (Inv : Array Bool → Act → World → Prop) (hed : edgesOk 0 L = true)
  (hstep : ∀ (listed : Array Bool) a w (i : Nat) (o : Oper), listed.size = L.length → Closed L listed → L[i]? = some o → listed.getD i false = false → (∀ e ∈ o.after, Region.binds .any e = true → listed.getD e.on false = true) → Inv listed a w →
   ∀ K : Act → World → Prop, (∀ a' w', Inv (listed.setIfInBounds i true) a' w' → K a' w') → if Region.wanted o (yielded L.toArray a.tmps) then o.wp P a w K Q else K (a.put o.dst undef) w)
  (hend : ∀ (listed : Array Bool) a w, listed.size = L.length → (∀ j, j < L.length → listed.getD j false = true) → Inv listed a w → Q .normal a w) :
  ∀ (fuel : Nat) (listed : Array Bool) (a : Act) (w : World), listed.size = L.length → Closed L listed → L.length ≤ fuel + (listed.toList.filter id).length → Inv listed a w → wpAny P .any L.toArray Q fuel listed a w := by
 have hready : ∀ (listed : Array Bool), listed.size = L.length → Region.ready .any L.toArray listed = [] → ∀ j, j < L.length → listed.getD j false = true := by
  intro listed hsz hr j hj
  induction j using Nat.strongRecOn with
  | _ j ih =>
   cases hb : listed.getD j false with
   | true => rfl
   | false =>
    exfalso
    have hjr : j ∈ Region.ready .any L.toArray listed := by
     rw [mem_ready]
     refine ⟨?_, L[j], by simp [hj], fun e he hbd => ?_⟩
     ·have : j < listed.size := by omega
      simp only [Array.getD_eq_getD_getElem?, Array.getElem?_eq_getElem this, Option.getD_some] at hb ⊢
      exact hb
     ·have := edgesOk_spec hed j L[j] (by simp) e he hbd
      exact ih e.on (by omega) (by omega)
    rw [hr] at hjr
    simp at hjr
 intro fuel
 induction fuel with
 | zero =>
  intro listed a w hsz hcl hf hR
  have hall : ∀ j, j < L.length → listed.getD j false = true := by
   intro j hj
   have hfl : (listed.toList.filter id).length = listed.toList.length := by
    have := List.length_filter_le id listed.toList
    simp at this ⊢; omega
   have hall2 := List.filter_eq_self.1 (List.filter_sublist.eq_of_length hfl)
   have hjs : j < listed.size := by omega
   have := hall2 listed[j] (by simp)
   simp only [Array.getD_eq_getD_getElem?, Array.getElem?_eq_getElem hjs, Option.getD_some]
   simpa using this
  have hr : Region.ready .any L.toArray listed = [] := by
   apply List.eq_nil_iff_forall_not_mem.2
   intro j hj
   rw [mem_ready] at hj
   obtain ⟨hj1, o, ho, _⟩ := hj
   have hjl : j < L.length := by simpa using (Array.getElem?_eq_some_iff.1 ho).1
   have hjs : j < listed.size := by omega
   have := hall j hjl
   simp only [Array.getD_eq_getD_getElem?, Array.getElem?_eq_getElem hjs, Option.getD_some] at this hj1
   rw [this] at hj1; simp at hj1
  exact ⟨hr, hend listed a w hsz hall hR⟩
 | succ fuel ih =>
  intro listed a w hsz hcl hf hR
  refine ⟨fun hr => hend listed a w hsz (hready listed hsz hr) hR, fun i hi => ?_⟩
  rw [mem_ready] at hi
  obtain ⟨hi1, o, ho, hdeps⟩ := hi
  have hol : L[i]? = some o := by simpa using ho
  have hil : i < L.length := (List.getElem?_eq_some_iff.1 hol).1
  have his : i < listed.size := by omega
  have hi1' : listed[i] = false := by simpa [Array.getD_eq_getD_getElem?, Array.getElem?_eq_getElem his] using hi1
  have hi2 : listed.getD i false = false := by simp [Array.getD_eq_getD_getElem?, Array.getElem?_eq_getElem his, hi1']
  have key := hstep listed a w i o hsz hcl hol hi2 hdeps hR (wpAny P .any L.toArray Q fuel (listed.setIfInBounds i true)) (fun a' w' hR' => by
   have hset : ∀ q, listed.getD q false = true → (listed.setIfInBounds i true).getD q false = true := fun q hq => by
    by_cases e : q = i
    ·subst e; simp [Array.getD_eq_getD_getElem?, his]
    ·rw [getD_set_ne false (fun h => e h.symm)]; exact hq
   refine ih _ a' w' (by simpa using hsz) ?_ ?_ hR'
   ·intro j p hj hlj e he hb
    by_cases e' : j = i
    ·subst e'
     rw [hol] at hj; cases hj
     exact hset _ (hdeps e he hb)
    ·rw [getD_set_ne false (fun h => e' h.symm)] at hlj
     exact hset _ (hcl j p hj hlj e he hb)
   ·have := filter_set_len listed.toList i (by simpa using his) (by simpa using hi1')
    rw [Array.toList_setIfInBounds]
    omega)
  unfold wpOp
  rw [ho]
  dsimp only
  split
  ·rename_i hw'
   simp only [hw', if_true] at key
   exact .inl key
  ·rename_i hw'
   simp only [hw'] at key
   exact key
def baseFor (l : List Oper) (j : Nat) (sl : List (Nat × SV)) : List (Nat × SV) := sl.filter fun p => (List.range l.length).all fun i => ((l[i]?).bind (·.dst)) != some p.1 || i == j || depB l i j
def hit (l : List Oper) (listed : Array Bool) (d : Nat) : Bool := (List.range l.length).any fun i => listed.getD i false && ((l[i]?).bind (·.dst)) == some d
def stE (s : St) (l : List Oper) (Fs : List SV) (listed : Array Bool) : St := ⟨(s.slots.filter fun p => !hit l listed p.1) ++ factsFrom (fun i => listed.getD i false) 0 l Fs, s.own⟩
def StepsE (P : Program) {TB : Tabs} (E : Env TB) (n : Sh) (ops : Array Oper) (s : St) (l : List Oper) (Fs : List SV) : Nat → List Oper → List SV → Prop
 | _, [], [] => True
 | j, o :: r, x :: xs => (∀ extra, Step1 P E n ops o ⟨depFacts l Fs o.after.toList ++ (baseFor l j s.slots ++ extra), s.own⟩ (St.put n o.dst x ⟨depFacts l Fs o.after.toList ++ (baseFor l j s.slots ++ extra), s.own⟩)) ∧ StepsE P E n ops s l Fs (j + 1) r xs
 | _, _, _ => False
theorem stepsE_get {ops : Array Oper} {Fs : List SV} {l0 : List Oper} : ∀ {r : List Oper} {xs : List SV} {j : Nat}, StepsE P E n ops s l0 Fs j r xs → r.length = xs.length ∧ ∀ (i : Nat) (o : Oper), r[i]? = some o → ∃ x, xs[i]? = some x ∧ ∀ extra, Step1 P E n ops o ⟨depFacts l0 Fs o.after.toList ++ (baseFor l0 (j + i) s.slots ++ extra), s.own⟩ (St.put n o.dst x ⟨depFacts l0 Fs o.after.toList ++ (baseFor l0 (j + i) s.slots ++ extra), s.own⟩)
 | [], [], j, _ => ⟨rfl, fun i o h => by simp at h⟩
 | o :: r, x :: xs, j, h => by
  obtain ⟨h1, h2⟩ := h
  obtain ⟨h3, h4⟩ := stepsE_get h2
  refine ⟨by simp [h3], fun i o' ho => ?_⟩
  cases i with
  | zero => simp at ho; subst ho; exact ⟨x, by simp, h1⟩
  | succ i =>
   obtain ⟨y, hy, hz⟩ := h4 i o' (by simpa using ho)
   exact ⟨y, by simpa using hy, by rw [← Nat.add_assoc, Nat.add_right_comm]; exact hz⟩
 | [], _ :: _, j, h => h.elim
 | _ :: _, [], j, h => h.elim
def TailX (P : Program) {TB : Tabs} (E : Env TB) (n : Sh) (ops : Array Oper) : List Oper → St → St → Prop
 | [], s, s' => s = s'
 | o :: r, s, s' => ∃ s1, Step1 P E n ops o s s1 ∧ TailX P E n ops r s1 s'
def coverB (L : List Oper) (q : Nat) : Bool := (List.range q).all fun j => depB L q j || (List.range q).any fun i => decide (j < i) && depB L i j
def okX (l tl : List Oper) (m : Nat) : Bool := edgesOk 0 (l ++ tl) && nodupB (dsts l) && (dsts l).all (· < m) && (List.range tl.length).all fun k => coverB (l ++ tl) (l.length + k)
theorem covered {listed : Array Bool} {q : Nat} {o : Oper} (hcl : Closed L listed) (hq : L[q]? = some o) (hd : ∀ e ∈ o.after, Region.binds .any e = true → listed.getD e.on false = true) (hc : coverB L q = true) : ∀ j, j < q → listed.getD j false = true := by
 simp only [coverB, List.all_eq_true, List.mem_range, Bool.or_eq_true, List.any_eq_true, Bool.and_eq_true, decide_eq_true_eq] at hc
 have key : ∀ m j, q - j = m → j < q → listed.getD j false = true := by
  intro m
  induction m using Nat.strongRecOn with
  | _ m ihm =>
   intro j hm hj
   rcases hc j hj with h | ⟨i, hi, hji, hp⟩
   ·obtain ⟨o', ho', e, he, hb, hon⟩ := depB_spec h
    rw [hq] at ho'; cases ho'
    have := hd e he hb
    rwa [hon] at this
   ·obtain ⟨o', ho', e, he, hb, hon⟩ := depB_spec hp
    have h1 := ihm (q - i) (by omega) i rfl hi
    have := hcl i o' ho' h1 e he hb
    rwa [hon] at this
 exact fun j hj => key _ j rfl hj
def InvX (P : Program) {TB : Tabs} (E : Env TB) (n : Sh) (ops : Array Oper) (s : St) (l tl : List Oper) (Fs : List SV) (s2 : St) (listed : Array Bool) (a : Act) (w : World) : Prop :=
 ((∀ j, l.length ≤ j → listed.getD j false = false) ∧ R E n (stE s l Fs listed) a w) ∨
 ∃ k sk, k < tl.length ∧ (∀ j, j ≤ l.length + k → listed.getD j false = true) ∧ (∀ j, l.length + k < j → listed.getD j false = false) ∧ TailX P E n ops (tl.drop (k + 1)) sk s2 ∧ R E n sk a w
theorem RegA.X {ops : List Oper} (l tl : List Oper) (hops : l ++ tl = ops) (Fs : List SV) (ks kos : List Nat) (hok : okX l tl n.n = true) (hst : StepsE P E n ops.toArray s l Fs 0 l Fs)
  (htl : TailX P E n ops.toArray tl ⟨(s.slots.filter fun p => !(dsts l).contains p.1) ++ factsFrom (fun _ => true) 0 l Fs, s.own⟩ s2) (hs : s2.keep ks kos = s') (h : Fin E n .normal s' Q) : RegA P E n ops.toArray s Q := by
 subst hops
 simp only [okX, Bool.and_eq_true, List.all_eq_true, List.mem_range] at hok
 obtain ⟨⟨⟨hedges, hnd⟩, hlt⟩, hcov⟩ := hok
 obtain ⟨hlen, hsteps⟩ := stepsE_get (Fs := Fs) hst
 intro a w hr
 have hgetl : ∀ {i : Nat} {o : Oper}, (l ++ tl)[i]? = some o → i < l.length → l[i]? = some o := fun h hi => by rwa [List.getElem?_append_left hi] at h
 have hS0 : ∀ {listed : Array Bool} {a : Act} {w : World}, (∀ j, j < l.length → listed.getD j false = true) → R E n (stE s l Fs listed) a w → R E n ⟨(s.slots.filter fun p => !(dsts l).contains p.1) ++ factsFrom (fun _ => true) 0 l Fs, s.own⟩ a w := by
  intro listed a w hall hR
  obtain ⟨h1, h2, h, ρ, hw, hs⟩ := hR
  refine ⟨h1, h2, h, ρ, hw, fun k x hx => hs k x ?_⟩
  simp only [stE, List.mem_append] at hx ⊢
  rcases hx with hx | hx
  ·left
   simp only [List.mem_filter, Bool.not_eq_true', List.contains_eq_mem, decide_eq_false_iff_not] at hx ⊢
   refine ⟨hx.1, ?_⟩
   cases hh : hit l listed k with
   | false => rfl
   | true =>
    exfalso
    simp only [hit, List.any_eq_true, List.mem_range, Bool.and_eq_true, beq_iff_eq, Option.bind_eq_some_iff] at hh
    obtain ⟨i, hi, _, o', ho', hd'⟩ := hh
    exact hx.2 (mem_dsts ho' hd')
  ·right
   rw [mem_factsFrom] at hx ⊢
   obtain ⟨j, oj, hj, hd, hF, _⟩ := hx
   exact ⟨j, oj, hj, hd, hF, by rw [Nat.zero_add]; exact hall j (List.getElem?_eq_some_iff.1 hj).1⟩
 refine anyG (L := l ++ tl) (InvX P E n (l ++ tl).toArray s l tl Fs s2) hedges ?_ ?_ _ _ _ _ (by simp) ?_ (by simp) (.inl ⟨fun j hj => ?_, ?_⟩)
 ·
  intro listed a w i o hsz hcl hio hil hdeps hInv K hK
  have hin : i < (l ++ tl).length := (List.getElem?_eq_some_iff.1 hio).1
  have his : i < listed.size := by omega
  have hset : ∀ q, listed.getD q false = true → (listed.setIfInBounds i true).getD q false = true := fun q hq => by
   by_cases e : q = i
   ·subst e; simp [Array.getD_eq_getD_getElem?, his]
   ·rw [getD_set_ne false (fun h => e h.symm)]; exact hq
  have hseti : (listed.setIfInBounds i true).getD i false = true := by simp [Array.getD_eq_getD_getElem?, his]
  by_cases hi : i < l.length
  ·
   have hInv' : (∀ j, l.length ≤ j → listed.getD j false = false) ∧ R E n (stE s l Fs listed) a w := by
    rcases hInv with h | ⟨k, sk, hk, hyes, _⟩
    ·exact h
    ·have := hyes i (by omega); rw [hil] at this; simp at this
   obtain ⟨hno, hR⟩ := hInv'
   have hol := hgetl hio hi
   obtain ⟨x, hx, hstep⟩ := hsteps i o hol
   rw [Nat.zero_add] at hstep
   have hnohit : ∀ p, p ∈ baseFor l i s.slots → p ∈ s.slots ∧ hit l listed p.1 = false := by
    intro p hp
    simp only [baseFor, List.mem_filter, List.all_eq_true, List.mem_range, Bool.or_eq_true, bne_iff_ne, beq_iff_eq] at hp
    refine ⟨hp.1, ?_⟩
    cases hh : hit l listed p.1 with
    | false => rfl
    | true =>
     exfalso
     simp only [hit, List.any_eq_true, List.mem_range, Bool.and_eq_true, beq_iff_eq] at hh
     obtain ⟨q, hq, hlq, hdq⟩ := hh
     rcases hp.2 q hq with (h | h) | h
     ·exact h hdq
     ·subst h; rw [hil] at hlq; simp at hlq
     ·obtain ⟨o', ho', e, he, hb, hon⟩ := depB_spec h
      have := hcl q o' (by rw [List.getElem?_append_left hq]; exact ho') hlq e he hb
      rw [hon, hil] at this; simp at this
   have hR2 : R E n ⟨depFacts l Fs o.after.toList ++ (baseFor l i s.slots ++ ((s.slots.filter fun p => !hit l listed p.1) ++ factsFrom (fun i => listed.getD i false) 0 l Fs)), s.own⟩ a w := by
    obtain ⟨h1, h2, h, ρ, hw, hs⟩ := hR
    refine ⟨h1, h2, h, ρ, hw, fun k y hy => hs k y ?_⟩
    rcases List.mem_append.1 hy with hy | hy
    ·obtain ⟨e, he, hb, o', ho', hd', hF'⟩ := mem_depFacts hy
     refine List.mem_append.2 (.inr ?_)
     rw [mem_factsFrom]
     exact ⟨e.on, o', ho', hd', hF', by rw [Nat.zero_add]; exact hdeps e (by simpa using he) hb⟩
    ·rcases List.mem_append.1 hy with hy | hy
     ·obtain ⟨h1, h2⟩ := hnohit _ hy
      exact List.mem_append.2 (.inl (List.mem_filter.2 ⟨h1, by simp [h2]⟩))
     ·exact hy
   refine hstep _ a w hR2 K Q (fun a' w' hR' => hK a' w' (.inl ⟨fun j hj => ?_, ?_⟩))
   ·rw [getD_set_ne false (by omega)]; exact hno j hj
   ·obtain ⟨h1, h2, h, ρ, hw, hs⟩ := hR'
    have hown : ∀ sl, (St.put n o.dst x ⟨sl, s.own⟩).own = s.own := fun sl => by
     cases hd : o.dst with
     | none => rfl
     | some d => simp only [St.put, St.set]; split <;> rfl
    rw [hown] at hw
    refine ⟨h1, h2, h, ρ, hw, fun k y hy => ?_⟩
    have hold : (k, y) ∈ (s.slots.filter fun p => !hit l listed p.1) ++ factsFrom (fun i => listed.getD i false) 0 l Fs → (∀ d, o.dst = some d → k ≠ d) → ∃ v, a'.tmps[k]? = some v ∧ y.rel h ρ v := by
     intro hm hkd
     refine hs k y ?_
     have hm' : (k, y) ∈ depFacts l Fs o.after.toList ++ (baseFor l i s.slots ++ ((s.slots.filter fun p => !hit l listed p.1) ++ factsFrom (fun i => listed.getD i false) 0 l Fs)) := List.mem_append.2 (.inr (List.mem_append.2 (.inr hm)))
     cases hd : o.dst with
     | none => simp only [St.put]; exact hm'
     | some d =>
      simp only [St.put, St.set]
      split
      ·exact List.mem_cons_of_mem _ (del_of_mem hm' (hkd d hd))
      ·exact hm'
    simp only [stE] at hy
    rcases List.mem_append.1 hy with hy | hy
    ·obtain ⟨hy1, hy2⟩ := List.mem_filter.1 hy
     have hy2' : hit l (listed.setIfInBounds i true) k = false := by simpa using hy2
     refine hold (List.mem_append.2 (.inl (List.mem_filter.2 ⟨hy1, ?_⟩))) (fun d hd e => ?_)
     ·cases hh : hit l listed k with
      | false => rfl
      | true =>
       exfalso
       simp only [hit, List.any_eq_true, List.mem_range, Bool.and_eq_true, beq_iff_eq] at hh
       obtain ⟨q, hq, hlq, hdq⟩ := hh
       have : hit l (listed.setIfInBounds i true) k = true := by
        simp only [hit, List.any_eq_true, List.mem_range, Bool.and_eq_true, beq_iff_eq]
        exact ⟨q, hq, hset q hlq, hdq⟩
       rw [hy2'] at this; simp at this
     ·subst e
      have : hit l (listed.setIfInBounds i true) k = true := by
       simp only [hit, List.any_eq_true, List.mem_range, Bool.and_eq_true, beq_iff_eq]
       exact ⟨i, hi, hseti, by rw [hol]; exact hd⟩
      rw [hy2'] at this; simp at this
    ·rw [mem_factsFrom] at hy
     obtain ⟨j, oj, hj, hd', hF', hl'⟩ := hy
     rw [Nat.zero_add] at hl'
     by_cases hji : j = i
     ·subst hji
      rw [hol] at hj; cases hj
      rw [hx] at hF'; cases hF'
      refine hs k y ?_
      have hk : k < n.n := by
       have := hlt k (mem_dsts hol hd')
       simpa using this
      simp only [hd', St.put, St.set, hk, if_true]
      exact List.mem_cons_self
     ·have hl2 : listed.getD j false = true := by
       rw [getD_set_ne false (fun e => hji e.symm)] at hl'
       exact hl'
      refine hold (List.mem_append.2 (.inr ?_)) (fun d hd e => ?_)
      ·rw [mem_factsFrom]
       exact ⟨j, oj, hj, hd', hF', by rw [Nat.zero_add]; exact hl2⟩
      ·subst e
       exact hji (dsts_inj hnd hj hol hd' hd)
  ·
   have hit' : i - l.length < tl.length := by simp only [List.length_append] at hin; omega
   have hcv := covered hcl hio hdeps (by have := hcov (i - l.length) hit'; rwa [show l.length + (i - l.length) = i by omega] at this)
   have hoi : tl[i - l.length]? = some o := by rwa [List.getElem?_append_right (by omega)] at hio
   rcases hInv with ⟨hno, hR⟩ | ⟨k, sk, hk, hyes, hno, hT, hR⟩
   ·have ei : i = l.length := by
     rcases Nat.lt_or_ge l.length i with h | h
     ·have := hcv l.length h; rw [hno _ (Nat.le_refl _)] at this; simp at this
     ·omega
    have hR0 := hS0 (fun j hj => hcv j (by omega)) hR
    rw [show i - l.length = 0 by omega] at hoi
    have h0 : 0 < tl.length := by omega
    have hdr : tl.drop 0 = o :: tl.drop (0 + 1) := by
     rw [List.drop_eq_getElem_cons h0]
     congr 1
     rw [List.getElem?_eq_getElem h0] at hoi
     simpa using hoi
    have hT : TailX P E n (l ++ tl).toArray (tl.drop 0) ⟨(s.slots.filter fun p => !(dsts l).contains p.1) ++ factsFrom (fun _ => true) 0 l Fs, s.own⟩ s2 := by rw [List.drop_zero]; exact htl
    rw [hdr] at hT
    obtain ⟨s1, hs1, hr1⟩ := hT
    refine hs1 a w hR0 K Q (fun a' w' hR' => hK a' w' (.inr ⟨0, s1, h0, fun j hj => ?_, fun j hj => ?_, hr1, hR'⟩))
    ·by_cases e : j = i
     ·subst e; exact hseti
     ·exact hset j (hcv j (by omega))
    ·rw [getD_set_ne false (by omega)]; exact hno j (by omega)
   ·have ei : i = l.length + (k + 1) := by
     rcases Nat.lt_or_ge (l.length + (k + 1)) i with h | h
     ·have := hcv _ h; rw [hno _ (by omega)] at this; simp at this
     ·rcases Nat.lt_or_ge i (l.length + (k + 1)) with h' | h'
      ·have := hyes i (by omega); rw [hil] at this; simp at this
      ·omega
    rw [show i - l.length = k + 1 by omega] at hoi
    have hdr : tl.drop (k + 1) = o :: tl.drop (k + 1 + 1) := by
     have hlt2 : k + 1 < tl.length := by omega
     rw [List.drop_eq_getElem_cons hlt2]
     congr 1
     rw [List.getElem?_eq_getElem hlt2] at hoi
     simpa using hoi
    rw [hdr] at hT
    obtain ⟨s1, hs1, hr1⟩ := hT
    refine hs1 a w hR K Q (fun a' w' hR' => hK a' w' (.inr ⟨k + 1, s1, by omega, fun j hj => ?_, fun j hj => ?_, hr1, hR'⟩))
    ·by_cases e : j = i
     ·subst e; exact hseti
     ·exact hset j (hyes j (by omega))
    ·rw [getD_set_ne false (by omega)]; exact hno j (by omega)
 ·
  intro listed a w hsz hall hInv
  rcases hInv with ⟨hno, hR⟩ | ⟨k, sk, hk, hyes, hno, hT, hR⟩
  ·have e : tl = [] := by
    cases htl' : tl with
    | nil => rfl
    | cons o0 r =>
     have := hall l.length (by rw [htl']; simp)
     rw [hno _ (Nat.le_refl _)] at this; simp at this
   subst e
   have hR0 := hS0 (fun j hj => hall j (by simpa using hj)) hR
   have e2 : _ = s2 := htl
   rw [e2] at hR0
   exact h a w (hs ▸ hR0.keep ks kos)
  ·have e : k + 1 = tl.length := by
    rcases Nat.lt_or_ge (k + 1) tl.length with h' | h'
    ·have := hall (l.length + (k + 1)) (by simp only [List.length_append]; omega)
     rw [hno _ (by omega)] at this; simp at this
    ·omega
   rw [e, List.drop_length] at hT
   have e2 : sk = s2 := hT
   subst e2
   exact h a w (hs ▸ hR.keep ks kos)
 ·intro i p hi hl
  exfalso
  simp only [Array.getD_eq_getD_getElem?, Array.getElem?_replicate] at hl
  split at hl <;> simp at hl
 ·simp only [Array.getD_eq_getD_getElem?, Array.getElem?_replicate]
  split <;> simp
 ·obtain ⟨h1, h2, h, ρ, hw, hsl⟩ := hr.drawn
  refine ⟨h1, h2, h, ρ, hw, fun k x hx => hsl k x ?_⟩
  simp only [stE] at hx
  rcases List.mem_append.1 hx with hx | hx
  ·exact (List.mem_filter.1 hx).1
  ·rw [mem_factsFrom] at hx
   obtain ⟨j, o, hj, _, _, hl⟩ := hx
   simp only [Nat.zero_add, Array.getD_eq_getD_getElem?, Array.getElem?_replicate] at hl
   split at hl <;> simp at hl
theorem Tri.regionXF {rid : Nat} {ops : List Oper} (hm : P.follows .mixedOrders = true) (l tl : List Oper) (hops : l ++ tl = ops) (Fs : List SV) (ks kos : List Nat) (hok : okX l tl n.n = true) (hst : StepsE P E n ops.toArray s l Fs 0 l Fs)
  (htl : TailX P E n ops.toArray tl ⟨(s.slots.filter fun p => !(dsts l).contains p.1) ++ factsFrom (fun _ => true) 0 l Fs, s.own⟩ s2) (hs : s2.keep ks kos = s') (h : Fin E n .normal s' Q) : Tri P E n (.region rid ops.toArray true) s Q := Tri.ofA hm (RegA.X l tl hops Fs ks kos hok hst htl hs h)
theorem Tri.regionYF {rid : Nat} {ops : List Oper} (hm : P.follows .mixedOrders = true) (m : Nat) (Fs : List SV) (ks kos : List Nat) (hok : okX (ops.take m) (ops.drop m) n.n = true) (hst : StepsE P E n ops.toArray s (ops.take m) Fs 0 (ops.take m) Fs)
  (htl : TailX P E n ops.toArray (ops.drop m) ⟨(s.slots.filter fun p => !(dsts (ops.take m)).contains p.1) ++ factsFrom (fun _ => true) 0 (ops.take m) Fs, s.own⟩ s2) (hs : s2.keep ks kos = s') (h : Fin E n .normal s' Q) : Tri P E n (.region rid ops.toArray true) s Q :=
 Tri.regionXF hm _ _ (List.take_append_drop m ops) Fs ks kos hok hst htl hs h
theorem Tri.regionY {rid : Nat} {ops : List Oper} {y : Code} (hm : P.follows .mixedOrders = true) (m : Nat) (Fs : List SV) (ks kos : List Nat) (hok : okX (ops.take m) (ops.drop m) n.n = true) (hst : StepsE P E n ops.toArray s (ops.take m) Fs 0 (ops.take m) Fs)
  (htl : TailX P E n ops.toArray (ops.drop m) ⟨(s.slots.filter fun p => !(dsts (ops.take m)).contains p.1) ++ factsFrom (fun _ => true) 0 (ops.take m) Fs, s.own⟩ s2) (hs : s2.keep ks kos = s') (h : Tri P E n y s' Q) : Tri P E n (.region rid ops.toArray true) s (Exit.then (y.wp P Q) Q) :=
 Tri.regionYF hm m Fs ks kos hok hst htl hs (Fin.then h)
end
end Go.Sk

namespace Go.Sk
set_option linter.unusedSimpArgs false
set_option linter.unusedVariables false
open Go Go.BigFrame Go.RowKit
section
variable {P : Program} {TB : Tabs} {E : Env TB} {n : Sh} {s s' s0 s2 : St} {dst : Option Nat} {t ty yt : TypeId} {pos : String} {after : Array Edge} {g : Option (Nat × Bool)} {x y c : Operand} {ops : Array Oper} {o : Oper}
theorem Step1.nilrow (i k size : Nat) (T : TypeId) (hi : s.get i = some (.b (.one .nil))) (hz : 0 < size) (hfx : n.fix.contains k = false) (h : Step1 P E n ops o ⟨(i, .b (.row k)) :: del i (dropU k s.slots), ins k (.row T size []) s.own⟩ s2) (hnu : noUse k s.own = true := by rfl) : Step1 P E n ops o s s2 :=
 fun a w hr => h a w (hr.nilrow hi hz hfx hnu)
theorem Step1.persist (k : Nat) {size : Nat} {T : TypeId} {es : List (List CP)} (hk : lk s.own k = some (.row T size es)) (h : Step1 P E n ops o ⟨persS k (.sl size es) s.slots, persO k (.sl size es) (del k s.own)⟩ s2) : Step1 P E n ops o s s2 := fun a w hr => h a w (hr.persist hk)
theorem Step1.toX (k : Nat) {T : TypeId} {ps : List CP} (hk : lk s.own k = some (.box T ps)) (h : Step1 P E n ops o ⟨s.slots, ins k (.xbox T (ps.map .one)) s.own⟩ s2) : Step1 P E n ops o s s2 := fun a w hr => h a w (hr.toX k hk)
theorem Step1.unX (k : Nat) {T : TypeId} {cs : List BV} {ps : List CP} (hk : lk s.own k = some (.xbox T cs)) (ho : ones cs = some ps) (h : Step1 P E n ops o ⟨s.slots, ins k (.box T ps) s.own⟩ s2) : Step1 P E n ops o s s2 := fun a w hr => h a w (hr.unX k hk ho)
theorem Step1.toO (kos : List Nat) {s1 : St} (h : Step1 P E n ops o s s1) (e : (⟨s1.slots, keepL kos s1.own⟩ : St) = s2) : Step1 P E n ops o s s2 := fun a w hr K Q hk => h a w hr K Q fun a' w' hr' => hk a' w' (by
 rw [← e]
 obtain ⟨hd, hn, h, ρ, hw, hs⟩ := hr'
 exact ⟨hd, hn, h, ρ, hw.sub fun _ hp => mem_keepL hp, hs⟩)
end
theorem Meets.lib {P : Program} {TB : Tabs} {f : FuncId} {args : List BV} {res : BV}
  (H : ∀ (w : World) (h : PH) (ρ : RM) (vals : List Value), TabsOk TB h w → Agree h w → All2 (fun (x : BV) v => x.rel h ρ v) args vals → Calls P f vals.toArray w fun e w' => ∃ v, e = .returned v ∧ Below w.heap.size w w' ∧ res.rel h ρ v) : Meets P TB f [] args (Is [] (.b res)) := by
 intro w h ρ vals tb hag hl ha
 refine (H w h ρ vals tb hag ha).mono ?_
 rintro e w' ⟨v, rfl, hb, hr⟩
 refine ⟨v, [], .b res, h, ρ, rfl, ⟨rfl, rfl⟩, ⟨fun b o u hu => ?_, PH.le_refl _, fun _ _ _ => rfl, hb.size, fun b hb' _ => hb.block b hb', fun k hk => by simp [boxKeys] at hk, hb.os, hb.output, fun b hb' => ?_, fun k c hk => by simp at hk⟩, hr⟩
 ·have hc := hag b o u hu
  have hlt : b < w.heap.size := lt_of_look hc
  rw [look_congr (hb.block b hlt)]; exact hc
 ·obtain ⟨k, hk, _⟩ := hb'
  simp [keysOf] at hk
theorem all2_one {r : BV → Value → Prop} {a : BV} {vals : List Value} (h : All2 r [a] vals) : ∃ v, vals = [v] ∧ r a v := by
 cases h with
 | cons h1 h2 => cases h2; exact ⟨_, rfl, h1⟩
theorem all2_two {r : BV → Value → Prop} {a b : BV} {vals : List Value} (h : All2 r [a, b] vals) : ∃ v u, vals = [v, u] ∧ r a v ∧ r b u := by
 cases h with
 | cons h1 h2 =>
  obtain ⟨u, rfl, hu⟩ := all2_one h2
  exact ⟨_, u, rfl, h1, hu⟩
section
variable {P : Program} {TB : Tabs} {E : Env TB} {n : Sh} {s : St} {dst : Option Nat} {t ty yt : TypeId} {pos : String} {after : Array Edge} {g : Option (Nat × Bool)} {x y c : Operand}
end
end Go.Sk

namespace Go.Sk
set_option linter.unusedSimpArgs false
set_option linter.unusedVariables false
open Go Go.ChangeShapes Go.WideShapes Go.ChangeAt Go.RowKit
theorem TyRead.arr {P : Program} {t el : TypeId} {n : Nat} {k : IntKind} {α : Type} {e : α → List CP} (g : List Int → α) (ht : P.underlying t = some (.array n el)) (hel : P.underlying el = some (.int k)) (hce : P.cellsOf el = 1) (hct : P.cellsOf t = n)
  (hl : ∀ a, (e a).length = n) (hg : ∀ l : List Int, l.length = n → e (g l) = l.map (.int k)) : TyRead P t e where
 len a := by rw [hl, hct]
 op {H enc W sp held fuel cs x} _ h := by
  obtain ⟨xs, m, _, _, hcl, hxl, hv⟩ := DataW.trod_array ht h
  rw [hct] at hcl
  rw [hce] at hv
  obtain ⟨l, hll, hp⟩ := forall_choose (p := fun i z => cs[i]? = some (.int k z) ∧ inR k z) n fun i hi => by
   have h1 := hv i hi
   rw [List.getElem?_eq_getElem (by omega)] at h1
   obtain ⟨z, hz, _, hw⟩ := DataW.trod_int hel h1
   have h0 : ((cs.drop (i * 1)).take 1)[0]? = some (.int k z) := by rw [hz]; rfl
   rw [List.getElem?_take, List.getElem?_drop] at h0
   simp at h0
   exact ⟨z, h0, inR_of_wf hw⟩
  refine ⟨g l, ?_⟩
  rw [hg l hll]
  refine All2.of_get (by simp; omega) fun i a b ha hb => ?_
  rw [List.getElem?_map] at ha
  simp only [Option.map_eq_some_iff] at ha
  obtain ⟨z, hz, rfl⟩ := ha
  obtain ⟨h1, h2⟩ := hp i z hz
  rw [hb] at h1
  exact ⟨Option.some.inj h1, h2⟩
theorem TabsOk.nil {h : PH} {w : World} : TabsOk [] h w := fun g cs hm => by cases hm
theorem TabsOk.cons {P : Program} {TB : Tabs} {W : World} {name : String} {k : IntKind} {zs : List Int} {g : Nat} (hg : P.globalNamed name = some g) (h : Lib.TabIs P W name k zs) (h0 : 0 < zs.length) (r : TabsOk TB (Go.Sk.full W) W) : TabsOk ((g, zs.map fun z => Value.int k z) :: TB) (Go.Sk.full W) W := fun g' cs hm => by
 rcases List.mem_cons.1 hm with e | hm
 ·obtain ⟨rfl, rfl⟩ := Prod.mk.inj e
  unfold Lib.TabIs World.var? at h
  rw [hg] at h
  simp only [Option.bind_some] at h
  split at h
  ·next cs T fz hh =>
   have := Option.some.inj h
   subst this
   refine ⟨by simpa using h0, fun o v hv => ?_, T, fz, hh⟩
   show look W g' o = some v
   refine look_of_cell ?_ (by
    have hm := List.mem_of_getElem? hv
    obtain ⟨z, _, rfl⟩ := List.mem_map.1 hm
    rfl)
   simp only [World.cell?, hh]
   simpa using hv
  ·simp at h
 ·exact r g' cs hm
theorem laidMet_tail {P : Program} {W : World} {x : String × DataW Unit} {l : List (String × DataW Unit)} (h : laidMet P (x :: l) W) : laidMet P l W := by
 obtain ⟨ps, ⟨g', t', cs, fuel, p, q, _, _, _, _, hr, rfl⟩, hn, hc⟩ := h
 exact ⟨q, hr, (List.nodup_append.1 hn).2.1, fun b off hp => hc b off (List.mem_append_right _ hp)⟩
end Go.Sk

namespace Go.Sk
open Go Go.Proofs
section
variable {P : Program} {TB : Tabs} {E : Env TB} {n : Sh} {ops : Array Oper} {l : List Oper} {s : St} {Q : Post} {c : Code}
def St.only (s' s : St) : St := s.keep (s'.slots.map (·.1)) (s'.own.map (·.1))
theorem OpsL.nilS {y : Code} (s' : St) (hs : s'.only s = s') (h : Tri P E n y s' Q) : OpsL P E n ops [] s (Exit.then (y.wp P Q) Q) := OpsL.nilK _ _ hs h
theorem OpsL.keepS (s' : St) (hs : s'.only s = s') (h : OpsL P E n ops l s' Q) : OpsL P E n ops l s Q := OpsL.keep _ _ hs h
theorem Tri.keepS (s' : St) (hs : s'.only s = s') (h : Tri P E n c s' Q) : Tri P E n c s Q := Tri.keep _ _ hs h
theorem Fin.keepS {e : Exit} (s' : St) (hs : s'.only s = s') (h : Fin E n e s' Q) : Fin E n e s Q := Fin.keep _ _ hs h
end
theorem TabsOk.open1 {P : Program} {W : World} {g : Nat} {t : TypeId} {zero : Array Value} {k : IntKind}
  (h : W.ShapedOpen P) (hg : g < P.globals.size) (h0 : ((begin P (fun _ _ => 0) default).world.heap[g]?).bind Obj.row? = some (zero, t)) (hz : zero.size = 1)
  (hb : P.buildable t = true) (hc : P.cellTypes P.depth t = some [t]) (hu : P.underlying t = some (.int k)) :
  ∃ m, ∀ {TB : Tabs}, TabsOk TB (Go.Sk.full W) W → TabsOk (TB ++ [(g, [.int k m])]) (Go.Sk.full W) W := by
 obtain ⟨m, hm⟩ := cell_of_shapedOpen_int h hg h0 hz hb hc hu
 obtain ⟨cs, hh, hs, _⟩ := h.1 g zero t hg h0
 have h1 : cs.size = 1 := by omega
 have hcell : cs = #[.int k m] := by
  have : cs[0]? = some (.int k m) := by simpa [World.cell?, hh] using hm
  refine Array.ext (by simpa using h1) fun i hi hj => ?_
  have : i = 0 := by omega
  subst this
  simp_all
 refine ⟨m, fun {TB} r g' c' hm' => ?_⟩
 rcases List.mem_append.1 hm' with e | e
 ·exact r g' c' e
 ·rw [List.mem_singleton] at e
  obtain ⟨rfl, rfl⟩ := Prod.mk.inj e
  refine ⟨by simp, fun o v hv => ?_, t, _, by rw [hh, hcell]⟩
  have : o = 0 ∧ v = .int k m := by
   cases o with
   | zero => simp at hv; exact ⟨rfl, hv.symm⟩
   | succ o => simp at hv
  obtain ⟨rfl, rfl⟩ := this
  exact look_of_cell hm rfl
section
variable {P : Program} {TB : Tabs} {E : Env TB} {n : Sh} {ops : Array Oper} {l : List Oper} {s s' : St} {Q : Post} {o : Oper} {dst : Option Nat} {t ty : TypeId} {pos : String} {after : Array Edge} {g : Option (Nat × Bool)} {x : Operand}
theorem Oc (h1 : Op1 P E n o s s') (h2 : OpsL P E n ops l s' Q) (hg : o.guard = none := by rfl) : OpsL P E n ops (o :: l) s Q := OpsL.cons hg h1 h2
theorem Step1.p (h : Op1 P E n o s s') (hg : o.guard = none := by rfl) : Step1 P E n ops o s s' := .plain hg h
theorem om {z : SV} (hx : s.ev x = some z := by rfl) : Op1 P E n ⟨dst, .move x, ty, pos, after, g⟩ s (s.put n dst z) := op_move hx
theorem oa {z : SV} (hx : s.ev x = some z := by rfl) : Op1 P E n ⟨dst, .assign x, ty, pos, after, g⟩ s (s.put n dst z) := op_assign hx
theorem lp {k off : Nat} {T : TypeId} {ps qs : List CP} {m : Nat} (ht : TyAgg P t m) (hx : s.ev x = some (.b (.ptr k off)) := by rfl) (hk : lk s.own k = some (.box T ps) := by rfl) (hp : (ps.drop off).take m = qs := by rfl) (hq : qs.length = m := by rfl) :
  Op1 P E n ⟨dst, .load t x, ty, pos, after, g⟩ s (s.put n dst (.b (.agg qs))) := op_load_p ht hx hk hp hq
theorem CgT {j t : Nat} {b : Bool} {z : BV} (gd' : Bool) (ks : List Nat) (hc : gd' = true → optConds 99 ks s.slots) (h1 : gd' = true → Op1 P E n o (s.unopt 99 ks) ((s.unopt 99 ks).put n o.dst (.b z))) (h2 : OpsL P E n ops l (s.put n o.dst (.opt gd' z)) Q)
  (hg : o.guard = some (j, true) := by rfl) (hj : (ops[j]?).bind (·.dst) = some t := by rfl) (hb : s.get t = some (.b (.one (.bool b))) := by rfl) (hgd : b = gd' := by rfl) : OpsL P E n ops (o :: l) s Q :=
 OpsL.consG gd' 99 ks (.plain hb) ((eq_t _).trans hgd) hg hj hc h1 h2
theorem CgF {j t : Nat} {b : Bool} {z : BV} (gd' : Bool) (ks : List Nat) (hc : gd' = true → optConds 99 ks s.slots) (h1 : gd' = true → Op1 P E n o (s.unopt 99 ks) ((s.unopt 99 ks).put n o.dst (.b z))) (h2 : OpsL P E n ops l (s.put n o.dst (.opt gd' z)) Q)
  (hg : o.guard = some (j, false) := by rfl) (hj : (ops[j]?).bind (·.dst) = some t := by rfl) (hb : s.get t = some (.b (.one (.bool b))) := by rfl) (hgd : (!b) = gd' := by rfl) : OpsL P E n ops (o :: l) s Q :=
 OpsL.consG gd' 99 ks (.plain hb) ((eq_f _).trans hgd) hg hj hc h1 h2
end
abbrev Pt (k : Nat) (o : Nat) : SV := .b (.ptr k o)
end Go.Sk

namespace Go.Sk
set_option linter.unusedSimpArgs false
set_option linter.unusedVariables false
open Go Go.BigFrame
section
variable {P : Program} {TB : Tabs} {E : Env TB} {n : Sh} {s : St} {dst : Option Nat} {t ty yt : TypeId} {pos : String} {after : Array Edge} {g : Option (Nat × Bool)} {x y c : Operand}
theorem CV.bvL {h : PH} {ρ : RM} : ∀ {l : List CV} {vs : List Value}, All2 (fun (x : CV) v => x.rel h ρ v) l vs → All2 (fun (x : BV) v => x.rel h ρ v) (l.map CV.bv) vs
 | _, _, .nil => .nil
 | _, _, .cons h1 t => .cons (CV.bv_rel h1) (CV.bvL t)
def evCV (s : St) (x : Operand) : Option CV := (evB s x).bind BV.cv
def evCVs (s : St) : List Operand → Option (List CV)
 | [] => some []
 | x :: l => (evCV s x).bind fun z => (evCVs s l).map fun r => z :: r
theorem evB_rel {h : PH} {ρ : RM} {a : Act} (hs : SlotsRel h ρ s.slots a.tmps) {x : Operand} {z : BV} (hz : evB s x = some z) : z.rel h ρ (a.eval x) := by
 unfold evB at hz
 split at hz
 ·rename_i z' hz'
  simp at hz; subst hz
  exact ev_rel hs hz'
 ·simp at hz
theorem evCVs_rel {h : PH} {ρ : RM} {a : Act} (hs : SlotsRel h ρ s.slots a.tmps) : ∀ {l : List Operand} {zs : List CV}, evCVs s l = some zs → All2 (fun (x : CV) v => x.rel h ρ v) zs (l.map a.eval)
 | [], zs, e => by simp [evCVs] at e; subst e; exact .nil
 | x :: l, zs, e => by
  unfold evCVs at e
  simp only [Option.bind_eq_some_iff, Option.map_eq_some_iff] at e
  obtain ⟨z, hz, r, hr, rfl⟩ := e
  unfold evCV at hz
  simp only [Option.bind_eq_some_iff] at hz
  obtain ⟨q, hq, hz⟩ := hz
  exact .cons (BV.cv_rel hz (evB_rel hs hq)) (evCVs_rel hs hr)
theorem op_makeFunc {f : FuncId} {xs ys : Array Operand} {fs cs : List CV} (hf : evCVs s xs.toList = some fs) (hc : evCVs s ys.toList = some cs) :
  Op1 P E n ⟨dst, .makeFunc (.func f) xs ys, ty, pos, after, g⟩ s (s.put n dst (.b (.clo f fs cs))) :=
 Op1.val (o := ⟨dst, .makeFunc (.func f) xs ys, ty, pos, after, g⟩) fun ac w h ρ hw hs => by
  refine ⟨.func (.func f) (xs.map ac.eval) (ys.map ac.eval), by simp [execOp, Instr.makeFunc], _, _, rfl, ?_, ?_⟩
  ·simpa using evCVs_rel hs hf
  ·simpa using evCVs_rel hs hc
theorem call_coreV {o : Oper} {f : FuncId} {own_a : List (Nat × OC)} {args : List BV} {post : SPost} (hspec : Meets P TB f own_a args post)
  (hrun : ∀ (a : Act) (w : World) (h : PH) (ρ : RM), WR E n s.own h ρ w → SlotsRel h ρ s.slots a.tmps → ∃ vals : List Value, (execOp a.eval o).run P w = .ok (.enter f vals.toArray) w ∧ All2 (fun (x : BV) v => x.rel h ρ v) args vals)
  (hl : lentOk s.own own_a) {a : Act} {w : World} (hr : R E n s a w) {next : Act → World → Prop} {Q : Post}
  (hnext : ∀ own' res, post own' res → okNew n own_a own' = true ∧ okOwn s.own own_a own' = true ∧ res.keysIn own' = true ∧ ∀ a' w', R E n (s.aft n own_a own' o.dst res) a' w' → next a' w') : o.wp P a w next Q := by
 obtain ⟨hdf, hn, h, ρ, hw, hs⟩ := hr
 obtain ⟨vals, hr0, hra⟩ := hrun a w h ρ hw hs
 unfold Oper.wp
 rw [hr0]
 show Calls P f _ w _
 have hla := lentOk_spec hl
 refine (hspec w h ρ _ hw.tabs hw.agree (lent_of hw hla (lentOk_plain hl)) hra).mono ?_
 rintro e w' ⟨v, own', res, h', ρ', rfl, hp, hc, hres⟩
 obtain ⟨hok, hcl, hki, hnx⟩ := hnext own' res hp
 have hwc := hw.call hla hc hok hcl
 refine hnx _ _ (R.put (s := ⟨dropNew own_a own' s.slots, insAll own' (delAll own_a s.own)⟩) hdf hn hwc ?_ ?_)
 ·intro k x hx
  obtain ⟨h1, h2⟩ := mem_dropNew hx
  obtain ⟨u, hu, hrel⟩ := hs k x h1
  refine ⟨u, hu, SV.mono hc.le (fun j hj => ?_) hrel⟩
  by_cases hin : j ∈ keysOf own'
  ·rw [comb_in hin]
   by_cases hia : j ∈ boxKeys own_a
   ·exact hc.fixed j hia
   ·have := h2 j hin hia; simp [this] at hj
  ·exact comb_out hin
 ·exact SV.mono (PH.le_refl _) (fun j hj => comb_in (SV.keysIn_uses hki hj)) hres
theorem all2_append {α β : Type} {r : α → β → Prop} {a : List α} {b : List β} {c : List α} {d : List β} (h : All2 r a b) (h' : All2 r c d) : All2 r (a ++ c) (b ++ d) := h.append h'
theorem op_callc {f : FuncId} {fs cs : List CV} {own_a own' : List (Nat × OC)} {args zs : List BV} {xs : Array Operand} {ats : Array TypeId} {res : SV} (hspec : Meets P TB f own_a args (Is own' res)) (hf : Goes P f) (hx : s.ev x = some (.b (.clo f fs cs))) (ha : evArgs s xs.toList = some zs)
  (hz : fs.map CV.bv ++ zs ++ cs.map CV.bv = args) (hl : lentOk s.own own_a)
  (hok : okNew n own_a own' = true) (hki : res.keysIn own' = true) (hcl : okOwn s.own own_a own' = true := by rfl) : Op1 P E n ⟨dst, .call ⟨.value x, xs, ats⟩, ty, pos, after, g⟩ s (s.aft n own_a own' dst res) :=
 fun _ _ hr _ _ hnext => call_coreV hspec (fun a w h ρ hw hs => by
  obtain ⟨va, vb, hv, h1, h2⟩ := (ev_rel hs hx : BV.rel h ρ (.clo f fs cs) _)
  refine ⟨va.toList ++ xs.toList.map a.eval ++ vb.toList, ?_, ?_⟩
  ·have e1 : execOp a.eval ⟨dst, .call ⟨.value x, xs, ats⟩, ty, pos, after, g⟩ = (do let d ← Deferred.ofValue (a.eval x) (xs.map a.eval); invoke d.target d.args) := rfl
   rw [e1, hv]
   have e2 : (do let d ← Deferred.ofValue (.func (.func f) va vb) (xs.map a.eval); invoke d.target d.args : Sem Next) = callFunc f (va ++ xs.map a.eval ++ vb) := rfl
   rw [e2, hf.run]
   congr 2
   apply Array.ext'
   simp
  ·rw [← hz]
   exact all2_append (all2_append (CV.bvL h1) (evArgs_rel hs ha)) (CV.bvL h2)) hl hr fun _ _ hp => by
  obtain ⟨rfl, rfl⟩ := hp
  exact ⟨hok, hcl, hki, hnext⟩
end
end Go.Sk

namespace Go.Sk
set_option linter.unusedSimpArgs false
set_option linter.unusedVariables false
open Go Go.BigFrame
def mget {α : Type} : List (Int × α) → Int → Option α
 | [], _ => none
 | (a, b) :: r, k => if k = a then some b else mget r k
def mset {α : Type} : List (Int × α) → Int → α → List (Int × α)
 | [], k, v => [(k, v)]
 | (a, b) :: r, k, v => if k = a then (a, v) :: r else (a, b) :: mset r k v
theorem mget_mset {α : Type} (k j : Int) (v : α) : ∀ l : List (Int × α), mget (mset l k v) j = if j = k then some v else mget l j
 | [] => by unfold mset mget; rfl
 | (a, b) :: r => by
  unfold mset
  by_cases h : k = a
  ·rw [if_pos h]
   subst h
   unfold mget
   split <;> rfl
  ·rw [if_neg h]
   unfold mget
   rw [mget_mset k j v r]
   by_cases h2 : j = a
   ·rw [if_pos h2, if_pos h2, if_neg (fun e => h (by rw [← e, h2]))]
   ·rw [if_neg h2, if_neg h2]
def eM (kd : IntKind) (l : List (Int × BV)) : List (CP × BV) := l.map fun p => (.int kd p.1, p.2)
structure TyMap (P : Program) (t kt et : TypeId) (kd : IntKind) (z : CP) : Prop where
 und : P.underlying t = some (.map kt et)
 key : P.underlying kt = some (.int kd)
 zero : ∃ i v, P.info? et = some i ∧ i.zero = some v ∧ ∀ h, z.rel h v
section
variable {P : Program} {TB : Tabs} {E : Env TB} {n : Sh} {s : St} {dst : Option Nat} {t ty yt : TypeId} {pos : String} {after : Array Edge} {g : Option (Nat × Bool)} {x y c : Operand}
end
end Go.Sk

namespace Go.Sk
set_option linter.unusedSimpArgs false
set_option linter.unusedVariables false
open Go Go.BigFrame
section
variable {P : Program} {TB : Tabs} {E : Env TB} {n : Sh} {s s' : St} {dst : Option Nat} {t ty yt : TypeId} {pos : String} {after : Array Edge} {g : Option (Nat × Bool)} {x y c : Operand} {ops : Array Oper} {l : List Oper} {Q : Post} {a b : Code}
theorem OpsL.ite {α : Type} {d : Bool} {A B : Option α} {r : α} (h : (if d = true then A else B) = some r) (h1 : d = true → A = some r → OpsL P E n ops l s Q) (h2 : d = false → B = some r → OpsL P E n ops l s Q) : OpsL P E n ops l s Q := by
 cases d
 ·exact h2 rfl h
 ·exact h1 rfl h
theorem Tri.condT {k : Nat} (hs : s.get k = some (.b (.one (.bool true)))) (h : Tri P E n a s Q) : Tri P E n (.cond (.tmp k) a b) s Q := Tri.cond hs (fun _ => h) (fun e => by cases e)
theorem Tri.condF {k : Nat} (hs : s.get k = some (.b (.one (.bool false)))) (h : Tri P E n b s Q) : Tri P E n (.cond (.tmp k) a b) s Q := Tri.cond hs (fun e => by cases e) (fun _ => h)
theorem ix_flat0 {α : Type} {e : α → List CP} {sz : Nat} (hu : ∀ x, (e x).length = sz) {z : α} : ∀ {xs : List α} {i : Nat}, xs[i]? = some z → ((xs.map e).flatten.drop (i * sz)).take sz = e z
 | [], i, h => by simp at h
 | a :: xs, 0, h => by
  have e1 : a = z := by simpa using h
  subst e1
  rw [Nat.zero_mul, List.drop_zero, List.map_cons, List.flatten_cons, List.take_left' (hu a)]
 | a :: xs, i + 1, h => by
  have h1 : xs[i]? = some z := by simpa using h
  have e1 : (i + 1) * sz = (e a).length + i * sz := by rw [hu a, Nat.add_mul]; omega
  rw [List.map_cons, List.flatten_cons, e1, ← List.drop_drop, List.drop_left]
  exact ix_flat0 hu h1
theorem ix_flat {α : Type} [Inhabited α] {xs : List α} {e : α → List CP} {sz : Nat} (hu : ∀ x, (e x).length = sz) {i : Int} {z : α} (h : idx? xs i = some z) : ((xs.map e).flatten.drop (i.toNat * sz)).take sz = e z := ix_flat0 hu (ix_get h)
end
end Go.Sk

namespace Go.Sk
set_option linter.unusedSimpArgs false
set_option linter.unusedVariables false
open Go Go.ChangeShapes Go.WideShapes Go.ChangeAt Go.RowKit
def flatD {H : Type} : Nat → DataW H → List Value
 | _, .lit (.int k n) => [.int k n]
 | _, .lit (.string l) => [.string ⟨⟨l⟩⟩]
 | n + 1, .agg ds => (ds.map (flatD n)).flatten
 | _, _ => []
structure TyFlat (P : Program) (t : TypeId) (n : Nat) : Prop where
 op : ∀ {H : Type} {enc : TypeId × Value → H} {W : World} {sp : Nat → Bool} {held : Bool} {fuel : Nat} {cs : List Value} {x : DataW H × List MemPlace}, DataW.trod enc P W 0 sp held fuel t cs = some x → flatD n x.1 = cs
theorem TyFlat.int {P : Program} {t : TypeId} {k : IntKind} {n : Nat} (ht : P.underlying t = some (.int k)) : TyFlat P t n where
 op h := by obtain ⟨m, rfl, rfl, _⟩ := DataW.trod_int ht h; cases n <;> rfl
theorem TyFlat.str {P : Program} {t : TypeId} {n : Nat} (ht : P.underlying t = some .string) : TyFlat P t n where
 op h := by
  obtain ⟨s, rfl, rfl, _⟩ := DataW.trod_string ht h
  cases s with | mk d => cases d; cases n <;> rfl
inductive FlFlds (P : Program) (fs : Array Field) (T d : Nat) : Nat → Nat → Prop where
 | nil {i : Nat} (hi : fs.size ≤ i) : FlFlds P fs T d i T
 | cons {i o : Nat} {f : Field} (hf : fs[i]? = some f) (ho : f.offset = o) (hr : TyFlat P f.type d) (h : FlFlds P fs T d (i + 1) (o + P.cellsOf f.type)) : FlFlds P fs T d i o
theorem FlFlds.op {P : Program} {fs : Array Field} {T d i o : Nat} (h : FlFlds P fs T d i o) {H : Type} {enc : TypeId × Value → H} {W : World} {sp : Nat → Bool} {held : Bool} {n : Nat} {cs : List Value} {xs : List (DataW H × List MemPlace)} (hl : cs.length = T)
  (hx : xs.length = fs.size) (hv : ∀ (j : Nat) (f : Field), fs[j]? = some f → DataW.trod enc P W 0 sp held n f.type ((cs.drop f.offset).take (P.cellsOf f.type)) = xs[j]?) : ((xs.drop i).map fun x => flatD d x.1).flatten = cs.drop o := by
 induction h with
 | nil hi => rw [List.drop_of_length_le (by omega), List.drop_of_length_le (by omega)]; rfl
 | @cons i o f hf ho hr h ih =>
  have hi : i < xs.length := by
   rw [hx]
   exact (Array.getElem?_eq_some_iff.1 hf).1
  have h1 := hv i f hf
  rw [List.getElem?_eq_getElem hi] at h1
  have h2 := hr.op h1
  rw [List.drop_eq_getElem_cons hi, List.map_cons, List.flatten_cons, ih, h2, ho, ← List.drop_drop, List.take_append_drop]
theorem TyFlat.struct {P : Program} {t : TypeId} {fs : Array Field} (ht : P.underlying t = some (.struct fs)) {d : Nat} (h : FlFlds P fs (P.cellsOf t) d 0 0) : TyFlat P t (d + 1) where
 op hd := by
  obtain ⟨xs, m, _, rfl, hl, hlen, hf⟩ := DataW.trod_struct ht hd
  have := h.op (xs := xs) hl hlen hf
  simp only [flatD, List.map_map]
  rw [List.drop_zero, List.drop_zero] at this
  exact this
theorem arr_flat {sz : Nat} : ∀ {n : Nat} {cs : List Value}, cs.length = n * sz → ((List.range n).map fun i => (cs.drop (i * sz)).take sz).flatten = cs
 | 0, cs, h => by
  rw [Nat.zero_mul] at h
  rw [List.length_eq_zero_iff.1 h]; rfl
 | n + 1, cs, h => by
  have h2 : (cs.drop sz).length = n * sz := by rw [List.length_drop, h, Nat.add_mul]; omega
  have ih := arr_flat h2
  rw [List.range_succ_eq_map, List.map_cons, List.flatten_cons, Nat.zero_mul, List.drop_zero, List.map_map]
  have e : ((fun i => (cs.drop (i * sz)).take sz) ∘ Nat.succ) = fun i => ((cs.drop sz).drop (i * sz)).take sz := by
   funext i
   simp only [Function.comp, List.drop_drop, Nat.succ_mul, Nat.add_comm sz]
  rw [e, ih, List.take_append_drop]
theorem TyFlat.arr {P : Program} {t e : TypeId} {n d : Nat} (ht : P.underlying t = some (.array n e)) (hc : P.cellsOf t = n * P.cellsOf e) (he : TyFlat P e d) : TyFlat P t (d + 1) where
 op {H enc W sp held fuel cs x} h := by
  cases fuel with
  | zero => simp [DataW.trod] at h
  | succ fuel =>
   simp only [DataW.trod, ht] at h
   split at h
   ·rename_i hl
    obtain ⟨xs, hm, rfl⟩ := Option.map_eq_some_iff.1 h
    have hxl : xs.length = n := by simpa using Lib.mapM_length hm
    simp only [flatD, List.map_map]
    have e1 : (xs.map (flatD d ∘ fun x => x.1)) = (List.range n).map fun i => (cs.drop (i * P.cellsOf e)).take (P.cellsOf e) := by
     refine List.ext_getElem? fun i => ?_
     by_cases hi : i < n
     ·obtain ⟨b, hb, hf⟩ := Lib.mapM_at hm i i (by simp [hi])
      rw [List.getElem?_map, hb, List.getElem?_map, List.getElem?_range hi]
      simp only [Option.map_some, Function.comp]
      rw [he.op hf]
     ·rw [List.getElem?_eq_none (by simp; omega), List.getElem?_eq_none (by simp; omega)]
    rw [e1, arr_flat (by rw [hl, hc])]
   ·cases h
theorem TabsOk.consV {P : Program} {TB : Tabs} {W : World} {name : String} {d : DataW Unit} {rest : List (String × DataW Unit)} {cs : List Value} {g n : Nat} {t : TypeId} (hg : P.globalNamed name = some g) (hty : (P.globals[g]?).map (·.type) = some t) (ht : TyFlat P t n) (h : laidMet P ((name, d) :: rest) W) (hd : flatD n d = cs) (h0 : 0 < cs.length) (r : TabsOk TB (Go.Sk.full W) W) (hone : cs.all (·.oneCell') = true := by decide) : TabsOk ((g, cs) :: TB) (Go.Sk.full W) W := fun g' cs' hm => by
 rcases List.mem_cons.1 hm with e | hm
 ·obtain ⟨rfl, rfl⟩ := Prod.mk.inj e
  obtain ⟨ps, ⟨g2, t', vs, fuel, p, q, hg', ht', hvar, hdd, _, _⟩, _⟩ := h
  obtain rfl := Option.some.inj (hg.symm.trans hg')
  obtain rfl := Option.some.inj (hty.symm.trans ht')
  have e2 := ht.op hdd
  rw [hd] at e2
  unfold World.var? at hvar
  rw [hg] at hvar
  simp only [Option.bind_some] at hvar
  split at hvar
  ·next cs T fz hh =>
   have := Option.some.inj hvar
   subst this
   subst e2
   refine ⟨h0, fun o v hv => ?_, T, fz, by simpa using hh⟩
   show look W _ o = some v
   refine look_of_cell ?_ (List.all_eq_true.1 hone v (List.mem_of_getElem? hv))
   simp only [World.cell?, hh]
   simpa using hv
  ·simp at hvar
 ·exact r g' cs' hm
end Go.Sk

namespace Go.Sk
set_option linter.unusedSimpArgs false
set_option linter.unusedVariables false
open Go Go.BigFrame
variable {P : Program} {TB : Tabs} {E : Env TB} {n : Sh} {s : St} {dst : Option (Nat)} {t ty : TypeId} {pos : String} {after : Array Edge} {g : Option (Nat × Bool)} {x y : Operand}
theorem Reads.take {h : PH} {b o : Nat} {ps : List CP} (x : Reads h b o ps) (n : Nat) : Reads h b o (ps.take n) := by
 intro j c hc
 rw [List.getElem?_take] at hc
 split at hc
 ·exact x j c hc
 ·cases hc
theorem Tri.condTc {a b : Code} {Q : Post} (h : Tri P E n a s Q) : Tri P E n (.cond (.const (.bool true)) a b) s Q := fun ac w hr => wp_cond_true rfl (h ac w hr)
end Go.Sk

namespace Go.Sk
set_option linter.unusedSimpArgs false
set_option linter.unusedVariables false
open Go Go.BigFrame Go.RowKit Go.Proofs Go.Shelf
variable {P : Program} {TB : Tabs} {ρ : Ren}
theorem wr_start {own : List (Nat × OC)} {w : World} {h : PH} {ρ : RM} (tb : TabsOk TB h w) (hag : Agree h w) (hl : Lent own h ρ w) : WR (⟨w, h, ρ, tb⟩ : Env TB) ⟨0, boxKeys own, keysOf own, []⟩ own h ρ w := by
 refine ⟨hag, PH.le_refl h, fun _ _ _ => rfl, Nat.le_refl _, fun _ _ _ => rfl, fun _ _ => rfl, rfl, rfl, ?_, ?_⟩
 ·rintro b ⟨k, hk, hb⟩ o
  obtain ⟨⟨k', c⟩, hm', rfl⟩ := List.mem_map.1 hk
  exact ((hl k' c hm').2.1 b (.inl hb)).2 o
 ·intro k c hc
  obtain ⟨h1, h3, h4⟩ := hl k c hc
  exact ⟨h1, fun b hb => ⟨.inr ⟨k, List.mem_map.2 ⟨(k, c), hc, rfl⟩, (h3 b hb).1⟩, (h3 b hb).2⟩, h4⟩
end Go.Sk

namespace Go.Sk
set_option linter.unusedSimpArgs false
set_option linter.unusedVariables false
open Go Go.BigFrame
abbrev MapI := List (Int × Int)
def mGet (m : MapI) (k : Int) : Int := (mget m k).getD 0
def mHas (m : MapI) (k : Int) : Bool := (mget m k).isSome
variable {P : Program} {TB : Tabs} {E : Env TB} {n : Sh} {s : St} {dst : Option Nat} {t ty yt : TypeId} {pos : String} {after : Array Edge} {g : Option (Nat × Bool)} {x y c : Operand}
end Go.Sk

namespace Go.Sk
set_option linter.unusedSimpArgs false
set_option linter.unusedVariables false
open Go Go.BigFrame
variable {P : Program} {TB : Tabs} {E : Env TB} {n : Sh} {s : St} {dst : Option Nat} {t ty yt : TypeId} {pos : String} {after : Array Edge} {g : Option (Nat × Bool)} {x y c : Operand} {ops : Array Oper} {l : List Oper} {Q : Post} {cd : Code}
end Go.Sk

namespace Go.Sk
set_option linter.unusedSimpArgs false
set_option linter.unusedVariables false
open Go Go.BigFrame
variable {P : Program} {TB : Tabs} {E : Env TB} {n : Sh} {s : St} {dst : Option Nat} {t ty yt : TypeId} {pos : String} {after : Array Edge} {g : Option (Nat × Bool)} {x y c : Operand} {ops : Array Oper} {l : List Oper} {Q : Post} {cd : Code}
end Go.Sk

namespace Go.Sk
set_option linter.unusedSimpArgs false
set_option linter.unusedVariables false
open Go Go.BigFrame
def noDef (o : Oper) : Bool := match o.op with
 | .defer _ => false
 | _ => true
theorem noDef_ne {o : Oper} (h : noDef o = true) : ∀ c, o.op ≠ .defer c := fun c e => by simp [noDef, e] at h
abbrev rnd (l : Nat) : Fence := Fence.wide.inRound l
section
variable {P : Program} {TB : Tabs} {E : Env TB} {n : Sh} {ops : Array Oper} {is : List Nat} {s s' : St} {Q : Post} {i : Nat} {o : Oper} {c x y : Code} {l₀ : Nat}
theorem rowsIn_of {F : Fence} (hf : F = Fence.wide ∨ ∃ l, F = rnd l) {m : Nat} {row : String} {args : Array Value} {w : World} {R : Value → World → Prop} (h : Rows P row args w R) : RowsIn F m P row args w R := by
 intro c cs _
 obtain ⟨v, w', hr, hs⟩ := h c cs
 rcases hf with rfl | ⟨l, rfl⟩
 ·exact ⟨v, w', hr, stepsIn_wide.2 hs⟩
 ·exact ⟨v, w', hr, stepsIn_wide.2 hs⟩
theorem callsIn_of {F : Fence} (hf : F = Fence.wide ∨ ∃ l, F = rnd l) {m : Nat} {f : FuncId} {args : Array Value} {w : World} {R : Ending → World → Prop} (h : Calls P f args w R) : CallsIn F m P f args w R := by
 rcases hf with rfl | ⟨l, rfl⟩
 ·exact callsIn_wide.2 h
 ·exact CallsIn.inRound l (callsIn_wide.2 h)
theorem oper_in {F : Fence} (hf : F = Fence.wide ∨ ∃ l, F = rnd l) (hd : noDef o = true) {a : Act} {w : World} {K K' : Act → World → Prop} (hk : ∀ a w, K a w → K' a w) (h : o.wp P a w K Q) : o.wpIn F 0 P a w K' Q := by
 have hdep : F.depth = none := by rcases hf with rfl | ⟨l, rfl⟩ <;> rfl
 refine ⟨fun f _ => by rcases hf with rfl | ⟨l, rfl⟩ <;> trivial, ?_⟩
 rw [Oper.semAt_eq _ _ _ (noDef_ne hd)]
 unfold Oper.wp at h
 generalize (execOp a.eval o).run P w = r at *
 have hdn : F.depth.isSome = true → 1 ≤ 0 := fun e => by rw [hdep] at e; simp at e
 cases r with
 | ok nx w' =>
  cases nx with
  | value v => exact hk _ _ h
  | skip => exact hk _ _ h
  | defer d => exact hk _ _ h
  | enter f args =>
   refine ⟨hdn, callsIn_of hf (Calls.mono h fun e w'' he => ?_)⟩
   cases e with
   | returned v => exact hk _ _ he
   | panicked ch => exact he
   | outgrown => exact he
  | row row args => exact ⟨hdn, rowsIn_of hf (Rows.mono h fun _ _ he => hk _ _ he)⟩
  | _ => exact h.elim
 | halt q w' => cases q <;> first | exact h | exact h.elim
theorem wpOps_in {F : Fence} (hf : F = Fence.wide ∨ ∃ l, F = rnd l) (hd : ∀ (i : Nat) (o : Oper), ops[i]? = some o → noDef o = true) (hQ : ¬ LetsOut Q) : ∀ (is : List Nat) (a : Act) (w : World), wpOps P ops Q is a w → wpOpsIn F 0 P ops Q is a w
 | [], a, w, h => h
 | i :: is, a, w, h => by
  simp only [wpOps] at h
  simp only [wpOpsIn]
  cases ho : ops[i]? with
  | none => simp only [ho] at h; exact wpOps_in hf hd hQ is a w h
  | some o =>
   simp only [ho] at h
   simp only
   split
   ·rename_i hw
    simp only [hw, if_true] at h
    rcases h with h | h
    ·exact oper_in hf (hd i o ho) (fun a w => wpOps_in hf hd hQ is a w) h
    ·exact absurd h.2 hQ
   ·rename_i hw
    simp only [hw] at h
    refine ⟨fun f _ => by rcases hf with rfl | ⟨l, rfl⟩ <;> trivial, wpOps_in hf hd hQ is _ w h⟩
def TriR (P : Program) {TB : Tabs} (E : Env TB) (n : Sh) (F : Fence) (c : Code) (s : St) (Q : Post) : Prop := ¬ LetsOut Q → ∀ a w, R E n s a w → c.wpIn F 0 P Q a w
variable {F : Fence}
theorem letsThen {K : Act → World → Prop} (h : ¬ LetsOut Q) : ¬ LetsOut (Exit.then K Q) := fun ⟨a, w, hq⟩ => h ⟨a, w, hq⟩
theorem letsBlock {id : Nat} (h : ¬ LetsOut Q) : ¬ LetsOut (Exit.inBlock id Q) := fun ⟨a, w, hq⟩ => h ⟨a, w, hq⟩
theorem TriR.keep (ks kos : List Nat) (hs : s.keep ks kos = s') (h : TriR P E n F c s' Q) : TriR P E n F c s Q := fun hq a w hr => h hq a w (hs ▸ hr.keep ks kos)
theorem TriR.seq (h : TriR P E n F x s (Exit.then (y.wpIn F 0 P Q) Q)) : TriR P E n F (.seq x y) s Q := fun hq a w hr => wpIn_seq (h (letsThen hq) a w hr)
theorem TriR.skip (h : Fin E n .normal s Q) : TriR P E n F .skip s Q := fun _ a w hr => wpIn_skip (h a w hr)
theorem TriR.ret (h : Fin E n .ret s Q) : TriR P E n F .ret s Q := fun _ a w hr => wpIn_ret (h a w hr)
theorem TriR.exit {id : Nat} (h : Fin E n (.exit id) s Q) : TriR P E n F (.exit id) s Q := fun _ a w hr => wpIn_exit (h a w hr)
theorem TriR.block {id : Nat} (h : TriR P E n F c s (Exit.inBlock id Q)) : TriR P E n F (.block id c) s Q := fun hq a w hr => wpIn_block (h (letsBlock hq) a w hr)
theorem TriR.cond {t : Nat} {b : Bool} (hs : s.get t = some (.b (.one (.bool b)))) (h1 : b = true → TriR P E n F x s Q) (h2 : b = false → TriR P E n F y s Q) : TriR P E n F (.cond (.tmp t) x y) s Q := by
 intro hq a w hr
 obtain ⟨hdf, hn, h, ρ, hw, hsl⟩ := id hr
 have : a.eval (.tmp t) = .bool b := ev_rel hsl (o := .tmp t) hs
 exact wpIn_cond_split this (fun e => h1 e hq a w hr) (fun e => h2 e hq a w hr)
theorem TriR.ite {α : Type} {t : Nat} {b : Bool} {p q : Option α} {r : α} (h : (if b = true then p else q) = some r) (hs : s.get t = some (.b (.one (.bool b)))) (h1 : b = true → p = some r → TriR P E n F x s Q) (h2 : b = false → q = some r → TriR P E n F y s Q) : TriR P E n F (.cond (.tmp t) x y) s Q :=
 TriR.cond hs (fun e => h1 e (by rw [if_pos e] at h; exact h)) (fun e => h2 e (by rw [if_neg (by simp [e])] at h; exact h))
theorem TriR.regionL {id : Nat} {l : List Oper} (hf : F = Fence.wide ∨ ∃ l, F = rnd l) (h : OpsL P E n l.toArray l s Q) (hd : l.all noDef = true := by rfl) : TriR P E n F (.region id l.toArray false) s Q := by
 intro hq a w hr
 refine wpIn_region ?_
 have := wpOps_of_wpL (P := P) (ops := l.toArray) (Q := Q) l 0 (fun j => by simp) a w (h a w hr)
 refine wpOps_in hf (fun i o ho => ?_) hq _ a w (by simpa [List.range_eq_range'] using this)
 exact List.all_eq_true.1 hd o (by simpa using List.mem_of_getElem? (by simpa using ho))
theorem TriR.ofA {id : Nat} {l : List Oper} (hf : F = Fence.wide ∨ ∃ l, F = rnd l) (hm : P.follows .mixedOrders = true) (h : RegA P E n l.toArray s Q) (hd : l.all noDef = true := by rfl) : TriR P E n F (.region id l.toArray true) s Q := by
 intro hq a w hr
 refine wpIn_region_draw fun t => ?_
 refine wpOps_in hf (fun i o ho => ?_) hq _ a _ ?_
 ·exact List.all_eq_true.1 hd o (by simpa using List.mem_of_getElem? (by simpa using ho))
 ·simp only [Region.schedule, hm, Bool.true_or, if_true]
  exact wpAny_sound _ t _ a _ (h a w hr)
theorem TriR.regionYF {rid : Nat} {ops : List Oper} (hf : F = Fence.wide ∨ ∃ l, F = rnd l) (hm : P.follows .mixedOrders = true) (m : Nat) (Fs : List SV) (ks kos : List Nat) (hok : okX (ops.take m) (ops.drop m) n.n = true) (hst : StepsE P E n ops.toArray s (ops.take m) Fs 0 (ops.take m) Fs)
  {s2 : St} (htl : TailX P E n ops.toArray (ops.drop m) ⟨(s.slots.filter fun p => !(dsts (ops.take m)).contains p.1) ++ factsFrom (fun _ => true) 0 (ops.take m) Fs, s.own⟩ s2) (hs : s2.keep ks kos = s') (h : Fin E n .normal s' Q) (hd : ops.all noDef = true := by rfl) : TriR P E n F (.region rid ops.toArray true) s Q :=
 TriR.ofA hf hm (RegA.X _ _ (List.take_append_drop m ops) Fs ks kos hok hst htl hs h) hd
theorem TriR.regionWF {rid : Nat} {ops : List Oper} (hf : F = Fence.wide ∨ ∃ l, F = rnd l) (hm : P.follows .mixedOrders = true) (isW : List Bool) (Fs : List SV) (tab : List Stg) {σ0 σf : Stg} (hok : (edgesOk 0 ops && nodupB (dsts ops) && (dsts ops).all (· < n.n) && (isW.length == ops.length)) = true)
  (htab : WTab P E n isW tab ops Fs tab) (h0 : stgOf tab (List.replicate ops.length false) = some σ0) (hs0 : s = ⟨σ0.base, σ0.own⟩) (hf' : stgOf tab isW = some σf) (ks kos : List Nat)
  (hs : (⟨σf.base ++ factsFrom (nb σf.live) 0 ops Fs, σf.own⟩ : St).keep ks kos = s') (h : Fin E n .normal s' Q) (hd : ops.all noDef = true := by rfl) : TriR P E n F (.region rid ops.toArray true) s Q :=
 TriR.ofA hf hm (RegA.W isW Fs tab hok htab h0 hs0 hf' ks kos hs h) hd
end
end Go.Sk

namespace Go.Sk
set_option linter.unusedSimpArgs false
set_option linter.unusedVariables false
open Go Go.BigFrame
def inertO : Obj → Bool
 | .deferred _ => true
 | .loop _ => true
 | _ => false
section
variable {P : Program} {TB : Tabs} {E : Env TB} {n : Sh} {own own' : List (Nat × OC)} {h h' : PH} {ρ ρ' : RM} {w w' : World}
theorem OC.ok.notInert {c : OC} {v : Value} (hc : c.ok h ρ v w) {b : Nat} (hf : c.foot v w b) {o : Obj} (ho : w.heap[b]? = some o) : inertO o = false := by
 have hrow : ∀ {e : TypeId} {size n : Nat} {u : Value} {xs : List Value}, w.ownsRow 0 e size u n xs → blkOf u = some b → inertO o = false := fun {e size n u xs} hh hb => by
  rcases hh.2 with ⟨rfl, _⟩ | ⟨g, cap, cur, rfl, h1, h2, h3⟩
  ·simp [blkOf] at hb
  ·simp [blkOf] at hb; subst hb; rw [h2] at ho; cases ho; rfl
 rcases hf with hb | hi
 rotate_left
 ·cases c with
  | rr T e size hole ess =>
   obtain ⟨us, x⟩ := hc
   obtain ⟨i, u, h1, h2, h3⟩ := x.inner.1 hi
   obtain ⟨es, hes⟩ : ∃ es, ess[i]? = some es := by
    have h4 : i < us.length := (List.getElem?_eq_some_iff.1 h1).1
    have h5 := x.out.1
    exact ⟨_, List.getElem?_eq_getElem (by omega)⟩
   obtain ⟨xs, h6, _⟩ := (x.rows i u es h1 hes h2).row
   exact hrow h6 h3
  | mit j m rest cur =>
   obtain ⟨b', ms, clk, D, seen, x⟩ := hc
   obtain ⟨D', s1, s2, s3, h1, h2⟩ := hi
   rw [x.ptr] at h1
   cases h1
   rw [x.it] at h2
   cases h2
   rw [x.obj] at ho
   cases ho
   rfl
  | _ => exact hi.elim
 cases c with
 | rr T e size hole ess => obtain ⟨us, x⟩ := hc; exact hrow x.out hb
 | mit j m rest cur => obtain ⟨b', ms, clk, D, seen, x⟩ := hc; rw [x.ptr] at hb; cases hb; rw [x.it] at ho; cases ho; rfl
 | box T ps => obtain ⟨b', cur, rfl, h2, h3⟩ := hc; simp [blkOf] at hb; subst hb; rw [h2] at ho; cases ho; rfl
 | sit q pos => obtain ⟨b', rfl, h2, h3⟩ := hc; simp [blkOf] at hb; subst hb; rw [h2] at ho; cases ho; rfl
 | mp es => obtain ⟨b', ms, clk, rfl, h2, h3⟩ := hc; simp [blkOf] at hb; subst hb; rw [h2] at ho; cases ho; rfl
 | mq m => obtain ⟨b', ms, clk, rfl, h2, h3⟩ := hc; simp [blkOf] at hb; subst hb; rw [h2] at ho; cases ho; rfl
 | xbox T ps => obtain ⟨b', cur, rfl, h2, h3⟩ := hc; simp [blkOf] at hb; subst hb; rw [h2] at ho; cases ho; rfl
 | row T size es =>
  obtain ⟨hu, hz, xs, ⟨hl, hh⟩, hr⟩ := hc
  rcases hh with ⟨rfl, _⟩ | ⟨g, cap, cur, rfl, h1, h2, h3⟩
  ·simp [blkOf] at hb
  ·simp [blkOf] at hb; subst hb; rw [h2] at ho; cases ho; rfl
 | frow T size es =>
  obtain ⟨hu, hz, xs, ⟨hl, hh⟩, hr⟩ := hc
  rcases hh with ⟨rfl, _⟩ | ⟨g, cap, cur, rfl, h1, h2, h3⟩
  ·simp [blkOf] at hb
  ·simp [blkOf] at hb; subst hb; rw [h2] at ho; cases ho; rfl
 | orow T size es =>
  obtain ⟨hu, hz, xs, ⟨hl, hh⟩, hr⟩ := hc
  rcases hh with ⟨rfl, _⟩ | ⟨g, off, cap, cur, rfl, h2, h3⟩
  ·simp [blkOf] at hb
  ·simp [blkOf] at hb; subst hb; rw [h2] at ho; cases ho; rfl
def fixIn (fx : List Nat) (own : List (Nat × OC)) : Bool := (fx.all fun k => (boxKeys own).contains k) && own.all fun p => p.2.plain
theorem fixIn_fix {fx : List Nat} {own : List (Nat × OC)} (h : fixIn fx own = true) : ∀ k, k ∈ fx → k ∈ boxKeys own := fun k hk => by
 simp only [fixIn, Bool.and_eq_true, List.all_eq_true] at h
 simpa using h.1 k hk
theorem fixIn_plain {fx : List Nat} {own : List (Nat × OC)} (h : fixIn fx own = true) : ∀ k c, (k, c) ∈ own → c.plain = true := fun k c hk => by
 simp only [fixIn, Bool.and_eq_true, List.all_eq_true] at h
 exact h.2 _ hk
theorem WR.self (hw : WR E n own h ρ w) (hp : ∀ k c, (k, c) ∈ own → c.plain = true) (m : Nat) (d : List Deferred) : WR (⟨w, h, ρ, hw.tabs⟩ : Env TB) ⟨m, boxKeys own, keysOf own, d⟩ own h ρ w :=
 WR.sh (n := ⟨0, boxKeys own, keysOf own, []⟩) rfl rfl (wr_start hw.tabs hw.agree (lent_of hw (fun _ _ hk => hk) hp))
theorem WR.all {tb : TabsOk TB h w} {m : Nat} {d : List Deferred} (hw : WR E n own h ρ w) (hc : WR (⟨w, h, ρ, tb⟩ : Env TB) ⟨m, boxKeys own, keysOf own, d⟩ own' h' ρ' w') (hf : ∀ k, k ∈ n.fix → k ∈ boxKeys own) : WR E n own' h' ρ' w' := by
 have hlent : ∀ b, lent (⟨w, h, ρ, tb⟩ : Env TB) ⟨m, boxKeys own, keysOf own, d⟩ b → E.w0.heap.size ≤ b ∨ lent E n b := fun b ⟨k, hk, hb⟩ => by
  obtain ⟨⟨k', c⟩, hm, rfl⟩ := List.mem_map.1 hk
  exact ((hw.owned k' c hm).2.1 b (.inl hb)).1
 have hnl : ∀ b, b < E.w0.heap.size → ¬ lent E n b → ¬ lent (⟨w, h, ρ, tb⟩ : Env TB) ⟨m, boxKeys own, keysOf own, d⟩ b := fun b hb hl hl' => by
  rcases hlent b hl' with h1 | h1
  ·omega
  ·exact hl h1
 refine ⟨hc.agree, PH.le_trans hw.le hc.le, fun b hb hl => ?_, Nat.le_trans hw.size hc.size, fun b hb hl => ?_, fun k hk => ?_, hc.os.trans hw.os, hc.out.trans hw.out, hw.nl, fun k c hk => ?_⟩
 ·exact (hc.fresh b (Nat.lt_of_lt_of_le hb hw.size) (hnl b hb hl)).trans (hw.fresh b hb hl)
 ·exact (hc.same b (Nat.lt_of_lt_of_le hb hw.size) (hnl b hb hl)).trans (hw.same b hb hl)
 ·exact (hc.fixed k (hf k hk)).trans (hw.fixed k hk)
 ·obtain ⟨e1, e2, e3⟩ := hc.owned k c hk
  refine ⟨e1, fun b hb => ⟨?_, (e2 b hb).2⟩, e3⟩
  rcases (e2 b hb).1 with h1 | h1
  ·exact .inl (Nat.le_trans hw.size h1)
  ·exact hlent b h1
theorem WR.none {tb : TabsOk TB h w} {m : Nat} {d : List Deferred} {ρ1 : RM} (hw : WR E n own h ρ w) (hc : WR (⟨w, h, ρ1, tb⟩ : Env TB) ⟨m, [], [], d⟩ own' h' ρ' w') : WR E n own h' ρ w' := by
 have hnl : ∀ b, ¬ lent (⟨w, h, ρ1, tb⟩ : Env TB) ⟨m, [], [], d⟩ b := fun b ⟨k, hk, _⟩ => by simp at hk
 refine ⟨hc.agree, PH.le_trans hw.le hc.le, fun b hb hl => ?_, Nat.le_trans hw.size hc.size, fun b hb hl => ?_, hw.fixed, hc.os.trans hw.os, hc.out.trans hw.out, hw.nl, fun k c hk => ?_⟩
 ·exact (hc.fresh b (Nat.lt_of_lt_of_le hb hw.size) (hnl b)).trans (hw.fresh b hb hl)
 ·exact (hc.same b (Nat.lt_of_lt_of_le hb hw.size) (hnl b)).trans (hw.same b hb hl)
 ·obtain ⟨e1, e2, e3⟩ := hw.owned k c hk
  have hft : ∀ j x, (j, x) ∈ own → ∀ b, x.foot (ρ j) w' b → x.foot (ρ j) w b := fun j x hj b => OC.foot.congr fun b hb => hc.same b ((hw.owned j x hj).1.lt (.inl hb)) (hnl b)
  refine ⟨(e1.congr fun b hb => hc.same b (e1.lt hb) (hnl b)).mono hc.le, fun b hb => ⟨(e2 b (hft k c hk b hb)).1, fun o => ?_⟩, fun j x hj hjk b hb hb' => e3 j x hj hjk b (hft k c hk b hb) (hft j x hj b hb')⟩
  have e := hc.fresh b (e1.lt (hft k c hk b hb)) (hnl b)
  rw [e]
  exact (e2 b (hft k c hk b hb)).2 o
end
end Go.Sk

namespace Go.Sk
set_option linter.unusedSimpArgs false
set_option linter.unusedVariables false
open Go Go.BigFrame
def each {α ι β : Type} (B : ι → α → Option (ι ⊕ β)) : List α → ι → Option (ι ⊕ β)
 | [], v => some (.inl v)
 | x :: xs, v => match B v x with
  | none => none
  | some (.inl v') => each B xs v'
  | some (.inr y) => some (.inr y)
def mark (D : Nat) : Deferred := { target := .collected D, args := #[] }
section
variable {P : Program} {TB : Tabs} {E : Env TB} {n : Sh} {s s' : St} {Q : Post} {x y assign body : Code}
theorem not_lent_inert {own : List (Nat × OC)} {h : PH} {ρ : RM} {w : World} (hw : WR E n own h ρ w) {D : Nat} {o : Obj} (hD : w.heap[D]? = some o) (hi : inertO o = true) {tb : TabsOk TB h w} {m : Nat} {bk : List Nat} {d : List Deferred} : ¬ lent (⟨w, h, ρ, tb⟩ : Env TB) ⟨m, bk, keysOf own, d⟩ D := fun ⟨k, hk, hb⟩ => by
 obtain ⟨⟨k', c⟩, hm, rfl⟩ := List.mem_map.1 hk
 have := (hw.owned k' c hm).1.notInert (.inl hb) hD
 rw [this] at hi
 simp at hi
theorem lt_of_get {w : World} {D : Nat} {o : Obj} (hD : w.heap[D]? = some o) : D < w.heap.size := (Array.getElem?_eq_some_iff.1 hD).1
def RD {TB : Tabs} (E : Env TB) (n : Sh) (D : Nat) (s : St) (a : Act) (w : World) : Prop :=
 a.defers = [mark D] ∧ a.tmps.size = n.n ∧ w.heap[D]? = some (.deferred (some [])) ∧ E.w0.heap.size ≤ D ∧ ∃ h ρ, WR E n s.own h ρ w ∧ SlotsRel h ρ s.slots a.tmps
end
end Go.Sk

namespace Go.Sk
set_option linter.unusedSimpArgs false
set_option linter.unusedVariables false
open Go Go.BigFrame
section
variable {P : Program} {TB : Tabs} {E : Env TB} {n : Sh} {s s' : St} {Q : Post} {x y assign body cd : Code}
def RetM (P : Program) (fn : Func) {TB : Tabs} (E : Env TB) (n : Sh) (post : SPost) : Post
 | .normal, a, w => ∃ D, a.defers = [mark D] ∧ w.heap[D]? = some (.deferred (some [])) ∧ E.w0.heap.size ≤ D ∧ ∃ v, (∀ w₂, CellsLe w w₂ → (results fn a.tmps).run P w₂ = .ok v w₂) ∧ SEnd E n post (.returned v) w
 | .ret, a, w => ∃ D, a.defers = [mark D] ∧ w.heap[D]? = some (.deferred (some [])) ∧ E.w0.heap.size ≤ D ∧ ∃ v, (∀ w₂, CellsLe w w₂ → (results fn a.tmps).run P w₂ = .ok v w₂) ∧ SEnd E n post (.returned v) w
 | _, _, _ => False
theorem RD.rest {fn : Func} {post : SPost} {D : Nat} {a : Act} {w : World} (hr : RD E n D s a w) (hf : fixIn n.fix s.own = true) (h : ∀ E' : Env TB, Tri P E' ⟨n.n, boxKeys s.own, keysOf s.own, [mark D]⟩ y s (Ret P fn E' ⟨n.n, boxKeys s.own, keysOf s.own, [mark D]⟩ post)) : y.wp P (RetM P fn E n post) a w := by
 obtain ⟨h1, h2, h3, h4, hh, ρ, hw, hs⟩ := hr
 refine wp_mono (h ⟨w, hh, ρ, hw.tabs⟩ a w ⟨h1, h2, hh, ρ, hw.self (fixIn_plain hf) _ _, hs⟩) ?_
 have key : ∀ (a' : Act) (w' : World), (a'.defers = [mark D] ∧ ∃ v, (∀ w₂, CellsLe w' w₂ → (results fn a'.tmps).run P w₂ = .ok v w₂) ∧ SEnd (⟨w, hh, ρ, hw.tabs⟩ : Env TB) ⟨n.n, boxKeys s.own, keysOf s.own, [mark D]⟩ post (.returned v) w') →
   ∃ D, a'.defers = [mark D] ∧ w'.heap[D]? = some (.deferred (some [])) ∧ E.w0.heap.size ≤ D ∧ ∃ v, (∀ w₂, CellsLe w' w₂ → (results fn a'.tmps).run P w₂ = .ok v w₂) ∧ SEnd E n post (.returned v) w' := by
  rintro a' w' ⟨g1, v, g2, v', own', res, h', ρ', e1, e2, e3, e4⟩
  refine ⟨D, g1, (e3.same D (lt_of_get h3) (not_lent_inert hw h3 rfl)).trans h3, h4, v, g2, v', own', res, h', ρ', e1, e2, hw.all e3 fun k hk => ?_, e4⟩
  exact fixIn_fix hf k hk
 rintro (_ | _ | _ | _ | _ | _) a' w' h'
 all_goals first | exact key a' w' h' | exact h'.elim
theorem RD.ret {fn : Func} {post : SPost} {D : Nat} {a : Act} {w : World} (hr : RD E n D s a w) (hf : fixIn n.fix s.own = true) (h : ∀ E' : Env TB, Fin E' ⟨n.n, boxKeys s.own, keysOf s.own, [mark D]⟩ .ret s (Ret P fn E' ⟨n.n, boxKeys s.own, keysOf s.own, [mark D]⟩ post)) : RetM P fn E n post .ret a w := by
 obtain ⟨h1, h2, h3, h4, hh, ρ, hw, hs⟩ := hr
 obtain ⟨g1, v, g2, v', own', res, h', ρ', e1, e2, e3, e4⟩ := h ⟨w, hh, ρ, hw.tabs⟩ a w ⟨h1, h2, hh, ρ, hw.self (fixIn_plain hf) _ _, hs⟩
 refine ⟨D, h1, h3, h4, v, g2, v', own', res, h', ρ', e1, e2, hw.all e3 fun k hk => ?_, e4⟩
 exact fixIn_fix hf k hk
end
section
variable {P : Program} {TB : Tabs} {E : Env TB} {n : Sh} {s : St} {dst : Option Nat} {t ty yt : TypeId} {pos : String} {after : Array Edge} {g : Option (Nat × Bool)} {x y c : Operand}
def CP.rp (ps : List CP) : CP := ⟨fun h v => ∃ b o, v = .pointer (some ⟨b, o, none⟩) ∧ Reads h b o ps, fun hl ⟨b, o, e, hr⟩ => ⟨b, o, e, hr.mono hl⟩, fun ⟨b, o, e, _⟩ => by rw [e]; rfl⟩
end
end Go.Sk

namespace Go.Sk
set_option linter.unusedSimpArgs false
set_option linter.unusedVariables false
open Go Go.BigFrame
def wpLI (P : Program) (F : Fence) (ops : Array Oper) (Q : Post) : List Oper → Act → World → Prop
 | [], a, w => Q .normal a w
 | o :: rest, a, w => if Region.wanted o (yielded ops a.tmps) then o.wpIn F 0 P a w (wpLI P F ops Q rest) Q else wpLI P F ops Q rest (a.put o.dst undef) w
def OpsI (P : Program) {TB : Tabs} (E : Env TB) (n : Sh) (F : Fence) (ops : Array Oper) (l : List Oper) (s : St) (Q : Post) : Prop := ∀ a w, R E n s a w → wpLI P F ops Q l a w
section
variable {P : Program} {TB : Tabs} {E : Env TB} {n : Sh} {ops : Array Oper} {l : List Oper} {s s' : St} {Q : Post} {o : Oper} {F : Fence} {c : Code}
theorem OpsI.nil (h : Fin E n .normal s Q) : OpsI P E n F ops [] s Q := fun a w hr => h a w hr
theorem OpsI.keep (ks kos : List Nat) (hs : s.keep ks kos = s') (h : OpsI P E n F ops l s' Q) : OpsI P E n F ops l s Q := fun a w hr => h a w (hs ▸ hr.keep ks kos)
theorem OpsI.cons (hf : F = Fence.wide ∨ ∃ l, F = rnd l) (hg : o.guard = none) (h1 : Op1 P E n o s s') (h2 : OpsI P E n F ops l s' Q) (hd : noDef o = true := by rfl) : OpsI P E n F ops (o :: l) s Q := by
 intro a w hr
 unfold wpLI
 have : Region.wanted o (yielded ops a.tmps) = true := by simp [Region.wanted, hg]
 simp only [this, if_true]
 exact oper_in hf hd (fun a w h => h) (h1 a w hr _ _ fun a' w' hr' => h2 a' w' hr')
theorem OpsI.opt (k : Nat) {z : BV} (hk : lk s.slots k = some (.b z)) (h : OpsI P E n F ops l ⟨(k, .opt true z) :: del k s.slots, s.own⟩ Q) : OpsI P E n F ops l s Q := by
 rintro a w ⟨h1, hn, hh, ρ, hw, hs⟩
 refine h a w ⟨h1, hn, hh, ρ, hw, fun j x hx => ?_⟩
 rcases List.mem_cons.1 hx with e | hx
 ·obtain ⟨rfl, rfl⟩ := Prod.mk.inj e
  obtain ⟨v, hv, hr⟩ := hs _ _ (lk_mem hk)
  exact ⟨v, hv, fun _ => hr, fun e => by simp at e⟩
 ·exact hs j x (mem_del hx).1
theorem R.fresh {h : PH} {ρ : RM} {w : World} {slots : List (Nat × SV)} {a : Act} {m : Nat} (tb : TabsOk TB h w) (hag : Agree h w) (hd : a.defers = []) (hn : a.tmps.size = m) (hs : SlotsRel h ρ slots a.tmps) : R (⟨w, h, ρ, tb⟩ : Env TB) ⟨m, [], [], []⟩ ⟨slots, []⟩ a w :=
 ⟨hd, hn, h, ρ, WR.sh (n := ⟨0, boxKeys [], keysOf [], []⟩) rfl rfl (wr_start tb hag fun k c hk => by simp at hk), hs⟩
end
section
variable {P : Program} {TB : Tabs} {E : Env TB} {n : Sh} {s : St} {dst : Option Nat} {t ty yt : TypeId} {pos : String} {after : Array Edge} {g : Option (Nat × Bool)} {x y c : Operand}
end
section
variable {P : Program} {t : TypeId}
theorem op_eqnil_n {dst : Option Nat} {ty yt e : TypeId} {pos : String} {after : Array Edge} {g : Option (Nat × Bool)} {x : Operand} {TB : Tabs} {E : Env TB} {n : Sh} {s : St} (ht : P.underlying t = some (.slice e)) (hx : s.ev x = some (.b (.one .nil))) : Op1 P E n ⟨dst, .binOp .eql t x (.const (.slice none 0 0)) yt, ty, pos, after, g⟩ s (s.put n dst (B true)) :=
 Op1.val (o := ⟨dst, .binOp .eql t x (.const (.slice none 0 0)) yt, ty, pos, after, g⟩) fun ac w h ρ hw hs => by
  have hv : ac.eval x = .slice none 0 0 := (ev_rel hs hx : (CP.raw _).rel h _).1
  have hr := run_equal_nil ht w none 0 0
  refine ⟨.bool true, ?_, rfl⟩
  have hcst : ac.eval (.const (.slice none 0 0)) = .slice none 0 0 := rfl
  simp only [execOp, hv, hcst]
  simp [eqGuard, binOp, hr]
end
end Go.Sk

namespace Go.Sk
set_option linter.unusedSimpArgs false
set_option linter.unusedVariables false
open Go Go.BigFrame
def persP (k : Nat) (ps : List CP) : List (Nat × SV) → List (Nat × SV)
 | [] => []
 | (j, x) :: l => match x with
  | .b (.ptr k' o) => if k' = k then (j, .b (.eptr (ps.drop o))) :: persP k ps l else (j, x) :: persP k ps l
  | _ => (j, x) :: persP k ps l
theorem mem_persP {k : Nat} {ps : List CP} : ∀ {l : List (Nat × SV)} {j : Nat} {x : SV}, (j, x) ∈ persP k ps l → (j, x) ∈ l ∨ ∃ o, x = .b (.eptr (ps.drop o)) ∧ (j, .b (.ptr k o)) ∈ l
 | [], j, x, h => by simp [persP] at h
 | (i, y) :: l, j, x, h => by
  have keep : (j, x) ∈ (i, y) :: persP k ps l → (j, x) ∈ (i, y) :: l ∨ ∃ o, x = .b (.eptr (ps.drop o)) ∧ (j, .b (.ptr k o)) ∈ (i, y) :: l := fun h => by
   rcases List.mem_cons.1 h with e | h
   ·exact .inl (e ▸ List.mem_cons_self)
   ·rcases mem_persP h with h | ⟨o, e, h⟩
    ·exact .inl (List.mem_cons_of_mem _ h)
    ·exact .inr ⟨o, e, List.mem_cons_of_mem _ h⟩
  unfold persP at h
  split at h
  ·rename_i k' o
   split at h
   ·rename_i hk
    subst hk
    rcases List.mem_cons.1 h with e | h
    ·obtain ⟨rfl, rfl⟩ := Prod.mk.inj e
     exact .inr ⟨o, rfl, List.mem_cons_self⟩
    ·rcases mem_persP h with h | ⟨o, e, h⟩
     ·exact .inl (List.mem_cons_of_mem _ h)
     ·exact .inr ⟨o, e, List.mem_cons_of_mem _ h⟩
   ·exact keep h
  ·exact keep h
section
variable {P : Program} {TB : Tabs} {E : Env TB} {n : Sh} {s : St} {ops : Array Oper} {l : List Oper} {Q : Post} {cd : Code}
theorem R.persistB {k : Nat} {T : TypeId} {ps : List CP} {a : Act} {w : World} (hr : R E n s a w) (hk : lk s.own k = some (.box T ps)) : R E n ⟨persP k ps s.slots, del k s.own⟩ a w := by
 obtain ⟨h1, h2, h, ρ, hw, hs⟩ := hr
 obtain ⟨g, cur, hρ, hh, hc⟩ := box_cells hw hk
 have hown := hw.owned k _ (lk_mem hk)
 have hg := hown.2.1 g (.inl (by rw [hρ]; rfl))
 have hle : h.le (addRow h g cur.toList) := fun b o v hv => by
  unfold addRow
  split
  ·rename_i e; subst e; rw [hg.2 o] at hv; simp at hv
  ·exact hv
 have hrd : Reads (addRow h g cur.toList) g 0 ps := fun j c hj => by
  obtain ⟨u, hu, hp⟩ := hc.get j c hj
  exact ⟨u, by simp only [addRow, if_true, Nat.zero_add]; exact hu, c.mono hle hp⟩
 refine ⟨h1, h2, addRow h g cur.toList, ρ, ⟨?_, PH.le_trans hw.le hle, ?_, hw.size, hw.same, hw.fixed, hw.os, hw.out, hw.nl, ?_⟩, ?_⟩
 ·intro b o v hv
  unfold addRow at hv
  split at hv
  ·rename_i e; subst e
   exact look_cells hh (by simpa using hv) (hc.one v (List.mem_of_getElem? hv))
  ·exact hw.agree b o v hv
 ·intro b hb hnl
  rw [← hw.fresh b hb hnl]
  funext o
  unfold addRow
  rw [if_neg fun e => by
   subst e
   rcases hg.1 with h | h
   ·omega
   ·exact hnl h]
 ·intro j c hj
  obtain ⟨hj1, hj2⟩ := mem_del hj
  obtain ⟨e1, e2, e3⟩ := hw.owned j c hj1
  refine ⟨e1.mono hle, fun b hb => ⟨(e2 b hb).1, fun o => ?_⟩, fun j' c' hj' => e3 j' c' (mem_del hj').1⟩
  have hbg : b ≠ g := fun e => by
   subst e
   exact e3 k _ (lk_mem hk) (fun e => hj2 e.symm) b hb (.inl (by rw [hρ]; rfl))
  unfold addRow
  rw [if_neg hbg]
  exact (e2 b hb).2 o
 ·intro j x hx
  rcases mem_persP hx with hx2 | ⟨o, rfl, hx2⟩
  ·obtain ⟨v, hv, hrel⟩ := hs j x hx2
   exact ⟨v, hv, SV.mono hle (fun _ _ => rfl) hrel⟩
  ·obtain ⟨v, hv, b, e1, e2⟩ := hs j _ hx2
   rw [hρ] at e1
   have : g = b := by simpa using e1
   subst this
   exact ⟨v, hv, g, o, e2, by have := hrd.drop o; rwa [Nat.zero_add] at this⟩
theorem Tri.persistB (k : Nat) {T : TypeId} {ps : List CP} (hk : lk s.own k = some (.box T ps)) (h : Tri P E n cd ⟨persP k ps s.slots, del k s.own⟩ Q) : Tri P E n cd s Q := fun a w hr => h a w (hr.persistB hk)
theorem OpsL.persistB (k : Nat) {T : TypeId} {ps : List CP} (hk : lk s.own k = some (.box T ps)) (h : OpsL P E n ops l ⟨persP k ps s.slots, del k s.own⟩ Q) : OpsL P E n ops l s Q := fun a w hr => h a w (hr.persistB hk)
theorem Fin.persistB {e : Exit} (k : Nat) {T : TypeId} {ps : List CP} (hk : lk s.own k = some (.box T ps)) (h : Fin E n e ⟨persP k ps s.slots, del k s.own⟩ Q) : Fin E n e s Q := fun a w hr => h a w (hr.persistB hk)
end
end Go.Sk

namespace Go.Sk
set_option linter.unusedSimpArgs false
set_option linter.unusedVariables false
open Go Go.BigFrame
section
variable {P : Program} {TB : Tabs} {E : Env TB} {n : Sh} {s : St} {dst : Option Nat} {ty : TypeId} {pos : String} {after : Array Edge} {g : Option (Nat × Bool)} {x y : Operand}
end
end Go.Sk

namespace Go.Sk
set_option linter.unusedSimpArgs false
set_option linter.unusedVariables false
open Go Go.BigFrame
section
variable {P : Program} {TB : Tabs} {E : Env TB} {n : Sh} {s : St} {dst : Option Nat} {t ty yt : TypeId} {pos : String} {after : Array Edge} {g : Option (Nat × Bool)} {x y c : Operand} {Q : Post} {cd : Code} {ops : Array Oper} {l : List Oper}
variable {own : List (Nat × OC)} {h : PH} {ρ : RM} {w : World} {k kp i size bytes : Nat} {T e : TypeId} {hole : Hole} {ess : List (List (List CP))} {us : List Value} {v : Value}
theorem RrOk.len (x : RrOk h v w T e size hole ess us) : us.length = ess.length := by have := x.out.1; omega
theorem RrOk.at (x : RrOk h v w T e size hole ess us) {i : Nat} {u : Value} (hi : us[i]? = some u) : ∃ es, ess[i]? = some es := by
 have h4 : i < us.length := (List.getElem?_eq_some_iff.1 hi).1
 exact ⟨_, List.getElem?_eq_getElem (by rw [← x.len]; exact h4)⟩
theorem RrOk.foot (x : RrOk h v w T e size hole ess us) {b : Nat} : (OC.rr T e size hole ess).foot v w b ↔ blkOf v = some b ∨ ∃ (i : Nat) (u : Value), us[i]? = some u ∧ ¬ hole.has i ∧ blkOf u = some b := or_congr Iff.rfl x.inner
theorem RrOk.lt (x : RrOk h v w T e size hole ess us) {i b : Nat} {u : Value} (h1 : us[i]? = some u) (h2 : ¬ hole.has i) (h3 : blkOf u = some b) : b < w.heap.size := by
 obtain ⟨es, hes⟩ := x.at h1
 obtain ⟨xs, h6, _⟩ := (x.rows i u es h1 hes h2).row
 exact ownsRow_lt h6 h3
end
end Go.Sk

namespace Go.Sk
set_option linter.unusedSimpArgs false
set_option linter.unusedVariables false
open Go Go.BigFrame
section
variable {P : Program} {TB : Tabs} {E : Env TB} {n : Sh} {s : St} {dst : Option Nat} {t ty yt : TypeId} {pos : String} {after : Array Edge} {g : Option (Nat × Bool)} {x y c : Operand} {Q : Post} {cd : Code} {ops : Array Oper} {l : List Oper} {o : Oper}
variable {own : List (Nat × OC)} {h : PH} {ρ : RM} {w : World} {k kp i size bytes : Nat} {T e : TypeId} {hole : Hole} {ess : List (List (List CP))} {us : List Value} {v : Value}
variable {j ki : Nat} {m rest : MapI} {cur : Option (Int × Int)}
def xcv : List BV → Option (List CV)
 | [] => some []
 | z :: l => (BV.cv z).bind fun q => (xcv l).map fun r => q :: r
theorem xcv_rel : ∀ {zs : List BV} {cs : List CV} {vs : List Value}, xcv zs = some cs → All2 (fun (x : BV) u => x.rel h ρ u ∧ u.oneCell' = true) zs vs → All2 (fun (x : CV) u => x.rel h ρ u ∧ u.oneCell' = true) cs vs
 | [], cs, _, hc, .nil => by cases hc; exact .nil
 | z :: zs, cs, _, hc, .cons h1 t => by
  unfold xcv at hc
  simp only [Option.bind_eq_some_iff, Option.map_eq_some_iff] at hc
  obtain ⟨q, hq, r, hr, rfl⟩ := hc
  exact .cons ⟨BV.cv_rel hq h1.1, h1.2⟩ (xcv_rel hr t)
theorem Op1.res {s1 : St} {d : Option Nat} {z z' : SV} (h1 : Op1 P E n o s (s1.put n d z)) (hz : ∀ h ρ v, z.rel h ρ v → z'.rel h ρ v) : Op1 P E n o s (s1.put n d z') := fun a w hr next Q hn => h1 a w hr next Q fun a' w' hr' => hn a' w' (by
 cases d with
 | none => exact hr'
 | some d =>
  simp only [St.put, St.set] at hr' ⊢
  split at hr'
  ·next hd =>
   rw [if_pos hd]
   obtain ⟨h1, h2, h, ρ, hw, hs⟩ := hr'
   refine ⟨h1, h2, h, ρ, hw, fun j q hq => ?_⟩
   cases List.mem_cons.1 hq with
   | inl e =>
    obtain ⟨rfl, rfl⟩ := Prod.mk.inj e
    obtain ⟨u, hu, hrel⟩ := hs j z List.mem_cons_self
    exact ⟨u, hu, hz _ _ _ hrel⟩
   | inr e => exact hs j q (List.mem_cons_of_mem _ e)
  ·next hd => rw [if_neg hd]; exact hr')
theorem op_store_xx {k off m : Nat} {T : TypeId} {cs cs' : List BV} {z : SV} {qs : List BV} (ht : TyAgg P t m) (hx : s.ev x = some (.b (.ptr k off))) (hk : lk s.own k = some (.xbox T cs)) (hy : s.ev y = some z) (hz : z.xcells s.own = some qs) (hq : qs.length = m) (hlt : off + m ≤ cs.length) (hps : Sk.splice cs off qs = cs') :
  Op1 P E n ⟨none, .store t x y, ty, pos, after, g⟩ s ⟨s.slots, ins k (.xbox T cs') s.own⟩ :=
 Op1.store (o := ⟨none, .store t x y, ty, pos, after, g⟩) rfl fun ac w h ρ hw hs => by
  obtain ⟨b, he, hv⟩ := (ev_rel hs hx : BV.rel h ρ (.ptr k off) _)
  obtain ⟨b', cur, hb1, hb2, hb3⟩ := xbox_cells hw hk
  have : b' = b := by rw [hb1] at he; simpa using he
  subst this
  have hcr := SV.xcells_rel hw hz (ev_rel hs hy)
  obtain ⟨i, hi, hm⟩ := ht.size
  have hlen := hb3.length
  have hlen2 := hcr.length
  have hone : ∀ u ∈ (ac.eval y).cells.toList, u.oneCell' = true := fun u hu => by
   obtain ⟨q, _, hq⟩ := All2.mem_right hcr hu
   exact hq.2
  have hrun := run_store_at (P := P) (t := t) hi hm hb2 (v := ac.eval y) (o := off) (by simp at hlen2; omega) (by simp at hlen; omega) hone
  refine ⟨_, by simp only [execOp, hv, Instr.storeAt, Instr.sureAddr]; simp [hrun]; rfl, ?_⟩
  refine hw.setX hk hb1 hb2 ?_
  rw [← hps]
  exact All2.splice hb3 hcr off
end
end Go.Sk

namespace Go.Sk
set_option linter.unusedSimpArgs false
set_option linter.unusedVariables false
open Go
def Yld {α : Type} (m : Option α) (Q : α → Prop) : Prop := ∃ x, m = some x ∧ Q x
section
variable {α β γ δ ε : Type} {m : Option α} {Q : β → Prop} {P : α → Prop}
theorem Yld.some {x : β} (h : Q x) : Yld (some x) Q := ⟨x, rfl, h⟩
theorem Yld.bind {k : α → Option β} (h : Yld m P) (h2 : ∀ x, P x → Yld (k x) Q) : Yld (m.bind k) Q := by
 obtain ⟨x, rfl, hp⟩ := h
 exact h2 x hp
theorem Yld.bindE {k : α → Option β} {x : α} (h : m = Option.some x) (h2 : Yld (k x) Q) : Yld (m.bind k) Q := by
 subst h; exact h2
theorem Yld.ite {c : Bool} {A B : Option β} (h1 : c = true → Yld A Q) (h2 : c = false → Yld B Q) : Yld (if c = true then A else B) Q := by
 cases c
 ·exact h2 rfl
 ·exact h1 rfl
theorem Yld.ln {a : γ} {k : γ → Option β} (h : Yld (k a) Q) : Yld (letN a k) Q := h
theorem Yld.eq {x : α} (h : Yld m (· = x)) : m = Option.some x := by obtain ⟨y, h1, h2⟩ := h; rw [h1, h2]
theorem Yld.of {x : α} (h : m = Option.some x) : Yld m (· = x) := ⟨x, h, rfl⟩
theorem Yld.mono {P' : α → Prop} (h : Yld m P) (h2 : ∀ x, P x → P' x) : Yld m P' := by obtain ⟨x, h1, h3⟩ := h; exact ⟨x, h1, h2 x h3⟩
theorem Yld.idx [Inhabited α] {l : List α} {i : Int} {k : α → Option β} (h0 : 0 ≤ i) (h1 : i < l.length) (h : Yld (k (idx l i)) Q) : Yld ((idx? l i).bind k) Q := by
 rw [idx?_eq h0 h1]; exact h
theorem Yld.g1 [Inhabited α] {g : Bool} {k : α → Option β} (hg : g = true) (h : Yld (m.bind k) Q) : Yld ((gcall g m).bind k) Q := by subst hg; exact h
theorem Yld.g0 [Inhabited α] {g : Bool} {k : α → Option β} (hg : g = false) (h : Yld (k default) Q) : Yld ((gcall g m).bind k) Q := by subst hg; exact h
theorem Yld.quo {kd : IntKind} {a b : Int} {k : Int → Option β} (h0 : b ≠ 0) (h : Yld (k (kd.wrap (a.tdiv b))) Q) : Yld ((quo? kd a b).bind k) Q := by
 simp only [quo?, h0, if_false]; exact h
theorem Yld.rem {a b : Int} {k : Int → Option β} (h0 : b ≠ 0) (h : Yld (k (a.tmod b)) Q) : Yld ((rem? a b).bind k) Q := by
 simp only [rem?, h0, if_false]; exact h
theorem Yld.take {xs : List α} {i : Int} {k : List α → Option β} (h0 : 0 ≤ i) (h1 : i ≤ xs.length) (h : Yld (k (xs.take i.toNat)) Q) : Yld ((take? xs i).bind k) Q := by
 simp only [take?, h0, h1, and_self, if_true]; exact h
theorem Yld.drop {xs : List α} {i : Int} {k : List α → Option β} (h0 : 0 ≤ i) (h1 : i ≤ xs.length) (h : Yld (k (xs.drop i.toNat)) Q) : Yld ((drop? xs i).bind k) Q := by
 simp only [drop?, h0, h1, and_self, if_true]; exact h
theorem Yld.rounds {σ τ : Type} {body : σ → Option (σ ⊕ τ)} {Q : τ → Prop} (n : Nat) (I : Nat → σ → Prop) {s : σ} {F : Nat} (hF : n < F) (h0 : I 0 s)
  (step : ∀ k s, k ≤ n → I k s → Yld (body s) fun o => (∃ s', o = .inl s' ∧ I (k + 1) s' ∧ k < n) ∨ ∃ t, o = .inr t ∧ Q t) : Yld (iter F body s) Q := by
 have key : ∀ d F k s, k + d = n → d < F → I k s → Yld (iter F body s) Q := by
  intro d
  induction d with
  | zero =>
   intro F k s hk hF hI
   obtain ⟨F, rfl⟩ : ∃ f, F = f + 1 := ⟨F - 1, by omega⟩
   obtain ⟨o, ho, h⟩ := step k s (by omega) hI
   rw [iter_succ, ho]
   rcases h with ⟨s', rfl, _, hlt⟩ | ⟨t, rfl, hq⟩
   ·omega
   ·exact ⟨t, rfl, hq⟩
  | succ d ih =>
   intro F k s hk hF hI
   obtain ⟨F, rfl⟩ : ∃ f, F = f + 1 := ⟨F - 1, by omega⟩
   obtain ⟨o, ho, h⟩ := step k s (by omega) hI
   rw [iter_succ, ho]
   rcases h with ⟨s', rfl, hI', _⟩ | ⟨t, rfl, hq⟩
   ·exact ih F (k + 1) s' (by omega) (by omega) hI'
   ·exact ⟨t, rfl, hq⟩
 exact key n F 0 s (by omega) hF h0
theorem Yld.loop {σ τ : Type} {body : σ → Option (σ ⊕ τ)} {Q : τ → Prop} (I : σ → Prop) (μ : σ → Nat) {s : σ} {F : Nat} (h0 : I s) (hF : μ s < F)
  (step : ∀ s, I s → Yld (body s) fun o => (∃ s', o = .inl s' ∧ I s' ∧ μ s' < μ s) ∨ ∃ t, o = .inr t ∧ Q t) : Yld (iter F body s) Q := by
 refine iter_spec I μ Q (fun s hI => ?_) F s h0 hF
 obtain ⟨o, ho, h⟩ := step s hI
 refine ⟨o, ho, fun s' e => ?_, fun t e => ?_⟩
 ·subst e
  rcases h with ⟨s'', e, h1, h2⟩ | ⟨t, e, _⟩
  ·cases e; exact ⟨h1, h2⟩
  ·cases e
 ·subst e
  rcases h with ⟨s'', e, _⟩ | ⟨t', e, h1⟩
  ·cases e
  ·cases e; exact h1
end
theorem wu64 (z : Int) : IntKind.u64.wrap z = z % 18446744073709551616 := by simp [IntKind.wrap, IntKind.signed, IntKind.bits]
theorem wi64 (z : Int) : IntKind.i64.wrap z = (z + 9223372036854775808) % 18446744073709551616 - 9223372036854775808 := by
 simp [IntKind.wrap, IntKind.signed, IntKind.bits]; split <;> omega
theorem wi64' {z : Int} (h1 : -9223372036854775808 ≤ z) (h2 : z ≤ 9223372036854775807) : IntKind.i64.wrap z = z := by rw [wi64]; omega
theorem tmod_pos {a b : Int} (h : 0 ≤ a) : a.tmod b = a % b := Int.tmod_eq_emod_of_nonneg h
def ds (b : Int) (f : Nat → Int) : Nat → Int
 | 0 => 0
 | n + 1 => ds b f n + f n * b ^ n
def nd (b z : Int) (i : Nat) : Int := z / b ^ i % b
end Go.Sk

