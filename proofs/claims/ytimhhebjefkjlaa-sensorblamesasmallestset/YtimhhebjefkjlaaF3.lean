/- part of the proof: the framework -/
import Derived.Test.YtimhhebjefkjlaaF2
import Derived.LoopNIn
namespace Go.Sk
set_option linter.unusedSimpArgs false
set_option linter.unusedVariables false
open Go Go.BigFrame
def wpLI (P : Program) (F : Fence) (ops : Array Oper) (Q : Post) : List Oper → Act → World → Prop
 | [], a, w => Q .normal a w
 | o :: rest, a, w => if Region.wanted o (yielded ops a.tmps) then o.wpIn F 0 P a w (wpLI P F ops Q rest) Q else wpLI P F ops Q rest (a.put o.dst undef) w
def OpsI (P : Program) {TB : Tabs} (E : Env TB) (n : Sh) (F : Fence) (ops : Array Oper) (l : List Oper) (s : St) (Q : Post) : Prop := ∀ a w, R E n s a w → wpLI P F ops Q l a w
section
variable {P : Program} {TB : Tabs} {E : Env TB} {n : Sh} {ops : Array Oper} {l : List Oper} {s s' : St} {Q : Post} {o : Oper} {F : Fence} {c : Code}
theorem fn_of (hf : F = Fence.wide ∨ ∃ l, F = rnd l) (f : FuncId) : F.fn f := by rcases hf with rfl | ⟨l, rfl⟩ <;> trivial
theorem wpIn_mono1 {a : Act} {w : World} {K K' : Act → World → Prop} (hk : ∀ a w, K a w → K' a w) (h : o.wpIn F 0 P a w K Q) : o.wpIn F 0 P a w K' Q := by
 refine ⟨h.1, ?_⟩
 have h2 := h.2
 generalize (o.semAt F.round a.eval).run P w = r at *
 cases r with
 | ok nx w' =>
  cases nx with
  | value v => exact hk _ _ h2
  | skip => exact hk _ _ h2
  | defer d => exact hk _ _ h2
  | enter f args => exact ⟨h2.1, CallsIn.mono h2.2 fun e w'' he => by
    cases e with
    | returned v => exact hk _ _ he
    | panicked ch => exact he
    | outgrown => exact he⟩
  | row row args => exact ⟨h2.1, RowsIn.mono h2.2 fun _ _ he => hk _ _ he⟩
  | round l f tmps assign body => exact ⟨h2.1, RoundIn.mono h2.2 fun e w'' he => by
    cases e with
    | returned v => exact hk _ _ he
    | panicked ch => exact he
    | outgrown => exact he⟩
  | _ => exact h2.elim
 | halt q w' => cases q <;> first | exact h2 | exact h2.elim
theorem wpOpsIn_of_wpLI (hf : ∀ f, F.fn f) : ∀ (l : List Oper) (k : Nat), (∀ j, ops[k + j]? = l[j]?) → ∀ a w, wpLI P F ops Q l a w → wpOpsIn F 0 P ops Q (List.range' k l.length) a w
 | [], k, hl, a, w, h => by simpa [wpOpsIn, wpLI] using h
 | o :: l, k, hl, a, w, h => by
  have h0 : ops[k]? = some o := by simpa using hl 0
  have hr : ∀ j, ops[k + 1 + j]? = l[j]? := fun j => by have := hl (j + 1); rw [Nat.add_assoc, Nat.add_comm 1 j]; simpa using this
  simp only [List.length_cons, List.range'_succ, wpOpsIn, h0]
  unfold wpLI at h
  split
  ·rename_i hw
   simp only [hw, if_true] at h
   exact wpIn_mono1 (fun a w hh => wpOpsIn_of_wpLI hf l (k + 1) hr a w hh) h
  ·rename_i hw
   simp only [hw] at h
   exact ⟨fun f _ => hf f, wpOpsIn_of_wpLI hf l (k + 1) hr _ _ h⟩
theorem TriR.regionI {id : Nat} {l : List Oper} (hf : F = Fence.wide ∨ ∃ l, F = rnd l) (h : OpsI P E n F l.toArray l s Q) : TriR P E n F (.region id l.toArray false) s Q := by
 intro hq a w hr
 refine wpIn_region ?_
 have := wpOpsIn_of_wpLI (P := P) (ops := l.toArray) (Q := Q) (fn_of hf) l 0 (fun j => by simp) a w (h a w hr)
 simpa [List.range_eq_range'] using this
theorem OpsI.nil (h : Fin E n .normal s Q) : OpsI P E n F ops [] s Q := fun a w hr => h a w hr
theorem OpsI.keep (ks kos : List Nat) (hs : s.keep ks kos = s') (h : OpsI P E n F ops l s' Q) : OpsI P E n F ops l s Q := fun a w hr => h a w (hs ▸ hr.keep ks kos)
theorem OpsI.cons (hf : F = Fence.wide ∨ ∃ l, F = rnd l) (hg : o.guard = none) (h1 : Op1 P E n o s s') (h2 : OpsI P E n F ops l s' Q) (hd : noDef o = true := by rfl) : OpsI P E n F ops (o :: l) s Q := by
 intro a w hr
 unfold wpLI
 have : Region.wanted o (yielded ops a.tmps) = true := by simp [Region.wanted, hg]
 simp only [this, if_true]
 exact oper_in hf hd (fun a w h => h) (h1 a w hr _ _ fun a' w' hr' => h2 a' w' hr')
theorem OpsI.consT {j t : Nat} {want gd : Bool} (hf : F = Fence.wide ∨ ∃ l, F = rnd l) (hG : GuardAt s t want gd) (hgd : gd = true) (hg : o.guard = some (j, want)) (hj : (ops[j]?).bind (·.dst) = some t) (h1 : Op1 P E n o s s') (h2 : OpsI P E n F ops l s' Q) (hd : noDef o = true := by rfl) : OpsI P E n F ops (o :: l) s Q := by
 intro a w hr
 unfold wpLI
 have := hG.wanted hg hj hr
 rw [hgd] at this
 simp only [this, if_true]
 exact oper_in hf hd (fun a w h => h) (h1 a w hr _ _ fun a' w' hr' => h2 a' w' hr')
theorem OpsI.consF {j t : Nat} {want gd : Bool} (hG : GuardAt s t want gd) (hgd : gd = false) (hg : o.guard = some (j, want)) (hj : (ops[j]?).bind (·.dst) = some t) (z : BV) (h2 : OpsI P E n F ops l (s.put n o.dst (.opt false z)) Q) : OpsI P E n F ops (o :: l) s Q := by
 intro a w hr
 unfold wpLI
 have := hG.wanted hg hj hr
 rw [hgd] at this
 simp only [this, Bool.false_eq_true, if_false]
 obtain ⟨h1, hn, h, ρ, hw, hs⟩ := hr
 refine h2 _ _ (R.put h1 hn hw hs ⟨fun e => by simp at e, fun _ => rfl⟩)
theorem OpsI.stepT {j t : Nat} {want gd : Bool} (hG : GuardAt s t want gd) (hgd : gd = true) (hg : o.guard = some (j, want)) (hj : (ops[j]?).bind (·.dst) = some t) (h : ∀ a w, R E n s a w → o.wpIn F 0 P a w (wpLI P F ops Q l) Q) : OpsI P E n F ops (o :: l) s Q := by
 intro a w hr
 unfold wpLI
 have := hG.wanted hg hj hr
 rw [hgd] at this
 simp only [this, if_true]
 exact h a w hr
theorem OpsI.opt (k : Nat) {z : BV} (hk : lk s.slots k = some (.b z)) (h : OpsI P E n F ops l ⟨(k, .opt true z) :: del k s.slots, s.own⟩ Q) : OpsI P E n F ops l s Q := by
 rintro a w ⟨h1, hn, hh, ρ, hw, hs⟩
 refine h a w ⟨h1, hn, hh, ρ, hw, fun j x hx => ?_⟩
 rcases List.mem_cons.1 hx with e | hx
 ·obtain ⟨rfl, rfl⟩ := Prod.mk.inj e
  obtain ⟨v, hv, hr⟩ := hs _ _ (lk_mem hk)
  exact ⟨v, hv, fun _ => hr, fun e => by simp at e⟩
 ·exact hs j x (mem_del hx).1
theorem oper_yield {a : Act} {w : World} {K : Act → World → Prop} {L : Nat} {vals : Array Value} {Rr : Ending → World → Prop} (hd : noDef o = true) (hrun : (execOp a.eval o).run P w = (Instr.yield L vals).run P w) (hy : YieldAt Fence.wide 0 P L vals w Rr)
  (hR : ∀ e w', Rr e w' → ∃ v, e = .returned v ∧ K (a.put o.dst v) w') : o.wpIn Fence.wide 0 P a w K Q := by
 obtain ⟨fn, tmps, assign, body, h1, h2⟩ := hy
 refine ⟨fun _ _ => trivial, ?_⟩
 rw [Oper.semAt_eq _ _ _ (noDef_ne hd), hrun, h1]
 refine ⟨fun e => by simp [Fence.wide] at e, h2.mono fun e w' he => ?_⟩
 obtain ⟨v, rfl, hk⟩ := hR e w' he
 exact hk
theorem yield_run {dst : Option Nat} {x : Operand} {xs : Array Operand} {ats : Array TypeId} {ty : TypeId} {pos : String} {after : Array Edge} {g : Option (Nat × Bool)} {L : Nat} {a : Act} {w : World} (hx : a.eval x = .func (.yield L) #[] #[]) :
  (execOp a.eval ⟨dst, .call ⟨.value x, xs, ats⟩, ty, pos, after, g⟩).run P w = (Instr.yield L (xs.map a.eval)).run P w := by
 have e1 : execOp a.eval ⟨dst, .call ⟨.value x, xs, ats⟩, ty, pos, after, g⟩ = (do let d ← Deferred.ofValue (a.eval x) (xs.map a.eval); invoke d.target d.args) := rfl
 rw [e1, hx]
 have e2 : (do let d ← Deferred.ofValue (.func (.yield L) #[] #[]) (xs.map a.eval); invoke d.target d.args : Sem Next) = Instr.yield L (#[] ++ xs.map a.eval ++ #[]) := rfl
 rw [e2]
 simp
theorem loop_left {Inv : Nat → Act → World → Prop} (h : ∀ m a w, Inv m a w → c.wpIn F 0 P (Exit.then (fun a w => ∃ m', m = m' + 1 ∧ Inv m' a w) Q) a w) : ∀ m a w, Inv m a w → Code.roundsIn F 0 P c Q (m + 1) a w
 | m, a, w, hi => by
  rw [roundsIn_succ]
  refine wpIn_mono (h m a w hi) ?_
  rintro e a' w' hq
  cases e with
  | normal =>
   obtain ⟨m', rfl, hi'⟩ := hq
   exact loop_left h m' a' w' hi'
  | _ => exact hq
theorem args_slots {h : PH} {ρ : RM} {args : List BV} {vals : List Value} {m : Nat} (ha : All2 (fun (x : BV) v => x.rel h ρ v) args vals) (hl : args.length ≤ m) :
  SlotsRel h ρ (argSlots 0 args) (vals.toArray ++ Array.replicate (m - vals.toArray.size) undef) ∧ (vals.toArray ++ Array.replicate (m - vals.toArray.size) undef).size = m := by
 have hlen := ha.length
 refine ⟨fun k x hx => ?_, by simp; omega⟩
 obtain ⟨j, z, rfl, hz, rfl⟩ := mem_argSlots hx
 obtain ⟨v, hv, hr⟩ := ha.get j z hz
 refine ⟨v, ?_, hr⟩
 have hj := (List.getElem?_eq_some_iff.1 hv).1
 rw [Nat.zero_add, Array.getElem?_append_left (by simpa using hj)]
 simpa using hv
theorem R.fresh {h : PH} {ρ : RM} {w : World} {slots : List (Nat × SV)} {a : Act} {m : Nat} (tb : TabsOk TB h w) (hag : Agree h w) (hd : a.defers = []) (hn : a.tmps.size = m) (hs : SlotsRel h ρ slots a.tmps) : R (⟨w, h, ρ, tb⟩ : Env TB) ⟨m, [], [], []⟩ ⟨slots, []⟩ a w :=
 ⟨hd, hn, h, ρ, WR.sh (n := ⟨0, boxKeys [], keysOf [], []⟩) rfl rfl (wr_start tb hag fun k c hk => by simp at hk), hs⟩
end
section
variable {P : Program} {TB : Tabs} {E : Env TB} {n : Sh} {s : St} {dst : Option Nat} {t ty yt : TypeId} {pos : String} {after : Array Edge} {g : Option (Nat × Bool)} {x y c : Operand}
theorem op_nilCheck_r {j o : Nat} (hx : s.ev x = some (.b (.rptr j o))) : Op1 P E n ⟨dst, .nilCheck x, ty, pos, after, g⟩ s (s.put n dst (.b (.rptr j o))) :=
 Op1.val (o := ⟨dst, .nilCheck x, ty, pos, after, g⟩) fun ac w h ρ hw hs => by
  have hr := (ev_rel hs hx : BV.rel h ρ (.rptr j o) _)
  obtain ⟨b, l, c, he, hv⟩ := id hr
  refine ⟨_, ?_, hr⟩
  simp only [execOp, hv]; rfl
theorem WR.growR {own : List (Nat × OC)} {h : PH} {ρ : RM} {w w' : World} (hw : WR E n own h ρ w) {q : Nat} {cs : List Value} (h1 : w.heap.size ≤ w'.heap.size) (h2 : w'.os = w.os) (h3 : w'.output = w.output) (hsame : ∀ b, b < w.heap.size → w'.heap[b]? = w.heap[b]?) (hg : w.heap.size ≤ q)
  (hcs : ∀ j u, cs[j]? = some u → look w' q j = some u) : WR E n own (addRow h q cs) ρ w' ∧ h.le (addRow h q cs) := by
 have hno : ∀ {b k : Nat} {v : Value}, h b k = some v → b < w.heap.size := fun hv => lt_of_look (hw.agree _ _ _ hv)
 have hle : h.le (addRow h q cs) := fun b o v hv => by
  unfold addRow
  rw [if_neg (by have := hno hv; omega)]
  exact hv
 refine ⟨⟨fun b k v hv => ?_, PH.le_trans hw.le hle, fun b hb hl => ?_, Nat.le_trans hw.size h1, fun b hb hl => ?_, hw.fixed, h2.trans hw.os, h3.trans hw.out, hw.nl, fun k c hk => ?_⟩, hle⟩
 ·unfold addRow at hv
  split at hv
  ·rename_i e
   subst e
   exact hcs k v hv
  ·rw [look_congr (hsame b (hno hv))]; exact hw.agree b k v hv
 ·rw [← hw.fresh b hb hl]
  funext o
  unfold addRow
  rw [if_neg (by have := hw.size; omega)]
 ·have := hw.size
  rw [hsame b (by omega)]; exact hw.same b hb hl
 ·obtain ⟨e1, e2, e3⟩ := hw.owned k c hk
  refine ⟨(e1.congr fun b hb => hsame b (e1.lt hb)).mono hle, fun b hb => ⟨(e2 b hb).1, fun o => ?_⟩, e3⟩
  unfold addRow
  rw [if_neg (by have := e1.lt hb; omega)]
  exact (e2 b hb).2 o
theorem op_append_fp {size bytes : Nat} {e : TypeId} {zs : List CP} {es news es' : List (List CP)} (ht : TySl P t e size bytes zs) (hb : (es.length + news.length) * bytes ≤ 140737488355328) (hm : es.length + news.length ≤ 9223372036854775807) (hne : 0 < news.length)
  (hx : s.ev x = some (.b (.one (.slf size es)))) (hy : s.ev y = some (.b (.one (.sl size news)))) (he : es ++ news = es') :
  Op1 P E n ⟨dst, .call ⟨.builtin .append, #[x, y], #[t, t]⟩, ty, pos, after, g⟩ s (s.put n dst (.b (.one (.sl size es')))) := by
 subst he
 intro a w ⟨hdf, hn, h, ρ, hw, hs⟩ next Q hnext
 obtain ⟨v', w', hrun, h1, h2, h3, h4, h5, h6⟩ := appendF_core (ty := ty) hw ht (ev_rel hs hx : (CP.slf size es).rel h _) (Src.of_sl hw (ev_rel hs hy : (CP.sl size news).rel h _)) hb (by rw [maxLen_eq]; exact hm) hne
 have hrun' : (execOp a.eval ⟨dst, .call ⟨.builtin .append, #[x, y], #[t, t]⟩, ty, pos, after, g⟩).run P w = .ok (.value v') w' := by
  rw [execOp_builtin, builtin_append]
  simp [hrun]
 unfold Oper.wp
 rw [hrun']
 obtain ⟨hu, hz, xs, ⟨hl, ho⟩, hr⟩ := h5
 rcases ho with ⟨_, hn0⟩ | ⟨q, cap, cur, rfl, _, g2, g3, g4, g5, g6⟩
 ·exfalso
  rw [List.length_append] at hn0
  omega
 have hq := h6 q rfl
 obtain ⟨hwp, hle⟩ := hw.growR (q := q) (cs := xs) h1 h2 h3 h4 hq (fun j u hu => look_cells g2 (by
  rw [← g6, List.getElem?_take] at hu
  split at hu
  ·simpa using hu
  ·simp at hu) (hr.one u (List.mem_of_getElem? hu)))
 refine hnext _ _ (R.put (s := s) hdf hn hwp (hs.mono hle) ⟨hu, hz, .inr ⟨q, 0, cap, rfl, g3, g4, fun j c hc => ?_⟩⟩)
 obtain ⟨u, hu', hr'⟩ := hr.get j c hc
 exact ⟨u, by simp only [addRow, if_true, Nat.zero_add]; exact hu', c.mono hle hr'⟩
end
section
variable {P : Program} {t : TypeId}
def EqIs (P : Program) (d : Nat) (e : TypeId) (me : Nat) (ps qs : List CP) : List Nat → List Bool → Prop
 | [], [] => True
 | i :: is, r :: rs => (∃ p' q', (ps.drop (i * me)).take me = p' ∧ (qs.drop (i * me)).take me = q' ∧ p'.length = me ∧ q'.length = me ∧ EqPart P d e me p' q' r) ∧ EqIs P d e me ps qs is rs
 | _, _ => False
theorem eqIs_run {d me : Nat} {e : TypeId} {h : PH} {ps qs : List CP} {A B : Array Value} (hp : cellsRel h ps A.toList) (hq : cellsRel h qs B.toList) (w : World) : ∀ {is : List Nat} {rs : List Bool}, EqIs P d e me ps qs is rs → (Op.eqItems d e me A B is).run P w = .ok (rs.all id) w
 | [], [], _ => rfl
 | [], _ :: _, h => h.elim
 | _ :: _, [], h => h.elim
 | i :: is, r :: rs, ⟨⟨p', q', e1, e2, l1, l2, he⟩, h3⟩ => by
  have ih := eqIs_run hp hq w h3
  obtain ⟨a, b, r1, r2, r3⟩ := he h w A B (i * me) (by rw [← e1]; exact All2.take (All2.drop hp _) _) (by rw [← e2]; exact All2.take (All2.drop hq _) _) l1 l2
  unfold Op.eqItems
  rw [Sem.run_bind, r1, Result.andThen, Sem.run_bind, r2, Result.andThen, Sem.run_bind, r3, Result.andThen]
  cases r
  ·simp
  ·simpa using ih
theorem EqPart.arrS {d m k me : Nat} {e : TypeId} {ps qs : List CP} {is : List Nat} {rs : List Bool} {r : Bool} (ta : TyAgg P t m) (hu : P.underlying t = some (.array k e)) (te : TyAgg P e me) (hl : List.range k = is) (hc : EqIs P d e me ps qs is rs) (hr : rs.all id = r) : EqPart P (d + 1) t m ps qs r := by
 intro h w A B off ha hb l1 l2
 obtain ⟨i, hi, hs⟩ := te.size
 refine ⟨_, _, run_part_agg ta w, run_part_agg ta w, ?_⟩
 have hce : P.cellsOf e = me := by simp [Program.cellsOf, hi, hs]
 rw [run_equalIn_array w d _ _ hu hi, hce, hl, eqIs_run (by rw [extract_list]; exact ha) (by rw [extract_list]; exact hb) w hc, hr]
theorem op_eqnil_n {dst : Option Nat} {ty yt e : TypeId} {pos : String} {after : Array Edge} {g : Option (Nat × Bool)} {x : Operand} {TB : Tabs} {E : Env TB} {n : Sh} {s : St} (ht : P.underlying t = some (.slice e)) (hx : s.ev x = some (.b (.one .nil))) : Op1 P E n ⟨dst, .binOp .eql t x (.const (.slice none 0 0)) yt, ty, pos, after, g⟩ s (s.put n dst (B true)) :=
 Op1.val (o := ⟨dst, .binOp .eql t x (.const (.slice none 0 0)) yt, ty, pos, after, g⟩) fun ac w h ρ hw hs => by
  have hv : ac.eval x = .slice none 0 0 := (ev_rel hs hx : (CP.raw _).rel h _).1
  have hr := run_equal_nil ht w none 0 0
  refine ⟨.bool true, ?_, rfl⟩
  have hcst : ac.eval (.const (.slice none 0 0)) = .slice none 0 0 := rfl
  simp only [execOp, hv, hcst]
  simp [eqGuard, binOp, hr]
theorem op_eqnil_r {dst : Option Nat} {ty yt e : TypeId} {pos : String} {after : Array Edge} {g : Option (Nat × Bool)} {x : Operand} {TB : Tabs} {E : Env TB} {n : Sh} {s : St} {k size : Nat} {T : TypeId} {es : List (List CP)} (ht : P.underlying t = some (.slice e)) (hx : s.ev x = some (.b (.row k))) (hk : lk s.own k = some (.row T size es)) (hne : es ≠ []) : Op1 P E n ⟨dst, .binOp .eql t x (.const (.slice none 0 0)) yt, ty, pos, after, g⟩ s (s.put n dst (B false)) :=
 Op1.val (o := ⟨dst, .binOp .eql t x (.const (.slice none 0 0)) yt, ty, pos, after, g⟩) fun ac w h ρ hw hs => by
  have hv : ac.eval x = ρ k := (ev_rel hs hx : BV.rel h ρ (.row k) _)
  obtain ⟨hu, hz, hf⟩ := row_form hw hk
  rcases hf with ⟨_, he⟩ | ⟨b, cap, cur, h1, _⟩
  ·exact absurd he hne
  have hr := run_equal_nil ht w (some ⟨b, 0, none⟩) es.length cap
  refine ⟨.bool false, ?_, rfl⟩
  have hcst : ac.eval (.const (.slice none 0 0)) = .slice none 0 0 := rfl
  simp only [execOp, hv, hcst, h1]
  simp [eqGuard, binOp, hr]
end
theorem iter_inv {σ τ : Type} {body : σ → Option (σ ⊕ τ)} (I : σ → Prop) (Post : τ → Prop) (step : ∀ s z, I s → body s = some z → (∀ s', z = .inl s' → I s') ∧ ∀ y, z = .inr y → Post y) : ∀ (n : Nat) (s : σ) {r : τ}, I s → iter n body s = some r → Post r
 | 0, s, r, _, h => by simp [iter] at h
 | n + 1, s, r, hi, h => by
  rw [iter_succ] at h
  cases hb : body s with
  | none => simp [hb] at h
  | some z =>
   obtain ⟨s1, s2⟩ := step s z hi hb
   rw [hb] at h
   cases z with
   | inl s' => exact iter_inv I Post step n s' (s1 s' rfl) h
   | inr y =>
    have : y = r := by simpa [alt2] using h
    exact this ▸ s2 y rfl
end Go.Sk

namespace Go.Sk
set_option linter.unusedSimpArgs false
set_option linter.unusedVariables false
open Go Go.BigFrame
section
variable {P : Program} {TB : Tabs} {E : Env TB} {n : Sh} {s : St} {ops : Array Oper} {l : List Oper} {Q : Post} {cd : Code}
end
end Go.Sk

namespace Go.Sk
set_option linter.unusedSimpArgs false
set_option linter.unusedVariables false
open Go Go.BigFrame
section
variable {P : Program} {TB : Tabs} {E : Env TB} {n : Sh} {s : St} {dst : Option Nat} {ty : TypeId} {pos : String} {after : Array Edge} {g : Option (Nat × Bool)} {x y : Operand}
end
end Go.Sk

