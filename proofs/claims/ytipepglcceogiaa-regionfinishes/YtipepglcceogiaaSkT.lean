/- The framework, part T: boxes that hold rows; keys of a contract exchanged; ends that give back what was lent. -/
import Derived.Test.YtipepglcceogiaaSkS
namespace Go.Sk
set_option linter.unusedSimpArgs false
set_option linter.unusedVariables false
open Go Go.BigFrame
section
variable {P : Program} {E : Env} {n : Sh} {s s' : St} {dst : Option Nat} {t ty yt : TypeId} {pos : String} {after : Array Edge} {g : Option (Nat × Bool)} {x y c : Operand} {ops : Array Oper} {l : List Oper} {Q : Post} {cd : Code}

/-- a cell of a box: its value, and that it is of one cell -/
def CR (h : PH) (ρ : RM) (z : BV) (u : Value) : Prop := z.rel h ρ u ∧ u.oneCell' = true
def BV.cellOk (own : List (Nat × OC)) : BV → Bool
  | .one _ => true
  | .ptr _ _ => true
  | .row j => match lk own j with
    | some (.row _ _ _) => true
    | _ => false
  | _ => false
theorem cell_of {own : List (Nat × OC)} {h : PH} {ρ : RM} {w : World} (hw : WR E n own h ρ w) {z : BV} (hz : z.cellOk own = true) {v : Value} (hv : z.rel h ρ v) : CR h ρ z v := by
  refine ⟨hv, ?_⟩
  cases z with
  | one p => exact p.one hv
  | ptr k off => obtain ⟨b, _, rfl⟩ := hv; rfl
  | row j =>
    have hv' : v = ρ j := hv
    simp only [BV.cellOk] at hz
    cases e : lk own j with
    | none => rw [e] at hz; simp at hz
    | some c =>
      rw [e] at hz
      cases c with
      | row T size es =>
        obtain ⟨_, _, hf⟩ := row_form hw e
        rcases hf with ⟨h1, _⟩ | ⟨b, cap, cur, h1, _⟩ <;> rw [hv', h1] <;> rfl
      | _ => simp at hz
  | _ => simp [BV.cellOk] at hz
theorem upd_self (ρ : RM) (k : Nat) : upd ρ k (ρ k) = ρ := by funext j; simp only [upd]; split <;> simp_all
/-- other words for a block -/
theorem WR.repl {own : List (Nat × OC)} {h : PH} {ρ : RM} {w : World} (hw : WR E n own h ρ w) {k : Nat} {c0 c' : OC} (hk : lk own k = some c0) (hc : c'.ok h ρ (ρ k) w) : WR E n (ins k c' own) h ρ w := by
  have := hw.step (w' := w) k (ρ k) c' (blkOf (ρ k)) (fun b e => ⟨c0, lk_mem hk, e⟩) (Nat.le_refl _) rfl rfl (fun _ _ _ => rfl) (by rw [upd_self]; exact hc) (fun b hb => .inl hb) (.inl rfl) (.inl rfl)
  rwa [upd_self] at this
theorem xbox_cells {own : List (Nat × OC)} {h : PH} {ρ : RM} {w : World} (hw : WR E n own h ρ w) {k : Nat} {T : TypeId} {cs : List BV} (hk : lk own k = some (.xbox T cs)) :
    ∃ b cur, ρ k = .pointer (some ⟨b, 0, none⟩) ∧ w.heap[b]? = some (.cells cur T (0, 0)) ∧ All2 (CR h ρ) cs cur.toList := (hw.owned k _ (lk_mem hk)).1
theorem ones_rel {h : PH} {ρ : RM} : ∀ {ps : List CP} {vs : List Value}, cellsRel h ps vs → All2 (CR h ρ) (ps.map BV.one) vs
  | [], _, h => by cases h; exact .nil
  | p :: ps, _, h => by cases h with | cons h1 h2 => exact .cons ⟨h1, p.one h1⟩ (ones_rel h2)
theorem rel_ones {h : PH} {ρ : RM} : ∀ {ps : List CP} {vs : List Value}, All2 (CR h ρ) (ps.map BV.one) vs → cellsRel h ps vs
  | [], _, h => by cases h; exact .nil
  | p :: ps, _, h => by cases h with | cons h1 h2 => exact .cons h1.1 (rel_ones h2)
/-- a box, seen as one that may hold rows -/
theorem R.toX {a : Act} {w : World} (hr : R E n s a w) (k : Nat) {T : TypeId} {ps : List CP} (hk : lk s.own k = some (.box T ps)) : R E n ⟨s.slots, ins k (.xbox T (ps.map .one)) s.own⟩ a w := by
  obtain ⟨hd, hn, h, ρ, hw, hs⟩ := hr
  obtain ⟨b, cur, e1, e2, e3⟩ := box_cells hw hk
  exact ⟨hd, hn, h, ρ, hw.repl hk ⟨b, cur, e1, e2, ones_rel e3⟩, hs⟩
def ones : List BV → Option (List CP)
  | [] => some []
  | .one p :: l => (ones l).map (p :: ·)
  | _ :: _ => none
theorem ones_eq : ∀ {cs : List BV} {ps : List CP}, ones cs = some ps → cs = ps.map BV.one
  | [], ps, h => by simp [ones] at h; subst h; rfl
  | z :: cs, ps, h => by
    cases z with
    | one p =>
      simp only [ones, Option.map_eq_some_iff] at h
      obtain ⟨q, hq, rfl⟩ := h
      rw [ones_eq hq]; rfl
    | _ => simp [ones] at h
theorem R.unX {a : Act} {w : World} (hr : R E n s a w) (k : Nat) {T : TypeId} {cs : List BV} {ps : List CP} (hk : lk s.own k = some (.xbox T cs)) (ho : ones cs = some ps) : R E n ⟨s.slots, ins k (.box T ps) s.own⟩ a w := by
  obtain ⟨hd, hn, h, ρ, hw, hs⟩ := hr
  obtain ⟨b, cur, e1, e2, e3⟩ := xbox_cells hw hk
  rw [ones_eq ho] at e3
  exact ⟨hd, hn, h, ρ, hw.repl hk ⟨b, cur, e1, e2, rel_ones e3⟩, hs⟩
/-- a cell of which nothing more is known -/
theorem R.forget {a : Act} {w : World} (hr : R E n s a w) (k off : Nat) {T : TypeId} {cs : List BV} (hk : lk s.own k = some (.xbox T cs)) : R E n ⟨s.slots, ins k (.xbox T (cs.set off (.one .any))) s.own⟩ a w := by
  obtain ⟨hd, hn, h, ρ, hw, hs⟩ := hr
  obtain ⟨b, cur, e1, e2, e3⟩ := xbox_cells hw hk
  refine ⟨hd, hn, h, ρ, hw.repl hk ⟨b, cur, e1, e2, ?_⟩, hs⟩
  have : ∀ {cs : List BV} {vs : List Value} (i : Nat), All2 (CR h ρ) cs vs → All2 (CR h ρ) (cs.set i (.one .any)) vs := by
    intro cs vs i ha
    induction ha generalizing i with
    | nil => simp; exact .nil
    | cons h1 t ih => cases i with
      | zero => simp; exact .cons ⟨h1.2, h1.2⟩ t
      | succ i => simp; exact .cons h1 (ih i)
  exact this off e3
theorem Tri.toX (k : Nat) {T : TypeId} {ps : List CP} (hk : lk s.own k = some (.box T ps)) (h : Tri P E n cd ⟨s.slots, ins k (.xbox T (ps.map .one)) s.own⟩ Q) : Tri P E n cd s Q := fun a w hr => h a w (hr.toX k hk)
theorem OpsL.toX (k : Nat) {T : TypeId} {ps : List CP} (hk : lk s.own k = some (.box T ps)) (h : OpsL P E n ops l ⟨s.slots, ins k (.xbox T (ps.map .one)) s.own⟩ Q) : OpsL P E n ops l s Q := fun a w hr => h a w (hr.toX k hk)
theorem Fin.toX {e : Exit} (k : Nat) {T : TypeId} {ps : List CP} (hk : lk s.own k = some (.box T ps)) (h : Fin E n e ⟨s.slots, ins k (.xbox T (ps.map .one)) s.own⟩ Q) : Fin E n e s Q := fun a w hr => h a w (hr.toX k hk)
theorem Tri.unX (k : Nat) {T : TypeId} {cs : List BV} {ps : List CP} (hk : lk s.own k = some (.xbox T cs)) (ho : ones cs = some ps) (h : Tri P E n cd ⟨s.slots, ins k (.box T ps) s.own⟩ Q) : Tri P E n cd s Q := fun a w hr => h a w (hr.unX k hk ho)
theorem OpsL.unX (k : Nat) {T : TypeId} {cs : List BV} {ps : List CP} (hk : lk s.own k = some (.xbox T cs)) (ho : ones cs = some ps) (h : OpsL P E n ops l ⟨s.slots, ins k (.box T ps) s.own⟩ Q) : OpsL P E n ops l s Q := fun a w hr => h a w (hr.unX k hk ho)
theorem Fin.unX {e : Exit} (k : Nat) {T : TypeId} {cs : List BV} {ps : List CP} (hk : lk s.own k = some (.xbox T cs)) (ho : ones cs = some ps) (h : Fin E n e ⟨s.slots, ins k (.box T ps) s.own⟩ Q) : Fin E n e s Q := fun a w hr => h a w (hr.unX k hk ho)
theorem Tri.forget (k off : Nat) {T : TypeId} {cs : List BV} (hk : lk s.own k = some (.xbox T cs)) (h : Tri P E n cd ⟨s.slots, ins k (.xbox T (cs.set off (.one .any))) s.own⟩ Q) : Tri P E n cd s Q := fun a w hr => h a w (hr.forget k off hk)
theorem OpsL.forget (k off : Nat) {T : TypeId} {cs : List BV} (hk : lk s.own k = some (.xbox T cs)) (h : OpsL P E n ops l ⟨s.slots, ins k (.xbox T (cs.set off (.one .any))) s.own⟩ Q) : OpsL P E n ops l s Q := fun a w hr => h a w (hr.forget k off hk)
theorem Fin.forget {e : Exit} (k off : Nat) {T : TypeId} {cs : List BV} (hk : lk s.own k = some (.xbox T cs)) (h : Fin E n e ⟨s.slots, ins k (.xbox T (cs.set off (.one .any))) s.own⟩ Q) : Fin E n e s Q := fun a w hr => h a w (hr.forget k off hk)

theorem op_load_x1 {k off : Nat} {T : TypeId} {cs : List BV} {z : BV} (ht : TyOne P t) (hx : s.ev x = some (.b (.ptr k off))) (hk : lk s.own k = some (.xbox T cs)) (hp : cs[off]? = some z) :
    Op1 P E n ⟨dst, .load t x, ty, pos, after, g⟩ s (s.put n dst (.b z)) :=
  Op1.val (o := ⟨dst, .load t x, ty, pos, after, g⟩) fun ac w h ρ hw hs => by
    obtain ⟨b, he, hv⟩ := (ev_rel hs hx : BV.rel h ρ (.ptr k off) _)
    obtain ⟨b', cur, hb1, hb2, hb3⟩ := xbox_cells hw hk
    have : b' = b := by rw [hb1] at he; simpa using he
    subst this
    obtain ⟨u, hu, hpu⟩ := hb3.get off z hp
    have := run_load_one ht (w := w) (b := b') (o := off) (v := u) (by rw [cell_row hb2]; simpa using hu)
    refine ⟨u, ?_, hpu.1⟩
    simp only [execOp, hv, Instr.loadAt, Instr.sureAddr]
    simp [this]
theorem op_load_xa {k off m : Nat} {T : TypeId} {cs zs : List BV} (ht : TyAgg P t m) (hx : s.ev x = some (.b (.ptr k off))) (hk : lk s.own k = some (.xbox T cs)) (hp : (cs.drop off).take m = zs) (hq : zs.length = m) :
    Op1 P E n ⟨dst, .load t x, ty, pos, after, g⟩ s (s.put n dst (.xagg zs)) :=
  Op1.val (o := ⟨dst, .load t x, ty, pos, after, g⟩) fun ac w h ρ hw hs => by
    obtain ⟨b, he, hv⟩ := (ev_rel hs hx : BV.rel h ρ (.ptr k off) _)
    obtain ⟨b', cur, hb1, hb2, hb3⟩ := xbox_cells hw hk
    have : b' = b := by rw [hb1] at he; simpa using he
    subst this
    have hc : All2 (CR h ρ) zs ((cur.toList.drop off).take m) := by rw [← hp]; exact All2.take (All2.drop hb3 off) m
    refine ⟨.agg ((cur.toList.drop off).take m).toArray, ?_, _, rfl, hc⟩
    have := run_load_agg ht (w := w) (b := b') (o := off) (cs := (cur.toList.drop off).take m) (by rw [← hc.length, hq]) (fun j v hv => by
      rw [cell_row hb2]
      rw [List.getElem?_take] at hv
      split at hv
      · simpa using hv
      · simp at hv)
    simp only [execOp, hv, Instr.loadAt, Instr.sureAddr]
    simp [this]
theorem op_load_xp {k off m : Nat} {T : TypeId} {cs : List BV} {qs : List CP} (ht : TyAgg P t m) (hx : s.ev x = some (.b (.ptr k off))) (hk : lk s.own k = some (.xbox T cs)) (hp : ones ((cs.drop off).take m) = some qs) (hq : qs.length = m) :
    Op1 P E n ⟨dst, .load t x, ty, pos, after, g⟩ s (s.put n dst (.b (.agg qs))) := by
  intro a w hr next Q hnext
  refine op_load_xa ht hx hk (ones_eq hp) (by simpa using hq) a w hr next Q fun a' w' hr' => hnext a' w' ?_
  obtain ⟨hd, hn, h, ρ, hw, hs⟩ := hr'
  refine ⟨hd, hn, h, ρ, ?_, ?_⟩
  · cases dst with
    | none => exact hw
    | some d =>
      simp only [St.put, St.set] at hw ⊢
      split at hw
      · rename_i hdn; simp only [hdn, if_true]; exact hw
      · rename_i hdn; simp only [hdn, if_false]; exact hw
  · cases dst with
    | none => exact hs
    | some d =>
      simp only [St.put, St.set] at hs ⊢
      split at hs
      · rename_i hdn
        simp only [hdn, if_true]
        intro j y hy
        cases List.mem_cons.1 hy with
        | inl e =>
          obtain ⟨rfl, rfl⟩ := Prod.mk.inj e
          obtain ⟨v, hv, vs, e2, ha⟩ := hs j _ List.mem_cons_self
          exact ⟨v, hv, vs, e2, rel_ones ha⟩
        | inr e => exact hs j y (List.mem_cons_of_mem _ e)
      · rename_i hdn
        simp only [hdn, if_false]
        exact hs
theorem WR.setX {h : PH} {ρ : RM} {own : List (Nat × OC)} {w : World} (hw : WR E n own h ρ w) {k b : Nat} {T : TypeId} {ps ps' : List BV} {cur : Array Value} {cs : List Value} (hk : lk own k = some (.xbox T ps)) (hρ : ρ k = .pointer (some ⟨b, 0, none⟩))
    (hb : w.heap[b]? = some (.cells cur T (0, 0))) (hr : All2 (CR h ρ) ps' cs) : WR E n (ins k (.xbox T ps') own) h ρ (w.setRow b cs.toArray) := by
  have hst := hw.step (w' := w.setRow b cs.toArray) k (ρ k) (.xbox T ps') (some b) (fun b' e => by cases e; exact ⟨_, lk_mem hk, by rw [hρ]; rfl⟩) (by simp) rfl rfl
    (fun b' _ hne => setRow_other _ _ _ _ (fun e => hne (by rw [e]))) (by rw [upd_self]; exact ⟨b, cs.toArray, hρ, setRow_heap _ _ _ _ _ _ hb, hr⟩) (fun b' hb' => by rw [hρ] at hb'; simp [blkOf] at hb'; exact .inl (by rw [hb'])) (.inl rfl) (.inl rfl)
  rwa [upd_self] at hst
theorem cells_one {v : Value} (h : v.oneCell' = true) : v.cells = #[v] := by cases v <;> first | rfl | simp [Value.oneCell'] at h
theorem op_store_x1 {k off : Nat} {T : TypeId} {cs cs' : List BV} {z : BV} (ht : TyOne P t) (hx : s.ev x = some (.b (.ptr k off))) (hk : lk s.own k = some (.xbox T cs)) (hy : s.ev y = some (.b z)) (hz : z.cellOk s.own = true) (hlt : off < cs.length) (hps : cs.set off z = cs') :
    Op1 P E n ⟨none, .store t x y, ty, pos, after, g⟩ s ⟨s.slots, ins k (.xbox T cs') s.own⟩ :=
  Op1.store (o := ⟨none, .store t x y, ty, pos, after, g⟩) rfl fun ac w h ρ hw hs => by
    obtain ⟨b, he, hv⟩ := (ev_rel hs hx : BV.rel h ρ (.ptr k off) _)
    obtain ⟨b', cur, hb1, hb2, hb3⟩ := xbox_cells hw hk
    have : b' = b := by rw [hb1] at he; simpa using he
    subst this
    have hp : CR h ρ z (ac.eval y) := cell_of hw hz (ev_rel hs hy)
    obtain ⟨i, hi, hm⟩ := ht.size
    have hcells := cells_one hp.2
    have hlen := hb3.length
    have hrun := run_store_at (P := P) (t := t) hi hm hb2 (v := ac.eval y) (o := off) (by rw [hcells]; rfl) (by simp at hlen; omega) (by rw [hcells]; simpa using hp.2)
    refine ⟨_, by simp only [execOp, hv, Instr.storeAt, Instr.sureAddr]; simp [hrun]; rfl, ?_⟩
    refine hw.setX hk hb1 hb2 ?_
    rw [← hps]
    have hset : Sk.splice cur.toList off (ac.eval y).cells.toList = cur.toList.set off (ac.eval y) := by
      rw [hcells]
      have : off < cur.toList.length := by rw [← hlen]; exact hlt
      simp only [Sk.splice, List.length_cons, List.length_nil]
      rw [List.set_eq_take_append_cons_drop, if_pos this]; simp
    rw [hset]
    exact All2.set hb3 off hp
theorem op_store_xp {k off m : Nat} {T : TypeId} {cs cs' : List BV} {qs : List CP} (ht : TyAgg P t m) (hx : s.ev x = some (.b (.ptr k off))) (hk : lk s.own k = some (.xbox T cs)) (hy : s.ev y = some (.b (.agg qs))) (hq : qs.length = m) (hlt : off + m ≤ cs.length) (hps : Sk.splice cs off (qs.map .one) = cs') :
    Op1 P E n ⟨none, .store t x y, ty, pos, after, g⟩ s ⟨s.slots, ins k (.xbox T cs') s.own⟩ :=
  Op1.store (o := ⟨none, .store t x y, ty, pos, after, g⟩) rfl fun ac w h ρ hw hs => by
    obtain ⟨b, he, hv⟩ := (ev_rel hs hx : BV.rel h ρ (.ptr k off) _)
    obtain ⟨b', cur, hb1, hb2, hb3⟩ := xbox_cells hw hk
    have : b' = b := by rw [hb1] at he; simpa using he
    subst this
    obtain ⟨vs, hcv, hcr⟩ := (ev_rel hs hy : BV.rel h ρ (.agg qs) _)
    obtain ⟨i, hi, hm⟩ := ht.size
    have hlen := hb3.length
    have hlen2 := hcr.length
    have hrun := run_store_at (P := P) (t := t) hi hm hb2 (v := .agg vs) (o := off) (by simp [Value.cells] at hlen2 ⊢; omega) (by simp at hlen; omega) (by simpa [Value.cells] using hcr.one)
    refine ⟨_, by simp only [execOp, hv, hcv, Instr.storeAt, Instr.sureAddr]; simp [hrun]; rfl, ?_⟩
    refine hw.setX hk hb1 hb2 ?_
    rw [← hps]
    exact All2.splice hb3 (ones_rel hcr) off
theorem op_box_x {T k : Nat} {zs : List BV} (hx : s.ev x = some (.xagg zs)) (hfx : n.fix.contains k = false) (hself : (zs.any (·.uses k)) = false) (hnu : noUse k s.own = true := by rfl) : Op1 P E n ⟨dst, .box T x, ty, pos, after, g⟩ s ((⟨dropU k s.slots, ins k (.xbox T zs) s.own⟩ : St).put n dst (.b (.ptr k 0))) :=
  Op1.make (hfx := hfx) (hnu := hnu) (o := ⟨dst, .box T x, ty, pos, after, g⟩) fun ac w h ρ hw hs => by
    obtain ⟨cs, hv, hr⟩ := (ev_rel hs hx : SV.rel h ρ (.xagg zs) _)
    refine ⟨.pointer (some ⟨w.heap.size, 0, none⟩), .pointer (some ⟨w.heap.size, 0, none⟩), w.alloc (.cells cs T), none, ?_, fun b e => by simp at e, by simp, rfl, rfl, fun b hb _ => heap_alloc_old w _ hb, OC.ok.ren (c := .xbox T zs) ⟨w.heap.size, cs, rfl, heap_alloc_new w _, hr⟩ fun j hj => upd_other _ _ fun e => by subst e; simp only [OC.uses] at hj; rw [hself] at hj; simp at hj,
      fun b e => by simp [blkOf] at e; subst e; exact .inr (Nat.le_refl _), w.heap.size, upd_same _ _ _, rfl⟩
    simp only [execOp, hv]
    simp [Instr.box, newVar, newRow, Value.cells]
theorem op_box_x1 {T k : Nat} {z : BV} (hx : s.ev x = some (.b z)) (hz : z.cellOk s.own = true) (hfx : n.fix.contains k = false) (hself : z.uses k = false) (hnu : noUse k s.own = true := by rfl) : Op1 P E n ⟨dst, .box T x, ty, pos, after, g⟩ s ((⟨dropU k s.slots, ins k (.xbox T [z]) s.own⟩ : St).put n dst (.b (.ptr k 0))) :=
  Op1.make (hfx := hfx) (hnu := hnu) (o := ⟨dst, .box T x, ty, pos, after, g⟩) fun ac w h ρ hw hs => by
    have hr : CR h ρ z (ac.eval x) := cell_of hw hz (ev_rel hs hx)
    have hcells := cells_one hr.2
    refine ⟨.pointer (some ⟨w.heap.size, 0, none⟩), .pointer (some ⟨w.heap.size, 0, none⟩), w.alloc (.cells #[ac.eval x] T), none, ?_, fun b e => by simp at e, by simp, rfl, rfl, fun b hb _ => heap_alloc_old w _ hb, OC.ok.ren (c := .xbox T [z]) ⟨w.heap.size, #[ac.eval x], rfl, heap_alloc_new w _, .cons hr .nil⟩ fun j hj => upd_other _ _ fun e => by subst e; simp [OC.uses, hself] at hj,
      fun b e => by simp [blkOf] at e; subst e; exact .inr (Nat.le_refl _), w.heap.size, upd_same _ _ _, rfl⟩
    simp only [execOp]
    simp [Instr.box, newVar, newRow, hcells]
theorem op_fieldx1 {f off : Nat} {ft : TypeId} {zs : List BV} {z : BV} (ht : TyField P t f off ft) (h1 : TyOne P ft) (hx : s.ev x = some (.xagg zs)) (hp : zs[off]? = some z) :
    Op1 P E n ⟨dst, .field t x f, ty, pos, after, g⟩ s (s.put n dst (.b z)) :=
  Op1.val (o := ⟨dst, .field t x f, ty, pos, after, g⟩) fun ac w h ρ hw hs => by
    obtain ⟨cs, hv, ha⟩ := (ev_rel hs hx : SV.rel h ρ (.xagg zs) _)
    obtain ⟨fs, fd, i, e1, e2, rfl, rfl, e5, e6⟩ := ht.und
    obtain ⟨d, hd, hag⟩ := h1.und
    obtain ⟨u, hu, hr⟩ := ha.get _ z hp
    have hcu : cs[fd.offset]? = some u := by simpa using hu
    refine ⟨u, ?_, hr.1⟩
    simp only [execOp, hv]
    have : (part fd.type cs fd.offset).run P w = .ok u w := by
      unfold part
      rw [Sem.run_bind, run_isAgg hd, Result.andThen, hag]
      simp [hcu]
    simp [Instr.field, run_underlying e1, e2, asAgg, this]

/-! ## structs built of parts that may be rows -/
def SV.xcells (own : List (Nat × OC)) : SV → Option (List BV)
  | .b (.agg ps) => some (ps.map .one)
  | .b z => if z.cellOk own = true then some [z] else none
  | .xagg l => some l
  | _ => none
theorem SV.xcells_rel {own : List (Nat × OC)} {h : PH} {ρ : RM} {w : World} (hw : WR E n own h ρ w) {z : SV} {ps : List BV} {v : Value} (hz : z.xcells own = some ps) (hv : z.rel h ρ v) : All2 (CR h ρ) ps v.cells.toList := by
  cases z with
  | b z =>
    have one : ∀ z : BV, (if z.cellOk own = true then some [z] else none) = some ps → z.rel h ρ v → All2 (CR h ρ) ps v.cells.toList := fun z hz hv => by
      split at hz
      · next hc =>
        simp at hz; subst hz
        have hcr := cell_of hw hc hv
        rw [cells_one hcr.2]; exact .cons hcr .nil
      · simp at hz
    cases z with
    | agg qs => simp [SV.xcells] at hz; subst hz; obtain ⟨cs, rfl, hr⟩ := hv; exact ones_rel hr
    | one p => exact one (.one p) hz hv
    | ptr k o => exact one (.ptr k o) hz hv
    | row k => exact one (.row k) hz hv
    | rptr k o => exact one (.rptr k o) hz hv
    | part k a b c d => exact one (.part k a b c d) hz hv
    | eptr ps => exact one (.eptr ps) hz hv
  | xagg l => simp [SV.xcells] at hz; subst hz; obtain ⟨cs, rfl, hr⟩ := hv; exact hr
  | _ => simp [SV.xcells] at hz
def evPartsX (s : St) : List (Nat × Operand) → Option (List (Nat × List BV))
  | [] => some []
  | (i, x) :: l => (s.ev x).bind fun z => (z.xcells s.own).bind fun ps => (evPartsX s l).map fun r => (i, ps) :: r
def xfill (place : Nat → Option (Nat × Nat)) (zs : List BV) : List (Nat × List BV) → Option (List BV)
  | [] => some zs
  | (i, qs) :: r => (place i).bind fun q => if qs.length = q.2 ∧ q.1 + qs.length ≤ zs.length then xfill place (splice zs q.1 qs) r else none
theorem xfill_rel {h : PH} {ρ : RM} {w : World} (hw : WR E n s.own h ρ w) {ac : Act} (hs : SlotsRel h ρ s.slots ac.tmps) (place : Nat → Option (Nat × Nat)) : ∀ (parts : List (Nat × Operand)) (cps : List (Nat × List BV)) (zs qs : List BV) (zc : Array Value),
    evPartsX s parts = some cps → xfill place zs cps = some qs → All2 (CR h ρ) zs zc.toList → ∃ cs, Instr.fill place zc (parts.map fun p => (p.1, ac.eval p.2)) = some cs ∧ All2 (CR h ρ) qs cs.toList
  | [], cps, zs, qs, zc, he, hf, hz => by
    simp [evPartsX] at he; subst he
    simp [xfill] at hf; subst hf
    exact ⟨zc, rfl, hz⟩
  | (i, x) :: l, cps, zs, qs, zc, he, hf, hz => by
    unfold evPartsX at he
    simp only [Option.bind_eq_some_iff, Option.map_eq_some_iff] at he
    obtain ⟨z, hz1, ps, hps, r, hr, rfl⟩ := he
    unfold xfill at hf
    simp only [Option.bind_eq_some_iff] at hf
    obtain ⟨⟨off, size⟩, hpl, hf⟩ := hf
    split at hf
    · rename_i hc
      obtain ⟨hc1, hc2⟩ := hc
      have hrel := SV.xcells_rel hw hps (ev_rel hs hz1)
      have hl := hrel.length
      have hzl := hz.length
      simp only [Array.length_toList] at hl hzl
      dsimp only at hc1 hc2 hf
      have hsp : ((ac.eval x).cells.zipIdx.foldl (fun cs (p : Value × Nat) => cs.setIfInBounds (off + p.2) p.1) zc).toList = splice zc.toList off (ac.eval x).cells.toList := by
        have := fold_set off (ac.eval x).cells.toList 0 zc (by simp; omega)
        rw [Nat.add_zero] at this
        rw [← this, ← Array.foldl_toList]
        congr 2
        simp
      obtain ⟨cs, h1, h2⟩ := xfill_rel hw hs place l r (splice zs off ps) qs _ hr hf (by rw [hsp]; exact All2.splice hz hrel off)
      refine ⟨cs, ?_, h2⟩
      simp only [List.map_cons, Instr.fill, hpl]
      rw [if_neg (by simp; omega)]
      exact h1
    · simp at hf
theorem op_build_x {pl : List (Nat × Nat)} {zs : List CP} {qs : List BV} {parts : Array (Nat × Operand)} {cps : List (Nat × List BV)} (ht : TyBuild P t pl zs) (hp : evPartsX s parts.toList = some cps) (hf : xfill (pl.toArray[·]?) (zs.map .one) cps = some qs) :
    Op1 P E n ⟨dst, .build t parts, ty, pos, after, g⟩ s (s.put n dst (.xagg qs)) :=
  Op1.val (o := ⟨dst, .build t parts, ty, pos, after, g⟩) fun ac w h ρ hw hs => by
    obtain ⟨it, z, fs, h1, h2, h3, h4, h5⟩ := ht.info
    obtain ⟨cs, hc1, hc2⟩ := xfill_rel hw hs (pl.toArray[·]?) parts.toList cps (zs.map .one) qs z.cells hp hf (ones_rel (cvs_rel h h3))
    refine ⟨.agg cs, ?_, cs, rfl, hc2⟩
    have hb : P.built t (parts.map fun (i, x) => (i, ac.eval x)).toList = some cs := by
      simp only [Program.built, h1, h4, h2, h5]
      rw [← hc1]
      simp
    have := run_build (P := P) w t _ cs hb
    simp only [execOp]
    simp [this]

/-! ## a row of zeros -/
def mk? {α : Type} (z : α) (len cap : Int) : Option (List α) := if 0 ≤ len ∧ len ≤ cap ∧ cap ≤ 1000000000 then some (List.replicate len.toNat z) else none
theorem mk_ok {α : Type} {z : α} {len cap : Int} {r : List α} (h : mk? z len cap = some r) : 0 ≤ len ∧ len ≤ cap ∧ cap ≤ 1000000000 ∧ List.replicate len.toNat z = r := by
  unfold mk? at h; split at h
  · next hh => exact ⟨hh.1, hh.2.1, hh.2.2, by simpa using h⟩
  · simp at h
theorem rep_uni {zs : List CP} {size n : Nat} (h : zs.length = size) : Uniform size (List.replicate n zs) := fun ps hp => by rw [(List.mem_replicate.1 hp).2]; exact h
theorem made_rel {h : PH} {zs : List CP} {zc : Array Value} {size : Nat} (hz : cellsRel h zs zc.toList) (hs : zs.length = size) (hp : 0 < size) (n m : Nat) (hnm : n ≤ m) :
    cellsRel h (List.replicate n zs).flatten ((madeCells zc (m * size)).toList.take (n * size)) := by
  have hzl : zc.size = size := by have := hz.length; simp at this; omega
  have hle : n * size ≤ m * size := Nat.mul_le_mul_right _ hnm
  have hfl := flatten_len (rep_uni (n := n) hs)
  have hms : (madeCells zc (m * size)).toList.length = m * size := by simp [madeCells]
  refine All2.of_get (by rw [hfl, List.length_replicate, List.length_take, hms]; omega) fun j a b ha hb => ?_
  have hj : j < n * size := by
    have := (List.getElem?_eq_some_iff.1 ha).1
    rw [hfl] at this; simpa using this
  have hd : j / size < n := by rw [Nat.div_lt_iff_lt_mul hp]; exact hj
  have hm : j % size < size := Nat.mod_lt _ hp
  have hjj : j / size * size + j % size = j := by rw [Nat.mul_comm]; exact Nat.div_add_mod _ _
  have h1 := flatten_get (rep_uni (n := n) hs) (j / size) zs (by simp [hd]) (j % size) hm
  rw [hjj, ha] at h1
  rw [List.getElem?_take, if_pos hj] at hb
  have h2 : (madeCells zc (m * size)).toList[j]? = zc[j % size]? := by
    have hlt : j < m * size := by omega
    simp only [madeCells, Array.getElem?_toList]
    rw [Array.getElem?_map, Array.getElem?_range]
    simp only [hlt, if_true, Option.map_some, hzl]
    have : j % size < zc.size := by omega
    simp [this]
  rw [h2] at hb
  obtain ⟨u, hu, hr⟩ := hz.get (j % size) a h1.symm
  rw [Array.getElem?_toList, hb] at hu
  cases hu
  exact hr
/-- a zero cell, and what is read of it -/
def ZC (a b : CP) : Prop := ∀ h v, a.rel h v → b.rel h v
theorem ZC.refl {a : CP} : ZC a a := fun _ _ x => x
theorem ZC.nilsl {size : Nat} (h : 0 < size) : ZC .nil (.sl size []) := fun _ v x => ⟨fun ps hp => by simp at hp, h, .inl ⟨x.1, rfl⟩⟩
theorem zc_rel {h : PH} : ∀ {zs qs : List CP} {vs : List Value}, All2 ZC zs qs → cellsRel h zs vs → cellsRel h qs vs
  | [], _, _, h1, h2 => by cases h1; cases h2; exact .nil
  | _ :: _, _, _, h1, h2 => by cases h1 with | cons a b => cases h2 with | cons c d => exact .cons (a _ _ c) (zc_rel b d)
theorem op_makeSlice {k size bytes : Nat} {e : TypeId} {zs : List CP} {lo co : Operand} {kl kc : IntKind} {α : Type} {z0 : α} {enc : α → List CP} {a b : Int} {r : List α} (ht : TySl P t e size bytes zs) (hm : mk? z0 a b = some r) (hbb : bytes ≤ 281474) (hz0 : All2 ZC zs (enc z0))
    (hx : s.ev lo = some (.b (.one (.int kl a)))) (hy : s.ev co = some (.b (.one (.int kc b)))) (hfx : n.fix.contains k = false) (hnu : noUse k s.own = true := by rfl) :
    Op1 P E n ⟨dst, .makeSlice t lo co, ty, pos, after, g⟩ s ((⟨dropU k s.slots, ins k (.row e size (r.map enc)) s.own⟩ : St).put n dst (.b (.row k))) :=
  Op1.make (hfx := hfx) (hnu := hnu) (o := ⟨dst, .makeSlice t lo co, ty, pos, after, g⟩) fun ac w h ρ hw hs => by
    obtain ⟨i, z, h1, h2, h3, h4, h5, h6, h7⟩ := ht.info
    obtain ⟨q0, q1, q2, rfl⟩ := mk_ok hm
    have hzr := cvs_rel h h7
    have hzr : cellsRel h (enc z0) z.cells.toList := zc_rel hz0 hzr
    have hzl : (enc z0).length = size := by rw [hzr.length]; simpa using h5
    have hbytes : (i.bytes : Int) * b ≤ 281474976710656 := by
      rw [h3]
      have e1 : (bytes : Int) ≤ 281474 := by omega
      calc (bytes : Int) * b ≤ 281474 * b := Int.mul_le_mul_of_nonneg_right e1 (by omega)
        _ ≤ _ := by omega
    have hrun := run_make (P := P) w t e i z ht.und h1 h4 kl kc a b q0 q1 hbytes (by omega)
    rw [h2] at hrun
    refine ⟨.slice (some ⟨w.heap.size, 0, none⟩) a.toNat b.toNat, .slice (some ⟨w.heap.size, 0, none⟩) a.toNat b.toNat, w.alloc (.cells (madeCells z.cells (b.toNat * size)) e), none, ?_, fun b e => by simp at e, by simp, rfl, rfl, fun b hb _ => heap_alloc_old w _ hb, ?_,
      fun b e => by simp [blkOf] at e; subst e; exact .inr (Nat.le_refl _), (upd_same _ _ _).symm⟩
    · simp only [execOp, (ev_int hs hx).1, (ev_int hs hy).1]
      simp [hrun]
    · have hle : a.toNat ≤ b.toNat := by omega
      have hmap : (List.replicate a.toNat z0).map enc = List.replicate a.toNat (enc z0) := by rw [List.map_replicate]
      rw [hmap]
      refine ⟨rep_uni hzl, h6, (madeCells z.cells (b.toNat * size)).toList.take (a.toNat * size), ⟨?_, .inr ⟨w.heap.size, b.toNat, _, ?_, Nat.zero_le _, heap_alloc_new w _, ?_, ?_, ?_, ?_⟩⟩, made_rel hzr hzl h6 _ _ hle⟩
      · have : a.toNat * size ≤ b.toNat * size := Nat.mul_le_mul_right _ hle
        have hms : (madeCells z.cells (b.toNat * size)).toList.length = b.toNat * size := by simp [madeCells]
        rw [List.length_take, hms, List.length_replicate]; omega
      · simp
      · simpa using hle
      · rw [maxLen_eq]; omega
      · simp [madeCells]
      · simp
end
end Go.Sk
