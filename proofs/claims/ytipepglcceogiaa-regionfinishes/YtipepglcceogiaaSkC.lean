/- The framework, part C: memory. -/
import Derived.Test.YtipepglcceogiaaSkB
namespace Go.Sk
set_option linter.unusedSimpArgs false
set_option linter.unusedVariables false
open Go

/-! ## how what is known of memory moves on -/
def ins {α : Type} (k : Nat) (c : α) : List (Nat × α) → List (Nat × α)
  | [] => [(k, c)]
  | (j, x) :: l => if k == j then (k, c) :: del k l else (j, x) :: ins k c l
theorem mem_ins {α : Type} {k : Nat} {c : α} : ∀ {l : List (Nat × α)} {j : Nat} {x : α}, (j, x) ∈ ins k c l → (j = k ∧ x = c) ∨ (j ≠ k ∧ (j, x) ∈ l)
  | [], j, x, h => by simp [ins] at h; exact .inl h
  | (i, y) :: l, j, x, h => by
    unfold ins at h
    split at h
    · cases List.mem_cons.1 h with
      | inl e => obtain ⟨rfl, rfl⟩ := Prod.mk.inj e; exact .inl ⟨rfl, rfl⟩
      | inr e => exact .inr ⟨(mem_del e).2, List.mem_cons_of_mem _ (mem_del e).1⟩
    · rename_i hne
      cases List.mem_cons.1 h with
      | inl e =>
        obtain ⟨rfl, rfl⟩ := Prod.mk.inj e
        exact .inr ⟨fun e => hne (by simp [e]), List.mem_cons_self⟩
      | inr e =>
        rcases mem_ins e with h | ⟨h1, h2⟩
        · exact .inl h
        · exact .inr ⟨h1, List.mem_cons_of_mem _ h2⟩
def upd (ρ : RM) (k : Nat) (v : Value) : RM := fun j => if j = k then v else ρ j
theorem upd_same (ρ : RM) (k : Nat) (v : Value) : upd ρ k v k = v := by simp [upd]
theorem upd_other (ρ : RM) {j k : Nat} (v : Value) (h : j ≠ k) : upd ρ k v j = ρ j := by simp [upd, h]
def dropU (k : Nat) : List (Nat × SV) → List (Nat × SV)
  | [] => []
  | (j, x) :: l => if x.uses k then dropU k l else (j, x) :: dropU k l
theorem mem_dropU {k : Nat} : ∀ {l : List (Nat × SV)} {p : Nat × SV}, p ∈ dropU k l → p ∈ l ∧ p.2.uses k = false
  | (j, x) :: l, p, h => by
    unfold dropU at h
    split at h
    · exact ⟨List.mem_cons_of_mem _ (mem_dropU h).1, (mem_dropU h).2⟩
    · rename_i hx
      cases List.mem_cons.1 h with
      | inl e => subst e; exact ⟨List.mem_cons_self, by simpa using hx⟩
      | inr e => exact ⟨List.mem_cons_of_mem _ (mem_dropU e).1, (mem_dropU e).2⟩
theorem SlotsRel.dropU {h : PH} {ρ : RM} {slots : List (Nat × SV)} {tmps : Array Value} (hs : SlotsRel h ρ slots tmps) (k : Nat) (v : Value) : SlotsRel h (upd ρ k v) (dropU k slots) tmps := by
  intro j x hx
  obtain ⟨h1, h2⟩ := mem_dropU hx
  obtain ⟨u, hu, hr⟩ := hs j x h1
  exact ⟨u, hu, SV.mono (PH.le_refl h) (fun i hi => upd_other ρ v (fun e => by subst e; simp [h2] at hi)) hr⟩
theorem SlotsRel.mono {h h' : PH} {ρ : RM} {slots : List (Nat × SV)} {tmps : Array Value} (hl : h.le h') (hs : SlotsRel h ρ slots tmps) : SlotsRel h' ρ slots tmps :=
  fun j x hx => let ⟨u, hu, hr⟩ := hs j x hx; ⟨u, hu, SV.mono hl (fun _ _ => rfl) hr⟩

theorem OC.ok.congr {c : OC} {h : PH} {ρ : RM} {v : Value} {w w' : World} (hc : c.ok h ρ v w) (hb : ∀ b, blkOf v = some b → w'.heap[b]? = w.heap[b]?) : c.ok h ρ v w' := by
  cases c with
  | box T ps =>
    obtain ⟨b, cur, rfl, h2, h3⟩ := hc
    exact ⟨b, cur, rfl, by rw [hb b rfl]; exact h2, h3⟩
  | xbox T ps =>
    obtain ⟨b, cur, rfl, h2, h3⟩ := hc
    exact ⟨b, cur, rfl, by rw [hb b rfl]; exact h2, h3⟩
  | row T size es =>
    obtain ⟨hu, hz, xs, ⟨hl, ho⟩, hr⟩ := hc
    refine ⟨hu, hz, xs, ⟨hl, ?_⟩, hr⟩
    rcases ho with ho | ⟨g, cap, cur, rfl, h1, h2, h3⟩
    · exact .inl ho
    · exact .inr ⟨g, cap, cur, rfl, h1, by rw [hb g rfl]; exact h2, h3⟩
theorem OC.ok.mono {c : OC} {h h' : PH} {ρ : RM} {v : Value} {w : World} (hl : h.le h') (hc : c.ok h ρ v w) : c.ok h' ρ v w := by
  cases c with
  | box T ps => obtain ⟨b, cur, e, h2, h3⟩ := hc; exact ⟨b, cur, e, h2, h3.mono hl⟩
  | xbox T ps => obtain ⟨b, cur, e, h2, h3⟩ := hc; exact ⟨b, cur, e, h2, All2.mono h3 fun z u hz => ⟨BV.mono hl (fun _ _ => rfl) hz.1, hz.2⟩⟩
  | row T size es => obtain ⟨hu, hz, xs, ho, hr⟩ := hc; exact ⟨hu, hz, xs, ho, hr.mono hl⟩
theorem OC.ok.lt {c : OC} {h : PH} {ρ : RM} {v : Value} {w : World} (hc : c.ok h ρ v w) {b : Nat} (hb : blkOf v = some b) : b < w.heap.size := by
  have key : ∀ {o : Obj}, w.heap[b]? = some o → b < w.heap.size := fun e => by
    rcases Nat.lt_or_ge b w.heap.size with h | h
    · exact h
    · simp [Array.getElem?_eq_none h] at e
  cases c with
  | box T ps => obtain ⟨b', cur, rfl, h2, h3⟩ := hc; simp [blkOf] at hb; subst hb; exact key h2
  | xbox T ps => obtain ⟨b', cur, rfl, h2, h3⟩ := hc; simp [blkOf] at hb; subst hb; exact key h2
  | row T size es =>
    obtain ⟨hu, hz, xs, ⟨hl, ho⟩, hr⟩ := hc
    rcases ho with ⟨rfl, _⟩ | ⟨g, cap, cur, rfl, h1, h2, h3⟩
    · simp [blkOf] at hb
    · simp [blkOf] at hb; subst hb; exact key h2

theorem cell_of_heap {w w' : World} {b : Nat} (h : w'.heap[b]? = w.heap[b]?) (o : Nat) : w'.cell? ⟨b, o, none⟩ = w.cell? ⟨b, o, none⟩ := by simp [World.cell?, h]
theorem lt_of_cell {w : World} {b o : Nat} {v : Value} (h : w.cell? ⟨b, o, none⟩ = some v) : b < w.heap.size := block_lt_of_cell h

/-- one key's block is written, or made; all else stays -/
theorem WR.step {E : Env} {n : Sh} {own : List (Nat × OC)} {h : PH} {ρ : RM} {w w' : World} (hw : WR E n own h ρ w) (k : Nat) (v' : Value) (c' : OC) (row : Option Nat)
    (hrow : ∀ b, row = some b → ∃ c, (k, c) ∈ own ∧ blkOf (ρ k) = some b)
    (hsize : w.heap.size ≤ w'.heap.size) (hos : w'.os = w.os) (hout : w'.output = w.output) (hsame : ∀ b, b < w.heap.size → some b ≠ row → w'.heap[b]? = w.heap[b]?)
    (hc : c'.ok h (upd ρ k v') v' w') (hblk : ∀ b, blkOf v' = some b → row = some b ∨ w.heap.size ≤ b) (hfx : v' = ρ k ∨ k ∉ n.fix) (hnu : v' = ρ k ∨ noUse k own = true) : WR E n (ins k c' own) h (upd ρ k v') w' := by
  have hren : ∀ j x, (j, x) ∈ own → ∀ i, x.uses i = true → upd ρ k v' i = ρ i := fun j x hx i hi => by
    by_cases e : i = k
    · subst e
      rcases hnu with h | h
      · rw [upd_same]; exact h
      · rw [noUse_mem h hx] at hi; simp at hi
    · exact upd_other _ _ e
  have hrowx : ∀ b, row = some b → (E.w0.heap.size ≤ b ∨ lent E n b) ∧ (∀ o, h b o = none) := fun b hb => by
    obtain ⟨c, hc1, hc2⟩ := hrow b hb
    exact (hw.owned k c hc1).2.1 b hc2
  have hnew : ∀ b, w.heap.size ≤ b → ∀ o, h b o = none := fun b hb o => by
    cases e : h b o with
    | none => rfl
    | some u => have := lt_of_cell (hw.agree b o u e); omega
  have hothers : ∀ j x, (j, x) ∈ own → j ≠ k → x.ok h ρ (ρ j) w ∧ x.ok h (upd ρ k v') (ρ j) w' ∧ ∀ b, blkOf (ρ j) = some b → row ≠ some b ∧ b < w.heap.size := fun j x hx hj => by
    have h1 := hw.owned j x hx
    have h2 : ∀ b, blkOf (ρ j) = some b → row ≠ some b ∧ b < w.heap.size := fun b hb => by
      refine ⟨fun hr => ?_, h1.1.lt hb⟩
      obtain ⟨c, hc1, hc2⟩ := hrow b hr
      exact h1.2.2 k c hc1 (fun e => hj e.symm) b hb hc2
    exact ⟨h1.1, (h1.1.congr fun b hb => hsame b (h2 b hb).2 fun e => (h2 b hb).1 e.symm).ren (hren j x hx), h2⟩
  refine ⟨?_, hw.le, hw.fresh, Nat.le_trans hw.size hsize, ?_, ?_, hos.trans hw.os, hout.trans hw.out, ?_⟩
  · intro b o u hu
    have hcell := hw.agree b o u hu
    have hlt := lt_of_cell hcell
    have hne : some b ≠ row := fun e => by have := (hrowx b e.symm).2 o; rw [this] at hu; simp at hu
    rw [cell_of_heap (hsame b hlt hne)]; exact hcell
  · intro b hb hl
    have hlt : b < w.heap.size := Nat.lt_of_lt_of_le hb hw.size
    have hne : some b ≠ row := fun e => by
      rcases (hrowx b e.symm).1 with h1 | h1
      · omega
      · exact hl h1
    rw [hsame b hlt hne]; exact hw.same b hb hl
  · intro j hj
    by_cases e : j = k
    · subst e
      rw [upd_same]
      rcases hfx with h | h
      · rw [h]; exact hw.fixed j hj
      · exact absurd hj h
    · rw [upd_other _ _ e]; exact hw.fixed j hj
  · intro j x hx
    rcases mem_ins hx with ⟨rfl, rfl⟩ | ⟨hj, hx⟩
    · rw [upd_same]
      refine ⟨hc, ?_, ?_⟩
      · intro b hb
        rcases hblk b hb with h1 | h1
        · exact hrowx b h1
        · exact ⟨.inl (Nat.le_trans hw.size h1), hnew b h1⟩
      · intro i y hy hij b hb
        rcases mem_ins hy with ⟨h1, _⟩ | ⟨h1, h2⟩
        · exact absurd h1 hij
        · rw [upd_other _ _ h1]
          intro hb'
          have h3 := (hothers i y h2 h1).2.2 b hb'
          rcases hblk b hb with h4 | h4
          · exact h3.1 h4
          · omega
    · rw [upd_other _ _ hj]
      obtain ⟨h1, h2, h3⟩ := hothers j x hx hj
      refine ⟨h2, (hw.owned j x hx).2.1, ?_⟩
      intro i y hy hij b hb
      rcases mem_ins hy with ⟨rfl, rfl⟩ | ⟨hik, h5⟩
      · rw [upd_same]
        intro hb'
        rcases hblk b hb' with h4 | h4
        · exact (h3 b hb).1 h4
        · have := (h3 b hb).2; omega
      · rw [upd_other _ _ hik]
        exact (hw.owned j x hx).2.2 i y h5 hij b hb

/-! ## facts on types, closed in a program -/
def aggD : TypeDesc → Bool
  | .struct _ | .array _ _ => true
  | _ => false
structure TyAgg (P : Program) (t : TypeId) (n : Nat) : Prop where
  und : ∃ d, P.underlying t = some d ∧ aggD d = true
  size : ∃ i, P.info? t = some i ∧ i.size = n
structure TyOne (P : Program) (t : TypeId) : Prop where
  und : ∃ d, P.underlying t = some d ∧ aggD d = false
  size : ∃ i, P.info? t = some i ∧ i.size = 1
structure TyField (P : Program) (t : TypeId) (f off : Nat) (ft : TypeId) : Prop where
  und : ∃ fs fd i, P.underlying t = some (.struct fs) ∧ fs[f]? = some fd ∧ fd.offset = off ∧ fd.type = ft ∧ P.info? ft = some i ∧ 0 < i.size
structure TySl (P : Program) (t e : TypeId) (size bytes : Nat) (zs : List CP) : Prop where
  und : P.underlying t = some (.slice e)
  info : ∃ i z, P.info? e = some i ∧ i.size = size ∧ i.bytes = bytes ∧ i.zero = some z ∧ z.cells.size = size ∧ 0 < size ∧ cvs z.cells.toList = some zs
structure TyZero (P : Program) (t : TypeId) (zs : List CP) : Prop where
  info : ∃ i z, P.info? t = some i ∧ i.zero = some z ∧ cvs z.cells.toList = some zs

theorem run_isAgg {P : Program} {t : TypeId} {d : TypeDesc} (hd : P.underlying t = some d) (w : World) : (isAgg t).run P w = .ok (aggD d) w := by
  unfold isAgg
  rw [Sem.run_bind, run_underlying hd]
  cases d <;> rfl
theorem run_sizeOf {P : Program} {t : TypeId} {i : TypeInfo} (hi : P.info? t = some i) (w : World) : (sizeOf t).run P w = .ok i.size w := by
  simp [sizeOf, typeInfo, hi]

theorem Reads.list {h : PH} {b : Nat} : ∀ {ps : List CP} {o : Nat}, Reads h b o ps → ∃ cs, cellsRel h ps cs ∧ ∀ j v, cs[j]? = some v → h b (o + j) = some v
  | [], _, _ => ⟨[], .nil, fun j v hv => by simp at hv⟩
  | p :: ps, o, hr => by
    obtain ⟨u, hu, hpu⟩ := hr 0 p (by simp)
    obtain ⟨cs, h1, h2⟩ := Reads.list (ps := ps) (o := o + 1) (fun j c hc => by
      obtain ⟨u, hu, hr⟩ := hr (j + 1) c (by simpa using hc)
      exact ⟨u, by rw [Nat.add_assoc, Nat.add_comm 1 j]; exact hu, hr⟩)
    refine ⟨u :: cs, .cons hpu h1, fun j v hv => ?_⟩
    cases j with
    | zero => simp at hv; subst hv; exact hu
    | succ j => have := h2 j v (by simpa using hv); rw [Nat.add_assoc, Nat.add_comm 1 j] at this; exact this

theorem run_load_agg {P : Program} {t : TypeId} {n : Nat} (ht : TyAgg P t n) {w : World} {b o : Nat} {cs : List Value} (hl : cs.length = n) (hc : ∀ j v, cs[j]? = some v → w.cell? ⟨b, o + j, none⟩ = some v) :
    (loadVar t ⟨b, o, none⟩).run P w = .ok (.agg cs.toArray) w := by
  obtain ⟨d, hd, ha⟩ := ht.und
  obtain ⟨i, hi, hn⟩ := ht.size
  have hh : ∀ j v, cs[j]? = some v → w.cell? ((⟨b, o, none⟩ : Addr).add j) = some v := fun j v hv => by rw [Addr.add_lit]; exact hc j v hv
  have hrun := run_loadCells_list (P := P) w ⟨b, o, none⟩ cs hh
  unfold loadVar
  rw [Sem.run_bind, run_isAgg hd, Result.andThen, ha]
  simp only [if_true]
  rw [Sem.run_bind, run_sizeOf hi, Result.andThen, hn, ← hl, Sem.run_bind, hrun]
  rfl
theorem run_load_one {P : Program} {t : TypeId} (ht : TyOne P t) {w : World} {b o : Nat} {v : Value} (hc : w.cell? ⟨b, o, none⟩ = some v) : (loadVar t ⟨b, o, none⟩).run P w = .ok v w := by
  obtain ⟨d, hd, ha⟩ := ht.und
  unfold loadVar
  rw [Sem.run_bind, run_isAgg hd, Result.andThen, ha]
  simp [load, Sem.run, hc]

section
variable {P : Program} {E : Env} {n : Sh} {s : St} {dst : Option Nat} {t ty yt : TypeId} {pos : String} {after : Array Edge} {g : Option (Nat × Bool)} {x y c : Operand}

/-! ## loads -/
theorem op_load_e {ps qs : List CP} {m : Nat} (ht : TyAgg P t m) (hx : s.ev x = some (.b (.eptr ps))) (hp : ps.take m = qs) (hq : qs.length = m) :
    Op1 P E n ⟨dst, .load t x, ty, pos, after, g⟩ s (s.put n dst (.b (.agg qs))) :=
  Op1.val (o := ⟨dst, .load t x, ty, pos, after, g⟩) fun ac w h ρ hw hs => by
    obtain ⟨b, o, he, hr⟩ := (ev_rel hs hx : BV.rel h ρ (.eptr ps) _)
    have hr' : Reads h b o qs := fun j c hc => hr j c (by
      rw [← hp] at hc
      rw [List.getElem?_take] at hc
      split at hc
      · exact hc
      · simp at hc)
    obtain ⟨cs, h1, h2⟩ := hr'.list
    refine ⟨.agg cs.toArray, ?_, cs.toArray, rfl, by simpa using h1⟩
    have := run_load_agg ht (w := w) (b := b) (o := o) (cs := cs) (by rw [← h1.length, hq]) (fun j v hv => hw.agree _ _ _ (h2 j v hv))
    simp only [execOp, he, Instr.loadAt, Instr.sureAddr]
    simp [this]
theorem op_load_e1 {ps : List CP} {p : CP} (ht : TyOne P t) (hx : s.ev x = some (.b (.eptr ps))) (hp : ps[0]? = some p) :
    Op1 P E n ⟨dst, .load t x, ty, pos, after, g⟩ s (s.put n dst (.b (.one p))) :=
  Op1.val (o := ⟨dst, .load t x, ty, pos, after, g⟩) fun ac w h ρ hw hs => by
    obtain ⟨b, o, he, hr⟩ := (ev_rel hs hx : BV.rel h ρ (.eptr ps) _)
    obtain ⟨u, hu, hpu⟩ := hr 0 p hp
    have := run_load_one ht (w := w) (b := b) (o := o) (v := u) (hw.agree _ _ _ hu)
    refine ⟨u, ?_, hpu⟩
    simp only [execOp, he, Instr.loadAt, Instr.sureAddr]
    simp [this]

theorem box_cells {h : PH} {ρ : RM} {own : List (Nat × OC)} {w : World} (hw : WR E n own h ρ w) {k : Nat} {T : TypeId} {ps : List CP} (hk : lk own k = some (.box T ps)) :
    ∃ b cur, ρ k = .pointer (some ⟨b, 0, none⟩) ∧ w.heap[b]? = some (.cells cur T (0, 0)) ∧ cellsRel h ps cur.toList :=
  (hw.owned k _ (lk_mem hk)).1
theorem cell_row {w : World} {b : Nat} {cur : Array Value} {T : TypeId} {fr : Nat × Nat} (hb : w.heap[b]? = some (.cells cur T fr)) (o : Nat) : w.cell? ⟨b, o, none⟩ = cur[o]? := by simp [World.cell?, hb]

theorem op_load_p {k off : Nat} {T : TypeId} {ps qs : List CP} {m : Nat} (ht : TyAgg P t m) (hx : s.ev x = some (.b (.ptr k off))) (hk : lk s.own k = some (.box T ps)) (hp : (ps.drop off).take m = qs) (hq : qs.length = m) :
    Op1 P E n ⟨dst, .load t x, ty, pos, after, g⟩ s (s.put n dst (.b (.agg qs))) :=
  Op1.val (o := ⟨dst, .load t x, ty, pos, after, g⟩) fun ac w h ρ hw hs => by
    obtain ⟨b, he, hv⟩ := (ev_rel hs hx : BV.rel h ρ (.ptr k off) _)
    obtain ⟨b', cur, hb1, hb2, hb3⟩ := box_cells hw hk
    have : b' = b := by rw [hb1] at he; simpa using he
    subst this
    have hc : cellsRel h qs ((cur.toList.drop off).take m) := by rw [← hp]; exact All2.take (All2.drop hb3 off) m
    refine ⟨.agg ((cur.toList.drop off).take m).toArray, ?_, _, rfl, by simpa using hc⟩
    have := run_load_agg ht (w := w) (b := b') (o := off) (cs := (cur.toList.drop off).take m) (by rw [← hc.length, hq]) (fun j v hv => by
      rw [cell_row hb2]
      rw [List.getElem?_take] at hv
      split at hv
      · simpa using hv
      · simp at hv)
    simp only [execOp, hv, Instr.loadAt, Instr.sureAddr]
    simp [this]
theorem op_load_p1 {k off : Nat} {T : TypeId} {ps : List CP} {p : CP} (ht : TyOne P t) (hx : s.ev x = some (.b (.ptr k off))) (hk : lk s.own k = some (.box T ps)) (hp : ps[off]? = some p) :
    Op1 P E n ⟨dst, .load t x, ty, pos, after, g⟩ s (s.put n dst (.b (.one p))) :=
  Op1.val (o := ⟨dst, .load t x, ty, pos, after, g⟩) fun ac w h ρ hw hs => by
    obtain ⟨b, he, hv⟩ := (ev_rel hs hx : BV.rel h ρ (.ptr k off) _)
    obtain ⟨b', cur, hb1, hb2, hb3⟩ := box_cells hw hk
    have : b' = b := by rw [hb1] at he; simpa using he
    subst this
    obtain ⟨u, hu, hpu⟩ := hb3.get off p hp
    have := run_load_one ht (w := w) (b := b') (o := off) (v := u) (by rw [cell_row hb2]; simpa using hu)
    refine ⟨u, ?_, hpu⟩
    simp only [execOp, hv, Instr.loadAt, Instr.sureAddr]
    simp [this]

/-! ## addresses of fields and elements -/
theorem run_fieldAt {f off : Nat} {ft : TypeId} (ht : TyField P t f off ft) (w : World) (b o : Nat) : (Instr.fieldAt t (.pointer (some ⟨b, o, none⟩)) f).run P w = .ok (.pointer (some ⟨b, o + off, none⟩)) w := by
  obtain ⟨fs, fd, i, h1, h2, rfl, rfl, h5, h6⟩ := ht.und
  unfold Instr.fieldAt
  rw [Sem.run_bind, run_underlying h1, Result.andThen]
  simp only [h2]
  have hz : ¬ i.size = 0 := by omega
  simp [Instr.sureAddr, fieldPlace, sizeOf, typeInfo, h5, hz, Addr.add_lit]
theorem op_field_e {f off : Nat} {ft : TypeId} {ps qs : List CP} (ht : TyField P t f off ft) (hx : s.ev x = some (.b (.eptr ps))) (hq : ps.drop off = qs) :
    Op1 P E n ⟨dst, .fieldAddr t x f, ty, pos, after, g⟩ s (s.put n dst (.b (.eptr qs))) :=
  Op1.val (o := ⟨dst, .fieldAddr t x f, ty, pos, after, g⟩) fun ac w h ρ hw hs => by
    obtain ⟨b, o, he, hr⟩ := (ev_rel hs hx : BV.rel h ρ (.eptr ps) _)
    refine ⟨.pointer (some ⟨b, o + off, none⟩), ?_, b, o + off, rfl, hq ▸ hr.drop off⟩
    simp only [execOp, he]
    simp [run_fieldAt ht]
theorem op_field_p {f off k o o' : Nat} {ft : TypeId} (ht : TyField P t f off ft) (hx : s.ev x = some (.b (.ptr k o))) (ho : o + off = o') :
    Op1 P E n ⟨dst, .fieldAddr t x f, ty, pos, after, g⟩ s (s.put n dst (.b (.ptr k o'))) :=
  Op1.val (o := ⟨dst, .fieldAddr t x f, ty, pos, after, g⟩) fun ac w h ρ hw hs => by
    obtain ⟨b, he, hv⟩ := (ev_rel hs hx : BV.rel h ρ (.ptr k o) _)
    refine ⟨.pointer (some ⟨b, o + off, none⟩), ?_, b, he, by rw [ho]⟩
    simp only [execOp, hv]
    simp [run_fieldAt ht]
theorem op_field_r {f off k o o' : Nat} {ft : TypeId} (ht : TyField P t f off ft) (hx : s.ev x = some (.b (.rptr k o))) (ho : o + off = o') :
    Op1 P E n ⟨dst, .fieldAddr t x f, ty, pos, after, g⟩ s (s.put n dst (.b (.rptr k o'))) :=
  Op1.val (o := ⟨dst, .fieldAddr t x f, ty, pos, after, g⟩) fun ac w h ρ hw hs => by
    obtain ⟨b, m, c, he, hv⟩ := (ev_rel hs hx : BV.rel h ρ (.rptr k o) _)
    refine ⟨.pointer (some ⟨b, o + off, none⟩), ?_, b, m, c, he, by rw [ho]⟩
    simp only [execOp, hv]
    simp [run_fieldAt ht]

theorem run_indexAt_sl {e : TypeId} {size bytes : Nat} {zs : List CP} (ht : TySl P t e size bytes zs) (w : World) (b o len cap : Nat) (k : IntKind) (i : Int) (h0 : 0 ≤ i) (h1 : i < len) :
    (Instr.indexAt t (.slice (some ⟨b, o, none⟩) len cap) (.int k i)).run P w = .ok (.pointer (some ⟨b, o + i.toNat * size, none⟩)) w := by
  obtain ⟨inf, z, hi, rfl, _⟩ := ht.info
  have hel : P.underlying t = some (.slice e) := ht.und
  simp [Instr.indexAt, run_underlying hel, asIntOf, h0, h1, sizeOf, typeInfo, hi, Addr.add_lit]
/-- the element i of a slice that is only read -/
theorem op_index_e {e : TypeId} {size bytes : Nat} {zs ps : List CP} {es : List (List CP)} {k : IntKind} {i : Int} (ht : TySl P t e size bytes zs) (h0 : 0 ≤ i) (hi : es[i.toNat]? = some ps)
    (hx : s.ev x = some (.b (.one (.sl size es)))) (hy : s.ev y = some (.b (.one (.int k i)))) :
    Op1 P E n ⟨dst, .indexAddr t x y, ty, pos, after, g⟩ s (s.put n dst (.b (.eptr ps))) :=
  Op1.val (o := ⟨dst, .indexAddr t x y, ty, pos, after, g⟩) fun ac w h ρ hw hs => by
    obtain ⟨hu, hz, hv⟩ := (ev_rel hs hx : (CP.sl size es).rel h _)
    have hlt := (List.getElem?_eq_some_iff.1 hi).1
    rcases hv with ⟨_, rfl⟩ | ⟨b, o, c, hv, hc1, hc2, hr⟩
    · simp at hlt
    · refine ⟨.pointer (some ⟨b, o + i.toNat * size, none⟩), ?_, b, _, rfl, hr.elem hu _ _ hi⟩
      simp only [execOp, hv, (ev_int hs hy).1]
      simp [run_indexAt_sl ht w b o es.length c k i h0 (by omega)]
/-- the element i of a slice of one's own -/
theorem op_index_r {e T : TypeId} {j size size' bytes o : Nat} {zs : List CP} {es : List (List CP)} {k : IntKind} {i : Int} (ht : TySl P t e size bytes zs) (h0 : 0 ≤ i) (h1 : i < es.length)
    (hx : s.ev x = some (.b (.row j))) (hk : lk s.own j = some (.row T size' es)) (hy : s.ev y = some (.b (.one (.int k i)))) (ho : i.toNat * size = o) :
    Op1 P E n ⟨dst, .indexAddr t x y, ty, pos, after, g⟩ s (s.put n dst (.b (.rptr j o))) :=
  Op1.val (o := ⟨dst, .indexAddr t x y, ty, pos, after, g⟩) fun ac w h ρ hw hs => by
    have hv : ac.eval x = ρ j := (ev_rel hs hx : BV.rel h ρ (.row j) _)
    obtain ⟨hu, hz, xs, ⟨_, how⟩, hr⟩ := (hw.owned j _ (lk_mem hk)).1
    rcases how with ⟨_, he⟩ | ⟨b, cap, cur, hρ, _, hb, hc1, hc2, hc3, hc4⟩
    · omega
    · refine ⟨.pointer (some ⟨b, i.toNat * size, none⟩), ?_, b, es.length, cap, hρ, by rw [ho]⟩
      simp only [execOp, hv, hρ, (ev_int hs hy).1]
      simp [run_indexAt_sl ht w b 0 es.length cap k i h0 (by omega)]
theorem run_indexAt_arr {e : TypeId} {m size : Nat} {inf : TypeInfo} (hu : P.underlying t = some (.array m e)) (hi : P.info? e = some inf) (hs : inf.size = size) (w : World) (b o : Nat) (k : IntKind) (i : Int) (h0 : 0 ≤ i) (h1 : i < m) :
    (Instr.indexAt t (.pointer (some ⟨b, o, none⟩)) (.int k i)).run P w = .ok (.pointer (some ⟨b, o + i.toNat * size, none⟩)) w := by
  subst hs
  simp [Instr.indexAt, run_underlying hu, asIntOf, Instr.sureAddr, h0, h1, sizeOf, typeInfo, hi, Addr.add_lit]
structure TyArr (P : Program) (t e : TypeId) (m size : Nat) : Prop where
  und : P.underlying t = some (.array m e)
  info : ∃ i, P.info? e = some i ∧ i.size = size
theorem op_index_p {e : TypeId} {m size j o o' : Nat} {k : IntKind} {i : Int} (ht : TyArr P t e m size) (h0 : 0 ≤ i) (h1 : i < m) (hx : s.ev x = some (.b (.ptr j o))) (hy : s.ev y = some (.b (.one (.int k i)))) (ho : o + i.toNat * size = o') :
    Op1 P E n ⟨dst, .indexAddr t x y, ty, pos, after, g⟩ s (s.put n dst (.b (.ptr j o'))) :=
  Op1.val (o := ⟨dst, .indexAddr t x y, ty, pos, after, g⟩) fun ac w h ρ hw hs => by
    obtain ⟨b, he, hv⟩ := (ev_rel hs hx : BV.rel h ρ (.ptr j o) _)
    obtain ⟨inf, hi, hsz⟩ := ht.info
    refine ⟨.pointer (some ⟨b, o + i.toNat * size, none⟩), ?_, b, he, by rw [ho]⟩
    simp only [execOp, hv, (ev_int hs hy).1]
    simp [run_indexAt_arr ht.und hi hsz w b o k i h0 h1]
theorem op_nilCheck_p {j o : Nat} (hx : s.ev x = some (.b (.ptr j o))) : Op1 P E n ⟨dst, .nilCheck x, ty, pos, after, g⟩ s (s.put n dst (.b (.ptr j o))) :=
  Op1.val (o := ⟨dst, .nilCheck x, ty, pos, after, g⟩) fun ac w h ρ hw hs => by
    obtain ⟨b, he, hv⟩ := (ev_rel hs hx : BV.rel h ρ (.ptr j o) _)
    refine ⟨.pointer (some ⟨b, o, none⟩), ?_, b, he, rfl⟩
    simp only [execOp, hv]; rfl

end
end Go.Sk
