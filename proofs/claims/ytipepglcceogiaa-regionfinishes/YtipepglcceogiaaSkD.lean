/- The framework, part D: builtins that read, stores, new memory, append. -/
import Derived.Test.YtipepglcceogiaaSkC
namespace Go.Sk
set_option linter.unusedSimpArgs false
set_option linter.unusedVariables false
open Go Go.BigFrame

theorem mk_size (l : Str) : (⟨⟨l⟩⟩ : ByteArray).size = l.length := rfl
section
variable {P : Program} {E : Env} {n : Sh} {s : St} {dst : Option Nat} {t ty yt : TypeId} {pos : String} {after : Array Edge} {g : Option (Nat × Bool)} {x y c : Operand}

theorem len_le {h : PH} {size : Nat} {es : List (List CP)} {v : Value} (hv : (CP.sl size es).rel h v) : es.length ≤ maxLen := by
  rcases hv.2.2 with ⟨_, rfl⟩ | ⟨b, o, c, _, h1, h2, _⟩
  · simp
  · omega
theorem maxLen_eq : maxLen = 9223372036854775807 := by simp [maxLen]
theorem inR_len {m : Nat} (h : m ≤ maxLen) : inR .i64 (m : Int) := by rw [maxLen_eq] at h; exact inR_i64 (by omega) (by omega)

/-! ## length -/
theorem op_len_e {size : Nat} {es : List (List CP)} {e : TypeId} (ht : P.underlying t = some (.slice e)) (hx : s.ev x = some (.b (.one (.sl size es)))) :
    Op1 P E n ⟨dst, .call ⟨.builtin .len, #[x], #[t]⟩, ty, pos, after, g⟩ s (s.put n dst (I (es.length : Int))) :=
  Op1.val (o := ⟨dst, .call ⟨.builtin .len, #[x], #[t]⟩, ty, pos, after, g⟩) fun ac w h ρ hw hs => by
    have hv := (ev_rel hs hx : (CP.sl size es).rel h _)
    have hl := len_le hv
    refine ⟨.int .i64 es.length, ?_, rfl, inR_len hl⟩
    rw [execOp_builtin, builtin_len]
    rcases hv.2.2 with ⟨hv1, rfl⟩ | ⟨b, o, c, hv1, _⟩ <;> simp [hv1, Builtin.len_, run_underlying ht, goInt]
theorem op_len_str {z : Str} (ht : P.underlying t = some .string) (hx : s.ev x = some (.b (.one (.str z)))) :
    Op1 P E n ⟨dst, .call ⟨.builtin .len, #[x], #[t]⟩, ty, pos, after, g⟩ s (s.put n dst (I (z.length : Int))) :=
  Op1.val (o := ⟨dst, .call ⟨.builtin .len, #[x], #[t]⟩, ty, pos, after, g⟩) fun ac w h ρ hw hs => by
    obtain ⟨hv, hl⟩ := ev_str hs hx
    refine ⟨.int .i64 z.length, ?_, rfl, inR_len hl⟩
    rw [execOp_builtin, builtin_len]
    simp [hv, Builtin.len_, run_underlying ht, goInt, mk_size]
theorem row_form {E : Env} {n : Sh} {h : PH} {ρ : RM} {own : List (Nat × OC)} {w : World} (hw : WR E n own h ρ w) {k : Nat} {T : TypeId} {size : Nat} {es : List (List CP)} (hk : lk own k = some (.row T size es)) :
    Uniform size es ∧ 0 < size ∧ ((ρ k = .slice none 0 0 ∧ es = []) ∨ ∃ b cap cur, ρ k = .slice (some ⟨b, 0, none⟩) es.length cap ∧ w.heap[b]? = some (.cells cur T (0, 0)) ∧ es.length ≤ cap ∧ cap ≤ maxLen ∧ cur.size = cap * size ∧
      cellsRel h es.flatten (cur.toList.take (es.length * size))) := by
  obtain ⟨hu, hz, xs, ⟨hl, how⟩, hr⟩ := (hw.owned k _ (lk_mem hk)).1
  refine ⟨hu, hz, ?_⟩
  rcases how with ⟨h1, he⟩ | ⟨b, cap, cur, h1, _, h3, h4, h5, h6, h7⟩
  · exact .inl ⟨h1, by cases es <;> simp_all⟩
  · exact .inr ⟨b, cap, cur, h1, h3, h4, h5, h6, by rw [h7]; exact hr⟩
theorem op_len_r {k size : Nat} {T e : TypeId} {es : List (List CP)} (ht : P.underlying t = some (.slice e)) (hx : s.ev x = some (.b (.row k))) (hk : lk s.own k = some (.row T size es)) :
    Op1 P E n ⟨dst, .call ⟨.builtin .len, #[x], #[t]⟩, ty, pos, after, g⟩ s (s.put n dst (I (es.length : Int))) :=
  Op1.val (o := ⟨dst, .call ⟨.builtin .len, #[x], #[t]⟩, ty, pos, after, g⟩) fun ac w h ρ hw hs => by
    have hv : ac.eval x = ρ k := (ev_rel hs hx : BV.rel h ρ (.row k) _)
    obtain ⟨_, _, hf⟩ := row_form hw hk
    rw [execOp_builtin, builtin_len]
    rcases hf with ⟨h1, rfl⟩ | ⟨b, cap, cur, h1, _, h2, h3, _⟩
    · exact ⟨.int .i64 0, by simp [hv, h1, Builtin.len_, run_underlying ht, goInt], rfl, inR_len (by simp)⟩
    · exact ⟨.int .i64 es.length, by simp [hv, h1, Builtin.len_, run_underlying ht, goInt], rfl, inR_len (by omega)⟩

/-! ## parts of a tuple, of a struct -/
theorem op_extract {l : List BV} {i : Nat} {z : BV} (hx : s.ev x = some (.tup l)) (hi : l[i]? = some z) : Op1 P E n ⟨dst, .extract x i, ty, pos, after, g⟩ s (s.put n dst (.b z)) :=
  Op1.val (o := ⟨dst, .extract x i, ty, pos, after, g⟩) fun ac w h ρ hw hs => by
    obtain ⟨vs, hv, ha⟩ := (ev_rel hs hx : SV.rel h ρ (.tup l) _)
    obtain ⟨u, hu, hr⟩ := ha.get i z hi
    have : vs[i]? = some u := by simpa using hu
    exact ⟨u, by simp only [execOp, hv]; simp [Instr.extract, this], hr⟩
theorem op_fieldv1 {f off : Nat} {ft : TypeId} {ps : List CP} {p : CP} (ht : TyField P t f off ft) (h1 : TyOne P ft) (hx : s.ev x = some (.b (.agg ps))) (hp : ps[off]? = some p) :
    Op1 P E n ⟨dst, .field t x f, ty, pos, after, g⟩ s (s.put n dst (.b (.one p))) :=
  Op1.val (o := ⟨dst, .field t x f, ty, pos, after, g⟩) fun ac w h ρ hw hs => by
    obtain ⟨cs, hv, ha⟩ := (ev_rel hs hx : BV.rel h ρ (.agg ps) _)
    obtain ⟨fs, fd, i, e1, e2, rfl, rfl, e5, e6⟩ := ht.und
    obtain ⟨d, hd, hag⟩ := h1.und
    obtain ⟨u, hu, hr⟩ := ha.get _ p hp
    have hcu : cs[fd.offset]? = some u := by simpa using hu
    refine ⟨u, ?_, hr⟩
    simp only [execOp, hv]
    have : (part fd.type cs fd.offset).run P w = .ok u w := by
      unfold part
      rw [Sem.run_bind, run_isAgg hd, Result.andThen, hag]
      simp [hcu]
    simp [Instr.field, run_underlying e1, e2, asAgg, this]
theorem op_fieldv {f off m : Nat} {ft : TypeId} {ps qs : List CP} (ht : TyField P t f off ft) (h1 : TyAgg P ft m) (hx : s.ev x = some (.b (.agg ps))) (hp : (ps.drop off).take m = qs) :
    Op1 P E n ⟨dst, .field t x f, ty, pos, after, g⟩ s (s.put n dst (.b (.agg qs))) :=
  Op1.val (o := ⟨dst, .field t x f, ty, pos, after, g⟩) fun ac w h ρ hw hs => by
    obtain ⟨cs, hv, ha⟩ := (ev_rel hs hx : BV.rel h ρ (.agg ps) _)
    obtain ⟨fs, fd, i, e1, e2, rfl, rfl, e5, e6⟩ := ht.und
    obtain ⟨d, hd, hag⟩ := h1.und
    obtain ⟨i', hi', hm⟩ := h1.size
    have hr : cellsRel h qs ((cs.toList.drop fd.offset).take m) := by rw [← hp]; exact All2.take (All2.drop ha _) m
    have hex : (cs.extract fd.offset (fd.offset + m)).toList = (cs.toList.drop fd.offset).take m := by
      simp [List.take_drop]
    refine ⟨.agg (cs.extract fd.offset (fd.offset + m)), ?_, _, rfl, by rw [hex]; exact hr⟩
    simp only [execOp, hv]
    have : (part fd.type cs fd.offset).run P w = .ok (.agg (cs.extract fd.offset (fd.offset + m))) w := by
      unfold part
      rw [Sem.run_bind, run_isAgg hd, Result.andThen, hag]
      simp [sizeOf, typeInfo, hi', hm]
    simp [Instr.field, run_underlying e1, e2, asAgg, this]
theorem op_index_str {z : Str} {k : IntKind} {i : Int} {b : UInt8} (ht : P.underlying t = some .string) (hx : s.ev x = some (.b (.one (.str z)))) (hy : s.ev y = some (.b (.one (.int k i)))) (h0 : 0 ≤ i) (hi : z[i.toNat]? = some b) :
    Op1 P E n ⟨dst, .index t x y, ty, pos, after, g⟩ s (s.put n dst (.b (.one (.int .u8 b.toNat)))) :=
  Op1.val (o := ⟨dst, .index t x y, ty, pos, after, g⟩) fun ac w h ρ hw hs => by
    obtain ⟨hv, hl⟩ := ev_str hs hx
    have hlt := (List.getElem?_eq_some_iff.1 hi).1
    have hsz : (⟨⟨z⟩⟩ : ByteArray)[i.toNat]? = some b := by
      have : i.toNat < (⟨⟨z⟩⟩ : ByteArray).size := hlt
      rw [getElem?_pos (⟨⟨z⟩⟩ : ByteArray) i.toNat this]
      exact congrArg some (List.getElem?_eq_some_iff.1 hi).2
    refine ⟨.int .u8 b.toNat, ?_, rfl, ?_⟩
    · simp only [execOp, hv, (ev_int hs hy).1]
      simp [Instr.index, asIntOf, run_underlying ht, h0, hsz]
    · have := b.toNat_lt
      simp [inR, IntKind.min, IntKind.max, IntKind.signed, IntKind.bits]
      omega

/-! ## stores -/
def splice {α : Type} (ps : List α) (off : Nat) (qs : List α) : List α := ps.take off ++ qs ++ ps.drop (off + qs.length)
theorem All2.splice {α β : Type} {r : α → β → Prop} {as : List α} {bs : List β} {qs : List α} {us : List β} (h : All2 r as bs) (hq : All2 r qs us) (off : Nat) : All2 r (Sk.splice as off qs) (Sk.splice bs off us) := by
  unfold Sk.splice
  rw [hq.length]
  exact ((h.take off).append hq).append (h.drop _)
theorem run_store_at {m : Nat} {i : TypeInfo} (hi : P.info? t = some i) (hm : i.size = m) {w : World} {b o : Nat} {cur : Array Value} {T : TypeId} (hb : w.heap[b]? = some (.cells cur T (0, 0))) {v : Value} (hl : v.cells.size = m)
    (ho : o + m ≤ cur.size) (h1 : ∀ u ∈ v.cells.toList, u.oneCell' = true) :
    (storeVar t ⟨b, o, none⟩ v).run P w = .ok () (w.setRow b (Sk.splice cur.toList o v.cells.toList).toArray) := by
  subst hm
  have := run_storeCells_at P b o T v.cells.toList 0 cur w hb (by simp; omega) h1
  simp [storeVar, sizeOf, typeInfo, hi, hl, this, Sk.splice]
structure TySize (P : Program) (t : TypeId) (m : Nat) : Prop where
  info : ∃ i, P.info? t = some i ∧ i.size = m
theorem TyAgg.sz {m : Nat} (h : TyAgg P t m) : TySize P t m := ⟨h.size⟩
theorem TyOne.sz (h : TyOne P t) : TySize P t 1 := ⟨h.size⟩

theorem WR.setBox {h : PH} {ρ : RM} {own : List (Nat × OC)} {w : World} (hw : WR E n own h ρ w) {k b : Nat} {T : TypeId} {ps ps' : List CP} {cur : Array Value} {cs : List Value} (hk : lk own k = some (.box T ps)) (hρ : ρ k = .pointer (some ⟨b, 0, none⟩))
    (hb : w.heap[b]? = some (.cells cur T (0, 0))) (hr : cellsRel h ps' cs) : WR E n (ins k (.box T ps') own) h ρ (w.setRow b cs.toArray) := by
  have hst := hw.step (w' := w.setRow b cs.toArray) k (ρ k) (.box T ps') (some b) (fun b' e => by cases e; exact ⟨_, lk_mem hk, by rw [hρ]; rfl⟩) (by simp) rfl rfl
    (fun b' _ hne => setRow_other _ _ _ _ (fun e => hne (by rw [e]))) ⟨b, cs.toArray, hρ, setRow_heap _ _ _ _ _ _ hb, by simpa using hr⟩ (fun b' hb' => by rw [hρ] at hb'; simp [blkOf] at hb'; exact .inl (by rw [hb'])) (.inl rfl) (.inl rfl)
  have : upd ρ k (ρ k) = ρ := by funext j; simp only [upd]; split <;> simp_all
  rwa [this] at hst
theorem Op1.store {o : Oper} {own' : List (Nat × OC)} (hd : o.dst = none)
    (H : ∀ (a : Act) (w : World) (h : PH) (ρ : RM), WR E n s.own h ρ w → SlotsRel h ρ s.slots a.tmps → ∃ w', (execOp a.eval o).run P w = .ok .skip w' ∧ WR E n own' h ρ w') : Op1 P E n o s ⟨s.slots, own'⟩ := by
  intro a w ⟨hdf, hn, h, ρ, hw, hs⟩ next Q hnext
  obtain ⟨w', hv, hw'⟩ := H a w h ρ hw hs
  unfold Oper.wp
  rw [hv]
  refine hnext _ _ ?_
  rw [hd]
  exact ⟨hdf, hn, h, ρ, hw', hs⟩
/-- a store of one cell into a box -/
theorem op_store_p1 {k off : Nat} {T : TypeId} {ps ps' : List CP} {p : CP} (ht : TyOne P t) (hx : s.ev x = some (.b (.ptr k off))) (hk : lk s.own k = some (.box T ps)) (hy : s.ev y = some (.b (.one p))) (hlt : off < ps.length) (hps : ps.set off p = ps') :
    Op1 P E n ⟨none, .store t x y, ty, pos, after, g⟩ s ⟨s.slots, ins k (.box T ps') s.own⟩ :=
  Op1.store (o := ⟨none, .store t x y, ty, pos, after, g⟩) rfl fun ac w h ρ hw hs => by
    obtain ⟨b, he, hv⟩ := (ev_rel hs hx : BV.rel h ρ (.ptr k off) _)
    obtain ⟨b', cur, hb1, hb2, hb3⟩ := box_cells hw hk
    have : b' = b := by rw [hb1] at he; simpa using he
    subst this
    have hp : p.rel h (ac.eval y) := ev_rel hs hy
    have h1 := p.one hp
    obtain ⟨i, hi, hm⟩ := ht.size
    have hcells : (ac.eval y).cells = #[ac.eval y] := by cases hq : ac.eval y <;> first | rfl | (rw [hq] at h1; simp [Value.oneCell'] at h1)
    have hlen := hb3.length
    have hrun := run_store_at (P := P) (t := t) hi hm hb2 (v := ac.eval y) (o := off) (by rw [hcells]; rfl) (by simp at hlen; omega) (by rw [hcells]; simpa using h1)
    refine ⟨_, by simp only [execOp, hv, Instr.storeAt, Instr.sureAddr]; simp [hrun]; rfl, ?_⟩
    refine hw.setBox hk hb1 hb2 ?_
    rw [← hps]
    have hset : Sk.splice cur.toList off (ac.eval y).cells.toList = cur.toList.set off (ac.eval y) := by
      rw [hcells]
      have : off < cur.toList.length := by rw [← hlen]; exact hlt
      simp only [Sk.splice, List.length_cons, List.length_nil]
      rw [List.set_eq_take_append_cons_drop, if_pos this]; simp
    rw [hset]
    exact All2.set hb3 off hp
/-- a store of several cells into a box -/
theorem op_store_p {k off m : Nat} {T : TypeId} {ps ps' qs : List CP} (ht : TyAgg P t m) (hx : s.ev x = some (.b (.ptr k off))) (hk : lk s.own k = some (.box T ps)) (hy : s.ev y = some (.b (.agg qs))) (hq : qs.length = m) (hlt : off + m ≤ ps.length) (hps : Sk.splice ps off qs = ps') :
    Op1 P E n ⟨none, .store t x y, ty, pos, after, g⟩ s ⟨s.slots, ins k (.box T ps') s.own⟩ :=
  Op1.store (o := ⟨none, .store t x y, ty, pos, after, g⟩) rfl fun ac w h ρ hw hs => by
    obtain ⟨b, he, hv⟩ := (ev_rel hs hx : BV.rel h ρ (.ptr k off) _)
    obtain ⟨b', cur, hb1, hb2, hb3⟩ := box_cells hw hk
    have : b' = b := by rw [hb1] at he; simpa using he
    subst this
    obtain ⟨cs, hcv, hcr⟩ := (ev_rel hs hy : BV.rel h ρ (.agg qs) _)
    obtain ⟨i, hi, hm⟩ := ht.size
    have hlen := hb3.length
    have hlen2 := hcr.length
    have hrun := run_store_at (P := P) (t := t) hi hm hb2 (v := .agg cs) (o := off) (by simp [Value.cells] at hlen2 ⊢; omega) (by simp at hlen; omega) (by simpa [Value.cells] using hcr.one)
    refine ⟨_, by simp only [execOp, hv, hcv, Instr.storeAt, Instr.sureAddr]; simp [hrun]; rfl, ?_⟩
    refine hw.setBox hk hb1 hb2 ?_
    rw [← hps]
    exact All2.splice hb3 hcr off
end
end Go.Sk
