/- The framework, part I: typed data, further operations, ends with rows. -/
import Derived.Test.YtipepglcceogiaaSkH
namespace Go.Sk
set_option linter.unusedSimpArgs false
set_option linter.unusedVariables false
open Go Go.BigFrame

/-! ## typed data -/
def eI (x : Int) : List CP := [.i x]
def eK (k : IntKind) (x : Int) : List CP := [.int k x]
def eB (x : Bool) : List CP := [.bool x]
def eS (x : Str) : List CP := [.str x]
def eL {α : Type} (size : Nat) (e : α → List CP) (xs : List α) : List CP := [.sl size (xs.map e)]
def idx {α : Type} [Inhabited α] (xs : List α) (i : Int) : α := xs.getD i.toNat default
theorem idx_eq {α : Type} [Inhabited α] {xs : List α} {i : Int} (h0 : 0 ≤ i) (h1 : i < xs.length) : xs[i.toNat]? = some (idx xs i) := by
  have : i.toNat < xs.length := by omega
  simp [idx, List.getD, List.getElem?_eq_getElem this]
theorem map_idx {α : Type} [Inhabited α] {xs : List α} {e : α → List CP} {i : Int} (h0 : 0 ≤ i) (h1 : i < xs.length) : (xs.map e)[i.toNat]? = some (e (idx xs i)) := by
  rw [List.getElem?_map, idx_eq h0 h1]; rfl
theorem get_idx {xs : Str} {i : Int} (h0 : 0 ≤ i) (h1 : i < xs.length) : xs[i.toNat]? = some (idx xs i) := idx_eq h0 h1
theorem lt_idx {α : Type} {xs : List α} {e : α → List CP} {i : Int} (h0 : 0 ≤ i) (h1 : i < xs.length) : i.toNat < (xs.map e).length := by simp; omega
theorem map_set {α : Type} (xs : List α) (e : α → List CP) (i : Nat) (x : α) : (xs.map e).set i (e x) = (xs.set i x).map e := by rw [List.map_set]
theorem uni_map {α : Type} {xs : List α} {e : α → List CP} {size : Nat} (h : ∀ x, (e x).length = size) : Uniform size (xs.map e) := fun ps hp => by
  obtain ⟨x, _, rfl⟩ := List.mem_map.1 hp
  exact h x
theorem inR_u64 {z : Int} (h1 : 0 ≤ z) (h2 : z ≤ 18446744073709551615) : inR .u64 z := by simp [inR, IntKind.min, IntKind.max, IntKind.signed, IntKind.bits]; omega
theorem inR_u32 {z : Int} (h1 : 0 ≤ z) (h2 : z ≤ 4294967295) : inR .u32 z := by simp [inR, IntKind.min, IntKind.max, IntKind.signed, IntKind.bits]; omega
theorem inR_u8 {z : Int} (h1 : 0 ≤ z) (h2 : z ≤ 255) : inR .u8 z := by simp [inR, IntKind.min, IntKind.max, IntKind.signed, IntKind.bits]; omega
def flatAll : List BV → Prop
  | [] => True
  | z :: l => z.flat ∧ flatAll l
def cpAll : List CP → Prop
  | [] => True
  | p :: l => p.flat ∧ cpAll l
theorem cpAll_mem : ∀ {l : List CP}, cpAll l → ∀ p ∈ l, p.flat
  | [], _, p, hp => by simp at hp
  | q :: l, h, p, hp => by
    cases List.mem_cons.1 hp with
    | inl e => subst e; exact h.1
    | inr e => exact cpAll_mem h.2 p e
theorem flat_agg {ps : List CP} (h : cpAll ps) : (BV.agg ps).flat := cpAll_mem h
theorem flat_tup : ∀ {l : List BV}, flatAll l → (SV.tup l).flat
  | [], _ => fun z hz => by simp at hz
  | q :: l, h => fun p hp => by
    cases List.mem_cons.1 hp with
    | inl e => subst e; exact h.1
    | inr e => exact flat_tup h.2 p e

section
variable {P : Program} {E : Env} {n : Sh} {s s' : St} {dst : Option Nat} {t ty yt : TypeId} {pos : String} {after : Array Edge} {g : Option (Nat × Bool)} {x y c : Operand} {ops : Array Oper} {l : List Oper} {Q : Post} {cd : Code}

theorem op_len_e' {size : Nat} {es : List (List CP)} {e : TypeId} {m : Nat} (ht : P.underlying t = some (.slice e)) (hx : s.ev x = some (.b (.one (.sl size es)))) (hm : es.length = m) :
    Op1 P E n ⟨dst, .call ⟨.builtin .len, #[x], #[t]⟩, ty, pos, after, g⟩ s (s.put n dst (I (m : Int))) := hm ▸ op_len_e ht hx
theorem op_len_r' {k size : Nat} {T e : TypeId} {es : List (List CP)} {m : Nat} (ht : P.underlying t = some (.slice e)) (hx : s.ev x = some (.b (.row k))) (hk : lk s.own k = some (.row T size es)) (hm : es.length = m) :
    Op1 P E n ⟨dst, .call ⟨.builtin .len, #[x], #[t]⟩, ty, pos, after, g⟩ s (s.put n dst (I (m : Int))) := hm ▸ op_len_r ht hx hk

/-! ## further arithmetic -/
theorem op_rem {k : IntKind} {a b : Int} (h : b ≠ 0) (hx : s.ev x = some (.b (.one (.int k a)))) (hy : s.ev y = some (.b (.one (.int k b)))) : Op1 P E n ⟨dst, .binOp .rem t x y yt, ty, pos, after, g⟩ s (s.put n dst (.b (.one (.int k (a.tmod b))))) :=
  Op1.val (o := ⟨dst, .binOp .rem t x y yt, ty, pos, after, g⟩) fun ac w h' ρ hw hs => by
    have hra := (ev_int hs hx).2
    refine ⟨.int k (a.tmod b), ?_, rfl, ?_⟩
    · simp only [execOp, (ev_int hs hx).1, (ev_int hs hy).1]
      simp [eqGuard, binOp, Op.intDiv, h]
    · have h1 : (a.tmod b).natAbs ≤ a.natAbs := by rw [Int.natAbs_tmod]; exact Nat.mod_le _ _
      unfold inR at hra ⊢
      have h2 : 0 ≤ a → 0 ≤ a.tmod b := fun h => Int.tmod_nonneg b h
      have h3 : a ≤ 0 → a.tmod b ≤ 0 := fun h => by
        have := Int.tmod_nonneg b (a := -a) (by omega)
        rw [Int.neg_tmod] at this; omega
      have h4 : (a.tmod b).natAbs ≤ a.natAbs := h1
      have h5 : k.min ≤ 0 := by cases k <;> simp [IntKind.min, IntKind.signed, IntKind.bits]
      have h6 : 0 ≤ k.max := by cases k <;> simp [IntKind.max, IntKind.signed, IntKind.bits]
      omega
theorem op_quo' {k : IntKind} {a b : Int} (h : b ≠ 0) (hr : inR k (a.tdiv b)) (hx : s.ev x = some (.b (.one (.int k a)))) (hy : s.ev y = some (.b (.one (.int k b)))) : Op1 P E n ⟨dst, .binOp .quo t x y yt, ty, pos, after, g⟩ s (s.put n dst (.b (.one (.int k (a.tdiv b))))) :=
  Op1.val (o := ⟨dst, .binOp .quo t x y yt, ty, pos, after, g⟩) fun ac w h' ρ hw hs => by
    refine ⟨.int k (a.tdiv b), ?_, rfl, hr⟩
    simp only [execOp, (ev_int hs hx).1, (ev_int hs hy).1]
    simp [eqGuard, binOp, Op.intDiv, h, wrap_of_inR hr]
theorem op_conv_int {src d : TypeId} {k k0 : IntKind} {a : Int} (hsrc : P.underlying src = some (.int k0)) (ht : P.underlying d = some (.int k)) (hr : inR k a) (hx : s.ev x = some (.b (.one (.int k0 a)))) :
    Op1 P E n ⟨dst, .convert src d x, ty, pos, after, g⟩ s (s.put n dst (.b (.one (.int k a)))) :=
  Op1.val (o := ⟨dst, .convert src d x, ty, pos, after, g⟩) fun ac w h' ρ hw hs => by
    refine ⟨.int k a, ?_, rfl, hr⟩
    simp only [execOp, (ev_int hs hx).1]
    simp [convert, run_underlying hsrc, run_underlying ht, Conv.intToInt, wrap_of_inR hr]
theorem op_shr {k k2 : IntKind} {a : Int} {m : Nat} (h0 : 0 ≤ a) (hm : m ≤ k.bits) (hx : s.ev x = some (.b (.one (.int k a)))) (hy : s.ev y = some (.b (.one (.int k2 (m : Int))))) {q : Int} (hq : a / 2 ^ m = q) :
    Op1 P E n ⟨dst, .binOp .shr t x y yt, ty, pos, after, g⟩ s (s.put n dst (.b (.one (.int k q)))) :=
  Op1.val (o := ⟨dst, .binOp .shr t x y yt, ty, pos, after, g⟩) fun ac w h' ρ hw hs => by
    have hra := (ev_int hs hx).2
    refine ⟨.int k q, ?_, rfl, ?_⟩
    · have hmin : min m k.bits = m := Nat.min_eq_left hm
      have hd : a.fdiv (2 ^ m) = q := by rw [← hq, Int.fdiv_eq_ediv_of_nonneg _ (Int.pow_nonneg (by decide))]
      simp only [execOp, (ev_int hs hx).1, (ev_int hs hy).1]
      have hneg : ¬ ((m : Int) < 0) := by omega
      simp [eqGuard, binOp, Op.shift, hmin, hd, hneg]
    · have h1 : 0 ≤ q := by rw [← hq]; exact Int.ediv_nonneg h0 (Int.pow_nonneg (by decide))
      have h2 : q ≤ a := by rw [← hq]; exact Int.ediv_le_self _ h0
      unfold inR at hra ⊢
      have h5 : k.min ≤ 0 := by cases k <;> simp [IntKind.min, IntKind.signed, IntKind.bits]
      omega
theorem op_add_str {u v : Str} (h : u.length + v.length ≤ 9223372036854775807) (hx : s.ev x = some (.b (.one (.str u)))) (hy : s.ev y = some (.b (.one (.str v)))) : Op1 P E n ⟨dst, .binOp .add t x y yt, ty, pos, after, g⟩ s (s.put n dst (.b (.one (.str (u ++ v))))) :=
  Op1.val (o := ⟨dst, .binOp .add t x y yt, ty, pos, after, g⟩) fun ac w h' ρ hw hs => by
    refine ⟨.string ⟨⟨u ++ v⟩⟩, ?_, rfl, by rw [maxLen_eq]; simpa using h⟩
    simp only [execOp, (ev_str hs hx).1, (ev_str hs hy).1]
    have hrun := run_string_add_sum (P := P) w ⟨⟨u⟩⟩ ⟨⟨v⟩⟩ h
    have happ : (⟨⟨u⟩⟩ : ByteArray) ++ ⟨⟨v⟩⟩ = ⟨⟨u ++ v⟩⟩ := ByteArray.mk_append_mk u v
    simp [eqGuard, binOp, hrun, happ]

/-! ## elements of rows -/
theorem row_some {h : PH} {ρ : RM} {own : List (Nat × OC)} {w : World} (hw : WR E n own h ρ w) {k : Nat} {T : TypeId} {size : Nat} {es : List (List CP)} (hk : lk own k = some (.row T size es)) {b m q : Nat} (hρ : ρ k = .slice (some ⟨b, 0, none⟩) m q) :
    Uniform size es ∧ 0 < size ∧ ∃ cap cur, ρ k = .slice (some ⟨b, 0, none⟩) es.length cap ∧ w.heap[b]? = some (.cells cur T (0, 0)) ∧ es.length ≤ cap ∧ cap ≤ maxLen ∧ cur.size = cap * size ∧ cellsRel h es.flatten (cur.toList.take (es.length * size)) := by
  obtain ⟨hu, hz, hf⟩ := row_form hw hk
  refine ⟨hu, hz, ?_⟩
  rcases hf with ⟨h1, _⟩ | ⟨b', cap, cur, h1, h2⟩
  · rw [hρ] at h1; simp at h1
  · have : b' = b := by rw [hρ] at h1; simp at h1; exact h1.1.symm
    subst this
    exact ⟨cap, cur, h1, h2⟩
theorem row_elem {h : PH} {size : Nat} {es : List (List CP)} {cur : Array Value} (hu : Uniform size es) (hr : cellsRel h es.flatten (cur.toList.take (es.length * size))) {i : Nat} {ps : List CP} (hi : es[i]? = some ps) (f : Nat) :
    cellsRel h (ps.drop f) ((cur.toList.drop (i * size + f)).take (ps.length - f)) := by
  have hil := (List.getElem?_eq_some_iff.1 hi).1
  have hpl : ps.length = size := hu ps (List.mem_of_getElem? hi)
  have hlen := hr.length
  rw [flatten_len hu] at hlen
  simp only [List.length_take, Array.length_toList] at hlen
  have hsz : es.length * size ≤ cur.size := by omega
  have hle : (i + 1) * size ≤ es.length * size := Nat.mul_le_mul_right _ hil
  rw [Nat.add_mul] at hle
  refine All2.of_get (by simp; omega) fun j p u hp hv => ?_
  rw [List.getElem?_drop] at hp
  have hj := (List.getElem?_eq_some_iff.1 hp).1
  obtain ⟨u', hu', hrel⟩ := hr.get (i * size + (f + j)) p (by rw [flatten_get hu i ps hi (f + j) (by omega)]; exact hp)
  rw [List.getElem?_take, if_pos (by omega)] at hu'
  rw [List.getElem?_take, if_pos (by omega), List.getElem?_drop, Nat.add_assoc] at hv
  rw [hu'] at hv; cases hv
  exact hrel
theorem op_load_r {k o i f m size : Nat} {T : TypeId} {es : List (List CP)} {ps qs : List CP} (ht : TyAgg P t m) (hx : s.ev x = some (.b (.rptr k o))) (hk : lk s.own k = some (.row T size es)) (ho : o = i * size + f) (hi : es[i]? = some ps) (hp : (ps.drop f).take m = qs) (hq : qs.length = m) :
    Op1 P E n ⟨dst, .load t x, ty, pos, after, g⟩ s (s.put n dst (.b (.agg qs))) :=
  Op1.val (o := ⟨dst, .load t x, ty, pos, after, g⟩) fun ac w h ρ hw hs => by
    obtain ⟨b, mm, q, he, hv⟩ := (ev_rel hs hx : BV.rel h ρ (.rptr k o) _)
    obtain ⟨hu, hz, cap, cur, h1, h2, h3, h4, h5, h6⟩ := row_some hw hk he
    have hc0 := All2.take (row_elem hu h6 hi f) m
    have hc : cellsRel h qs (((cur.toList.drop (i * size + f)).take (ps.length - f)).take m) := hp ▸ hc0
    refine ⟨.agg (((cur.toList.drop (i * size + f)).take (ps.length - f)).take m).toArray, ?_, _, rfl, by simpa using hc⟩
    have := run_load_agg ht (w := w) (b := b) (o := o) (cs := ((cur.toList.drop (i * size + f)).take (ps.length - f)).take m) (by rw [← hc.length, hq]) (fun j v hv => by
      rw [cell_row h2, ho]
      rw [List.getElem?_take] at hv
      split at hv
      · rw [List.getElem?_take] at hv
        split at hv
        · simpa using hv
        · simp at hv
      · simp at hv)
    simp only [execOp, hv, Instr.loadAt, Instr.sureAddr]
    simp [this]
theorem op_load_r1 {k o i f size : Nat} {T : TypeId} {es : List (List CP)} {ps : List CP} {p : CP} (ht : TyOne P t) (hx : s.ev x = some (.b (.rptr k o))) (hk : lk s.own k = some (.row T size es)) (ho : o = i * size + f) (hi : es[i]? = some ps) (hp : ps[f]? = some p) :
    Op1 P E n ⟨dst, .load t x, ty, pos, after, g⟩ s (s.put n dst (.b (.one p))) :=
  Op1.val (o := ⟨dst, .load t x, ty, pos, after, g⟩) fun ac w h ρ hw hs => by
    obtain ⟨b, mm, q, he, hv⟩ := (ev_rel hs hx : BV.rel h ρ (.rptr k o) _)
    obtain ⟨hu, hz, cap, cur, h1, h2, h3, h4, h5, h6⟩ := row_some hw hk he
    have hc := row_elem hu h6 hi f
    obtain ⟨u, hu', hpu⟩ := hc.get 0 p (by rw [List.getElem?_drop, Nat.add_zero]; exact hp)
    rw [List.getElem?_take] at hu'
    have hcell : w.cell? ⟨b, o, none⟩ = some u := by
      rw [cell_row h2, ho]
      split at hu'
      · simpa using hu'
      · simp at hu'
    have := run_load_one ht (w := w) hcell
    refine ⟨u, ?_, hpu⟩
    simp only [execOp, hv, Instr.loadAt, Instr.sureAddr]
    simp [this]
theorem splice_flat {size : Nat} {qs : List CP} (hq : qs.length = size) : ∀ {es : List (List CP)}, Uniform size es → ∀ (i : Nat), i < es.length → splice es.flatten (i * size) qs = (es.set i qs).flatten
  | [], _, i, h => by simp at h
  | p :: es, hu, 0, _ => by
    have hp : p.length = size := hu p (by simp)
    simp only [splice, Nat.zero_mul, List.take_zero, List.nil_append, Nat.zero_add, List.set_cons_zero, List.flatten_cons, hq]
    rw [← hp, List.drop_left]
  | p :: es, hu, i + 1, h => by
    have hp : p.length = size := hu p (by simp)
    have ih := splice_flat hq (es := es) (fun q hq => hu q (by simp [hq])) i (by simpa using h)
    have e : (i + 1) * size = p.length + i * size := by rw [Nat.add_mul, hp]; omega
    simp only [splice, List.flatten_cons, List.set_cons_succ] at ih ⊢
    rw [← ih, e, Nat.add_assoc, List.take_length_add_append, List.drop_length_add_append]
    simp [List.append_assoc]
theorem store_row_core {h : PH} {ρ : RM} {w : World} (hw : WR E n s.own h ρ w) {k i m size : Nat} {T : TypeId} {es : List (List CP)} {qs : List CP} {u : Value} {b mm q : Nat} {inf : TypeInfo} (hi : P.info? t = some inf) (hm : inf.size = m) (hk : lk s.own k = some (.row T size es))
    (he : ρ k = .slice (some ⟨b, 0, none⟩) mm q) (hms : m = size) (hlt : i < es.length) (hcr : cellsRel h qs u.cells.toList) (hq : qs.length = size) :
    ∃ w', (storeVar t ⟨b, i * size, none⟩ u).run P w = .ok () w' ∧ WR E n (ins k (.row T size (es.set i qs)) s.own) h ρ w' := by
  obtain ⟨hu, hz, cap, cur, h1, h2, h3, h4, h5, h6⟩ := row_some hw hk he
  have hl := hcr.length
  simp only [Array.length_toList] at hl
  have hle : (i + 1) * size ≤ es.length * size := Nat.mul_le_mul_right _ hlt
  rw [Nat.add_mul] at hle
  have hcap : es.length * size ≤ cap * size := Nat.mul_le_mul_right _ h3
  have hrun := run_store_at (P := P) (t := t) hi hm h2 (v := u) (o := i * size) (by omega) (by omega) hcr.one
  refine ⟨_, hrun, ?_⟩
  have hspl : (splice cur.toList (i * size) u.cells.toList).length = cur.size := by simp [splice]; omega
  have hst := hw.step (w' := w.setRow b (splice cur.toList (i * size) u.cells.toList).toArray) k (ρ k) (.row T size (es.set i qs)) (some b) (fun b' e => by cases e; exact ⟨_, lk_mem hk, by rw [he]; rfl⟩) (by simp) rfl rfl
    (fun b' _ hne => setRow_other _ _ _ _ (fun e => hne (by rw [e]))) ?_ (fun b' hb' => by rw [he] at hb'; simp [blkOf] at hb'; exact .inl (by rw [hb'])) (.inl rfl) (.inl rfl)
  · have : upd ρ k (ρ k) = ρ := by funext j; simp only [upd]; split <;> simp_all
    rwa [this] at hst
  · have hu' : Uniform size (es.set i qs) := fun ps hps => by
      rcases List.mem_or_eq_of_mem_set hps with h | h
      · exact hu ps h
      · rw [h]; exact hq
    refine ⟨hu', hz, _, ⟨?_, .inr ⟨b, cap, (splice cur.toList (i * size) u.cells.toList).toArray, by rw [h1, List.length_set], Nat.zero_le _, setRow_heap _ _ _ _ _ _ h2, by rw [List.length_set]; exact h3, h4, by simp [hspl, h5], rfl⟩⟩, ?_⟩
    · simp only [List.length_take, List.length_set, hspl]; omega
    · rw [List.length_set, ← splice_flat hq hu i hlt]
      have e1 : (splice cur.toList (i * size) u.cells.toList).take (es.length * size) = splice (cur.toList.take (es.length * size)) (i * size) u.cells.toList := by
        simp only [splice, Array.length_toList]
        rw [List.take_append, List.take_append]
        simp only [List.length_take, List.length_append, Array.length_toList]
        rw [List.take_take, List.take_take, List.take_of_length_le (l := u.cells.toList) (by simp; omega), List.drop_take]
        congr 1
        · congr 2
          omega
        · congr 1
          omega
      rw [e1]
      exact All2.splice h6 hcr _
theorem op_store_r {k o i m size : Nat} {T : TypeId} {es es' : List (List CP)} {qs : List CP} (ht : TyAgg P t m) (hx : s.ev x = some (.b (.rptr k o))) (hk : lk s.own k = some (.row T size es)) (hy : s.ev y = some (.b (.agg qs))) (ho : o = i * size) (hlt : i < es.length) (he : es.set i qs = es')
    (hms : m = size := by rfl) (hq : qs.length = size := by rfl) :
    Op1 P E n ⟨none, .store t x y, ty, pos, after, g⟩ s ⟨s.slots, ins k (.row T size es') s.own⟩ :=
  Op1.store (o := ⟨none, .store t x y, ty, pos, after, g⟩) rfl fun ac w h ρ hw hs => by
    obtain ⟨b, mm, q, hρ, hv⟩ := (ev_rel hs hx : BV.rel h ρ (.rptr k o) _)
    obtain ⟨cs, hcv, hcr⟩ := (ev_rel hs hy : BV.rel h ρ (.agg qs) _)
    obtain ⟨i', hi, hm⟩ := ht.size
    obtain ⟨w', hrun, hwr⟩ := store_row_core hw (u := .agg cs) hi hm hk hρ hms hlt hcr hq
    subst he
    refine ⟨w', ?_, hwr⟩
    simp only [execOp, hv, hcv, Instr.storeAt, Instr.sureAddr, ho]
    simp [hrun]
theorem op_store_r1 {k o i size : Nat} {T : TypeId} {es es' : List (List CP)} {p : CP} (ht : TyOne P t) (hx : s.ev x = some (.b (.rptr k o))) (hk : lk s.own k = some (.row T size es)) (hy : s.ev y = some (.b (.one p))) (ho : o = i * size) (hlt : i < es.length) (he : es.set i [p] = es')
    (hms : 1 = size := by rfl) :
    Op1 P E n ⟨none, .store t x y, ty, pos, after, g⟩ s ⟨s.slots, ins k (.row T size es') s.own⟩ :=
  Op1.store (o := ⟨none, .store t x y, ty, pos, after, g⟩) rfl fun ac w h ρ hw hs => by
    obtain ⟨b, mm, q, hρ, hv⟩ := (ev_rel hs hx : BV.rel h ρ (.rptr k o) _)
    have hp : p.rel h (ac.eval y) := ev_rel hs hy
    have h1 := p.one hp
    have hcells : (ac.eval y).cells = #[ac.eval y] := by cases hq : ac.eval y <;> first | rfl | (rw [hq] at h1; simp [Value.oneCell'] at h1)
    obtain ⟨i', hi, hm⟩ := ht.size
    obtain ⟨w', hrun, hwr⟩ := store_row_core hw (u := ac.eval y) (qs := [p]) hi hm hk hρ hms hlt (by rw [hcells]; exact .cons hp .nil) hms
    subst he
    refine ⟨w', ?_, hwr⟩
    simp only [execOp, hv, Instr.storeAt, Instr.sureAddr, ho]
    simp [hrun]

/-! ## ends -/
def BV.ren (k k0 : Nat) : BV → BV
  | .row j => if j == k then .row k0 else .row j
  | z => z
def noKeys : BV → Bool
  | .one _ | .agg _ => true
  | _ => false
def onlyRow (k : Nat) : BV → Bool
  | .row j => j == k
  | .one _ | .agg _ => true
  | _ => false
theorem OC.uses_row {c : OC} (h : c.isBox = false) {k : Nat} : c.uses k = false := by
  cases c <;> first | rfl | simp [OC.isBox] at h
theorem Fin.result' {fn : Func} {post : SPost} {e : Exit} {rs : List ResultVar} (zs : List BV) (he : e = .ret ∨ e = .normal) (hrs : fn.results.toList = rs) (hr : All2 (ResOk P s) rs zs) (hp : post [] (resSV zs)) : Fin E n e s (Ret P fn E n post) := by
  intro a w ⟨h1, h2, h, ρ, hw, hs⟩
  obtain ⟨v, hv, hrel⟩ := results_run (fn := fn) (hrs ▸ hr) hw hs
  have : a.defers = [] ∧ ∃ v, (results fn a.tmps).run P w = .ok v w ∧ SEnd E n post (.returned v) w := ⟨h1, v, hv, v, [], _, h, ρ, rfl, hp, hw.sub (by simp), hrel⟩
  rcases he with rfl | rfl <;> exact this
theorem Fin.resultK {fn : Func} {post : SPost} {e : Exit} {rs : List ResultVar} {c : OC} (k k0 : Nat) (zs : List BV) (he : e = .ret ∨ e = .normal) (hrs : fn.results.toList = rs) (hr : All2 (ResOk P s) rs zs) (hk : lk s.own k = some c) (hf : n.fix = []) (hb : c.isBox = false) (hz : zs.all (onlyRow k) = true)
    (hp : post [(k0, c)] (resSV (zs.map (BV.ren k k0)))) : Fin E n e s (Ret P fn E n post) := by
  intro a w ⟨h1, h2, h, ρ, hw, hs⟩
  obtain ⟨v, hv, hrel⟩ := results_run (fn := fn) (hrs ▸ hr) hw hs
  have hwr : WR E n [(k0, c)] h (fun _ => ρ k) w := by
    refine ⟨hw.agree, hw.le, hw.fresh, hw.size, hw.same, fun j hj => by rw [hf] at hj; simp at hj, hw.os, hw.out, ?_⟩
    intro j c' hj
    simp only [List.mem_singleton, Prod.mk.injEq] at hj
    obtain ⟨rfl, rfl⟩ := hj
    obtain ⟨e1, e2, _⟩ := hw.owned k _ (lk_mem hk)
    refine ⟨e1.ren fun i hi => by rw [OC.uses_row hb] at hi; simp at hi, e2, fun j' c' hj' hne => ?_⟩
    simp only [List.mem_singleton, Prod.mk.injEq] at hj'
    exact absurd hj'.1 hne
  have hone : ∀ {z : BV} {u : Value}, onlyRow k z = true → z.rel h ρ u → (z.ren k k0).rel h (fun _ => ρ k) u := fun {z u} hz hu => by
    cases z with
    | row j =>
      have e : j = k := by simpa [onlyRow] using hz
      subst e
      simp only [BV.ren, beq_self_eq_true, if_true]
      exact hu
    | one p => exact hu
    | agg ps => exact hu
    | _ => simp [onlyRow] at hz
  have hrel' : (resSV (zs.map (BV.ren k k0))).rel h (fun _ => ρ k) v := by
    have hlist : ∀ {zs : List BV} {us : List Value}, zs.all (onlyRow k) = true → All2 (fun (x : BV) u => x.rel h ρ u) zs us → All2 (fun (x : BV) u => x.rel h (fun _ => ρ k) u) (zs.map (BV.ren k k0)) us := fun {zs us} hz ha => by
      induction ha with
      | nil => exact .nil
      | cons h1 _ ih =>
        simp only [List.all_cons, Bool.and_eq_true] at hz
        exact .cons (hone hz.1 h1) (ih hz.2)
    match zs, hz, hrel with
    | [], hz, ⟨vs, e, ha⟩ => exact ⟨vs, e, hlist hz ha⟩
    | [z], hz, hrel => exact hone (by simpa using hz) hrel
    | z1 :: z2 :: r, hz, ⟨vs, e, ha⟩ => exact ⟨vs, e, hlist hz ha⟩
  have : a.defers = [] ∧ ∃ v, (results fn a.tmps).run P w = .ok v w ∧ SEnd E n post (.returned v) w := ⟨h1, v, hv, v, [(k0, c)], _, h, _, rfl, hp, hwr, hrel'⟩
  rcases he with rfl | rfl <;> exact this
theorem Fin.nilrow {e : Exit} (i k size : Nat) (T : TypeId) (hi : s.get i = some (.b (.one .nil))) (hz : 0 < size) (hfx : n.fix.contains k = false) (h : Fin E n e ⟨(i, .b (.row k)) :: del i (dropU k s.slots), ins k (.row T size []) s.own⟩ Q) (hnu : noUse k s.own = true := by rfl) : Fin E n e s Q :=
  fun a w hr => h a w (hr.nilrow hi hz hfx hnu)
theorem Fin.nilsl {e : Exit} (i size : Nat) (hi : s.get i = some (.b (.one .nil))) (hz : 0 < size) (h : Fin E n e ⟨(i, .b (.one (.sl size []))) :: del i s.slots, s.own⟩ Q) : Fin E n e s Q :=
  fun a w hr => h a w (hr.nilsl hi hz)
end
end Go.Sk
namespace Go.Sk
open Go
section
variable {P : Program} {E : Env} {n : Sh} {s : St} {dst : Option Nat} {ty : TypeId} {pos : String} {after : Array Edge} {g : Option (Nat × Bool)} {x : Operand}
theorem okOwn_nil {own : List (Nat × OC)} : okOwn own [] [] = true := by simp [okOwn, keysOf]
/-- a call that lends nothing and brings no block of its own -/
theorem op_call0 {f : FuncId} {args : List BV} {xs : Array Operand} {ats : Array TypeId} {res : SV} (hspec : Meets P f [] args (Is [] res)) (hf : Goes P f) (ha : evArgs s xs.toList = some args) (hki : res.keysIn [] = true) :
    Op1 P E n ⟨dst, .call ⟨.value (.func f), xs, ats⟩, ty, pos, after, g⟩ s (s.put n dst res) := op_call (own_a := []) (own' := []) hspec hf ha trivial rfl hki okOwn_nil
theorem op_callv0 {f : FuncId} {args : List BV} {xs : Array Operand} {ats : Array TypeId} {res : SV} (hspec : Meets P f [] args (Is [] res)) (hf : Goes P f) (hx : s.ev x = some (.b (.one (.raw (.func (.func f) #[] #[]))))) (ha : evArgs s xs.toList = some args) (hki : res.keysIn [] = true) :
    Op1 P E n ⟨dst, .call ⟨.value x, xs, ats⟩, ty, pos, after, g⟩ s (s.put n dst res) := op_callv (own_a := []) (own' := []) hspec hf hx ha trivial rfl hki okOwn_nil
end
end Go.Sk
