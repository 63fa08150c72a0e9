/- The framework, part N: parts of rows, copy, cap. -/
import Derived.Test.YtipepglcceogiaaSkM
namespace Go.Sk
set_option linter.unusedSimpArgs false
set_option linter.unusedVariables false
open Go Go.BigFrame
section
variable {P : Program} {E : Env} {n : Sh} {s s' : St} {dst : Option Nat} {t ty yt : TypeId} {pos : String} {after : Array Edge} {g : Option (Nat × Bool)} {x y c : Operand} {ops : Array Oper} {l : List Oper} {Q : Post} {cd : Code}
theorem part_of_row {ρ : RM} {k b nn cc size : Nat} (h : ρ k = .slice (some ⟨b, 0, none⟩) nn cc) (hl : nn ≤ cc) : BV.rel (fun _ _ => none) ρ (.part k size 0 nn cc) (ρ k) := ⟨b, nn, h, by rw [h, Nat.zero_mul]; simp, by omega⟩
/-- a part of a part: from lo on -/
theorem op_slice_pl {k size bytes lo len cap : Nat} {e : TypeId} {zs : List CP} {yo : Operand} {kk : IntKind} {i : Int} (ht : TySl P t e size bytes zs) (h0 : 0 ≤ i) (h1 : i ≤ len) (h2 : lo + i < cap) (hx : s.ev x = some (.b (.part k size lo len cap))) (hy : s.ev yo = some (.b (.one (.int kk i)))) :
    Op1 P E n ⟨dst, .slice t x (some yo) none none, ty, pos, after, g⟩ s (s.put n dst (.b (.part k size (lo + i.toNat) (len - i.toNat) cap))) :=
  Op1.val (o := ⟨dst, .slice t x (some yo) none none, ty, pos, after, g⟩) fun ac w h ρ hw hs => by
    obtain ⟨b, nn, hρ, hv, hle⟩ := (ev_rel hs hx : BV.rel h ρ (.part k size lo len cap) _)
    obtain ⟨inf, z, hi, hsz, _⟩ := ht.info
    have hel : P.elem t = e := by simp [Program.elem, ht.und]
    have hund : P.underlying t = some (.slice (P.elem t)) := by rw [hel]; exact ht.und
    have hb := run_slice_l (P := P) (w := w) (t := t) (a := some ⟨b, lo * size, none⟩) (len := len) (cap := cap - lo) hund kk i h0 h1
    refine ⟨sliced (some ⟨b, lo * size, none⟩) i.toNat len (cap - lo) size, ?_, b, nn, hρ, ?_, by omega⟩
    · simp only [execOp, hv, Option.map_some, Option.map_none, (ev_int hs hy).1]
      rw [Sem.run_bind, run_sliceAt_slice w t _ _ _ _ hund, hb, run_sizeOf (i := inf) (by rw [hel]; exact hi), hsz]
      rfl
    · unfold sliced
      rw [if_neg (by omega)]
      simp only [Option.map_some, add_none, ← Nat.add_mul, Value.slice.injEq, true_and]
      omega
/-- a part of a part: up to hi -/
theorem op_slice_ph {k size bytes lo len cap : Nat} {e : TypeId} {zs : List CP} {yo : Operand} {kk : IntKind} {i : Int} (ht : TySl P t e size bytes zs) (h0 : 0 ≤ i) (h2 : lo + i ≤ cap) (hx : s.ev x = some (.b (.part k size lo len cap))) (hy : s.ev yo = some (.b (.one (.int kk i)))) :
    Op1 P E n ⟨dst, .slice t x none (some yo) none, ty, pos, after, g⟩ s (s.put n dst (.b (.part k size lo i.toNat cap))) :=
  Op1.val (o := ⟨dst, .slice t x none (some yo) none, ty, pos, after, g⟩) fun ac w h ρ hw hs => by
    obtain ⟨b, nn, hρ, hv, hle⟩ := (ev_rel hs hx : BV.rel h ρ (.part k size lo len cap) _)
    obtain ⟨inf, z, hi, hsz, _⟩ := ht.info
    have hel : P.elem t = e := by simp [Program.elem, ht.und]
    have hund : P.underlying t = some (.slice (P.elem t)) := by rw [hel]; exact ht.und
    have hb := run_slice_h (P := P) (w := w) (t := t) (a := some ⟨b, lo * size, none⟩) (len := len) (cap := cap - lo) hund kk i h0 (by omega)
    refine ⟨sliced (some ⟨b, lo * size, none⟩) 0 i.toNat (cap - lo) size, ?_, b, nn, hρ, ?_, by omega⟩
    · simp only [execOp, hv, Option.map_some, Option.map_none, (ev_int hs hy).1]
      rw [Sem.run_bind, run_sliceAt_slice w t _ _ _ _ hund, hb, run_sizeOf (i := inf) (by rw [hel]; exact hi), hsz]
      rfl
    · unfold sliced
      simp only [Nat.zero_mul, Option.map_some, add_none, Nat.add_zero, Nat.sub_zero]
      split <;> rfl
theorem op_len_part {k size lo len cap : Nat} {e : TypeId} (ht : P.underlying t = some (.slice e)) (hm : cap ≤ maxLen) (hx : s.ev x = some (.b (.part k size lo len cap))) :
    Op1 P E n ⟨dst, .call ⟨.builtin .len, #[x], #[t]⟩, ty, pos, after, g⟩ s (s.put n dst (I (len : Int))) :=
  Op1.val (o := ⟨dst, .call ⟨.builtin .len, #[x], #[t]⟩, ty, pos, after, g⟩) fun ac w h ρ hw hs => by
    obtain ⟨b, nn, hρ, hv, hle⟩ := (ev_rel hs hx : BV.rel h ρ (.part k size lo len cap) _)
    refine ⟨.int .i64 len, ?_, rfl, inR_len (by omega)⟩
    rw [execOp_builtin, builtin_len]
    simp [hv, Builtin.len_, run_underlying ht, goInt]
/-- slots that hold a row, seen as parts of it -/
def BV.toPart (k size m cap : Nat) : BV → BV
  | .row j => if j == k then .part k size 0 m cap else .row j
  | z => z
def SV.toPart (k size m cap : Nat) : SV → SV
  | .b z => .b (z.toPart k size m cap)
  | .tup l => .tup (l.map (BV.toPart k size m cap))
  | .xagg l => .xagg (l.map (BV.toPart k size m cap))
  | .opt c z => .opt c (z.toPart k size m cap)
def partS (k size m cap : Nat) (l : List (Nat × SV)) : List (Nat × SV) := l.map fun p => (p.1, p.2.toPart k size m cap)
theorem BV.toPart_rel {h : PH} {ρ : RM} {k size m cap b : Nat} (hρ : ρ k = .slice (some ⟨b, 0, none⟩) m cap) (hm : m ≤ cap) {z : BV} {v : Value} (hz : z.rel h ρ v) : (z.toPart k size m cap).rel h ρ v := by
  cases z with
  | row j =>
    by_cases e : j = k
    · subst e
      have hv : v = ρ j := hz
      rw [show (BV.row j).toPart j size m cap = .part j size 0 m cap by simp [BV.toPart]]
      exact ⟨b, m, hρ, by rw [hv, hρ, Nat.zero_mul, Nat.sub_zero], by omega⟩
    · rw [show (BV.row j).toPart k size m cap = .row j by simp [BV.toPart, e]]
      exact hz
  | _ => exact hz
theorem SV.toPart_rel {h : PH} {ρ : RM} {k size m cap b : Nat} (hρ : ρ k = .slice (some ⟨b, 0, none⟩) m cap) (hm : m ≤ cap) {z : SV} {v : Value} (hz : z.rel h ρ v) : (z.toPart k size m cap).rel h ρ v := by
  cases z with
  | b z => exact BV.toPart_rel hρ hm hz
  | opt c z => exact ⟨fun hc => BV.toPart_rel hρ hm (hz.1 hc), hz.2⟩
  | tup l =>
    obtain ⟨vs, e, ha⟩ := hz
    refine ⟨vs, e, ?_⟩
    clear e
    generalize vs.toList = vl at ha
    induction ha with
    | nil => exact .nil
    | cons h1 _ ih => exact .cons (BV.toPart_rel hρ hm h1) ih
  | xagg l =>
    obtain ⟨vs, e, ha⟩ := hz
    refine ⟨vs, e, ?_⟩
    clear e
    generalize vs.toList = vl at ha
    induction ha with
    | nil => exact .nil
    | cons h1 _ ih => exact .cons ⟨BV.toPart_rel hρ hm h1.1, h1.2⟩ ih
theorem R.toPart {k size : Nat} {T : TypeId} {es : List (List CP)} {a : Act} {w : World} (hr : R E n s a w) (hk : lk s.own k = some (.row T size es)) (hne : 0 < es.length) :
    ∃ cap, es.length ≤ cap ∧ cap ≤ 9223372036854775807 ∧ R E n ⟨partS k size es.length cap s.slots, s.own⟩ a w := by
  obtain ⟨h1, h2, h, ρ, hw, hs⟩ := hr
  obtain ⟨_, _, hf⟩ := row_form hw hk
  rcases hf with ⟨_, he⟩ | ⟨b, cap, cur, e1, e2, e3, e4, _⟩
  · rw [he] at hne; simp at hne
  · refine ⟨cap, e3, by rw [maxLen_eq] at e4; exact e4, h1, h2, h, ρ, hw, fun j z hz => ?_⟩
    simp only [partS, List.mem_map, Prod.mk.injEq] at hz
    obtain ⟨⟨j', z'⟩, hm, rfl, rfl⟩ := hz
    obtain ⟨v, hv, hrel⟩ := hs _ _ hm
    exact ⟨v, hv, SV.toPart_rel e1 e3 hrel⟩
theorem OpsL.toPart (k : Nat) {size : Nat} {T : TypeId} {es : List (List CP)} (hk : lk s.own k = some (.row T size es)) (hne : 0 < es.length) (h : ∀ cap : Nat, es.length ≤ cap → cap ≤ 9223372036854775807 → OpsL P E n ops l ⟨partS k size es.length cap s.slots, s.own⟩ Q) : OpsL P E n ops l s Q := fun a w hr => by
  obtain ⟨cap, h1, h2, hr'⟩ := hr.toPart hk hne
  exact h cap h1 h2 a w hr'
theorem op_cap_part {k size lo len cap : Nat} {e : TypeId} (ht : P.underlying t = some (.slice e)) (hm : cap ≤ 9223372036854775807) (hx : s.ev x = some (.b (.part k size lo len cap))) :
    Op1 P E n ⟨dst, .call ⟨.builtin .cap, #[x], #[t]⟩, ty, pos, after, g⟩ s (s.put n dst (I ((cap - lo : Nat) : Int))) :=
  Op1.val (o := ⟨dst, .call ⟨.builtin .cap, #[x], #[t]⟩, ty, pos, after, g⟩) fun ac w h ρ hw hs => by
    obtain ⟨b, nn, hρ, hv, hle⟩ := (ev_rel hs hx : BV.rel h ρ (.part k size lo len cap) _)
    have hel : P.elem t = e := by simp [Program.elem, ht]
    refine ⟨.int .i64 (cap - lo : Nat), ?_, rfl, inR_len (by rw [maxLen_eq]; omega)⟩
    rw [execOp_builtin]
    show Sem.run _ _ _ = _
    simp only [builtin, List.map_toArray, List.map_cons, List.map_nil, hv]
    rw [Sem.run_bind, run_cap_slice w t ty _ _ _ (by rw [hel]; exact ht)]
    rfl

/-! ## copy -/
def spliceE {α : Type} (es : List α) (lo : Nat) (news : List α) : List α := es.take lo ++ news ++ es.drop (lo + news.length)
theorem take_flatten {size : Nat} : ∀ {es : List (List CP)}, Uniform size es → ∀ i, (es.take i).flatten = es.flatten.take (i * size)
  | [], _, i => by simp
  | p :: es, hu, 0 => by simp
  | p :: es, hu, i + 1 => by
    have hp : p.length = size := hu p (by simp)
    have ih := take_flatten (es := es) (fun q hq => hu q (by simp [hq])) i
    have e : (i + 1) * size = p.length + i * size := by rw [Nat.add_mul, hp]; omega
    rw [List.take_succ_cons, List.flatten_cons, ih, List.flatten_cons, e, List.take_length_add_append]
theorem drop_flatten {size : Nat} : ∀ {es : List (List CP)}, Uniform size es → ∀ i, (es.drop i).flatten = es.flatten.drop (i * size)
  | [], _, i => by simp
  | p :: es, hu, 0 => by simp
  | p :: es, hu, i + 1 => by
    have hp : p.length = size := hu p (by simp)
    have ih := drop_flatten (es := es) (fun q hq => hu q (by simp [hq])) i
    have e : (i + 1) * size = p.length + i * size := by rw [Nat.add_mul, hp]; omega
    rw [List.drop_succ_cons, ih, List.flatten_cons, e, List.drop_length_add_append]
theorem spliceE_flat {size : Nat} {es news : List (List CP)} (hu : Uniform size es) (hn : Uniform size news) (lo : Nat) : (spliceE es lo news).flatten = splice es.flatten (lo * size) news.flatten := by
  unfold spliceE splice
  rw [List.flatten_append, List.flatten_append, take_flatten hu, drop_flatten hu, flatten_len hn, Nat.add_mul]
theorem spliceE_uni {size : Nat} {es news : List (List CP)} (hu : Uniform size es) (hn : Uniform size news) (lo : Nat) : Uniform size (spliceE es lo news) := fun ps hp => by
  simp only [spliceE, List.mem_append] at hp
  rcases hp with (h | h) | h
  · exact hu ps (List.mem_of_mem_take h)
  · exact hn ps h
  · exact hu ps (List.mem_of_mem_drop h)
theorem spliceE_len {α : Type} {es news : List α} {lo : Nat} (h : lo ≤ es.length) : (spliceE es lo news).length = max es.length (lo + news.length) := by
  simp only [spliceE, List.length_append, List.length_take, List.length_drop]
  omega
theorem copy_core {h : PH} {ρ : RM} {w : World} (hw : WR E n s.own h ρ w) {k size bytes lo dlen dcap cap b nn sb so slen sc : Nat} {T e : TypeId} {zs : List CP} {es news : List (List CP)} {cs : List Value} (ht : TySl P t e size bytes zs) (hk : lk s.own k = some (.row T size es))
    (hρ : ρ k = .slice (some ⟨b, 0, none⟩) nn cap) (hn : min slen dlen = news.length) (hun : Uniform size news) (hcr : cellsRel h news.flatten cs) (hcell : ∀ j u, cs[j]? = some u → w.cell? ⟨sb, so + j, none⟩ = some u) (hlo : lo ≤ es.length) (hcap : lo + news.length ≤ cap) :
    ∃ w', (Builtin.copy_ #[t, yt] ty #[.slice (some ⟨b, lo * size, none⟩) dlen dcap, .slice (some ⟨sb, so, none⟩) slen sc]).run P w = .ok (goInt news.length) w' ∧ w'.heap.size = w.heap.size ∧ w'.os = w.os ∧ w'.output = w.output ∧ (∀ b', b' ≠ b → w'.heap[b']? = w.heap[b']?) ∧
      (OC.row T size (spliceE es lo news)).ok h ρ (.slice (some ⟨b, 0, none⟩) (spliceE es lo news).length cap) w' := by
  obtain ⟨inf, z, hi, hsz, _⟩ := ht.info
  obtain ⟨hu, hz, cap', cur, h1, h2, h3, h4, h5, h6⟩ := row_some hw hk hρ
  have hcc : cap' = cap ∧ nn = es.length := by rw [hρ] at h1; simp at h1; exact ⟨h1.2.symm, h1.1⟩
  obtain ⟨rfl, rfl⟩ := hcc
  have hcl : cs.length = news.length * size := by rw [← hcr.length, flatten_len hun]
  have hfit : lo * size + 0 + cs.length ≤ cur.size := by
    rw [hcl, h5, Nat.add_zero, ← Nat.add_mul]
    exact Nat.mul_le_mul_right _ hcap
  have hsl : (splice cur.toList (lo * size) cs).length = cur.size := by simp [splice]; omega
  have hl := run_loadCells_list (P := P) (w := w) ⟨sb, so, none⟩ cs fun j v hj => by rw [add_none]; exact hcell j v hj
  have hst := run_storeCells_at P b (lo * size) T cs 0 cur w h2 hfit hcr.one
  rw [Nat.add_zero] at hst
  change _ = Result.ok () (w.setRow b (splice cur.toList (lo * size) cs).toArray) at hst
  refine ⟨w.setRow b (splice cur.toList (lo * size) cs).toArray, ?_, by simp, rfl, rfl, fun b' hb' => setRow_other _ _ _ _ hb', spliceE_uni hu hun lo, hz, (splice cur.toList (lo * size) cs).take ((spliceE es lo news).length * size), ⟨?_, .inr ⟨b, cap', _, rfl, Nat.zero_le _, setRow_heap _ _ _ _ _ _ h2, ?_, h4, ?_, ?_⟩⟩, ?_⟩
  · rw [hcl] at hl
    simp [Builtin.copy_, run_underlying ht.und, Builtin.lenOf, Builtin.firstCells, sizeOf, typeInfo, hi, hsz, hn, hl, hst]
  · rw [List.length_take, hsl, h5, spliceE_len hlo]
    have : max es.length (lo + news.length) * size ≤ cap' * size := Nat.mul_le_mul_right _ (by omega)
    omega
  · rw [spliceE_len hlo]; omega
  · rw [List.size_toArray, hsl, h5]
  · rfl
  · rw [spliceE_len hlo, spliceE_flat hu hun]
    have hrel := All2.splice h6 hcr (lo * size)
    have hle : es.length * size ≤ cap' * size := Nat.mul_le_mul_right _ h3
    have hlo' : lo * size ≤ es.length * size := Nat.mul_le_mul_right _ hlo
    have e : splice (cur.toList.take (es.length * size)) (lo * size) cs = (splice cur.toList (lo * size) cs).take (max es.length (lo + news.length) * size) := by
      unfold splice
      rw [List.take_take, Nat.min_eq_left hlo', List.take_append, List.take_append]
      have hmx : max es.length (lo + news.length) * size = max (es.length * size) (lo * size + cs.length) := by
        rw [hcl, ← Nat.add_mul, Nat.max_def, Nat.max_def]
        by_cases hh : es.length ≤ lo + news.length
        · rw [if_pos hh, if_pos (Nat.mul_le_mul_right _ hh)]
        · have : (lo + news.length) * size < es.length * size := Nat.mul_lt_mul_of_pos_right (by omega) hz
          rw [if_neg hh, if_neg (by omega)]
      rw [hmx]
      simp only [List.length_take, List.length_append, Array.length_toList, List.drop_take]
      rw [List.take_of_length_le (l := cur.toList.take (lo * size)) (by simp; omega), List.take_of_length_le (l := cs) (by first | omega | (simp only [List.length_take, Array.length_toList]; omega))]
      congr 1
      congr 1
      simp only [h5] at *
      omega
    rw [← e]
    exact hrel

/-- what stays true of a slot when the row k is changed in its place -/
def BV.fine (k : Nat) : BV → Bool
  | .row j => !(j == k)
  | .ptr j _ => !(j == k)
  | _ => true
def SV.fine (k : Nat) : SV → Bool
  | .b z => z.fine k
  | .tup l => l.all (BV.fine k)
  | .xagg l => l.all (BV.fine k)
  | .opt _ z => z.fine k
theorem BV.fine_rel {h : PH} {ρ : RM} {k b nn nn' cap : Nat} (hρ : ρ k = .slice (some ⟨b, 0, none⟩) nn cap) {z : BV} (hz : z.fine k = true) {v : Value} (hr : z.rel h ρ v) : z.rel h (upd ρ k (.slice (some ⟨b, 0, none⟩) nn' cap)) v := by
  have same : ∀ j, j ≠ k → upd ρ k (.slice (some ⟨b, 0, none⟩) nn' cap) j = ρ j := fun j hj => upd_other ρ _ hj
  cases z with
  | one p => exact hr
  | agg ps => exact hr
  | eptr ps => exact hr
  | row j =>
    have hj : j ≠ k := by simpa [BV.fine] using hz
    simpa [BV.rel, same j hj] using hr
  | ptr j o =>
    have hj : j ≠ k := by simpa [BV.fine] using hz
    simpa [BV.rel, same j hj] using hr
  | rptr j o =>
    by_cases hj : j = k
    · subst hj
      obtain ⟨b', m', c', h1, h2⟩ := hr
      rw [hρ] at h1
      simp at h1
      obtain ⟨rfl, rfl, rfl⟩ := h1
      exact ⟨b, nn', cap, upd_same _ _ _, h2⟩
    · simpa [BV.rel, same j hj] using hr
  | part j size lo len c =>
    by_cases hj : j = k
    · subst hj
      obtain ⟨b', m', h1, h2⟩ := hr
      rw [hρ] at h1
      simp at h1
      obtain ⟨rfl, rfl, rfl⟩ := h1
      exact ⟨b, nn', upd_same _ _ _, h2⟩
    · simpa [BV.rel, same j hj] using hr
theorem SV.fine_rel {h : PH} {ρ : RM} {k b nn nn' cap : Nat} (hρ : ρ k = .slice (some ⟨b, 0, none⟩) nn cap) {z : SV} (hz : z.fine k = true) {v : Value} (hr : z.rel h ρ v) : z.rel h (upd ρ k (.slice (some ⟨b, 0, none⟩) nn' cap)) v := by
  cases z with
  | b z => exact BV.fine_rel hρ hz hr
  | opt c z => exact ⟨fun hc => BV.fine_rel hρ hz (hr.1 hc), hr.2⟩
  | tup l =>
    obtain ⟨vs, e, ha⟩ := hr
    refine ⟨vs, e, ?_⟩
    simp only [SV.fine] at hz
    clear e
    generalize vs.toList = vl at ha
    induction ha with
    | nil => exact .nil
    | cons h1 _ ih =>
      simp only [List.all_cons, Bool.and_eq_true] at hz
      exact .cons (BV.fine_rel hρ hz.1 h1) (ih hz.2)
  | xagg l =>
    obtain ⟨vs, e, ha⟩ := hr
    refine ⟨vs, e, ?_⟩
    simp only [SV.fine] at hz
    clear e
    generalize vs.toList = vl at ha
    induction ha with
    | nil => exact .nil
    | cons h1 _ ih =>
      simp only [List.all_cons, Bool.and_eq_true] at hz
      exact .cons ⟨BV.fine_rel hρ hz.1 h1.1, h1.2⟩ (ih hz.2)
theorem map_spliceE {α : Type} (e : α → List CP) (xs ys : List α) (lo : Nat) : spliceE (xs.map e) lo (ys.map e) = (spliceE xs lo ys).map e := by
  simp [spliceE, List.map_take, List.map_drop]
/-- copy into a part of a row -/
theorem op_copy_core {k size bytes lo dlen cap m : Nat} {T e : TypeId} {zs : List CP} {es es' news : List (List CP)} (ht : TySl P t e size bytes zs) (hk : lk s.own k = some (.row T size es)) (hlo : lo ≤ es.length) (hcap : lo + m ≤ cap) (he : spliceE es lo news = es') (hx : s.ev x = some (.b (.part k size lo dlen cap))) (hfine : (s.slots.all fun p => p.2.fine k) = true) (hfx : n.fix.contains k = false) (hnu : noUse k s.own = true)
    (hm : news.length = m) (hml : m ≤ 9223372036854775807)
    (hsrc : ∀ (ac : Act) (w : World) (h : PH) (ρ : RM), WR E n s.own h ρ w → SlotsRel h ρ s.slots ac.tmps → ∃ sb so slen sc cs, ac.eval y = .slice (some ⟨sb, so, none⟩) slen sc ∧ min slen dlen = m ∧ Uniform size news ∧ cellsRel h news.flatten cs ∧ ∀ j u, cs[j]? = some u → w.cell? ⟨sb, so + j, none⟩ = some u) :
    Op1 P E n ⟨dst, .call ⟨.builtin .copy, #[x, y], #[t, yt]⟩, ty, pos, after, g⟩ s ((⟨s.slots, ins k (.row T size es') s.own⟩ : St).put n dst (I (m : Int))) := by
  intro a w hr next Q hnext
  obtain ⟨hdf, hn, h, ρ, hw, hs⟩ := hr
  obtain ⟨b, nn, hρ, hv, hle⟩ := (ev_rel hs hx : BV.rel h ρ (.part k size lo dlen cap) _)
  obtain ⟨sb, so, slen, sc, cs, hy, hmin, hun, hcr, hcell⟩ := hsrc a w h ρ hw hs
  obtain ⟨w', hrun, h1, h2, h3, h4, h5⟩ := copy_core (ty := ty) (yt := yt) (dcap := cap - lo) (sc := sc) hw ht hk hρ (by rw [hmin, hm]) hun hcr hcell hlo (by rw [hm]; exact hcap)
  have hst := hw.step (w' := w') k (.slice (some ⟨b, 0, none⟩) (spliceE es lo news).length cap) (.row T size (spliceE es lo news)) (some b) (fun b' e => by cases e; exact ⟨_, lk_mem hk, by rw [hρ]; rfl⟩) (by omega) h2 h3
    (fun b' _ hne => h4 b' (fun e => hne (by rw [e]))) h5 (fun b' hb' => by simp [blkOf] at hb'; exact .inl (by rw [hb'])) (.inr fun e => by simp at hfx; exact hfx e) (.inr hnu)
  have hrun' : (execOp a.eval (⟨dst, .call ⟨.builtin .copy, #[x, y], #[t, yt]⟩, ty, pos, after, g⟩ : Oper)).run P w = .ok (.value (.int .i64 m)) w' := by
    rw [execOp_builtin]
    show Sem.run _ _ _ = _
    simp only [builtin, List.map_toArray, List.map_cons, List.map_nil, hv, hy]
    rw [Sem.run_bind, hrun, hm]
    rfl
  unfold Oper.wp
  rw [hrun']
  subst he
  refine hnext _ _ (R.put (s := ⟨s.slots, ins k (.row T size (spliceE es lo news)) s.own⟩) hdf hn hst (fun j z hz => ?_) ⟨rfl, inR_len (by rw [maxLen_eq]; exact hml)⟩)
  obtain ⟨v, hv', hrel⟩ := hs j z hz
  exact ⟨v, hv', SV.fine_rel hρ (List.all_eq_true.1 hfine _ hz) hrel⟩
/-- copy of a slice that is only read -/
theorem op_copy_sl {k size bytes lo dlen cap : Nat} {T e : TypeId} {zs : List CP} {es es' news : List (List CP)} (ht : TySl P t e size bytes zs) (hlo : lo ≤ es.length) (hcap : lo + news.length ≤ cap) (hd : news.length ≤ dlen) (hne : 0 < news.length) (hx : s.ev x = some (.b (.part k size lo dlen cap))) (hk : lk s.own k = some (.row T size es)) (hy : s.ev y = some (.b (.one (.sl size news)))) (he : spliceE es lo news = es') (hfine : (s.slots.all fun p => p.2.fine k) = true) (hfx : n.fix.contains k = false) (hml : news.length ≤ 9223372036854775807) (hnu : noUse k s.own = true := by rfl) :
    Op1 P E n ⟨dst, .call ⟨.builtin .copy, #[x, y], #[t, yt]⟩, ty, pos, after, g⟩ s ((⟨s.slots, ins k (.row T size es') s.own⟩ : St).put n dst (I (news.length : Int))) :=
  op_copy_core ht hk hlo hcap he hx hfine hfx hnu rfl hml fun ac w h ρ hw hs => by
    obtain ⟨hu, hz, hf⟩ := (ev_rel hs hy : (CP.sl size news).rel h _)
    rcases hf with ⟨_, he0⟩ | ⟨sb, so, sc, hv, h1, h2, h3⟩
    · rw [he0] at hne; simp at hne
    · obtain ⟨cs, hc1, hc2⟩ := h3.list
      exact ⟨sb, so, news.length, sc, cs, hv, by omega, hu, hc1, fun j u hu => hw.agree _ _ _ (hc2 j u hu)⟩
/-- copy of a part of a row -/
theorem op_copy_part {k k2 size bytes lo dlen cap lo2 slen cap2 m : Nat} {T T2 e : TypeId} {zs : List CP} {es es2 es' : List (List CP)} (ht : TySl P t e size bytes zs) (hlo : lo ≤ es.length) (hcap : lo + m ≤ cap) (hmin : min slen dlen = m) (hl2 : lo2 + m ≤ es2.length) (hx : s.ev x = some (.b (.part k size lo dlen cap))) (hk : lk s.own k = some (.row T size es)) (hy : s.ev y = some (.b (.part k2 size lo2 slen cap2))) (hk2 : lk s.own k2 = some (.row T2 size es2))
    (he : spliceE es lo ((es2.drop lo2).take m) = es') (hfine : (s.slots.all fun p => p.2.fine k) = true) (hfx : n.fix.contains k = false) (hml : m ≤ 9223372036854775807) (hnu : noUse k s.own = true := by rfl) :
    Op1 P E n ⟨dst, .call ⟨.builtin .copy, #[x, y], #[t, yt]⟩, ty, pos, after, g⟩ s ((⟨s.slots, ins k (.row T size es') s.own⟩ : St).put n dst (I (m : Int))) :=
  op_copy_core ht hk hlo hcap he hx hfine hfx hnu (by simp; omega) hml fun ac w h ρ hw hs => by
    obtain ⟨b, nn, hρ, hv, hle⟩ := (ev_rel hs hy : BV.rel h ρ (.part k2 size lo2 slen cap2) _)
    obtain ⟨hu, hz, cap', cur, h1, h2, h3, h4, h5, h6⟩ := row_some hw hk2 hρ
    have hu2 : Uniform size (es2.drop lo2) := fun ps hp => hu ps (List.mem_of_mem_drop hp)
    refine ⟨b, lo2 * size, slen, _, ((cur.toList.take (es2.length * size)).drop (lo2 * size)).take (m * size), hv, hmin, fun ps hp => hu2 ps (List.mem_of_mem_take hp), ?_, fun j u hj => ?_⟩
    · rw [take_flatten hu2, drop_flatten hu]
      exact (All2.drop h6 _).take _
    · rw [List.getElem?_take] at hj
      split at hj
      · rw [List.getElem?_drop, List.getElem?_take] at hj
        split at hj
        · rw [cell_row h2]; simpa using hj
        · simp at hj
      · simp at hj
end
end Go.Sk
