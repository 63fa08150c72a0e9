/- The framework, part Z: arrays of whole numbers (as structures with one field for each cell), == on nested data, parts of arrays. -/
import Derived.Test.YtaigaoifloldcaaDoorF2
import Derived.ChangeKeysEq
import Derived.Lib.ConvBytes
import Derived.Below
import Derived.Lib.LaidTab
namespace Go.Sk
set_option linter.unusedSimpArgs false
set_option linter.unusedVariables false
open Go Go.BigFrame

/-! ## one cell of an array within a list of cells -/
/-- the cells of an array of whole numbers -/
def eA (k : IntKind) (l : List Int) : List CP := l.map (.int k)
@[simp] theorem eA_len (k : IntKind) (l : List Int) : (eA k l).length = l.length := by simp [eA]
theorem arr_get {cs post : List CP} {l : List Int} {k : IntKind} {i z : Int} {m o : Nat} (pre : List CP) (h : idx? l i = some z) (hm : pre.length = m) (hcs : cs = pre ++ (l.map (.int k) ++ post)) (ho : m + i.toNat * 1 = o) : cs[o]? = some (.int k z) := by
  subst ho hm hcs
  have h0 := ix_lo h
  have h1 := ix_hi h
  rw [List.getElem?_append_right (by omega), List.getElem?_append_left (by rw [List.length_map]; omega)]
  have e : pre.length + i.toNat * 1 - pre.length = i.toNat := by omega
  rw [e, List.getElem?_map, ix_get h]
  rfl
theorem arr_lt {cs post : List CP} {l : List Int} {k : IntKind} {i z : Int} {m o : Nat} (pre : List CP) (h : idx? l i = some z) (hm : pre.length = m) (hcs : cs = pre ++ (l.map (.int k) ++ post)) (ho : m + i.toNat * 1 = o) : o < cs.length := by
  subst ho hm hcs
  have h0 := ix_lo h
  have h1 := ix_hi h
  rw [List.length_append, List.length_append, List.length_map]
  omega
theorem arr_set {cs cs' post : List CP} {l l' : List Int} {k : IntKind} {i z x : Int} {m o : Nat} (pre : List CP) (h : idx? l i = some z) (hm : pre.length = m) (hcs : cs = pre ++ (l.map (.int k) ++ post)) (hl : l' = l.set i.toNat x)
    (hcs' : cs' = pre ++ (l'.map (.int k) ++ post)) (ho : m + i.toNat * 1 = o) : cs.set o (.int k x) = cs' := by
  subst ho hm hcs hcs' hl
  have h0 := ix_lo h
  have h1 := ix_hi h
  rw [List.set_append_right _ _ (by omega), List.set_append_left _ _ (by rw [List.length_map]; omega)]
  have e : pre.length + i.toNat * 1 - pre.length = i.toNat := by omega
  rw [e, List.map_set]

/-! ## == on nested data -/
section
variable {P : Program} {t : TypeId}
/-- the parts of two values at a place, compared -/
def EqPart (P : Program) (d : Nat) (t : TypeId) (m : Nat) (ps qs : List CP) (r : Bool) : Prop :=
  ∀ (h : PH) (w : World) (A B : Array Value) (off : Nat), cellsRel h ps ((A.toList.drop off).take m) → cellsRel h qs ((B.toList.drop off).take m) → ps.length = m → qs.length = m →
    ∃ a b, (part t A off).run P w = .ok a w ∧ (part t B off).run P w = .ok b w ∧ (Op.equalIn d t a b).run P w = .ok r w
theorem run_part_one (ht : TyOne P t) {A : Array Value} {off : Nat} {v : Value} (hv : A[off]? = some v) (w : World) : (part t A off).run P w = .ok v w := by
  obtain ⟨d, hd, ha⟩ := ht.und
  unfold part
  rw [Sem.run_bind, run_isAgg hd, Result.andThen, ha]
  simp [hv]
theorem run_part_agg {m : Nat} (ht : TyAgg P t m) {A : Array Value} {off : Nat} (w : World) : (part t A off).run P w = .ok (.agg (A.extract off (off + m))) w := by
  obtain ⟨d, hd, ha⟩ := ht.und
  obtain ⟨i, hi, hn⟩ := ht.size
  unfold part
  rw [Sem.run_bind, run_isAgg hd, Result.andThen, ha]
  simp [run_sizeOf hi, hn]
theorem one_of_take {h : PH} {p : CP} {A : Array Value} {off : Nat} (hr : cellsRel h [p] ((A.toList.drop off).take 1)) : ∃ u, A[off]? = some u ∧ p.rel h u := by
  obtain ⟨u, hu, hp⟩ := hr.get 0 p rfl
  rw [List.getElem?_take] at hu
  simp at hu
  exact ⟨u, hu, hp⟩
theorem EqPart.one {d : Nat} {p q : CP} {r : Bool} (ht : TyOne P t) (hrun : ∀ (h : PH) (u v : Value) (w : World), p.rel h u → q.rel h v → (Op.equalIn d t u v).run P w = .ok r w) : EqPart P d t 1 [p] [q] r := by
  intro h w A B off ha hb _ _
  obtain ⟨u, hu, hp⟩ := one_of_take ha
  obtain ⟨v, hv, hq⟩ := one_of_take hb
  exact ⟨u, v, run_part_one ht hu w, run_part_one ht hv w, hrun h u v w hp hq⟩
theorem EqPart.int {d : Nat} {k k' : IntKind} {a b : Int} (h1 : TyOne P t) (hu : P.underlying t = some (.int k')) : EqPart P (d + 1) t 1 [.int k a] [.int k b] (decide (a = b)) :=
  .one h1 fun h u v w hp hq => by rw [hp.1, hq.1, run_equalIn_int w d t k k' a b hu, int_beq]
theorem EqPart.str {d : Nat} {a b : Str} (h1 : TyOne P t) (hu : P.underlying t = some .string) : EqPart P (d + 1) t 1 [.str a] [.str b] (decide (a = b)) :=
  .one h1 fun h u v w hp hq => by rw [hp.1, hq.1, run_equalIn_string w d t _ _ hu, str_beq]
theorem EqPart.bool {d : Nat} {a b : Bool} (h1 : TyOne P t) (hu : P.underlying t = some .bool) : EqPart P (d + 1) t 1 [.bool a] [.bool b] (a == b) :=
  .one h1 fun h u v w hp hq => by rw [show u = .bool a from hp, show v = .bool b from hq, run_equalIn_bool' w d t a b hu]
/-- all fields -/
def EqFs (P : Program) (d : Nat) (ps qs : List CP) : List Field → List Bool → Prop
  | [], [] => True
  | f :: fs, r :: rs => f.name ≠ "_" ∧ (∃ m p' q', (ps.drop f.offset).take m = p' ∧ (qs.drop f.offset).take m = q' ∧ p'.length = m ∧ q'.length = m ∧ EqPart P d f.type m p' q' r) ∧ EqFs P d ps qs fs rs
  | _, _ => False
theorem eqFs_run {d : Nat} {h : PH} {ps qs : List CP} {A B : Array Value} (hp : cellsRel h ps A.toList) (hq : cellsRel h qs B.toList) (w : World) : ∀ {fs : List Field} {rs : List Bool}, EqFs P d ps qs fs rs → (Op.eqFields d A B fs).run P w = .ok (rs.all id) w
  | [], [], _ => rfl
  | [], _ :: _, h => h.elim
  | _ :: _, [], h => h.elim
  | f :: fs, r :: rs, ⟨h1, ⟨m, p', q', e1, e2, l1, l2, he⟩, h3⟩ => by
    have ih := eqFs_run hp hq w h3
    obtain ⟨a, b, r1, r2, r3⟩ := he h w A B f.offset (by rw [← e1]; exact All2.take (All2.drop hp _) _) (by rw [← e2]; exact All2.take (All2.drop hq _) _) l1 l2
    unfold Op.eqFields
    rw [if_pos h1]
    rw [Sem.run_bind, r1, Result.andThen, Sem.run_bind, r2, Result.andThen, Sem.run_bind, r3, Result.andThen]
    cases r
    · simp
    · simpa using ih
theorem extract_list {A : Array Value} {off m : Nat} : (A.extract off (off + m)).toList = (A.toList.drop off).take m := by
  rw [Array.toList_extract]
  show (A.toList.drop off).take (off + m - off) = _
  rw [Nat.add_sub_cancel_left]
theorem EqPart.struct {d m : Nat} {ps qs : List CP} {fs : Array Field} {rs : List Bool} {r : Bool} (ta : TyAgg P t m) (hh : P.stoodInHeld t = false) (hu : P.underlying t = some (.struct fs)) (hc : EqFs P d ps qs fs.toList rs) (hr : rs.all id = r) : EqPart P (d + 1) t m ps qs r := by
  intro h w A B off ha hb l1 l2
  have hf : P.fieldsOf t = fs := by simp [Program.fieldsOf, hu]
  refine ⟨_, _, run_part_agg ta w, run_part_agg ta w, ?_⟩
  rw [run_equalIn_struct w d t _ _ (by rw [hf]; exact hu) hh, hf, eqFs_run (by rw [extract_list]; exact ha) (by rw [extract_list]; exact hb) w hc, hr]
theorem eqItems_run {d k' : Nat} {e : TypeId} {k ke : IntKind} {h : PH} {l l' : List Int} {A B : Array Value} (h1 : TyOne P e) (hu : P.underlying e = some (.int ke)) (ha : cellsRel h (l.map (.int k)) A.toList) (hb : cellsRel h (l'.map (.int k)) B.toList) (hl : l.length = l'.length) (w : World) :
    ∀ (is : List Nat), (∀ i ∈ is, i < l.length) → (Op.eqItems (d + 1) e 1 A B is).run P w = .ok (is.all fun i => decide (l[i]? = l'[i]?)) w
  | [], _ => rfl
  | i :: is, hi => by
    have ih := eqItems_run (d := d) (k' := k') h1 hu ha hb hl w is (fun j hj => hi j (by simp [hj]))
    have hi0 := hi i (by simp)
    obtain ⟨u, hu1, hu2⟩ := ha.get i (.int k l[i]) (by rw [List.getElem?_map, List.getElem?_eq_getElem hi0]; rfl)
    obtain ⟨v, hv1, hv2⟩ := hb.get i (.int k (l'[i]'(by omega))) (by rw [List.getElem?_map, List.getElem?_eq_getElem (by omega)]; rfl)
    have p1 := run_part_one h1 (A := A) (off := i * 1) (v := u) (by rw [Nat.mul_one]; simpa using hu1) w
    have p2 := run_part_one h1 (A := B) (off := i * 1) (v := v) (by rw [Nat.mul_one]; simpa using hv1) w
    have p3 : (Op.equalIn (d + 1) e u v).run P w = .ok (decide (l[i] = l'[i]'(by omega))) w := by rw [hu2.1, hv2.1, run_equalIn_int w d e k ke _ _ hu, int_beq]
    unfold Op.eqItems
    rw [Sem.run_bind, p1, Result.andThen, Sem.run_bind, p2, Result.andThen, Sem.run_bind, p3, Result.andThen]
    have e0 : decide (l[i]? = l'[i]?) = decide (l[i] = l'[i]'(by omega)) := by
      rw [List.getElem?_eq_getElem hi0, List.getElem?_eq_getElem (show i < l'.length by omega), Bool.eq_iff_iff]; simp
    rw [List.all_cons, e0]
    cases decide (l[i] = l'[i]'(by omega))
    · simp
    · simpa using ih
theorem EqPart.arr {d m : Nat} {e : TypeId} {k ke : IntKind} {l l' : List Int} (ta : TyAgg P t m) (hu : P.underlying t = some (.array m e)) (he : TyOne P e) (hue : P.underlying e = some (.int ke)) : EqPart P (d + 2) t m (l.map (.int k)) (l'.map (.int k)) (decide (l = l')) := by
  intro h w A B off ha hb l1 l2
  rw [List.length_map] at l1 l2
  obtain ⟨i, hi, hs⟩ := he.size
  refine ⟨_, _, run_part_agg ta w, run_part_agg ta w, ?_⟩
  have hc : P.cellsOf e = 1 := by simp [Program.cellsOf, hi, hs]
  rw [run_equalIn_array w (d + 1) _ _ hu hi, hc, eqItems_run (k' := 0) he hue (by rw [extract_list]; exact ha) (by rw [extract_list]; exact hb) (by omega) w _ (fun j hj => by rw [l1]; simpa using hj)]
  congr 1
  rw [Bool.eq_iff_iff]
  simp only [List.all_eq_true, List.mem_range, decide_eq_true_eq]
  refine ⟨fun hh => List.ext_getElem? fun j => ?_, fun e j _ => by rw [e]⟩
  by_cases hj : j < m
  · exact hh j hj
  · rw [List.getElem?_eq_none (by omega), List.getElem?_eq_none (by omega)]
theorem EqAgg.ofPart {m : Nat} {ps qs : List CP} {r : Bool} (hg : P.eqGuardType P.depth t = false) (ta : TyAgg P t m) (hp : EqPart P 10000 t m ps qs r) (l1 : ps.length = m) (l2 : qs.length = m) : EqAgg P t ps qs r :=
  ⟨hg, fun h cs ds w ha hb => by
    have e1 : cs.toList.length = m := by rw [← l1]; exact ha.length.symm
    have e2 : ds.toList.length = m := by rw [← l2]; exact hb.length.symm
    obtain ⟨a, b, p1, p2, p3⟩ := hp h w cs ds 0 (by rw [List.drop_zero, List.take_of_length_le (by omega)]; exact ha) (by rw [List.drop_zero, List.take_of_length_le (by omega)]; exact hb) l1 l2
    rw [run_part_agg ta w] at p1 p2
    have x1 : cs.extract 0 (0 + m) = cs := by
      apply Array.ext'
      rw [extract_list, List.drop_zero, List.take_of_length_le (by omega)]
    have x2 : ds.extract 0 (0 + m) = ds := by
      apply Array.ext'
      rw [extract_list, List.drop_zero, List.take_of_length_le (by omega)]
    rw [x1] at p1
    rw [x2] at p2
    injection p1 with p1
    injection p2 with p2
    subst p1 p2
    exact p3⟩
theorem EqPart.cast {d m : Nat} {ps qs : List CP} {r r' : Bool} (h : EqPart P d t m ps qs r) (e : r = r') : EqPart P d t m ps qs r' := e ▸ h
end

/-! ## arrays: built, sliced, copied -/
structure TyBuildA (P : Program) (t : TypeId) (size : Nat) (zs : List CP) : Prop where
  info : ∃ it z m e ie, P.info? t = some it ∧ it.zero = some z ∧ cvs z.cells.toList = some zs ∧ P.underlying t = some (.array m e) ∧ P.info? e = some ie ∧ ie.size = size
section
variable {P : Program} {TB : Tabs} {E : Env TB} {n : Sh} {s s' : St} {dst : Option Nat} {t ty yt : TypeId} {pos : String} {after : Array Edge} {g : Option (Nat × Bool)} {x y c : Operand} {ops : Array Oper} {l : List Oper} {Q : Post} {cd : Code} {o : Oper}
theorem op_buildA {size : Nat} {zs qs : List CP} {parts : Array (Nat × Operand)} {cps : List (Nat × List CP)} (ht : TyBuildA P t size zs) (hp : evParts s parts.toList = some cps) (hf : cfill (fun i => some (i * size, size)) zs cps = some qs) :
    Op1 P E n ⟨dst, .build t parts, ty, pos, after, g⟩ s (s.put n dst (.b (.agg qs))) :=
  Op1.val (o := ⟨dst, .build t parts, ty, pos, after, g⟩) fun ac w h ρ hw hs => by
    obtain ⟨it, z, m, e, ie, h1, h2, h3, h4, h5, h6⟩ := ht.info
    obtain ⟨cs, hc1, hc2⟩ := fill_rel hs (fun i => some (i * size, size)) parts.toList cps zs qs z.cells hp hf (cvs_rel h h3)
    refine ⟨.agg cs, ?_, cs, rfl, hc2⟩
    have hb : P.built t (parts.map fun (i, x) => (i, ac.eval x)).toList = some cs := by
      simp only [Program.built, h1, h4, h2, h5, h6]
      rw [← hc1]
      simp
    have := run_build (P := P) w t _ cs hb
    simp only [execOp]
    simp [this]
/-- the whole of an array -/
theorem op_slice_a {e : TypeId} {m k off : Nat} (ht : TyArr P t e m 1) (hm : 0 < m) (hx : s.ev x = some (.b (.ptr k off))) :
    Op1 P E n ⟨dst, .slice t x none none none, ty, pos, after, g⟩ s (s.put n dst (.b (.psl k off m m))) :=
  Op1.val (o := ⟨dst, .slice t x none none none, ty, pos, after, g⟩) fun ac w h ρ hw hs => by
    obtain ⟨b, hb, hv⟩ := (ev_rel hs hx : BV.rel h ρ (.ptr k off) _)
    obtain ⟨i, hi, hsz⟩ := ht.info
    have e1 : P.arrayLen t = m := by simp [Program.arrayLen, ht.und]
    have e2 : P.elem t = e := by simp [Program.elem, ht.und]
    have hu : P.underlying t = some (.array (P.arrayLen t) (P.elem t)) := by rw [e1, e2]; exact ht.und
    refine ⟨.slice (some ⟨b, off, none⟩) m m, ?_, b, hb, rfl⟩
    simp only [execOp, hv, Option.map_none]
    rw [Sem.run_bind, run_sliceAt_array_all w t _ hu, e2, run_sizeOf hi, Result.andThen]
    simp [slicedAt, e1, add_none]
/-- from lo on -/
theorem op_slice_al {e : TypeId} {m k off : Nat} {kk : IntKind} {i : Int} {yo : Operand} (ht : TyArr P t e m 1) (h0 : 0 ≤ i) (h1 : i < m) (hx : s.ev x = some (.b (.ptr k off))) (hy : s.ev yo = some (.b (.one (.int kk i)))) :
    Op1 P E n ⟨dst, .slice t x (some yo) none none, ty, pos, after, g⟩ s (s.put n dst (.b (.psl k (off + i.toNat) (m - i.toNat) (m - i.toNat)))) :=
  Op1.val (o := ⟨dst, .slice t x (some yo) none none, ty, pos, after, g⟩) fun ac w h ρ hw hs => by
    obtain ⟨b, hb, hv⟩ := (ev_rel hs hx : BV.rel h ρ (.ptr k off) _)
    obtain ⟨inf, hi, hsz⟩ := ht.info
    have e1 : P.arrayLen t = m := by simp [Program.arrayLen, ht.und]
    have e2 : P.elem t = e := by simp [Program.elem, ht.und]
    have hu : P.underlying t = some (.array (P.arrayLen t) (P.elem t)) := by rw [e1, e2]; exact ht.und
    refine ⟨.slice (some ⟨b, off + i.toNat, none⟩) (m - i.toNat) (m - i.toNat), ?_, b, hb, rfl⟩
    simp only [execOp, hv, Option.map_none, Option.map_some, (ev_int hs hy).1]
    rw [Sem.run_bind, run_sliceAt_array_l w t _ hu kk i h0 (by rw [e1]; omega), e2, run_sizeOf hi, Result.andThen, hsz]
    have hne : ¬ m = i.toNat := by omega
    simp [slicedAt, e1, add_none, hne]
/-- up to hi -/
theorem op_slice_ah {e : TypeId} {m k off : Nat} {kk : IntKind} {i : Int} {yo : Operand} (ht : TyArr P t e m 1) (h0 : 0 ≤ i) (h1 : i ≤ m) (hx : s.ev x = some (.b (.ptr k off))) (hy : s.ev yo = some (.b (.one (.int kk i)))) :
    Op1 P E n ⟨dst, .slice t x none (some yo) none, ty, pos, after, g⟩ s (s.put n dst (.b (.psl k off i.toNat m))) :=
  Op1.val (o := ⟨dst, .slice t x none (some yo) none, ty, pos, after, g⟩) fun ac w h ρ hw hs => by
    obtain ⟨b, hb, hv⟩ := (ev_rel hs hx : BV.rel h ρ (.ptr k off) _)
    obtain ⟨inf, hi, hsz⟩ := ht.info
    have e1 : P.arrayLen t = m := by simp [Program.arrayLen, ht.und]
    have e2 : P.elem t = e := by simp [Program.elem, ht.und]
    have hu : P.underlying t = some (.array (P.arrayLen t) (P.elem t)) := by rw [e1, e2]; exact ht.und
    refine ⟨.slice (some ⟨b, off, none⟩) i.toNat m, ?_, b, hb, rfl⟩
    simp only [execOp, hv, Option.map_none, Option.map_some, (ev_int hs hy).1]
    rw [Sem.run_bind, run_sliceAt_array_h w t _ hu kk i h0 (by rw [e1]; omega), e2, run_sizeOf hi, Result.andThen, hsz]
    simp [slicedAt, e1, add_none]
/-- a slice of an array, taken as an array -/
theorem op_toArr {e : TypeId} {m size k off len cap : Nat} (ht : TyArr P t e m size) (h1 : m ≤ len) (hx : s.ev x = some (.b (.psl k off len cap))) :
    Op1 P E n ⟨dst, .sliceToArrayPointer t x, ty, pos, after, g⟩ s (s.put n dst (.b (.ptr k off))) :=
  Op1.val (o := ⟨dst, .sliceToArrayPointer t x, ty, pos, after, g⟩) fun ac w h ρ hw hs => by
    obtain ⟨b, hb, hv⟩ := (ev_rel hs hx : BV.rel h ρ (.psl k off len cap) _)
    refine ⟨.pointer (some ⟨b, off, none⟩), ?_, b, hb, rfl⟩
    simp only [execOp, hv]
    have hne : ¬ len < m := by omega
    simp [Instr.arrayAt, run_underlying ht.und, hne]
theorem op_len_psl {e : TypeId} {k off len cap : Nat} (ht : P.underlying t = some (.slice e)) (hm : len ≤ 9223372036854775807) (hx : s.ev x = some (.b (.psl k off len cap))) :
    Op1 P E n ⟨dst, .call ⟨.builtin .len, #[x], #[t]⟩, ty, pos, after, g⟩ s (s.put n dst (I (len : Int))) :=
  Op1.val (o := ⟨dst, .call ⟨.builtin .len, #[x], #[t]⟩, ty, pos, after, g⟩) fun ac w h ρ hw hs => by
    obtain ⟨b, hρ, hv⟩ := (ev_rel hs hx : BV.rel h ρ (.psl k off len cap) _)
    refine ⟨.int .i64 len, ?_, rfl, inR_len (by rw [maxLen_eq]; omega)⟩
    rw [execOp_builtin, builtin_len]
    simp [hv, Builtin.len_, run_underlying ht, goInt]
/-- cells of one array into another one -/
theorem op_copy_psl {k k2 off off2 len len2 cap cap2 m bytes : Nat} {e T T2 : TypeId} {zs cs cs2 cs' : List CP} (ht : TySl P t e 1 bytes zs) (hm : min len2 len = m) (hml : m ≤ 9223372036854775807) (hx : s.ev x = some (.b (.psl k off len cap))) (hy : s.ev y = some (.b (.psl k2 off2 len2 cap2)))
    (hk : lk s.own k = some (.box T cs)) (hk2 : lk s.own k2 = some (.box T2 cs2)) (h1 : off + m ≤ cs.length) (h2 : off2 + m ≤ cs2.length) (he : splice cs off ((cs2.drop off2).take m) = cs') :
    Op1 P E n ⟨dst, .call ⟨.builtin .copy, #[x, y], #[t, yt]⟩, ty, pos, after, g⟩ s ((⟨s.slots, ins k (.box T cs') s.own⟩ : St).put n dst (I (m : Int))) := by
  intro a w hr next Q hnext
  obtain ⟨hdf, hn, h, ρ, hw, hs⟩ := hr
  obtain ⟨b, hρ, hv⟩ := (ev_rel hs hx : BV.rel h ρ (.psl k off len cap) _)
  obtain ⟨b2, hρ2, hv2⟩ := (ev_rel hs hy : BV.rel h ρ (.psl k2 off2 len2 cap2) _)
  obtain ⟨c1, cur, q1, q2, q3⟩ := box_cells hw hk
  obtain ⟨c2, cur2, r1, r2, r3⟩ := box_cells hw hk2
  have : c1 = b := by rw [hρ] at q1; simpa using q1.symm
  subst this
  have : c2 = b2 := by rw [hρ2] at r1; simpa using r1.symm
  subst this
  obtain ⟨inf, z, hi, hsz, _⟩ := ht.info
  have l1 : cs.length = cur.size := by simpa using q3.length
  have l2 : cs2.length = cur2.size := by simpa using r3.length
  have hcr : cellsRel h ((cs2.drop off2).take m) ((cur2.toList.drop off2).take m) := All2.take (All2.drop r3 off2) m
  have hcl : ((cur2.toList.drop off2).take m).length = m := by simp; omega
  generalize hvs : (cur2.toList.drop off2).take m = vs at hcr hcl
  have hl := run_loadCells_list (P := P) (w := w) ⟨c2, off2, none⟩ vs fun j v hj => by
    rw [add_none, cell_row r2]
    rw [← hvs, List.getElem?_take] at hj
    split at hj
    · simpa using hj
    · simp at hj
  have hst := run_storeCells_at P c1 off T vs 0 cur w q2 (by omega) hcr.one
  rw [Nat.add_zero] at hst
  change _ = Result.ok () (w.setRow c1 (splice cur.toList off vs).toArray) at hst
  have hrel : cellsRel h cs' (splice cur.toList off vs) := by rw [← he]; exact All2.splice q3 hcr off
  have hstep := hw.step (w' := w.setRow c1 (splice cur.toList off vs).toArray) k (ρ k) (.box T cs') (some c1) (fun b' e => by cases e; exact ⟨_, lk_mem hk, by rw [hρ]; rfl⟩) (by simp) rfl rfl
    (fun b' _ hne => setRow_other _ _ _ _ (fun e => hne (by rw [e]))) (by rw [upd_self]; exact ⟨c1, _, hρ, setRow_heap _ _ _ _ _ _ q2, by simpa using hrel⟩) (fun b' hb' => by rw [hρ] at hb'; simp [blkOf] at hb'; exact .inl (by rw [hb'])) (.inl rfl) (.inl rfl)
  rw [upd_self] at hstep
  have hrun' : (execOp a.eval (⟨dst, .call ⟨.builtin .copy, #[x, y], #[t, yt]⟩, ty, pos, after, g⟩ : Oper)).run P w = .ok (.value (.int .i64 m)) (w.setRow c1 (splice cur.toList off vs).toArray) := by
    rw [execOp_builtin]
    show Sem.run _ _ _ = _
    simp only [builtin, List.map_toArray, List.map_cons, List.map_nil, hv, hv2]
    rw [hcl] at hl
    simp [Builtin.copy_, run_underlying ht.und, Builtin.lenOf, Builtin.firstCells, sizeOf, typeInfo, hi, hsz, hm, hl, hst, goInt]
  unfold Oper.wp
  rw [hrun']
  exact hnext _ _ (R.put (s := ⟨s.slots, ins k (.box T cs') s.own⟩) hdf hn hstep hs ⟨rfl, inR_len (by rw [maxLen_eq]; exact hml)⟩)
theorem splice_arr {cs cs2 cs' post post2 : List CP} {l l2 l' : List Int} {kd : IntKind} {lo lo2 m a a2 off off2 : Nat} (pre pre2 : List CP) (h1 : pre.length = a) (h2 : pre2.length = a2) (e1 : cs = pre ++ (l.map (.int kd) ++ post)) (e2 : cs2 = pre2 ++ (l2.map (.int kd) ++ post2))
    (o1 : a + lo = off) (o2 : a2 + lo2 = off2) (b1 : lo + m ≤ l.length) (b2 : lo2 + m ≤ l2.length) (hl : l' = spliceE l lo ((l2.drop lo2).take m)) (e' : cs' = pre ++ (l'.map (.int kd) ++ post)) : splice cs off ((cs2.drop off2).take m) = cs' := by
  subst e1 e2 o1 o2 e' h1 h2 hl
  rw [List.drop_append, List.drop_of_length_le (by omega), List.nil_append]
  have x1 : pre2.length + lo2 - pre2.length = lo2 := by omega
  rw [x1, List.drop_append_of_le_length (by rw [List.length_map]; omega), List.take_append_of_le_length (by rw [List.length_drop, List.length_map]; omega)]
  have hlen : (((l2.map (CP.int kd)).drop lo2).take m).length = m := by simp; omega
  unfold splice spliceE
  rw [hlen, List.take_append, List.take_of_length_le (by omega), List.drop_append, List.drop_of_length_le (l := pre) (by omega)]
  have x2 : pre.length + lo - pre.length = lo := by omega
  have x3 : pre.length + lo + m - pre.length = lo + m := by omega
  rw [x2, x3, List.take_append_of_le_length (by rw [List.length_map]; omega), List.drop_append_of_le_length (by rw [List.length_map]; omega)]
  have x4 : ((l2.drop lo2).take m).length = m := by simp; omega
  rw [x4]
  simp [List.map_take, List.map_drop]
/-- a name for a struct or an array -/
theorem OpsL.consA {α β : Type} (en : β → List CP) {a : β} {K : β → Option α} {r : α} (h : letN a K = some r) (hg : o.guard = none) (h1 : Op1 P E n o s (s.put n o.dst (.b (.agg (en a)))))
    (H : ∀ z, K z = some r → OpsL P E n ops l (s.put n o.dst (.b (.agg (en z)))) Q) : OpsL P E n ops (o :: l) s Q := OpsL.cons hg h1 (H a h)
end

/-! ## the words -/
/-- the beginning of a part of an array -/
def slo? (m : Nat) (i : Int) : Option Nat := if 0 ≤ i ∧ i < m then some i.toNat else none
theorem slo_ok {m : Nat} {i : Int} {z : Nat} (h : slo? m i = some z) : 0 ≤ i ∧ i < m ∧ i.toNat = z := by
  unfold slo? at h; split at h
  · next hh => exact ⟨hh.1, hh.2, by simpa using h⟩
  · simp at h
theorem slo_lo {m : Nat} {i : Int} {z : Nat} (h : slo? m i = some z) : 0 ≤ i := (slo_ok h).1
theorem slo_hi {m : Nat} {i : Int} {z : Nat} (h : slo? m i = some z) : i < m := (slo_ok h).2.1

/-! ## bits, shifts -/
def iand (k : IntKind) (a b : Int) : Int := k.wrap ((BitVec.ofInt k.bits a &&& BitVec.ofInt k.bits b).toNat : Int)
def ior (k : IntKind) (a b : Int) : Int := k.wrap ((BitVec.ofInt k.bits a ||| BitVec.ofInt k.bits b).toNat : Int)
def ixor (k : IntKind) (a b : Int) : Int := k.wrap ((BitVec.ofInt k.bits a ^^^ BitVec.ofInt k.bits b).toNat : Int)
def iandn (k : IntKind) (a b : Int) : Int := k.wrap ((BitVec.ofInt k.bits a &&& ~~~BitVec.ofInt k.bits b).toNat : Int)
def shl? (k : IntKind) (a n : Int) : Option Int := if n < 0 then none else some (k.wrap (a * 2 ^ (min n.toNat k.bits)))
def shr? (k : IntKind) (a n : Int) : Option Int := if n < 0 then none else some (a / 2 ^ (min n.toNat k.bits))
def sub? {α : Type} (xs : List α) (i j : Int) : Option (List α) := if 0 ≤ i ∧ i ≤ j ∧ j ≤ xs.length then some ((xs.take j.toNat).drop i.toNat) else none
def ofStr (l : Str) : List Int := l.map fun c => (c.toNat : Int)
theorem shl_ok {k : IntKind} {a n z : Int} (h : shl? k a n = some z) : ¬ n < 0 ∧ k.wrap (a * 2 ^ (min n.toNat k.bits)) = z := by
  unfold shl? at h; split at h
  · simp at h
  · exact ⟨by assumption, by simpa using h⟩
theorem shr_ok {k : IntKind} {a n z : Int} (h : shr? k a n = some z) : ¬ n < 0 ∧ a / 2 ^ (min n.toNat k.bits) = z := by
  unfold shr? at h; split at h
  · simp at h
  · exact ⟨by assumption, by simpa using h⟩
theorem sub_ok {α : Type} {xs z : List α} {i j : Int} (h : sub? xs i j = some z) : 0 ≤ i ∧ i ≤ j ∧ j ≤ xs.length ∧ (xs.take j.toNat).drop i.toNat = z := by
  unfold sub? at h; split at h
  · next hh => exact ⟨hh.1, hh.2.1, hh.2.2, by simpa using h⟩
  · simp at h
theorem shr_inR {k : IntKind} {a : Int} (m : Nat) (hra : inR k a) : inR k (a / 2 ^ m) := by
  have hpos : (0 : Int) < 2 ^ m := Int.pow_pos (by decide)
  unfold inR at hra ⊢
  have h5 : k.min ≤ 0 := by cases k <;> simp [IntKind.min, IntKind.signed, IntKind.bits]
  have h6 : 0 ≤ k.max := by cases k <;> simp [IntKind.max, IntKind.signed, IntKind.bits]
  by_cases h0 : 0 ≤ a
  · have h1 : 0 ≤ a / 2 ^ m := Int.ediv_nonneg h0 (Int.le_of_lt hpos)
    have h2 : a / 2 ^ m ≤ a := Int.ediv_le_self _ h0
    omega
  · have h1 : a / 2 ^ m ≤ 0 := by
      have := Int.ediv_neg_of_neg_of_pos (by omega : a < 0) hpos; omega
    have h2 : a ≤ a / 2 ^ m := by
      refine (Int.le_ediv_iff_mul_le hpos).2 ?_
      have h3 : (1 : Int) ≤ 2 ^ m := hpos
      have h4 : (-a) * 1 ≤ (-a) * 2 ^ m := Int.mul_le_mul_of_nonneg_left h3 (by omega)
      have e : (-a) * 2 ^ m = -(a * 2 ^ m) := Int.neg_mul _ _
      omega
    omega
section
variable {P : Program} {TB : Tabs} {E : Env TB} {n : Sh} {s s' : St} {dst : Option Nat} {t ty yt : TypeId} {pos : String} {after : Array Edge} {g : Option (Nat × Bool)} {x y c : Operand} {k : IntKind} {a b : Int} {ops : Array Oper} {l : List Oper} {Q : Post} {cd : Code} {o : Oper}
theorem op_bits {op : BinOp} {f : Int → Int → Int} (hf : ∀ a b, inR k (f a b)) (hop : (do eqGuard op t x y (.int k a) (.int k b); binOp op t (.int k a) (.int k b) : Sem Value) = (pure (.int k (f a b)) : Sem Value)) (hx : s.ev x = some (.b (.one (.int k a)))) (hy : s.ev y = some (.b (.one (.int k b)))) :
    Op1 P E n ⟨dst, .binOp op t x y yt, ty, pos, after, g⟩ s (s.put n dst (.b (.one (.int k (f a b))))) :=
  Op1.val (o := ⟨dst, .binOp op t x y yt, ty, pos, after, g⟩) fun ac w h ρ hw hs => by
    refine ⟨.int k (f a b), ?_, rfl, hf _ _⟩
    simp only [execOp, (ev_int hs hx).1, (ev_int hs hy).1]
    rw [Sem.run_bind, hop]; rfl
theorem op_and (hx : s.ev x = some (.b (.one (.int k a)))) (hy : s.ev y = some (.b (.one (.int k b)))) : Op1 P E n ⟨dst, .binOp .and t x y yt, ty, pos, after, g⟩ s (s.put n dst (.b (.one (.int k (iand k a b))))) :=
  op_bits (f := iand k) (fun _ _ => wrap_inR _ _) (by simp [eqGuard, binOp, Op.intBits, iand]) hx hy
theorem op_or (hx : s.ev x = some (.b (.one (.int k a)))) (hy : s.ev y = some (.b (.one (.int k b)))) : Op1 P E n ⟨dst, .binOp .or t x y yt, ty, pos, after, g⟩ s (s.put n dst (.b (.one (.int k (ior k a b))))) :=
  op_bits (f := ior k) (fun _ _ => wrap_inR _ _) (by simp [eqGuard, binOp, Op.intBits, ior]) hx hy
theorem op_xor (hx : s.ev x = some (.b (.one (.int k a)))) (hy : s.ev y = some (.b (.one (.int k b)))) : Op1 P E n ⟨dst, .binOp .xor t x y yt, ty, pos, after, g⟩ s (s.put n dst (.b (.one (.int k (ixor k a b))))) :=
  op_bits (f := ixor k) (fun _ _ => wrap_inR _ _) (by simp [eqGuard, binOp, Op.intBits, ixor]) hx hy
theorem op_andn (hx : s.ev x = some (.b (.one (.int k a)))) (hy : s.ev y = some (.b (.one (.int k b)))) : Op1 P E n ⟨dst, .binOp .andNot t x y yt, ty, pos, after, g⟩ s (s.put n dst (.b (.one (.int k (iandn k a b))))) :=
  op_bits (f := iandn k) (fun _ _ => wrap_inR _ _) (by simp [eqGuard, binOp, Op.intBits, iandn]) hx hy
theorem op_shl {k2 : IntKind} {m z : Int} (h : shl? k a m = some z) (hx : s.ev x = some (.b (.one (.int k a)))) (hy : s.ev y = some (.b (.one (.int k2 m)))) :
    Op1 P E n ⟨dst, .binOp .shl t x y yt, ty, pos, after, g⟩ s (s.put n dst (.b (.one (.int k z)))) :=
  Op1.val (o := ⟨dst, .binOp .shl t x y yt, ty, pos, after, g⟩) fun ac w h' ρ hw hs => by
    obtain ⟨h1, rfl⟩ := shl_ok h
    refine ⟨_, ?_, rfl, wrap_inR _ _⟩
    simp only [execOp, (ev_int hs hx).1, (ev_int hs hy).1]
    simp [eqGuard, binOp, Op.shift, h1]
theorem op_shr3 {k2 : IntKind} {m z : Int} (h : shr? k a m = some z) (hx : s.ev x = some (.b (.one (.int k a)))) (hy : s.ev y = some (.b (.one (.int k2 m)))) :
    Op1 P E n ⟨dst, .binOp .shr t x y yt, ty, pos, after, g⟩ s (s.put n dst (.b (.one (.int k z)))) :=
  Op1.val (o := ⟨dst, .binOp .shr t x y yt, ty, pos, after, g⟩) fun ac w h' ρ hw hs => by
    obtain ⟨h1, rfl⟩ := shr_ok h
    refine ⟨_, ?_, rfl, shr_inR _ (ev_int hs hx).2⟩
    have hd : ∀ q : Nat, a.fdiv (2 ^ q) = a / 2 ^ q := fun q => Int.fdiv_eq_ediv_of_nonneg _ (Int.pow_nonneg (by decide))
    simp only [execOp, (ev_int hs hx).1, (ev_int hs hy).1]
    simp [eqGuard, binOp, Op.shift, h1, hd]
theorem op_shl0 {k2 : IntKind} {m : Nat} (hm : m ≤ k.bits) (hx : s.ev x = some (.b (.one (.int k a)))) (hy : s.ev y = some (.b (.one (.int k2 (m : Int))))) {q : Int} (hq : (2 : Int) ^ m = q) :
    Op1 P E n ⟨dst, .binOp .shl t x y yt, ty, pos, after, g⟩ s (s.put n dst (.b (.one (.int k (k.wrap (a * q)))))) := by
  have : shl? k a (m : Int) = some (k.wrap (a * q)) := by
    have hneg : ¬ ((m : Int) < 0) := by omega
    simp only [shl?, hneg, if_false, Int.toNat_natCast, Nat.min_eq_left hm, hq]
  exact op_shl this hx hy
/-- string(x) of a part of a string -/
theorem op_slice_str {z : Str} {k1 k2 : IntKind} {i j : Int} {lo hi : Operand} {r : Str} (ht : P.underlying t = some .string) (h : sub? z i j = some r) (hx : s.ev x = some (.b (.one (.str z)))) (hl : s.ev lo = some (.b (.one (.int k1 i)))) (hh : s.ev hi = some (.b (.one (.int k2 j)))) :
    Op1 P E n ⟨dst, .slice t x (some lo) (some hi) none, ty, pos, after, g⟩ s (s.put n dst (.b (.one (.str r)))) :=
  Op1.val (o := ⟨dst, .slice t x (some lo) (some hi) none, ty, pos, after, g⟩) fun ac w h' ρ hw hs => by
    obtain ⟨h0, h1, h2, rfl⟩ := sub_ok h
    obtain ⟨hv, hln⟩ := ev_str hs hx
    refine ⟨.string ⟨⟨(z.take j.toNat).drop i.toNat⟩⟩, ?_, rfl, by simp; omega⟩
    simp only [execOp, hv, Option.map_some, Option.map_none, (ev_int hs hl).1, (ev_int hs hh).1]
    rw [Sem.run_bind, run_sliceAt_string w t _ _ _ _ ht, run_slice_string (P := P) (w := w) t ⟨⟨z⟩⟩ k1 k2 i j ht h0 h1 (by simpa [mk_size] using h2)]
    show Result.ok _ w = Result.ok _ w
    congr 4
    have e : i.toNat + (j.toNat - i.toNat) = j.toNat := by omega
    simp [ByteArray.extract, ByteArray.copySlice, List.take_drop, e]
theorem op_slice_str_l {z : Str} {k1 : IntKind} {i : Int} {lo : Operand} {r : Str} (ht : P.underlying t = some .string) (h : drop? z i = some r) (hx : s.ev x = some (.b (.one (.str z)))) (hl : s.ev lo = some (.b (.one (.int k1 i)))) :
    Op1 P E n ⟨dst, .slice t x (some lo) none none, ty, pos, after, g⟩ s (s.put n dst (.b (.one (.str r)))) :=
  Op1.val (o := ⟨dst, .slice t x (some lo) none none, ty, pos, after, g⟩) fun ac w h' ρ hw hs => by
    obtain ⟨h0, h1, rfl⟩ := drop_ok h
    obtain ⟨hv, hln⟩ := ev_str hs hx
    refine ⟨.string ⟨⟨z.drop i.toNat⟩⟩, ?_, rfl, by simp; omega⟩
    simp only [execOp, hv, Option.map_some, Option.map_none, (ev_int hs hl).1]
    rw [Sem.run_bind, run_sliceAt_string w t _ _ _ _ ht, run_slice_string_l (P := P) (w := w) (t := t) (s := ⟨⟨z⟩⟩) ht k1 i h0 (by simpa [mk_size] using h1)]
    show Result.ok _ w = Result.ok _ w
    congr 4
    simp [ByteArray.extract, ByteArray.copySlice, ByteArray.size, List.take_of_length_le]
theorem op_slice_str_h {z : Str} {k1 : IntKind} {i : Int} {hi : Operand} {r : Str} (ht : P.underlying t = some .string) (h : take? z i = some r) (hx : s.ev x = some (.b (.one (.str z)))) (hl : s.ev hi = some (.b (.one (.int k1 i)))) :
    Op1 P E n ⟨dst, .slice t x none (some hi) none, ty, pos, after, g⟩ s (s.put n dst (.b (.one (.str r)))) :=
  Op1.val (o := ⟨dst, .slice t x none (some hi) none, ty, pos, after, g⟩) fun ac w h' ρ hw hs => by
    obtain ⟨h0, h1, rfl⟩ := take_ok h
    obtain ⟨hv, hln⟩ := ev_str hs hx
    refine ⟨.string ⟨⟨z.take i.toNat⟩⟩, ?_, rfl, by simp; omega⟩
    simp only [execOp, hv, Option.map_some, Option.map_none, (ev_int hs hl).1]
    rw [Sem.run_bind, run_sliceAt_string w t _ _ _ _ ht, run_slice_string_h (P := P) (w := w) (t := t) (s := ⟨⟨z⟩⟩) ht k1 i h0 (by simpa [mk_size] using h1)]
    show Result.ok _ w = Result.ok _ w
    congr 4
    simp [ByteArray.extract, ByteArray.copySlice]
/-- a new block that is only read from here on -/
theorem WR.newP {h : PH} {ρ : RM} {own : List (Nat × OC)} {w w' : World} (hw : WR E n own h ρ w) (cs : List Value) (hold : ∀ b, b < w.heap.size → w'.heap[b]? = w.heap[b]?) (hsz : w.heap.size ≤ w'.heap.size) (hos : w'.os = w.os) (hout : w'.output = w.output)
    (hnew : ∀ o v, cs[o]? = some v → w'.cell? ⟨w.heap.size, o, none⟩ = some v) : h.le (addRow h w.heap.size cs) ∧ WR E n own (addRow h w.heap.size cs) ρ w' := by
  have hnone : ∀ o, h w.heap.size o = none := fun o => by
    cases e : h w.heap.size o with
    | none => rfl
    | some u => have := lt_of_cell (hw.agree _ o u e); omega
  have hle : h.le (addRow h w.heap.size cs) := fun b o v hv => by
    unfold addRow
    split
    · rename_i e; subst e; rw [hnone o] at hv; simp at hv
    · exact hv
  refine ⟨hle, ?_, PH.le_trans hw.le hle, ?_, by have := hw.size; omega, ?_, hw.fixed, hos.trans hw.os, hout.trans hw.out, hw.nl, ?_⟩
  · intro b o v hv
    unfold addRow at hv
    split at hv
    · rename_i e; subst e
      exact hnew o v hv
    · have hc := hw.agree b o v hv
      rw [cell_of_heap (hold b (lt_of_cell hc))]; exact hc
  · intro b hb hnl
    rw [← hw.fresh b hb hnl]
    funext o
    unfold addRow
    rw [if_neg (by have := hw.size; omega)]
  · intro b hb hl
    rw [hold b (Nat.lt_of_lt_of_le hb hw.size)]; exact hw.same b hb hl
  · intro j c hj
    obtain ⟨e1, e2, e3⟩ := hw.owned j c hj
    refine ⟨(e1.congr fun b hb => hold b (e1.lt hb)).mono hle, fun b hb => ⟨(e2 b hb).1, fun o => ?_⟩, e3⟩
    have := e1.lt hb
    unfold addRow
    rw [if_neg (by omega)]
    exact (e2 b hb).2 o
theorem flat_eK : ∀ (l : List Int), (l.map (eK k)).flatten = l.map (CP.int k)
  | [] => rfl
  | a :: l => by simp only [List.map_cons, List.flatten_cons, flat_eK l, eK]; rfl
/-- []byte(s) -/
theorem op_conv_str {src d e : TypeId} {z : Str} (hs : P.underlying src = some .string) (hd : P.underlying d = some (.slice e)) (he : P.underlying e = some (.int .u8)) (hx : s.ev x = some (.b (.one (.str z)))) :
    Op1 P E n ⟨dst, .convert src d x, ty, pos, after, g⟩ s (s.put n dst (.b (.one (.sl 1 ((ofStr z).map (eK .u8)))))) := by
  intro a w ⟨hdf, hn, h, ρ, hw, hsl⟩ next Q hnext
  obtain ⟨hv, hl⟩ := ev_str hsl hx
  have hrun' : (execOp a.eval ⟨dst, .convert src d x, ty, pos, after, g⟩).run P w = .ok (.value (.slice (some ⟨w.heap.size, 0, none⟩) z.length (grownCap w z.length 0 e))) (Lib.bytesWorld w e ⟨⟨z⟩⟩) := by
    simp only [execOp, hv]
    rw [Sem.run_bind, Lib.run_convert_string_bytes w src d e ⟨⟨z⟩⟩ hs hd he]
    rfl
  unfold Oper.wp
  rw [hrun']
  obtain ⟨hle, hwp⟩ := hw.newP (w' := Lib.bytesWorld w e ⟨⟨z⟩⟩) (z.map fun c => Value.int .u8 c.toNat) (fun b hb => Lib.bytesWorld_at_old w e _ b hb) (by rw [Lib.bytesWorld_size]; omega) (by simp [Lib.bytesWorld, World.freeze, World.alloc, World.drew, -World.alloc_eq, -World.drew_eq]) (by simp [Lib.bytesWorld, World.freeze, World.alloc, World.drew, -World.alloc_eq, -World.drew_eq])
    (fun o v hv => by
      rw [List.getElem?_map] at hv
      simp only [Option.map_eq_some_iff] at hv
      obtain ⟨c, hc, rfl⟩ := hv
      have hlt := (List.getElem?_eq_some_iff.1 hc).1
      rw [Lib.bytesWorld_cell w e ⟨⟨z⟩⟩ o hlt]
      simp [List.getD, hc])
  refine hnext _ _ (R.put (s := s) hdf hn hwp (hsl.mono hle) ?_)
  have hlen : ((ofStr z).map (eK .u8)).length = z.length := by simp [ofStr]
  refine ⟨fun ps hps => ?_, by decide, .inr ⟨w.heap.size, 0, grownCap w z.length 0 e, by rw [hlen], by rw [hlen]; exact grownCap_ge w _ _ _, grownCap_le_maxLen w _ _ _ hl, fun j c hc => ?_⟩⟩
  · obtain ⟨q, _, rfl⟩ := List.mem_map.1 hps; rfl
  · rw [flat_eK] at hc
    simp only [ofStr, List.map_map, List.getElem?_map, Option.map_eq_some_iff] at hc
    obtain ⟨b, hb, rfl⟩ := hc
    refine ⟨.int .u8 b.toNat, by simp [addRow, hb], rfl, ?_⟩
    have := b.toNat_lt
    simp [inR, IntKind.min, IntKind.max, IntKind.signed, IntKind.bits]
    omega
end
theorem spliceE_lenA {l l2 : List Int} {N lo lo2 m : Nat} (h : l.length = N) (h1 : lo + m ≤ N) (h2 : lo2 + m ≤ l2.length) : (spliceE l lo ((l2.drop lo2).take m)).length = N := by
  simp only [spliceE, List.length_append, List.length_take, List.length_drop]
  omega
end Go.Sk

/- The framework, part Zb: regions whose order is drawn, in which slots that were known before are written anew, and which end with operations in a fixed order. -/
namespace Go.Sk
set_option linter.unusedSimpArgs false
set_option linter.unusedVariables false
open Go Go.BigFrame
section
variable {P : Program} {TB : Tabs} {E : Env TB} {n : Sh} {s s' s2 : St} {l : List Oper} {L : List Oper} {Q : Post} {o : Oper}

/-- operation i waits on operation j -/
def depB (L : List Oper) (i j : Nat) : Bool := match L[i]? with
  | some o => o.after.toList.any fun e => Region.binds .any e && e.on == j
  | none => false
theorem depB_spec {L : List Oper} {i j : Nat} (h : depB L i j = true) : ∃ o, L[i]? = some o ∧ ∃ e, e ∈ o.after ∧ Region.binds .any e = true ∧ e.on = j := by
  unfold depB at h
  split at h
  · next o ho =>
    simp only [List.any_eq_true, Bool.and_eq_true, beq_iff_eq] at h
    obtain ⟨e, he, h1, h2⟩ := h
    exact ⟨o, ho, e, by simpa using he, h1, h2⟩
  · simp at h
theorem filter_set_len : ∀ (L : List Bool) (i : Nat) (hi : i < L.length), L[i] = false → ((L.set i true).filter id).length = (L.filter id).length + 1
  | [], i, hi, _ => by simp at hi
  | b :: L, 0, hi, hb => by simp at hb; subst hb; simp
  | b :: L, i + 1, hi, hb => by
    have := filter_set_len L i (by simpa using hi) (by simpa using hb)
    cases b <;> simp [this]
/-- what is done is closed: who is done, all that he waited on is done -/
def Closed (L : List Oper) (listed : Array Bool) : Prop := ∀ (i : Nat) (o : Oper), L[i]? = some o → listed.getD i false = true → ∀ e ∈ o.after, Region.binds .any e = true → listed.getD e.on false = true
/-- the skeleton: an invariant of what is done -/
theorem anyG (Inv : Array Bool → Act → World → Prop) (hed : edgesOk 0 L = true)
    (hstep : ∀ (listed : Array Bool) a w (i : Nat) (o : Oper), listed.size = L.length → Closed L listed → L[i]? = some o → listed.getD i false = false → (∀ e ∈ o.after, Region.binds .any e = true → listed.getD e.on false = true) → Inv listed a w →
      ∀ K : Act → World → Prop, (∀ a' w', Inv (listed.setIfInBounds i true) a' w' → K a' w') → if Region.wanted o (yielded L.toArray a.tmps) then o.wp P a w K Q else K (a.put o.dst undef) w)
    (hend : ∀ (listed : Array Bool) a w, listed.size = L.length → (∀ j, j < L.length → listed.getD j false = true) → Inv listed a w → Q .normal a w) :
    ∀ (fuel : Nat) (listed : Array Bool) (a : Act) (w : World), listed.size = L.length → Closed L listed → L.length ≤ fuel + (listed.toList.filter id).length → Inv listed a w → wpAny P .any L.toArray Q fuel listed a w := by
  have hready : ∀ (listed : Array Bool), listed.size = L.length → Region.ready .any L.toArray listed = [] → ∀ j, j < L.length → listed.getD j false = true := by
    intro listed hsz hr j hj
    induction j using Nat.strongRecOn with
    | _ j ih =>
      cases hb : listed.getD j false with
      | true => rfl
      | false =>
        exfalso
        have hjr : j ∈ Region.ready .any L.toArray listed := by
          rw [mem_ready]
          refine ⟨?_, L[j], by simp [hj], fun e he hbd => ?_⟩
          · have : j < listed.size := by omega
            simp only [Array.getD_eq_getD_getElem?, Array.getElem?_eq_getElem this, Option.getD_some] at hb ⊢
            exact hb
          · have := edgesOk_spec hed j L[j] (by simp) e he hbd
            exact ih e.on (by omega) (by omega)
        rw [hr] at hjr
        simp at hjr
  intro fuel
  induction fuel with
  | zero =>
    intro listed a w hsz hcl hf hR
    have hall : ∀ j, j < L.length → listed.getD j false = true := by
      intro j hj
      have hfl : (listed.toList.filter id).length = listed.toList.length := by
        have := List.length_filter_le id listed.toList
        simp at this ⊢; omega
      have hall2 := List.filter_eq_self.1 (List.filter_sublist.eq_of_length hfl)
      have hjs : j < listed.size := by omega
      have := hall2 listed[j] (by simp)
      simp only [Array.getD_eq_getD_getElem?, Array.getElem?_eq_getElem hjs, Option.getD_some]
      simpa using this
    have hr : Region.ready .any L.toArray listed = [] := by
      apply List.eq_nil_iff_forall_not_mem.2
      intro j hj
      rw [mem_ready] at hj
      obtain ⟨hj1, o, ho, _⟩ := hj
      have hjl : j < L.length := by simpa using (Array.getElem?_eq_some_iff.1 ho).1
      have hjs : j < listed.size := by omega
      have := hall j hjl
      simp only [Array.getD_eq_getD_getElem?, Array.getElem?_eq_getElem hjs, Option.getD_some] at this hj1
      rw [this] at hj1; simp at hj1
    exact ⟨hr, hend listed a w hsz hall hR⟩
  | succ fuel ih =>
    intro listed a w hsz hcl hf hR
    refine ⟨fun hr => hend listed a w hsz (hready listed hsz hr) hR, fun i hi => ?_⟩
    rw [mem_ready] at hi
    obtain ⟨hi1, o, ho, hdeps⟩ := hi
    have hol : L[i]? = some o := by simpa using ho
    have hil : i < L.length := (List.getElem?_eq_some_iff.1 hol).1
    have his : i < listed.size := by omega
    have hi1' : listed[i] = false := by simpa [Array.getD_eq_getD_getElem?, Array.getElem?_eq_getElem his] using hi1
    have hi2 : listed.getD i false = false := by simp [Array.getD_eq_getD_getElem?, Array.getElem?_eq_getElem his, hi1']
    have key := hstep listed a w i o hsz hcl hol hi2 hdeps hR (wpAny P .any L.toArray Q fuel (listed.setIfInBounds i true)) (fun a' w' hR' => by
      have hset : ∀ q, listed.getD q false = true → (listed.setIfInBounds i true).getD q false = true := fun q hq => by
        by_cases e : q = i
        · subst e; simp [Array.getD_eq_getD_getElem?, his]
        · rw [getD_set_ne false (fun h => e h.symm)]; exact hq
      refine ih _ a' w' (by simpa using hsz) ?_ ?_ hR'
      · intro j p hj hlj e he hb
        by_cases e' : j = i
        · subst e'
          rw [hol] at hj; cases hj
          exact hset _ (hdeps e he hb)
        · rw [getD_set_ne false (fun h => e' h.symm)] at hlj
          exact hset _ (hcl j p hj hlj e he hb)
      · have := filter_set_len listed.toList i (by simpa using his) (by simpa using hi1')
        rw [Array.toList_setIfInBounds]
        omega)
    unfold wpOp
    rw [ho]
    dsimp only
    split
    · rename_i hw'
      simp only [hw', if_true] at key
      exact .inl key
    · rename_i hw'
      simp only [hw'] at key
      exact key

/-- what was known before and holds when operation j is done: who writes it waits on j -/
def baseFor (l : List Oper) (j : Nat) (sl : List (Nat × SV)) : List (Nat × SV) := sl.filter fun p => (List.range l.length).all fun i => ((l[i]?).bind (·.dst)) != some p.1 || i == j || depB l i j
def hit (l : List Oper) (listed : Array Bool) (d : Nat) : Bool := (List.range l.length).any fun i => listed.getD i false && ((l[i]?).bind (·.dst)) == some d
def stE (s : St) (l : List Oper) (Fs : List SV) (listed : Array Bool) : St := ⟨(s.slots.filter fun p => !hit l listed p.1) ++ factsFrom (fun i => listed.getD i false) 0 l Fs, s.own⟩
def StepsE (P : Program) {TB : Tabs} (E : Env TB) (n : Sh) (ops : Array Oper) (s : St) (l : List Oper) (Fs : List SV) : Nat → List Oper → List SV → Prop
  | _, [], [] => True
  | j, o :: r, x :: xs => (∀ extra, Step1 P E n ops o ⟨depFacts l Fs o.after.toList ++ (baseFor l j s.slots ++ extra), s.own⟩ (St.put n o.dst x ⟨depFacts l Fs o.after.toList ++ (baseFor l j s.slots ++ extra), s.own⟩)) ∧ StepsE P E n ops s l Fs (j + 1) r xs
  | _, _, _ => False
theorem stepsE_get {ops : Array Oper} {Fs : List SV} {l0 : List Oper} : ∀ {r : List Oper} {xs : List SV} {j : Nat}, StepsE P E n ops s l0 Fs j r xs → r.length = xs.length ∧ ∀ (i : Nat) (o : Oper), r[i]? = some o → ∃ x, xs[i]? = some x ∧ ∀ extra, Step1 P E n ops o ⟨depFacts l0 Fs o.after.toList ++ (baseFor l0 (j + i) s.slots ++ extra), s.own⟩ (St.put n o.dst x ⟨depFacts l0 Fs o.after.toList ++ (baseFor l0 (j + i) s.slots ++ extra), s.own⟩)
  | [], [], j, _ => ⟨rfl, fun i o h => by simp at h⟩
  | o :: r, x :: xs, j, h => by
    obtain ⟨h1, h2⟩ := h
    obtain ⟨h3, h4⟩ := stepsE_get h2
    refine ⟨by simp [h3], fun i o' ho => ?_⟩
    cases i with
    | zero => simp at ho; subst ho; exact ⟨x, by simp, h1⟩
    | succ i =>
      obtain ⟨y, hy, hz⟩ := h4 i o' (by simpa using ho)
      exact ⟨y, by simpa using hy, by rw [← Nat.add_assoc, Nat.add_right_comm]; exact hz⟩
  | [], _ :: _, j, h => h.elim
  | _ :: _, [], j, h => h.elim
/-- the rest, one after another -/
def TailX (P : Program) {TB : Tabs} (E : Env TB) (n : Sh) (ops : Array Oper) : List Oper → St → St → Prop
  | [], s, s' => s = s'
  | o :: r, s, s' => ∃ s1, Step1 P E n ops o s s1 ∧ TailX P E n ops r s1 s'
/-- q waits on all that is before it, directly or not -/
def coverB (L : List Oper) (q : Nat) : Bool := (List.range q).all fun j => depB L q j || (List.range q).any fun i => decide (j < i) && depB L i j
def okX (l tl : List Oper) (m : Nat) : Bool := edgesOk 0 (l ++ tl) && nodupB (dsts l) && (dsts l).all (· < m) && (List.range tl.length).all fun k => coverB (l ++ tl) (l.length + k)

theorem covered {listed : Array Bool} {q : Nat} {o : Oper} (hcl : Closed L listed) (hq : L[q]? = some o) (hd : ∀ e ∈ o.after, Region.binds .any e = true → listed.getD e.on false = true) (hc : coverB L q = true) : ∀ j, j < q → listed.getD j false = true := by
  simp only [coverB, List.all_eq_true, List.mem_range, Bool.or_eq_true, List.any_eq_true, Bool.and_eq_true, decide_eq_true_eq] at hc
  have key : ∀ m j, q - j = m → j < q → listed.getD j false = true := by
    intro m
    induction m using Nat.strongRecOn with
    | _ m ihm =>
      intro j hm hj
      rcases hc j hj with h | ⟨i, hi, hji, hp⟩
      · obtain ⟨o', ho', e, he, hb, hon⟩ := depB_spec h
        rw [hq] at ho'; cases ho'
        have := hd e he hb
        rwa [hon] at this
      · obtain ⟨o', ho', e, he, hb, hon⟩ := depB_spec hp
        have h1 := ihm (q - i) (by omega) i rfl hi
        have := hcl i o' ho' h1 e he hb
        rwa [hon] at this
  exact fun j hj => key _ j rfl hj

def InvX (P : Program) {TB : Tabs} (E : Env TB) (n : Sh) (ops : Array Oper) (s : St) (l tl : List Oper) (Fs : List SV) (s2 : St) (listed : Array Bool) (a : Act) (w : World) : Prop :=
  ((∀ j, l.length ≤ j → listed.getD j false = false) ∧ R E n (stE s l Fs listed) a w) ∨
  ∃ k sk, k < tl.length ∧ (∀ j, j ≤ l.length + k → listed.getD j false = true) ∧ (∀ j, l.length + k < j → listed.getD j false = false) ∧ TailX P E n ops (tl.drop (k + 1)) sk s2 ∧ R E n sk a w

theorem Tri.regionXF {rid : Nat} {ops : List Oper} (hm : P.follows .mixedOrders = true) (l tl : List Oper) (hops : l ++ tl = ops) (Fs : List SV) (ks kos : List Nat) (hok : okX l tl n.n = true) (hst : StepsE P E n ops.toArray s l Fs 0 l Fs)
    (htl : TailX P E n ops.toArray tl ⟨(s.slots.filter fun p => !(dsts l).contains p.1) ++ factsFrom (fun _ => true) 0 l Fs, s.own⟩ s2) (hs : s2.keep ks kos = s') (h : Fin E n .normal s' Q) : Tri P E n (.region rid ops.toArray true) s Q := by
  subst hops
  simp only [okX, Bool.and_eq_true, List.all_eq_true, List.mem_range] at hok
  obtain ⟨⟨⟨hedges, hnd⟩, hlt⟩, hcov⟩ := hok
  obtain ⟨hlen, hsteps⟩ := stepsE_get (Fs := Fs) hst
  intro a w hr
  refine wp_region_any hm ?_
  have hgetl : ∀ {i : Nat} {o : Oper}, (l ++ tl)[i]? = some o → i < l.length → l[i]? = some o := fun h hi => by rwa [List.getElem?_append_left hi] at h
  have hS0 : ∀ {listed : Array Bool} {a : Act} {w : World}, (∀ j, j < l.length → listed.getD j false = true) → R E n (stE s l Fs listed) a w → R E n ⟨(s.slots.filter fun p => !(dsts l).contains p.1) ++ factsFrom (fun _ => true) 0 l Fs, s.own⟩ a w := by
    intro listed a w hall hR
    obtain ⟨h1, h2, h, ρ, hw, hs⟩ := hR
    refine ⟨h1, h2, h, ρ, hw, fun k x hx => hs k x ?_⟩
    simp only [stE, List.mem_append] at hx ⊢
    rcases hx with hx | hx
    · left
      simp only [List.mem_filter, Bool.not_eq_true', List.contains_eq_mem, decide_eq_false_iff_not] at hx ⊢
      refine ⟨hx.1, ?_⟩
      cases hh : hit l listed k with
      | false => rfl
      | true =>
        exfalso
        simp only [hit, List.any_eq_true, List.mem_range, Bool.and_eq_true, beq_iff_eq, Option.bind_eq_some_iff] at hh
        obtain ⟨i, hi, _, o', ho', hd'⟩ := hh
        exact hx.2 (mem_dsts ho' hd')
    · right
      rw [mem_factsFrom] at hx ⊢
      obtain ⟨j, oj, hj, hd, hF, _⟩ := hx
      exact ⟨j, oj, hj, hd, hF, by rw [Nat.zero_add]; exact hall j (List.getElem?_eq_some_iff.1 hj).1⟩
  refine anyG (L := l ++ tl) (InvX P E n (l ++ tl).toArray s l tl Fs s2) hedges ?_ ?_ _ _ _ _ (by simp) ?_ (by simp) (.inl ⟨fun j hj => ?_, ?_⟩)
  · -- one operation
    intro listed a w i o hsz hcl hio hil hdeps hInv K hK
    have hin : i < (l ++ tl).length := (List.getElem?_eq_some_iff.1 hio).1
    have his : i < listed.size := by omega
    have hset : ∀ q, listed.getD q false = true → (listed.setIfInBounds i true).getD q false = true := fun q hq => by
      by_cases e : q = i
      · subst e; simp [Array.getD_eq_getD_getElem?, his]
      · rw [getD_set_ne false (fun h => e h.symm)]; exact hq
    have hseti : (listed.setIfInBounds i true).getD i false = true := by simp [Array.getD_eq_getD_getElem?, his]
    by_cases hi : i < l.length
    · -- of the first part
      have hInv' : (∀ j, l.length ≤ j → listed.getD j false = false) ∧ R E n (stE s l Fs listed) a w := by
        rcases hInv with h | ⟨k, sk, hk, hyes, _⟩
        · exact h
        · have := hyes i (by omega); rw [hil] at this; simp at this
      obtain ⟨hno, hR⟩ := hInv'
      have hol := hgetl hio hi
      obtain ⟨x, hx, hstep⟩ := hsteps i o hol
      rw [Nat.zero_add] at hstep
      have hnohit : ∀ p, p ∈ baseFor l i s.slots → p ∈ s.slots ∧ hit l listed p.1 = false := by
        intro p hp
        simp only [baseFor, List.mem_filter, List.all_eq_true, List.mem_range, Bool.or_eq_true, bne_iff_ne, beq_iff_eq] at hp
        refine ⟨hp.1, ?_⟩
        cases hh : hit l listed p.1 with
        | false => rfl
        | true =>
          exfalso
          simp only [hit, List.any_eq_true, List.mem_range, Bool.and_eq_true, beq_iff_eq] at hh
          obtain ⟨q, hq, hlq, hdq⟩ := hh
          rcases hp.2 q hq with (h | h) | h
          · exact h hdq
          · subst h; rw [hil] at hlq; simp at hlq
          · obtain ⟨o', ho', e, he, hb, hon⟩ := depB_spec h
            have := hcl q o' (by rw [List.getElem?_append_left hq]; exact ho') hlq e he hb
            rw [hon, hil] at this; simp at this
      have hR2 : R E n ⟨depFacts l Fs o.after.toList ++ (baseFor l i s.slots ++ ((s.slots.filter fun p => !hit l listed p.1) ++ factsFrom (fun i => listed.getD i false) 0 l Fs)), s.own⟩ a w := by
        obtain ⟨h1, h2, h, ρ, hw, hs⟩ := hR
        refine ⟨h1, h2, h, ρ, hw, fun k y hy => hs k y ?_⟩
        rcases List.mem_append.1 hy with hy | hy
        · obtain ⟨e, he, hb, o', ho', hd', hF'⟩ := mem_depFacts hy
          refine List.mem_append.2 (.inr ?_)
          rw [mem_factsFrom]
          exact ⟨e.on, o', ho', hd', hF', by rw [Nat.zero_add]; exact hdeps e (by simpa using he) hb⟩
        · rcases List.mem_append.1 hy with hy | hy
          · obtain ⟨h1, h2⟩ := hnohit _ hy
            exact List.mem_append.2 (.inl (List.mem_filter.2 ⟨h1, by simp [h2]⟩))
          · exact hy
      refine hstep _ a w hR2 K Q (fun a' w' hR' => hK a' w' (.inl ⟨fun j hj => ?_, ?_⟩))
      · rw [getD_set_ne false (by omega)]; exact hno j hj
      · obtain ⟨h1, h2, h, ρ, hw, hs⟩ := hR'
        have hown : ∀ sl, (St.put n o.dst x ⟨sl, s.own⟩).own = s.own := fun sl => by
          cases hd : o.dst with
          | none => rfl
          | some d => simp only [St.put, St.set]; split <;> rfl
        rw [hown] at hw
        refine ⟨h1, h2, h, ρ, hw, fun k y hy => ?_⟩
        have hold : (k, y) ∈ (s.slots.filter fun p => !hit l listed p.1) ++ factsFrom (fun i => listed.getD i false) 0 l Fs → (∀ d, o.dst = some d → k ≠ d) → ∃ v, a'.tmps[k]? = some v ∧ y.rel h ρ v := by
          intro hm hkd
          refine hs k y ?_
          have hm' : (k, y) ∈ depFacts l Fs o.after.toList ++ (baseFor l i s.slots ++ ((s.slots.filter fun p => !hit l listed p.1) ++ factsFrom (fun i => listed.getD i false) 0 l Fs)) := List.mem_append.2 (.inr (List.mem_append.2 (.inr hm)))
          cases hd : o.dst with
          | none => simp only [St.put]; exact hm'
          | some d =>
            simp only [St.put, St.set]
            split
            · exact List.mem_cons_of_mem _ (del_of_mem hm' (hkd d hd))
            · exact hm'
        simp only [stE] at hy
        rcases List.mem_append.1 hy with hy | hy
        · obtain ⟨hy1, hy2⟩ := List.mem_filter.1 hy
          have hy2' : hit l (listed.setIfInBounds i true) k = false := by simpa using hy2
          refine hold (List.mem_append.2 (.inl (List.mem_filter.2 ⟨hy1, ?_⟩))) (fun d hd e => ?_)
          · cases hh : hit l listed k with
            | false => rfl
            | true =>
              exfalso
              simp only [hit, List.any_eq_true, List.mem_range, Bool.and_eq_true, beq_iff_eq] at hh
              obtain ⟨q, hq, hlq, hdq⟩ := hh
              have : hit l (listed.setIfInBounds i true) k = true := by
                simp only [hit, List.any_eq_true, List.mem_range, Bool.and_eq_true, beq_iff_eq]
                exact ⟨q, hq, hset q hlq, hdq⟩
              rw [hy2'] at this; simp at this
          · subst e
            have : hit l (listed.setIfInBounds i true) k = true := by
              simp only [hit, List.any_eq_true, List.mem_range, Bool.and_eq_true, beq_iff_eq]
              exact ⟨i, hi, hseti, by rw [hol]; exact hd⟩
            rw [hy2'] at this; simp at this
        · rw [mem_factsFrom] at hy
          obtain ⟨j, oj, hj, hd', hF', hl'⟩ := hy
          rw [Nat.zero_add] at hl'
          by_cases hji : j = i
          · subst hji
            rw [hol] at hj; cases hj
            rw [hx] at hF'; cases hF'
            refine hs k y ?_
            have hk : k < n.n := by
              have := hlt k (mem_dsts hol hd')
              simpa using this
            simp only [hd', St.put, St.set, hk, if_true]
            exact List.mem_cons_self
          · have hl2 : listed.getD j false = true := by
              rw [getD_set_ne false (fun e => hji e.symm)] at hl'
              exact hl'
            refine hold (List.mem_append.2 (.inr ?_)) (fun d hd e => ?_)
            · rw [mem_factsFrom]
              exact ⟨j, oj, hj, hd', hF', by rw [Nat.zero_add]; exact hl2⟩
            · subst e
              exact hji (dsts_inj hnd hj hol hd' hd)
    · -- of the rest
      have hit' : i - l.length < tl.length := by simp only [List.length_append] at hin; omega
      have hcv := covered hcl hio hdeps (by have := hcov (i - l.length) hit'; rwa [show l.length + (i - l.length) = i by omega] at this)
      have hoi : tl[i - l.length]? = some o := by rwa [List.getElem?_append_right (by omega)] at hio
      rcases hInv with ⟨hno, hR⟩ | ⟨k, sk, hk, hyes, hno, hT, hR⟩
      · have ei : i = l.length := by
          rcases Nat.lt_or_ge l.length i with h | h
          · have := hcv l.length h; rw [hno _ (Nat.le_refl _)] at this; simp at this
          · omega
        have hR0 := hS0 (fun j hj => hcv j (by omega)) hR
        rw [show i - l.length = 0 by omega] at hoi
        have h0 : 0 < tl.length := by omega
        have hdr : tl.drop 0 = o :: tl.drop (0 + 1) := by
          rw [List.drop_eq_getElem_cons h0]
          congr 1
          rw [List.getElem?_eq_getElem h0] at hoi
          simpa using hoi
        have hT : TailX P E n (l ++ tl).toArray (tl.drop 0) ⟨(s.slots.filter fun p => !(dsts l).contains p.1) ++ factsFrom (fun _ => true) 0 l Fs, s.own⟩ s2 := by rw [List.drop_zero]; exact htl
        rw [hdr] at hT
        obtain ⟨s1, hs1, hr1⟩ := hT
        refine hs1 a w hR0 K Q (fun a' w' hR' => hK a' w' (.inr ⟨0, s1, h0, fun j hj => ?_, fun j hj => ?_, hr1, hR'⟩))
        · by_cases e : j = i
          · subst e; exact hseti
          · exact hset j (hcv j (by omega))
        · rw [getD_set_ne false (by omega)]; exact hno j (by omega)
      · have ei : i = l.length + (k + 1) := by
          rcases Nat.lt_or_ge (l.length + (k + 1)) i with h | h
          · have := hcv _ h; rw [hno _ (by omega)] at this; simp at this
          · rcases Nat.lt_or_ge i (l.length + (k + 1)) with h' | h'
            · have := hyes i (by omega); rw [hil] at this; simp at this
            · omega
        rw [show i - l.length = k + 1 by omega] at hoi
        have hdr : tl.drop (k + 1) = o :: tl.drop (k + 1 + 1) := by
          have hlt2 : k + 1 < tl.length := by omega
          rw [List.drop_eq_getElem_cons hlt2]
          congr 1
          rw [List.getElem?_eq_getElem hlt2] at hoi
          simpa using hoi
        rw [hdr] at hT
        obtain ⟨s1, hs1, hr1⟩ := hT
        refine hs1 a w hR K Q (fun a' w' hR' => hK a' w' (.inr ⟨k + 1, s1, by omega, fun j hj => ?_, fun j hj => ?_, hr1, hR'⟩))
        · by_cases e : j = i
          · subst e; exact hseti
          · exact hset j (hyes j (by omega))
        · rw [getD_set_ne false (by omega)]; exact hno j (by omega)
  · -- the end
    intro listed a w hsz hall hInv
    rcases hInv with ⟨hno, hR⟩ | ⟨k, sk, hk, hyes, hno, hT, hR⟩
    · have e : tl = [] := by
        cases htl' : tl with
        | nil => rfl
        | cons o0 r =>
          have := hall l.length (by rw [htl']; simp)
          rw [hno _ (Nat.le_refl _)] at this; simp at this
      subst e
      have hR0 := hS0 (fun j hj => hall j (by simpa using hj)) hR
      have e2 : _ = s2 := htl
      rw [e2] at hR0
      exact h a w (hs ▸ hR0.keep ks kos)
    · have e : k + 1 = tl.length := by
        rcases Nat.lt_or_ge (k + 1) tl.length with h' | h'
        · have := hall (l.length + (k + 1)) (by simp only [List.length_append]; omega)
          rw [hno _ (by omega)] at this; simp at this
        · omega
      rw [e, List.drop_length] at hT
      have e2 : sk = s2 := hT
      subst e2
      exact h a w (hs ▸ hR.keep ks kos)
  · intro i p hi hl
    exfalso
    simp only [Array.getD_eq_getD_getElem?, Array.getElem?_replicate] at hl
    split at hl <;> simp at hl
  · simp only [Array.getD_eq_getD_getElem?, Array.getElem?_replicate]
    split <;> simp
  · obtain ⟨h1, h2, h, ρ, hw, hsl⟩ := hr.drawn
    refine ⟨h1, h2, h, ρ, hw, fun k x hx => hsl k x ?_⟩
    simp only [stE] at hx
    rcases List.mem_append.1 hx with hx | hx
    · exact (List.mem_filter.1 hx).1
    · rw [mem_factsFrom] at hx
      obtain ⟨j, o, hj, _, _, hl⟩ := hx
      simp only [Nat.zero_add, Array.getD_eq_getD_getElem?, Array.getElem?_replicate] at hl
      split at hl <;> simp at hl
theorem Tri.regionX {rid : Nat} {ops : List Oper} {y : Code} (hm : P.follows .mixedOrders = true) (l tl : List Oper) (hops : l ++ tl = ops) (Fs : List SV) (ks kos : List Nat) (hok : okX l tl n.n = true) (hst : StepsE P E n ops.toArray s l Fs 0 l Fs)
    (htl : TailX P E n ops.toArray tl ⟨(s.slots.filter fun p => !(dsts l).contains p.1) ++ factsFrom (fun _ => true) 0 l Fs, s.own⟩ s2) (hs : s2.keep ks kos = s') (h : Tri P E n y s' Q) : Tri P E n (.region rid ops.toArray true) s (Exit.then (y.wp P Q) Q) :=
  Tri.regionXF hm l tl hops Fs ks kos hok hst htl hs (Fin.then h)
/-- .. as the printed walks use it -/
theorem Tri.regionYF {rid : Nat} {ops : List Oper} (hm : P.follows .mixedOrders = true) (m : Nat) (Fs : List SV) (ks kos : List Nat) (hok : okX (ops.take m) (ops.drop m) n.n = true) (hst : StepsE P E n ops.toArray s (ops.take m) Fs 0 (ops.take m) Fs)
    (htl : TailX P E n ops.toArray (ops.drop m) ⟨(s.slots.filter fun p => !(dsts (ops.take m)).contains p.1) ++ factsFrom (fun _ => true) 0 (ops.take m) Fs, s.own⟩ s2) (hs : s2.keep ks kos = s') (h : Fin E n .normal s' Q) : Tri P E n (.region rid ops.toArray true) s Q :=
  Tri.regionXF hm _ _ (List.take_append_drop m ops) Fs ks kos hok hst htl hs h
theorem Tri.regionY {rid : Nat} {ops : List Oper} {y : Code} (hm : P.follows .mixedOrders = true) (m : Nat) (Fs : List SV) (ks kos : List Nat) (hok : okX (ops.take m) (ops.drop m) n.n = true) (hst : StepsE P E n ops.toArray s (ops.take m) Fs 0 (ops.take m) Fs)
    (htl : TailX P E n ops.toArray (ops.drop m) ⟨(s.slots.filter fun p => !(dsts (ops.take m)).contains p.1) ++ factsFrom (fun _ => true) 0 (ops.take m) Fs, s.own⟩ s2) (hs : s2.keep ks kos = s') (h : Tri P E n y s' Q) : Tri P E n (.region rid ops.toArray true) s (Exit.then (y.wp P Q) Q) :=
  Tri.regionYF hm m Fs ks kos hok hst htl hs (Fin.then h)
end
end Go.Sk

/- The framework, part Zc: conversions ahead of an operation; contracts of library functions; tables read. -/
namespace Go.Sk
set_option linter.unusedSimpArgs false
set_option linter.unusedVariables false
open Go Go.BigFrame Go.RowKit
section
variable {P : Program} {TB : Tabs} {E : Env TB} {n : Sh} {s s' s0 s2 : St} {dst : Option Nat} {t ty yt : TypeId} {pos : String} {after : Array Edge} {g : Option (Nat × Bool)} {x y c : Operand} {ops : Array Oper} {o : Oper}
theorem Step1.nilrow (i k size : Nat) (T : TypeId) (hi : s.get i = some (.b (.one .nil))) (hz : 0 < size) (hfx : n.fix.contains k = false) (h : Step1 P E n ops o ⟨(i, .b (.row k)) :: del i (dropU k s.slots), ins k (.row T size []) s.own⟩ s2) (hnu : noUse k s.own = true := by rfl) : Step1 P E n ops o s s2 :=
  fun a w hr => h a w (hr.nilrow hi hz hfx hnu)
theorem Step1.nilsl (i size : Nat) (hi : s.get i = some (.b (.one .nil))) (hz : 0 < size) (h : Step1 P E n ops o ⟨(i, .b (.one (.sl size []))) :: del i s.slots, s.own⟩ s2) : Step1 P E n ops o s s2 :=
  fun a w hr => h a w (hr.nilsl hi hz)
theorem Step1.persist (k : Nat) {size : Nat} {T : TypeId} {es : List (List CP)} (hk : lk s.own k = some (.row T size es)) (h : Step1 P E n ops o ⟨persS k (.sl size es) s.slots, persO k (.sl size es) (del k s.own)⟩ s2) : Step1 P E n ops o s s2 := fun a w hr => h a w (hr.persist hk)
theorem Step1.toX (k : Nat) {T : TypeId} {ps : List CP} (hk : lk s.own k = some (.box T ps)) (h : Step1 P E n ops o ⟨s.slots, ins k (.xbox T (ps.map .one)) s.own⟩ s2) : Step1 P E n ops o s s2 := fun a w hr => h a w (hr.toX k hk)
theorem Step1.unX (k : Nat) {T : TypeId} {cs : List BV} {ps : List CP} (hk : lk s.own k = some (.xbox T cs)) (ho : ones cs = some ps) (h : Step1 P E n ops o ⟨s.slots, ins k (.box T ps) s.own⟩ s2) : Step1 P E n ops o s s2 := fun a w hr => h a w (hr.unX k hk ho)

theorem Step1.toO (kos : List Nat) {s1 : St} (h : Step1 P E n ops o s s1) (e : (⟨s1.slots, keepL kos s1.own⟩ : St) = s2) : Step1 P E n ops o s s2 := fun a w hr K Q hk => h a w hr K Q fun a' w' hr' => hk a' w' (by
  rw [← e]
  obtain ⟨hd, hn, h, ρ, hw, hs⟩ := hr'
  exact ⟨hd, hn, h, ρ, hw.sub fun _ hp => mem_keepL hp, hs⟩)
/-- a row whose place is fixed, and back -/
theorem R.toF {a : Act} {w : World} (hr : R E n s a w) (k : Nat) {T : TypeId} {size : Nat} {es : List (List CP)} (hk : lk s.own k = some (.row T size es)) : R E n ⟨s.slots, ins k (.frow T size es) s.own⟩ a w := by
  obtain ⟨hd, hn, h, ρ, hw, hs⟩ := hr
  exact ⟨hd, hn, h, ρ, hw.repl hk (hw.owned k _ (lk_mem hk)).1, hs⟩
theorem R.unF {a : Act} {w : World} (hr : R E n s a w) (k : Nat) {T : TypeId} {size : Nat} {es : List (List CP)} (hk : lk s.own k = some (.frow T size es)) : R E n ⟨s.slots, ins k (.row T size es) s.own⟩ a w := by
  obtain ⟨hd, hn, h, ρ, hw, hs⟩ := hr
  exact ⟨hd, hn, h, ρ, hw.repl hk (hw.owned k _ (lk_mem hk)).1, hs⟩
theorem OpsL.toF {l : List Oper} {Q : Post} (k : Nat) {T : TypeId} {size : Nat} {es : List (List CP)} (hk : lk s.own k = some (.row T size es)) (h : OpsL P E n ops l ⟨s.slots, ins k (.frow T size es) s.own⟩ Q) : OpsL P E n ops l s Q := fun a w hr => h a w (hr.toF k hk)
theorem OpsL.unF {l : List Oper} {Q : Post} (k : Nat) {T : TypeId} {size : Nat} {es : List (List CP)} (hk : lk s.own k = some (.frow T size es)) (h : OpsL P E n ops l ⟨s.slots, ins k (.row T size es) s.own⟩ Q) : OpsL P E n ops l s Q := fun a w hr => h a w (hr.unF k hk)
theorem Tri.unF {cd : Code} {Q : Post} (k : Nat) {T : TypeId} {size : Nat} {es : List (List CP)} (hk : lk s.own k = some (.frow T size es)) (h : Tri P E n cd ⟨s.slots, ins k (.row T size es) s.own⟩ Q) : Tri P E n cd s Q := fun a w hr => h a w (hr.unF k hk)
theorem Tri.toF {cd : Code} {Q : Post} (k : Nat) {T : TypeId} {size : Nat} {es : List (List CP)} (hk : lk s.own k = some (.row T size es)) (h : Tri P E n cd ⟨s.slots, ins k (.frow T size es) s.own⟩ Q) : Tri P E n cd s Q := fun a w hr => h a w (hr.toF k hk)
theorem Fin.toF {e : Exit} {Q : Post} (k : Nat) {T : TypeId} {size : Nat} {es : List (List CP)} (hk : lk s.own k = some (.row T size es)) (h : Fin E n e ⟨s.slots, ins k (.frow T size es) s.own⟩ Q) : Fin E n e s Q := fun a w hr => h a w (hr.toF k hk)
theorem Fin.unF {e : Exit} {Q : Post} (k : Nat) {T : TypeId} {size : Nat} {es : List (List CP)} (hk : lk s.own k = some (.frow T size es)) (h : Fin E n e ⟨s.slots, ins k (.row T size es) s.own⟩ Q) : Fin E n e s Q := fun a w hr => h a w (hr.unF k hk)
theorem Step1.toF (k : Nat) {T : TypeId} {size : Nat} {es : List (List CP)} (hk : lk s.own k = some (.row T size es)) (h : Step1 P E n ops o ⟨s.slots, ins k (.frow T size es) s.own⟩ s2) : Step1 P E n ops o s s2 := fun a w hr => h a w (hr.toF k hk)
theorem Step1.unF (k : Nat) {T : TypeId} {size : Nat} {es : List (List CP)} (hk : lk s.own k = some (.frow T size es)) (h : Step1 P E n ops o ⟨s.slots, ins k (.row T size es) s.own⟩ s2) : Step1 P E n ops o s s2 := fun a w hr => h a w (hr.unF k hk)
/-- a cell of a table -/
theorem op_index_g {e : TypeId} {m size gb : Nat} {k : IntKind} {i : Int} {p : CP} {cs : List Value} {v : Value} (ht : TyArr P t e m 1) (h0 : 0 ≤ i) (h1 : i < m) (hm : (gb, cs) ∈ TB) (hc : cs[i.toNat]? = some v) (hp : ∀ h, p.rel h v) (hy : s.ev y = some (.b (.one (.int k i)))) :
    Op1 P E n ⟨dst, .indexAddr t (.global gb) y, ty, pos, after, g⟩ s (s.put n dst (.b (.eptr [p]))) :=
  Op1.val (o := ⟨dst, .indexAddr t (.global gb) y, ty, pos, after, g⟩) fun ac w h ρ hw hs => by
    obtain ⟨inf, hi, hsz⟩ := ht.info
    refine ⟨.pointer (some ⟨gb, 0 + i.toNat * 1, none⟩), ?_, gb, _, rfl, fun j c hj => ?_⟩
    · have : ac.eval (.global gb) = .pointer (some ⟨gb, 0, none⟩) := rfl
      simp only [execOp, this, (ev_int hs hy).1]
      simp only [Sem.run_bind, run_indexAt_arr ht.und hi hsz w gb 0 k i h0 h1]
      rfl
    · cases j with
      | zero =>
        simp at hj; subst hj
        have := (hw.tabs gb cs hm).2.1 i.toNat v hc
        exact ⟨v, by rw [Nat.zero_add, Nat.mul_one, Nat.add_zero]; exact this, hp h⟩
      | succ j => simp at hj
end

/-! ## library functions -/
theorem Meets.lib {P : Program} {TB : Tabs} {f : FuncId} {args : List BV} {res : BV}
    (H : ∀ (w : World) (h : PH) (ρ : RM) (vals : List Value), TabsOk TB h w → Agree h w → All2 (fun (x : BV) v => x.rel h ρ v) args vals → Calls P f vals.toArray w fun e w' => ∃ v, e = .returned v ∧ Below w.heap.size w w' ∧ res.rel h ρ v) : Meets P TB f [] args (Is [] (.b res)) := by
  intro w h ρ vals tb hag hl ha
  refine (H w h ρ vals tb hag ha).mono ?_
  rintro e w' ⟨v, rfl, hb, hr⟩
  refine ⟨v, [], .b res, h, ρ, rfl, ⟨rfl, rfl⟩, ⟨fun b o u hu => ?_, PH.le_refl _, fun _ _ _ => rfl, hb.size, fun b hb' _ => hb.block b hb', fun k hk => by simp [boxKeys] at hk, hb.os, hb.output, fun b hb' => ?_, fun k c hk => by simp at hk⟩, hr⟩
  · have hc := hag b o u hu
    have hlt : b < w.heap.size := lt_of_cell hc
    rw [cell_of_heap (hb.block b hlt)]; exact hc
  · obtain ⟨k, hk, _⟩ := hb'
    simp [keysOf] at hk
theorem all2_one {r : BV → Value → Prop} {a : BV} {vals : List Value} (h : All2 r [a] vals) : ∃ v, vals = [v] ∧ r a v := by
  cases h with
  | cons h1 h2 => cases h2; exact ⟨_, rfl, h1⟩
theorem all2_two {r : BV → Value → Prop} {a b : BV} {vals : List Value} (h : All2 r [a, b] vals) : ∃ v u, vals = [v, u] ∧ r a v ∧ r b u := by
  cases h with
  | cons h1 h2 =>
    obtain ⟨u, rfl, hu⟩ := all2_one h2
    exact ⟨_, u, rfl, h1, hu⟩

/-! ## parts of slices that are only read -/
section
variable {P : Program} {TB : Tabs} {E : Env TB} {n : Sh} {s : St} {dst : Option Nat} {t ty yt : TypeId} {pos : String} {after : Array Edge} {g : Option (Nat × Bool)} {x y c : Operand}
theorem sl_part {h : PH} {size : Nat} {es fs : List (List CP)} {a : Option Addr} {b o c lo len cap : Nat} (hz : 0 < size) (hu : Uniform size es) (hr : Reads h b o es.flatten) (hc : es.length ≤ c) (hm : c ≤ maxLen) (hfs : fs = (es.take (lo + len)).drop lo) (hl : lo + len ≤ es.length) (hcap : cap = c - lo) (ha : a = if c = lo then some ⟨b, o, none⟩ else some ⟨b, o + lo * size, none⟩) :
    (CP.sl size fs).rel h (.slice a len cap) := by
  have hfl : fs.length = len := by rw [hfs]; simp; omega
  have huf : Uniform size fs := fun ps hp => hu ps (by rw [hfs] at hp; exact List.mem_of_mem_take (List.mem_of_mem_drop hp))
  refine ⟨huf, hz, ?_⟩
  subst ha hcap
  by_cases e : c = lo
  · rw [if_pos e]
    have h0 : len = 0 := by omega
    have hn : fs = [] := List.eq_nil_of_length_eq_zero (by omega)
    exact .inr ⟨b, o, c - lo, by rw [hfl], by omega, by omega, fun j q hq => by rw [hn] at hq; simp at hq⟩
  · rw [if_neg e]
    refine .inr ⟨b, o + lo * size, c - lo, by rw [hfl], by omega, by omega, ?_⟩
    have : fs.flatten = (es.flatten.drop (lo * size)).take (len * size) := by
      rw [hfs, drop_flatten (fun ps hp => hu ps (List.mem_of_mem_take hp)), take_flatten hu, List.drop_take]
      congr 1
      rw [Nat.add_mul]; omega
    rw [this]
    intro j q hq
    rw [List.getElem?_take] at hq
    split at hq
    · exact hr.drop (lo * size) j q hq
    · simp at hq
theorem op_slice_l2 {α : Type} {xs z : List α} {enc : α → List CP} {size bytes : Nat} {e : TypeId} {zs : List CP} {yo : Operand} {kk : IntKind} {i : Int} (ht : TySl P t e size bytes zs) (h : drop? xs i = some z) (hx : s.ev x = some (.b (.one (.sl size (xs.map enc))))) (hy : s.ev yo = some (.b (.one (.int kk i)))) :
    Op1 P E n ⟨dst, .slice t x (some yo) none none, ty, pos, after, g⟩ s (s.put n dst (.b (.one (.sl size (z.map enc))))) :=
  Op1.val (o := ⟨dst, .slice t x (some yo) none none, ty, pos, after, g⟩) fun ac w hh ρ hw hs => by
    obtain ⟨h0, h1, rfl⟩ := drop_ok h
    obtain ⟨hu, hz, hv⟩ := (ev_rel hs hx : (CP.sl size (xs.map enc)).rel hh _)
    obtain ⟨inf, zz, hi, hsz, _⟩ := ht.info
    have hel : P.elem t = e := by simp [Program.elem, ht.und]
    have hund : P.underlying t = some (.slice (P.elem t)) := by rw [hel]; exact ht.und
    rcases hv with ⟨hv, he⟩ | ⟨b, o, c, hv, h3, h4, h5⟩
    · have hxs : xs = [] := by simpa using he
      subst hxs
      have hi0 : i = 0 := by simp at h1; omega
      subst hi0
      have hb := run_slice_l (P := P) (w := w) (t := t) (a := none) (len := 0) (cap := 0) hund kk 0 (by decide) (by decide)
      refine ⟨sliced none (Int.toNat 0) 0 0 size, ?_, ?_⟩
      · simp only [execOp, hv, Option.map_some, Option.map_none, (ev_int hs hy).1]
        rw [Sem.run_bind, run_sliceAt_slice w t _ _ _ _ hund, hb, run_sizeOf (i := inf) (by rw [hel]; exact hi), hsz]
        rfl
      · exact ⟨fun ps hps => by simp at hps, hz, .inl ⟨by simp [sliced], by simp⟩⟩
    · have hlen : (xs.map enc).length = xs.length := by simp
      have hb := run_slice_l (P := P) (w := w) (t := t) (a := some ⟨b, o, none⟩) (len := (xs.map enc).length) (cap := c) hund kk i h0 (by rw [hlen]; exact h1)
      refine ⟨sliced (some ⟨b, o, none⟩) i.toNat (xs.map enc).length c size, ?_, ?_⟩
      · simp only [execOp, hv, Option.map_some, Option.map_none, (ev_int hs hy).1]
        rw [Sem.run_bind, run_sliceAt_slice w t _ _ _ _ hund, hb, run_sizeOf (i := inf) (by rw [hel]; exact hi), hsz]
        rfl
      · unfold sliced
        refine sl_part (lo := i.toNat) hz hu h5 h3 h4 ?_ (by rw [hlen]; omega) rfl (by split <;> simp [add_none])
        have : i.toNat + ((xs.map enc).length - i.toNat) = (xs.map enc).length := by rw [hlen]; omega
        rw [this, List.take_length, List.map_drop]
theorem op_slice_h2 {α : Type} {xs z : List α} {enc : α → List CP} {size bytes : Nat} {e : TypeId} {zs : List CP} {yo : Operand} {kk : IntKind} {i : Int} (ht : TySl P t e size bytes zs) (h : take? xs i = some z) (hx : s.ev x = some (.b (.one (.sl size (xs.map enc))))) (hy : s.ev yo = some (.b (.one (.int kk i)))) :
    Op1 P E n ⟨dst, .slice t x none (some yo) none, ty, pos, after, g⟩ s (s.put n dst (.b (.one (.sl size (z.map enc))))) :=
  Op1.val (o := ⟨dst, .slice t x none (some yo) none, ty, pos, after, g⟩) fun ac w hh ρ hw hs => by
    obtain ⟨h0, h1, rfl⟩ := take_ok h
    obtain ⟨hu, hz, hv⟩ := (ev_rel hs hx : (CP.sl size (xs.map enc)).rel hh _)
    obtain ⟨inf, zz, hi, hsz, _⟩ := ht.info
    have hel : P.elem t = e := by simp [Program.elem, ht.und]
    have hund : P.underlying t = some (.slice (P.elem t)) := by rw [hel]; exact ht.und
    rcases hv with ⟨hv, he⟩ | ⟨b, o, c, hv, h3, h4, h5⟩
    · have hxs : xs = [] := by simpa using he
      subst hxs
      have hi0 : i = 0 := by simp at h1; omega
      subst hi0
      have hb := run_slice_h (P := P) (w := w) (t := t) (a := none) (len := 0) (cap := 0) hund kk 0 (by decide) (by decide)
      refine ⟨sliced none 0 (Int.toNat 0) 0 size, ?_, ?_⟩
      · simp only [execOp, hv, Option.map_some, Option.map_none, (ev_int hs hy).1]
        rw [Sem.run_bind, run_sliceAt_slice w t _ _ _ _ hund, hb, run_sizeOf (i := inf) (by rw [hel]; exact hi), hsz]
        rfl
      · exact ⟨fun ps hps => by simp at hps, hz, .inl ⟨by simp [sliced], by simp⟩⟩
    · have hlen : (xs.map enc).length = xs.length := by simp
      have hb := run_slice_h (P := P) (w := w) (t := t) (a := some ⟨b, o, none⟩) (len := (xs.map enc).length) (cap := c) hund kk i h0 (by rw [hlen] at h3; omega)
      refine ⟨sliced (some ⟨b, o, none⟩) 0 i.toNat c size, ?_, ?_⟩
      · simp only [execOp, hv, Option.map_some, Option.map_none, (ev_int hs hy).1]
        rw [Sem.run_bind, run_sliceAt_slice w t _ _ _ _ hund, hb, run_sizeOf (i := inf) (by rw [hel]; exact hi), hsz]
        rfl
      · unfold sliced
        refine sl_part (lo := 0) hz hu h5 h3 h4 ?_ (by rw [hlen]; omega) rfl (by split <;> simp [add_none])
        simp [List.map_take]
theorem op_slice_2 {α : Type} {xs z : List α} {enc : α → List CP} {size bytes : Nat} {e : TypeId} {zs : List CP} {yl yo : Operand} {k1 k2 : IntKind} {i j : Int} (ht : TySl P t e size bytes zs) (h : sub? xs i j = some z) (hx : s.ev x = some (.b (.one (.sl size (xs.map enc))))) (hl : s.ev yl = some (.b (.one (.int k1 i)))) (hy : s.ev yo = some (.b (.one (.int k2 j)))) :
    Op1 P E n ⟨dst, .slice t x (some yl) (some yo) none, ty, pos, after, g⟩ s (s.put n dst (.b (.one (.sl size (z.map enc))))) :=
  Op1.val (o := ⟨dst, .slice t x (some yl) (some yo) none, ty, pos, after, g⟩) fun ac w hh ρ hw hs => by
    obtain ⟨h0, h01, h1, rfl⟩ := sub_ok h
    obtain ⟨hu, hz, hv⟩ := (ev_rel hs hx : (CP.sl size (xs.map enc)).rel hh _)
    obtain ⟨inf, zz, hi, hsz, _⟩ := ht.info
    have hel : P.elem t = e := by simp [Program.elem, ht.und]
    have hund : P.underlying t = some (.slice (P.elem t)) := by rw [hel]; exact ht.und
    rcases hv with ⟨hv, he⟩ | ⟨b, o, c, hv, h3, h4, h5⟩
    · have hxs : xs = [] := by simpa using he
      subst hxs
      have hj0 : j = 0 := by simp at h1; omega
      have hi0 : i = 0 := by omega
      subst hi0 hj0
      have hb := run_slice_lh (P := P) (w := w) (t := t) (a := none) (len := 0) (cap := 0) hund k1 k2 0 0 (by decide) (by decide) (by decide)
      refine ⟨sliced none (Int.toNat 0) (Int.toNat 0) 0 size, ?_, ?_⟩
      · simp only [execOp, hv, Option.map_some, Option.map_none, (ev_int hs hy).1, (ev_int hs hl).1]
        rw [Sem.run_bind, run_sliceAt_slice w t _ _ _ _ hund, hb, run_sizeOf (i := inf) (by rw [hel]; exact hi), hsz]
        rfl
      · exact ⟨fun ps hps => by simp at hps, hz, .inl ⟨by simp [sliced], by simp⟩⟩
    · have hlen : (xs.map enc).length = xs.length := by simp
      have hb := run_slice_lh (P := P) (w := w) (t := t) (a := some ⟨b, o, none⟩) (len := (xs.map enc).length) (cap := c) hund k1 k2 i j h0 h01 (by rw [hlen] at h3; omega)
      refine ⟨sliced (some ⟨b, o, none⟩) i.toNat j.toNat c size, ?_, ?_⟩
      · simp only [execOp, hv, Option.map_some, Option.map_none, (ev_int hs hy).1, (ev_int hs hl).1]
        rw [Sem.run_bind, run_sliceAt_slice w t _ _ _ _ hund, hb, run_sizeOf (i := inf) (by rw [hel]; exact hi), hsz]
        rfl
      · unfold sliced
        refine sl_part (lo := i.toNat) hz hu h5 h3 h4 ?_ (by rw [hlen]; omega) rfl (by split <;> simp [add_none])
        have : i.toNat + (j.toNat - i.toNat) = j.toNat := by omega
        rw [this, List.map_drop, List.map_take]
end
end Go.Sk

/- The framework, part Zd: arguments that hold arrays; tables that a row lists. -/
namespace Go.Sk
set_option linter.unusedSimpArgs false
set_option linter.unusedVariables false
open Go Go.ChangeShapes Go.WideShapes Go.ChangeAt Go.RowKit
theorem TyRead.arr {P : Program} {t el : TypeId} {n : Nat} {k : IntKind} {α : Type} {e : α → List CP} (g : List Int → α) (ht : P.underlying t = some (.array n el)) (hel : P.underlying el = some (.int k)) (hce : P.cellsOf el = 1) (hct : P.cellsOf t = n)
    (hl : ∀ a, (e a).length = n) (hg : ∀ l : List Int, l.length = n → e (g l) = l.map (.int k)) : TyRead P t e where
  len a := by rw [hl, hct]
  op {H enc W sp held fuel cs x} h := by
    obtain ⟨xs, m, _, _, hcl, hxl, hv⟩ := DataW.trod_array ht h
    rw [hct] at hcl
    rw [hce] at hv
    obtain ⟨l, hll, hp⟩ := forall_choose (p := fun i z => cs[i]? = some (.int k z) ∧ inR k z) n fun i hi => by
      have h1 := hv i hi
      rw [List.getElem?_eq_getElem (by omega)] at h1
      obtain ⟨z, hz, _, hw⟩ := DataW.trod_int hel h1
      have h0 : ((cs.drop (i * 1)).take 1)[0]? = some (.int k z) := by rw [hz]; rfl
      rw [List.getElem?_take, List.getElem?_drop] at h0
      simp at h0
      exact ⟨z, h0, inR_of_wf hw⟩
    refine ⟨g l, ?_⟩
    rw [hg l hll]
    refine All2.of_get (by simp; omega) fun i a b ha hb => ?_
    rw [List.getElem?_map] at ha
    simp only [Option.map_eq_some_iff] at ha
    obtain ⟨z, hz, rfl⟩ := ha
    obtain ⟨h1, h2⟩ := hp i z hz
    rw [hb] at h1
    exact ⟨Option.some.inj h1, h2⟩
/-- the ints of an array are in their kind's range -/
theorem ints_of_rel {k : IntKind} {h : PH} {l : List Int} {cs : List Value} (hr : cellsRel h (l.map (.int k)) cs) : ∀ z ∈ l, inR k z := fun z hz => by
  obtain ⟨i, hi, rfl⟩ := List.getElem_of_mem hz
  obtain ⟨u, _, hu⟩ := All2.get hr i (.int k l[i]) (by rw [List.getElem?_map, List.getElem?_eq_getElem hi]; rfl)
  exact hu.2
/-! ## tables -/
theorem TabsOk.nil {h : PH} {w : World} : TabsOk [] h w := fun g cs hm => by cases hm
theorem TabsOk.cons {P : Program} {TB : Tabs} {W : World} {name : String} {k : IntKind} {zs : List Int} {g : Nat} (hg : P.globalNamed name = some g) (h : Lib.TabIs P W name k zs) (h0 : 0 < zs.length) (r : TabsOk TB (Go.Sk.full W) W) : TabsOk ((g, zs.map fun z => Value.int k z) :: TB) (Go.Sk.full W) W := fun g' cs hm => by
  rcases List.mem_cons.1 hm with e | hm
  · obtain ⟨rfl, rfl⟩ := Prod.mk.inj e
    unfold Lib.TabIs World.var? at h
    rw [hg] at h
    simp only [Option.bind_some] at h
    split at h
    · next cs T fz hh =>
      have := Option.some.inj h
      subst this
      refine ⟨by simpa using h0, fun o v hv => ?_, T, fz, hh⟩
      show World.cell? W ⟨g', o, none⟩ = some v
      simp only [World.cell?, hh]
      simpa using hv
    · simp at h
  · exact r g' cs hm
theorem laidMet_tail {P : Program} {W : World} {x : String × DataW Unit} {l : List (String × DataW Unit)} (h : laidMet P (x :: l) W) : laidMet P l W := by
  obtain ⟨ps, ⟨g', t', cs, fuel, p, q, _, _, _, _, hr, rfl⟩, hn, hc⟩ := h
  exact ⟨q, hr, (List.nodup_append.1 hn).2.1, fun b off hp => hc b off (List.mem_append_right _ hp)⟩
end Go.Sk
