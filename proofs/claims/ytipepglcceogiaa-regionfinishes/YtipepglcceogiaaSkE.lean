/- The framework, part E: new memory, append, parts of slices. -/
import Derived.Test.YtipepglcceogiaaSkD
namespace Go.Sk
set_option linter.unusedSimpArgs false
set_option linter.unusedVariables false
open Go Go.BigFrame

section
variable {P : Program} {E : Env} {n : Sh} {s : St} {dst : Option Nat} {t ty yt : TypeId} {pos : String} {after : Array Edge} {g : Option (Nat × Bool)} {x y c : Operand}

/-- an operation that makes a block, or grows an owned one -/
theorem Op1.make {o : Oper} {k : Nat} {c' : OC} {res : SV} (H : ∀ (a : Act) (w : World) (h : PH) (ρ : RM), WR E n s.own h ρ w → SlotsRel h ρ s.slots a.tmps →
      ∃ v' vk w' row, (execOp a.eval o).run P w = .ok (.value v') w' ∧ (∀ b, row = some b → ∃ c, (k, c) ∈ s.own ∧ blkOf (ρ k) = some b) ∧ w.heap.size ≤ w'.heap.size ∧ w'.os = w.os ∧ w'.output = w.output ∧
        (∀ b, b < w.heap.size → some b ≠ row → w'.heap[b]? = w.heap[b]?) ∧ c'.ok h (upd ρ k vk) vk w' ∧ (∀ b, blkOf vk = some b → row = some b ∨ w.heap.size ≤ b) ∧ res.rel h (upd ρ k vk) v') (hfx : n.fix.contains k = false) (hnu : noUse k s.own = true := by rfl) :
    Op1 P E n o s ((⟨dropU k s.slots, ins k c' s.own⟩ : St).put n o.dst res) := by
  intro a w ⟨hdf, hn, h, ρ, hw, hs⟩ next Q hnext
  obtain ⟨v', vk, w', row, hv, h1, h2, h3, h4, h5, h6, h7, h8⟩ := H a w h ρ hw hs
  unfold Oper.wp
  rw [hv]
  exact hnext _ _ (R.put (s := ⟨dropU k s.slots, ins k c' s.own⟩) hdf hn (hw.step k vk c' row h1 h2 h3 h4 h5 h6 h7 (.inr fun e => by simp at hfx; exact hfx e) (.inr hnu)) (hs.dropU k vk) h8)

/-! ## boxes -/
theorem op_alloc {T k : Nat} {zs : List CP} (ht : TyZero P T zs) (hfx : n.fix.contains k = false) (hnu : noUse k s.own = true := by rfl) : Op1 P E n ⟨dst, .alloc T, ty, pos, after, g⟩ s ((⟨dropU k s.slots, ins k (.box T zs) s.own⟩ : St).put n dst (.b (.ptr k 0))) :=
  Op1.make (hfx := hfx) (hnu := hnu) (o := ⟨dst, .alloc T, ty, pos, after, g⟩) fun ac w h ρ hw hs => by
    obtain ⟨i, z, hi, hz, hzs⟩ := ht.info
    refine ⟨.pointer (some ⟨w.heap.size, 0, none⟩), .pointer (some ⟨w.heap.size, 0, none⟩), w.alloc (.cells z.cells T), none, ?_, fun b e => by simp at e, by simp, rfl, rfl, fun b hb _ => heap_alloc_old w _ hb, ⟨w.heap.size, z.cells, rfl, heap_alloc_new w _, cvs_rel h hzs⟩,
      fun b e => by simp [blkOf] at e; subst e; exact .inr (Nat.le_refl _), w.heap.size, upd_same _ _ _, rfl⟩
    simp [execOp, Instr.alloc, zeroValue, typeInfo, hi, hz, newVar, newRow]
theorem op_box {T k : Nat} {ps : List CP} (hx : s.ev x = some (.b (.agg ps))) (hfx : n.fix.contains k = false) (hnu : noUse k s.own = true := by rfl) : Op1 P E n ⟨dst, .box T x, ty, pos, after, g⟩ s ((⟨dropU k s.slots, ins k (.box T ps) s.own⟩ : St).put n dst (.b (.ptr k 0))) :=
  Op1.make (hfx := hfx) (hnu := hnu) (o := ⟨dst, .box T x, ty, pos, after, g⟩) fun ac w h ρ hw hs => by
    obtain ⟨cs, hv, hr⟩ := (ev_rel hs hx : BV.rel h ρ (.agg ps) _)
    refine ⟨.pointer (some ⟨w.heap.size, 0, none⟩), .pointer (some ⟨w.heap.size, 0, none⟩), w.alloc (.cells cs T), none, ?_, fun b e => by simp at e, by simp, rfl, rfl, fun b hb _ => heap_alloc_old w _ hb, ⟨w.heap.size, cs, rfl, heap_alloc_new w _, hr⟩,
      fun b e => by simp [blkOf] at e; subst e; exact .inr (Nat.le_refl _), w.heap.size, upd_same _ _ _, rfl⟩
    simp only [execOp, hv]
    simp [Instr.box, newVar, newRow, Value.cells]
theorem op_box1 {T k : Nat} {p : CP} (hx : s.ev x = some (.b (.one p))) (hfx : n.fix.contains k = false) (hnu : noUse k s.own = true := by rfl) : Op1 P E n ⟨dst, .box T x, ty, pos, after, g⟩ s ((⟨dropU k s.slots, ins k (.box T [p]) s.own⟩ : St).put n dst (.b (.ptr k 0))) :=
  Op1.make (hfx := hfx) (hnu := hnu) (o := ⟨dst, .box T x, ty, pos, after, g⟩) fun ac w h ρ hw hs => by
    have hr : p.rel h (ac.eval x) := ev_rel hs hx
    have h1 := p.one hr
    have hcells : (ac.eval x).cells = #[ac.eval x] := by cases hq : ac.eval x <;> first | rfl | (rw [hq] at h1; simp [Value.oneCell'] at h1)
    refine ⟨.pointer (some ⟨w.heap.size, 0, none⟩), .pointer (some ⟨w.heap.size, 0, none⟩), w.alloc (.cells #[ac.eval x] T), none, ?_, fun b e => by simp at e, by simp, rfl, rfl, fun b hb _ => heap_alloc_old w _ hb, ⟨w.heap.size, #[ac.eval x], rfl, heap_alloc_new w _, .cons hr .nil⟩,
      fun b e => by simp [blkOf] at e; subst e; exact .inr (Nat.le_refl _), w.heap.size, upd_same _ _ _, rfl⟩
    simp only [execOp]
    simp [Instr.box, newVar, newRow, hcells]

/-! ## what is built -/
def SV.cells : SV → Option (List CP)
  | .b (.one p) => some [p]
  | .b (.agg ps) => some ps
  | _ => none
theorem SV.cells_rel {h : PH} {ρ : RM} {z : SV} {ps : List CP} {v : Value} (hz : z.cells = some ps) (hv : z.rel h ρ v) : cellsRel h ps v.cells.toList := by
  cases z with
  | b z => cases z with
    | one p =>
      simp [SV.cells] at hz; subst hz
      have h1 := p.one (hv : p.rel h v)
      have hcells : v.cells = #[v] := by cases v <;> first | rfl | simp [Value.oneCell'] at h1
      rw [hcells]; exact .cons hv .nil
    | agg qs => simp [SV.cells] at hz; subst hz; obtain ⟨cs, rfl, hr⟩ := hv; exact hr
    | _ => simp [SV.cells] at hz
  | _ => simp [SV.cells] at hz
def evParts (s : St) : List (Nat × Operand) → Option (List (Nat × List CP))
  | [] => some []
  | (i, x) :: l => (s.ev x).bind fun z => z.cells.bind fun ps => (evParts s l).map fun r => (i, ps) :: r
def cfill (place : Nat → Option (Nat × Nat)) (zs : List CP) : List (Nat × List CP) → Option (List CP)
  | [] => some zs
  | (i, qs) :: r => (place i).bind fun q => if qs.length = q.2 ∧ q.1 + qs.length ≤ zs.length then cfill place (splice zs q.1 qs) r else none
theorem fold_set (off : Nat) : ∀ (l : List Value) (k : Nat) (cs : Array Value), off + k + l.length ≤ cs.size →
    ((l.zipIdx k).foldl (fun (cs : Array Value) (p : Value × Nat) => cs.setIfInBounds (off + p.2) p.1) cs).toList = splice cs.toList (off + k) l
  | [], k, cs, _ => by simp [splice]
  | v :: l, k, cs, h => by
    simp only [List.length_cons] at h
    rw [List.zipIdx_cons, List.foldl_cons, fold_set off l (k + 1) _ (by simp; omega)]
    apply List.ext_getElem?
    intro i
    have hc : cs.toList.length = cs.size := by simp
    simp only [splice, Array.toList_setIfInBounds]
    by_cases h1 : i < off + k
    · rw [List.append_assoc, List.append_assoc, List.getElem?_append_left (by simp; omega), List.getElem?_append_left (by simp; omega)]
      rw [List.getElem?_take, List.getElem?_take, List.getElem?_set]
      simp [h1, show i < off + (k + 1) by omega, show ¬ off + k = i by omega]
    · by_cases h2 : i < off + k + (l.length + 1)
      · have e1 : (List.take (off + k) cs.toList ++ v :: l ++ List.drop (off + k + (v :: l).length) cs.toList)[i]? = (v :: l)[i - (off + k)]? := by
          rw [List.append_assoc, List.getElem?_append_right (by simp; omega), List.getElem?_append_left (by simp; omega)]
          congr 1
          simp; omega
        rw [e1]
        by_cases h3 : i = off + k
        · subst h3
          rw [List.append_assoc, List.getElem?_append_left (by simp; omega), List.getElem?_take, List.getElem?_set]
          simp [show off + k < off + (k + 1) by omega, show off + k < cs.size by omega]
        · rw [List.append_assoc, List.getElem?_append_right (by simp; omega), List.getElem?_append_left (by simp; omega)]
          have e2 : i - (off + k) = (i - (off + k) - 1) + 1 := by omega
          rw [e2, List.getElem?_cons_succ]
          congr 1
          simp; omega
      · rw [List.append_assoc, List.getElem?_append_right (by simp; omega), List.getElem?_append_right (by simp; omega)]
        rw [List.append_assoc, List.getElem?_append_right (by simp; omega), List.getElem?_append_right (by simp; omega)]
        simp only [List.getElem?_drop, List.getElem?_set, List.length_take, List.length_set, List.length_cons, hc]
        rw [if_neg (by omega)]
        congr 1
        omega
theorem fill_rel {h : PH} {ρ : RM} {ac : Act} (hs : SlotsRel h ρ s.slots ac.tmps) (place : Nat → Option (Nat × Nat)) : ∀ (parts : List (Nat × Operand)) (cps : List (Nat × List CP)) (zs qs : List CP) (zc : Array Value),
    evParts s parts = some cps → cfill place zs cps = some qs → cellsRel h zs zc.toList → ∃ cs, Instr.fill place zc (parts.map fun p => (p.1, ac.eval p.2)) = some cs ∧ cellsRel h qs cs.toList
  | [], cps, zs, qs, zc, he, hf, hz => by
    simp [evParts] at he; subst he
    simp [cfill] at hf; subst hf
    exact ⟨zc, rfl, hz⟩
  | (i, x) :: l, cps, zs, qs, zc, he, hf, hz => by
    unfold evParts at he
    simp only [Option.bind_eq_some_iff, Option.map_eq_some_iff] at he
    obtain ⟨z, hz1, ps, hps, r, hr, rfl⟩ := he
    unfold cfill at hf
    simp only [Option.bind_eq_some_iff] at hf
    obtain ⟨⟨off, size⟩, hpl, hf⟩ := hf
    split at hf
    · rename_i hc
      obtain ⟨hc1, hc2⟩ := hc
      have hrel := SV.cells_rel hps (ev_rel hs hz1)
      have hl := hrel.length
      have hzl := hz.length
      simp only [Array.length_toList] at hl hzl
      dsimp only at hc1 hc2 hf
      have hsp : ((ac.eval x).cells.zipIdx.foldl (fun cs (p : Value × Nat) => cs.setIfInBounds (off + p.2) p.1) zc).toList = splice zc.toList off (ac.eval x).cells.toList := by
        have := fold_set off (ac.eval x).cells.toList 0 zc (by simp; omega)
        rw [Nat.add_zero] at this
        rw [← this, ← Array.foldl_toList]
        congr 2
        simp
      obtain ⟨cs, h1, h2⟩ := fill_rel hs place l r (splice zs off ps) qs _ hr hf (by rw [hsp]; exact All2.splice hz hrel off)
      refine ⟨cs, ?_, h2⟩
      simp only [List.map_cons, Instr.fill, hpl]
      rw [if_neg (by simp; omega)]
      exact h1
    · simp at hf
structure TyBuild (P : Program) (t : TypeId) (pl : List (Nat × Nat)) (zs : List CP) : Prop where
  info : ∃ it z fs, P.info? t = some it ∧ it.zero = some z ∧ cvs z.cells.toList = some zs ∧ P.underlying t = some (.struct fs) ∧ fs.toList.mapM (fun f => (P.info? f.type).map fun i => (f.offset, i.size)) = some pl
theorem op_build {pl : List (Nat × Nat)} {zs qs : List CP} {parts : Array (Nat × Operand)} {cps : List (Nat × List CP)} (ht : TyBuild P t pl zs) (hp : evParts s parts.toList = some cps) (hf : cfill (pl.toArray[·]?) zs cps = some qs) :
    Op1 P E n ⟨dst, .build t parts, ty, pos, after, g⟩ s (s.put n dst (.b (.agg qs))) :=
  Op1.val (o := ⟨dst, .build t parts, ty, pos, after, g⟩) fun ac w h ρ hw hs => by
    obtain ⟨it, z, fs, h1, h2, h3, h4, h5⟩ := ht.info
    obtain ⟨cs, hc1, hc2⟩ := fill_rel hs (pl.toArray[·]?) parts.toList cps zs qs z.cells hp hf (cvs_rel h h3)
    refine ⟨.agg cs, ?_, cs, rfl, hc2⟩
    have hb : P.built t (parts.map fun (i, x) => (i, ac.eval x)).toList = some cs := by
      simp only [Program.built, h1, h4, h2, h5]
      rw [← hc1]
      simp
    have := run_build (P := P) w t _ cs hb
    simp only [execOp]
    simp [this]
theorem zeros_rel {h : PH} {zs : List CP} {zc : List Value} (hz : cellsRel h zs zc) (hp : 0 < zs.length) (m : Nat) :
    cellsRel h ((List.range m).map fun i => zs.getD (i % zs.length) .any) ((List.range m).map fun i => zc[i % zc.length]!) := by
  refine All2.of_get (by simp) fun i a b ha hb => ?_
  simp only [List.getElem?_map, Option.map_eq_some_iff] at ha hb
  obtain ⟨j, hj, rfl⟩ := ha
  obtain ⟨j', hj', rfl⟩ := hb
  rw [hj] at hj'; cases hj'
  have hlt : j % zs.length < zs.length := Nat.mod_lt _ hp
  obtain ⟨u, hu, hr⟩ := hz.get (j % zs.length) zs[j % zs.length] (List.getElem?_eq_getElem hlt)
  rw [hz.length] at hu
  have e1 : zs.getD (j % zs.length) .any = zs[j % zs.length] := by simp [List.getD, List.getElem?_eq_getElem hlt]
  have e2 : zc[j % zc.length]! = u := by rw [List.getElem!_eq_getElem?_getD]; simp [hu]
  rw [e1, e2]; exact hr
/-- a literal slice -/
theorem op_buildSlice {e k len size bytes : Nat} {zs : List CP} {es : List (List CP)} {parts : Array (Nat × Operand)} {cps : List (Nat × List CP)} (ht : TySl P t e size bytes zs) (hp : evParts s parts.toList = some cps)
    (hf : cfill (fun i => some (i * size, size)) ((List.range (len * size)).map fun i => zs.getD (i % size) .any) cps = some es.flatten) (hu : Uniform size es) (hl : es.length = len) (h0 : 0 < len * size) (h24 : len * size ≤ 16777216) (hfx : n.fix.contains k = false) (hnu : noUse k s.own = true := by rfl) :
    Op1 P E n ⟨dst, .buildSlice t len parts, ty, pos, after, g⟩ s ((⟨dropU k s.slots, ins k (.row e size es) s.own⟩ : St).put n dst (.b (.row k))) :=
  Op1.make (hfx := hfx) (hnu := hnu) (o := ⟨dst, .buildSlice t len parts, ty, pos, after, g⟩) fun ac w h ρ hw hs => by
    obtain ⟨i, z, h1, h2, h3, h4, h5, h6, h7⟩ := ht.info
    have hzr := cvs_rel h h7
    have hzl : zs.length = size := by rw [hzr.length]; simpa using h5
    have hzeros := zeros_rel hzr (by omega) (len * size)
    rw [hzl] at hzeros
    have hzc : ((Array.range (len * size)).map (z.cells[· % z.cells.size]!)).toList = (List.range (len * size)).map fun i => z.cells.toList[i % z.cells.toList.length]! := by
      rw [Array.toList_map, Array.toList_range]
      refine List.map_congr_left fun j _ => ?_
      rw [List.getElem!_eq_getElem?_getD, Array.getElem!_eq_getD]
      simp [Array.getD_eq_getD_getElem?]
    obtain ⟨cs, hc1, hc2⟩ := fill_rel hs (fun i => some (i * size, size)) parts.toList cps _ es.flatten ((Array.range (len * size)).map (z.cells[· % z.cells.size]!)) hp hf (by rw [hzc]; exact hzeros)
    have hcl : cs.size = len * size := by have := hc2.length; rw [flatten_len hu, hl] at this; simpa using this.symm
    refine ⟨.slice (some ⟨w.heap.size, 0, none⟩) len len, .slice (some ⟨w.heap.size, 0, none⟩) len len, w.alloc (.cells cs e), none, ?_, fun b e => by simp at e, by simp, rfl, rfl, fun b hb _ => heap_alloc_old w _ hb, ?_,
      fun b e => by simp [blkOf] at e; subst e; exact .inr (Nat.le_refl _), (upd_same _ _ _).symm⟩
    · have hne : ¬ len * size = 0 := by omega
      have hmap : (parts.map fun x => (x.1, ac.eval x.2)).toList = parts.toList.map fun p => (p.1, ac.eval p.2) := by simp
      simp only [execOp]
      have hrun : (Instr.buildSlice t len (parts.map fun (i, x) => (i, ac.eval x))).run P w = .ok (.slice (some ⟨w.heap.size, 0, none⟩) len len) (w.alloc (.cells cs e)) := by
        unfold Instr.buildSlice
        rw [Sem.run_bind, run_underlying ht.und, Result.andThen]
        simp only [Sem.run_bind, run_sizeOf h1, h2, Result.andThen_ok]
        rw [if_neg (by omega), if_neg hne]
        simp [zeroValue, typeInfo, h1, h4, hc1, newRow]
      simp [hrun]
    · refine ⟨hu, h6, cs.toList, ⟨by simp [hcl, hl], .inr ⟨w.heap.size, len, cs, by rw [hl], Nat.zero_le _, heap_alloc_new w _, by omega, ?_, hcl, ?_⟩⟩, hc2⟩
      · have : len ≤ len * size := Nat.le_mul_of_pos_right _ h6
        rw [maxLen_eq]; omega
      · rw [List.take_of_length_le]
        simp [hcl, hl]
end
end Go.Sk
