/- The framework, part O: append of a make onto a part; overlaps. -/
import Derived.Test.YtipepglcceogiaaSkN
import Derived.Lib.AppendZerosOnto
import Derived.Lib.Overlaps
namespace Go.Sk
set_option linter.unusedSimpArgs false
set_option linter.unusedVariables false
open Go Go.BigFrame
section
variable {P : Program} {E : Env} {n : Sh} {s s' : St} {dst : Option Nat} {t ty yt : TypeId} {pos : String} {after : Array Edge} {g : Option (Nat × Bool)} {x y c : Operand} {ops : Array Oper} {l : List Oper} {Q : Post} {cd : Code}
theorem uni_rep {size N : Nat} {zs : List CP} (h : zs.length = size) : Uniform size (List.replicate N zs) := fun ps hp => by rw [List.eq_of_mem_replicate hp]; exact h
theorem zeroCells_rel {h : PH} {zs : List CP} {z : Array Value} {size N : Nat} (hz : z.size = size) (hpos : 0 < size) (hr : cellsRel h zs z.toList) : cellsRel h (List.replicate N zs).flatten (Builtin.zeroCells z N).toList := by
  have hzl : zs.length = size := by rw [hr.length]; simpa using hz
  have hu := uni_rep (N := N) hzl
  refine All2.of_get ?_ fun j cp v h1 h2 => ?_
  · rw [flatten_len hu]; simp [Builtin.zeroCells, hz]
  · have hj : j < N * size := by
      have := (List.getElem?_eq_some_iff.1 h1).1
      rw [flatten_len hu, List.length_replicate] at this
      exact this
    have hdiv : j / size < N := by rw [Nat.div_lt_iff_lt_mul hpos]; exact hj
    have hmod : j % size < size := Nat.mod_lt _ hpos
    have e : j / size * size + j % size = j := by rw [Nat.mul_comm]; exact Nat.div_add_mod j size
    have hg := flatten_get hu (j / size) zs (by rw [List.getElem?_replicate, if_pos hdiv]) (j % size) hmod
    rw [e, h1] at hg
    obtain ⟨u, hu1, hu2⟩ := All2.get hr _ _ hg.symm
    have hv : v = z[j % size]! := by
      simp only [Builtin.zeroCells, Array.toList_map, List.getElem?_map, hz] at h2
      rw [Option.map_eq_some_iff] at h2
      obtain ⟨i, hi, rfl⟩ := h2
      have : i = j := by
        simp at hi
        rw [List.getElem?_range hj] at hi
        simpa using hi.symm
      rw [this]
    rw [hv]
    have hms : j % size < z.size := by omega
    have hu1' : z[j % size] = u := by
      have := hu1
      simp only [Array.getElem?_toList] at this
      rw [Array.getElem?_eq_getElem hms] at this
      exact Option.some.inj this
    rw [getElem!_pos z _ hms, hu1']
    exact hu2
theorem op_append_zeros {k k2 size bytes p cap N : Nat} {T e : TypeId} {zs : List CP} {es es' : List (List CP)} {a : Int} {kn : IntKind} (ht : TySl P t e size bytes zs) (htn : P.underlying yt = some (.int kn)) (hN : 0 < N) (hg : cap < p + N) (hb : (p + N) * bytes ≤ 140737488355328) (hm : p + N ≤ 9223372036854775807)
    (hp : p ≤ es.length) (ha : a = (N : Int)) (he : es.take p ++ List.replicate N zs = es') (hx : s.ev x = some (.b (.part k size 0 p cap))) (hk : lk s.own k = some (.row T size es)) (hy : s.ev y = some (I a)) (hfx : n.fix.contains k2 = false) (hnu : noUse k2 s.own = true := by rfl) :
    Op1 P E n ⟨dst, .call ⟨.builtin .append, #[x, y], #[t, yt]⟩, ty, pos, after, g⟩ s ((⟨dropU k2 s.slots, ins k2 (.row e size es') s.own⟩ : St).put n dst (.b (.row k2))) :=
  Op1.make (hfx := hfx) (hnu := hnu) (o := ⟨dst, .call ⟨.builtin .append, #[x, y], #[t, yt]⟩, ty, pos, after, g⟩) fun ac w h ρ hw hs => by
    obtain ⟨b, nn, hρ, hv, hle⟩ := (ev_rel hs hx : BV.rel h ρ (.part k size 0 p cap) _)
    obtain ⟨hu, hz, cap', cur, h1, h2, h3, h4, h5, h6⟩ := row_some hw hk hρ
    obtain ⟨inf, z, hi, hsz, hby, hz0, hzs, _, hcv⟩ := ht.info
    have hyv := (ev_int hs hy).1
    subst ha
    have hcs : ((cur.toList.take (es.length * size)).take (p * size)).length = p * inf.size := by
      rw [hsz]
      have : p * size ≤ es.length * size := Nat.mul_le_mul_right _ hp
      have : es.length * size ≤ cap' * size := Nat.mul_le_mul_right _ h3
      simp; omega
    have hold := run_firstCells_some (P := P) w.drew inf.size p ⟨b, 0, none⟩ p cap _ hcs (fun j v hj => by
      rw [add_none, Nat.zero_add]
      rw [List.getElem?_take] at hj
      split at hj
      · rw [List.getElem?_take] at hj
        split at hj
        · have := cell_row (w := w) h2 (o := j)
          rw [show w.drew.cell? ⟨b, j, none⟩ = w.cell? ⟨b, j, none⟩ from rfl, this]
          simpa using hj
        · simp at hj
      · simp at hj)
    have hrun := Lib.run_append_grow_zeros w t yt ty e inf z .i64 kn ht.und htn hi hz0 (some ⟨b, 0, none⟩) p cap _ hold N hN (by omega) hg (by omega) (by rw [hby]; have : N * bytes ≤ (p + N) * bytes := Nat.mul_le_mul_right _ (by omega); omega) (growslice_fits hg (by rw [hby]; exact hb))
    have hge := grownCap_ge w (p + N) cap e
    have hmx := grownCap_le_maxLen w (p + N) cap e (by rw [maxLen_eq]; omega)
    subst he
    have hlen : (es.take p ++ List.replicate N zs).length = p + N := by simp; omega
    have hold1 : cellsRel h (es.take p).flatten ((cur.toList.take (es.length * size)).take (p * size)) := by
      rw [take_flatten hu]; exact All2.take h6 _
    have hzr : cellsRel h (List.replicate N zs).flatten (Builtin.zeroCells z.cells N).toList := zeroCells_rel hzs hz (cvs_rel h hcv)
    have hzl : zs.length = size := by rw [(cvs_rel h hcv).length]; simpa using hzs
    have hrel : cellsRel h (es.take p ++ List.replicate N zs).flatten ((cur.toList.take (es.length * size)).take (p * size) ++ (Builtin.zeroCells z.cells N).toList) := by
      rw [List.flatten_append]; exact All2.append hold1 hzr
    have hrl : ((cur.toList.take (es.length * size)).take (p * size) ++ (Builtin.zeroCells z.cells N).toList).length = (p + N) * size := by
      rw [List.length_append, hcs, hsz]; simp [Builtin.zeroCells, hzs, Nat.add_mul]
    have hun : Uniform size (es.take p ++ List.replicate N zs) := fun ps hps => by
      rcases List.mem_append.1 hps with h | h
      · exact hu ps (List.mem_of_mem_take h)
      · exact uni_rep hzl ps h
    obtain ⟨ROW, hROW⟩ : ∃ R, R = ((cur.toList.take (es.length * size)).take (p * size)).toArray ++ Builtin.zeroCells z.cells N ++ Builtin.zeroCells z.cells (grownCap w (p + N) cap e - (p + N)) := ⟨_, rfl⟩
    rw [← hROW] at hrun
    refine ⟨.slice (some ⟨w.heap.size, 0, none⟩) (p + N) (grownCap w (p + N) cap e), .slice (some ⟨w.heap.size, 0, none⟩) (p + N) (grownCap w (p + N) cap e), w.drew.alloc (.cells ROW e), none, ?_, fun b e => by simp at e, ?_, ?_, ?_, ?_,
      ⟨hun, hz, _, ⟨by rw [hlen]; exact hrl, .inr ⟨w.heap.size, grownCap w (p + N) cap e, ROW, by rw [hlen], Nat.zero_le _, heap_alloc_new w.drew _, by rw [hlen]; exact hge, hmx, ?_, ?_⟩⟩, hrel⟩, ?_, (upd_same _ _ _).symm⟩
    · rw [execOp_builtin, builtin_append]
      simp only [List.map_toArray, List.map_cons, List.map_nil, hv, hyv, Nat.zero_mul, Nat.sub_zero]
      rw [Sem.run_bind, hrun]; rfl
    · simp
    · rfl
    · rfl
    · intro b' hb' _; exact heap_alloc_old w.drew _ hb'
    · have h7 : ROW.toList.length = grownCap w (p + N) cap e * size := by
        rw [hROW, Array.toList_append, List.length_append, Array.toList_append, List.toList_toArray, hrl]
        simp only [Builtin.zeroCells, Array.toList_map, List.length_map, Array.length_toList, Array.size_range, hzs]
        rw [← Nat.add_mul]; congr 1; omega
      simpa using h7
    · rw [hlen, hROW]
      simp only [Array.toList_append, List.toList_toArray]
      rw [List.take_append_of_le_length (by rw [hrl]; exact Nat.le_refl _), List.take_of_length_le (by rw [hrl]; exact Nat.le_refl _)]
    · intro b' hb'; simp [blkOf] at hb'; exact .inr (by omega)
end
end Go.Sk
