/- The framework, part K: min, max; nil as an argument. -/
import Derived.Test.YtipepglcceogiaaSkJ
namespace Go.Sk
set_option linter.unusedSimpArgs false
set_option linter.unusedVariables false
open Go Go.BigFrame
section
variable {P : Program} {E : Env} {n : Sh} {s : St} {dst : Option Nat} {t ty yt : TypeId} {pos : String} {after : Array Edge} {g : Option (Nat × Bool)} {x y c : Operand} {k : IntKind} {a b : Int} {ats : Array TypeId}
theorem op_min (hx : s.ev x = some (.b (.one (.int k a)))) (hy : s.ev y = some (.b (.one (.int k b)))) :
    Op1 P E n ⟨dst, .call ⟨.builtin .min, #[x, y], ats⟩, ty, pos, after, g⟩ s (s.put n dst (.b (.one (.int k (min a b))))) :=
  Op1.val (o := ⟨dst, .call ⟨.builtin .min, #[x, y], ats⟩, ty, pos, after, g⟩) fun ac w h ρ hw hs => by
    have h1 := ev_int hs hx
    have h2 := ev_int hs hy
    refine ⟨.int k (min a b), ?_, rfl, ?_⟩
    · rw [execOp_builtin]
      show Sem.run _ _ _ = _
      simp only [builtin, Builtin.min_, List.map_toArray, List.map_cons, List.map_nil, h1.1, h2.1, List.foldlM_cons, List.foldlM_nil, Builtin.min2]
      have : (if b < a then b else a) = min a b := by rw [Int.min_def]; split <;> split <;> omega
      rw [this]; rfl
    · rw [Int.min_def]; split
      · exact h1.2
      · exact h2.2
theorem op_max (hx : s.ev x = some (.b (.one (.int k a)))) (hy : s.ev y = some (.b (.one (.int k b)))) :
    Op1 P E n ⟨dst, .call ⟨.builtin .max, #[x, y], ats⟩, ty, pos, after, g⟩ s (s.put n dst (.b (.one (.int k (max a b))))) :=
  Op1.val (o := ⟨dst, .call ⟨.builtin .max, #[x, y], ats⟩, ty, pos, after, g⟩) fun ac w h ρ hw hs => by
    have h1 := ev_int hs hx
    have h2 := ev_int hs hy
    refine ⟨.int k (max a b), ?_, rfl, ?_⟩
    · rw [execOp_builtin]
      show Sem.run _ _ _ = _
      simp only [builtin, Builtin.max_, List.map_toArray, List.map_cons, List.map_nil, h1.1, h2.1, List.foldlM_cons, List.foldlM_nil, Builtin.max2]
      have : (if b > a then b else a) = max a b := by rw [Int.max_def]; split <;> split <;> omega
      rw [this]; rfl
    · rw [Int.max_def]; split
      · exact h2.2
      · exact h1.2
/-- nil where a slice that is only read is wanted -/
theorem Meets.nil0 {f : FuncId} {own : List (Nat × OC)} {as : List BV} {post : SPost} {size : Nat} (hz : 0 < size) (h : Meets P f own (.one (.sl size []) :: as) post) : Meets P f own (.one .nil :: as) post := by
  intro w hh ρ vals hag hl hargs
  refine h w hh ρ vals hag hl ?_
  cases hargs with
  | cons h1 h2 => exact .cons ⟨fun ps hps => by simp at hps, hz, .inl ⟨h1.1, rfl⟩⟩ h2
end
end Go.Sk
