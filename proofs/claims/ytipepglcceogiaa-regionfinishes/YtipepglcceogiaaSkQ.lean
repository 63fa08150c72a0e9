/- The framework, part Q: typed forms for parts. -/
import Derived.Test.YtipepglcceogiaaSkP
namespace Go.Sk
set_option linter.unusedSimpArgs false
set_option linter.unusedVariables false
open Go
theorem map_zeros {α : Type} (xs : List α) (e : α → List CP) (p N : Nat) (z : α) : (xs.map e).take p ++ List.replicate N (e z) = (xs.take p ++ List.replicate N z).map e := by
  simp [List.map_take]
theorem map_spliceP {α : Type} (e : α → List CP) (xs ys : List α) (lo a m : Nat) : spliceE (xs.map e) lo (((ys.map e).drop a).take m) = (spliceE xs lo ((ys.drop a).take m)).map e := by
  rw [← map_spliceE, List.map_take, List.map_drop]
section
variable {P : Program} {E : Env} {n : Sh} {s s' : St} {ops : Array Oper} {l : List Oper} {Q : Post}
/-- a part that is all of its row -/
theorem R.partrow {i k size m cap : Nat} {T : TypeId} {es : List (List CP)} {a : Act} {w : World} (hr : R E n s a w) (hi : s.get i = some (.b (.part k size 0 m cap))) (hk : lk s.own k = some (.row T size es)) (hm : m = es.length) : R E n ⟨(i, .b (.row k)) :: del i s.slots, s.own⟩ a w := by
  obtain ⟨h1, h2, h, ρ, hw, hs⟩ := hr
  refine ⟨h1, h2, h, ρ, hw, ?_⟩
  intro j x hx
  cases List.mem_cons.1 hx with
  | inl e =>
    obtain ⟨rfl, rfl⟩ := Prod.mk.inj e
    obtain ⟨v, hv, b, nn, e1, e2, e3⟩ := hs _ _ (lk_mem (show lk s.slots j = some _ from hi))
    obtain ⟨_, _, cap', cur, f1, _⟩ := row_some hw hk e1
    refine ⟨v, hv, ?_⟩
    have hc : cap' = cap := by rw [e1] at f1; simp at f1; exact f1.2.symm
    show v = ρ k
    rw [e2, f1, hm, Nat.zero_mul, Nat.sub_zero, hc]
  | inr e => exact hs j x (mem_del e).1
theorem OpsL.partrow (i k : Nat) {size m cap : Nat} {T : TypeId} {es : List (List CP)} (hi : s.get i = some (.b (.part k size 0 m cap))) (hk : lk s.own k = some (.row T size es)) (hm : m = es.length) (h : OpsL P E n ops l ⟨(i, .b (.row k)) :: del i s.slots, s.own⟩ Q) : OpsL P E n ops l s Q :=
  fun a w hr => h a w (hr.partrow hi hk hm)
theorem Fin.partrow {e : Exit} (i k : Nat) {size m cap : Nat} {T : TypeId} {es : List (List CP)} (hi : s.get i = some (.b (.part k size 0 m cap))) (hk : lk s.own k = some (.row T size es)) (hm : m = es.length) (h : Fin E n e ⟨(i, .b (.row k)) :: del i s.slots, s.own⟩ Q) : Fin E n e s Q :=
  fun a w hr => h a w (hr.partrow hi hk hm)
end
end Go.Sk
