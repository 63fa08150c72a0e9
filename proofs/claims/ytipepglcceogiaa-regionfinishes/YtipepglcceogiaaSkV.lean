/- The framework, part V: one element put into a slice (the plain side of slices.Insert). -/
import Derived.Test.YtipepglcceogiaaSkU
namespace Go.Sk
set_option linter.unusedSimpArgs false
set_option linter.unusedVariables false
open Go
def ins1? {α : Type} (s : List α) (i : Int) (v : List α) : Option (List α) :=
  if 0 ≤ i ∧ i ≤ s.length ∧ v.length = 1 ∧ s.length ≤ 999999990 then some (s.take i.toNat ++ v ++ s.drop i.toNat) else none
theorem ins1_ok {α : Type} {s v r : List α} {i : Int} (h : ins1? s i v = some r) : 0 ≤ i ∧ i ≤ s.length ∧ v.length = 1 ∧ s.length ≤ 999999990 ∧ r = s.take i.toNat ++ v ++ s.drop i.toNat := by
  unfold ins1? at h; split at h
  · next hh => exact ⟨hh.1, hh.2.1, hh.2.2.1, hh.2.2.2, (Option.some.inj h).symm⟩
  · simp at h
theorem one_of {α : Type} {v : List α} (h : v.length = 1) : ∃ x, v = [x] := by
  cases v with
  | nil => simp at h
  | cons x l => cases l with
    | nil => exact ⟨x, rfl⟩
    | cons y l => simp at h
theorem ins_grow' {α : Type} (a b : List α) (x z : α) : spliceE (spliceE (a ++ List.replicate (b.length + 1) z) a.length [x]) (a.length + 1) b = a ++ [x] ++ b := by
  have e1 : spliceE (a ++ List.replicate (b.length + 1) z) a.length [x] = (a ++ [x]) ++ List.replicate b.length z := by
    unfold spliceE
    rw [List.take_left', List.drop_append]
    · simp
    · rfl
  rw [e1]
  unfold spliceE
  rw [List.take_left' (by simp), List.drop_append]
  have : (a ++ [x]).length = a.length + 1 := by simp
  rw [this, List.drop_of_length_le (by omega), List.drop_replicate]
  have : b.length - (a.length + 1 + b.length - (a.length + 1)) = 0 := by omega
  rw [this]; simp
theorem ins_place' {α : Type} (a b : List α) (x : α) (hb : 0 < b.length) : spliceE (spliceE (a ++ b) (a.length + 1) b) a.length [x] = a ++ [x] ++ b := by
  cases b with
  | nil => simp at hb
  | cons y b =>
    have e1 : spliceE (a ++ (y :: b)) (a.length + 1) (y :: b) = (a ++ [y]) ++ (y :: b) := by
      unfold spliceE
      have h1 : a ++ y :: b = (a ++ [y]) ++ b := by simp
      rw [h1, List.take_left' (by simp), List.drop_of_length_le (by simp)]
      simp
    rw [e1]
    unfold spliceE
    have h2 : a ++ [y] ++ (y :: b) = a ++ (y :: (y :: b)) := by simp
    rw [h2, List.take_left' rfl, List.drop_append]
    simp
theorem ins_grow {α : Type} {s v : List α} {i : Nat} {z : α} (hi : i < s.length) (hv : v.length = 1) :
    spliceE (spliceE (s.take i ++ List.replicate (s.length + 1 - i) z) i v) (i + 1) ((s.drop i).take (s.length - i)) = s.take i ++ v ++ s.drop i := by
  obtain ⟨x, rfl⟩ := one_of hv
  have h1 : (s.take i).length = i := by simp; omega
  have h2 : (s.drop i).length = s.length - i := by simp
  have := ins_grow' (s.take i) (s.drop i) x z
  rw [h1, h2] at this
  have h3 : (s.drop i).take (s.length - i) = s.drop i := List.take_of_length_le (by omega)
  rw [h3]
  have e : s.length + 1 - i = s.length - i + 1 := by omega
  rw [e]; exact this
theorem ins_place {α : Type} {s v : List α} {i : Nat} (hi : i < s.length) (hv : v.length = 1) :
    spliceE (spliceE s (i + 1) ((s.drop i).take (s.length - i))) i v = s.take i ++ v ++ s.drop i := by
  obtain ⟨x, rfl⟩ := one_of hv
  have h1 : (s.take i).length = i := by simp; omega
  have h2 : (s.drop i).length = s.length - i := by simp
  have := ins_place' (s.take i) (s.drop i) x (by omega)
  rw [h1, List.take_append_drop] at this
  have h3 : (s.drop i).take (s.length - i) = s.drop i := List.take_of_length_le (by omega)
  rw [h3]
  exact this
end Go.Sk
namespace Go.Sk
def slices_Insert_S {α : Type} (_F : Nat) (i : Int) (v s : List α) : Option (List α) := ins1? s i v
end Go.Sk
