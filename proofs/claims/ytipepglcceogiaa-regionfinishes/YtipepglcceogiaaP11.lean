/- the plain law -/
import Derived.Test.YtipepglcceogiaaP10
namespace Go.Proofs.Ytipepglcceogiaa
open Go.Sk
open Go
/-- whole numbers of a slice lie within their kind -/
theorem sl_ints {k : IntKind} {l : List Int} {h : PH} {v : Value} (hv : (CP.sl 1 (l.map (eK k))).rel h v) : ∀ x ∈ l, inR k x := by
  intro x hx
  have hm : CP.int k x ∈ (l.map (eK k)).flatten := List.mem_flatten.2 ⟨eK k x, List.mem_map.2 ⟨x, hx, rfl⟩, by simp [eK]⟩
  rcases hv.2.2 with ⟨_, e⟩ | ⟨b, o, c, _, _, _, hc⟩
  · rw [e] at hm; simp at hm
  · obtain ⟨j, hj⟩ := List.mem_iff_getElem?.1 hm
    obtain ⟨u, _, hu⟩ := hc j _ hj
    exact hu.2
theorem u8_in {n : Int} (h : inR .u8 n) : 0 ≤ n ∧ n ≤ 255 := h
theorem finishes_law (n : Int) (l : List ROp) (late : List Int) (h0 : inR .u8 n) (h1 : l.length ≤ maxLen) (h2 : ∀ x ∈ late, inR .u8 x) : Meets Try.prog 5 [] [.one (.int .u8 n), .one (.sl 4 (l.map eROp)), .one (.sl 1 (late.map (eK .u8)))] (Is [] (.b (.one (.bool true)))) :=
  skewbacklaw41_RegionFinishes_spec (finishes_val (u8_in h0) h1 h2)
end Go.Proofs.Ytipepglcceogiaa
