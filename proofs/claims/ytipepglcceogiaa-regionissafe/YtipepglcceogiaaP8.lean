/- the plain law -/
import Derived.Test.YtipepglcceogiaaP7
namespace Go.Proofs.Ytipepglcceogiaa
open Go.Sk
open Go
theorem u8_in {n : Int} (h : inR .u8 n) : 0 ≤ n ∧ n ≤ 255 := h
theorem safe_law (n : Int) (l : List ROp) (h0 : inR .u8 n) (h1 : l.length ≤ maxLen) : Meets Try.prog 4 [] [.one (.int .u8 n), .one (.sl 4 (l.map eROp))] (Is [] (.b (.one (.bool true)))) :=
  skewbacklaw41_RegionIsSafe_spec (safe_law_val (u8_in h0) h1)
end Go.Proofs.Ytipepglcceogiaa
