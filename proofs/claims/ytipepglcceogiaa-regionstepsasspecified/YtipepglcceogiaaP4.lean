/- the plain law -/
import Derived.Test.YtipepglcceogiaaP3
namespace Go.Proofs.Ytipepglcceogiaa
open Go.Sk
open Go
theorem steps_law (l : List Holding) (node body to : Int) (data : Str) (x : Parcel) (h1 : l.length ≤ maxLen) (h2 : inR .i64 body) : Meets Try.prog 6 [] [.one (.sl 5 (l.map eHolding)), .one (.i node), .one (.i body), .one (.i to), .one (.str data), .agg (eParcel x)] (Is [] (.b (.one (.bool true)))) :=
  skewbacklaw41_RegionStepsAsSpecified_spec (steps_val h1 h2)
end Go.Proofs.Ytipepglcceogiaa
