/-
  No cell of these rows narrows 'for every input' (looked for: loops, veiled, ifaces, maps, wideKeys, modest, calm, conditions, laid).
  DERIVED. THE GIVEN ROWS OF THIS SEAT. 4 by the template 'for every input the law returns true; each argument reads behind the call as it read before'; 0 by the template 'total and deterministic' (their statements: YtipepglcceogiaaTotals.lean).
  GIVEN WITH THE SEED: the statements are not yours to turn. If you find one false, say at which input.
  Laid BY PROGRAM, IN A SANDBOX (cutbox-rows.mjs): the forced cells as the released guide's own fill.sh prints them over the translation a89b44e316d59aab… (all of the seat's roots in one cut). By AI agents, Wed Nov 11 2026. No macro, syntax, notation, axiom, sorry.
-/
import Derived.Test.YtipepglcceogiaaChecked
import GoSem.Claim
import GoSem.ClaimJoined
import GoSem.ClaimMapViews
import Derived.JoinedTies
import Derived.KernelRfl
namespace Go.Proofs.Ytipepglcceogiaa
/- THE CELL 'sum', in the pinned program and in every row, IS THE sha256 OF THE DUMP (.gsa) THAT YtipepglcceogiaaProg.lean LOADS. Nothing in Lean hashes anything: it is a label: what it is worth is what the hold of that sum in a sandbox is worth. -/
noncomputable def Try.pinned : Pinned := { name := "ytipepglcceogiaa", sum := "a89b44e316d59aab11e6f729e452de7e40a8b3d866c8c74f79d945e4d9f26534", checked := Try.checked }
namespace Rows
def none {H : Type} : Left H := { results := [], args := [] }

/-- 'skewbacklaw41.RegionPlacesAsSpecified': WHATEVER THE INPUT: true; the input reads as it did. -/
def regionPlacesAsSpecifiedSpec : ChangeSpec := { name := "regionPlacesAsSpecified", fn := fun _ => fun
  | [d1, d2, d3] => { results := [.lit (.bool true)], args := [d1, d2, d3] }
  | _ => none }
def regionPlacesAsSpecifiedRow : OpenClaim := { program := "ytipepglcceogiaa", sum := "a89b44e316d59aab11e6f729e452de7e40a8b3d866c8c74f79d945e4d9f26534", func := "skewback/skewbacklaw41.RegionPlacesAsSpecified", spec := "regionPlacesAsSpecified", inPlace := ["slices.overlaps[skewback/api.Holding]"], unfollowed := true, recurses := true, apart := false }
def RegionPlacesAsSpecifiedSaid : Prop := regionPlacesAsSpecifiedRow.holds Try.pinned (OpenSpec.ofChange regionPlacesAsSpecifiedSpec)

/-- ITS FALSE NEIGHBOUR: 'it returns false'. Refute it at one input. -/
def regionPlacesAsSpecifiedWrong : ChangeSpec := { name := "regionPlacesAsSpecified", fn := fun _ => fun
  | [d1, d2, d3] => { results := [.lit (.bool false)], args := [d1, d2, d3] }
  | _ => none }
def RegionPlacesAsSpecifiedWrongFalsely : Prop := regionPlacesAsSpecifiedRow.holds Try.pinned (OpenSpec.ofChange regionPlacesAsSpecifiedWrong)

/-- 'skewbacklaw41.RegionIsSafe': WHATEVER THE INPUT: true; the input reads as it did. -/
def regionIsSafeSpec : ChangeSpec := { name := "regionIsSafe", fn := fun _ => fun
  | [d1, d2] => { results := [.lit (.bool true)], args := [d1, d2] }
  | _ => none }
def regionIsSafeRow : OpenClaim := { program := "ytipepglcceogiaa", sum := "a89b44e316d59aab11e6f729e452de7e40a8b3d866c8c74f79d945e4d9f26534", func := "skewback/skewbacklaw41.RegionIsSafe", spec := "regionIsSafe", inPlace := ["slices.overlaps[skewback/api.Holding]"], unfollowed := true, recurses := true, apart := false }
def RegionIsSafeSaid : Prop := regionIsSafeRow.holds Try.pinned (OpenSpec.ofChange regionIsSafeSpec)

/-- ITS FALSE NEIGHBOUR: 'it returns false'. Refute it at one input. -/
def regionIsSafeWrong : ChangeSpec := { name := "regionIsSafe", fn := fun _ => fun
  | [d1, d2] => { results := [.lit (.bool false)], args := [d1, d2] }
  | _ => none }
def RegionIsSafeWrongFalsely : Prop := regionIsSafeRow.holds Try.pinned (OpenSpec.ofChange regionIsSafeWrong)

/-- 'skewbacklaw41.RegionFinishes': WHATEVER THE INPUT: true; the input reads as it did. -/
def regionFinishesSpec : ChangeSpec := { name := "regionFinishes", fn := fun _ => fun
  | [d1, d2, d3] => { results := [.lit (.bool true)], args := [d1, d2, d3] }
  | _ => none }
def regionFinishesRow : OpenClaim := { program := "ytipepglcceogiaa", sum := "a89b44e316d59aab11e6f729e452de7e40a8b3d866c8c74f79d945e4d9f26534", func := "skewback/skewbacklaw41.RegionFinishes", spec := "regionFinishes", inPlace := ["slices.overlaps[skewback/api.Holding]"], unfollowed := true, recurses := true, apart := false }
def RegionFinishesSaid : Prop := regionFinishesRow.holds Try.pinned (OpenSpec.ofChange regionFinishesSpec)

/-- ITS FALSE NEIGHBOUR: 'it returns false'. Refute it at one input. -/
def regionFinishesWrong : ChangeSpec := { name := "regionFinishes", fn := fun _ => fun
  | [d1, d2, d3] => { results := [.lit (.bool false)], args := [d1, d2, d3] }
  | _ => none }
def RegionFinishesWrongFalsely : Prop := regionFinishesRow.holds Try.pinned (OpenSpec.ofChange regionFinishesWrong)

/-- 'skewbacklaw41.RegionStepsAsSpecified': WHATEVER THE INPUT: true; the input reads as it did. -/
def regionStepsAsSpecifiedSpec : ChangeSpec := { name := "regionStepsAsSpecified", fn := fun _ => fun
  | [d1, d2, d3, d4, d5, d6] => { results := [.lit (.bool true)], args := [d1, d2, d3, d4, d5, d6] }
  | _ => none }
def regionStepsAsSpecifiedRow : OpenClaim := { program := "ytipepglcceogiaa", sum := "a89b44e316d59aab11e6f729e452de7e40a8b3d866c8c74f79d945e4d9f26534", func := "skewback/skewbacklaw41.RegionStepsAsSpecified", spec := "regionStepsAsSpecified", inPlace := ["slices.overlaps[skewback/api.Holding]"], unfollowed := true, recurses := true, apart := false }
def RegionStepsAsSpecifiedSaid : Prop := regionStepsAsSpecifiedRow.holds Try.pinned (OpenSpec.ofChange regionStepsAsSpecifiedSpec)

/-- ITS FALSE NEIGHBOUR: 'it returns false'. Refute it at one input. -/
def regionStepsAsSpecifiedWrong : ChangeSpec := { name := "regionStepsAsSpecified", fn := fun _ => fun
  | [d1, d2, d3, d4, d5, d6] => { results := [.lit (.bool false)], args := [d1, d2, d3, d4, d5, d6] }
  | _ => none }
def RegionStepsAsSpecifiedWrongFalsely : Prop := regionStepsAsSpecifiedRow.holds Try.pinned (OpenSpec.ofChange regionStepsAsSpecifiedWrong)

/- THE SECOND FORM. 'bulk': how many values and letters a reading holds, each counted each time it is reached (what is shared counts as often as it is met; a slice's spare places count too). A statement '..UptoSaid' is the law's where the arguments, and the package variables that the reading takes, are together of bulk at most 1048576: NARROWER than '..Said'. Prove '..Said' where nothing that the law and all that it calls make is longer than what came in: it says more and counts as full. Else prove '..UptoSaid'. A law counts once. -/
mutual
def uptoBulk {H : Type} : DataW H → Nat
  | .lit (.string bytes) => bytes.length + 1
  | .lit _ => 1
  | .nil => 1
  | .ptr d => uptoBulk d + 1
  | .slice elems spare => uptoBulkAll elems + uptoBulkAll spare + 1
  | .agg parts => uptoBulkAll parts + 1
  | .iface _ d => uptoBulk d + 1
  | .map entries => uptoBulkEntries entries + 1
  | .held _ => 1
def uptoBulkAll {H : Type} : List (DataW H) → Nat
  | [] => 0
  | d :: r => uptoBulk d + uptoBulkAll r
def uptoBulkEntries {H : Type} : List (Lit × DataW H) → Nat
  | [] => 0
  | x :: r => uptoBulkEntry x + uptoBulkEntries r
def uptoBulkEntry {H : Type} : Lit × DataW H → Nat
  | (.string bytes, d) => bytes.length + uptoBulk d + 1
  | (_, d) => uptoBulk d + 1
 end
def uptoSmall : (H : Type) → List (DataW H) → Bool := fun _ ds => decide (uptoBulkAll ds ≤ 1048576)
def OpenSpec.upto (s : _root_.Go.ChangeSpec) : _root_.Go.OpenSpec := { _root_.Go.OpenSpec.ofChange s with cond := some uptoSmall }

/-- 'skewbacklaw41.RegionPlacesAsSpecified', WHERE WHAT IT READS IS OF BULK AT MOST 1048576: true; the input reads as it did. -/
def regionPlacesAsSpecifiedUptoRow : OpenClaim := { program := "ytipepglcceogiaa", sum := "a89b44e316d59aab11e6f729e452de7e40a8b3d866c8c74f79d945e4d9f26534", func := "skewback/skewbacklaw41.RegionPlacesAsSpecified", spec := "regionPlacesAsSpecified", inPlace := ["slices.overlaps[skewback/api.Holding]"], unfollowed := true, recurses := true, apart := false, narrowed := true }
def RegionPlacesAsSpecifiedUptoSaid : Prop := regionPlacesAsSpecifiedUptoRow.holds Try.pinned (OpenSpec.upto regionPlacesAsSpecifiedSpec)

/-- 'skewbacklaw41.RegionIsSafe', WHERE WHAT IT READS IS OF BULK AT MOST 1048576: true; the input reads as it did. -/
def regionIsSafeUptoRow : OpenClaim := { program := "ytipepglcceogiaa", sum := "a89b44e316d59aab11e6f729e452de7e40a8b3d866c8c74f79d945e4d9f26534", func := "skewback/skewbacklaw41.RegionIsSafe", spec := "regionIsSafe", inPlace := ["slices.overlaps[skewback/api.Holding]"], unfollowed := true, recurses := true, apart := false, narrowed := true }
def RegionIsSafeUptoSaid : Prop := regionIsSafeUptoRow.holds Try.pinned (OpenSpec.upto regionIsSafeSpec)

/-- 'skewbacklaw41.RegionFinishes', WHERE WHAT IT READS IS OF BULK AT MOST 1048576: true; the input reads as it did. -/
def regionFinishesUptoRow : OpenClaim := { program := "ytipepglcceogiaa", sum := "a89b44e316d59aab11e6f729e452de7e40a8b3d866c8c74f79d945e4d9f26534", func := "skewback/skewbacklaw41.RegionFinishes", spec := "regionFinishes", inPlace := ["slices.overlaps[skewback/api.Holding]"], unfollowed := true, recurses := true, apart := false, narrowed := true }
def RegionFinishesUptoSaid : Prop := regionFinishesUptoRow.holds Try.pinned (OpenSpec.upto regionFinishesSpec)

/-- 'skewbacklaw41.RegionStepsAsSpecified', WHERE WHAT IT READS IS OF BULK AT MOST 1048576: true; the input reads as it did. -/
def regionStepsAsSpecifiedUptoRow : OpenClaim := { program := "ytipepglcceogiaa", sum := "a89b44e316d59aab11e6f729e452de7e40a8b3d866c8c74f79d945e4d9f26534", func := "skewback/skewbacklaw41.RegionStepsAsSpecified", spec := "regionStepsAsSpecified", inPlace := ["slices.overlaps[skewback/api.Holding]"], unfollowed := true, recurses := true, apart := false, narrowed := true }
def RegionStepsAsSpecifiedUptoSaid : Prop := regionStepsAsSpecifiedUptoRow.holds Try.pinned (OpenSpec.upto regionStepsAsSpecifiedSpec)

end Rows
end Go.Proofs.Ytipepglcceogiaa
