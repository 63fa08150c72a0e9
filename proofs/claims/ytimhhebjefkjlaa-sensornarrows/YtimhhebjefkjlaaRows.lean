/-
  No cell of these rows narrows 'for every input' (looked for: loops, veiled, ifaces, maps, wideKeys, modest, calm, conditions, laid).
  DERIVED. THE GIVEN ROWS OF THIS SEAT. 5 by the template 'for every input the law returns true; each argument reads behind the call as it read before'; 0 by the template 'total and deterministic' (their statements: YtimhhebjefkjlaaTotals.lean).
  GIVEN WITH THE SEED: the statements are not yours to turn. If you find one false, say at which input.
  Laid BY PROGRAM, IN A SANDBOX (cutbox-rows.mjs): the forced cells as the released guide's own fill.sh prints them over the translation f675da4eb7eb57c1… (all of the seat's roots in one cut). By AI agents, Wed Nov 11 2026. No macro, syntax, notation, axiom, sorry.
-/
import Derived.Test.YtimhhebjefkjlaaChecked
import GoSem.Claim
import GoSem.ClaimJoined
import GoSem.ClaimMapViews
import Derived.JoinedTies
import Derived.KernelRfl
namespace Go.Proofs.Ytimhhebjefkjlaa
/- THE CELL 'sum', in the pinned program and in every row, IS THE sha256 OF THE DUMP (.gsa) THAT YtimhhebjefkjlaaProg.lean LOADS. Nothing in Lean hashes anything: it is a label: what it is worth is what the hold of that sum in a sandbox is worth. -/
noncomputable def Try.pinned : Pinned := { name := "ytimhhebjefkjlaa", sum := "f675da4eb7eb57c198c987344fdf3b2beebf3916c81faed0dabfb9700dc6dc18", checked := Try.checked }
namespace Rows
def none {H : Type} : Left H := { results := [], args := [] }

/-- 'skewbacklaw39.SensorAnswersAsSpecified': WHATEVER THE INPUT: true; the input reads as it did. -/
def sensorAnswersAsSpecifiedSpec : ChangeSpec := { name := "sensorAnswersAsSpecified", fn := fun _ => fun
  | [d1, d2, d3] => { results := [.lit (.bool true)], args := [d1, d2, d3] }
  | _ => none }
def sensorAnswersAsSpecifiedRow : OpenClaim := { program := "ytimhhebjefkjlaa", sum := "f675da4eb7eb57c198c987344fdf3b2beebf3916c81faed0dabfb9700dc6dc18", func := "skewback/skewbacklaw39.SensorAnswersAsSpecified", spec := "sensorAnswersAsSpecified", unfollowed := true, recurses := true, apart := false }
def SensorAnswersAsSpecifiedSaid : Prop := sensorAnswersAsSpecifiedRow.holds Try.pinned (OpenSpec.ofChange sensorAnswersAsSpecifiedSpec)

/-- ITS FALSE NEIGHBOUR: 'it returns false'. Refute it at one input. -/
def sensorAnswersAsSpecifiedWrong : ChangeSpec := { name := "sensorAnswersAsSpecified", fn := fun _ => fun
  | [d1, d2, d3] => { results := [.lit (.bool false)], args := [d1, d2, d3] }
  | _ => none }
def SensorAnswersAsSpecifiedWrongFalsely : Prop := sensorAnswersAsSpecifiedRow.holds Try.pinned (OpenSpec.ofChange sensorAnswersAsSpecifiedWrong)

/-- 'skewbacklaw39.SensorBoxesAreExact': WHATEVER THE INPUT: true; the input reads as it did. -/
def sensorBoxesAreExactSpec : ChangeSpec := { name := "sensorBoxesAreExact", fn := fun _ => fun
  | [d1, d2, d3, d4] => { results := [.lit (.bool true)], args := [d1, d2, d3, d4] }
  | _ => none }
def sensorBoxesAreExactRow : OpenClaim := { program := "ytimhhebjefkjlaa", sum := "f675da4eb7eb57c198c987344fdf3b2beebf3916c81faed0dabfb9700dc6dc18", func := "skewback/skewbacklaw39.SensorBoxesAreExact", spec := "sensorBoxesAreExact", unfollowed := true, recurses := true, apart := false }
def SensorBoxesAreExactSaid : Prop := sensorBoxesAreExactRow.holds Try.pinned (OpenSpec.ofChange sensorBoxesAreExactSpec)

/-- ITS FALSE NEIGHBOUR: 'it returns false'. Refute it at one input. -/
def sensorBoxesAreExactWrong : ChangeSpec := { name := "sensorBoxesAreExact", fn := fun _ => fun
  | [d1, d2, d3, d4] => { results := [.lit (.bool false)], args := [d1, d2, d3, d4] }
  | _ => none }
def SensorBoxesAreExactWrongFalsely : Prop := sensorBoxesAreExactRow.holds Try.pinned (OpenSpec.ofChange sensorBoxesAreExactWrong)

/-- 'skewbacklaw39.SensorBlamesASmallestSet': WHATEVER THE INPUT: true; the input reads as it did. -/
def sensorBlamesASmallestSetSpec : ChangeSpec := { name := "sensorBlamesASmallestSet", fn := fun _ => fun
  | [d1, d2] => { results := [.lit (.bool true)], args := [d1, d2] }
  | _ => none }
def sensorBlamesASmallestSetRow : OpenClaim := { program := "ytimhhebjefkjlaa", sum := "f675da4eb7eb57c198c987344fdf3b2beebf3916c81faed0dabfb9700dc6dc18", func := "skewback/skewbacklaw39.SensorBlamesASmallestSet", spec := "sensorBlamesASmallestSet", unfollowed := true, recurses := true, apart := false }
def SensorBlamesASmallestSetSaid : Prop := sensorBlamesASmallestSetRow.holds Try.pinned (OpenSpec.ofChange sensorBlamesASmallestSetSpec)

/-- ITS FALSE NEIGHBOUR: 'it returns false'. Refute it at one input. -/
def sensorBlamesASmallestSetWrong : ChangeSpec := { name := "sensorBlamesASmallestSet", fn := fun _ => fun
  | [d1, d2] => { results := [.lit (.bool false)], args := [d1, d2] }
  | _ => none }
def SensorBlamesASmallestSetWrongFalsely : Prop := sensorBlamesASmallestSetRow.holds Try.pinned (OpenSpec.ofChange sensorBlamesASmallestSetWrong)

/-- 'skewbacklaw39.SensorNarrows': WHATEVER THE INPUT: true; the input reads as it did. -/
def sensorNarrowsSpec : ChangeSpec := { name := "sensorNarrows", fn := fun _ => fun
  | [d1, d2, d3] => { results := [.lit (.bool true)], args := [d1, d2, d3] }
  | _ => none }
def sensorNarrowsRow : OpenClaim := { program := "ytimhhebjefkjlaa", sum := "f675da4eb7eb57c198c987344fdf3b2beebf3916c81faed0dabfb9700dc6dc18", func := "skewback/skewbacklaw39.SensorNarrows", spec := "sensorNarrows", unfollowed := true, recurses := true, apart := false }
def SensorNarrowsSaid : Prop := sensorNarrowsRow.holds Try.pinned (OpenSpec.ofChange sensorNarrowsSpec)

/-- ITS FALSE NEIGHBOUR: 'it returns false'. Refute it at one input. -/
def sensorNarrowsWrong : ChangeSpec := { name := "sensorNarrows", fn := fun _ => fun
  | [d1, d2, d3] => { results := [.lit (.bool false)], args := [d1, d2, d3] }
  | _ => none }
def SensorNarrowsWrongFalsely : Prop := sensorNarrowsRow.holds Try.pinned (OpenSpec.ofChange sensorNarrowsWrong)

/-- 'skewbacklaw39.SensorReadsAsSpecified': WHATEVER THE INPUT: true; the input reads as it did. -/
def sensorReadsAsSpecifiedSpec : ChangeSpec := { name := "sensorReadsAsSpecified", fn := fun _ => fun
  | [d1, d2, d3] => { results := [.lit (.bool true)], args := [d1, d2, d3] }
  | _ => none }
def sensorReadsAsSpecifiedRow : OpenClaim := { program := "ytimhhebjefkjlaa", sum := "f675da4eb7eb57c198c987344fdf3b2beebf3916c81faed0dabfb9700dc6dc18", func := "skewback/skewbacklaw39.SensorReadsAsSpecified", spec := "sensorReadsAsSpecified", unfollowed := true, recurses := true, apart := false }
def SensorReadsAsSpecifiedSaid : Prop := sensorReadsAsSpecifiedRow.holds Try.pinned (OpenSpec.ofChange sensorReadsAsSpecifiedSpec)

/-- ITS FALSE NEIGHBOUR: 'it returns false'. Refute it at one input. -/
def sensorReadsAsSpecifiedWrong : ChangeSpec := { name := "sensorReadsAsSpecified", fn := fun _ => fun
  | [d1, d2, d3] => { results := [.lit (.bool false)], args := [d1, d2, d3] }
  | _ => none }
def SensorReadsAsSpecifiedWrongFalsely : Prop := sensorReadsAsSpecifiedRow.holds Try.pinned (OpenSpec.ofChange sensorReadsAsSpecifiedWrong)

/- THE SECOND FORM. 'bulk': how many values and letters a reading holds, each counted each time it is reached (what is shared counts as often as it is met; a slice's spare places count too). A statement '..UptoSaid' is the law's where the arguments, and the package variables that the reading takes, are together of bulk at most 1048576: NARROWER than '..Said'. Prove '..Said' where nothing that the law and all that it calls make is longer than what came in: it says more and counts as full. Else prove '..UptoSaid'. A law counts once. -/
mutual
def uptoBulk {H : Type} : DataW H → Nat
  | .lit (.string bytes) => bytes.length + 1
  | .lit _ => 1
  | .nil => 1
  | .ptr d => uptoBulk d + 1
  | .slice elems spare => uptoBulkAll elems + uptoBulkAll spare + 1
  | .agg parts => uptoBulkAll parts + 1
  | .iface _ d => uptoBulk d + 1
  | .map entries => uptoBulkEntries entries + 1
  | .held _ => 1
def uptoBulkAll {H : Type} : List (DataW H) → Nat
  | [] => 0
  | d :: r => uptoBulk d + uptoBulkAll r
def uptoBulkEntries {H : Type} : List (Lit × DataW H) → Nat
  | [] => 0
  | x :: r => uptoBulkEntry x + uptoBulkEntries r
def uptoBulkEntry {H : Type} : Lit × DataW H → Nat
  | (.string bytes, d) => bytes.length + uptoBulk d + 1
  | (_, d) => uptoBulk d + 1
 end
def uptoSmall : (H : Type) → List (DataW H) → Bool := fun _ ds => decide (uptoBulkAll ds ≤ 1048576)
def OpenSpec.upto (s : _root_.Go.ChangeSpec) : _root_.Go.OpenSpec := { _root_.Go.OpenSpec.ofChange s with cond := some uptoSmall }

/-- 'skewbacklaw39.SensorAnswersAsSpecified', WHERE WHAT IT READS IS OF BULK AT MOST 1048576: true; the input reads as it did. -/
def sensorAnswersAsSpecifiedUptoRow : OpenClaim := { program := "ytimhhebjefkjlaa", sum := "f675da4eb7eb57c198c987344fdf3b2beebf3916c81faed0dabfb9700dc6dc18", func := "skewback/skewbacklaw39.SensorAnswersAsSpecified", spec := "sensorAnswersAsSpecified", unfollowed := true, recurses := true, apart := false, narrowed := true }
def SensorAnswersAsSpecifiedUptoSaid : Prop := sensorAnswersAsSpecifiedUptoRow.holds Try.pinned (OpenSpec.upto sensorAnswersAsSpecifiedSpec)

/-- 'skewbacklaw39.SensorBoxesAreExact', WHERE WHAT IT READS IS OF BULK AT MOST 1048576: true; the input reads as it did. -/
def sensorBoxesAreExactUptoRow : OpenClaim := { program := "ytimhhebjefkjlaa", sum := "f675da4eb7eb57c198c987344fdf3b2beebf3916c81faed0dabfb9700dc6dc18", func := "skewback/skewbacklaw39.SensorBoxesAreExact", spec := "sensorBoxesAreExact", unfollowed := true, recurses := true, apart := false, narrowed := true }
def SensorBoxesAreExactUptoSaid : Prop := sensorBoxesAreExactUptoRow.holds Try.pinned (OpenSpec.upto sensorBoxesAreExactSpec)

/-- 'skewbacklaw39.SensorBlamesASmallestSet', WHERE WHAT IT READS IS OF BULK AT MOST 1048576: true; the input reads as it did. -/
def sensorBlamesASmallestSetUptoRow : OpenClaim := { program := "ytimhhebjefkjlaa", sum := "f675da4eb7eb57c198c987344fdf3b2beebf3916c81faed0dabfb9700dc6dc18", func := "skewback/skewbacklaw39.SensorBlamesASmallestSet", spec := "sensorBlamesASmallestSet", unfollowed := true, recurses := true, apart := false, narrowed := true }
def SensorBlamesASmallestSetUptoSaid : Prop := sensorBlamesASmallestSetUptoRow.holds Try.pinned (OpenSpec.upto sensorBlamesASmallestSetSpec)

/-- 'skewbacklaw39.SensorNarrows', WHERE WHAT IT READS IS OF BULK AT MOST 1048576: true; the input reads as it did. -/
def sensorNarrowsUptoRow : OpenClaim := { program := "ytimhhebjefkjlaa", sum := "f675da4eb7eb57c198c987344fdf3b2beebf3916c81faed0dabfb9700dc6dc18", func := "skewback/skewbacklaw39.SensorNarrows", spec := "sensorNarrows", unfollowed := true, recurses := true, apart := false, narrowed := true }
def SensorNarrowsUptoSaid : Prop := sensorNarrowsUptoRow.holds Try.pinned (OpenSpec.upto sensorNarrowsSpec)

/-- 'skewbacklaw39.SensorReadsAsSpecified', WHERE WHAT IT READS IS OF BULK AT MOST 1048576: true; the input reads as it did. -/
def sensorReadsAsSpecifiedUptoRow : OpenClaim := { program := "ytimhhebjefkjlaa", sum := "f675da4eb7eb57c198c987344fdf3b2beebf3916c81faed0dabfb9700dc6dc18", func := "skewback/skewbacklaw39.SensorReadsAsSpecified", spec := "sensorReadsAsSpecified", unfollowed := true, recurses := true, apart := false, narrowed := true }
def SensorReadsAsSpecifiedUptoSaid : Prop := sensorReadsAsSpecifiedUptoRow.holds Try.pinned (OpenSpec.upto sensorReadsAsSpecifiedSpec)

end Rows
end Go.Proofs.Ytimhhebjefkjlaa
