/-
  No cell of these rows narrows 'for every input' (looked for: loops, veiled, ifaces, maps, wideKeys, modest, calm, conditions, laid).
  DERIVED. THE GIVEN ROWS OF THIS SEAT. 7 by the template 'for every input the law returns true; each argument reads behind the call as it read before'; 0 by the template 'total and deterministic' (their statements: YtgojigdbelkgoaaTotals.lean).
  GIVEN WITH THE SEED: the statements are not yours to turn. If you find one false, say at which input.
  Laid BY PROGRAM, IN A SANDBOX (cutbox-rows.mjs): the forced cells as the released guide's own fill.sh prints them over the translation 85e64c430512aa49… (all of the seat's roots in one cut). By AI agents, Wed Nov 11 2026. No macro, syntax, notation, axiom, sorry.
-/
import Derived.Test.YtgojigdbelkgoaaChecked
import GoSem.Claim
import GoSem.ClaimJoined
import GoSem.ClaimMapViews
import Derived.JoinedTies
import Derived.KernelRfl
namespace Go.Proofs.Ytgojigdbelkgoaa
/- THE CELL 'sum', in the pinned program and in every row, IS THE sha256 OF THE DUMP (.gsa) THAT YtgojigdbelkgoaaProg.lean LOADS. Nothing in Lean hashes anything: it is a label: what it is worth is what the hold of that sum in a sandbox is worth. -/
noncomputable def Try.pinned : Pinned := { name := "ytgojigdbelkgoaa", sum := "85e64c430512aa49015a8a8eb0433609d1ae85ca9a3e45fcfa6e5178118456b7", checked := Try.checked }
namespace Rows
def none {H : Type} : Left H := { results := [], args := [] }

/-- 'skewbacklaw35.IslandFindsAsSpecified': WHATEVER THE INPUT: true; the input reads as it did. -/
def islandFindsAsSpecifiedSpec : ChangeSpec := { name := "islandFindsAsSpecified", fn := fun _ => fun
  | [d1, d2] => { results := [.lit (.bool true)], args := [d1, d2] }
  | _ => none }
def islandFindsAsSpecifiedRow : OpenClaim := { program := "ytgojigdbelkgoaa", sum := "85e64c430512aa49015a8a8eb0433609d1ae85ca9a3e45fcfa6e5178118456b7", func := "skewback/skewbacklaw35.IslandFindsAsSpecified", spec := "islandFindsAsSpecified", unfollowed := true, recurses := true, apart := false }
def IslandFindsAsSpecifiedSaid : Prop := islandFindsAsSpecifiedRow.holds Try.pinned (OpenSpec.ofChange islandFindsAsSpecifiedSpec)

/-- ITS FALSE NEIGHBOUR: 'it returns false'. Refute it at one input. -/
def islandFindsAsSpecifiedWrong : ChangeSpec := { name := "islandFindsAsSpecified", fn := fun _ => fun
  | [d1, d2] => { results := [.lit (.bool false)], args := [d1, d2] }
  | _ => none }
def IslandFindsAsSpecifiedWrongFalsely : Prop := islandFindsAsSpecifiedRow.holds Try.pinned (OpenSpec.ofChange islandFindsAsSpecifiedWrong)

/-- 'skewbacklaw35.IslandHoldsAsSpecified': WHATEVER THE INPUT: true; the input reads as it did. -/
def islandHoldsAsSpecifiedSpec : ChangeSpec := { name := "islandHoldsAsSpecified", fn := fun _ => fun
  | [d1, d2] => { results := [.lit (.bool true)], args := [d1, d2] }
  | _ => none }
def islandHoldsAsSpecifiedRow : OpenClaim := { program := "ytgojigdbelkgoaa", sum := "85e64c430512aa49015a8a8eb0433609d1ae85ca9a3e45fcfa6e5178118456b7", func := "skewback/skewbacklaw35.IslandHoldsAsSpecified", spec := "islandHoldsAsSpecified", unfollowed := true, recurses := true, apart := false }
def IslandHoldsAsSpecifiedSaid : Prop := islandHoldsAsSpecifiedRow.holds Try.pinned (OpenSpec.ofChange islandHoldsAsSpecifiedSpec)

/-- ITS FALSE NEIGHBOUR: 'it returns false'. Refute it at one input. -/
def islandHoldsAsSpecifiedWrong : ChangeSpec := { name := "islandHoldsAsSpecified", fn := fun _ => fun
  | [d1, d2] => { results := [.lit (.bool false)], args := [d1, d2] }
  | _ => none }
def IslandHoldsAsSpecifiedWrongFalsely : Prop := islandHoldsAsSpecifiedRow.holds Try.pinned (OpenSpec.ofChange islandHoldsAsSpecifiedWrong)

/-- 'skewbacklaw35.IslandMergesAsSpecified': WHATEVER THE INPUT: true; the input reads as it did. -/
def islandMergesAsSpecifiedSpec : ChangeSpec := { name := "islandMergesAsSpecified", fn := fun _ => fun
  | [d1, d2] => { results := [.lit (.bool true)], args := [d1, d2] }
  | _ => none }
def islandMergesAsSpecifiedRow : OpenClaim := { program := "ytgojigdbelkgoaa", sum := "85e64c430512aa49015a8a8eb0433609d1ae85ca9a3e45fcfa6e5178118456b7", func := "skewback/skewbacklaw35.IslandMergesAsSpecified", spec := "islandMergesAsSpecified", unfollowed := true, recurses := true, apart := false }
def IslandMergesAsSpecifiedSaid : Prop := islandMergesAsSpecifiedRow.holds Try.pinned (OpenSpec.ofChange islandMergesAsSpecifiedSpec)

/-- ITS FALSE NEIGHBOUR: 'it returns false'. Refute it at one input. -/
def islandMergesAsSpecifiedWrong : ChangeSpec := { name := "islandMergesAsSpecified", fn := fun _ => fun
  | [d1, d2] => { results := [.lit (.bool false)], args := [d1, d2] }
  | _ => none }
def IslandMergesAsSpecifiedWrongFalsely : Prop := islandMergesAsSpecifiedRow.holds Try.pinned (OpenSpec.ofChange islandMergesAsSpecifiedWrong)

/-- 'skewbacklaw35.IslandsPartition': WHATEVER THE INPUT: true; the input reads as it did. -/
def islandsPartitionSpec : ChangeSpec := { name := "islandsPartition", fn := fun _ => fun
  | [d1, d2] => { results := [.lit (.bool true)], args := [d1, d2] }
  | _ => none }
def islandsPartitionRow : OpenClaim := { program := "ytgojigdbelkgoaa", sum := "85e64c430512aa49015a8a8eb0433609d1ae85ca9a3e45fcfa6e5178118456b7", func := "skewback/skewbacklaw35.IslandsPartition", spec := "islandsPartition", unfollowed := true, recurses := true, apart := false }
def IslandsPartitionSaid : Prop := islandsPartitionRow.holds Try.pinned (OpenSpec.ofChange islandsPartitionSpec)

/-- ITS FALSE NEIGHBOUR: 'it returns false'. Refute it at one input. -/
def islandsPartitionWrong : ChangeSpec := { name := "islandsPartition", fn := fun _ => fun
  | [d1, d2] => { results := [.lit (.bool false)], args := [d1, d2] }
  | _ => none }
def IslandsPartitionWrongFalsely : Prop := islandsPartitionRow.holds Try.pinned (OpenSpec.ofChange islandsPartitionWrong)

/-- 'skewbacklaw35.IslandsMeetInParts': WHATEVER THE INPUT: true; the input reads as it did. -/
def islandsMeetInPartsSpec : ChangeSpec := { name := "islandsMeetInParts", fn := fun _ => fun
  | [d1, d2, d3] => { results := [.lit (.bool true)], args := [d1, d2, d3] }
  | _ => none }
def islandsMeetInPartsRow : OpenClaim := { program := "ytgojigdbelkgoaa", sum := "85e64c430512aa49015a8a8eb0433609d1ae85ca9a3e45fcfa6e5178118456b7", func := "skewback/skewbacklaw35.IslandsMeetInParts", spec := "islandsMeetInParts", unfollowed := true, recurses := true, apart := false }
def IslandsMeetInPartsSaid : Prop := islandsMeetInPartsRow.holds Try.pinned (OpenSpec.ofChange islandsMeetInPartsSpec)

/-- ITS FALSE NEIGHBOUR: 'it returns false'. Refute it at one input. -/
def islandsMeetInPartsWrong : ChangeSpec := { name := "islandsMeetInParts", fn := fun _ => fun
  | [d1, d2, d3] => { results := [.lit (.bool false)], args := [d1, d2, d3] }
  | _ => none }
def IslandsMeetInPartsWrongFalsely : Prop := islandsMeetInPartsRow.holds Try.pinned (OpenSpec.ofChange islandsMeetInPartsWrong)

/-- 'skewbacklaw35.IslandForestSpans': WHATEVER THE INPUT: true; the input reads as it did. -/
def islandForestSpansSpec : ChangeSpec := { name := "islandForestSpans", fn := fun _ => fun
  | [d1, d2] => { results := [.lit (.bool true)], args := [d1, d2] }
  | _ => none }
def islandForestSpansRow : OpenClaim := { program := "ytgojigdbelkgoaa", sum := "85e64c430512aa49015a8a8eb0433609d1ae85ca9a3e45fcfa6e5178118456b7", func := "skewback/skewbacklaw35.IslandForestSpans", spec := "islandForestSpans", unfollowed := true, recurses := true, apart := false }
def IslandForestSpansSaid : Prop := islandForestSpansRow.holds Try.pinned (OpenSpec.ofChange islandForestSpansSpec)

/-- ITS FALSE NEIGHBOUR: 'it returns false'. Refute it at one input. -/
def islandForestSpansWrong : ChangeSpec := { name := "islandForestSpans", fn := fun _ => fun
  | [d1, d2] => { results := [.lit (.bool false)], args := [d1, d2] }
  | _ => none }
def IslandForestSpansWrongFalsely : Prop := islandForestSpansRow.holds Try.pinned (OpenSpec.ofChange islandForestSpansWrong)

/-- 'skewbacklaw35.IslandLevelsStep': WHATEVER THE INPUT: true; the input reads as it did. -/
def islandLevelsStepSpec : ChangeSpec := { name := "islandLevelsStep", fn := fun _ => fun
  | [d1, d2] => { results := [.lit (.bool true)], args := [d1, d2] }
  | _ => none }
def islandLevelsStepRow : OpenClaim := { program := "ytgojigdbelkgoaa", sum := "85e64c430512aa49015a8a8eb0433609d1ae85ca9a3e45fcfa6e5178118456b7", func := "skewback/skewbacklaw35.IslandLevelsStep", spec := "islandLevelsStep", unfollowed := true, recurses := true, apart := false }
def IslandLevelsStepSaid : Prop := islandLevelsStepRow.holds Try.pinned (OpenSpec.ofChange islandLevelsStepSpec)

/-- ITS FALSE NEIGHBOUR: 'it returns false'. Refute it at one input. -/
def islandLevelsStepWrong : ChangeSpec := { name := "islandLevelsStep", fn := fun _ => fun
  | [d1, d2] => { results := [.lit (.bool false)], args := [d1, d2] }
  | _ => none }
def IslandLevelsStepWrongFalsely : Prop := islandLevelsStepRow.holds Try.pinned (OpenSpec.ofChange islandLevelsStepWrong)

/- THE SECOND FORM. 'bulk': how many values and letters a reading holds, each counted each time it is reached (what is shared counts as often as it is met; a slice's spare places count too). A statement '..UptoSaid' is the law's where the arguments, and the package variables that the reading takes, are together of bulk at most 1048576: NARROWER than '..Said'. Prove '..Said' where nothing that the law and all that it calls make is longer than what came in: it says more and counts as full. Else prove '..UptoSaid'. A law counts once. -/
mutual
def uptoBulk {H : Type} : DataW H → Nat
  | .lit (.string bytes) => bytes.length + 1
  | .lit _ => 1
  | .nil => 1
  | .ptr d => uptoBulk d + 1
  | .slice elems spare => uptoBulkAll elems + uptoBulkAll spare + 1
  | .agg parts => uptoBulkAll parts + 1
  | .iface _ d => uptoBulk d + 1
  | .map entries => uptoBulkEntries entries + 1
  | .held _ => 1
def uptoBulkAll {H : Type} : List (DataW H) → Nat
  | [] => 0
  | d :: r => uptoBulk d + uptoBulkAll r
def uptoBulkEntries {H : Type} : List (Lit × DataW H) → Nat
  | [] => 0
  | x :: r => uptoBulkEntry x + uptoBulkEntries r
def uptoBulkEntry {H : Type} : Lit × DataW H → Nat
  | (.string bytes, d) => bytes.length + uptoBulk d + 1
  | (_, d) => uptoBulk d + 1
 end
def uptoSmall : (H : Type) → List (DataW H) → Bool := fun _ ds => decide (uptoBulkAll ds ≤ 1048576)
def OpenSpec.upto (s : _root_.Go.ChangeSpec) : _root_.Go.OpenSpec := { _root_.Go.OpenSpec.ofChange s with cond := some uptoSmall }

/-- 'skewbacklaw35.IslandFindsAsSpecified', WHERE WHAT IT READS IS OF BULK AT MOST 1048576: true; the input reads as it did. -/
def islandFindsAsSpecifiedUptoRow : OpenClaim := { program := "ytgojigdbelkgoaa", sum := "85e64c430512aa49015a8a8eb0433609d1ae85ca9a3e45fcfa6e5178118456b7", func := "skewback/skewbacklaw35.IslandFindsAsSpecified", spec := "islandFindsAsSpecified", unfollowed := true, recurses := true, apart := false, narrowed := true }
def IslandFindsAsSpecifiedUptoSaid : Prop := islandFindsAsSpecifiedUptoRow.holds Try.pinned (OpenSpec.upto islandFindsAsSpecifiedSpec)

/-- 'skewbacklaw35.IslandHoldsAsSpecified', WHERE WHAT IT READS IS OF BULK AT MOST 1048576: true; the input reads as it did. -/
def islandHoldsAsSpecifiedUptoRow : OpenClaim := { program := "ytgojigdbelkgoaa", sum := "85e64c430512aa49015a8a8eb0433609d1ae85ca9a3e45fcfa6e5178118456b7", func := "skewback/skewbacklaw35.IslandHoldsAsSpecified", spec := "islandHoldsAsSpecified", unfollowed := true, recurses := true, apart := false, narrowed := true }
def IslandHoldsAsSpecifiedUptoSaid : Prop := islandHoldsAsSpecifiedUptoRow.holds Try.pinned (OpenSpec.upto islandHoldsAsSpecifiedSpec)

/-- 'skewbacklaw35.IslandMergesAsSpecified', WHERE WHAT IT READS IS OF BULK AT MOST 1048576: true; the input reads as it did. -/
def islandMergesAsSpecifiedUptoRow : OpenClaim := { program := "ytgojigdbelkgoaa", sum := "85e64c430512aa49015a8a8eb0433609d1ae85ca9a3e45fcfa6e5178118456b7", func := "skewback/skewbacklaw35.IslandMergesAsSpecified", spec := "islandMergesAsSpecified", unfollowed := true, recurses := true, apart := false, narrowed := true }
def IslandMergesAsSpecifiedUptoSaid : Prop := islandMergesAsSpecifiedUptoRow.holds Try.pinned (OpenSpec.upto islandMergesAsSpecifiedSpec)

/-- 'skewbacklaw35.IslandsPartition', WHERE WHAT IT READS IS OF BULK AT MOST 1048576: true; the input reads as it did. -/
def islandsPartitionUptoRow : OpenClaim := { program := "ytgojigdbelkgoaa", sum := "85e64c430512aa49015a8a8eb0433609d1ae85ca9a3e45fcfa6e5178118456b7", func := "skewback/skewbacklaw35.IslandsPartition", spec := "islandsPartition", unfollowed := true, recurses := true, apart := false, narrowed := true }
def IslandsPartitionUptoSaid : Prop := islandsPartitionUptoRow.holds Try.pinned (OpenSpec.upto islandsPartitionSpec)

/-- 'skewbacklaw35.IslandsMeetInParts', WHERE WHAT IT READS IS OF BULK AT MOST 1048576: true; the input reads as it did. -/
def islandsMeetInPartsUptoRow : OpenClaim := { program := "ytgojigdbelkgoaa", sum := "85e64c430512aa49015a8a8eb0433609d1ae85ca9a3e45fcfa6e5178118456b7", func := "skewback/skewbacklaw35.IslandsMeetInParts", spec := "islandsMeetInParts", unfollowed := true, recurses := true, apart := false, narrowed := true }
def IslandsMeetInPartsUptoSaid : Prop := islandsMeetInPartsUptoRow.holds Try.pinned (OpenSpec.upto islandsMeetInPartsSpec)

/-- 'skewbacklaw35.IslandForestSpans', WHERE WHAT IT READS IS OF BULK AT MOST 1048576: true; the input reads as it did. -/
def islandForestSpansUptoRow : OpenClaim := { program := "ytgojigdbelkgoaa", sum := "85e64c430512aa49015a8a8eb0433609d1ae85ca9a3e45fcfa6e5178118456b7", func := "skewback/skewbacklaw35.IslandForestSpans", spec := "islandForestSpans", unfollowed := true, recurses := true, apart := false, narrowed := true }
def IslandForestSpansUptoSaid : Prop := islandForestSpansUptoRow.holds Try.pinned (OpenSpec.upto islandForestSpansSpec)

/-- 'skewbacklaw35.IslandLevelsStep', WHERE WHAT IT READS IS OF BULK AT MOST 1048576: true; the input reads as it did. -/
def islandLevelsStepUptoRow : OpenClaim := { program := "ytgojigdbelkgoaa", sum := "85e64c430512aa49015a8a8eb0433609d1ae85ca9a3e45fcfa6e5178118456b7", func := "skewback/skewbacklaw35.IslandLevelsStep", spec := "islandLevelsStep", unfollowed := true, recurses := true, apart := false, narrowed := true }
def IslandLevelsStepUptoSaid : Prop := islandLevelsStepUptoRow.holds Try.pinned (OpenSpec.upto islandLevelsStepSpec)

end Rows
end Go.Proofs.Ytgojigdbelkgoaa
