/-
  No cell of these rows narrows 'for every input' (looked for: loops, veiled, ifaces, maps, wideKeys, modest, calm, conditions, laid).
  DERIVED. THE GIVEN ROWS OF THIS SEAT. 8 by the template 'for every input the law returns true; each argument reads behind the call as it read before'; 0 by the template 'total and deterministic' (their statements: YtagpkeehkcopaaaGreatTotals.lean).
  GIVEN WITH THE SEED: the statements are not yours to turn. If you find one false, say at which input.
  Laid BY PROGRAM, IN A SANDBOX (cutbox-rows.mjs): the forced cells as the released guide's own fill.sh prints them over the translation 07ba73e6e5f44ee8… (all of the seat's roots in one cut). By AI agents, Wed Nov 11 2026. No macro, syntax, notation, axiom, sorry.
-/
import Derived.Test.YtagpkeehkcopaaaGreatChecked
import GoSem.Claim
import GoSem.ClaimJoined
import GoSem.ClaimMapViews
import Derived.JoinedTies
import Derived.KernelRfl
namespace Go.Proofs.YtagpkeehkcopaaaGreat
/- THE CELL 'sum', in the pinned program and in every row, IS THE sha256 OF THE DUMP (.gsa) THAT YtagpkeehkcopaaaGreatProg.lean LOADS. Nothing in Lean hashes anything: it is a label: what it is worth is what the hold of that sum in a sandbox is worth. -/
noncomputable def Tryz.pinned : Pinned := { name := "ytagpkeehkcopaaagreat", sum := "07ba73e6e5f44ee8072cec65238061b7f3f1f596c6ea77a9aef1a646f94a06c9", checked := Tryz.checked }
namespace Rows
def none {H : Type} : Left H := { results := [], args := [] }

/-- 'skewbacklaw17.BroadBoxesMatchSpec': WHATEVER THE INPUT: true; the input reads as it did. -/
def broadBoxesMatchSpecSpec : ChangeSpec := { name := "broadBoxesMatchSpec", fn := fun _ => fun
  | [d1, d2, d3] => { results := [.lit (.bool true)], args := [d1, d2, d3] }
  | _ => none }
def broadBoxesMatchSpecRow : OpenClaim := { program := "ytagpkeehkcopaaagreat", sum := "07ba73e6e5f44ee8072cec65238061b7f3f1f596c6ea77a9aef1a646f94a06c9", func := "skewback/skewbacklaw17.BroadBoxesMatchSpec", spec := "broadBoxesMatchSpec", unfollowed := true, recurses := true, apart := false }
def BroadBoxesMatchSpecSaid : Prop := broadBoxesMatchSpecRow.holds Tryz.pinned (OpenSpec.ofChange broadBoxesMatchSpecSpec)

/-- ITS FALSE NEIGHBOUR: 'it returns false'. Refute it at one input. -/
def broadBoxesMatchSpecWrong : ChangeSpec := { name := "broadBoxesMatchSpec", fn := fun _ => fun
  | [d1, d2, d3] => { results := [.lit (.bool false)], args := [d1, d2, d3] }
  | _ => none }
def BroadBoxesMatchSpecWrongFalsely : Prop := broadBoxesMatchSpecRow.holds Tryz.pinned (OpenSpec.ofChange broadBoxesMatchSpecWrong)

/-- 'skewbacklaw17.BroadPairsMatchSpec': WHATEVER THE INPUT: true; the input reads as it did. -/
def broadPairsMatchSpecSpec : ChangeSpec := { name := "broadPairsMatchSpec", fn := fun _ => fun
  | [d] => { results := [.lit (.bool true)], args := [d] }
  | _ => none }
def broadPairsMatchSpecRow : OpenClaim := { program := "ytagpkeehkcopaaagreat", sum := "07ba73e6e5f44ee8072cec65238061b7f3f1f596c6ea77a9aef1a646f94a06c9", func := "skewback/skewbacklaw17.BroadPairsMatchSpec", spec := "broadPairsMatchSpec", unfollowed := true, recurses := true, apart := false }
def BroadPairsMatchSpecSaid : Prop := broadPairsMatchSpecRow.holds Tryz.pinned (OpenSpec.ofChange broadPairsMatchSpecSpec)

/-- ITS FALSE NEIGHBOUR: 'it returns false'. Refute it at one input. -/
def broadPairsMatchSpecWrong : ChangeSpec := { name := "broadPairsMatchSpec", fn := fun _ => fun
  | [d] => { results := [.lit (.bool false)], args := [d] }
  | _ => none }
def BroadPairsMatchSpecWrongFalsely : Prop := broadPairsMatchSpecRow.holds Tryz.pinned (OpenSpec.ofChange broadPairsMatchSpecWrong)

/-- 'skewbacklaw17.BroadPairsAreComplete': WHATEVER THE INPUT: true; the input reads as it did. -/
def broadPairsAreCompleteSpec : ChangeSpec := { name := "broadPairsAreComplete", fn := fun _ => fun
  | [d] => { results := [.lit (.bool true)], args := [d] }
  | _ => none }
def broadPairsAreCompleteRow : OpenClaim := { program := "ytagpkeehkcopaaagreat", sum := "07ba73e6e5f44ee8072cec65238061b7f3f1f596c6ea77a9aef1a646f94a06c9", func := "skewback/skewbacklaw17.BroadPairsAreComplete", spec := "broadPairsAreComplete", unfollowed := true, recurses := true, apart := false }
def BroadPairsAreCompleteSaid : Prop := broadPairsAreCompleteRow.holds Tryz.pinned (OpenSpec.ofChange broadPairsAreCompleteSpec)

/-- ITS FALSE NEIGHBOUR: 'it returns false'. Refute it at one input. -/
def broadPairsAreCompleteWrong : ChangeSpec := { name := "broadPairsAreComplete", fn := fun _ => fun
  | [d] => { results := [.lit (.bool false)], args := [d] }
  | _ => none }
def BroadPairsAreCompleteWrongFalsely : Prop := broadPairsAreCompleteRow.holds Tryz.pinned (OpenSpec.ofChange broadPairsAreCompleteWrong)

/-- 'skewbacklaw17.BroadChangesAddUp': WHATEVER THE INPUT: true; the input reads as it did. -/
def broadChangesAddUpSpec : ChangeSpec := { name := "broadChangesAddUp", fn := fun _ => fun
  | [d1, d2, d3] => { results := [.lit (.bool true)], args := [d1, d2, d3] }
  | _ => none }
def broadChangesAddUpRow : OpenClaim := { program := "ytagpkeehkcopaaagreat", sum := "07ba73e6e5f44ee8072cec65238061b7f3f1f596c6ea77a9aef1a646f94a06c9", func := "skewback/skewbacklaw17.BroadChangesAddUp", spec := "broadChangesAddUp", unfollowed := true, recurses := true, apart := false }
def BroadChangesAddUpSaid : Prop := broadChangesAddUpRow.holds Tryz.pinned (OpenSpec.ofChange broadChangesAddUpSpec)

/-- ITS FALSE NEIGHBOUR: 'it returns false'. Refute it at one input. -/
def broadChangesAddUpWrong : ChangeSpec := { name := "broadChangesAddUp", fn := fun _ => fun
  | [d1, d2, d3] => { results := [.lit (.bool false)], args := [d1, d2, d3] }
  | _ => none }
def BroadChangesAddUpWrongFalsely : Prop := broadChangesAddUpRow.holds Tryz.pinned (OpenSpec.ofChange broadChangesAddUpWrong)

/-- 'skewbacklaw17.BroadGrowsByGaps': WHATEVER THE INPUT: true; the input reads as it did. -/
def broadGrowsByGapsSpec : ChangeSpec := { name := "broadGrowsByGaps", fn := fun _ => fun
  | [d1, d2, d3] => { results := [.lit (.bool true)], args := [d1, d2, d3] }
  | _ => none }
def broadGrowsByGapsRow : OpenClaim := { program := "ytagpkeehkcopaaagreat", sum := "07ba73e6e5f44ee8072cec65238061b7f3f1f596c6ea77a9aef1a646f94a06c9", func := "skewback/skewbacklaw17.BroadGrowsByGaps", spec := "broadGrowsByGaps", unfollowed := true, recurses := true, apart := false }
def BroadGrowsByGapsSaid : Prop := broadGrowsByGapsRow.holds Tryz.pinned (OpenSpec.ofChange broadGrowsByGapsSpec)

/-- ITS FALSE NEIGHBOUR: 'it returns false'. Refute it at one input. -/
def broadGrowsByGapsWrong : ChangeSpec := { name := "broadGrowsByGaps", fn := fun _ => fun
  | [d1, d2, d3] => { results := [.lit (.bool false)], args := [d1, d2, d3] }
  | _ => none }
def BroadGrowsByGapsWrongFalsely : Prop := broadGrowsByGapsRow.holds Tryz.pinned (OpenSpec.ofChange broadGrowsByGapsWrong)

/-- 'skewbacklaw17.BroadOrderDoesNotMatter': WHATEVER THE INPUT: true; the input reads as it did. -/
def broadOrderDoesNotMatterSpec : ChangeSpec := { name := "broadOrderDoesNotMatter", fn := fun _ => fun
  | [d1, d2, d3] => { results := [.lit (.bool true)], args := [d1, d2, d3] }
  | _ => none }
def broadOrderDoesNotMatterRow : OpenClaim := { program := "ytagpkeehkcopaaagreat", sum := "07ba73e6e5f44ee8072cec65238061b7f3f1f596c6ea77a9aef1a646f94a06c9", func := "skewback/skewbacklaw17.BroadOrderDoesNotMatter", spec := "broadOrderDoesNotMatter", unfollowed := true, recurses := true, apart := false }
def BroadOrderDoesNotMatterSaid : Prop := broadOrderDoesNotMatterRow.holds Tryz.pinned (OpenSpec.ofChange broadOrderDoesNotMatterSpec)

/-- ITS FALSE NEIGHBOUR: 'it returns false'. Refute it at one input. -/
def broadOrderDoesNotMatterWrong : ChangeSpec := { name := "broadOrderDoesNotMatter", fn := fun _ => fun
  | [d1, d2, d3] => { results := [.lit (.bool false)], args := [d1, d2, d3] }
  | _ => none }
def BroadOrderDoesNotMatterWrongFalsely : Prop := broadOrderDoesNotMatterRow.holds Tryz.pinned (OpenSpec.ofChange broadOrderDoesNotMatterWrong)

/-- 'skewbacklaw17.BroadSetMatchesSpec': WHATEVER THE INPUT: true; the input reads as it did. -/
def broadSetMatchesSpecSpec : ChangeSpec := { name := "broadSetMatchesSpec", fn := fun _ => fun
  | [d1, d2] => { results := [.lit (.bool true)], args := [d1, d2] }
  | _ => none }
def broadSetMatchesSpecRow : OpenClaim := { program := "ytagpkeehkcopaaagreat", sum := "07ba73e6e5f44ee8072cec65238061b7f3f1f596c6ea77a9aef1a646f94a06c9", func := "skewback/skewbacklaw17.BroadSetMatchesSpec", spec := "broadSetMatchesSpec", unfollowed := true, recurses := true, apart := false }
def BroadSetMatchesSpecSaid : Prop := broadSetMatchesSpecRow.holds Tryz.pinned (OpenSpec.ofChange broadSetMatchesSpecSpec)

/-- ITS FALSE NEIGHBOUR: 'it returns false'. Refute it at one input. -/
def broadSetMatchesSpecWrong : ChangeSpec := { name := "broadSetMatchesSpec", fn := fun _ => fun
  | [d1, d2] => { results := [.lit (.bool false)], args := [d1, d2] }
  | _ => none }
def BroadSetMatchesSpecWrongFalsely : Prop := broadSetMatchesSpecRow.holds Tryz.pinned (OpenSpec.ofChange broadSetMatchesSpecWrong)

/-- 'skewbacklaw17.BroadIsPersistent': WHATEVER THE INPUT: true; the input reads as it did. -/
def broadIsPersistentSpec : ChangeSpec := { name := "broadIsPersistent", fn := fun _ => fun
  | [d1, d2, d3, d4] => { results := [.lit (.bool true)], args := [d1, d2, d3, d4] }
  | _ => none }
def broadIsPersistentRow : OpenClaim := { program := "ytagpkeehkcopaaagreat", sum := "07ba73e6e5f44ee8072cec65238061b7f3f1f596c6ea77a9aef1a646f94a06c9", func := "skewback/skewbacklaw17.BroadIsPersistent", spec := "broadIsPersistent", unfollowed := true, recurses := true, apart := false }
def BroadIsPersistentSaid : Prop := broadIsPersistentRow.holds Tryz.pinned (OpenSpec.ofChange broadIsPersistentSpec)

/-- ITS FALSE NEIGHBOUR: 'it returns false'. Refute it at one input. -/
def broadIsPersistentWrong : ChangeSpec := { name := "broadIsPersistent", fn := fun _ => fun
  | [d1, d2, d3, d4] => { results := [.lit (.bool false)], args := [d1, d2, d3, d4] }
  | _ => none }
def BroadIsPersistentWrongFalsely : Prop := broadIsPersistentRow.holds Tryz.pinned (OpenSpec.ofChange broadIsPersistentWrong)

/- THE SECOND FORM. 'bulk': how many values and letters a reading holds, each counted each time it is reached (what is shared counts as often as it is met; a slice's spare places count too). A statement '..UptoSaid' is the law's where the arguments, and the package variables that the reading takes, are together of bulk at most 1048576: NARROWER than '..Said'. Prove '..Said' where nothing that the law and all that it calls make is longer than what came in: it says more and counts as full. Else prove '..UptoSaid'. A law counts once. -/
mutual
def uptoBulk {H : Type} : DataW H → Nat
  | .lit (.string bytes) => bytes.length + 1
  | .lit _ => 1
  | .nil => 1
  | .ptr d => uptoBulk d + 1
  | .slice elems spare => uptoBulkAll elems + uptoBulkAll spare + 1
  | .agg parts => uptoBulkAll parts + 1
  | .iface _ d => uptoBulk d + 1
  | .map entries => uptoBulkEntries entries + 1
  | .held _ => 1
def uptoBulkAll {H : Type} : List (DataW H) → Nat
  | [] => 0
  | d :: r => uptoBulk d + uptoBulkAll r
def uptoBulkEntries {H : Type} : List (Lit × DataW H) → Nat
  | [] => 0
  | x :: r => uptoBulkEntry x + uptoBulkEntries r
def uptoBulkEntry {H : Type} : Lit × DataW H → Nat
  | (.string bytes, d) => bytes.length + uptoBulk d + 1
  | (_, d) => uptoBulk d + 1
 end
def uptoSmall : (H : Type) → List (DataW H) → Bool := fun _ ds => decide (uptoBulkAll ds ≤ 1048576)
def OpenSpec.upto (s : _root_.Go.ChangeSpec) : _root_.Go.OpenSpec := { _root_.Go.OpenSpec.ofChange s with cond := some uptoSmall }

/-- 'skewbacklaw17.BroadBoxesMatchSpec', WHERE WHAT IT READS IS OF BULK AT MOST 1048576: true; the input reads as it did. -/
def broadBoxesMatchSpecUptoRow : OpenClaim := { program := "ytagpkeehkcopaaagreat", sum := "07ba73e6e5f44ee8072cec65238061b7f3f1f596c6ea77a9aef1a646f94a06c9", func := "skewback/skewbacklaw17.BroadBoxesMatchSpec", spec := "broadBoxesMatchSpec", unfollowed := true, recurses := true, apart := false, narrowed := true }
def BroadBoxesMatchSpecUptoSaid : Prop := broadBoxesMatchSpecUptoRow.holds Tryz.pinned (OpenSpec.upto broadBoxesMatchSpecSpec)

/-- 'skewbacklaw17.BroadPairsMatchSpec', WHERE WHAT IT READS IS OF BULK AT MOST 1048576: true; the input reads as it did. -/
def broadPairsMatchSpecUptoRow : OpenClaim := { program := "ytagpkeehkcopaaagreat", sum := "07ba73e6e5f44ee8072cec65238061b7f3f1f596c6ea77a9aef1a646f94a06c9", func := "skewback/skewbacklaw17.BroadPairsMatchSpec", spec := "broadPairsMatchSpec", unfollowed := true, recurses := true, apart := false, narrowed := true }
def BroadPairsMatchSpecUptoSaid : Prop := broadPairsMatchSpecUptoRow.holds Tryz.pinned (OpenSpec.upto broadPairsMatchSpecSpec)

/-- 'skewbacklaw17.BroadPairsAreComplete', WHERE WHAT IT READS IS OF BULK AT MOST 1048576: true; the input reads as it did. -/
def broadPairsAreCompleteUptoRow : OpenClaim := { program := "ytagpkeehkcopaaagreat", sum := "07ba73e6e5f44ee8072cec65238061b7f3f1f596c6ea77a9aef1a646f94a06c9", func := "skewback/skewbacklaw17.BroadPairsAreComplete", spec := "broadPairsAreComplete", unfollowed := true, recurses := true, apart := false, narrowed := true }
def BroadPairsAreCompleteUptoSaid : Prop := broadPairsAreCompleteUptoRow.holds Tryz.pinned (OpenSpec.upto broadPairsAreCompleteSpec)

/-- 'skewbacklaw17.BroadChangesAddUp', WHERE WHAT IT READS IS OF BULK AT MOST 1048576: true; the input reads as it did. -/
def broadChangesAddUpUptoRow : OpenClaim := { program := "ytagpkeehkcopaaagreat", sum := "07ba73e6e5f44ee8072cec65238061b7f3f1f596c6ea77a9aef1a646f94a06c9", func := "skewback/skewbacklaw17.BroadChangesAddUp", spec := "broadChangesAddUp", unfollowed := true, recurses := true, apart := false, narrowed := true }
def BroadChangesAddUpUptoSaid : Prop := broadChangesAddUpUptoRow.holds Tryz.pinned (OpenSpec.upto broadChangesAddUpSpec)

/-- 'skewbacklaw17.BroadGrowsByGaps', WHERE WHAT IT READS IS OF BULK AT MOST 1048576: true; the input reads as it did. -/
def broadGrowsByGapsUptoRow : OpenClaim := { program := "ytagpkeehkcopaaagreat", sum := "07ba73e6e5f44ee8072cec65238061b7f3f1f596c6ea77a9aef1a646f94a06c9", func := "skewback/skewbacklaw17.BroadGrowsByGaps", spec := "broadGrowsByGaps", unfollowed := true, recurses := true, apart := false, narrowed := true }
def BroadGrowsByGapsUptoSaid : Prop := broadGrowsByGapsUptoRow.holds Tryz.pinned (OpenSpec.upto broadGrowsByGapsSpec)

/-- 'skewbacklaw17.BroadOrderDoesNotMatter', WHERE WHAT IT READS IS OF BULK AT MOST 1048576: true; the input reads as it did. -/
def broadOrderDoesNotMatterUptoRow : OpenClaim := { program := "ytagpkeehkcopaaagreat", sum := "07ba73e6e5f44ee8072cec65238061b7f3f1f596c6ea77a9aef1a646f94a06c9", func := "skewback/skewbacklaw17.BroadOrderDoesNotMatter", spec := "broadOrderDoesNotMatter", unfollowed := true, recurses := true, apart := false, narrowed := true }
def BroadOrderDoesNotMatterUptoSaid : Prop := broadOrderDoesNotMatterUptoRow.holds Tryz.pinned (OpenSpec.upto broadOrderDoesNotMatterSpec)

/-- 'skewbacklaw17.BroadSetMatchesSpec', WHERE WHAT IT READS IS OF BULK AT MOST 1048576: true; the input reads as it did. -/
def broadSetMatchesSpecUptoRow : OpenClaim := { program := "ytagpkeehkcopaaagreat", sum := "07ba73e6e5f44ee8072cec65238061b7f3f1f596c6ea77a9aef1a646f94a06c9", func := "skewback/skewbacklaw17.BroadSetMatchesSpec", spec := "broadSetMatchesSpec", unfollowed := true, recurses := true, apart := false, narrowed := true }
def BroadSetMatchesSpecUptoSaid : Prop := broadSetMatchesSpecUptoRow.holds Tryz.pinned (OpenSpec.upto broadSetMatchesSpecSpec)

/-- 'skewbacklaw17.BroadIsPersistent', WHERE WHAT IT READS IS OF BULK AT MOST 1048576: true; the input reads as it did. -/
def broadIsPersistentUptoRow : OpenClaim := { program := "ytagpkeehkcopaaagreat", sum := "07ba73e6e5f44ee8072cec65238061b7f3f1f596c6ea77a9aef1a646f94a06c9", func := "skewback/skewbacklaw17.BroadIsPersistent", spec := "broadIsPersistent", unfollowed := true, recurses := true, apart := false, narrowed := true }
def BroadIsPersistentUptoSaid : Prop := broadIsPersistentUptoRow.holds Tryz.pinned (OpenSpec.upto broadIsPersistentSpec)

end Rows
end Go.Proofs.YtagpkeehkcopaaaGreat
