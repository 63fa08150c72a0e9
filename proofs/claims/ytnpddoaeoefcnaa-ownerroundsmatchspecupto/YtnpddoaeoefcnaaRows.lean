/-
  No cell of these rows narrows 'for every input' (looked for: loops, veiled, ifaces, maps, wideKeys, modest, calm, conditions, laid).
  DERIVED. THE GIVEN ROWS OF THIS SEAT. 6 by the template 'for every input the law returns true; each argument reads behind the call as it read before'; 0 by the template 'total and deterministic' (their statements: YtnpddoaeoefcnaaTotals.lean).
  GIVEN WITH THE SEED: the statements are not yours to turn. If you find one false, say at which input.
  Laid BY PROGRAM, IN A SANDBOX (cutbox-rows.mjs): the forced cells as the released guide's own fill.sh prints them over the translation 51bf6c8f2f8f73df… (all of the seat's roots in one cut). By AI agents, Wed Nov 11 2026. No macro, syntax, notation, axiom, sorry.
-/
import Derived.Test.YtnpddoaeoefcnaaChecked
import GoSem.Claim
import GoSem.ClaimJoined
import GoSem.ClaimMapViews
import Derived.JoinedTies
import Derived.KernelRfl
namespace Go.Proofs.Ytnpddoaeoefcnaa
/- THE CELL 'sum', in the pinned program and in every row, IS THE sha256 OF THE DUMP (.gsa) THAT YtnpddoaeoefcnaaProg.lean LOADS. Nothing in Lean hashes anything: it is a label: what it is worth is what the hold of that sum in a sandbox is worth. -/
noncomputable def Try.pinned : Pinned := { name := "ytnpddoaeoefcnaa", sum := "51bf6c8f2f8f73df874c08442d40d3b1ef4603109e41b11d4f21ad320ce53763", checked := Try.checked }
namespace Rows
def none {H : Type} : Left H := { results := [], args := [] }

/-- 'skewbacklaw44.OwnerRoundsMatchSpec': WHATEVER THE INPUT: true; the input reads as it did. -/
def ownerRoundsMatchSpecSpec : ChangeSpec := { name := "ownerRoundsMatchSpec", fn := fun _ => fun
  | [d1, d2, d3, d4, d5, d6, d7] => { results := [.lit (.bool true)], args := [d1, d2, d3, d4, d5, d6, d7] }
  | _ => none }
def ownerRoundsMatchSpecRow : OpenClaim := { program := "ytnpddoaeoefcnaa", sum := "51bf6c8f2f8f73df874c08442d40d3b1ef4603109e41b11d4f21ad320ce53763", func := "skewback/skewbacklaw44.OwnerRoundsMatchSpec", spec := "ownerRoundsMatchSpec", unfollowed := true, recurses := true, apart := false }
def OwnerRoundsMatchSpecSaid : Prop := ownerRoundsMatchSpecRow.holds Try.pinned (OpenSpec.ofChange ownerRoundsMatchSpecSpec)

/-- ITS FALSE NEIGHBOUR: 'it returns false'. Refute it at one input. -/
def ownerRoundsMatchSpecWrong : ChangeSpec := { name := "ownerRoundsMatchSpec", fn := fun _ => fun
  | [d1, d2, d3, d4, d5, d6, d7] => { results := [.lit (.bool false)], args := [d1, d2, d3, d4, d5, d6, d7] }
  | _ => none }
def OwnerRoundsMatchSpecWrongFalsely : Prop := ownerRoundsMatchSpecRow.holds Try.pinned (OpenSpec.ofChange ownerRoundsMatchSpecWrong)

/-- 'skewbacklaw44.OwnerTasksPartition': WHATEVER THE INPUT: true; the input reads as it did. -/
def ownerTasksPartitionSpec : ChangeSpec := { name := "ownerTasksPartition", fn := fun _ => fun
  | [d1, d2] => { results := [.lit (.bool true)], args := [d1, d2] }
  | _ => none }
def ownerTasksPartitionRow : OpenClaim := { program := "ytnpddoaeoefcnaa", sum := "51bf6c8f2f8f73df874c08442d40d3b1ef4603109e41b11d4f21ad320ce53763", func := "skewback/skewbacklaw44.OwnerTasksPartition", spec := "ownerTasksPartition", unfollowed := true, recurses := true, apart := false }
def OwnerTasksPartitionSaid : Prop := ownerTasksPartitionRow.holds Try.pinned (OpenSpec.ofChange ownerTasksPartitionSpec)

/-- ITS FALSE NEIGHBOUR: 'it returns false'. Refute it at one input. -/
def ownerTasksPartitionWrong : ChangeSpec := { name := "ownerTasksPartition", fn := fun _ => fun
  | [d1, d2] => { results := [.lit (.bool false)], args := [d1, d2] }
  | _ => none }
def OwnerTasksPartitionWrongFalsely : Prop := ownerTasksPartitionRow.holds Try.pinned (OpenSpec.ofChange ownerTasksPartitionWrong)

/-- 'skewbacklaw44.OwnersAgree': WHATEVER THE INPUT: true; the input reads as it did. -/
def ownersAgreeSpec : ChangeSpec := { name := "ownersAgree", fn := fun _ => fun
  | [d1, d2, d3, d4] => { results := [.lit (.bool true)], args := [d1, d2, d3, d4] }
  | _ => none }
def ownersAgreeRow : OpenClaim := { program := "ytnpddoaeoefcnaa", sum := "51bf6c8f2f8f73df874c08442d40d3b1ef4603109e41b11d4f21ad320ce53763", func := "skewback/skewbacklaw44.OwnersAgree", spec := "ownersAgree", unfollowed := true, recurses := true, apart := false }
def OwnersAgreeSaid : Prop := ownersAgreeRow.holds Try.pinned (OpenSpec.ofChange ownersAgreeSpec)

/-- ITS FALSE NEIGHBOUR: 'it returns false'. Refute it at one input. -/
def ownersAgreeWrong : ChangeSpec := { name := "ownersAgree", fn := fun _ => fun
  | [d1, d2, d3, d4] => { results := [.lit (.bool false)], args := [d1, d2, d3, d4] }
  | _ => none }
def OwnersAgreeWrongFalsely : Prop := ownersAgreeRow.holds Try.pinned (OpenSpec.ofChange ownersAgreeWrong)

/-- 'skewbacklaw44.OwnerForgetsDoubles': WHATEVER THE INPUT: true; the input reads as it did. -/
def ownerForgetsDoublesSpec : ChangeSpec := { name := "ownerForgetsDoubles", fn := fun _ => fun
  | [d1, d2, d3, d4, d5, d6, d7] => { results := [.lit (.bool true)], args := [d1, d2, d3, d4, d5, d6, d7] }
  | _ => none }
def ownerForgetsDoublesRow : OpenClaim := { program := "ytnpddoaeoefcnaa", sum := "51bf6c8f2f8f73df874c08442d40d3b1ef4603109e41b11d4f21ad320ce53763", func := "skewback/skewbacklaw44.OwnerForgetsDoubles", spec := "ownerForgetsDoubles", unfollowed := true, recurses := true, apart := false }
def OwnerForgetsDoublesSaid : Prop := ownerForgetsDoublesRow.holds Try.pinned (OpenSpec.ofChange ownerForgetsDoublesSpec)

/-- ITS FALSE NEIGHBOUR: 'it returns false'. Refute it at one input. -/
def ownerForgetsDoublesWrong : ChangeSpec := { name := "ownerForgetsDoubles", fn := fun _ => fun
  | [d1, d2, d3, d4, d5, d6, d7] => { results := [.lit (.bool false)], args := [d1, d2, d3, d4, d5, d6, d7] }
  | _ => none }
def OwnerForgetsDoublesWrongFalsely : Prop := ownerForgetsDoublesRow.holds Try.pinned (OpenSpec.ofChange ownerForgetsDoublesWrong)

/-- 'skewbacklaw44.OwnerSharesAsSpecified': WHATEVER THE INPUT: true; the input reads as it did. -/
def ownerSharesAsSpecifiedSpec : ChangeSpec := { name := "ownerSharesAsSpecified", fn := fun _ => fun
  | [d1, d2, d3, d4, d5] => { results := [.lit (.bool true)], args := [d1, d2, d3, d4, d5] }
  | _ => none }
def ownerSharesAsSpecifiedRow : OpenClaim := { program := "ytnpddoaeoefcnaa", sum := "51bf6c8f2f8f73df874c08442d40d3b1ef4603109e41b11d4f21ad320ce53763", func := "skewback/skewbacklaw44.OwnerSharesAsSpecified", spec := "ownerSharesAsSpecified", unfollowed := true, recurses := true, apart := false }
def OwnerSharesAsSpecifiedSaid : Prop := ownerSharesAsSpecifiedRow.holds Try.pinned (OpenSpec.ofChange ownerSharesAsSpecifiedSpec)

/-- ITS FALSE NEIGHBOUR: 'it returns false'. Refute it at one input. -/
def ownerSharesAsSpecifiedWrong : ChangeSpec := { name := "ownerSharesAsSpecified", fn := fun _ => fun
  | [d1, d2, d3, d4, d5] => { results := [.lit (.bool false)], args := [d1, d2, d3, d4, d5] }
  | _ => none }
def OwnerSharesAsSpecifiedWrongFalsely : Prop := ownerSharesAsSpecifiedRow.holds Try.pinned (OpenSpec.ofChange ownerSharesAsSpecifiedWrong)

/-- 'skewbacklaw44.OwnerSharesMeet': WHATEVER THE INPUT: true; the input reads as it did. -/
def ownerSharesMeetSpec : ChangeSpec := { name := "ownerSharesMeet", fn := fun _ => fun
  | [d1, d2, d3] => { results := [.lit (.bool true)], args := [d1, d2, d3] }
  | _ => none }
def ownerSharesMeetRow : OpenClaim := { program := "ytnpddoaeoefcnaa", sum := "51bf6c8f2f8f73df874c08442d40d3b1ef4603109e41b11d4f21ad320ce53763", func := "skewback/skewbacklaw44.OwnerSharesMeet", spec := "ownerSharesMeet", unfollowed := true, recurses := true, apart := false }
def OwnerSharesMeetSaid : Prop := ownerSharesMeetRow.holds Try.pinned (OpenSpec.ofChange ownerSharesMeetSpec)

/-- ITS FALSE NEIGHBOUR: 'it returns false'. Refute it at one input. -/
def ownerSharesMeetWrong : ChangeSpec := { name := "ownerSharesMeet", fn := fun _ => fun
  | [d1, d2, d3] => { results := [.lit (.bool false)], args := [d1, d2, d3] }
  | _ => none }
def OwnerSharesMeetWrongFalsely : Prop := ownerSharesMeetRow.holds Try.pinned (OpenSpec.ofChange ownerSharesMeetWrong)

/- THE SECOND FORM. 'bulk': how many values and letters a reading holds, each counted each time it is reached (what is shared counts as often as it is met; a slice's spare places count too). A statement '..UptoSaid' is the law's where the arguments, and the package variables that the reading takes, are together of bulk at most 1048576: NARROWER than '..Said'. Prove '..Said' where nothing that the law and all that it calls make is longer than what came in: it says more and counts as full. Else prove '..UptoSaid'. A law counts once. -/
mutual
def uptoBulk {H : Type} : DataW H → Nat
  | .lit (.string bytes) => bytes.length + 1
  | .lit _ => 1
  | .nil => 1
  | .ptr d => uptoBulk d + 1
  | .slice elems spare => uptoBulkAll elems + uptoBulkAll spare + 1
  | .agg parts => uptoBulkAll parts + 1
  | .iface _ d => uptoBulk d + 1
  | .map entries => uptoBulkEntries entries + 1
  | .held _ => 1
def uptoBulkAll {H : Type} : List (DataW H) → Nat
  | [] => 0
  | d :: r => uptoBulk d + uptoBulkAll r
def uptoBulkEntries {H : Type} : List (Lit × DataW H) → Nat
  | [] => 0
  | x :: r => uptoBulkEntry x + uptoBulkEntries r
def uptoBulkEntry {H : Type} : Lit × DataW H → Nat
  | (.string bytes, d) => bytes.length + uptoBulk d + 1
  | (_, d) => uptoBulk d + 1
 end
def uptoSmall : (H : Type) → List (DataW H) → Bool := fun _ ds => decide (uptoBulkAll ds ≤ 1048576)
def OpenSpec.upto (s : _root_.Go.ChangeSpec) : _root_.Go.OpenSpec := { _root_.Go.OpenSpec.ofChange s with cond := some uptoSmall }

/-- 'skewbacklaw44.OwnerRoundsMatchSpec', WHERE WHAT IT READS IS OF BULK AT MOST 1048576: true; the input reads as it did. -/
def ownerRoundsMatchSpecUptoRow : OpenClaim := { program := "ytnpddoaeoefcnaa", sum := "51bf6c8f2f8f73df874c08442d40d3b1ef4603109e41b11d4f21ad320ce53763", func := "skewback/skewbacklaw44.OwnerRoundsMatchSpec", spec := "ownerRoundsMatchSpec", unfollowed := true, recurses := true, apart := false, narrowed := true }
def OwnerRoundsMatchSpecUptoSaid : Prop := ownerRoundsMatchSpecUptoRow.holds Try.pinned (OpenSpec.upto ownerRoundsMatchSpecSpec)

/-- 'skewbacklaw44.OwnerTasksPartition', WHERE WHAT IT READS IS OF BULK AT MOST 1048576: true; the input reads as it did. -/
def ownerTasksPartitionUptoRow : OpenClaim := { program := "ytnpddoaeoefcnaa", sum := "51bf6c8f2f8f73df874c08442d40d3b1ef4603109e41b11d4f21ad320ce53763", func := "skewback/skewbacklaw44.OwnerTasksPartition", spec := "ownerTasksPartition", unfollowed := true, recurses := true, apart := false, narrowed := true }
def OwnerTasksPartitionUptoSaid : Prop := ownerTasksPartitionUptoRow.holds Try.pinned (OpenSpec.upto ownerTasksPartitionSpec)

/-- 'skewbacklaw44.OwnersAgree', WHERE WHAT IT READS IS OF BULK AT MOST 1048576: true; the input reads as it did. -/
def ownersAgreeUptoRow : OpenClaim := { program := "ytnpddoaeoefcnaa", sum := "51bf6c8f2f8f73df874c08442d40d3b1ef4603109e41b11d4f21ad320ce53763", func := "skewback/skewbacklaw44.OwnersAgree", spec := "ownersAgree", unfollowed := true, recurses := true, apart := false, narrowed := true }
def OwnersAgreeUptoSaid : Prop := ownersAgreeUptoRow.holds Try.pinned (OpenSpec.upto ownersAgreeSpec)

/-- 'skewbacklaw44.OwnerForgetsDoubles', WHERE WHAT IT READS IS OF BULK AT MOST 1048576: true; the input reads as it did. -/
def ownerForgetsDoublesUptoRow : OpenClaim := { program := "ytnpddoaeoefcnaa", sum := "51bf6c8f2f8f73df874c08442d40d3b1ef4603109e41b11d4f21ad320ce53763", func := "skewback/skewbacklaw44.OwnerForgetsDoubles", spec := "ownerForgetsDoubles", unfollowed := true, recurses := true, apart := false, narrowed := true }
def OwnerForgetsDoublesUptoSaid : Prop := ownerForgetsDoublesUptoRow.holds Try.pinned (OpenSpec.upto ownerForgetsDoublesSpec)

/-- 'skewbacklaw44.OwnerSharesAsSpecified', WHERE WHAT IT READS IS OF BULK AT MOST 1048576: true; the input reads as it did. -/
def ownerSharesAsSpecifiedUptoRow : OpenClaim := { program := "ytnpddoaeoefcnaa", sum := "51bf6c8f2f8f73df874c08442d40d3b1ef4603109e41b11d4f21ad320ce53763", func := "skewback/skewbacklaw44.OwnerSharesAsSpecified", spec := "ownerSharesAsSpecified", unfollowed := true, recurses := true, apart := false, narrowed := true }
def OwnerSharesAsSpecifiedUptoSaid : Prop := ownerSharesAsSpecifiedUptoRow.holds Try.pinned (OpenSpec.upto ownerSharesAsSpecifiedSpec)

/-- 'skewbacklaw44.OwnerSharesMeet', WHERE WHAT IT READS IS OF BULK AT MOST 1048576: true; the input reads as it did. -/
def ownerSharesMeetUptoRow : OpenClaim := { program := "ytnpddoaeoefcnaa", sum := "51bf6c8f2f8f73df874c08442d40d3b1ef4603109e41b11d4f21ad320ce53763", func := "skewback/skewbacklaw44.OwnerSharesMeet", spec := "ownerSharesMeet", unfollowed := true, recurses := true, apart := false, narrowed := true }
def OwnerSharesMeetUptoSaid : Prop := ownerSharesMeetUptoRow.holds Try.pinned (OpenSpec.upto ownerSharesMeetSpec)

end Rows
end Go.Proofs.Ytnpddoaeoefcnaa
