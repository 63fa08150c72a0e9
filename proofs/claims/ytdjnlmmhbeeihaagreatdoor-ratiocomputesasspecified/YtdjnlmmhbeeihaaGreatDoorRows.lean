/-
  NARROWER THAN 'FOR EVERY INPUT', by the rows' own cells (each row's printed sentence says how): RatioMakesAsSpecified: laid · RatioRoundsAsSpecified: laid · RatioOrders: laid · RatioIsAField: laid · RatioRounds: laid · RatioSimplestIsSimplest: laid · RatioTexts: laid · RatioComputesAsSpecified: laid.
  DERIVED. THE GIVEN ROWS OF THIS SEAT. 8 by the template 'for every input the law returns true; each argument reads behind the call as it read before'; 0 by the template 'total and deterministic' (their statements: YtdjnlmmhbeeihaaGreatDoorTotals.lean).
  GIVEN WITH THE SEED: the statements are not yours to turn. If you find one false, say at which input.
  Laid BY PROGRAM, IN A SANDBOX (cutbox-rows.mjs): the forced cells as the released guide's own fill.sh prints them over the translation 57f506ecb4682c3d… (all of the seat's roots in one cut). By AI agents, Wed Nov 11 2026. No macro, syntax, notation, axiom, sorry.
-/
import Derived.Test.YtdjnlmmhbeeihaaGreatDoorChecked
import GoSem.Claim
import GoSem.ClaimJoined
import GoSem.ClaimMapViews
import Derived.JoinedTies
import Derived.KernelRfl
namespace Go.Proofs.YtdjnlmmhbeeihaaGreatDoor
/- THE CELL 'sum', in the pinned program and in every row, IS THE sha256 OF THE DUMP (.gsa) THAT YtdjnlmmhbeeihaaGreatDoorProg.lean LOADS. Nothing in Lean hashes anything: it is a label: what it is worth is what the hold of that sum in a sandbox is worth. -/
noncomputable def Tryz.pinned : Pinned := { name := "ytdjnlmmhbeeihaagreatdoor", sum := "57f506ecb4682c3d2107f6becac2d6855ff06411f8471d0a2ad222ca9f58ee6c", checked := Tryz.checked }
namespace Rows
def none {H : Type} : Left H := { results := [], args := [] }

/- WHAT THE LISTED PACKAGE-LEVEL VARIABLES READ AS WHEN THE CALL BEGINS. Each datum BY PROGRAM (the guide's laid-datum.mjs) off the statement by which the dump's own 'gosem.cut.vars' lays the variable. In a bare row this is a premise. The card (YtdjnlmmhbeeihaaGreatDoorCards.lean) ties it to the program's text. -/
def laid_math_bits_deBruijn32tab {H : Type} : DataW H := .agg [.lit (.int .u8 0), .lit (.int .u8 1), .lit (.int .u8 28), .lit (.int .u8 2), .lit (.int .u8 29), .lit (.int .u8 14), .lit (.int .u8 24), .lit (.int .u8 3), .lit (.int .u8 30), .lit (.int .u8 22), .lit (.int .u8 20), .lit (.int .u8 15), .lit (.int .u8 25), .lit (.int .u8 17), .lit (.int .u8 4), .lit (.int .u8 8), .lit (.int .u8 31), .lit (.int .u8 27), .lit (.int .u8 13), .lit (.int .u8 23), .lit (.int .u8 21), .lit (.int .u8 19), .lit (.int .u8 16), .lit (.int .u8 7), .lit (.int .u8 26), .lit (.int .u8 12), .lit (.int .u8 18), .lit (.int .u8 6), .lit (.int .u8 11), .lit (.int .u8 5), .lit (.int .u8 10), .lit (.int .u8 9)]
def laid_math_bits_deBruijn64tab {H : Type} : DataW H := .agg [.lit (.int .u8 0), .lit (.int .u8 1), .lit (.int .u8 56), .lit (.int .u8 2), .lit (.int .u8 57), .lit (.int .u8 49), .lit (.int .u8 28), .lit (.int .u8 3), .lit (.int .u8 61), .lit (.int .u8 58), .lit (.int .u8 42), .lit (.int .u8 50), .lit (.int .u8 38), .lit (.int .u8 29), .lit (.int .u8 17), .lit (.int .u8 4), .lit (.int .u8 62), .lit (.int .u8 47), .lit (.int .u8 59), .lit (.int .u8 36), .lit (.int .u8 45), .lit (.int .u8 43), .lit (.int .u8 51), .lit (.int .u8 22), .lit (.int .u8 53), .lit (.int .u8 39), .lit (.int .u8 33), .lit (.int .u8 30), .lit (.int .u8 24), .lit (.int .u8 18), .lit (.int .u8 12), .lit (.int .u8 5), .lit (.int .u8 63), .lit (.int .u8 55), .lit (.int .u8 48), .lit (.int .u8 27), .lit (.int .u8 60), .lit (.int .u8 41), .lit (.int .u8 37), .lit (.int .u8 16), .lit (.int .u8 46), .lit (.int .u8 35), .lit (.int .u8 44), .lit (.int .u8 21), .lit (.int .u8 52), .lit (.int .u8 32), .lit (.int .u8 23), .lit (.int .u8 11), .lit (.int .u8 54), .lit (.int .u8 26), .lit (.int .u8 40), .lit (.int .u8 15), .lit (.int .u8 34), .lit (.int .u8 20), .lit (.int .u8 31), .lit (.int .u8 10), .lit (.int .u8 25), .lit (.int .u8 14), .lit (.int .u8 19), .lit (.int .u8 9), .lit (.int .u8 13), .lit (.int .u8 8), .lit (.int .u8 7), .lit (.int .u8 6)]
def laid_internal_strconv_uint64pow10 {H : Type} : DataW H := .agg [.lit (.int .u64 1), .lit (.int .u64 10), .lit (.int .u64 100), .lit (.int .u64 1000), .lit (.int .u64 10000), .lit (.int .u64 100000), .lit (.int .u64 1000000), .lit (.int .u64 10000000), .lit (.int .u64 100000000), .lit (.int .u64 1000000000), .lit (.int .u64 10000000000), .lit (.int .u64 100000000000), .lit (.int .u64 1000000000000), .lit (.int .u64 10000000000000), .lit (.int .u64 100000000000000), .lit (.int .u64 1000000000000000), .lit (.int .u64 10000000000000000), .lit (.int .u64 100000000000000000), .lit (.int .u64 1000000000000000000), .lit (.int .u64 10000000000000000000)]

/-- 'skewbacklaw04.RatioMakesAsSpecified': WHATEVER THE INPUT: true; the input reads as it did. -/
def ratioMakesAsSpecifiedSpec : ChangeSpec := { name := "ratioMakesAsSpecified", fn := fun _ => fun
  | [d1, d2, d3, d4, d5] => { results := [.lit (.bool true)], args := [d1, d2, d3, d4, d5] }
  | _ => none }
def ratioMakesAsSpecifiedRow : OpenClaim := { program := "ytdjnlmmhbeeihaagreatdoor", sum := "57f506ecb4682c3d2107f6becac2d6855ff06411f8471d0a2ad222ca9f58ee6c", func := "skewback/skewbacklaw04.RatioMakesAsSpecified", spec := "ratioMakesAsSpecified", inPlace := ["internal/abi.NoEscape", "internal/bytealg.MakeNoZero", "internal/bytealg.IndexByteString", "internal/bytealg.IndexString"], unfollowed := true, recurses := true, named := ["internal/strconv.uint64pow10", "math/bits.deBruijn32tab", "math/bits.deBruijn64tab", "internal/bytealg.MaxLen"], apart := false, laid := [("math/bits.deBruijn32tab", laid_math_bits_deBruijn32tab), ("math/bits.deBruijn64tab", laid_math_bits_deBruijn64tab), ("internal/strconv.uint64pow10", laid_internal_strconv_uint64pow10)] }
def RatioMakesAsSpecifiedSaid : Prop := ratioMakesAsSpecifiedRow.holds Tryz.pinned (OpenSpec.ofChange ratioMakesAsSpecifiedSpec)

/-- ITS FALSE NEIGHBOUR: 'it returns false'. Refute it at one input. -/
def ratioMakesAsSpecifiedWrong : ChangeSpec := { name := "ratioMakesAsSpecified", fn := fun _ => fun
  | [d1, d2, d3, d4, d5] => { results := [.lit (.bool false)], args := [d1, d2, d3, d4, d5] }
  | _ => none }
def RatioMakesAsSpecifiedWrongFalsely : Prop := ratioMakesAsSpecifiedRow.holds Tryz.pinned (OpenSpec.ofChange ratioMakesAsSpecifiedWrong)

/-- 'skewbacklaw04.RatioRoundsAsSpecified': WHATEVER THE INPUT: true; the input reads as it did. -/
def ratioRoundsAsSpecifiedSpec : ChangeSpec := { name := "ratioRoundsAsSpecified", fn := fun _ => fun
  | [d1, d2] => { results := [.lit (.bool true)], args := [d1, d2] }
  | _ => none }
def ratioRoundsAsSpecifiedRow : OpenClaim := { program := "ytdjnlmmhbeeihaagreatdoor", sum := "57f506ecb4682c3d2107f6becac2d6855ff06411f8471d0a2ad222ca9f58ee6c", func := "skewback/skewbacklaw04.RatioRoundsAsSpecified", spec := "ratioRoundsAsSpecified", inPlace := ["internal/abi.NoEscape", "internal/bytealg.MakeNoZero", "internal/bytealg.IndexByteString", "internal/bytealg.IndexString"], unfollowed := true, recurses := true, named := ["math/bits.deBruijn32tab", "internal/strconv.uint64pow10", "math/bits.deBruijn64tab", "internal/bytealg.MaxLen"], apart := false, laid := [("math/bits.deBruijn32tab", laid_math_bits_deBruijn32tab), ("math/bits.deBruijn64tab", laid_math_bits_deBruijn64tab), ("internal/strconv.uint64pow10", laid_internal_strconv_uint64pow10)] }
def RatioRoundsAsSpecifiedSaid : Prop := ratioRoundsAsSpecifiedRow.holds Tryz.pinned (OpenSpec.ofChange ratioRoundsAsSpecifiedSpec)

/-- ITS FALSE NEIGHBOUR: 'it returns false'. Refute it at one input. -/
def ratioRoundsAsSpecifiedWrong : ChangeSpec := { name := "ratioRoundsAsSpecified", fn := fun _ => fun
  | [d1, d2] => { results := [.lit (.bool false)], args := [d1, d2] }
  | _ => none }
def RatioRoundsAsSpecifiedWrongFalsely : Prop := ratioRoundsAsSpecifiedRow.holds Tryz.pinned (OpenSpec.ofChange ratioRoundsAsSpecifiedWrong)

/-- 'skewbacklaw04.RatioOrders': WHATEVER THE INPUT: true; the input reads as it did. -/
def ratioOrdersSpec : ChangeSpec := { name := "ratioOrders", fn := fun _ => fun
  | [d1, d2, d3] => { results := [.lit (.bool true)], args := [d1, d2, d3] }
  | _ => none }
def ratioOrdersRow : OpenClaim := { program := "ytdjnlmmhbeeihaagreatdoor", sum := "57f506ecb4682c3d2107f6becac2d6855ff06411f8471d0a2ad222ca9f58ee6c", func := "skewback/skewbacklaw04.RatioOrders", spec := "ratioOrders", inPlace := ["internal/abi.NoEscape", "internal/bytealg.MakeNoZero", "internal/bytealg.IndexByteString", "internal/bytealg.IndexString"], unfollowed := true, recurses := true, named := ["internal/strconv.uint64pow10", "math/bits.deBruijn32tab", "math/bits.deBruijn64tab", "internal/bytealg.MaxLen"], apart := false, laid := [("math/bits.deBruijn32tab", laid_math_bits_deBruijn32tab), ("math/bits.deBruijn64tab", laid_math_bits_deBruijn64tab), ("internal/strconv.uint64pow10", laid_internal_strconv_uint64pow10)] }
def RatioOrdersSaid : Prop := ratioOrdersRow.holds Tryz.pinned (OpenSpec.ofChange ratioOrdersSpec)

/-- ITS FALSE NEIGHBOUR: 'it returns false'. Refute it at one input. -/
def ratioOrdersWrong : ChangeSpec := { name := "ratioOrders", fn := fun _ => fun
  | [d1, d2, d3] => { results := [.lit (.bool false)], args := [d1, d2, d3] }
  | _ => none }
def RatioOrdersWrongFalsely : Prop := ratioOrdersRow.holds Tryz.pinned (OpenSpec.ofChange ratioOrdersWrong)

/-- 'skewbacklaw04.RatioIsAField': WHATEVER THE INPUT: true; the input reads as it did. -/
def ratioIsAFieldSpec : ChangeSpec := { name := "ratioIsAField", fn := fun _ => fun
  | [d1, d2, d3] => { results := [.lit (.bool true)], args := [d1, d2, d3] }
  | _ => none }
def ratioIsAFieldRow : OpenClaim := { program := "ytdjnlmmhbeeihaagreatdoor", sum := "57f506ecb4682c3d2107f6becac2d6855ff06411f8471d0a2ad222ca9f58ee6c", func := "skewback/skewbacklaw04.RatioIsAField", spec := "ratioIsAField", inPlace := ["internal/abi.NoEscape", "internal/bytealg.MakeNoZero", "internal/bytealg.IndexByteString", "internal/bytealg.IndexString"], unfollowed := true, recurses := true, named := ["internal/strconv.uint64pow10", "math/bits.deBruijn32tab", "math/bits.deBruijn64tab", "internal/bytealg.MaxLen"], apart := false, laid := [("math/bits.deBruijn32tab", laid_math_bits_deBruijn32tab), ("math/bits.deBruijn64tab", laid_math_bits_deBruijn64tab), ("internal/strconv.uint64pow10", laid_internal_strconv_uint64pow10)] }
def RatioIsAFieldSaid : Prop := ratioIsAFieldRow.holds Tryz.pinned (OpenSpec.ofChange ratioIsAFieldSpec)

/-- ITS FALSE NEIGHBOUR: 'it returns false'. Refute it at one input. -/
def ratioIsAFieldWrong : ChangeSpec := { name := "ratioIsAField", fn := fun _ => fun
  | [d1, d2, d3] => { results := [.lit (.bool false)], args := [d1, d2, d3] }
  | _ => none }
def RatioIsAFieldWrongFalsely : Prop := ratioIsAFieldRow.holds Tryz.pinned (OpenSpec.ofChange ratioIsAFieldWrong)

/-- 'skewbacklaw04.RatioRounds': WHATEVER THE INPUT: true; the input reads as it did. -/
def ratioRoundsSpec : ChangeSpec := { name := "ratioRounds", fn := fun _ => fun
  | [d1, d2] => { results := [.lit (.bool true)], args := [d1, d2] }
  | _ => none }
def ratioRoundsRow : OpenClaim := { program := "ytdjnlmmhbeeihaagreatdoor", sum := "57f506ecb4682c3d2107f6becac2d6855ff06411f8471d0a2ad222ca9f58ee6c", func := "skewback/skewbacklaw04.RatioRounds", spec := "ratioRounds", inPlace := ["internal/abi.NoEscape", "internal/bytealg.MakeNoZero", "internal/bytealg.IndexByteString", "internal/bytealg.IndexString"], unfollowed := true, recurses := true, named := ["internal/strconv.uint64pow10", "math/bits.deBruijn32tab", "math/bits.deBruijn64tab", "internal/bytealg.MaxLen"], apart := false, laid := [("math/bits.deBruijn32tab", laid_math_bits_deBruijn32tab), ("math/bits.deBruijn64tab", laid_math_bits_deBruijn64tab), ("internal/strconv.uint64pow10", laid_internal_strconv_uint64pow10)] }
def RatioRoundsSaid : Prop := ratioRoundsRow.holds Tryz.pinned (OpenSpec.ofChange ratioRoundsSpec)

/-- ITS FALSE NEIGHBOUR: 'it returns false'. Refute it at one input. -/
def ratioRoundsWrong : ChangeSpec := { name := "ratioRounds", fn := fun _ => fun
  | [d1, d2] => { results := [.lit (.bool false)], args := [d1, d2] }
  | _ => none }
def RatioRoundsWrongFalsely : Prop := ratioRoundsRow.holds Tryz.pinned (OpenSpec.ofChange ratioRoundsWrong)

/-- 'skewbacklaw04.RatioSimplestIsSimplest': WHATEVER THE INPUT: true; the input reads as it did. -/
def ratioSimplestIsSimplestSpec : ChangeSpec := { name := "ratioSimplestIsSimplest", fn := fun _ => fun
  | [d1, d2] => { results := [.lit (.bool true)], args := [d1, d2] }
  | _ => none }
def ratioSimplestIsSimplestRow : OpenClaim := { program := "ytdjnlmmhbeeihaagreatdoor", sum := "57f506ecb4682c3d2107f6becac2d6855ff06411f8471d0a2ad222ca9f58ee6c", func := "skewback/skewbacklaw04.RatioSimplestIsSimplest", spec := "ratioSimplestIsSimplest", inPlace := ["internal/abi.NoEscape", "internal/bytealg.MakeNoZero", "internal/bytealg.IndexByteString", "internal/bytealg.IndexString"], unfollowed := true, recurses := true, named := ["internal/strconv.uint64pow10", "math/bits.deBruijn32tab", "math/bits.deBruijn64tab", "internal/bytealg.MaxLen"], apart := false, laid := [("math/bits.deBruijn32tab", laid_math_bits_deBruijn32tab), ("math/bits.deBruijn64tab", laid_math_bits_deBruijn64tab), ("internal/strconv.uint64pow10", laid_internal_strconv_uint64pow10)] }
def RatioSimplestIsSimplestSaid : Prop := ratioSimplestIsSimplestRow.holds Tryz.pinned (OpenSpec.ofChange ratioSimplestIsSimplestSpec)

/-- ITS FALSE NEIGHBOUR: 'it returns false'. Refute it at one input. -/
def ratioSimplestIsSimplestWrong : ChangeSpec := { name := "ratioSimplestIsSimplest", fn := fun _ => fun
  | [d1, d2] => { results := [.lit (.bool false)], args := [d1, d2] }
  | _ => none }
def RatioSimplestIsSimplestWrongFalsely : Prop := ratioSimplestIsSimplestRow.holds Tryz.pinned (OpenSpec.ofChange ratioSimplestIsSimplestWrong)

/-- 'skewbacklaw04.RatioTexts': WHATEVER THE INPUT: true; the input reads as it did. -/
def ratioTextsSpec : ChangeSpec := { name := "ratioTexts", fn := fun _ => fun
  | [d1, d2] => { results := [.lit (.bool true)], args := [d1, d2] }
  | _ => none }
def ratioTextsRow : OpenClaim := { program := "ytdjnlmmhbeeihaagreatdoor", sum := "57f506ecb4682c3d2107f6becac2d6855ff06411f8471d0a2ad222ca9f58ee6c", func := "skewback/skewbacklaw04.RatioTexts", spec := "ratioTexts", inPlace := ["internal/abi.NoEscape", "internal/bytealg.MakeNoZero", "internal/bytealg.IndexByteString", "internal/bytealg.IndexString"], unfollowed := true, recurses := true, named := ["internal/strconv.uint64pow10", "math/bits.deBruijn32tab", "math/bits.deBruijn64tab", "internal/bytealg.MaxLen"], apart := false, laid := [("math/bits.deBruijn32tab", laid_math_bits_deBruijn32tab), ("math/bits.deBruijn64tab", laid_math_bits_deBruijn64tab), ("internal/strconv.uint64pow10", laid_internal_strconv_uint64pow10)] }
def RatioTextsSaid : Prop := ratioTextsRow.holds Tryz.pinned (OpenSpec.ofChange ratioTextsSpec)

/-- ITS FALSE NEIGHBOUR: 'it returns false'. Refute it at one input. -/
def ratioTextsWrong : ChangeSpec := { name := "ratioTexts", fn := fun _ => fun
  | [d1, d2] => { results := [.lit (.bool false)], args := [d1, d2] }
  | _ => none }
def RatioTextsWrongFalsely : Prop := ratioTextsRow.holds Tryz.pinned (OpenSpec.ofChange ratioTextsWrong)

/-- 'skewbacklaw04.RatioComputesAsSpecified': WHATEVER THE INPUT: true; the input reads as it did. -/
def ratioComputesAsSpecifiedSpec : ChangeSpec := { name := "ratioComputesAsSpecified", fn := fun _ => fun
  | [d1, d2, d3] => { results := [.lit (.bool true)], args := [d1, d2, d3] }
  | _ => none }
def ratioComputesAsSpecifiedRow : OpenClaim := { program := "ytdjnlmmhbeeihaagreatdoor", sum := "57f506ecb4682c3d2107f6becac2d6855ff06411f8471d0a2ad222ca9f58ee6c", func := "skewback/skewbacklaw04.RatioComputesAsSpecified", spec := "ratioComputesAsSpecified", inPlace := ["internal/abi.NoEscape", "internal/bytealg.MakeNoZero", "internal/bytealg.IndexByteString", "internal/bytealg.IndexString"], unfollowed := true, recurses := true, named := ["internal/strconv.uint64pow10", "math/bits.deBruijn32tab", "math/bits.deBruijn64tab", "internal/bytealg.MaxLen"], apart := false, laid := [("math/bits.deBruijn32tab", laid_math_bits_deBruijn32tab), ("math/bits.deBruijn64tab", laid_math_bits_deBruijn64tab), ("internal/strconv.uint64pow10", laid_internal_strconv_uint64pow10)] }
def RatioComputesAsSpecifiedSaid : Prop := ratioComputesAsSpecifiedRow.holds Tryz.pinned (OpenSpec.ofChange ratioComputesAsSpecifiedSpec)

/-- ITS FALSE NEIGHBOUR: 'it returns false'. Refute it at one input. -/
def ratioComputesAsSpecifiedWrong : ChangeSpec := { name := "ratioComputesAsSpecified", fn := fun _ => fun
  | [d1, d2, d3] => { results := [.lit (.bool false)], args := [d1, d2, d3] }
  | _ => none }
def RatioComputesAsSpecifiedWrongFalsely : Prop := ratioComputesAsSpecifiedRow.holds Tryz.pinned (OpenSpec.ofChange ratioComputesAsSpecifiedWrong)

/- THE SECOND FORM. 'bulk': how many values and letters a reading holds, each counted each time it is reached (what is shared counts as often as it is met; a slice's spare places count too). A statement '..UptoSaid' is the law's where the arguments, and the package variables that the reading takes, are together of bulk at most 1048576: NARROWER than '..Said'. Prove '..Said' where nothing that the law and all that it calls make is longer than what came in: it says more and counts as full. Else prove '..UptoSaid'. A law counts once. -/
mutual
def uptoBulk {H : Type} : DataW H → Nat
  | .lit (.string bytes) => bytes.length + 1
  | .lit _ => 1
  | .nil => 1
  | .ptr d => uptoBulk d + 1
  | .slice elems spare => uptoBulkAll elems + uptoBulkAll spare + 1
  | .agg parts => uptoBulkAll parts + 1
  | .iface _ d => uptoBulk d + 1
  | .map entries => uptoBulkEntries entries + 1
  | .held _ => 1
def uptoBulkAll {H : Type} : List (DataW H) → Nat
  | [] => 0
  | d :: r => uptoBulk d + uptoBulkAll r
def uptoBulkEntries {H : Type} : List (Lit × DataW H) → Nat
  | [] => 0
  | x :: r => uptoBulkEntry x + uptoBulkEntries r
def uptoBulkEntry {H : Type} : Lit × DataW H → Nat
  | (.string bytes, d) => bytes.length + uptoBulk d + 1
  | (_, d) => uptoBulk d + 1
 end
def uptoSmall : (H : Type) → List (DataW H) → Bool := fun _ ds => decide (uptoBulkAll ds ≤ 1048576)
def OpenSpec.upto (s : _root_.Go.ChangeSpec) : _root_.Go.OpenSpec := { _root_.Go.OpenSpec.ofChange s with cond := some uptoSmall }

/-- 'skewbacklaw04.RatioMakesAsSpecified', WHERE WHAT IT READS IS OF BULK AT MOST 1048576: true; the input reads as it did. -/
def ratioMakesAsSpecifiedUptoRow : OpenClaim := { program := "ytdjnlmmhbeeihaagreatdoor", sum := "57f506ecb4682c3d2107f6becac2d6855ff06411f8471d0a2ad222ca9f58ee6c", func := "skewback/skewbacklaw04.RatioMakesAsSpecified", spec := "ratioMakesAsSpecified", inPlace := ["internal/abi.NoEscape", "internal/bytealg.MakeNoZero", "internal/bytealg.IndexByteString", "internal/bytealg.IndexString"], unfollowed := true, recurses := true, named := ["internal/strconv.uint64pow10", "math/bits.deBruijn32tab", "math/bits.deBruijn64tab", "internal/bytealg.MaxLen"], apart := false, laid := [("math/bits.deBruijn32tab", laid_math_bits_deBruijn32tab), ("math/bits.deBruijn64tab", laid_math_bits_deBruijn64tab), ("internal/strconv.uint64pow10", laid_internal_strconv_uint64pow10)], narrowed := true }
def RatioMakesAsSpecifiedUptoSaid : Prop := ratioMakesAsSpecifiedUptoRow.holds Tryz.pinned (OpenSpec.upto ratioMakesAsSpecifiedSpec)

/-- 'skewbacklaw04.RatioRoundsAsSpecified', WHERE WHAT IT READS IS OF BULK AT MOST 1048576: true; the input reads as it did. -/
def ratioRoundsAsSpecifiedUptoRow : OpenClaim := { program := "ytdjnlmmhbeeihaagreatdoor", sum := "57f506ecb4682c3d2107f6becac2d6855ff06411f8471d0a2ad222ca9f58ee6c", func := "skewback/skewbacklaw04.RatioRoundsAsSpecified", spec := "ratioRoundsAsSpecified", inPlace := ["internal/abi.NoEscape", "internal/bytealg.MakeNoZero", "internal/bytealg.IndexByteString", "internal/bytealg.IndexString"], unfollowed := true, recurses := true, named := ["math/bits.deBruijn32tab", "internal/strconv.uint64pow10", "math/bits.deBruijn64tab", "internal/bytealg.MaxLen"], apart := false, laid := [("math/bits.deBruijn32tab", laid_math_bits_deBruijn32tab), ("math/bits.deBruijn64tab", laid_math_bits_deBruijn64tab), ("internal/strconv.uint64pow10", laid_internal_strconv_uint64pow10)], narrowed := true }
def RatioRoundsAsSpecifiedUptoSaid : Prop := ratioRoundsAsSpecifiedUptoRow.holds Tryz.pinned (OpenSpec.upto ratioRoundsAsSpecifiedSpec)

/-- 'skewbacklaw04.RatioOrders', WHERE WHAT IT READS IS OF BULK AT MOST 1048576: true; the input reads as it did. -/
def ratioOrdersUptoRow : OpenClaim := { program := "ytdjnlmmhbeeihaagreatdoor", sum := "57f506ecb4682c3d2107f6becac2d6855ff06411f8471d0a2ad222ca9f58ee6c", func := "skewback/skewbacklaw04.RatioOrders", spec := "ratioOrders", inPlace := ["internal/abi.NoEscape", "internal/bytealg.MakeNoZero", "internal/bytealg.IndexByteString", "internal/bytealg.IndexString"], unfollowed := true, recurses := true, named := ["internal/strconv.uint64pow10", "math/bits.deBruijn32tab", "math/bits.deBruijn64tab", "internal/bytealg.MaxLen"], apart := false, laid := [("math/bits.deBruijn32tab", laid_math_bits_deBruijn32tab), ("math/bits.deBruijn64tab", laid_math_bits_deBruijn64tab), ("internal/strconv.uint64pow10", laid_internal_strconv_uint64pow10)], narrowed := true }
def RatioOrdersUptoSaid : Prop := ratioOrdersUptoRow.holds Tryz.pinned (OpenSpec.upto ratioOrdersSpec)

/-- 'skewbacklaw04.RatioIsAField', WHERE WHAT IT READS IS OF BULK AT MOST 1048576: true; the input reads as it did. -/
def ratioIsAFieldUptoRow : OpenClaim := { program := "ytdjnlmmhbeeihaagreatdoor", sum := "57f506ecb4682c3d2107f6becac2d6855ff06411f8471d0a2ad222ca9f58ee6c", func := "skewback/skewbacklaw04.RatioIsAField", spec := "ratioIsAField", inPlace := ["internal/abi.NoEscape", "internal/bytealg.MakeNoZero", "internal/bytealg.IndexByteString", "internal/bytealg.IndexString"], unfollowed := true, recurses := true, named := ["internal/strconv.uint64pow10", "math/bits.deBruijn32tab", "math/bits.deBruijn64tab", "internal/bytealg.MaxLen"], apart := false, laid := [("math/bits.deBruijn32tab", laid_math_bits_deBruijn32tab), ("math/bits.deBruijn64tab", laid_math_bits_deBruijn64tab), ("internal/strconv.uint64pow10", laid_internal_strconv_uint64pow10)], narrowed := true }
def RatioIsAFieldUptoSaid : Prop := ratioIsAFieldUptoRow.holds Tryz.pinned (OpenSpec.upto ratioIsAFieldSpec)

/-- 'skewbacklaw04.RatioRounds', WHERE WHAT IT READS IS OF BULK AT MOST 1048576: true; the input reads as it did. -/
def ratioRoundsUptoRow : OpenClaim := { program := "ytdjnlmmhbeeihaagreatdoor", sum := "57f506ecb4682c3d2107f6becac2d6855ff06411f8471d0a2ad222ca9f58ee6c", func := "skewback/skewbacklaw04.RatioRounds", spec := "ratioRounds", inPlace := ["internal/abi.NoEscape", "internal/bytealg.MakeNoZero", "internal/bytealg.IndexByteString", "internal/bytealg.IndexString"], unfollowed := true, recurses := true, named := ["internal/strconv.uint64pow10", "math/bits.deBruijn32tab", "math/bits.deBruijn64tab", "internal/bytealg.MaxLen"], apart := false, laid := [("math/bits.deBruijn32tab", laid_math_bits_deBruijn32tab), ("math/bits.deBruijn64tab", laid_math_bits_deBruijn64tab), ("internal/strconv.uint64pow10", laid_internal_strconv_uint64pow10)], narrowed := true }
def RatioRoundsUptoSaid : Prop := ratioRoundsUptoRow.holds Tryz.pinned (OpenSpec.upto ratioRoundsSpec)

/-- 'skewbacklaw04.RatioSimplestIsSimplest', WHERE WHAT IT READS IS OF BULK AT MOST 1048576: true; the input reads as it did. -/
def ratioSimplestIsSimplestUptoRow : OpenClaim := { program := "ytdjnlmmhbeeihaagreatdoor", sum := "57f506ecb4682c3d2107f6becac2d6855ff06411f8471d0a2ad222ca9f58ee6c", func := "skewback/skewbacklaw04.RatioSimplestIsSimplest", spec := "ratioSimplestIsSimplest", inPlace := ["internal/abi.NoEscape", "internal/bytealg.MakeNoZero", "internal/bytealg.IndexByteString", "internal/bytealg.IndexString"], unfollowed := true, recurses := true, named := ["internal/strconv.uint64pow10", "math/bits.deBruijn32tab", "math/bits.deBruijn64tab", "internal/bytealg.MaxLen"], apart := false, laid := [("math/bits.deBruijn32tab", laid_math_bits_deBruijn32tab), ("math/bits.deBruijn64tab", laid_math_bits_deBruijn64tab), ("internal/strconv.uint64pow10", laid_internal_strconv_uint64pow10)], narrowed := true }
def RatioSimplestIsSimplestUptoSaid : Prop := ratioSimplestIsSimplestUptoRow.holds Tryz.pinned (OpenSpec.upto ratioSimplestIsSimplestSpec)

/-- 'skewbacklaw04.RatioTexts', WHERE WHAT IT READS IS OF BULK AT MOST 1048576: true; the input reads as it did. -/
def ratioTextsUptoRow : OpenClaim := { program := "ytdjnlmmhbeeihaagreatdoor", sum := "57f506ecb4682c3d2107f6becac2d6855ff06411f8471d0a2ad222ca9f58ee6c", func := "skewback/skewbacklaw04.RatioTexts", spec := "ratioTexts", inPlace := ["internal/abi.NoEscape", "internal/bytealg.MakeNoZero", "internal/bytealg.IndexByteString", "internal/bytealg.IndexString"], unfollowed := true, recurses := true, named := ["internal/strconv.uint64pow10", "math/bits.deBruijn32tab", "math/bits.deBruijn64tab", "internal/bytealg.MaxLen"], apart := false, laid := [("math/bits.deBruijn32tab", laid_math_bits_deBruijn32tab), ("math/bits.deBruijn64tab", laid_math_bits_deBruijn64tab), ("internal/strconv.uint64pow10", laid_internal_strconv_uint64pow10)], narrowed := true }
def RatioTextsUptoSaid : Prop := ratioTextsUptoRow.holds Tryz.pinned (OpenSpec.upto ratioTextsSpec)

/-- 'skewbacklaw04.RatioComputesAsSpecified', WHERE WHAT IT READS IS OF BULK AT MOST 1048576: true; the input reads as it did. -/
def ratioComputesAsSpecifiedUptoRow : OpenClaim := { program := "ytdjnlmmhbeeihaagreatdoor", sum := "57f506ecb4682c3d2107f6becac2d6855ff06411f8471d0a2ad222ca9f58ee6c", func := "skewback/skewbacklaw04.RatioComputesAsSpecified", spec := "ratioComputesAsSpecified", inPlace := ["internal/abi.NoEscape", "internal/bytealg.MakeNoZero", "internal/bytealg.IndexByteString", "internal/bytealg.IndexString"], unfollowed := true, recurses := true, named := ["internal/strconv.uint64pow10", "math/bits.deBruijn32tab", "math/bits.deBruijn64tab", "internal/bytealg.MaxLen"], apart := false, laid := [("math/bits.deBruijn32tab", laid_math_bits_deBruijn32tab), ("math/bits.deBruijn64tab", laid_math_bits_deBruijn64tab), ("internal/strconv.uint64pow10", laid_internal_strconv_uint64pow10)], narrowed := true }
def RatioComputesAsSpecifiedUptoSaid : Prop := ratioComputesAsSpecifiedUptoRow.holds Tryz.pinned (OpenSpec.upto ratioComputesAsSpecifiedSpec)

end Rows
end Go.Proofs.YtdjnlmmhbeeihaaGreatDoor
