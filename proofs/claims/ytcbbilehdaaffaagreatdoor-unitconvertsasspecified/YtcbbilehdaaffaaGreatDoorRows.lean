/-
  NARROWER THAN 'FOR EVERY INPUT', by the rows' own cells (each row's printed sentence says how): UnitConvertsAsSpecified: laid · UnitPrintsBack: laid · UnitReadsDecimals: laid · UnitComputesAsSpecified: laid · UnitIsAGroup: laid · UnitNeverMixes: laid · UnitQuantitiesMatchSpec: laid.
  DERIVED. THE GIVEN ROWS OF THIS SEAT. 7 by the template 'for every input the law returns true; each argument reads behind the call as it read before'; 0 by the template 'total and deterministic' (their statements: YtcbbilehdaaffaaGreatDoorTotals.lean).
  GIVEN WITH THE SEED: the statements are not yours to turn. If you find one false, say at which input.
  Laid BY PROGRAM, IN A SANDBOX (cutbox-rows.mjs): the forced cells as the released guide's own fill.sh prints them over the translation 50ef1e5a1921d7bb… (all of the seat's roots in one cut). By AI agents, Wed Nov 11 2026. No macro, syntax, notation, axiom, sorry.
-/
import Derived.Test.YtcbbilehdaaffaaGreatDoorChecked
import GoSem.Claim
import GoSem.ClaimJoined
import GoSem.ClaimMapViews
import Derived.JoinedTies
import Derived.KernelRfl
namespace Go.Proofs.YtcbbilehdaaffaaGreatDoor
/- THE CELL 'sum', in the pinned program and in every row, IS THE sha256 OF THE DUMP (.gsa) THAT YtcbbilehdaaffaaGreatDoorProg.lean LOADS. Nothing in Lean hashes anything: it is a label: what it is worth is what the hold of that sum in a sandbox is worth. -/
noncomputable def Tryz.pinned : Pinned := { name := "ytcbbilehdaaffaagreatdoor", sum := "50ef1e5a1921d7bb6876278136527993298c4c392f45b1b02d50ef33f0f1b7cd", checked := Tryz.checked }
namespace Rows
def none {H : Type} : Left H := { results := [], args := [] }

/- WHAT THE LISTED PACKAGE-LEVEL VARIABLES READ AS WHEN THE CALL BEGINS. Each datum BY PROGRAM (the guide's laid-datum.mjs) off the statement by which the dump's own 'gosem.cut.vars' lays the variable. In a bare row this is a premise. The card (YtcbbilehdaaffaaGreatDoorCards.lean) ties it to the program's text. -/
def laid_math_bits_deBruijn32tab {H : Type} : DataW H := .agg [.lit (.int .u8 0), .lit (.int .u8 1), .lit (.int .u8 28), .lit (.int .u8 2), .lit (.int .u8 29), .lit (.int .u8 14), .lit (.int .u8 24), .lit (.int .u8 3), .lit (.int .u8 30), .lit (.int .u8 22), .lit (.int .u8 20), .lit (.int .u8 15), .lit (.int .u8 25), .lit (.int .u8 17), .lit (.int .u8 4), .lit (.int .u8 8), .lit (.int .u8 31), .lit (.int .u8 27), .lit (.int .u8 13), .lit (.int .u8 23), .lit (.int .u8 21), .lit (.int .u8 19), .lit (.int .u8 16), .lit (.int .u8 7), .lit (.int .u8 26), .lit (.int .u8 12), .lit (.int .u8 18), .lit (.int .u8 6), .lit (.int .u8 11), .lit (.int .u8 5), .lit (.int .u8 10), .lit (.int .u8 9)]
def laid_math_bits_deBruijn64tab {H : Type} : DataW H := .agg [.lit (.int .u8 0), .lit (.int .u8 1), .lit (.int .u8 56), .lit (.int .u8 2), .lit (.int .u8 57), .lit (.int .u8 49), .lit (.int .u8 28), .lit (.int .u8 3), .lit (.int .u8 61), .lit (.int .u8 58), .lit (.int .u8 42), .lit (.int .u8 50), .lit (.int .u8 38), .lit (.int .u8 29), .lit (.int .u8 17), .lit (.int .u8 4), .lit (.int .u8 62), .lit (.int .u8 47), .lit (.int .u8 59), .lit (.int .u8 36), .lit (.int .u8 45), .lit (.int .u8 43), .lit (.int .u8 51), .lit (.int .u8 22), .lit (.int .u8 53), .lit (.int .u8 39), .lit (.int .u8 33), .lit (.int .u8 30), .lit (.int .u8 24), .lit (.int .u8 18), .lit (.int .u8 12), .lit (.int .u8 5), .lit (.int .u8 63), .lit (.int .u8 55), .lit (.int .u8 48), .lit (.int .u8 27), .lit (.int .u8 60), .lit (.int .u8 41), .lit (.int .u8 37), .lit (.int .u8 16), .lit (.int .u8 46), .lit (.int .u8 35), .lit (.int .u8 44), .lit (.int .u8 21), .lit (.int .u8 52), .lit (.int .u8 32), .lit (.int .u8 23), .lit (.int .u8 11), .lit (.int .u8 54), .lit (.int .u8 26), .lit (.int .u8 40), .lit (.int .u8 15), .lit (.int .u8 34), .lit (.int .u8 20), .lit (.int .u8 31), .lit (.int .u8 10), .lit (.int .u8 25), .lit (.int .u8 14), .lit (.int .u8 19), .lit (.int .u8 9), .lit (.int .u8 13), .lit (.int .u8 8), .lit (.int .u8 7), .lit (.int .u8 6)]
def laid_internal_strconv_uint64pow10 {H : Type} : DataW H := .agg [.lit (.int .u64 1), .lit (.int .u64 10), .lit (.int .u64 100), .lit (.int .u64 1000), .lit (.int .u64 10000), .lit (.int .u64 100000), .lit (.int .u64 1000000), .lit (.int .u64 10000000), .lit (.int .u64 100000000), .lit (.int .u64 1000000000), .lit (.int .u64 10000000000), .lit (.int .u64 100000000000), .lit (.int .u64 1000000000000), .lit (.int .u64 10000000000000), .lit (.int .u64 100000000000000), .lit (.int .u64 1000000000000000), .lit (.int .u64 10000000000000000), .lit (.int .u64 100000000000000000), .lit (.int .u64 1000000000000000000), .lit (.int .u64 10000000000000000000)]
def laid_skewback_unit_names {H : Type} : DataW H := .agg [.agg [.lit (.string [109, 109]), .lit (.int .i64 1), .lit (.int .i64 1000), .agg [.lit (.int .i64 1), .lit (.int .i64 0), .lit (.int .i64 0)]], .agg [.lit (.string [99, 109]), .lit (.int .i64 1), .lit (.int .i64 100), .agg [.lit (.int .i64 1), .lit (.int .i64 0), .lit (.int .i64 0)]], .agg [.lit (.string [109]), .lit (.int .i64 1), .lit (.int .i64 1), .agg [.lit (.int .i64 1), .lit (.int .i64 0), .lit (.int .i64 0)]], .agg [.lit (.string [107, 109]), .lit (.int .i64 1000), .lit (.int .i64 1), .agg [.lit (.int .i64 1), .lit (.int .i64 0), .lit (.int .i64 0)]], .agg [.lit (.string [103]), .lit (.int .i64 1), .lit (.int .i64 1000), .agg [.lit (.int .i64 0), .lit (.int .i64 1), .lit (.int .i64 0)]], .agg [.lit (.string [107, 103]), .lit (.int .i64 1), .lit (.int .i64 1), .agg [.lit (.int .i64 0), .lit (.int .i64 1), .lit (.int .i64 0)]], .agg [.lit (.string [116]), .lit (.int .i64 1000), .lit (.int .i64 1), .agg [.lit (.int .i64 0), .lit (.int .i64 1), .lit (.int .i64 0)]], .agg [.lit (.string [109, 115]), .lit (.int .i64 1), .lit (.int .i64 1000), .agg [.lit (.int .i64 0), .lit (.int .i64 0), .lit (.int .i64 1)]], .agg [.lit (.string [115]), .lit (.int .i64 1), .lit (.int .i64 1), .agg [.lit (.int .i64 0), .lit (.int .i64 0), .lit (.int .i64 1)]], .agg [.lit (.string [109, 105, 110]), .lit (.int .i64 60), .lit (.int .i64 1), .agg [.lit (.int .i64 0), .lit (.int .i64 0), .lit (.int .i64 1)]], .agg [.lit (.string [104]), .lit (.int .i64 3600), .lit (.int .i64 1), .agg [.lit (.int .i64 0), .lit (.int .i64 0), .lit (.int .i64 1)]], .agg [.lit (.string [78]), .lit (.int .i64 1), .lit (.int .i64 1), .agg [.lit (.int .i64 1), .lit (.int .i64 1), .lit (.int .i64 (-2))]], .agg [.lit (.string [107, 78]), .lit (.int .i64 1000), .lit (.int .i64 1), .agg [.lit (.int .i64 1), .lit (.int .i64 1), .lit (.int .i64 (-2))]], .agg [.lit (.string [77, 78]), .lit (.int .i64 1000000), .lit (.int .i64 1), .agg [.lit (.int .i64 1), .lit (.int .i64 1), .lit (.int .i64 (-2))]], .agg [.lit (.string [80, 97]), .lit (.int .i64 1), .lit (.int .i64 1), .agg [.lit (.int .i64 (-1)), .lit (.int .i64 1), .lit (.int .i64 (-2))]], .agg [.lit (.string [107, 80, 97]), .lit (.int .i64 1000), .lit (.int .i64 1), .agg [.lit (.int .i64 (-1)), .lit (.int .i64 1), .lit (.int .i64 (-2))]], .agg [.lit (.string [77, 80, 97]), .lit (.int .i64 1000000), .lit (.int .i64 1), .agg [.lit (.int .i64 (-1)), .lit (.int .i64 1), .lit (.int .i64 (-2))]], .agg [.lit (.string [74]), .lit (.int .i64 1), .lit (.int .i64 1), .agg [.lit (.int .i64 2), .lit (.int .i64 1), .lit (.int .i64 (-2))]], .agg [.lit (.string [107, 74]), .lit (.int .i64 1000), .lit (.int .i64 1), .agg [.lit (.int .i64 2), .lit (.int .i64 1), .lit (.int .i64 (-2))]], .agg [.lit (.string [87]), .lit (.int .i64 1), .lit (.int .i64 1), .agg [.lit (.int .i64 2), .lit (.int .i64 1), .lit (.int .i64 (-3))]], .agg [.lit (.string [107, 87]), .lit (.int .i64 1000), .lit (.int .i64 1), .agg [.lit (.int .i64 2), .lit (.int .i64 1), .lit (.int .i64 (-3))]], .agg [.lit (.string [49]), .lit (.int .i64 1), .lit (.int .i64 1), .agg [.lit (.int .i64 0), .lit (.int .i64 0), .lit (.int .i64 0)]], .agg [.lit (.string [37]), .lit (.int .i64 1), .lit (.int .i64 100), .agg [.lit (.int .i64 0), .lit (.int .i64 0), .lit (.int .i64 0)]]]

/-- 'skewbacklaw11.UnitConvertsAsSpecified': WHATEVER THE INPUT: true; the input reads as it did. -/
def unitConvertsAsSpecifiedSpec : ChangeSpec := { name := "unitConvertsAsSpecified", fn := fun _ => fun
  | [d1, d2] => { results := [.lit (.bool true)], args := [d1, d2] }
  | _ => none }
def unitConvertsAsSpecifiedRow : OpenClaim := { program := "ytcbbilehdaaffaagreatdoor", sum := "50ef1e5a1921d7bb6876278136527993298c4c392f45b1b02d50ef33f0f1b7cd", func := "skewback/skewbacklaw11.UnitConvertsAsSpecified", spec := "unitConvertsAsSpecified", inPlace := ["internal/bytealg.IndexByteString", "internal/bytealg.IndexString", "internal/abi.NoEscape", "internal/bytealg.MakeNoZero"], unfollowed := true, recurses := true, named := ["skewback/unit.names", "internal/strconv.uint64pow10", "math/bits.deBruijn32tab", "math/bits.deBruijn64tab", "internal/bytealg.MaxLen"], apart := false, laid := [("math/bits.deBruijn32tab", laid_math_bits_deBruijn32tab), ("math/bits.deBruijn64tab", laid_math_bits_deBruijn64tab), ("internal/strconv.uint64pow10", laid_internal_strconv_uint64pow10), ("skewback/unit.names", laid_skewback_unit_names)] }
def UnitConvertsAsSpecifiedSaid : Prop := unitConvertsAsSpecifiedRow.holds Tryz.pinned (OpenSpec.ofChange unitConvertsAsSpecifiedSpec)

/-- ITS FALSE NEIGHBOUR: 'it returns false'. Refute it at one input. -/
def unitConvertsAsSpecifiedWrong : ChangeSpec := { name := "unitConvertsAsSpecified", fn := fun _ => fun
  | [d1, d2] => { results := [.lit (.bool false)], args := [d1, d2] }
  | _ => none }
def UnitConvertsAsSpecifiedWrongFalsely : Prop := unitConvertsAsSpecifiedRow.holds Tryz.pinned (OpenSpec.ofChange unitConvertsAsSpecifiedWrong)

/-- 'skewbacklaw11.UnitPrintsBack': WHATEVER THE INPUT: true; the input reads as it did. -/
def unitPrintsBackSpec : ChangeSpec := { name := "unitPrintsBack", fn := fun _ => fun
  | [d] => { results := [.lit (.bool true)], args := [d] }
  | _ => none }
def unitPrintsBackRow : OpenClaim := { program := "ytcbbilehdaaffaagreatdoor", sum := "50ef1e5a1921d7bb6876278136527993298c4c392f45b1b02d50ef33f0f1b7cd", func := "skewback/skewbacklaw11.UnitPrintsBack", spec := "unitPrintsBack", inPlace := ["internal/bytealg.IndexByteString", "internal/bytealg.IndexString", "internal/abi.NoEscape", "internal/bytealg.MakeNoZero"], unfollowed := true, recurses := true, named := ["skewback/unit.names", "internal/strconv.uint64pow10", "math/bits.deBruijn32tab", "math/bits.deBruijn64tab", "internal/bytealg.MaxLen"], apart := false, laid := [("math/bits.deBruijn32tab", laid_math_bits_deBruijn32tab), ("math/bits.deBruijn64tab", laid_math_bits_deBruijn64tab), ("internal/strconv.uint64pow10", laid_internal_strconv_uint64pow10), ("skewback/unit.names", laid_skewback_unit_names)] }
def UnitPrintsBackSaid : Prop := unitPrintsBackRow.holds Tryz.pinned (OpenSpec.ofChange unitPrintsBackSpec)

/-- ITS FALSE NEIGHBOUR: 'it returns false'. Refute it at one input. -/
def unitPrintsBackWrong : ChangeSpec := { name := "unitPrintsBack", fn := fun _ => fun
  | [d] => { results := [.lit (.bool false)], args := [d] }
  | _ => none }
def UnitPrintsBackWrongFalsely : Prop := unitPrintsBackRow.holds Tryz.pinned (OpenSpec.ofChange unitPrintsBackWrong)

/-- 'skewbacklaw11.UnitReadsDecimals': WHATEVER THE INPUT: true; the input reads as it did. -/
def unitReadsDecimalsSpec : ChangeSpec := { name := "unitReadsDecimals", fn := fun _ => fun
  | [d1, d2, d3, d4] => { results := [.lit (.bool true)], args := [d1, d2, d3, d4] }
  | _ => none }
def unitReadsDecimalsRow : OpenClaim := { program := "ytcbbilehdaaffaagreatdoor", sum := "50ef1e5a1921d7bb6876278136527993298c4c392f45b1b02d50ef33f0f1b7cd", func := "skewback/skewbacklaw11.UnitReadsDecimals", spec := "unitReadsDecimals", inPlace := ["internal/bytealg.IndexByteString", "internal/bytealg.IndexString", "internal/abi.NoEscape", "internal/bytealg.MakeNoZero"], unfollowed := true, recurses := true, named := ["skewback/unit.names", "internal/strconv.uint64pow10", "math/bits.deBruijn32tab", "math/bits.deBruijn64tab", "internal/bytealg.MaxLen"], apart := false, laid := [("math/bits.deBruijn32tab", laid_math_bits_deBruijn32tab), ("math/bits.deBruijn64tab", laid_math_bits_deBruijn64tab), ("internal/strconv.uint64pow10", laid_internal_strconv_uint64pow10), ("skewback/unit.names", laid_skewback_unit_names)] }
def UnitReadsDecimalsSaid : Prop := unitReadsDecimalsRow.holds Tryz.pinned (OpenSpec.ofChange unitReadsDecimalsSpec)

/-- ITS FALSE NEIGHBOUR: 'it returns false'. Refute it at one input. -/
def unitReadsDecimalsWrong : ChangeSpec := { name := "unitReadsDecimals", fn := fun _ => fun
  | [d1, d2, d3, d4] => { results := [.lit (.bool false)], args := [d1, d2, d3, d4] }
  | _ => none }
def UnitReadsDecimalsWrongFalsely : Prop := unitReadsDecimalsRow.holds Tryz.pinned (OpenSpec.ofChange unitReadsDecimalsWrong)

/-- 'skewbacklaw11.UnitComputesAsSpecified': WHATEVER THE INPUT: true; the input reads as it did. -/
def unitComputesAsSpecifiedSpec : ChangeSpec := { name := "unitComputesAsSpecified", fn := fun _ => fun
  | [d1, d2, d3] => { results := [.lit (.bool true)], args := [d1, d2, d3] }
  | _ => none }
def unitComputesAsSpecifiedRow : OpenClaim := { program := "ytcbbilehdaaffaagreatdoor", sum := "50ef1e5a1921d7bb6876278136527993298c4c392f45b1b02d50ef33f0f1b7cd", func := "skewback/skewbacklaw11.UnitComputesAsSpecified", spec := "unitComputesAsSpecified", inPlace := ["internal/bytealg.IndexByteString", "internal/bytealg.IndexString", "internal/abi.NoEscape", "internal/bytealg.MakeNoZero"], unfollowed := true, recurses := true, named := ["skewback/unit.names", "internal/strconv.uint64pow10", "math/bits.deBruijn32tab", "math/bits.deBruijn64tab", "internal/bytealg.MaxLen"], apart := false, laid := [("math/bits.deBruijn32tab", laid_math_bits_deBruijn32tab), ("math/bits.deBruijn64tab", laid_math_bits_deBruijn64tab), ("internal/strconv.uint64pow10", laid_internal_strconv_uint64pow10), ("skewback/unit.names", laid_skewback_unit_names)] }
def UnitComputesAsSpecifiedSaid : Prop := unitComputesAsSpecifiedRow.holds Tryz.pinned (OpenSpec.ofChange unitComputesAsSpecifiedSpec)

/-- ITS FALSE NEIGHBOUR: 'it returns false'. Refute it at one input. -/
def unitComputesAsSpecifiedWrong : ChangeSpec := { name := "unitComputesAsSpecified", fn := fun _ => fun
  | [d1, d2, d3] => { results := [.lit (.bool false)], args := [d1, d2, d3] }
  | _ => none }
def UnitComputesAsSpecifiedWrongFalsely : Prop := unitComputesAsSpecifiedRow.holds Tryz.pinned (OpenSpec.ofChange unitComputesAsSpecifiedWrong)

/-- 'skewbacklaw11.UnitIsAGroup': WHATEVER THE INPUT: true; the input reads as it did. -/
def unitIsAGroupSpec : ChangeSpec := { name := "unitIsAGroup", fn := fun _ => fun
  | [d1, d2, d3, d4, d5] => { results := [.lit (.bool true)], args := [d1, d2, d3, d4, d5] }
  | _ => none }
def unitIsAGroupRow : OpenClaim := { program := "ytcbbilehdaaffaagreatdoor", sum := "50ef1e5a1921d7bb6876278136527993298c4c392f45b1b02d50ef33f0f1b7cd", func := "skewback/skewbacklaw11.UnitIsAGroup", spec := "unitIsAGroup", inPlace := ["internal/bytealg.IndexByteString", "internal/bytealg.IndexString", "internal/abi.NoEscape", "internal/bytealg.MakeNoZero"], unfollowed := true, recurses := true, named := ["skewback/unit.names", "internal/strconv.uint64pow10", "math/bits.deBruijn32tab", "math/bits.deBruijn64tab", "internal/bytealg.MaxLen"], apart := false, laid := [("math/bits.deBruijn32tab", laid_math_bits_deBruijn32tab), ("math/bits.deBruijn64tab", laid_math_bits_deBruijn64tab), ("internal/strconv.uint64pow10", laid_internal_strconv_uint64pow10), ("skewback/unit.names", laid_skewback_unit_names)] }
def UnitIsAGroupSaid : Prop := unitIsAGroupRow.holds Tryz.pinned (OpenSpec.ofChange unitIsAGroupSpec)

/-- ITS FALSE NEIGHBOUR: 'it returns false'. Refute it at one input. -/
def unitIsAGroupWrong : ChangeSpec := { name := "unitIsAGroup", fn := fun _ => fun
  | [d1, d2, d3, d4, d5] => { results := [.lit (.bool false)], args := [d1, d2, d3, d4, d5] }
  | _ => none }
def UnitIsAGroupWrongFalsely : Prop := unitIsAGroupRow.holds Tryz.pinned (OpenSpec.ofChange unitIsAGroupWrong)

/-- 'skewbacklaw11.UnitNeverMixes': WHATEVER THE INPUT: true; the input reads as it did. -/
def unitNeverMixesSpec : ChangeSpec := { name := "unitNeverMixes", fn := fun _ => fun
  | [d1, d2, d3] => { results := [.lit (.bool true)], args := [d1, d2, d3] }
  | _ => none }
def unitNeverMixesRow : OpenClaim := { program := "ytcbbilehdaaffaagreatdoor", sum := "50ef1e5a1921d7bb6876278136527993298c4c392f45b1b02d50ef33f0f1b7cd", func := "skewback/skewbacklaw11.UnitNeverMixes", spec := "unitNeverMixes", inPlace := ["internal/bytealg.IndexByteString", "internal/bytealg.IndexString", "internal/abi.NoEscape", "internal/bytealg.MakeNoZero"], unfollowed := true, recurses := true, named := ["skewback/unit.names", "internal/strconv.uint64pow10", "math/bits.deBruijn32tab", "math/bits.deBruijn64tab", "internal/bytealg.MaxLen"], apart := false, laid := [("math/bits.deBruijn32tab", laid_math_bits_deBruijn32tab), ("math/bits.deBruijn64tab", laid_math_bits_deBruijn64tab), ("internal/strconv.uint64pow10", laid_internal_strconv_uint64pow10), ("skewback/unit.names", laid_skewback_unit_names)] }
def UnitNeverMixesSaid : Prop := unitNeverMixesRow.holds Tryz.pinned (OpenSpec.ofChange unitNeverMixesSpec)

/-- ITS FALSE NEIGHBOUR: 'it returns false'. Refute it at one input. -/
def unitNeverMixesWrong : ChangeSpec := { name := "unitNeverMixes", fn := fun _ => fun
  | [d1, d2, d3] => { results := [.lit (.bool false)], args := [d1, d2, d3] }
  | _ => none }
def UnitNeverMixesWrongFalsely : Prop := unitNeverMixesRow.holds Tryz.pinned (OpenSpec.ofChange unitNeverMixesWrong)

/-- 'skewbacklaw11.UnitQuantitiesMatchSpec': WHATEVER THE INPUT: true; the input reads as it did. -/
def unitQuantitiesMatchSpecSpec : ChangeSpec := { name := "unitQuantitiesMatchSpec", fn := fun _ => fun
  | [d1, d2, d3] => { results := [.lit (.bool true)], args := [d1, d2, d3] }
  | _ => none }
def unitQuantitiesMatchSpecRow : OpenClaim := { program := "ytcbbilehdaaffaagreatdoor", sum := "50ef1e5a1921d7bb6876278136527993298c4c392f45b1b02d50ef33f0f1b7cd", func := "skewback/skewbacklaw11.UnitQuantitiesMatchSpec", spec := "unitQuantitiesMatchSpec", inPlace := ["internal/bytealg.IndexByteString", "internal/bytealg.IndexString", "internal/abi.NoEscape", "internal/bytealg.MakeNoZero"], unfollowed := true, recurses := true, named := ["skewback/unit.names", "internal/strconv.uint64pow10", "math/bits.deBruijn32tab", "math/bits.deBruijn64tab", "internal/bytealg.MaxLen"], apart := false, laid := [("math/bits.deBruijn32tab", laid_math_bits_deBruijn32tab), ("math/bits.deBruijn64tab", laid_math_bits_deBruijn64tab), ("internal/strconv.uint64pow10", laid_internal_strconv_uint64pow10), ("skewback/unit.names", laid_skewback_unit_names)] }
def UnitQuantitiesMatchSpecSaid : Prop := unitQuantitiesMatchSpecRow.holds Tryz.pinned (OpenSpec.ofChange unitQuantitiesMatchSpecSpec)

/-- ITS FALSE NEIGHBOUR: 'it returns false'. Refute it at one input. -/
def unitQuantitiesMatchSpecWrong : ChangeSpec := { name := "unitQuantitiesMatchSpec", fn := fun _ => fun
  | [d1, d2, d3] => { results := [.lit (.bool false)], args := [d1, d2, d3] }
  | _ => none }
def UnitQuantitiesMatchSpecWrongFalsely : Prop := unitQuantitiesMatchSpecRow.holds Tryz.pinned (OpenSpec.ofChange unitQuantitiesMatchSpecWrong)

/- THE SECOND FORM. 'bulk': how many values and letters a reading holds, each counted each time it is reached (what is shared counts as often as it is met; a slice's spare places count too). A statement '..UptoSaid' is the law's where the arguments, and the package variables that the reading takes, are together of bulk at most 1048576: NARROWER than '..Said'. Prove '..Said' where nothing that the law and all that it calls make is longer than what came in: it says more and counts as full. Else prove '..UptoSaid'. A law counts once. -/
mutual
def uptoBulk {H : Type} : DataW H → Nat
  | .lit (.string bytes) => bytes.length + 1
  | .lit _ => 1
  | .nil => 1
  | .ptr d => uptoBulk d + 1
  | .slice elems spare => uptoBulkAll elems + uptoBulkAll spare + 1
  | .agg parts => uptoBulkAll parts + 1
  | .iface _ d => uptoBulk d + 1
  | .map entries => uptoBulkEntries entries + 1
  | .held _ => 1
def uptoBulkAll {H : Type} : List (DataW H) → Nat
  | [] => 0
  | d :: r => uptoBulk d + uptoBulkAll r
def uptoBulkEntries {H : Type} : List (Lit × DataW H) → Nat
  | [] => 0
  | x :: r => uptoBulkEntry x + uptoBulkEntries r
def uptoBulkEntry {H : Type} : Lit × DataW H → Nat
  | (.string bytes, d) => bytes.length + uptoBulk d + 1
  | (_, d) => uptoBulk d + 1
 end
def uptoSmall : (H : Type) → List (DataW H) → Bool := fun _ ds => decide (uptoBulkAll ds ≤ 1048576)
def OpenSpec.upto (s : _root_.Go.ChangeSpec) : _root_.Go.OpenSpec := { _root_.Go.OpenSpec.ofChange s with cond := some uptoSmall }

/-- 'skewbacklaw11.UnitConvertsAsSpecified', WHERE WHAT IT READS IS OF BULK AT MOST 1048576: true; the input reads as it did. -/
def unitConvertsAsSpecifiedUptoRow : OpenClaim := { program := "ytcbbilehdaaffaagreatdoor", sum := "50ef1e5a1921d7bb6876278136527993298c4c392f45b1b02d50ef33f0f1b7cd", func := "skewback/skewbacklaw11.UnitConvertsAsSpecified", spec := "unitConvertsAsSpecified", inPlace := ["internal/bytealg.IndexByteString", "internal/bytealg.IndexString", "internal/abi.NoEscape", "internal/bytealg.MakeNoZero"], unfollowed := true, recurses := true, named := ["skewback/unit.names", "internal/strconv.uint64pow10", "math/bits.deBruijn32tab", "math/bits.deBruijn64tab", "internal/bytealg.MaxLen"], apart := false, laid := [("math/bits.deBruijn32tab", laid_math_bits_deBruijn32tab), ("math/bits.deBruijn64tab", laid_math_bits_deBruijn64tab), ("internal/strconv.uint64pow10", laid_internal_strconv_uint64pow10), ("skewback/unit.names", laid_skewback_unit_names)], narrowed := true }
def UnitConvertsAsSpecifiedUptoSaid : Prop := unitConvertsAsSpecifiedUptoRow.holds Tryz.pinned (OpenSpec.upto unitConvertsAsSpecifiedSpec)

/-- 'skewbacklaw11.UnitPrintsBack', WHERE WHAT IT READS IS OF BULK AT MOST 1048576: true; the input reads as it did. -/
def unitPrintsBackUptoRow : OpenClaim := { program := "ytcbbilehdaaffaagreatdoor", sum := "50ef1e5a1921d7bb6876278136527993298c4c392f45b1b02d50ef33f0f1b7cd", func := "skewback/skewbacklaw11.UnitPrintsBack", spec := "unitPrintsBack", inPlace := ["internal/bytealg.IndexByteString", "internal/bytealg.IndexString", "internal/abi.NoEscape", "internal/bytealg.MakeNoZero"], unfollowed := true, recurses := true, named := ["skewback/unit.names", "internal/strconv.uint64pow10", "math/bits.deBruijn32tab", "math/bits.deBruijn64tab", "internal/bytealg.MaxLen"], apart := false, laid := [("math/bits.deBruijn32tab", laid_math_bits_deBruijn32tab), ("math/bits.deBruijn64tab", laid_math_bits_deBruijn64tab), ("internal/strconv.uint64pow10", laid_internal_strconv_uint64pow10), ("skewback/unit.names", laid_skewback_unit_names)], narrowed := true }
def UnitPrintsBackUptoSaid : Prop := unitPrintsBackUptoRow.holds Tryz.pinned (OpenSpec.upto unitPrintsBackSpec)

/-- 'skewbacklaw11.UnitReadsDecimals', WHERE WHAT IT READS IS OF BULK AT MOST 1048576: true; the input reads as it did. -/
def unitReadsDecimalsUptoRow : OpenClaim := { program := "ytcbbilehdaaffaagreatdoor", sum := "50ef1e5a1921d7bb6876278136527993298c4c392f45b1b02d50ef33f0f1b7cd", func := "skewback/skewbacklaw11.UnitReadsDecimals", spec := "unitReadsDecimals", inPlace := ["internal/bytealg.IndexByteString", "internal/bytealg.IndexString", "internal/abi.NoEscape", "internal/bytealg.MakeNoZero"], unfollowed := true, recurses := true, named := ["skewback/unit.names", "internal/strconv.uint64pow10", "math/bits.deBruijn32tab", "math/bits.deBruijn64tab", "internal/bytealg.MaxLen"], apart := false, laid := [("math/bits.deBruijn32tab", laid_math_bits_deBruijn32tab), ("math/bits.deBruijn64tab", laid_math_bits_deBruijn64tab), ("internal/strconv.uint64pow10", laid_internal_strconv_uint64pow10), ("skewback/unit.names", laid_skewback_unit_names)], narrowed := true }
def UnitReadsDecimalsUptoSaid : Prop := unitReadsDecimalsUptoRow.holds Tryz.pinned (OpenSpec.upto unitReadsDecimalsSpec)

/-- 'skewbacklaw11.UnitComputesAsSpecified', WHERE WHAT IT READS IS OF BULK AT MOST 1048576: true; the input reads as it did. -/
def unitComputesAsSpecifiedUptoRow : OpenClaim := { program := "ytcbbilehdaaffaagreatdoor", sum := "50ef1e5a1921d7bb6876278136527993298c4c392f45b1b02d50ef33f0f1b7cd", func := "skewback/skewbacklaw11.UnitComputesAsSpecified", spec := "unitComputesAsSpecified", inPlace := ["internal/bytealg.IndexByteString", "internal/bytealg.IndexString", "internal/abi.NoEscape", "internal/bytealg.MakeNoZero"], unfollowed := true, recurses := true, named := ["skewback/unit.names", "internal/strconv.uint64pow10", "math/bits.deBruijn32tab", "math/bits.deBruijn64tab", "internal/bytealg.MaxLen"], apart := false, laid := [("math/bits.deBruijn32tab", laid_math_bits_deBruijn32tab), ("math/bits.deBruijn64tab", laid_math_bits_deBruijn64tab), ("internal/strconv.uint64pow10", laid_internal_strconv_uint64pow10), ("skewback/unit.names", laid_skewback_unit_names)], narrowed := true }
def UnitComputesAsSpecifiedUptoSaid : Prop := unitComputesAsSpecifiedUptoRow.holds Tryz.pinned (OpenSpec.upto unitComputesAsSpecifiedSpec)

/-- 'skewbacklaw11.UnitIsAGroup', WHERE WHAT IT READS IS OF BULK AT MOST 1048576: true; the input reads as it did. -/
def unitIsAGroupUptoRow : OpenClaim := { program := "ytcbbilehdaaffaagreatdoor", sum := "50ef1e5a1921d7bb6876278136527993298c4c392f45b1b02d50ef33f0f1b7cd", func := "skewback/skewbacklaw11.UnitIsAGroup", spec := "unitIsAGroup", inPlace := ["internal/bytealg.IndexByteString", "internal/bytealg.IndexString", "internal/abi.NoEscape", "internal/bytealg.MakeNoZero"], unfollowed := true, recurses := true, named := ["skewback/unit.names", "internal/strconv.uint64pow10", "math/bits.deBruijn32tab", "math/bits.deBruijn64tab", "internal/bytealg.MaxLen"], apart := false, laid := [("math/bits.deBruijn32tab", laid_math_bits_deBruijn32tab), ("math/bits.deBruijn64tab", laid_math_bits_deBruijn64tab), ("internal/strconv.uint64pow10", laid_internal_strconv_uint64pow10), ("skewback/unit.names", laid_skewback_unit_names)], narrowed := true }
def UnitIsAGroupUptoSaid : Prop := unitIsAGroupUptoRow.holds Tryz.pinned (OpenSpec.upto unitIsAGroupSpec)

/-- 'skewbacklaw11.UnitNeverMixes', WHERE WHAT IT READS IS OF BULK AT MOST 1048576: true; the input reads as it did. -/
def unitNeverMixesUptoRow : OpenClaim := { program := "ytcbbilehdaaffaagreatdoor", sum := "50ef1e5a1921d7bb6876278136527993298c4c392f45b1b02d50ef33f0f1b7cd", func := "skewback/skewbacklaw11.UnitNeverMixes", spec := "unitNeverMixes", inPlace := ["internal/bytealg.IndexByteString", "internal/bytealg.IndexString", "internal/abi.NoEscape", "internal/bytealg.MakeNoZero"], unfollowed := true, recurses := true, named := ["skewback/unit.names", "internal/strconv.uint64pow10", "math/bits.deBruijn32tab", "math/bits.deBruijn64tab", "internal/bytealg.MaxLen"], apart := false, laid := [("math/bits.deBruijn32tab", laid_math_bits_deBruijn32tab), ("math/bits.deBruijn64tab", laid_math_bits_deBruijn64tab), ("internal/strconv.uint64pow10", laid_internal_strconv_uint64pow10), ("skewback/unit.names", laid_skewback_unit_names)], narrowed := true }
def UnitNeverMixesUptoSaid : Prop := unitNeverMixesUptoRow.holds Tryz.pinned (OpenSpec.upto unitNeverMixesSpec)

/-- 'skewbacklaw11.UnitQuantitiesMatchSpec', WHERE WHAT IT READS IS OF BULK AT MOST 1048576: true; the input reads as it did. -/
def unitQuantitiesMatchSpecUptoRow : OpenClaim := { program := "ytcbbilehdaaffaagreatdoor", sum := "50ef1e5a1921d7bb6876278136527993298c4c392f45b1b02d50ef33f0f1b7cd", func := "skewback/skewbacklaw11.UnitQuantitiesMatchSpec", spec := "unitQuantitiesMatchSpec", inPlace := ["internal/bytealg.IndexByteString", "internal/bytealg.IndexString", "internal/abi.NoEscape", "internal/bytealg.MakeNoZero"], unfollowed := true, recurses := true, named := ["skewback/unit.names", "internal/strconv.uint64pow10", "math/bits.deBruijn32tab", "math/bits.deBruijn64tab", "internal/bytealg.MaxLen"], apart := false, laid := [("math/bits.deBruijn32tab", laid_math_bits_deBruijn32tab), ("math/bits.deBruijn64tab", laid_math_bits_deBruijn64tab), ("internal/strconv.uint64pow10", laid_internal_strconv_uint64pow10), ("skewback/unit.names", laid_skewback_unit_names)], narrowed := true }
def UnitQuantitiesMatchSpecUptoSaid : Prop := unitQuantitiesMatchSpecUptoRow.holds Tryz.pinned (OpenSpec.upto unitQuantitiesMatchSpecSpec)

end Rows
end Go.Proofs.YtcbbilehdaaffaaGreatDoor
