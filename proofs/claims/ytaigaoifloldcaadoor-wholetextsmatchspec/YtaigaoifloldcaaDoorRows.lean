/-
  NARROWER THAN 'FOR EVERY INPUT', by the rows' own cells (each row's printed sentence says how): WholeSumsMatchSpec: laid · WholeProductsMatchSpec: laid · WholeTextsMatchSpec: laid · WholeIntsAgree: laid · WholeIsARing: laid · WholeDivides: laid · WholeRootsAreRoots: laid.
  DERIVED. THE GIVEN ROWS OF THIS SEAT. 7 by the template 'for every input the law returns true; each argument reads behind the call as it read before'; 0 by the template 'total and deterministic' (their statements: YtaigaoifloldcaaDoorTotals.lean).
  GIVEN WITH THE SEED: the statements are not yours to turn. If you find one false, say at which input.
  Laid BY PROGRAM, IN A SANDBOX (cutbox-rows.mjs): the forced cells as the released guide's own fill.sh prints them over the translation ff4e900b040e9836… (all of the seat's roots in one cut). By AI agents, Wed Nov 11 2026. No macro, syntax, notation, axiom, sorry.
-/
import Derived.Test.YtaigaoifloldcaaDoorChecked
import GoSem.Claim
import GoSem.ClaimJoined
import GoSem.ClaimMapViews
import Derived.JoinedTies
import Derived.KernelRfl
namespace Go.Proofs.YtaigaoifloldcaaDoor
/- THE CELL 'sum', in the pinned program and in every row, IS THE sha256 OF THE DUMP (.gsa) THAT YtaigaoifloldcaaDoorProg.lean LOADS. Nothing in Lean hashes anything: it is a label: what it is worth is what the hold of that sum in a sandbox is worth. -/
noncomputable def Tryd.pinned : Pinned := { name := "ytaigaoifloldcaadoor", sum := "ff4e900b040e9836ccb00eca046ddcac9518d214d096f36b56b827f957843968", checked := Tryd.checked }
namespace Rows
def none {H : Type} : Left H := { results := [], args := [] }

/- WHAT THE LISTED PACKAGE-LEVEL VARIABLES READ AS WHEN THE CALL BEGINS. Each datum BY PROGRAM (the guide's laid-datum.mjs) off the statement by which the dump's own 'gosem.cut.vars' lays the variable. In a bare row this is a premise. The card (YtaigaoifloldcaaDoorCards.lean) ties it to the program's text. -/
def laid_math_bits_deBruijn32tab {H : Type} : DataW H := .agg [.lit (.int .u8 0), .lit (.int .u8 1), .lit (.int .u8 28), .lit (.int .u8 2), .lit (.int .u8 29), .lit (.int .u8 14), .lit (.int .u8 24), .lit (.int .u8 3), .lit (.int .u8 30), .lit (.int .u8 22), .lit (.int .u8 20), .lit (.int .u8 15), .lit (.int .u8 25), .lit (.int .u8 17), .lit (.int .u8 4), .lit (.int .u8 8), .lit (.int .u8 31), .lit (.int .u8 27), .lit (.int .u8 13), .lit (.int .u8 23), .lit (.int .u8 21), .lit (.int .u8 19), .lit (.int .u8 16), .lit (.int .u8 7), .lit (.int .u8 26), .lit (.int .u8 12), .lit (.int .u8 18), .lit (.int .u8 6), .lit (.int .u8 11), .lit (.int .u8 5), .lit (.int .u8 10), .lit (.int .u8 9)]
def laid_math_bits_deBruijn64tab {H : Type} : DataW H := .agg [.lit (.int .u8 0), .lit (.int .u8 1), .lit (.int .u8 56), .lit (.int .u8 2), .lit (.int .u8 57), .lit (.int .u8 49), .lit (.int .u8 28), .lit (.int .u8 3), .lit (.int .u8 61), .lit (.int .u8 58), .lit (.int .u8 42), .lit (.int .u8 50), .lit (.int .u8 38), .lit (.int .u8 29), .lit (.int .u8 17), .lit (.int .u8 4), .lit (.int .u8 62), .lit (.int .u8 47), .lit (.int .u8 59), .lit (.int .u8 36), .lit (.int .u8 45), .lit (.int .u8 43), .lit (.int .u8 51), .lit (.int .u8 22), .lit (.int .u8 53), .lit (.int .u8 39), .lit (.int .u8 33), .lit (.int .u8 30), .lit (.int .u8 24), .lit (.int .u8 18), .lit (.int .u8 12), .lit (.int .u8 5), .lit (.int .u8 63), .lit (.int .u8 55), .lit (.int .u8 48), .lit (.int .u8 27), .lit (.int .u8 60), .lit (.int .u8 41), .lit (.int .u8 37), .lit (.int .u8 16), .lit (.int .u8 46), .lit (.int .u8 35), .lit (.int .u8 44), .lit (.int .u8 21), .lit (.int .u8 52), .lit (.int .u8 32), .lit (.int .u8 23), .lit (.int .u8 11), .lit (.int .u8 54), .lit (.int .u8 26), .lit (.int .u8 40), .lit (.int .u8 15), .lit (.int .u8 34), .lit (.int .u8 20), .lit (.int .u8 31), .lit (.int .u8 10), .lit (.int .u8 25), .lit (.int .u8 14), .lit (.int .u8 19), .lit (.int .u8 9), .lit (.int .u8 13), .lit (.int .u8 8), .lit (.int .u8 7), .lit (.int .u8 6)]
def laid_internal_strconv_uint64pow10 {H : Type} : DataW H := .agg [.lit (.int .u64 1), .lit (.int .u64 10), .lit (.int .u64 100), .lit (.int .u64 1000), .lit (.int .u64 10000), .lit (.int .u64 100000), .lit (.int .u64 1000000), .lit (.int .u64 10000000), .lit (.int .u64 100000000), .lit (.int .u64 1000000000), .lit (.int .u64 10000000000), .lit (.int .u64 100000000000), .lit (.int .u64 1000000000000), .lit (.int .u64 10000000000000), .lit (.int .u64 100000000000000), .lit (.int .u64 1000000000000000), .lit (.int .u64 10000000000000000), .lit (.int .u64 100000000000000000), .lit (.int .u64 1000000000000000000), .lit (.int .u64 10000000000000000000)]

/-- 'skewbacklaw03.WholeSumsMatchSpec': WHATEVER THE INPUT: true; the input reads as it did. -/
def wholeSumsMatchSpecSpec : ChangeSpec := { name := "wholeSumsMatchSpec", fn := fun _ => fun
  | [d1, d2] => { results := [.lit (.bool true)], args := [d1, d2] }
  | _ => none }
def wholeSumsMatchSpecRow : OpenClaim := { program := "ytaigaoifloldcaadoor", sum := "ff4e900b040e9836ccb00eca046ddcac9518d214d096f36b56b827f957843968", func := "skewback/skewbacklaw03.WholeSumsMatchSpec", spec := "wholeSumsMatchSpec", inPlace := ["internal/abi.NoEscape", "internal/bytealg.MakeNoZero"], recurses := true, named := ["internal/strconv.uint64pow10", "math/bits.deBruijn32tab", "math/bits.deBruijn64tab"], apart := false, laid := [("math/bits.deBruijn32tab", laid_math_bits_deBruijn32tab), ("math/bits.deBruijn64tab", laid_math_bits_deBruijn64tab), ("internal/strconv.uint64pow10", laid_internal_strconv_uint64pow10)] }
def WholeSumsMatchSpecSaid : Prop := wholeSumsMatchSpecRow.holds Tryd.pinned (OpenSpec.ofChange wholeSumsMatchSpecSpec)

/-- ITS FALSE NEIGHBOUR: 'it returns false'. Refute it at one input. -/
def wholeSumsMatchSpecWrong : ChangeSpec := { name := "wholeSumsMatchSpec", fn := fun _ => fun
  | [d1, d2] => { results := [.lit (.bool false)], args := [d1, d2] }
  | _ => none }
def WholeSumsMatchSpecWrongFalsely : Prop := wholeSumsMatchSpecRow.holds Tryd.pinned (OpenSpec.ofChange wholeSumsMatchSpecWrong)

/-- 'skewbacklaw03.WholeProductsMatchSpec': WHATEVER THE INPUT: true; the input reads as it did. -/
def wholeProductsMatchSpecSpec : ChangeSpec := { name := "wholeProductsMatchSpec", fn := fun _ => fun
  | [d1, d2] => { results := [.lit (.bool true)], args := [d1, d2] }
  | _ => none }
def wholeProductsMatchSpecRow : OpenClaim := { program := "ytaigaoifloldcaadoor", sum := "ff4e900b040e9836ccb00eca046ddcac9518d214d096f36b56b827f957843968", func := "skewback/skewbacklaw03.WholeProductsMatchSpec", spec := "wholeProductsMatchSpec", inPlace := ["internal/abi.NoEscape", "internal/bytealg.MakeNoZero"], recurses := true, named := ["internal/strconv.uint64pow10", "math/bits.deBruijn32tab", "math/bits.deBruijn64tab"], apart := false, laid := [("math/bits.deBruijn32tab", laid_math_bits_deBruijn32tab), ("math/bits.deBruijn64tab", laid_math_bits_deBruijn64tab), ("internal/strconv.uint64pow10", laid_internal_strconv_uint64pow10)] }
def WholeProductsMatchSpecSaid : Prop := wholeProductsMatchSpecRow.holds Tryd.pinned (OpenSpec.ofChange wholeProductsMatchSpecSpec)

/-- ITS FALSE NEIGHBOUR: 'it returns false'. Refute it at one input. -/
def wholeProductsMatchSpecWrong : ChangeSpec := { name := "wholeProductsMatchSpec", fn := fun _ => fun
  | [d1, d2] => { results := [.lit (.bool false)], args := [d1, d2] }
  | _ => none }
def WholeProductsMatchSpecWrongFalsely : Prop := wholeProductsMatchSpecRow.holds Tryd.pinned (OpenSpec.ofChange wholeProductsMatchSpecWrong)

/-- 'skewbacklaw03.WholeTextsMatchSpec': WHATEVER THE INPUT: true; the input reads as it did. -/
def wholeTextsMatchSpecSpec : ChangeSpec := { name := "wholeTextsMatchSpec", fn := fun _ => fun
  | [d1, d2] => { results := [.lit (.bool true)], args := [d1, d2] }
  | _ => none }
def wholeTextsMatchSpecRow : OpenClaim := { program := "ytaigaoifloldcaadoor", sum := "ff4e900b040e9836ccb00eca046ddcac9518d214d096f36b56b827f957843968", func := "skewback/skewbacklaw03.WholeTextsMatchSpec", spec := "wholeTextsMatchSpec", inPlace := ["internal/abi.NoEscape", "internal/bytealg.MakeNoZero"], recurses := true, named := ["internal/strconv.uint64pow10", "math/bits.deBruijn32tab", "math/bits.deBruijn64tab"], apart := false, laid := [("math/bits.deBruijn32tab", laid_math_bits_deBruijn32tab), ("math/bits.deBruijn64tab", laid_math_bits_deBruijn64tab), ("internal/strconv.uint64pow10", laid_internal_strconv_uint64pow10)] }
def WholeTextsMatchSpecSaid : Prop := wholeTextsMatchSpecRow.holds Tryd.pinned (OpenSpec.ofChange wholeTextsMatchSpecSpec)

/-- ITS FALSE NEIGHBOUR: 'it returns false'. Refute it at one input. -/
def wholeTextsMatchSpecWrong : ChangeSpec := { name := "wholeTextsMatchSpec", fn := fun _ => fun
  | [d1, d2] => { results := [.lit (.bool false)], args := [d1, d2] }
  | _ => none }
def WholeTextsMatchSpecWrongFalsely : Prop := wholeTextsMatchSpecRow.holds Tryd.pinned (OpenSpec.ofChange wholeTextsMatchSpecWrong)

/-- 'skewbacklaw03.WholeIntsAgree': WHATEVER THE INPUT: true; the input reads as it did. -/
def wholeIntsAgreeSpec : ChangeSpec := { name := "wholeIntsAgree", fn := fun _ => fun
  | [d1, d2] => { results := [.lit (.bool true)], args := [d1, d2] }
  | _ => none }
def wholeIntsAgreeRow : OpenClaim := { program := "ytaigaoifloldcaadoor", sum := "ff4e900b040e9836ccb00eca046ddcac9518d214d096f36b56b827f957843968", func := "skewback/skewbacklaw03.WholeIntsAgree", spec := "wholeIntsAgree", inPlace := ["internal/abi.NoEscape", "internal/bytealg.MakeNoZero"], recurses := true, named := ["internal/strconv.uint64pow10", "math/bits.deBruijn32tab", "math/bits.deBruijn64tab"], apart := false, laid := [("math/bits.deBruijn32tab", laid_math_bits_deBruijn32tab), ("math/bits.deBruijn64tab", laid_math_bits_deBruijn64tab), ("internal/strconv.uint64pow10", laid_internal_strconv_uint64pow10)] }
def WholeIntsAgreeSaid : Prop := wholeIntsAgreeRow.holds Tryd.pinned (OpenSpec.ofChange wholeIntsAgreeSpec)

/-- ITS FALSE NEIGHBOUR: 'it returns false'. Refute it at one input. -/
def wholeIntsAgreeWrong : ChangeSpec := { name := "wholeIntsAgree", fn := fun _ => fun
  | [d1, d2] => { results := [.lit (.bool false)], args := [d1, d2] }
  | _ => none }
def WholeIntsAgreeWrongFalsely : Prop := wholeIntsAgreeRow.holds Tryd.pinned (OpenSpec.ofChange wholeIntsAgreeWrong)

/-- 'skewbacklaw03.WholeIsARing': WHATEVER THE INPUT: true; the input reads as it did. -/
def wholeIsARingSpec : ChangeSpec := { name := "wholeIsARing", fn := fun _ => fun
  | [d1, d2, d3] => { results := [.lit (.bool true)], args := [d1, d2, d3] }
  | _ => none }
def wholeIsARingRow : OpenClaim := { program := "ytaigaoifloldcaadoor", sum := "ff4e900b040e9836ccb00eca046ddcac9518d214d096f36b56b827f957843968", func := "skewback/skewbacklaw03.WholeIsARing", spec := "wholeIsARing", inPlace := ["internal/abi.NoEscape", "internal/bytealg.MakeNoZero"], recurses := true, named := ["internal/strconv.uint64pow10", "math/bits.deBruijn32tab", "math/bits.deBruijn64tab"], apart := false, laid := [("math/bits.deBruijn32tab", laid_math_bits_deBruijn32tab), ("math/bits.deBruijn64tab", laid_math_bits_deBruijn64tab), ("internal/strconv.uint64pow10", laid_internal_strconv_uint64pow10)] }
def WholeIsARingSaid : Prop := wholeIsARingRow.holds Tryd.pinned (OpenSpec.ofChange wholeIsARingSpec)

/-- ITS FALSE NEIGHBOUR: 'it returns false'. Refute it at one input. -/
def wholeIsARingWrong : ChangeSpec := { name := "wholeIsARing", fn := fun _ => fun
  | [d1, d2, d3] => { results := [.lit (.bool false)], args := [d1, d2, d3] }
  | _ => none }
def WholeIsARingWrongFalsely : Prop := wholeIsARingRow.holds Tryd.pinned (OpenSpec.ofChange wholeIsARingWrong)

/-- 'skewbacklaw03.WholeDivides': WHATEVER THE INPUT: true; the input reads as it did. -/
def wholeDividesSpec : ChangeSpec := { name := "wholeDivides", fn := fun _ => fun
  | [d1, d2] => { results := [.lit (.bool true)], args := [d1, d2] }
  | _ => none }
def wholeDividesRow : OpenClaim := { program := "ytaigaoifloldcaadoor", sum := "ff4e900b040e9836ccb00eca046ddcac9518d214d096f36b56b827f957843968", func := "skewback/skewbacklaw03.WholeDivides", spec := "wholeDivides", inPlace := ["internal/abi.NoEscape", "internal/bytealg.MakeNoZero"], recurses := true, named := ["internal/strconv.uint64pow10", "math/bits.deBruijn32tab", "math/bits.deBruijn64tab"], apart := false, laid := [("math/bits.deBruijn32tab", laid_math_bits_deBruijn32tab), ("math/bits.deBruijn64tab", laid_math_bits_deBruijn64tab), ("internal/strconv.uint64pow10", laid_internal_strconv_uint64pow10)] }
def WholeDividesSaid : Prop := wholeDividesRow.holds Tryd.pinned (OpenSpec.ofChange wholeDividesSpec)

/-- ITS FALSE NEIGHBOUR: 'it returns false'. Refute it at one input. -/
def wholeDividesWrong : ChangeSpec := { name := "wholeDivides", fn := fun _ => fun
  | [d1, d2] => { results := [.lit (.bool false)], args := [d1, d2] }
  | _ => none }
def WholeDividesWrongFalsely : Prop := wholeDividesRow.holds Tryd.pinned (OpenSpec.ofChange wholeDividesWrong)

/-- 'skewbacklaw03.WholeRootsAreRoots': WHATEVER THE INPUT: true; the input reads as it did. -/
def wholeRootsAreRootsSpec : ChangeSpec := { name := "wholeRootsAreRoots", fn := fun _ => fun
  | [d1, d2] => { results := [.lit (.bool true)], args := [d1, d2] }
  | _ => none }
def wholeRootsAreRootsRow : OpenClaim := { program := "ytaigaoifloldcaadoor", sum := "ff4e900b040e9836ccb00eca046ddcac9518d214d096f36b56b827f957843968", func := "skewback/skewbacklaw03.WholeRootsAreRoots", spec := "wholeRootsAreRoots", inPlace := ["internal/abi.NoEscape", "internal/bytealg.MakeNoZero"], recurses := true, named := ["internal/strconv.uint64pow10", "math/bits.deBruijn32tab", "math/bits.deBruijn64tab"], apart := false, laid := [("math/bits.deBruijn32tab", laid_math_bits_deBruijn32tab), ("math/bits.deBruijn64tab", laid_math_bits_deBruijn64tab), ("internal/strconv.uint64pow10", laid_internal_strconv_uint64pow10)] }
def WholeRootsAreRootsSaid : Prop := wholeRootsAreRootsRow.holds Tryd.pinned (OpenSpec.ofChange wholeRootsAreRootsSpec)

/-- ITS FALSE NEIGHBOUR: 'it returns false'. Refute it at one input. -/
def wholeRootsAreRootsWrong : ChangeSpec := { name := "wholeRootsAreRoots", fn := fun _ => fun
  | [d1, d2] => { results := [.lit (.bool false)], args := [d1, d2] }
  | _ => none }
def WholeRootsAreRootsWrongFalsely : Prop := wholeRootsAreRootsRow.holds Tryd.pinned (OpenSpec.ofChange wholeRootsAreRootsWrong)

/- THE SECOND FORM. 'bulk': how many values and letters a reading holds, each counted each time it is reached (what is shared counts as often as it is met; a slice's spare places count too). A statement '..UptoSaid' is the law's where the arguments, and the package variables that the reading takes, are together of bulk at most 1048576: NARROWER than '..Said'. Prove '..Said' where nothing that the law and all that it calls make is longer than what came in: it says more and counts as full. Else prove '..UptoSaid'. A law counts once. -/
mutual
def uptoBulk {H : Type} : DataW H → Nat
  | .lit (.string bytes) => bytes.length + 1
  | .lit _ => 1
  | .nil => 1
  | .ptr d => uptoBulk d + 1
  | .slice elems spare => uptoBulkAll elems + uptoBulkAll spare + 1
  | .agg parts => uptoBulkAll parts + 1
  | .iface _ d => uptoBulk d + 1
  | .map entries => uptoBulkEntries entries + 1
  | .held _ => 1
def uptoBulkAll {H : Type} : List (DataW H) → Nat
  | [] => 0
  | d :: r => uptoBulk d + uptoBulkAll r
def uptoBulkEntries {H : Type} : List (Lit × DataW H) → Nat
  | [] => 0
  | x :: r => uptoBulkEntry x + uptoBulkEntries r
def uptoBulkEntry {H : Type} : Lit × DataW H → Nat
  | (.string bytes, d) => bytes.length + uptoBulk d + 1
  | (_, d) => uptoBulk d + 1
 end
def uptoSmall : (H : Type) → List (DataW H) → Bool := fun _ ds => decide (uptoBulkAll ds ≤ 1048576)
def OpenSpec.upto (s : _root_.Go.ChangeSpec) : _root_.Go.OpenSpec := { _root_.Go.OpenSpec.ofChange s with cond := some uptoSmall }

/-- 'skewbacklaw03.WholeSumsMatchSpec', WHERE WHAT IT READS IS OF BULK AT MOST 1048576: true; the input reads as it did. -/
def wholeSumsMatchSpecUptoRow : OpenClaim := { program := "ytaigaoifloldcaadoor", sum := "ff4e900b040e9836ccb00eca046ddcac9518d214d096f36b56b827f957843968", func := "skewback/skewbacklaw03.WholeSumsMatchSpec", spec := "wholeSumsMatchSpec", inPlace := ["internal/abi.NoEscape", "internal/bytealg.MakeNoZero"], recurses := true, named := ["internal/strconv.uint64pow10", "math/bits.deBruijn32tab", "math/bits.deBruijn64tab"], apart := false, laid := [("math/bits.deBruijn32tab", laid_math_bits_deBruijn32tab), ("math/bits.deBruijn64tab", laid_math_bits_deBruijn64tab), ("internal/strconv.uint64pow10", laid_internal_strconv_uint64pow10)], narrowed := true }
def WholeSumsMatchSpecUptoSaid : Prop := wholeSumsMatchSpecUptoRow.holds Tryd.pinned (OpenSpec.upto wholeSumsMatchSpecSpec)

/-- 'skewbacklaw03.WholeProductsMatchSpec', WHERE WHAT IT READS IS OF BULK AT MOST 1048576: true; the input reads as it did. -/
def wholeProductsMatchSpecUptoRow : OpenClaim := { program := "ytaigaoifloldcaadoor", sum := "ff4e900b040e9836ccb00eca046ddcac9518d214d096f36b56b827f957843968", func := "skewback/skewbacklaw03.WholeProductsMatchSpec", spec := "wholeProductsMatchSpec", inPlace := ["internal/abi.NoEscape", "internal/bytealg.MakeNoZero"], recurses := true, named := ["internal/strconv.uint64pow10", "math/bits.deBruijn32tab", "math/bits.deBruijn64tab"], apart := false, laid := [("math/bits.deBruijn32tab", laid_math_bits_deBruijn32tab), ("math/bits.deBruijn64tab", laid_math_bits_deBruijn64tab), ("internal/strconv.uint64pow10", laid_internal_strconv_uint64pow10)], narrowed := true }
def WholeProductsMatchSpecUptoSaid : Prop := wholeProductsMatchSpecUptoRow.holds Tryd.pinned (OpenSpec.upto wholeProductsMatchSpecSpec)

/-- 'skewbacklaw03.WholeTextsMatchSpec', WHERE WHAT IT READS IS OF BULK AT MOST 1048576: true; the input reads as it did. -/
def wholeTextsMatchSpecUptoRow : OpenClaim := { program := "ytaigaoifloldcaadoor", sum := "ff4e900b040e9836ccb00eca046ddcac9518d214d096f36b56b827f957843968", func := "skewback/skewbacklaw03.WholeTextsMatchSpec", spec := "wholeTextsMatchSpec", inPlace := ["internal/abi.NoEscape", "internal/bytealg.MakeNoZero"], recurses := true, named := ["internal/strconv.uint64pow10", "math/bits.deBruijn32tab", "math/bits.deBruijn64tab"], apart := false, laid := [("math/bits.deBruijn32tab", laid_math_bits_deBruijn32tab), ("math/bits.deBruijn64tab", laid_math_bits_deBruijn64tab), ("internal/strconv.uint64pow10", laid_internal_strconv_uint64pow10)], narrowed := true }
def WholeTextsMatchSpecUptoSaid : Prop := wholeTextsMatchSpecUptoRow.holds Tryd.pinned (OpenSpec.upto wholeTextsMatchSpecSpec)

/-- 'skewbacklaw03.WholeIntsAgree', WHERE WHAT IT READS IS OF BULK AT MOST 1048576: true; the input reads as it did. -/
def wholeIntsAgreeUptoRow : OpenClaim := { program := "ytaigaoifloldcaadoor", sum := "ff4e900b040e9836ccb00eca046ddcac9518d214d096f36b56b827f957843968", func := "skewback/skewbacklaw03.WholeIntsAgree", spec := "wholeIntsAgree", inPlace := ["internal/abi.NoEscape", "internal/bytealg.MakeNoZero"], recurses := true, named := ["internal/strconv.uint64pow10", "math/bits.deBruijn32tab", "math/bits.deBruijn64tab"], apart := false, laid := [("math/bits.deBruijn32tab", laid_math_bits_deBruijn32tab), ("math/bits.deBruijn64tab", laid_math_bits_deBruijn64tab), ("internal/strconv.uint64pow10", laid_internal_strconv_uint64pow10)], narrowed := true }
def WholeIntsAgreeUptoSaid : Prop := wholeIntsAgreeUptoRow.holds Tryd.pinned (OpenSpec.upto wholeIntsAgreeSpec)

/-- 'skewbacklaw03.WholeIsARing', WHERE WHAT IT READS IS OF BULK AT MOST 1048576: true; the input reads as it did. -/
def wholeIsARingUptoRow : OpenClaim := { program := "ytaigaoifloldcaadoor", sum := "ff4e900b040e9836ccb00eca046ddcac9518d214d096f36b56b827f957843968", func := "skewback/skewbacklaw03.WholeIsARing", spec := "wholeIsARing", inPlace := ["internal/abi.NoEscape", "internal/bytealg.MakeNoZero"], recurses := true, named := ["internal/strconv.uint64pow10", "math/bits.deBruijn32tab", "math/bits.deBruijn64tab"], apart := false, laid := [("math/bits.deBruijn32tab", laid_math_bits_deBruijn32tab), ("math/bits.deBruijn64tab", laid_math_bits_deBruijn64tab), ("internal/strconv.uint64pow10", laid_internal_strconv_uint64pow10)], narrowed := true }
def WholeIsARingUptoSaid : Prop := wholeIsARingUptoRow.holds Tryd.pinned (OpenSpec.upto wholeIsARingSpec)

/-- 'skewbacklaw03.WholeDivides', WHERE WHAT IT READS IS OF BULK AT MOST 1048576: true; the input reads as it did. -/
def wholeDividesUptoRow : OpenClaim := { program := "ytaigaoifloldcaadoor", sum := "ff4e900b040e9836ccb00eca046ddcac9518d214d096f36b56b827f957843968", func := "skewback/skewbacklaw03.WholeDivides", spec := "wholeDivides", inPlace := ["internal/abi.NoEscape", "internal/bytealg.MakeNoZero"], recurses := true, named := ["internal/strconv.uint64pow10", "math/bits.deBruijn32tab", "math/bits.deBruijn64tab"], apart := false, laid := [("math/bits.deBruijn32tab", laid_math_bits_deBruijn32tab), ("math/bits.deBruijn64tab", laid_math_bits_deBruijn64tab), ("internal/strconv.uint64pow10", laid_internal_strconv_uint64pow10)], narrowed := true }
def WholeDividesUptoSaid : Prop := wholeDividesUptoRow.holds Tryd.pinned (OpenSpec.upto wholeDividesSpec)

/-- 'skewbacklaw03.WholeRootsAreRoots', WHERE WHAT IT READS IS OF BULK AT MOST 1048576: true; the input reads as it did. -/
def wholeRootsAreRootsUptoRow : OpenClaim := { program := "ytaigaoifloldcaadoor", sum := "ff4e900b040e9836ccb00eca046ddcac9518d214d096f36b56b827f957843968", func := "skewback/skewbacklaw03.WholeRootsAreRoots", spec := "wholeRootsAreRoots", inPlace := ["internal/abi.NoEscape", "internal/bytealg.MakeNoZero"], recurses := true, named := ["internal/strconv.uint64pow10", "math/bits.deBruijn32tab", "math/bits.deBruijn64tab"], apart := false, laid := [("math/bits.deBruijn32tab", laid_math_bits_deBruijn32tab), ("math/bits.deBruijn64tab", laid_math_bits_deBruijn64tab), ("internal/strconv.uint64pow10", laid_internal_strconv_uint64pow10)], narrowed := true }
def WholeRootsAreRootsUptoSaid : Prop := wholeRootsAreRootsUptoRow.holds Tryd.pinned (OpenSpec.upto wholeRootsAreRootsSpec)

end Rows
end Go.Proofs.YtaigaoifloldcaaDoor
