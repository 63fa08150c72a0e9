/-
  NARROWER THAN 'FOR EVERY INPUT', by the rows' own cells (each row's printed sentence says how): LexerWritesAsSpecified: laid · LexerForgetsSpaces: laid · LexerIsLocal: laid · LexerCovers: laid · LexerNumbersAreExact: laid.
  DERIVED. THE GIVEN ROWS OF THIS SEAT. 5 by the template 'for every input the law returns true; each argument reads behind the call as it read before'; 0 by the template 'total and deterministic' (their statements: YtbcdabflmkgkiaaGreatDoorTotals.lean).
  GIVEN WITH THE SEED: the statements are not yours to turn. If you find one false, say at which input.
  Laid BY PROGRAM, IN A SANDBOX (cutbox-rows.mjs): the forced cells as the released guide's own fill.sh prints them over the translation 58cbabc4265ad146… (all of the seat's roots in one cut). By AI agents, Wed Nov 11 2026. No macro, syntax, notation, axiom, sorry.
-/
import Derived.Test.YtbcdabflmkgkiaaGreatDoorChecked
import GoSem.PinnedTables
import GoSem.Claim
import GoSem.ClaimJoined
import GoSem.ClaimMapViews
import Derived.JoinedTies
import Derived.KernelRfl
namespace Go.Proofs.YtbcdabflmkgkiaaGreatDoor
/- THE CELL 'sum', in the pinned program and in every row, IS THE sha256 OF THE DUMP (.gsa) THAT YtbcdabflmkgkiaaGreatDoorProg.lean LOADS. Nothing in Lean hashes anything: it is a label: what it is worth is what the hold of that sum in a sandbox is worth. -/
noncomputable def Tryz.pinned : Pinned := { name := "ytbcdabflmkgkiaagreatdoor", sum := "58cbabc4265ad1465561a981b51f260094d1ce2431e4a8cd6c432cf05cf4806c", checked := Tryz.checked }
namespace Rows
def none {H : Type} : Left H := { results := [], args := [] }

/- WHAT THE LISTED PACKAGE-LEVEL VARIABLES READ AS WHEN THE CALL BEGINS. Each datum BY PROGRAM (the guide's laid-datum.mjs) off the statement by which the dump's own 'gosem.cut.vars' lays the variable. In a bare row this is a premise. The card (YtbcdabflmkgkiaaGreatDoorCards.lean) ties it to the program's text. -/
def laid_unicode_utf8_acceptRanges {H : Type} : DataW H := .agg [.agg [.lit (.int .u8 128), .lit (.int .u8 191)], .agg [.lit (.int .u8 160), .lit (.int .u8 191)], .agg [.lit (.int .u8 128), .lit (.int .u8 159)], .agg [.lit (.int .u8 144), .lit (.int .u8 191)], .agg [.lit (.int .u8 128), .lit (.int .u8 143)], .agg [.lit (.int .u8 0), .lit (.int .u8 0)], .agg [.lit (.int .u8 0), .lit (.int .u8 0)], .agg [.lit (.int .u8 0), .lit (.int .u8 0)], .agg [.lit (.int .u8 0), .lit (.int .u8 0)], .agg [.lit (.int .u8 0), .lit (.int .u8 0)], .agg [.lit (.int .u8 0), .lit (.int .u8 0)], .agg [.lit (.int .u8 0), .lit (.int .u8 0)], .agg [.lit (.int .u8 0), .lit (.int .u8 0)], .agg [.lit (.int .u8 0), .lit (.int .u8 0)], .agg [.lit (.int .u8 0), .lit (.int .u8 0)], .agg [.lit (.int .u8 0), .lit (.int .u8 0)]]
def laid_skewback_lexer_words {H : Type} : DataW H := .agg [.lit (.string [97, 110, 100]), .lit (.string [97, 112, 112, 108, 121]), .lit (.string [97, 116]), .lit (.string [98, 108, 111, 99, 107]), .lit (.string [98, 111, 120]), .lit (.string [98, 121]), .lit (.string [99, 117, 116]), .lit (.string [101, 108, 115, 101]), .lit (.string [102, 97, 108, 115, 101]), .lit (.string [102, 111, 114, 99, 101]), .lit (.string [102, 114, 101, 101]), .lit (.string [102, 114, 111, 109]), .lit (.string [103, 114, 97, 118, 105, 116, 121]), .lit (.string [103, 114, 111, 117, 110, 100]), .lit (.string [105, 102]), .lit (.string [108, 101, 116]), .lit (.string [108, 111, 97, 100]), .lit (.string [109, 97, 115, 115]), .lit (.string [110, 111, 116]), .lit (.string [111, 110]), .lit (.string [111, 114]), .lit (.string [112, 97, 117, 115, 101]), .lit (.string [112, 108, 97, 99, 101]), .lit (.string [112, 111, 105, 110, 116, 115]), .lit (.string [112, 114, 111, 112]), .lit (.string [114, 101, 109, 111, 118, 101]), .lit (.string [114, 101, 112, 101, 97, 116]), .lit (.string [114, 111, 112, 101]), .lit (.string [114, 111, 117, 103, 104]), .lit (.string [114, 117, 110]), .lit (.string [115, 101, 116]), .lit (.string [116, 105, 101]), .lit (.string [116, 111]), .lit (.string [116, 114, 117, 101]), .lit (.string [116, 117, 114, 110]), .lit (.string [121, 97, 114, 100])]
def laid_skewback_lexer_signs {H : Type} : DataW H := .agg [.lit (.string [46, 46]), .lit (.string [61, 61]), .lit (.string [33, 61]), .lit (.string [60, 61]), .lit (.string [62, 61]), .lit (.string [45, 62]), .lit (.string [40]), .lit (.string [41]), .lit (.string [123]), .lit (.string [125]), .lit (.string [91]), .lit (.string [93]), .lit (.string [44]), .lit (.string [59]), .lit (.string [58]), .lit (.string [46]), .lit (.string [61]), .lit (.string [60]), .lit (.string [62]), .lit (.string [43]), .lit (.string [45]), .lit (.string [42]), .lit (.string [47]), .lit (.string [94]), .lit (.string [64])]
/-- One of Go's own tables, pinned by name: the form's constant. -/
def laid_unicode_utf8_first : DataW Unit := Go.Pinned.utf8First

/-- 'skewbacklaw28.LexerWritesAsSpecified': WHATEVER THE INPUT: true; the input reads as it did. -/
def lexerWritesAsSpecifiedSpec : ChangeSpec := { name := "lexerWritesAsSpecified", fn := fun _ => fun
  | [d] => { results := [.lit (.bool true)], args := [d] }
  | _ => none }
def lexerWritesAsSpecifiedRow : OpenClaim := { program := "ytbcdabflmkgkiaagreatdoor", sum := "58cbabc4265ad1465561a981b51f260094d1ce2431e4a8cd6c432cf05cf4806c", func := "skewback/skewbacklaw28.LexerWritesAsSpecified", spec := "lexerWritesAsSpecified", inPlace := ["internal/bytealg.IndexByteString", "sync/atomic.LoadUint32", "(*internal/sync.Mutex).Lock", "internal/race.Disable", "sync/atomic.CompareAndSwapInt32", "internal/race.Enable", "internal/race.Acquire", "(*internal/sync.Mutex).lockSlow", "internal/sync.runtime_canSpin", "internal/sync.runtime_doSpin", "internal/sync.throw", "internal/sync.runtime_nanotime", "internal/sync.runtime_SemacquireMutex", "sync/atomic.AddInt32", "(*internal/sync.Mutex).Unlock", "internal/race.ReleaseMerge", "(*internal/sync.Mutex).unlockSlow", "internal/sync.fatal", "internal/sync.runtime_Semrelease", "sync/atomic.StoreUint32", "internal/bytealg.IndexString", "internal/abi.NoEscape", "internal/bytealg.MakeNoZero", "internal/bytealg.CountString"], unfollowed := true, recurses := true, named := ["skewback/lexer.words", "skewback/lexer.signs", "internal/bytealg.MaxLen", "unicode/utf8.first", "unicode/utf8.acceptRanges"], apart := false, laid := [("unicode/utf8.acceptRanges", laid_unicode_utf8_acceptRanges), ("skewback/lexer.words", laid_skewback_lexer_words), ("skewback/lexer.signs", laid_skewback_lexer_signs), ("unicode/utf8.first", laid_unicode_utf8_first)] }
def LexerWritesAsSpecifiedSaid : Prop := lexerWritesAsSpecifiedRow.holds Tryz.pinned (OpenSpec.ofChange lexerWritesAsSpecifiedSpec)

/-- ITS FALSE NEIGHBOUR: 'it returns false'. Refute it at one input. -/
def lexerWritesAsSpecifiedWrong : ChangeSpec := { name := "lexerWritesAsSpecified", fn := fun _ => fun
  | [d] => { results := [.lit (.bool false)], args := [d] }
  | _ => none }
def LexerWritesAsSpecifiedWrongFalsely : Prop := lexerWritesAsSpecifiedRow.holds Tryz.pinned (OpenSpec.ofChange lexerWritesAsSpecifiedWrong)

/-- 'skewbacklaw28.LexerForgetsSpaces': WHATEVER THE INPUT: true; the input reads as it did. -/
def lexerForgetsSpacesSpec : ChangeSpec := { name := "lexerForgetsSpaces", fn := fun _ => fun
  | [d1, d2] => { results := [.lit (.bool true)], args := [d1, d2] }
  | _ => none }
def lexerForgetsSpacesRow : OpenClaim := { program := "ytbcdabflmkgkiaagreatdoor", sum := "58cbabc4265ad1465561a981b51f260094d1ce2431e4a8cd6c432cf05cf4806c", func := "skewback/skewbacklaw28.LexerForgetsSpaces", spec := "lexerForgetsSpaces", inPlace := ["internal/bytealg.IndexByteString", "sync/atomic.LoadUint32", "(*internal/sync.Mutex).Lock", "internal/race.Disable", "sync/atomic.CompareAndSwapInt32", "internal/race.Enable", "internal/race.Acquire", "(*internal/sync.Mutex).lockSlow", "internal/sync.runtime_canSpin", "internal/sync.runtime_doSpin", "internal/sync.throw", "internal/sync.runtime_nanotime", "internal/sync.runtime_SemacquireMutex", "sync/atomic.AddInt32", "(*internal/sync.Mutex).Unlock", "internal/race.ReleaseMerge", "(*internal/sync.Mutex).unlockSlow", "internal/sync.fatal", "internal/sync.runtime_Semrelease", "sync/atomic.StoreUint32", "internal/bytealg.IndexString", "internal/abi.NoEscape", "internal/bytealg.MakeNoZero", "internal/bytealg.CountString"], unfollowed := true, recurses := true, named := ["skewback/lexer.words", "skewback/lexer.signs", "internal/bytealg.MaxLen", "unicode/utf8.first", "unicode/utf8.acceptRanges"], apart := false, laid := [("unicode/utf8.acceptRanges", laid_unicode_utf8_acceptRanges), ("skewback/lexer.words", laid_skewback_lexer_words), ("skewback/lexer.signs", laid_skewback_lexer_signs), ("unicode/utf8.first", laid_unicode_utf8_first)] }
def LexerForgetsSpacesSaid : Prop := lexerForgetsSpacesRow.holds Tryz.pinned (OpenSpec.ofChange lexerForgetsSpacesSpec)

/-- ITS FALSE NEIGHBOUR: 'it returns false'. Refute it at one input. -/
def lexerForgetsSpacesWrong : ChangeSpec := { name := "lexerForgetsSpaces", fn := fun _ => fun
  | [d1, d2] => { results := [.lit (.bool false)], args := [d1, d2] }
  | _ => none }
def LexerForgetsSpacesWrongFalsely : Prop := lexerForgetsSpacesRow.holds Tryz.pinned (OpenSpec.ofChange lexerForgetsSpacesWrong)

/-- 'skewbacklaw28.LexerIsLocal': WHATEVER THE INPUT: true; the input reads as it did. -/
def lexerIsLocalSpec : ChangeSpec := { name := "lexerIsLocal", fn := fun _ => fun
  | [d1, d2] => { results := [.lit (.bool true)], args := [d1, d2] }
  | _ => none }
def lexerIsLocalRow : OpenClaim := { program := "ytbcdabflmkgkiaagreatdoor", sum := "58cbabc4265ad1465561a981b51f260094d1ce2431e4a8cd6c432cf05cf4806c", func := "skewback/skewbacklaw28.LexerIsLocal", spec := "lexerIsLocal", inPlace := ["internal/bytealg.IndexByteString", "sync/atomic.LoadUint32", "(*internal/sync.Mutex).Lock", "internal/race.Disable", "sync/atomic.CompareAndSwapInt32", "internal/race.Enable", "internal/race.Acquire", "(*internal/sync.Mutex).lockSlow", "internal/sync.runtime_canSpin", "internal/sync.runtime_doSpin", "internal/sync.throw", "internal/sync.runtime_nanotime", "internal/sync.runtime_SemacquireMutex", "sync/atomic.AddInt32", "(*internal/sync.Mutex).Unlock", "internal/race.ReleaseMerge", "(*internal/sync.Mutex).unlockSlow", "internal/sync.fatal", "internal/sync.runtime_Semrelease", "sync/atomic.StoreUint32", "internal/bytealg.IndexString", "internal/abi.NoEscape", "internal/bytealg.MakeNoZero", "internal/bytealg.CountString"], unfollowed := true, recurses := true, named := ["skewback/lexer.words", "skewback/lexer.signs", "internal/bytealg.MaxLen", "unicode/utf8.first", "unicode/utf8.acceptRanges"], apart := false, laid := [("unicode/utf8.acceptRanges", laid_unicode_utf8_acceptRanges), ("skewback/lexer.words", laid_skewback_lexer_words), ("skewback/lexer.signs", laid_skewback_lexer_signs), ("unicode/utf8.first", laid_unicode_utf8_first)] }
def LexerIsLocalSaid : Prop := lexerIsLocalRow.holds Tryz.pinned (OpenSpec.ofChange lexerIsLocalSpec)

/-- ITS FALSE NEIGHBOUR: 'it returns false'. Refute it at one input. -/
def lexerIsLocalWrong : ChangeSpec := { name := "lexerIsLocal", fn := fun _ => fun
  | [d1, d2] => { results := [.lit (.bool false)], args := [d1, d2] }
  | _ => none }
def LexerIsLocalWrongFalsely : Prop := lexerIsLocalRow.holds Tryz.pinned (OpenSpec.ofChange lexerIsLocalWrong)

/-- 'skewbacklaw28.LexerCovers': WHATEVER THE INPUT: true; the input reads as it did. -/
def lexerCoversSpec : ChangeSpec := { name := "lexerCovers", fn := fun _ => fun
  | [d] => { results := [.lit (.bool true)], args := [d] }
  | _ => none }
def lexerCoversRow : OpenClaim := { program := "ytbcdabflmkgkiaagreatdoor", sum := "58cbabc4265ad1465561a981b51f260094d1ce2431e4a8cd6c432cf05cf4806c", func := "skewback/skewbacklaw28.LexerCovers", spec := "lexerCovers", inPlace := ["internal/bytealg.IndexByteString", "sync/atomic.LoadUint32", "(*internal/sync.Mutex).Lock", "internal/race.Disable", "sync/atomic.CompareAndSwapInt32", "internal/race.Enable", "internal/race.Acquire", "(*internal/sync.Mutex).lockSlow", "internal/sync.runtime_canSpin", "internal/sync.runtime_doSpin", "internal/sync.throw", "internal/sync.runtime_nanotime", "internal/sync.runtime_SemacquireMutex", "sync/atomic.AddInt32", "(*internal/sync.Mutex).Unlock", "internal/race.ReleaseMerge", "(*internal/sync.Mutex).unlockSlow", "internal/sync.fatal", "internal/sync.runtime_Semrelease", "sync/atomic.StoreUint32", "internal/bytealg.IndexString", "internal/abi.NoEscape", "internal/bytealg.MakeNoZero", "internal/bytealg.CountString"], unfollowed := true, recurses := true, named := ["skewback/lexer.words", "skewback/lexer.signs", "internal/bytealg.MaxLen", "unicode/utf8.first", "unicode/utf8.acceptRanges"], apart := false, laid := [("unicode/utf8.acceptRanges", laid_unicode_utf8_acceptRanges), ("skewback/lexer.words", laid_skewback_lexer_words), ("skewback/lexer.signs", laid_skewback_lexer_signs), ("unicode/utf8.first", laid_unicode_utf8_first)] }
def LexerCoversSaid : Prop := lexerCoversRow.holds Tryz.pinned (OpenSpec.ofChange lexerCoversSpec)

/-- ITS FALSE NEIGHBOUR: 'it returns false'. Refute it at one input. -/
def lexerCoversWrong : ChangeSpec := { name := "lexerCovers", fn := fun _ => fun
  | [d] => { results := [.lit (.bool false)], args := [d] }
  | _ => none }
def LexerCoversWrongFalsely : Prop := lexerCoversRow.holds Tryz.pinned (OpenSpec.ofChange lexerCoversWrong)

/-- 'skewbacklaw28.LexerNumbersAreExact': WHATEVER THE INPUT: true; the input reads as it did. -/
def lexerNumbersAreExactSpec : ChangeSpec := { name := "lexerNumbersAreExact", fn := fun _ => fun
  | [d1, d2] => { results := [.lit (.bool true)], args := [d1, d2] }
  | _ => none }
def lexerNumbersAreExactRow : OpenClaim := { program := "ytbcdabflmkgkiaagreatdoor", sum := "58cbabc4265ad1465561a981b51f260094d1ce2431e4a8cd6c432cf05cf4806c", func := "skewback/skewbacklaw28.LexerNumbersAreExact", spec := "lexerNumbersAreExact", inPlace := ["sync/atomic.LoadUint32", "(*internal/sync.Mutex).Lock", "internal/race.Disable", "sync/atomic.CompareAndSwapInt32", "internal/race.Enable", "internal/race.Acquire", "(*internal/sync.Mutex).lockSlow", "internal/sync.runtime_canSpin", "internal/sync.runtime_doSpin", "internal/sync.throw", "internal/sync.runtime_nanotime", "internal/sync.runtime_SemacquireMutex", "sync/atomic.AddInt32", "(*internal/sync.Mutex).Unlock", "internal/race.ReleaseMerge", "(*internal/sync.Mutex).unlockSlow", "internal/sync.fatal", "internal/sync.runtime_Semrelease", "sync/atomic.StoreUint32", "internal/bytealg.IndexByteString", "internal/bytealg.IndexString", "internal/abi.NoEscape", "internal/bytealg.MakeNoZero", "internal/bytealg.CountString"], unfollowed := true, recurses := true, named := ["skewback/lexer.words", "skewback/lexer.signs", "internal/bytealg.MaxLen", "unicode/utf8.first", "unicode/utf8.acceptRanges"], apart := false, laid := [("unicode/utf8.acceptRanges", laid_unicode_utf8_acceptRanges), ("skewback/lexer.words", laid_skewback_lexer_words), ("skewback/lexer.signs", laid_skewback_lexer_signs), ("unicode/utf8.first", laid_unicode_utf8_first)] }
def LexerNumbersAreExactSaid : Prop := lexerNumbersAreExactRow.holds Tryz.pinned (OpenSpec.ofChange lexerNumbersAreExactSpec)

/-- ITS FALSE NEIGHBOUR: 'it returns false'. Refute it at one input. -/
def lexerNumbersAreExactWrong : ChangeSpec := { name := "lexerNumbersAreExact", fn := fun _ => fun
  | [d1, d2] => { results := [.lit (.bool false)], args := [d1, d2] }
  | _ => none }
def LexerNumbersAreExactWrongFalsely : Prop := lexerNumbersAreExactRow.holds Tryz.pinned (OpenSpec.ofChange lexerNumbersAreExactWrong)

/- THE SECOND FORM. 'bulk': how many values and letters a reading holds, each counted each time it is reached (what is shared counts as often as it is met; a slice's spare places count too). A statement '..UptoSaid' is the law's where the arguments, and the package variables that the reading takes, are together of bulk at most 1048576: NARROWER than '..Said'. Prove '..Said' where nothing that the law and all that it calls make is longer than what came in: it says more and counts as full. Else prove '..UptoSaid'. A law counts once. -/
mutual
def uptoBulk {H : Type} : DataW H → Nat
  | .lit (.string bytes) => bytes.length + 1
  | .lit _ => 1
  | .nil => 1
  | .ptr d => uptoBulk d + 1
  | .slice elems spare => uptoBulkAll elems + uptoBulkAll spare + 1
  | .agg parts => uptoBulkAll parts + 1
  | .iface _ d => uptoBulk d + 1
  | .map entries => uptoBulkEntries entries + 1
  | .held _ => 1
def uptoBulkAll {H : Type} : List (DataW H) → Nat
  | [] => 0
  | d :: r => uptoBulk d + uptoBulkAll r
def uptoBulkEntries {H : Type} : List (Lit × DataW H) → Nat
  | [] => 0
  | x :: r => uptoBulkEntry x + uptoBulkEntries r
def uptoBulkEntry {H : Type} : Lit × DataW H → Nat
  | (.string bytes, d) => bytes.length + uptoBulk d + 1
  | (_, d) => uptoBulk d + 1
 end
def uptoSmall : (H : Type) → List (DataW H) → Bool := fun _ ds => decide (uptoBulkAll ds ≤ 1048576)
def OpenSpec.upto (s : _root_.Go.ChangeSpec) : _root_.Go.OpenSpec := { _root_.Go.OpenSpec.ofChange s with cond := some uptoSmall }

/-- 'skewbacklaw28.LexerWritesAsSpecified', WHERE WHAT IT READS IS OF BULK AT MOST 1048576: true; the input reads as it did. -/
def lexerWritesAsSpecifiedUptoRow : OpenClaim := { program := "ytbcdabflmkgkiaagreatdoor", sum := "58cbabc4265ad1465561a981b51f260094d1ce2431e4a8cd6c432cf05cf4806c", func := "skewback/skewbacklaw28.LexerWritesAsSpecified", spec := "lexerWritesAsSpecified", inPlace := ["internal/bytealg.IndexByteString", "sync/atomic.LoadUint32", "(*internal/sync.Mutex).Lock", "internal/race.Disable", "sync/atomic.CompareAndSwapInt32", "internal/race.Enable", "internal/race.Acquire", "(*internal/sync.Mutex).lockSlow", "internal/sync.runtime_canSpin", "internal/sync.runtime_doSpin", "internal/sync.throw", "internal/sync.runtime_nanotime", "internal/sync.runtime_SemacquireMutex", "sync/atomic.AddInt32", "(*internal/sync.Mutex).Unlock", "internal/race.ReleaseMerge", "(*internal/sync.Mutex).unlockSlow", "internal/sync.fatal", "internal/sync.runtime_Semrelease", "sync/atomic.StoreUint32", "internal/bytealg.IndexString", "internal/abi.NoEscape", "internal/bytealg.MakeNoZero", "internal/bytealg.CountString"], unfollowed := true, recurses := true, named := ["skewback/lexer.words", "skewback/lexer.signs", "internal/bytealg.MaxLen", "unicode/utf8.first", "unicode/utf8.acceptRanges"], apart := false, laid := [("unicode/utf8.acceptRanges", laid_unicode_utf8_acceptRanges), ("skewback/lexer.words", laid_skewback_lexer_words), ("skewback/lexer.signs", laid_skewback_lexer_signs), ("unicode/utf8.first", laid_unicode_utf8_first)], narrowed := true }
def LexerWritesAsSpecifiedUptoSaid : Prop := lexerWritesAsSpecifiedUptoRow.holds Tryz.pinned (OpenSpec.upto lexerWritesAsSpecifiedSpec)

/-- 'skewbacklaw28.LexerForgetsSpaces', WHERE WHAT IT READS IS OF BULK AT MOST 1048576: true; the input reads as it did. -/
def lexerForgetsSpacesUptoRow : OpenClaim := { program := "ytbcdabflmkgkiaagreatdoor", sum := "58cbabc4265ad1465561a981b51f260094d1ce2431e4a8cd6c432cf05cf4806c", func := "skewback/skewbacklaw28.LexerForgetsSpaces", spec := "lexerForgetsSpaces", inPlace := ["internal/bytealg.IndexByteString", "sync/atomic.LoadUint32", "(*internal/sync.Mutex).Lock", "internal/race.Disable", "sync/atomic.CompareAndSwapInt32", "internal/race.Enable", "internal/race.Acquire", "(*internal/sync.Mutex).lockSlow", "internal/sync.runtime_canSpin", "internal/sync.runtime_doSpin", "internal/sync.throw", "internal/sync.runtime_nanotime", "internal/sync.runtime_SemacquireMutex", "sync/atomic.AddInt32", "(*internal/sync.Mutex).Unlock", "internal/race.ReleaseMerge", "(*internal/sync.Mutex).unlockSlow", "internal/sync.fatal", "internal/sync.runtime_Semrelease", "sync/atomic.StoreUint32", "internal/bytealg.IndexString", "internal/abi.NoEscape", "internal/bytealg.MakeNoZero", "internal/bytealg.CountString"], unfollowed := true, recurses := true, named := ["skewback/lexer.words", "skewback/lexer.signs", "internal/bytealg.MaxLen", "unicode/utf8.first", "unicode/utf8.acceptRanges"], apart := false, laid := [("unicode/utf8.acceptRanges", laid_unicode_utf8_acceptRanges), ("skewback/lexer.words", laid_skewback_lexer_words), ("skewback/lexer.signs", laid_skewback_lexer_signs), ("unicode/utf8.first", laid_unicode_utf8_first)], narrowed := true }
def LexerForgetsSpacesUptoSaid : Prop := lexerForgetsSpacesUptoRow.holds Tryz.pinned (OpenSpec.upto lexerForgetsSpacesSpec)

/-- 'skewbacklaw28.LexerIsLocal', WHERE WHAT IT READS IS OF BULK AT MOST 1048576: true; the input reads as it did. -/
def lexerIsLocalUptoRow : OpenClaim := { program := "ytbcdabflmkgkiaagreatdoor", sum := "58cbabc4265ad1465561a981b51f260094d1ce2431e4a8cd6c432cf05cf4806c", func := "skewback/skewbacklaw28.LexerIsLocal", spec := "lexerIsLocal", inPlace := ["internal/bytealg.IndexByteString", "sync/atomic.LoadUint32", "(*internal/sync.Mutex).Lock", "internal/race.Disable", "sync/atomic.CompareAndSwapInt32", "internal/race.Enable", "internal/race.Acquire", "(*internal/sync.Mutex).lockSlow", "internal/sync.runtime_canSpin", "internal/sync.runtime_doSpin", "internal/sync.throw", "internal/sync.runtime_nanotime", "internal/sync.runtime_SemacquireMutex", "sync/atomic.AddInt32", "(*internal/sync.Mutex).Unlock", "internal/race.ReleaseMerge", "(*internal/sync.Mutex).unlockSlow", "internal/sync.fatal", "internal/sync.runtime_Semrelease", "sync/atomic.StoreUint32", "internal/bytealg.IndexString", "internal/abi.NoEscape", "internal/bytealg.MakeNoZero", "internal/bytealg.CountString"], unfollowed := true, recurses := true, named := ["skewback/lexer.words", "skewback/lexer.signs", "internal/bytealg.MaxLen", "unicode/utf8.first", "unicode/utf8.acceptRanges"], apart := false, laid := [("unicode/utf8.acceptRanges", laid_unicode_utf8_acceptRanges), ("skewback/lexer.words", laid_skewback_lexer_words), ("skewback/lexer.signs", laid_skewback_lexer_signs), ("unicode/utf8.first", laid_unicode_utf8_first)], narrowed := true }
def LexerIsLocalUptoSaid : Prop := lexerIsLocalUptoRow.holds Tryz.pinned (OpenSpec.upto lexerIsLocalSpec)

/-- 'skewbacklaw28.LexerCovers', WHERE WHAT IT READS IS OF BULK AT MOST 1048576: true; the input reads as it did. -/
def lexerCoversUptoRow : OpenClaim := { program := "ytbcdabflmkgkiaagreatdoor", sum := "58cbabc4265ad1465561a981b51f260094d1ce2431e4a8cd6c432cf05cf4806c", func := "skewback/skewbacklaw28.LexerCovers", spec := "lexerCovers", inPlace := ["internal/bytealg.IndexByteString", "sync/atomic.LoadUint32", "(*internal/sync.Mutex).Lock", "internal/race.Disable", "sync/atomic.CompareAndSwapInt32", "internal/race.Enable", "internal/race.Acquire", "(*internal/sync.Mutex).lockSlow", "internal/sync.runtime_canSpin", "internal/sync.runtime_doSpin", "internal/sync.throw", "internal/sync.runtime_nanotime", "internal/sync.runtime_SemacquireMutex", "sync/atomic.AddInt32", "(*internal/sync.Mutex).Unlock", "internal/race.ReleaseMerge", "(*internal/sync.Mutex).unlockSlow", "internal/sync.fatal", "internal/sync.runtime_Semrelease", "sync/atomic.StoreUint32", "internal/bytealg.IndexString", "internal/abi.NoEscape", "internal/bytealg.MakeNoZero", "internal/bytealg.CountString"], unfollowed := true, recurses := true, named := ["skewback/lexer.words", "skewback/lexer.signs", "internal/bytealg.MaxLen", "unicode/utf8.first", "unicode/utf8.acceptRanges"], apart := false, laid := [("unicode/utf8.acceptRanges", laid_unicode_utf8_acceptRanges), ("skewback/lexer.words", laid_skewback_lexer_words), ("skewback/lexer.signs", laid_skewback_lexer_signs), ("unicode/utf8.first", laid_unicode_utf8_first)], narrowed := true }
def LexerCoversUptoSaid : Prop := lexerCoversUptoRow.holds Tryz.pinned (OpenSpec.upto lexerCoversSpec)

/-- 'skewbacklaw28.LexerNumbersAreExact', WHERE WHAT IT READS IS OF BULK AT MOST 1048576: true; the input reads as it did. -/
def lexerNumbersAreExactUptoRow : OpenClaim := { program := "ytbcdabflmkgkiaagreatdoor", sum := "58cbabc4265ad1465561a981b51f260094d1ce2431e4a8cd6c432cf05cf4806c", func := "skewback/skewbacklaw28.LexerNumbersAreExact", spec := "lexerNumbersAreExact", inPlace := ["sync/atomic.LoadUint32", "(*internal/sync.Mutex).Lock", "internal/race.Disable", "sync/atomic.CompareAndSwapInt32", "internal/race.Enable", "internal/race.Acquire", "(*internal/sync.Mutex).lockSlow", "internal/sync.runtime_canSpin", "internal/sync.runtime_doSpin", "internal/sync.throw", "internal/sync.runtime_nanotime", "internal/sync.runtime_SemacquireMutex", "sync/atomic.AddInt32", "(*internal/sync.Mutex).Unlock", "internal/race.ReleaseMerge", "(*internal/sync.Mutex).unlockSlow", "internal/sync.fatal", "internal/sync.runtime_Semrelease", "sync/atomic.StoreUint32", "internal/bytealg.IndexByteString", "internal/bytealg.IndexString", "internal/abi.NoEscape", "internal/bytealg.MakeNoZero", "internal/bytealg.CountString"], unfollowed := true, recurses := true, named := ["skewback/lexer.words", "skewback/lexer.signs", "internal/bytealg.MaxLen", "unicode/utf8.first", "unicode/utf8.acceptRanges"], apart := false, laid := [("unicode/utf8.acceptRanges", laid_unicode_utf8_acceptRanges), ("skewback/lexer.words", laid_skewback_lexer_words), ("skewback/lexer.signs", laid_skewback_lexer_signs), ("unicode/utf8.first", laid_unicode_utf8_first)], narrowed := true }
def LexerNumbersAreExactUptoSaid : Prop := lexerNumbersAreExactUptoRow.holds Tryz.pinned (OpenSpec.upto lexerNumbersAreExactSpec)

end Rows
end Go.Proofs.YtbcdabflmkgkiaaGreatDoor
