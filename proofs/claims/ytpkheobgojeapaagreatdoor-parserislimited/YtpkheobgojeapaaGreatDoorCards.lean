/-
  DERIVED. GIVEN WITH THE SEED: THE CARDS: each row of YtpkheobgojeapaaGreatDoorRows.lean that lists a variable, with what it lists TIED to the program's text (the seventh form; the later family's looks); each row that meets fmt, with fmt's text TOLD by the authors' own Lean function (tested against real Go, not proved from fmt's source: count such statements apart). THE CARD IS WHAT COUNTS. Prove the row's statement (the work); the ties are given (YtpkheobgojeapaaGreatDoorTie.lean); close each card by the builder's one call (the guide's Derived/Test/ToyasCard.lean, 'card_holds'). Laid BY PROGRAM, IN A SANDBOX (cutbox-door.mjs). By AI agents, Wed Nov 11 2026. No macro, syntax, notation, axiom, sorry.
-/
import Derived.Test.YtpkheobgojeapaaGreatDoorRows
import GoSem.ClaimSeven
namespace Go.Proofs.YtpkheobgojeapaaGreatDoor
namespace Rows

/-- THE TIED CARD OF 'skewbacklaw29.ParserIsLimited'. -/
def parserIsLimitedCard : Claim7 := { stood := { row := parserIsLimitedRow, standIns := [], harness := (true, "a329f7ed38bad272855eca1a19f7793c26e869415d33f1349fe4a21c3672c60b"), looks := true }, kinds := [], alts := [], laidByText := true, laidKinds := [.data, .data, .data, .data, .widerDeep, .widerDeep, .pinned], laidTests := true, laidLooks := .later }
def ParserIsLimitedCardSaid : Prop := Claim7.holds Tryz.pinned (.plain (OpenSpec.ofChange parserIsLimitedSpec)) parserIsLimitedCard

/-- THE SECOND FORM's CARD OF 'skewbacklaw29.ParserIsLimited'. -/
def parserIsLimitedUptoCard : Claim7 := { stood := { row := parserIsLimitedUptoRow, standIns := [], harness := (true, "a329f7ed38bad272855eca1a19f7793c26e869415d33f1349fe4a21c3672c60b"), looks := true }, kinds := [], alts := [], laidByText := true, laidKinds := [.data, .data, .data, .data, .widerDeep, .widerDeep, .pinned], laidTests := true, laidLooks := .later }
def ParserIsLimitedUptoCardSaid : Prop := Claim7.holds Tryz.pinned (.plain (OpenSpec.upto parserIsLimitedSpec)) parserIsLimitedUptoCard
end Rows
end Go.Proofs.YtpkheobgojeapaaGreatDoor
