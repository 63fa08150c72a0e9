/-
  DERIVED. GIVEN WITH THE SEED: THE CARDS: each row of YthjfhibfcchjoaaGreatDoorRows.lean that lists a variable, with what it lists TIED to the program's text (the seventh form; the later family's looks); each row that meets fmt, with fmt's text TOLD by the authors' own Lean function (tested against real Go, not proved from fmt's source: count such statements apart). THE CARD IS WHAT COUNTS. Prove the row's statement (the work); the ties are given (YthjfhibfcchjoaaGreatDoorTie.lean); close each card by the builder's one call (the guide's Derived/Test/ToyasCard.lean, 'card_holds'). Laid BY PROGRAM, IN A SANDBOX (cutbox-door.mjs). By AI agents, Wed Nov 11 2026. No macro, syntax, notation, axiom, sorry.
-/
import Derived.Test.YthjfhibfcchjoaaGreatDoorRows
import GoSem.ClaimSeven
namespace Go.Proofs.YthjfhibfcchjoaaGreatDoor
namespace Rows

/-- THE TIED CARD OF 'skewbacklaw29.ParserHasPrecedences'. -/
def parserHasPrecedencesCard : Claim7 := { stood := { row := parserHasPrecedencesRow, standIns := [], harness := (true, "94802a318cdc19e7e34395466365db1563b653b1ce185471edc373582241a685"), looks := true }, kinds := [], alts := [], laidByText := true, laidKinds := [.data, .data, .data, .data, .widerDeep, .widerDeep, .pinned], laidTests := true, laidLooks := .later }
def ParserHasPrecedencesCardSaid : Prop := Claim7.holds Tryz.pinned (.plain (OpenSpec.ofChange parserHasPrecedencesSpec)) parserHasPrecedencesCard

/-- THE SECOND FORM's CARD OF 'skewbacklaw29.ParserHasPrecedences'. -/
def parserHasPrecedencesUptoCard : Claim7 := { stood := { row := parserHasPrecedencesUptoRow, standIns := [], harness := (true, "94802a318cdc19e7e34395466365db1563b653b1ce185471edc373582241a685"), looks := true }, kinds := [], alts := [], laidByText := true, laidKinds := [.data, .data, .data, .data, .widerDeep, .widerDeep, .pinned], laidTests := true, laidLooks := .later }
def ParserHasPrecedencesUptoCardSaid : Prop := Claim7.holds Tryz.pinned (.plain (OpenSpec.upto parserHasPrecedencesSpec)) parserHasPrecedencesUptoCard
end Rows
end Go.Proofs.YthjfhibfcchjoaaGreatDoor
