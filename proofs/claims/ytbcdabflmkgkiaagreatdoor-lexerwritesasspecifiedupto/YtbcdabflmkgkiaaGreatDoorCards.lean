/-
  DERIVED. GIVEN WITH THE SEED: THE CARDS: each row of YtbcdabflmkgkiaaGreatDoorRows.lean that lists a variable, with what it lists TIED to the program's text (the seventh form; the later family's looks); each row that meets fmt, with fmt's text TOLD by the authors' own Lean function (tested against real Go, not proved from fmt's source: count such statements apart). THE CARD IS WHAT COUNTS. Prove the row's statement (the work); the ties are given (YtbcdabflmkgkiaaGreatDoorTie.lean); close each card by the builder's one call (the guide's Derived/Test/ToyasCard.lean, 'card_holds'). Laid BY PROGRAM, IN A SANDBOX (cutbox-door.mjs). By AI agents, Wed Nov 11 2026. No macro, syntax, notation, axiom, sorry.
-/
import Derived.Test.YtbcdabflmkgkiaaGreatDoorRows
import GoSem.ClaimSeven
namespace Go.Proofs.YtbcdabflmkgkiaaGreatDoor
namespace Rows

/-- THE TIED CARD OF 'skewbacklaw28.LexerWritesAsSpecified'. -/
def lexerWritesAsSpecifiedCard : Claim7 := { stood := { row := lexerWritesAsSpecifiedRow, standIns := [], harness := (true, "49d155d34cc68c705a859f249ab34159a2928b25ab3b2b30829fbb14056adcbb"), looks := true }, kinds := [], alts := [], laidByText := true, laidKinds := [.data, .widerDeep, .widerDeep, .pinned], laidTests := true, laidLooks := .later }
def LexerWritesAsSpecifiedCardSaid : Prop := Claim7.holds Tryz.pinned (.plain (OpenSpec.ofChange lexerWritesAsSpecifiedSpec)) lexerWritesAsSpecifiedCard

/-- THE TIED CARD OF 'skewbacklaw28.LexerForgetsSpaces'. -/
def lexerForgetsSpacesCard : Claim7 := { stood := { row := lexerForgetsSpacesRow, standIns := [], harness := (true, "49d155d34cc68c705a859f249ab34159a2928b25ab3b2b30829fbb14056adcbb"), looks := true }, kinds := [], alts := [], laidByText := true, laidKinds := [.data, .widerDeep, .widerDeep, .pinned], laidTests := true, laidLooks := .later }
def LexerForgetsSpacesCardSaid : Prop := Claim7.holds Tryz.pinned (.plain (OpenSpec.ofChange lexerForgetsSpacesSpec)) lexerForgetsSpacesCard

/-- THE TIED CARD OF 'skewbacklaw28.LexerIsLocal'. -/
def lexerIsLocalCard : Claim7 := { stood := { row := lexerIsLocalRow, standIns := [], harness := (true, "49d155d34cc68c705a859f249ab34159a2928b25ab3b2b30829fbb14056adcbb"), looks := true }, kinds := [], alts := [], laidByText := true, laidKinds := [.data, .widerDeep, .widerDeep, .pinned], laidTests := true, laidLooks := .later }
def LexerIsLocalCardSaid : Prop := Claim7.holds Tryz.pinned (.plain (OpenSpec.ofChange lexerIsLocalSpec)) lexerIsLocalCard

/-- THE TIED CARD OF 'skewbacklaw28.LexerCovers'. -/
def lexerCoversCard : Claim7 := { stood := { row := lexerCoversRow, standIns := [], harness := (true, "49d155d34cc68c705a859f249ab34159a2928b25ab3b2b30829fbb14056adcbb"), looks := true }, kinds := [], alts := [], laidByText := true, laidKinds := [.data, .widerDeep, .widerDeep, .pinned], laidTests := true, laidLooks := .later }
def LexerCoversCardSaid : Prop := Claim7.holds Tryz.pinned (.plain (OpenSpec.ofChange lexerCoversSpec)) lexerCoversCard

/-- THE TIED CARD OF 'skewbacklaw28.LexerNumbersAreExact'. -/
def lexerNumbersAreExactCard : Claim7 := { stood := { row := lexerNumbersAreExactRow, standIns := [], harness := (true, "49d155d34cc68c705a859f249ab34159a2928b25ab3b2b30829fbb14056adcbb"), looks := true }, kinds := [], alts := [], laidByText := true, laidKinds := [.data, .widerDeep, .widerDeep, .pinned], laidTests := true, laidLooks := .later }
def LexerNumbersAreExactCardSaid : Prop := Claim7.holds Tryz.pinned (.plain (OpenSpec.ofChange lexerNumbersAreExactSpec)) lexerNumbersAreExactCard

/-- THE SECOND FORM's CARD OF 'skewbacklaw28.LexerWritesAsSpecified'. -/
def lexerWritesAsSpecifiedUptoCard : Claim7 := { stood := { row := lexerWritesAsSpecifiedUptoRow, standIns := [], harness := (true, "49d155d34cc68c705a859f249ab34159a2928b25ab3b2b30829fbb14056adcbb"), looks := true }, kinds := [], alts := [], laidByText := true, laidKinds := [.data, .widerDeep, .widerDeep, .pinned], laidTests := true, laidLooks := .later }
def LexerWritesAsSpecifiedUptoCardSaid : Prop := Claim7.holds Tryz.pinned (.plain (OpenSpec.upto lexerWritesAsSpecifiedSpec)) lexerWritesAsSpecifiedUptoCard

/-- THE SECOND FORM's CARD OF 'skewbacklaw28.LexerForgetsSpaces'. -/
def lexerForgetsSpacesUptoCard : Claim7 := { stood := { row := lexerForgetsSpacesUptoRow, standIns := [], harness := (true, "49d155d34cc68c705a859f249ab34159a2928b25ab3b2b30829fbb14056adcbb"), looks := true }, kinds := [], alts := [], laidByText := true, laidKinds := [.data, .widerDeep, .widerDeep, .pinned], laidTests := true, laidLooks := .later }
def LexerForgetsSpacesUptoCardSaid : Prop := Claim7.holds Tryz.pinned (.plain (OpenSpec.upto lexerForgetsSpacesSpec)) lexerForgetsSpacesUptoCard

/-- THE SECOND FORM's CARD OF 'skewbacklaw28.LexerIsLocal'. -/
def lexerIsLocalUptoCard : Claim7 := { stood := { row := lexerIsLocalUptoRow, standIns := [], harness := (true, "49d155d34cc68c705a859f249ab34159a2928b25ab3b2b30829fbb14056adcbb"), looks := true }, kinds := [], alts := [], laidByText := true, laidKinds := [.data, .widerDeep, .widerDeep, .pinned], laidTests := true, laidLooks := .later }
def LexerIsLocalUptoCardSaid : Prop := Claim7.holds Tryz.pinned (.plain (OpenSpec.upto lexerIsLocalSpec)) lexerIsLocalUptoCard

/-- THE SECOND FORM's CARD OF 'skewbacklaw28.LexerCovers'. -/
def lexerCoversUptoCard : Claim7 := { stood := { row := lexerCoversUptoRow, standIns := [], harness := (true, "49d155d34cc68c705a859f249ab34159a2928b25ab3b2b30829fbb14056adcbb"), looks := true }, kinds := [], alts := [], laidByText := true, laidKinds := [.data, .widerDeep, .widerDeep, .pinned], laidTests := true, laidLooks := .later }
def LexerCoversUptoCardSaid : Prop := Claim7.holds Tryz.pinned (.plain (OpenSpec.upto lexerCoversSpec)) lexerCoversUptoCard

/-- THE SECOND FORM's CARD OF 'skewbacklaw28.LexerNumbersAreExact'. -/
def lexerNumbersAreExactUptoCard : Claim7 := { stood := { row := lexerNumbersAreExactUptoRow, standIns := [], harness := (true, "49d155d34cc68c705a859f249ab34159a2928b25ab3b2b30829fbb14056adcbb"), looks := true }, kinds := [], alts := [], laidByText := true, laidKinds := [.data, .widerDeep, .widerDeep, .pinned], laidTests := true, laidLooks := .later }
def LexerNumbersAreExactUptoCardSaid : Prop := Claim7.holds Tryz.pinned (.plain (OpenSpec.upto lexerNumbersAreExactSpec)) lexerNumbersAreExactUptoCard
end Rows
end Go.Proofs.YtbcdabflmkgkiaaGreatDoor
