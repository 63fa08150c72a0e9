/-
  DERIVED. GIVEN WITH THE SEED: THE CARDS: each row of YtaigaoifloldcaaDoorRows.lean that lists a variable, with what it lists TIED to the program's text (the seventh form; the later family's looks); each row that meets fmt, with fmt's text TOLD by the authors' own Lean function (tested against real Go, not proved from fmt's source: count such statements apart). THE CARD IS WHAT COUNTS. Prove the row's statement (the work); the ties are given (YtaigaoifloldcaaDoorTie.lean); close each card by the builder's one call (the guide's Derived/Test/ToyasCard.lean, 'card_holds'). Laid BY PROGRAM, IN A SANDBOX (cutbox-door.mjs). By AI agents, Wed Nov 11 2026. No macro, syntax, notation, axiom, sorry.
-/
import Derived.Test.YtaigaoifloldcaaDoorRows
import GoSem.ClaimSeven
namespace Go.Proofs.YtaigaoifloldcaaDoor
namespace Rows

/-- THE TIED CARD OF 'skewbacklaw03.WholeSumsMatchSpec'. -/
def wholeSumsMatchSpecCard : Claim7 := { stood := { row := wholeSumsMatchSpecRow, standIns := [], harness := (true, "188b0641bdb2edbaed39f3ca790020d7f46ea57f545173491a5f79bb1a7dceff"), looks := false }, kinds := [], alts := [], laidByText := true, laidKinds := [.data, .data, .data], laidTests := true, laidLooks := .later }
def WholeSumsMatchSpecCardSaid : Prop := Claim7.holds Tryd.pinned (.plain (OpenSpec.ofChange wholeSumsMatchSpecSpec)) wholeSumsMatchSpecCard

/-- THE TIED CARD OF 'skewbacklaw03.WholeProductsMatchSpec'. -/
def wholeProductsMatchSpecCard : Claim7 := { stood := { row := wholeProductsMatchSpecRow, standIns := [], harness := (true, "188b0641bdb2edbaed39f3ca790020d7f46ea57f545173491a5f79bb1a7dceff"), looks := false }, kinds := [], alts := [], laidByText := true, laidKinds := [.data, .data, .data], laidTests := true, laidLooks := .later }
def WholeProductsMatchSpecCardSaid : Prop := Claim7.holds Tryd.pinned (.plain (OpenSpec.ofChange wholeProductsMatchSpecSpec)) wholeProductsMatchSpecCard

/-- THE TIED CARD OF 'skewbacklaw03.WholeTextsMatchSpec'. -/
def wholeTextsMatchSpecCard : Claim7 := { stood := { row := wholeTextsMatchSpecRow, standIns := [], harness := (true, "188b0641bdb2edbaed39f3ca790020d7f46ea57f545173491a5f79bb1a7dceff"), looks := false }, kinds := [], alts := [], laidByText := true, laidKinds := [.data, .data, .data], laidTests := true, laidLooks := .later }
def WholeTextsMatchSpecCardSaid : Prop := Claim7.holds Tryd.pinned (.plain (OpenSpec.ofChange wholeTextsMatchSpecSpec)) wholeTextsMatchSpecCard

/-- THE TIED CARD OF 'skewbacklaw03.WholeIntsAgree'. -/
def wholeIntsAgreeCard : Claim7 := { stood := { row := wholeIntsAgreeRow, standIns := [], harness := (true, "188b0641bdb2edbaed39f3ca790020d7f46ea57f545173491a5f79bb1a7dceff"), looks := false }, kinds := [], alts := [], laidByText := true, laidKinds := [.data, .data, .data], laidTests := true, laidLooks := .later }
def WholeIntsAgreeCardSaid : Prop := Claim7.holds Tryd.pinned (.plain (OpenSpec.ofChange wholeIntsAgreeSpec)) wholeIntsAgreeCard

/-- THE TIED CARD OF 'skewbacklaw03.WholeIsARing'. -/
def wholeIsARingCard : Claim7 := { stood := { row := wholeIsARingRow, standIns := [], harness := (true, "188b0641bdb2edbaed39f3ca790020d7f46ea57f545173491a5f79bb1a7dceff"), looks := false }, kinds := [], alts := [], laidByText := true, laidKinds := [.data, .data, .data], laidTests := true, laidLooks := .later }
def WholeIsARingCardSaid : Prop := Claim7.holds Tryd.pinned (.plain (OpenSpec.ofChange wholeIsARingSpec)) wholeIsARingCard

/-- THE TIED CARD OF 'skewbacklaw03.WholeDivides'. -/
def wholeDividesCard : Claim7 := { stood := { row := wholeDividesRow, standIns := [], harness := (true, "188b0641bdb2edbaed39f3ca790020d7f46ea57f545173491a5f79bb1a7dceff"), looks := false }, kinds := [], alts := [], laidByText := true, laidKinds := [.data, .data, .data], laidTests := true, laidLooks := .later }
def WholeDividesCardSaid : Prop := Claim7.holds Tryd.pinned (.plain (OpenSpec.ofChange wholeDividesSpec)) wholeDividesCard

/-- THE TIED CARD OF 'skewbacklaw03.WholeRootsAreRoots'. -/
def wholeRootsAreRootsCard : Claim7 := { stood := { row := wholeRootsAreRootsRow, standIns := [], harness := (true, "188b0641bdb2edbaed39f3ca790020d7f46ea57f545173491a5f79bb1a7dceff"), looks := false }, kinds := [], alts := [], laidByText := true, laidKinds := [.data, .data, .data], laidTests := true, laidLooks := .later }
def WholeRootsAreRootsCardSaid : Prop := Claim7.holds Tryd.pinned (.plain (OpenSpec.ofChange wholeRootsAreRootsSpec)) wholeRootsAreRootsCard

/-- THE SECOND FORM's CARD OF 'skewbacklaw03.WholeSumsMatchSpec'. -/
def wholeSumsMatchSpecUptoCard : Claim7 := { stood := { row := wholeSumsMatchSpecUptoRow, standIns := [], harness := (true, "188b0641bdb2edbaed39f3ca790020d7f46ea57f545173491a5f79bb1a7dceff"), looks := false }, kinds := [], alts := [], laidByText := true, laidKinds := [.data, .data, .data], laidTests := true, laidLooks := .later }
def WholeSumsMatchSpecUptoCardSaid : Prop := Claim7.holds Tryd.pinned (.plain (OpenSpec.upto wholeSumsMatchSpecSpec)) wholeSumsMatchSpecUptoCard

/-- THE SECOND FORM's CARD OF 'skewbacklaw03.WholeProductsMatchSpec'. -/
def wholeProductsMatchSpecUptoCard : Claim7 := { stood := { row := wholeProductsMatchSpecUptoRow, standIns := [], harness := (true, "188b0641bdb2edbaed39f3ca790020d7f46ea57f545173491a5f79bb1a7dceff"), looks := false }, kinds := [], alts := [], laidByText := true, laidKinds := [.data, .data, .data], laidTests := true, laidLooks := .later }
def WholeProductsMatchSpecUptoCardSaid : Prop := Claim7.holds Tryd.pinned (.plain (OpenSpec.upto wholeProductsMatchSpecSpec)) wholeProductsMatchSpecUptoCard

/-- THE SECOND FORM's CARD OF 'skewbacklaw03.WholeTextsMatchSpec'. -/
def wholeTextsMatchSpecUptoCard : Claim7 := { stood := { row := wholeTextsMatchSpecUptoRow, standIns := [], harness := (true, "188b0641bdb2edbaed39f3ca790020d7f46ea57f545173491a5f79bb1a7dceff"), looks := false }, kinds := [], alts := [], laidByText := true, laidKinds := [.data, .data, .data], laidTests := true, laidLooks := .later }
def WholeTextsMatchSpecUptoCardSaid : Prop := Claim7.holds Tryd.pinned (.plain (OpenSpec.upto wholeTextsMatchSpecSpec)) wholeTextsMatchSpecUptoCard

/-- THE SECOND FORM's CARD OF 'skewbacklaw03.WholeIntsAgree'. -/
def wholeIntsAgreeUptoCard : Claim7 := { stood := { row := wholeIntsAgreeUptoRow, standIns := [], harness := (true, "188b0641bdb2edbaed39f3ca790020d7f46ea57f545173491a5f79bb1a7dceff"), looks := false }, kinds := [], alts := [], laidByText := true, laidKinds := [.data, .data, .data], laidTests := true, laidLooks := .later }
def WholeIntsAgreeUptoCardSaid : Prop := Claim7.holds Tryd.pinned (.plain (OpenSpec.upto wholeIntsAgreeSpec)) wholeIntsAgreeUptoCard

/-- THE SECOND FORM's CARD OF 'skewbacklaw03.WholeIsARing'. -/
def wholeIsARingUptoCard : Claim7 := { stood := { row := wholeIsARingUptoRow, standIns := [], harness := (true, "188b0641bdb2edbaed39f3ca790020d7f46ea57f545173491a5f79bb1a7dceff"), looks := false }, kinds := [], alts := [], laidByText := true, laidKinds := [.data, .data, .data], laidTests := true, laidLooks := .later }
def WholeIsARingUptoCardSaid : Prop := Claim7.holds Tryd.pinned (.plain (OpenSpec.upto wholeIsARingSpec)) wholeIsARingUptoCard

/-- THE SECOND FORM's CARD OF 'skewbacklaw03.WholeDivides'. -/
def wholeDividesUptoCard : Claim7 := { stood := { row := wholeDividesUptoRow, standIns := [], harness := (true, "188b0641bdb2edbaed39f3ca790020d7f46ea57f545173491a5f79bb1a7dceff"), looks := false }, kinds := [], alts := [], laidByText := true, laidKinds := [.data, .data, .data], laidTests := true, laidLooks := .later }
def WholeDividesUptoCardSaid : Prop := Claim7.holds Tryd.pinned (.plain (OpenSpec.upto wholeDividesSpec)) wholeDividesUptoCard

/-- THE SECOND FORM's CARD OF 'skewbacklaw03.WholeRootsAreRoots'. -/
def wholeRootsAreRootsUptoCard : Claim7 := { stood := { row := wholeRootsAreRootsUptoRow, standIns := [], harness := (true, "188b0641bdb2edbaed39f3ca790020d7f46ea57f545173491a5f79bb1a7dceff"), looks := false }, kinds := [], alts := [], laidByText := true, laidKinds := [.data, .data, .data], laidTests := true, laidLooks := .later }
def WholeRootsAreRootsUptoCardSaid : Prop := Claim7.holds Tryd.pinned (.plain (OpenSpec.upto wholeRootsAreRootsSpec)) wholeRootsAreRootsUptoCard
end Rows
end Go.Proofs.YtaigaoifloldcaaDoor
