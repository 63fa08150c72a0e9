/-
  DERIVED. GIVEN WITH THE SEED: THE CARDS: each row of YtcbbilehdaaffaaGreatDoorRows.lean that lists a variable, with what it lists TIED to the program's text (the seventh form; the later family's looks); each row that meets fmt, with fmt's text TOLD by the authors' own Lean function (tested against real Go, not proved from fmt's source: count such statements apart). THE CARD IS WHAT COUNTS. Prove the row's statement (the work); the ties are given (YtcbbilehdaaffaaGreatDoorTie.lean); close each card by the builder's one call (the guide's Derived/Test/ToyasCard.lean, 'card_holds'). Laid BY PROGRAM, IN A SANDBOX (cutbox-door.mjs). By AI agents, Wed Nov 11 2026. No macro, syntax, notation, axiom, sorry.
-/
import Derived.Test.YtcbbilehdaaffaaGreatDoorRows
import GoSem.ClaimSeven
namespace Go.Proofs.YtcbbilehdaaffaaGreatDoor
namespace Rows

/-- THE TIED CARD OF 'skewbacklaw11.UnitConvertsAsSpecified'. -/
def unitConvertsAsSpecifiedCard : Claim7 := { stood := { row := unitConvertsAsSpecifiedRow, standIns := [], harness := (true, "5a885a81fcde502a735b75bfaecd13d783cd1170ca01fba34f604d6fc8e6d04c"), looks := false }, kinds := [], alts := [], laidByText := true, laidKinds := [.data, .data, .data, .data], laidTests := true, laidLooks := .later }
def UnitConvertsAsSpecifiedCardSaid : Prop := Claim7.holds Tryz.pinned (.plain (OpenSpec.ofChange unitConvertsAsSpecifiedSpec)) unitConvertsAsSpecifiedCard

/-- THE TIED CARD OF 'skewbacklaw11.UnitPrintsBack'. -/
def unitPrintsBackCard : Claim7 := { stood := { row := unitPrintsBackRow, standIns := [], harness := (true, "5a885a81fcde502a735b75bfaecd13d783cd1170ca01fba34f604d6fc8e6d04c"), looks := false }, kinds := [], alts := [], laidByText := true, laidKinds := [.data, .data, .data, .data], laidTests := true, laidLooks := .later }
def UnitPrintsBackCardSaid : Prop := Claim7.holds Tryz.pinned (.plain (OpenSpec.ofChange unitPrintsBackSpec)) unitPrintsBackCard

/-- THE TIED CARD OF 'skewbacklaw11.UnitReadsDecimals'. -/
def unitReadsDecimalsCard : Claim7 := { stood := { row := unitReadsDecimalsRow, standIns := [], harness := (true, "5a885a81fcde502a735b75bfaecd13d783cd1170ca01fba34f604d6fc8e6d04c"), looks := false }, kinds := [], alts := [], laidByText := true, laidKinds := [.data, .data, .data, .data], laidTests := true, laidLooks := .later }
def UnitReadsDecimalsCardSaid : Prop := Claim7.holds Tryz.pinned (.plain (OpenSpec.ofChange unitReadsDecimalsSpec)) unitReadsDecimalsCard

/-- THE TIED CARD OF 'skewbacklaw11.UnitComputesAsSpecified'. -/
def unitComputesAsSpecifiedCard : Claim7 := { stood := { row := unitComputesAsSpecifiedRow, standIns := [], harness := (true, "5a885a81fcde502a735b75bfaecd13d783cd1170ca01fba34f604d6fc8e6d04c"), looks := false }, kinds := [], alts := [], laidByText := true, laidKinds := [.data, .data, .data, .data], laidTests := true, laidLooks := .later }
def UnitComputesAsSpecifiedCardSaid : Prop := Claim7.holds Tryz.pinned (.plain (OpenSpec.ofChange unitComputesAsSpecifiedSpec)) unitComputesAsSpecifiedCard

/-- THE TIED CARD OF 'skewbacklaw11.UnitIsAGroup'. -/
def unitIsAGroupCard : Claim7 := { stood := { row := unitIsAGroupRow, standIns := [], harness := (true, "5a885a81fcde502a735b75bfaecd13d783cd1170ca01fba34f604d6fc8e6d04c"), looks := false }, kinds := [], alts := [], laidByText := true, laidKinds := [.data, .data, .data, .data], laidTests := true, laidLooks := .later }
def UnitIsAGroupCardSaid : Prop := Claim7.holds Tryz.pinned (.plain (OpenSpec.ofChange unitIsAGroupSpec)) unitIsAGroupCard

/-- THE TIED CARD OF 'skewbacklaw11.UnitNeverMixes'. -/
def unitNeverMixesCard : Claim7 := { stood := { row := unitNeverMixesRow, standIns := [], harness := (true, "5a885a81fcde502a735b75bfaecd13d783cd1170ca01fba34f604d6fc8e6d04c"), looks := false }, kinds := [], alts := [], laidByText := true, laidKinds := [.data, .data, .data, .data], laidTests := true, laidLooks := .later }
def UnitNeverMixesCardSaid : Prop := Claim7.holds Tryz.pinned (.plain (OpenSpec.ofChange unitNeverMixesSpec)) unitNeverMixesCard

/-- THE TIED CARD OF 'skewbacklaw11.UnitQuantitiesMatchSpec'. -/
def unitQuantitiesMatchSpecCard : Claim7 := { stood := { row := unitQuantitiesMatchSpecRow, standIns := [], harness := (true, "5a885a81fcde502a735b75bfaecd13d783cd1170ca01fba34f604d6fc8e6d04c"), looks := false }, kinds := [], alts := [], laidByText := true, laidKinds := [.data, .data, .data, .data], laidTests := true, laidLooks := .later }
def UnitQuantitiesMatchSpecCardSaid : Prop := Claim7.holds Tryz.pinned (.plain (OpenSpec.ofChange unitQuantitiesMatchSpecSpec)) unitQuantitiesMatchSpecCard

/-- THE SECOND FORM's CARD OF 'skewbacklaw11.UnitConvertsAsSpecified'. -/
def unitConvertsAsSpecifiedUptoCard : Claim7 := { stood := { row := unitConvertsAsSpecifiedUptoRow, standIns := [], harness := (true, "5a885a81fcde502a735b75bfaecd13d783cd1170ca01fba34f604d6fc8e6d04c"), looks := false }, kinds := [], alts := [], laidByText := true, laidKinds := [.data, .data, .data, .data], laidTests := true, laidLooks := .later }
def UnitConvertsAsSpecifiedUptoCardSaid : Prop := Claim7.holds Tryz.pinned (.plain (OpenSpec.upto unitConvertsAsSpecifiedSpec)) unitConvertsAsSpecifiedUptoCard

/-- THE SECOND FORM's CARD OF 'skewbacklaw11.UnitPrintsBack'. -/
def unitPrintsBackUptoCard : Claim7 := { stood := { row := unitPrintsBackUptoRow, standIns := [], harness := (true, "5a885a81fcde502a735b75bfaecd13d783cd1170ca01fba34f604d6fc8e6d04c"), looks := false }, kinds := [], alts := [], laidByText := true, laidKinds := [.data, .data, .data, .data], laidTests := true, laidLooks := .later }
def UnitPrintsBackUptoCardSaid : Prop := Claim7.holds Tryz.pinned (.plain (OpenSpec.upto unitPrintsBackSpec)) unitPrintsBackUptoCard

/-- THE SECOND FORM's CARD OF 'skewbacklaw11.UnitReadsDecimals'. -/
def unitReadsDecimalsUptoCard : Claim7 := { stood := { row := unitReadsDecimalsUptoRow, standIns := [], harness := (true, "5a885a81fcde502a735b75bfaecd13d783cd1170ca01fba34f604d6fc8e6d04c"), looks := false }, kinds := [], alts := [], laidByText := true, laidKinds := [.data, .data, .data, .data], laidTests := true, laidLooks := .later }
def UnitReadsDecimalsUptoCardSaid : Prop := Claim7.holds Tryz.pinned (.plain (OpenSpec.upto unitReadsDecimalsSpec)) unitReadsDecimalsUptoCard

/-- THE SECOND FORM's CARD OF 'skewbacklaw11.UnitComputesAsSpecified'. -/
def unitComputesAsSpecifiedUptoCard : Claim7 := { stood := { row := unitComputesAsSpecifiedUptoRow, standIns := [], harness := (true, "5a885a81fcde502a735b75bfaecd13d783cd1170ca01fba34f604d6fc8e6d04c"), looks := false }, kinds := [], alts := [], laidByText := true, laidKinds := [.data, .data, .data, .data], laidTests := true, laidLooks := .later }
def UnitComputesAsSpecifiedUptoCardSaid : Prop := Claim7.holds Tryz.pinned (.plain (OpenSpec.upto unitComputesAsSpecifiedSpec)) unitComputesAsSpecifiedUptoCard

/-- THE SECOND FORM's CARD OF 'skewbacklaw11.UnitIsAGroup'. -/
def unitIsAGroupUptoCard : Claim7 := { stood := { row := unitIsAGroupUptoRow, standIns := [], harness := (true, "5a885a81fcde502a735b75bfaecd13d783cd1170ca01fba34f604d6fc8e6d04c"), looks := false }, kinds := [], alts := [], laidByText := true, laidKinds := [.data, .data, .data, .data], laidTests := true, laidLooks := .later }
def UnitIsAGroupUptoCardSaid : Prop := Claim7.holds Tryz.pinned (.plain (OpenSpec.upto unitIsAGroupSpec)) unitIsAGroupUptoCard

/-- THE SECOND FORM's CARD OF 'skewbacklaw11.UnitNeverMixes'. -/
def unitNeverMixesUptoCard : Claim7 := { stood := { row := unitNeverMixesUptoRow, standIns := [], harness := (true, "5a885a81fcde502a735b75bfaecd13d783cd1170ca01fba34f604d6fc8e6d04c"), looks := false }, kinds := [], alts := [], laidByText := true, laidKinds := [.data, .data, .data, .data], laidTests := true, laidLooks := .later }
def UnitNeverMixesUptoCardSaid : Prop := Claim7.holds Tryz.pinned (.plain (OpenSpec.upto unitNeverMixesSpec)) unitNeverMixesUptoCard

/-- THE SECOND FORM's CARD OF 'skewbacklaw11.UnitQuantitiesMatchSpec'. -/
def unitQuantitiesMatchSpecUptoCard : Claim7 := { stood := { row := unitQuantitiesMatchSpecUptoRow, standIns := [], harness := (true, "5a885a81fcde502a735b75bfaecd13d783cd1170ca01fba34f604d6fc8e6d04c"), looks := false }, kinds := [], alts := [], laidByText := true, laidKinds := [.data, .data, .data, .data], laidTests := true, laidLooks := .later }
def UnitQuantitiesMatchSpecUptoCardSaid : Prop := Claim7.holds Tryz.pinned (.plain (OpenSpec.upto unitQuantitiesMatchSpecSpec)) unitQuantitiesMatchSpecUptoCard
end Rows
end Go.Proofs.YtcbbilehdaaffaaGreatDoor
