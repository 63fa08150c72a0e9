/-
  DERIVED. GIVEN WITH THE SEED: THE CARDS: each row of YtdjnlmmhbeeihaaGreatDoorRows.lean that lists a variable, with what it lists TIED to the program's text (the seventh form; the later family's looks); each row that meets fmt, with fmt's text TOLD by the authors' own Lean function (tested against real Go, not proved from fmt's source: count such statements apart). THE CARD IS WHAT COUNTS. Prove the row's statement (the work); the ties are given (YtdjnlmmhbeeihaaGreatDoorTie.lean); close each card by the builder's one call (the guide's Derived/Test/ToyasCard.lean, 'card_holds'). Laid BY PROGRAM, IN A SANDBOX (cutbox-door.mjs). By AI agents, Wed Nov 11 2026. No macro, syntax, notation, axiom, sorry.
-/
import Derived.Test.YtdjnlmmhbeeihaaGreatDoorRows
import GoSem.ClaimSeven
namespace Go.Proofs.YtdjnlmmhbeeihaaGreatDoor
namespace Rows

/-- THE TIED CARD OF 'skewbacklaw04.RatioMakesAsSpecified'. -/
def ratioMakesAsSpecifiedCard : Claim7 := { stood := { row := ratioMakesAsSpecifiedRow, standIns := [], harness := (true, "9a576467d6ee55ac7ea2a0c43807e24fd397f4702252a353c463798f93b89f9c"), looks := false }, kinds := [], alts := [], laidByText := true, laidKinds := [.data, .data, .data], laidTests := true, laidLooks := .later }
def RatioMakesAsSpecifiedCardSaid : Prop := Claim7.holds Tryz.pinned (.plain (OpenSpec.ofChange ratioMakesAsSpecifiedSpec)) ratioMakesAsSpecifiedCard

/-- THE TIED CARD OF 'skewbacklaw04.RatioRoundsAsSpecified'. -/
def ratioRoundsAsSpecifiedCard : Claim7 := { stood := { row := ratioRoundsAsSpecifiedRow, standIns := [], harness := (true, "9a576467d6ee55ac7ea2a0c43807e24fd397f4702252a353c463798f93b89f9c"), looks := false }, kinds := [], alts := [], laidByText := true, laidKinds := [.data, .data, .data], laidTests := true, laidLooks := .later }
def RatioRoundsAsSpecifiedCardSaid : Prop := Claim7.holds Tryz.pinned (.plain (OpenSpec.ofChange ratioRoundsAsSpecifiedSpec)) ratioRoundsAsSpecifiedCard

/-- THE TIED CARD OF 'skewbacklaw04.RatioOrders'. -/
def ratioOrdersCard : Claim7 := { stood := { row := ratioOrdersRow, standIns := [], harness := (true, "9a576467d6ee55ac7ea2a0c43807e24fd397f4702252a353c463798f93b89f9c"), looks := false }, kinds := [], alts := [], laidByText := true, laidKinds := [.data, .data, .data], laidTests := true, laidLooks := .later }
def RatioOrdersCardSaid : Prop := Claim7.holds Tryz.pinned (.plain (OpenSpec.ofChange ratioOrdersSpec)) ratioOrdersCard

/-- THE TIED CARD OF 'skewbacklaw04.RatioIsAField'. -/
def ratioIsAFieldCard : Claim7 := { stood := { row := ratioIsAFieldRow, standIns := [], harness := (true, "9a576467d6ee55ac7ea2a0c43807e24fd397f4702252a353c463798f93b89f9c"), looks := false }, kinds := [], alts := [], laidByText := true, laidKinds := [.data, .data, .data], laidTests := true, laidLooks := .later }
def RatioIsAFieldCardSaid : Prop := Claim7.holds Tryz.pinned (.plain (OpenSpec.ofChange ratioIsAFieldSpec)) ratioIsAFieldCard

/-- THE TIED CARD OF 'skewbacklaw04.RatioRounds'. -/
def ratioRoundsCard : Claim7 := { stood := { row := ratioRoundsRow, standIns := [], harness := (true, "9a576467d6ee55ac7ea2a0c43807e24fd397f4702252a353c463798f93b89f9c"), looks := false }, kinds := [], alts := [], laidByText := true, laidKinds := [.data, .data, .data], laidTests := true, laidLooks := .later }
def RatioRoundsCardSaid : Prop := Claim7.holds Tryz.pinned (.plain (OpenSpec.ofChange ratioRoundsSpec)) ratioRoundsCard

/-- THE TIED CARD OF 'skewbacklaw04.RatioSimplestIsSimplest'. -/
def ratioSimplestIsSimplestCard : Claim7 := { stood := { row := ratioSimplestIsSimplestRow, standIns := [], harness := (true, "9a576467d6ee55ac7ea2a0c43807e24fd397f4702252a353c463798f93b89f9c"), looks := false }, kinds := [], alts := [], laidByText := true, laidKinds := [.data, .data, .data], laidTests := true, laidLooks := .later }
def RatioSimplestIsSimplestCardSaid : Prop := Claim7.holds Tryz.pinned (.plain (OpenSpec.ofChange ratioSimplestIsSimplestSpec)) ratioSimplestIsSimplestCard

/-- THE TIED CARD OF 'skewbacklaw04.RatioTexts'. -/
def ratioTextsCard : Claim7 := { stood := { row := ratioTextsRow, standIns := [], harness := (true, "9a576467d6ee55ac7ea2a0c43807e24fd397f4702252a353c463798f93b89f9c"), looks := false }, kinds := [], alts := [], laidByText := true, laidKinds := [.data, .data, .data], laidTests := true, laidLooks := .later }
def RatioTextsCardSaid : Prop := Claim7.holds Tryz.pinned (.plain (OpenSpec.ofChange ratioTextsSpec)) ratioTextsCard

/-- THE TIED CARD OF 'skewbacklaw04.RatioComputesAsSpecified'. -/
def ratioComputesAsSpecifiedCard : Claim7 := { stood := { row := ratioComputesAsSpecifiedRow, standIns := [], harness := (true, "9a576467d6ee55ac7ea2a0c43807e24fd397f4702252a353c463798f93b89f9c"), looks := false }, kinds := [], alts := [], laidByText := true, laidKinds := [.data, .data, .data], laidTests := true, laidLooks := .later }
def RatioComputesAsSpecifiedCardSaid : Prop := Claim7.holds Tryz.pinned (.plain (OpenSpec.ofChange ratioComputesAsSpecifiedSpec)) ratioComputesAsSpecifiedCard

/-- THE SECOND FORM's CARD OF 'skewbacklaw04.RatioMakesAsSpecified'. -/
def ratioMakesAsSpecifiedUptoCard : Claim7 := { stood := { row := ratioMakesAsSpecifiedUptoRow, standIns := [], harness := (true, "9a576467d6ee55ac7ea2a0c43807e24fd397f4702252a353c463798f93b89f9c"), looks := false }, kinds := [], alts := [], laidByText := true, laidKinds := [.data, .data, .data], laidTests := true, laidLooks := .later }
def RatioMakesAsSpecifiedUptoCardSaid : Prop := Claim7.holds Tryz.pinned (.plain (OpenSpec.upto ratioMakesAsSpecifiedSpec)) ratioMakesAsSpecifiedUptoCard

/-- THE SECOND FORM's CARD OF 'skewbacklaw04.RatioRoundsAsSpecified'. -/
def ratioRoundsAsSpecifiedUptoCard : Claim7 := { stood := { row := ratioRoundsAsSpecifiedUptoRow, standIns := [], harness := (true, "9a576467d6ee55ac7ea2a0c43807e24fd397f4702252a353c463798f93b89f9c"), looks := false }, kinds := [], alts := [], laidByText := true, laidKinds := [.data, .data, .data], laidTests := true, laidLooks := .later }
def RatioRoundsAsSpecifiedUptoCardSaid : Prop := Claim7.holds Tryz.pinned (.plain (OpenSpec.upto ratioRoundsAsSpecifiedSpec)) ratioRoundsAsSpecifiedUptoCard

/-- THE SECOND FORM's CARD OF 'skewbacklaw04.RatioOrders'. -/
def ratioOrdersUptoCard : Claim7 := { stood := { row := ratioOrdersUptoRow, standIns := [], harness := (true, "9a576467d6ee55ac7ea2a0c43807e24fd397f4702252a353c463798f93b89f9c"), looks := false }, kinds := [], alts := [], laidByText := true, laidKinds := [.data, .data, .data], laidTests := true, laidLooks := .later }
def RatioOrdersUptoCardSaid : Prop := Claim7.holds Tryz.pinned (.plain (OpenSpec.upto ratioOrdersSpec)) ratioOrdersUptoCard

/-- THE SECOND FORM's CARD OF 'skewbacklaw04.RatioIsAField'. -/
def ratioIsAFieldUptoCard : Claim7 := { stood := { row := ratioIsAFieldUptoRow, standIns := [], harness := (true, "9a576467d6ee55ac7ea2a0c43807e24fd397f4702252a353c463798f93b89f9c"), looks := false }, kinds := [], alts := [], laidByText := true, laidKinds := [.data, .data, .data], laidTests := true, laidLooks := .later }
def RatioIsAFieldUptoCardSaid : Prop := Claim7.holds Tryz.pinned (.plain (OpenSpec.upto ratioIsAFieldSpec)) ratioIsAFieldUptoCard

/-- THE SECOND FORM's CARD OF 'skewbacklaw04.RatioRounds'. -/
def ratioRoundsUptoCard : Claim7 := { stood := { row := ratioRoundsUptoRow, standIns := [], harness := (true, "9a576467d6ee55ac7ea2a0c43807e24fd397f4702252a353c463798f93b89f9c"), looks := false }, kinds := [], alts := [], laidByText := true, laidKinds := [.data, .data, .data], laidTests := true, laidLooks := .later }
def RatioRoundsUptoCardSaid : Prop := Claim7.holds Tryz.pinned (.plain (OpenSpec.upto ratioRoundsSpec)) ratioRoundsUptoCard

/-- THE SECOND FORM's CARD OF 'skewbacklaw04.RatioSimplestIsSimplest'. -/
def ratioSimplestIsSimplestUptoCard : Claim7 := { stood := { row := ratioSimplestIsSimplestUptoRow, standIns := [], harness := (true, "9a576467d6ee55ac7ea2a0c43807e24fd397f4702252a353c463798f93b89f9c"), looks := false }, kinds := [], alts := [], laidByText := true, laidKinds := [.data, .data, .data], laidTests := true, laidLooks := .later }
def RatioSimplestIsSimplestUptoCardSaid : Prop := Claim7.holds Tryz.pinned (.plain (OpenSpec.upto ratioSimplestIsSimplestSpec)) ratioSimplestIsSimplestUptoCard

/-- THE SECOND FORM's CARD OF 'skewbacklaw04.RatioTexts'. -/
def ratioTextsUptoCard : Claim7 := { stood := { row := ratioTextsUptoRow, standIns := [], harness := (true, "9a576467d6ee55ac7ea2a0c43807e24fd397f4702252a353c463798f93b89f9c"), looks := false }, kinds := [], alts := [], laidByText := true, laidKinds := [.data, .data, .data], laidTests := true, laidLooks := .later }
def RatioTextsUptoCardSaid : Prop := Claim7.holds Tryz.pinned (.plain (OpenSpec.upto ratioTextsSpec)) ratioTextsUptoCard

/-- THE SECOND FORM's CARD OF 'skewbacklaw04.RatioComputesAsSpecified'. -/
def ratioComputesAsSpecifiedUptoCard : Claim7 := { stood := { row := ratioComputesAsSpecifiedUptoRow, standIns := [], harness := (true, "9a576467d6ee55ac7ea2a0c43807e24fd397f4702252a353c463798f93b89f9c"), looks := false }, kinds := [], alts := [], laidByText := true, laidKinds := [.data, .data, .data], laidTests := true, laidLooks := .later }
def RatioComputesAsSpecifiedUptoCardSaid : Prop := Claim7.holds Tryz.pinned (.plain (OpenSpec.upto ratioComputesAsSpecifiedSpec)) ratioComputesAsSpecifiedUptoCard
end Rows
end Go.Proofs.YtdjnlmmhbeeihaaGreatDoor
