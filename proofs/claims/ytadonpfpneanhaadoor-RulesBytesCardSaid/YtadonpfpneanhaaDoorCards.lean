/-
  DERIVED. GIVEN WITH THE SEED: THE CARDS: each row of YtadonpfpneanhaaDoorRows.lean that lists a variable, with what it lists TIED to the program's text (the seventh form; the later family's looks); each row that meets fmt, with fmt's text TOLD by the authors' own Lean function (tested against real Go, not proved from fmt's source: count such statements apart). THE CARD IS WHAT COUNTS. Prove the row's statement (the work); the ties are given (YtadonpfpneanhaaDoorTie.lean); close each card by the builder's one call (the guide's Derived/Test/ToyasCard.lean, 'card_holds'). Laid BY PROGRAM, IN A SANDBOX (cutbox-door.mjs). By AI agents, Wed Nov 11 2026. No macro, syntax, notation, axiom, sorry.
-/
import Derived.Test.YtadonpfpneanhaaDoorRows
import GoSem.ClaimSeven
namespace Go.Proofs.YtadonpfpneanhaaDoor
namespace Rows

/-- THE TIED CARD OF 'quoratelaw01.WireForth'. -/
def wireForthCard : Claim7 := { stood := { row := wireForthRow, standIns := [], harness := (true, "4c1b08003a40b711b235237067a94032ceeaa3ec137f5c7b90ec745e87d7b937"), looks := true }, kinds := [], alts := [], laidByText := true, laidKinds := [.sentinel, .sentinel], laidTests := true, laidLooks := .later }
def WireForthCardSaid : Prop := Claim7.holds Tryd.pinned (.plain (OpenSpec.ofChange wireForthSpec)) wireForthCard

/-- THE TIED CARD OF 'quoratelaw01.WireWidths'. -/
def wireWidthsCard : Claim7 := { stood := { row := wireWidthsRow, standIns := [], harness := (true, "4c1b08003a40b711b235237067a94032ceeaa3ec137f5c7b90ec745e87d7b937"), looks := true }, kinds := [], alts := [], laidByText := true, laidKinds := [.sentinel, .sentinel, .sentinel, .sentinel, .sentinel, .sentinel, .sentinel, .sentinel, .sentinel, .sentinel, .sentinel, .sentinel, .sentinel, .sentinel, .sentinel, .sentinel, .sentinel, .sentinel], laidTests := true, laidLooks := .later }
def WireWidthsCardSaid : Prop := Claim7.holds Tryd.pinned (.plain (OpenSpec.ofChange wireWidthsSpec)) wireWidthsCard

/-- THE TIED CARD OF 'quoratelaw13.RulesCovers'. -/
def rulesCoversCard : Claim7 := { stood := { row := rulesCoversRow, standIns := [], harness := (true, "4c1b08003a40b711b235237067a94032ceeaa3ec137f5c7b90ec745e87d7b937"), looks := true }, kinds := [], alts := [], laidByText := true, laidKinds := [.sentinel, .sentinel, .sentinel, .sentinel, .sentinel, .sentinel, .sentinel, .sentinel, .sentinel, .sentinel, .sentinel, .sentinel, .sentinel, .sentinel, .sentinel, .sentinel, .sentinel, .sentinel], laidTests := true, laidLooks := .later }
def RulesCoversCardSaid : Prop := Claim7.holds Tryd.pinned (.plain (OpenSpec.ofChange rulesCoversSpec)) rulesCoversCard

/-- THE TIED CARD OF 'quoratelaw01.WireWrites'. -/
def wireWritesCard : Claim7 := { stood := { row := wireWritesRow, standIns := [], harness := (true, "4c1b08003a40b711b235237067a94032ceeaa3ec137f5c7b90ec745e87d7b937"), looks := true }, kinds := [], alts := [], laidByText := true, laidKinds := [.sentinel, .sentinel, .sentinel, .sentinel, .sentinel, .sentinel, .sentinel, .sentinel, .sentinel, .sentinel, .sentinel, .sentinel, .sentinel, .sentinel, .sentinel, .sentinel, .sentinel, .sentinel], laidTests := true, laidLooks := .later }
def WireWritesCardSaid : Prop := Claim7.holds Tryd.pinned (.plain (OpenSpec.ofChange wireWritesSpec)) wireWritesCard

/-- THE TIED CARD OF 'quoratelaw01.WireNests'. -/
def wireNestsCard : Claim7 := { stood := { row := wireNestsRow, standIns := [], harness := (true, "4c1b08003a40b711b235237067a94032ceeaa3ec137f5c7b90ec745e87d7b937"), looks := true }, kinds := [], alts := [], laidByText := true, laidKinds := [.sentinel, .sentinel, .sentinel], laidTests := true, laidLooks := .later }
def WireNestsCardSaid : Prop := Claim7.holds Tryd.pinned (.plain (OpenSpec.ofChange wireNestsSpec)) wireNestsCard

/-- THE TIED CARD OF 'quoratelaw13.RulesSteps'. -/
def rulesStepsCard : Claim7 := { stood := { row := rulesStepsRow, standIns := [], harness := (true, "4c1b08003a40b711b235237067a94032ceeaa3ec137f5c7b90ec745e87d7b937"), looks := true }, kinds := [], alts := [], laidByText := true, laidKinds := [.sentinel, .sentinel, .sentinel, .sentinel, .sentinel, .sentinel, .sentinel, .sentinel, .sentinel, .sentinel, .sentinel, .sentinel, .sentinel, .sentinel, .sentinel, .sentinel, .sentinel, .sentinel], laidTests := true, laidLooks := .later }
def RulesStepsCardSaid : Prop := Claim7.holds Tryd.pinned (.plain (OpenSpec.ofChange rulesStepsSpec)) rulesStepsCard

/-- THE TIED CARD OF 'quoratelaw13.RulesOnce'. -/
def rulesOnceCard : Claim7 := { stood := { row := rulesOnceRow, standIns := [], harness := (true, "4c1b08003a40b711b235237067a94032ceeaa3ec137f5c7b90ec745e87d7b937"), looks := true }, kinds := [], alts := [], laidByText := true, laidKinds := [.sentinel, .sentinel, .sentinel, .sentinel, .sentinel, .sentinel, .sentinel, .sentinel, .sentinel, .sentinel, .sentinel, .sentinel, .sentinel, .sentinel, .sentinel, .sentinel, .sentinel, .sentinel], laidTests := true, laidLooks := .later }
def RulesOnceCardSaid : Prop := Claim7.holds Tryd.pinned (.plain (OpenSpec.ofChange rulesOnceSpec)) rulesOnceCard

/-- THE TIED CARD OF 'quoratelaw13.RulesLocks'. -/
def rulesLocksCard : Claim7 := { stood := { row := rulesLocksRow, standIns := [], harness := (true, "4c1b08003a40b711b235237067a94032ceeaa3ec137f5c7b90ec745e87d7b937"), looks := true }, kinds := [], alts := [], laidByText := true, laidKinds := [.sentinel, .sentinel, .sentinel, .sentinel, .sentinel, .sentinel, .sentinel, .sentinel, .sentinel, .sentinel, .sentinel, .sentinel, .sentinel, .sentinel, .sentinel, .sentinel, .sentinel, .sentinel], laidTests := true, laidLooks := .later }
def RulesLocksCardSaid : Prop := Claim7.holds Tryd.pinned (.plain (OpenSpec.ofChange rulesLocksSpec)) rulesLocksCard

/-- THE TIED CARD OF 'quoratelaw13.RulesApart'. -/
def rulesApartCard : Claim7 := { stood := { row := rulesApartRow, standIns := [], harness := (true, "4c1b08003a40b711b235237067a94032ceeaa3ec137f5c7b90ec745e87d7b937"), looks := true }, kinds := [], alts := [], laidByText := true, laidKinds := [.sentinel, .sentinel, .sentinel, .sentinel, .sentinel, .sentinel, .sentinel, .sentinel, .sentinel, .sentinel, .sentinel, .sentinel, .sentinel, .sentinel, .sentinel, .sentinel, .sentinel, .sentinel], laidTests := true, laidLooks := .later }
def RulesApartCardSaid : Prop := Claim7.holds Tryd.pinned (.plain (OpenSpec.ofChange rulesApartSpec)) rulesApartCard

/-- THE TIED CARD OF 'quoratelaw13.RulesRows'. -/
def rulesRowsCard : Claim7 := { stood := { row := rulesRowsRow, standIns := [], harness := (true, "4c1b08003a40b711b235237067a94032ceeaa3ec137f5c7b90ec745e87d7b937"), looks := true }, kinds := [], alts := [], laidByText := true, laidKinds := [.sentinel, .sentinel, .sentinel, .sentinel, .sentinel, .sentinel, .sentinel, .sentinel, .sentinel, .sentinel, .sentinel, .sentinel, .sentinel, .sentinel, .sentinel, .sentinel, .sentinel, .sentinel], laidTests := true, laidLooks := .later }
def RulesRowsCardSaid : Prop := Claim7.holds Tryd.pinned (.plain (OpenSpec.ofChange rulesRowsSpec)) rulesRowsCard

/-- THE TIED CARD OF 'quoratelaw01.WireBack'. -/
def wireBackCard : Claim7 := { stood := { row := wireBackRow, standIns := [], harness := (true, "4c1b08003a40b711b235237067a94032ceeaa3ec137f5c7b90ec745e87d7b937"), looks := true }, kinds := [], alts := [], laidByText := true, laidKinds := [.sentinel, .sentinel, .sentinel, .sentinel, .sentinel], laidTests := true, laidLooks := .later }
def WireBackCardSaid : Prop := Claim7.holds Tryd.pinned (.plain (OpenSpec.ofChange wireBackSpec)) wireBackCard

/-- THE TIED CARD OF 'quoratelaw01.WireReads'. -/
def wireReadsCard : Claim7 := { stood := { row := wireReadsRow, standIns := [], harness := (true, "4c1b08003a40b711b235237067a94032ceeaa3ec137f5c7b90ec745e87d7b937"), looks := true }, kinds := [], alts := [], laidByText := true, laidKinds := [.sentinel, .sentinel, .sentinel, .sentinel, .sentinel, .sentinel, .sentinel, .sentinel, .sentinel, .sentinel, .sentinel, .sentinel, .sentinel, .sentinel, .sentinel, .sentinel, .sentinel, .sentinel], laidTests := true, laidLooks := .later }
def WireReadsCardSaid : Prop := Claim7.holds Tryd.pinned (.plain (OpenSpec.ofChange wireReadsSpec)) wireReadsCard

/-- THE TIED CARD OF 'quoratelaw01.WireStops'. -/
def wireStopsCard : Claim7 := { stood := { row := wireStopsRow, standIns := [], harness := (true, "4c1b08003a40b711b235237067a94032ceeaa3ec137f5c7b90ec745e87d7b937"), looks := true }, kinds := [], alts := [], laidByText := true, laidKinds := [.sentinel, .sentinel, .sentinel, .sentinel, .sentinel, .sentinel, .sentinel, .sentinel, .sentinel, .sentinel, .sentinel, .sentinel, .sentinel, .sentinel, .sentinel, .sentinel, .sentinel, .sentinel], laidTests := true, laidLooks := .later }
def WireStopsCardSaid : Prop := Claim7.holds Tryd.pinned (.plain (OpenSpec.ofChange wireStopsSpec)) wireStopsCard

/-- THE TIED CARD OF 'quoratelaw13.RulesBytes'. -/
def rulesBytesCard : Claim7 := { stood := { row := rulesBytesRow, standIns := [], harness := (true, "4c1b08003a40b711b235237067a94032ceeaa3ec137f5c7b90ec745e87d7b937"), looks := true }, kinds := [], alts := [], laidByText := true, laidKinds := [.sentinel, .sentinel, .sentinel, .sentinel, .sentinel, .sentinel, .sentinel, .sentinel, .sentinel, .sentinel, .sentinel, .sentinel, .sentinel, .sentinel, .sentinel, .sentinel, .sentinel, .sentinel], laidTests := true, laidLooks := .later }
def RulesBytesCardSaid : Prop := Claim7.holds Tryd.pinned (.plain (OpenSpec.ofChange rulesBytesSpec)) rulesBytesCard

/-- THE SECOND FORM's CARD OF 'quoratelaw01.WireForth'. -/
def wireForthUptoCard : Claim7 := { stood := { row := wireForthUptoRow, standIns := [], harness := (true, "4c1b08003a40b711b235237067a94032ceeaa3ec137f5c7b90ec745e87d7b937"), looks := true }, kinds := [], alts := [], laidByText := true, laidKinds := [.sentinel, .sentinel], laidTests := true, laidLooks := .later }
def WireForthUptoCardSaid : Prop := Claim7.holds Tryd.pinned (.plain (OpenSpec.upto wireForthSpec)) wireForthUptoCard

/-- THE SECOND FORM's CARD OF 'quoratelaw01.WireWidths'. -/
def wireWidthsUptoCard : Claim7 := { stood := { row := wireWidthsUptoRow, standIns := [], harness := (true, "4c1b08003a40b711b235237067a94032ceeaa3ec137f5c7b90ec745e87d7b937"), looks := true }, kinds := [], alts := [], laidByText := true, laidKinds := [.sentinel, .sentinel, .sentinel, .sentinel, .sentinel, .sentinel, .sentinel, .sentinel, .sentinel, .sentinel, .sentinel, .sentinel, .sentinel, .sentinel, .sentinel, .sentinel, .sentinel, .sentinel], laidTests := true, laidLooks := .later }
def WireWidthsUptoCardSaid : Prop := Claim7.holds Tryd.pinned (.plain (OpenSpec.upto wireWidthsSpec)) wireWidthsUptoCard

/-- THE SECOND FORM's CARD OF 'quoratelaw13.RulesCovers'. -/
def rulesCoversUptoCard : Claim7 := { stood := { row := rulesCoversUptoRow, standIns := [], harness := (true, "4c1b08003a40b711b235237067a94032ceeaa3ec137f5c7b90ec745e87d7b937"), looks := true }, kinds := [], alts := [], laidByText := true, laidKinds := [.sentinel, .sentinel, .sentinel, .sentinel, .sentinel, .sentinel, .sentinel, .sentinel, .sentinel, .sentinel, .sentinel, .sentinel, .sentinel, .sentinel, .sentinel, .sentinel, .sentinel, .sentinel], laidTests := true, laidLooks := .later }
def RulesCoversUptoCardSaid : Prop := Claim7.holds Tryd.pinned (.plain (OpenSpec.upto rulesCoversSpec)) rulesCoversUptoCard

/-- THE SECOND FORM's CARD OF 'quoratelaw01.WireWrites'. -/
def wireWritesUptoCard : Claim7 := { stood := { row := wireWritesUptoRow, standIns := [], harness := (true, "4c1b08003a40b711b235237067a94032ceeaa3ec137f5c7b90ec745e87d7b937"), looks := true }, kinds := [], alts := [], laidByText := true, laidKinds := [.sentinel, .sentinel, .sentinel, .sentinel, .sentinel, .sentinel, .sentinel, .sentinel, .sentinel, .sentinel, .sentinel, .sentinel, .sentinel, .sentinel, .sentinel, .sentinel, .sentinel, .sentinel], laidTests := true, laidLooks := .later }
def WireWritesUptoCardSaid : Prop := Claim7.holds Tryd.pinned (.plain (OpenSpec.upto wireWritesSpec)) wireWritesUptoCard

/-- THE SECOND FORM's CARD OF 'quoratelaw01.WireNests'. -/
def wireNestsUptoCard : Claim7 := { stood := { row := wireNestsUptoRow, standIns := [], harness := (true, "4c1b08003a40b711b235237067a94032ceeaa3ec137f5c7b90ec745e87d7b937"), looks := true }, kinds := [], alts := [], laidByText := true, laidKinds := [.sentinel, .sentinel, .sentinel], laidTests := true, laidLooks := .later }
def WireNestsUptoCardSaid : Prop := Claim7.holds Tryd.pinned (.plain (OpenSpec.upto wireNestsSpec)) wireNestsUptoCard

/-- THE SECOND FORM's CARD OF 'quoratelaw13.RulesSteps'. -/
def rulesStepsUptoCard : Claim7 := { stood := { row := rulesStepsUptoRow, standIns := [], harness := (true, "4c1b08003a40b711b235237067a94032ceeaa3ec137f5c7b90ec745e87d7b937"), looks := true }, kinds := [], alts := [], laidByText := true, laidKinds := [.sentinel, .sentinel, .sentinel, .sentinel, .sentinel, .sentinel, .sentinel, .sentinel, .sentinel, .sentinel, .sentinel, .sentinel, .sentinel, .sentinel, .sentinel, .sentinel, .sentinel, .sentinel], laidTests := true, laidLooks := .later }
def RulesStepsUptoCardSaid : Prop := Claim7.holds Tryd.pinned (.plain (OpenSpec.upto rulesStepsSpec)) rulesStepsUptoCard

/-- THE SECOND FORM's CARD OF 'quoratelaw13.RulesOnce'. -/
def rulesOnceUptoCard : Claim7 := { stood := { row := rulesOnceUptoRow, standIns := [], harness := (true, "4c1b08003a40b711b235237067a94032ceeaa3ec137f5c7b90ec745e87d7b937"), looks := true }, kinds := [], alts := [], laidByText := true, laidKinds := [.sentinel, .sentinel, .sentinel, .sentinel, .sentinel, .sentinel, .sentinel, .sentinel, .sentinel, .sentinel, .sentinel, .sentinel, .sentinel, .sentinel, .sentinel, .sentinel, .sentinel, .sentinel], laidTests := true, laidLooks := .later }
def RulesOnceUptoCardSaid : Prop := Claim7.holds Tryd.pinned (.plain (OpenSpec.upto rulesOnceSpec)) rulesOnceUptoCard

/-- THE SECOND FORM's CARD OF 'quoratelaw13.RulesLocks'. -/
def rulesLocksUptoCard : Claim7 := { stood := { row := rulesLocksUptoRow, standIns := [], harness := (true, "4c1b08003a40b711b235237067a94032ceeaa3ec137f5c7b90ec745e87d7b937"), looks := true }, kinds := [], alts := [], laidByText := true, laidKinds := [.sentinel, .sentinel, .sentinel, .sentinel, .sentinel, .sentinel, .sentinel, .sentinel, .sentinel, .sentinel, .sentinel, .sentinel, .sentinel, .sentinel, .sentinel, .sentinel, .sentinel, .sentinel], laidTests := true, laidLooks := .later }
def RulesLocksUptoCardSaid : Prop := Claim7.holds Tryd.pinned (.plain (OpenSpec.upto rulesLocksSpec)) rulesLocksUptoCard

/-- THE SECOND FORM's CARD OF 'quoratelaw13.RulesApart'. -/
def rulesApartUptoCard : Claim7 := { stood := { row := rulesApartUptoRow, standIns := [], harness := (true, "4c1b08003a40b711b235237067a94032ceeaa3ec137f5c7b90ec745e87d7b937"), looks := true }, kinds := [], alts := [], laidByText := true, laidKinds := [.sentinel, .sentinel, .sentinel, .sentinel, .sentinel, .sentinel, .sentinel, .sentinel, .sentinel, .sentinel, .sentinel, .sentinel, .sentinel, .sentinel, .sentinel, .sentinel, .sentinel, .sentinel], laidTests := true, laidLooks := .later }
def RulesApartUptoCardSaid : Prop := Claim7.holds Tryd.pinned (.plain (OpenSpec.upto rulesApartSpec)) rulesApartUptoCard

/-- THE SECOND FORM's CARD OF 'quoratelaw13.RulesRows'. -/
def rulesRowsUptoCard : Claim7 := { stood := { row := rulesRowsUptoRow, standIns := [], harness := (true, "4c1b08003a40b711b235237067a94032ceeaa3ec137f5c7b90ec745e87d7b937"), looks := true }, kinds := [], alts := [], laidByText := true, laidKinds := [.sentinel, .sentinel, .sentinel, .sentinel, .sentinel, .sentinel, .sentinel, .sentinel, .sentinel, .sentinel, .sentinel, .sentinel, .sentinel, .sentinel, .sentinel, .sentinel, .sentinel, .sentinel], laidTests := true, laidLooks := .later }
def RulesRowsUptoCardSaid : Prop := Claim7.holds Tryd.pinned (.plain (OpenSpec.upto rulesRowsSpec)) rulesRowsUptoCard

/-- THE SECOND FORM's CARD OF 'quoratelaw01.WireBack'. -/
def wireBackUptoCard : Claim7 := { stood := { row := wireBackUptoRow, standIns := [], harness := (true, "4c1b08003a40b711b235237067a94032ceeaa3ec137f5c7b90ec745e87d7b937"), looks := true }, kinds := [], alts := [], laidByText := true, laidKinds := [.sentinel, .sentinel, .sentinel, .sentinel, .sentinel], laidTests := true, laidLooks := .later }
def WireBackUptoCardSaid : Prop := Claim7.holds Tryd.pinned (.plain (OpenSpec.upto wireBackSpec)) wireBackUptoCard

/-- THE SECOND FORM's CARD OF 'quoratelaw01.WireReads'. -/
def wireReadsUptoCard : Claim7 := { stood := { row := wireReadsUptoRow, standIns := [], harness := (true, "4c1b08003a40b711b235237067a94032ceeaa3ec137f5c7b90ec745e87d7b937"), looks := true }, kinds := [], alts := [], laidByText := true, laidKinds := [.sentinel, .sentinel, .sentinel, .sentinel, .sentinel, .sentinel, .sentinel, .sentinel, .sentinel, .sentinel, .sentinel, .sentinel, .sentinel, .sentinel, .sentinel, .sentinel, .sentinel, .sentinel], laidTests := true, laidLooks := .later }
def WireReadsUptoCardSaid : Prop := Claim7.holds Tryd.pinned (.plain (OpenSpec.upto wireReadsSpec)) wireReadsUptoCard

/-- THE SECOND FORM's CARD OF 'quoratelaw01.WireStops'. -/
def wireStopsUptoCard : Claim7 := { stood := { row := wireStopsUptoRow, standIns := [], harness := (true, "4c1b08003a40b711b235237067a94032ceeaa3ec137f5c7b90ec745e87d7b937"), looks := true }, kinds := [], alts := [], laidByText := true, laidKinds := [.sentinel, .sentinel, .sentinel, .sentinel, .sentinel, .sentinel, .sentinel, .sentinel, .sentinel, .sentinel, .sentinel, .sentinel, .sentinel, .sentinel, .sentinel, .sentinel, .sentinel, .sentinel], laidTests := true, laidLooks := .later }
def WireStopsUptoCardSaid : Prop := Claim7.holds Tryd.pinned (.plain (OpenSpec.upto wireStopsSpec)) wireStopsUptoCard

/-- THE SECOND FORM's CARD OF 'quoratelaw13.RulesBytes'. -/
def rulesBytesUptoCard : Claim7 := { stood := { row := rulesBytesUptoRow, standIns := [], harness := (true, "4c1b08003a40b711b235237067a94032ceeaa3ec137f5c7b90ec745e87d7b937"), looks := true }, kinds := [], alts := [], laidByText := true, laidKinds := [.sentinel, .sentinel, .sentinel, .sentinel, .sentinel, .sentinel, .sentinel, .sentinel, .sentinel, .sentinel, .sentinel, .sentinel, .sentinel, .sentinel, .sentinel, .sentinel, .sentinel, .sentinel], laidTests := true, laidLooks := .later }
def RulesBytesUptoCardSaid : Prop := Claim7.holds Tryd.pinned (.plain (OpenSpec.upto rulesBytesSpec)) rulesBytesUptoCard
end Rows
end Go.Proofs.YtadonpfpneanhaaDoor
