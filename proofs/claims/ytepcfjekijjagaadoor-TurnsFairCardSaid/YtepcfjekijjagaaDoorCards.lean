/-
  DERIVED. GIVEN WITH THE SEED: THE CARDS: each row of YtepcfjekijjagaaDoorRows.lean that lists a variable, with what it lists TIED to the program's text (the seventh form; the later family's looks); each row that meets fmt, with fmt's text TOLD by the authors' own Lean function (tested against real Go, not proved from fmt's source: count such statements apart). THE CARD IS WHAT COUNTS. Prove the row's statement (the work); the ties are given (YtepcfjekijjagaaDoorTie.lean); close each card by the builder's one call (the guide's Derived/Test/ToyasCard.lean, 'card_holds'). Laid BY PROGRAM, IN A SANDBOX (cutbox-door.mjs). By AI agents, Wed Nov 11 2026. No macro, syntax, notation, axiom, sorry.
-/
import Derived.Test.YtepcfjekijjagaaDoorRows
import GoSem.ClaimSeven
namespace Go.Proofs.YtepcfjekijjagaaDoor
namespace Rows

/-- THE TIED CARD OF 'quoratelaw12.TurnsFair'. -/
def turnsFairCard : Claim7 := { stood := { row := turnsFairRow, standIns := [], harness := (true, "e9b95adaab1e70e0bfdfea8c62a7c3e2d6856c1d05a107d0e8e2e4836c97edba"), looks := true }, kinds := [], alts := [], laidByText := true, laidKinds := [.sentinel, .sentinel], laidTests := true, laidLooks := .later }
def TurnsFairCardSaid : Prop := Claim7.holds Tryd.pinned (.plain (OpenSpec.ofChange turnsFairSpec)) turnsFairCard

/-- THE TIED CARD OF 'quoratelaw16.PaceRises'. -/
def paceRisesCard : Claim7 := { stood := { row := paceRisesRow, standIns := [], harness := (true, "e9b95adaab1e70e0bfdfea8c62a7c3e2d6856c1d05a107d0e8e2e4836c97edba"), looks := true }, kinds := [], alts := [], laidByText := true, laidKinds := [.sentinel, .sentinel], laidTests := true, laidLooks := .later }
def PaceRisesCardSaid : Prop := Claim7.holds Tryd.pinned (.plain (OpenSpec.ofChange paceRisesSpec)) paceRisesCard

/-- THE TIED CARD OF 'quoratelaw16.PaceWaits'. -/
def paceWaitsCard : Claim7 := { stood := { row := paceWaitsRow, standIns := [], harness := (true, "e9b95adaab1e70e0bfdfea8c62a7c3e2d6856c1d05a107d0e8e2e4836c97edba"), looks := true }, kinds := [], alts := [], laidByText := true, laidKinds := [.sentinel, .sentinel], laidTests := true, laidLooks := .later }
def PaceWaitsCardSaid : Prop := Claim7.holds Tryd.pinned (.plain (OpenSpec.ofChange paceWaitsSpec)) paceWaitsCard

/-- THE TIED CARD OF 'quoratelaw16.PaceOld'. -/
def paceOldCard : Claim7 := { stood := { row := paceOldRow, standIns := [], harness := (true, "e9b95adaab1e70e0bfdfea8c62a7c3e2d6856c1d05a107d0e8e2e4836c97edba"), looks := true }, kinds := [], alts := [], laidByText := true, laidKinds := [.sentinel, .sentinel], laidTests := true, laidLooks := .later }
def PaceOldCardSaid : Prop := Claim7.holds Tryd.pinned (.plain (OpenSpec.ofChange paceOldSpec)) paceOldCard

/-- THE TIED CARD OF 'quoratelaw12.TurnsLeaders'. -/
def turnsLeadersCard : Claim7 := { stood := { row := turnsLeadersRow, standIns := [], harness := (true, "e9b95adaab1e70e0bfdfea8c62a7c3e2d6856c1d05a107d0e8e2e4836c97edba"), looks := true }, kinds := [], alts := [], laidByText := true, laidKinds := [.sentinel, .sentinel, .sentinel, .sentinel, .sentinel, .sentinel, .sentinel, .sentinel, .sentinel, .sentinel, .sentinel, .sentinel, .sentinel, .sentinel, .sentinel, .sentinel, .sentinel, .sentinel], laidTests := true, laidLooks := .later }
def TurnsLeadersCardSaid : Prop := Claim7.holds Tryd.pinned (.plain (OpenSpec.ofChange turnsLeadersSpec)) turnsLeadersCard

/-- THE TIED CARD OF 'quoratelaw12.TurnsTurns'. -/
def turnsTurnsCard : Claim7 := { stood := { row := turnsTurnsRow, standIns := [], harness := (true, "e9b95adaab1e70e0bfdfea8c62a7c3e2d6856c1d05a107d0e8e2e4836c97edba"), looks := true }, kinds := [], alts := [], laidByText := true, laidKinds := [.sentinel, .sentinel, .sentinel, .sentinel, .sentinel, .sentinel, .sentinel, .sentinel, .sentinel, .sentinel, .sentinel, .sentinel, .sentinel, .sentinel, .sentinel, .sentinel, .sentinel, .sentinel], laidTests := true, laidLooks := .later }
def TurnsTurnsCardSaid : Prop := Claim7.holds Tryd.pinned (.plain (OpenSpec.ofChange turnsTurnsSpec)) turnsTurnsCard

/-- THE TIED CARD OF 'quoratelaw12.TurnsAgain'. -/
def turnsAgainCard : Claim7 := { stood := { row := turnsAgainRow, standIns := [], harness := (true, "e9b95adaab1e70e0bfdfea8c62a7c3e2d6856c1d05a107d0e8e2e4836c97edba"), looks := true }, kinds := [], alts := [], laidByText := true, laidKinds := [.sentinel, .sentinel, .sentinel, .sentinel, .sentinel, .sentinel, .sentinel, .sentinel, .sentinel, .sentinel, .sentinel, .sentinel, .sentinel, .sentinel, .sentinel, .sentinel, .sentinel, .sentinel], laidTests := true, laidLooks := .later }
def TurnsAgainCardSaid : Prop := Claim7.holds Tryd.pinned (.plain (OpenSpec.ofChange turnsAgainSpec)) turnsAgainCard

/-- THE TIED CARD OF 'quoratelaw16.PacePlays'. -/
def pacePlaysCard : Claim7 := { stood := { row := pacePlaysRow, standIns := [], harness := (true, "e9b95adaab1e70e0bfdfea8c62a7c3e2d6856c1d05a107d0e8e2e4836c97edba"), looks := true }, kinds := [], alts := [], laidByText := true, laidKinds := [.sentinel, .sentinel, .sentinel, .sentinel, .sentinel, .sentinel, .sentinel, .sentinel, .sentinel, .sentinel, .sentinel, .sentinel, .sentinel, .sentinel, .sentinel, .sentinel, .sentinel, .sentinel], laidTests := true, laidLooks := .later }
def PacePlaysCardSaid : Prop := Claim7.holds Tryd.pinned (.plain (OpenSpec.ofChange pacePlaysSpec)) pacePlaysCard

/-- THE SECOND FORM's CARD OF 'quoratelaw12.TurnsFair'. -/
def turnsFairUptoCard : Claim7 := { stood := { row := turnsFairUptoRow, standIns := [], harness := (true, "e9b95adaab1e70e0bfdfea8c62a7c3e2d6856c1d05a107d0e8e2e4836c97edba"), looks := true }, kinds := [], alts := [], laidByText := true, laidKinds := [.sentinel, .sentinel], laidTests := true, laidLooks := .later }
def TurnsFairUptoCardSaid : Prop := Claim7.holds Tryd.pinned (.plain (OpenSpec.upto turnsFairSpec)) turnsFairUptoCard

/-- THE SECOND FORM's CARD OF 'quoratelaw16.PaceRises'. -/
def paceRisesUptoCard : Claim7 := { stood := { row := paceRisesUptoRow, standIns := [], harness := (true, "e9b95adaab1e70e0bfdfea8c62a7c3e2d6856c1d05a107d0e8e2e4836c97edba"), looks := true }, kinds := [], alts := [], laidByText := true, laidKinds := [.sentinel, .sentinel], laidTests := true, laidLooks := .later }
def PaceRisesUptoCardSaid : Prop := Claim7.holds Tryd.pinned (.plain (OpenSpec.upto paceRisesSpec)) paceRisesUptoCard

/-- THE SECOND FORM's CARD OF 'quoratelaw16.PaceWaits'. -/
def paceWaitsUptoCard : Claim7 := { stood := { row := paceWaitsUptoRow, standIns := [], harness := (true, "e9b95adaab1e70e0bfdfea8c62a7c3e2d6856c1d05a107d0e8e2e4836c97edba"), looks := true }, kinds := [], alts := [], laidByText := true, laidKinds := [.sentinel, .sentinel], laidTests := true, laidLooks := .later }
def PaceWaitsUptoCardSaid : Prop := Claim7.holds Tryd.pinned (.plain (OpenSpec.upto paceWaitsSpec)) paceWaitsUptoCard

/-- THE SECOND FORM's CARD OF 'quoratelaw16.PaceOld'. -/
def paceOldUptoCard : Claim7 := { stood := { row := paceOldUptoRow, standIns := [], harness := (true, "e9b95adaab1e70e0bfdfea8c62a7c3e2d6856c1d05a107d0e8e2e4836c97edba"), looks := true }, kinds := [], alts := [], laidByText := true, laidKinds := [.sentinel, .sentinel], laidTests := true, laidLooks := .later }
def PaceOldUptoCardSaid : Prop := Claim7.holds Tryd.pinned (.plain (OpenSpec.upto paceOldSpec)) paceOldUptoCard

/-- THE SECOND FORM's CARD OF 'quoratelaw12.TurnsLeaders'. -/
def turnsLeadersUptoCard : Claim7 := { stood := { row := turnsLeadersUptoRow, standIns := [], harness := (true, "e9b95adaab1e70e0bfdfea8c62a7c3e2d6856c1d05a107d0e8e2e4836c97edba"), looks := true }, kinds := [], alts := [], laidByText := true, laidKinds := [.sentinel, .sentinel, .sentinel, .sentinel, .sentinel, .sentinel, .sentinel, .sentinel, .sentinel, .sentinel, .sentinel, .sentinel, .sentinel, .sentinel, .sentinel, .sentinel, .sentinel, .sentinel], laidTests := true, laidLooks := .later }
def TurnsLeadersUptoCardSaid : Prop := Claim7.holds Tryd.pinned (.plain (OpenSpec.upto turnsLeadersSpec)) turnsLeadersUptoCard

/-- THE SECOND FORM's CARD OF 'quoratelaw12.TurnsTurns'. -/
def turnsTurnsUptoCard : Claim7 := { stood := { row := turnsTurnsUptoRow, standIns := [], harness := (true, "e9b95adaab1e70e0bfdfea8c62a7c3e2d6856c1d05a107d0e8e2e4836c97edba"), looks := true }, kinds := [], alts := [], laidByText := true, laidKinds := [.sentinel, .sentinel, .sentinel, .sentinel, .sentinel, .sentinel, .sentinel, .sentinel, .sentinel, .sentinel, .sentinel, .sentinel, .sentinel, .sentinel, .sentinel, .sentinel, .sentinel, .sentinel], laidTests := true, laidLooks := .later }
def TurnsTurnsUptoCardSaid : Prop := Claim7.holds Tryd.pinned (.plain (OpenSpec.upto turnsTurnsSpec)) turnsTurnsUptoCard

/-- THE SECOND FORM's CARD OF 'quoratelaw12.TurnsAgain'. -/
def turnsAgainUptoCard : Claim7 := { stood := { row := turnsAgainUptoRow, standIns := [], harness := (true, "e9b95adaab1e70e0bfdfea8c62a7c3e2d6856c1d05a107d0e8e2e4836c97edba"), looks := true }, kinds := [], alts := [], laidByText := true, laidKinds := [.sentinel, .sentinel, .sentinel, .sentinel, .sentinel, .sentinel, .sentinel, .sentinel, .sentinel, .sentinel, .sentinel, .sentinel, .sentinel, .sentinel, .sentinel, .sentinel, .sentinel, .sentinel], laidTests := true, laidLooks := .later }
def TurnsAgainUptoCardSaid : Prop := Claim7.holds Tryd.pinned (.plain (OpenSpec.upto turnsAgainSpec)) turnsAgainUptoCard

/-- THE SECOND FORM's CARD OF 'quoratelaw16.PacePlays'. -/
def pacePlaysUptoCard : Claim7 := { stood := { row := pacePlaysUptoRow, standIns := [], harness := (true, "e9b95adaab1e70e0bfdfea8c62a7c3e2d6856c1d05a107d0e8e2e4836c97edba"), looks := true }, kinds := [], alts := [], laidByText := true, laidKinds := [.sentinel, .sentinel, .sentinel, .sentinel, .sentinel, .sentinel, .sentinel, .sentinel, .sentinel, .sentinel, .sentinel, .sentinel, .sentinel, .sentinel, .sentinel, .sentinel, .sentinel, .sentinel], laidTests := true, laidLooks := .later }
def PacePlaysUptoCardSaid : Prop := Claim7.holds Tryd.pinned (.plain (OpenSpec.upto pacePlaysSpec)) pacePlaysUptoCard
end Rows
end Go.Proofs.YtepcfjekijjagaaDoor
