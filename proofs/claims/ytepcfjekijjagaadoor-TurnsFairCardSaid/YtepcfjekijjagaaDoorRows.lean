/-
  NARROWER THAN 'FOR EVERY INPUT', by the rows' own cells (each row's printed sentence says how): TurnsFair: laid · PaceRises: laid · PaceWaits: laid · PaceOld: laid · TurnsLeaders: laid · TurnsTurns: laid · TurnsAgain: laid · PacePlays: laid.
  DERIVED. THE GIVEN ROWS OF THIS SEAT. 8 by the template 'for every input the law returns true; each argument reads behind the call as it read before'; 0 by the template 'total and deterministic' (their statements: YtepcfjekijjagaaDoorTotals.lean).
  GIVEN WITH THE SEED: the statements are not yours to turn. If you find one false, say at which input.
  Laid BY PROGRAM, IN A SANDBOX (cutbox-rows.mjs): the forced cells as the released guide's own fill.sh prints them over the translation d4a3b034150883ed… (all of the seat's roots in one cut). By AI agents, Wed Nov 11 2026. No macro, syntax, notation, axiom, sorry.
-/
import Derived.Test.YtepcfjekijjagaaDoorChecked
import GoSem.Claim
import GoSem.ClaimJoined
import GoSem.ClaimMapViews
import Derived.JoinedTies
import Derived.KernelRfl
namespace Go.Proofs.YtepcfjekijjagaaDoor
/- THE CELL 'sum', in the pinned program and in every row, IS THE sha256 OF THE DUMP (.gsa) THAT YtepcfjekijjagaaDoorProg.lean LOADS. Nothing in Lean hashes anything: it is a label: what it is worth is what the hold of that sum in a sandbox is worth. -/
noncomputable def Tryd.pinned : Pinned := { name := "ytepcfjekijjagaadoor", sum := "d4a3b034150883eda8a527e27fb7935445776eea61a1311a6a4f41bac950e08f", checked := Tryd.checked }
namespace Rows
def none {H : Type} : Left H := { results := [], args := [] }

/- WHAT THE LISTED PACKAGE-LEVEL VARIABLES READ AS WHEN THE CALL BEGINS. Each datum BY PROGRAM (the guide's laid-datum.mjs) off the statement by which the dump's own 'gosem.cut.vars' lays the variable. In a bare row this is a premise. The card (YtepcfjekijjagaaDoorCards.lean) ties it to the program's text. -/
def laid_quorate_api_ErrRange {H : Type} : DataW H := .iface "*errors.errorString" (.ptr (.agg [.lit (.string [113, 117, 111, 114, 97, 116, 101, 58, 32, 114, 97, 110, 103, 101])]))
def laid_quorate_api_ErrRound {H : Type} : DataW H := .iface "*errors.errorString" (.ptr (.agg [.lit (.string [113, 117, 111, 114, 97, 116, 101, 58, 32, 114, 111, 117, 110, 100])]))
def laid_quorate_api_ErrShort {H : Type} : DataW H := .iface "*errors.errorString" (.ptr (.agg [.lit (.string [113, 117, 111, 114, 97, 116, 101, 58, 32, 115, 104, 111, 114, 116])]))
def laid_quorate_api_ErrLong {H : Type} : DataW H := .iface "*errors.errorString" (.ptr (.agg [.lit (.string [113, 117, 111, 114, 97, 116, 101, 58, 32, 108, 111, 110, 103])]))
def laid_quorate_api_ErrForm {H : Type} : DataW H := .iface "*errors.errorString" (.ptr (.agg [.lit (.string [113, 117, 111, 114, 97, 116, 101, 58, 32, 102, 111, 114, 109])]))
def laid_quorate_api_ErrSpent {H : Type} : DataW H := .iface "*errors.errorString" (.ptr (.agg [.lit (.string [113, 117, 111, 114, 97, 116, 101, 58, 32, 115, 112, 101, 110, 116])]))
def laid_quorate_api_ErrPower {H : Type} : DataW H := .iface "*errors.errorString" (.ptr (.agg [.lit (.string [113, 117, 111, 114, 97, 116, 101, 58, 32, 112, 111, 119, 101, 114])]))
def laid_quorate_api_ErrDisk {H : Type} : DataW H := .iface "*errors.errorString" (.ptr (.agg [.lit (.string [113, 117, 111, 114, 97, 116, 101, 58, 32, 100, 105, 115, 107])]))
def laid_quorate_api_ErrFull {H : Type} : DataW H := .iface "*errors.errorString" (.ptr (.agg [.lit (.string [113, 117, 111, 114, 97, 116, 101, 58, 32, 102, 117, 108, 108])]))
def laid_quorate_api_ErrNone {H : Type} : DataW H := .iface "*errors.errorString" (.ptr (.agg [.lit (.string [113, 117, 111, 114, 97, 116, 101, 58, 32, 110, 111, 110, 101])]))
def laid_quorate_api_ErrOld {H : Type} : DataW H := .iface "*errors.errorString" (.ptr (.agg [.lit (.string [113, 117, 111, 114, 97, 116, 101, 58, 32, 111, 108, 100])]))
def laid_quorate_api_ErrSet {H : Type} : DataW H := .iface "*errors.errorString" (.ptr (.agg [.lit (.string [113, 117, 111, 114, 97, 116, 101, 58, 32, 115, 101, 116])]))
def laid_quorate_api_ErrProof {H : Type} : DataW H := .iface "*errors.errorString" (.ptr (.agg [.lit (.string [113, 117, 111, 114, 97, 116, 101, 58, 32, 112, 114, 111, 111, 102])]))
def laid_quorate_api_ErrLeader {H : Type} : DataW H := .iface "*errors.errorString" (.ptr (.agg [.lit (.string [113, 117, 111, 114, 97, 116, 101, 58, 32, 108, 101, 97, 100, 101, 114])]))
def laid_quorate_api_ErrUnsafe {H : Type} : DataW H := .iface "*errors.errorString" (.ptr (.agg [.lit (.string [113, 117, 111, 114, 97, 116, 101, 58, 32, 117, 110, 115, 97, 102, 101])]))
def laid_quorate_api_ErrParent {H : Type} : DataW H := .iface "*errors.errorString" (.ptr (.agg [.lit (.string [113, 117, 111, 114, 97, 116, 101, 58, 32, 112, 97, 114, 101, 110, 116])]))
def laid_quorate_api_ErrTwice {H : Type} : DataW H := .iface "*errors.errorString" (.ptr (.agg [.lit (.string [113, 117, 111, 114, 97, 116, 101, 58, 32, 116, 119, 105, 99, 101])]))
def laid_quorate_api_ErrEpoch {H : Type} : DataW H := .iface "*errors.errorString" (.ptr (.agg [.lit (.string [113, 117, 111, 114, 97, 116, 101, 58, 32, 101, 112, 111, 99, 104])]))

/-- 'quoratelaw12.TurnsFair': WHATEVER THE INPUT: true; the input reads as it did. -/
def turnsFairSpec : ChangeSpec := { name := "turnsFair", fn := fun _ => fun
  | [d1, d2] => { results := [.lit (.bool true)], args := [d1, d2] }
  | _ => none }
def turnsFairRow : OpenClaim := { program := "ytepcfjekijjagaadoor", sum := "d4a3b034150883eda8a527e27fb7935445776eea61a1311a6a4f41bac950e08f", func := "quorate/quoratelaw12.TurnsFair", spec := "turnsFair", unfollowed := true, recurses := true, named := ["quorate/api.ErrRange", "quorate/api.ErrRound"], apart := false, laid := [("quorate/api.ErrRange", laid_quorate_api_ErrRange), ("quorate/api.ErrRound", laid_quorate_api_ErrRound)] }
def TurnsFairSaid : Prop := turnsFairRow.holds Tryd.pinned (OpenSpec.ofChange turnsFairSpec)

/-- ITS FALSE NEIGHBOUR: 'it returns false'. Refute it at one input. -/
def turnsFairWrong : ChangeSpec := { name := "turnsFair", fn := fun _ => fun
  | [d1, d2] => { results := [.lit (.bool false)], args := [d1, d2] }
  | _ => none }
def TurnsFairWrongFalsely : Prop := turnsFairRow.holds Tryd.pinned (OpenSpec.ofChange turnsFairWrong)

/-- 'quoratelaw16.PaceRises': WHATEVER THE INPUT: true; the input reads as it did. -/
def paceRisesSpec : ChangeSpec := { name := "paceRises", fn := fun _ => fun
  | [d1, d2] => { results := [.lit (.bool true)], args := [d1, d2] }
  | _ => none }
def paceRisesRow : OpenClaim := { program := "ytepcfjekijjagaadoor", sum := "d4a3b034150883eda8a527e27fb7935445776eea61a1311a6a4f41bac950e08f", func := "quorate/quoratelaw16.PaceRises", spec := "paceRises", named := ["quorate/api.ErrRound", "quorate/api.ErrRange"], apart := false, laid := [("quorate/api.ErrRange", laid_quorate_api_ErrRange), ("quorate/api.ErrRound", laid_quorate_api_ErrRound)] }
def PaceRisesSaid : Prop := paceRisesRow.holds Tryd.pinned (OpenSpec.ofChange paceRisesSpec)

/-- ITS FALSE NEIGHBOUR: 'it returns false'. Refute it at one input. -/
def paceRisesWrong : ChangeSpec := { name := "paceRises", fn := fun _ => fun
  | [d1, d2] => { results := [.lit (.bool false)], args := [d1, d2] }
  | _ => none }
def PaceRisesWrongFalsely : Prop := paceRisesRow.holds Tryd.pinned (OpenSpec.ofChange paceRisesWrong)

/-- 'quoratelaw16.PaceWaits': WHATEVER THE INPUT: true; the input reads as it did. -/
def paceWaitsSpec : ChangeSpec := { name := "paceWaits", fn := fun _ => fun
  | [d1, d2] => { results := [.lit (.bool true)], args := [d1, d2] }
  | _ => none }
def paceWaitsRow : OpenClaim := { program := "ytepcfjekijjagaadoor", sum := "d4a3b034150883eda8a527e27fb7935445776eea61a1311a6a4f41bac950e08f", func := "quorate/quoratelaw16.PaceWaits", spec := "paceWaits", named := ["quorate/api.ErrRound", "quorate/api.ErrRange"], apart := false, laid := [("quorate/api.ErrRange", laid_quorate_api_ErrRange), ("quorate/api.ErrRound", laid_quorate_api_ErrRound)] }
def PaceWaitsSaid : Prop := paceWaitsRow.holds Tryd.pinned (OpenSpec.ofChange paceWaitsSpec)

/-- ITS FALSE NEIGHBOUR: 'it returns false'. Refute it at one input. -/
def paceWaitsWrong : ChangeSpec := { name := "paceWaits", fn := fun _ => fun
  | [d1, d2] => { results := [.lit (.bool false)], args := [d1, d2] }
  | _ => none }
def PaceWaitsWrongFalsely : Prop := paceWaitsRow.holds Tryd.pinned (OpenSpec.ofChange paceWaitsWrong)

/-- 'quoratelaw16.PaceOld': WHATEVER THE INPUT: true; the input reads as it did. -/
def paceOldSpec : ChangeSpec := { name := "paceOld", fn := fun _ => fun
  | [d1, d2, d3] => { results := [.lit (.bool true)], args := [d1, d2, d3] }
  | _ => none }
def paceOldRow : OpenClaim := { program := "ytepcfjekijjagaadoor", sum := "d4a3b034150883eda8a527e27fb7935445776eea61a1311a6a4f41bac950e08f", func := "quorate/quoratelaw16.PaceOld", spec := "paceOld", named := ["quorate/api.ErrRound", "quorate/api.ErrRange"], apart := false, laid := [("quorate/api.ErrRange", laid_quorate_api_ErrRange), ("quorate/api.ErrRound", laid_quorate_api_ErrRound)] }
def PaceOldSaid : Prop := paceOldRow.holds Tryd.pinned (OpenSpec.ofChange paceOldSpec)

/-- ITS FALSE NEIGHBOUR: 'it returns false'. Refute it at one input. -/
def paceOldWrong : ChangeSpec := { name := "paceOld", fn := fun _ => fun
  | [d1, d2, d3] => { results := [.lit (.bool false)], args := [d1, d2, d3] }
  | _ => none }
def PaceOldWrongFalsely : Prop := paceOldRow.holds Tryd.pinned (OpenSpec.ofChange paceOldWrong)

/-- 'quoratelaw12.TurnsLeaders': WHATEVER THE INPUT: true; the input reads as it did. -/
def turnsLeadersSpec : ChangeSpec := { name := "turnsLeaders", fn := fun _ => fun
  | [d1, d2, d3] => { results := [.lit (.bool true)], args := [d1, d2, d3] }
  | _ => none }
def turnsLeadersRow : OpenClaim := { program := "ytepcfjekijjagaadoor", sum := "d4a3b034150883eda8a527e27fb7935445776eea61a1311a6a4f41bac950e08f", func := "quorate/quoratelaw12.TurnsLeaders", spec := "turnsLeaders", inPlace := ["internal/reflectlite.TypeOf"], unfollowed := true, recurses := true, named := ["quorate/api.ErrRound", "quorate/api.ErrRange", "quorate/api.ErrShort", "quorate/api.ErrLong", "quorate/api.ErrForm", "quorate/api.ErrSpent", "quorate/api.ErrPower", "quorate/api.ErrDisk", "quorate/api.ErrFull", "quorate/api.ErrNone", "quorate/api.ErrOld", "quorate/api.ErrSet", "quorate/api.ErrProof", "quorate/api.ErrLeader", "quorate/api.ErrUnsafe", "quorate/api.ErrParent", "quorate/api.ErrTwice", "quorate/api.ErrEpoch"], apart := false, laid := [("quorate/api.ErrRange", laid_quorate_api_ErrRange), ("quorate/api.ErrShort", laid_quorate_api_ErrShort), ("quorate/api.ErrLong", laid_quorate_api_ErrLong), ("quorate/api.ErrForm", laid_quorate_api_ErrForm), ("quorate/api.ErrSpent", laid_quorate_api_ErrSpent), ("quorate/api.ErrPower", laid_quorate_api_ErrPower), ("quorate/api.ErrDisk", laid_quorate_api_ErrDisk), ("quorate/api.ErrFull", laid_quorate_api_ErrFull), ("quorate/api.ErrNone", laid_quorate_api_ErrNone), ("quorate/api.ErrOld", laid_quorate_api_ErrOld), ("quorate/api.ErrSet", laid_quorate_api_ErrSet), ("quorate/api.ErrProof", laid_quorate_api_ErrProof), ("quorate/api.ErrLeader", laid_quorate_api_ErrLeader), ("quorate/api.ErrRound", laid_quorate_api_ErrRound), ("quorate/api.ErrUnsafe", laid_quorate_api_ErrUnsafe), ("quorate/api.ErrParent", laid_quorate_api_ErrParent), ("quorate/api.ErrTwice", laid_quorate_api_ErrTwice), ("quorate/api.ErrEpoch", laid_quorate_api_ErrEpoch)] }
def TurnsLeadersSaid : Prop := turnsLeadersRow.holds Tryd.pinned (OpenSpec.ofChange turnsLeadersSpec)

/-- ITS FALSE NEIGHBOUR: 'it returns false'. Refute it at one input. -/
def turnsLeadersWrong : ChangeSpec := { name := "turnsLeaders", fn := fun _ => fun
  | [d1, d2, d3] => { results := [.lit (.bool false)], args := [d1, d2, d3] }
  | _ => none }
def TurnsLeadersWrongFalsely : Prop := turnsLeadersRow.holds Tryd.pinned (OpenSpec.ofChange turnsLeadersWrong)

/-- 'quoratelaw12.TurnsTurns': WHATEVER THE INPUT: true; the input reads as it did. -/
def turnsTurnsSpec : ChangeSpec := { name := "turnsTurns", fn := fun _ => fun
  | [d1, d2, d3] => { results := [.lit (.bool true)], args := [d1, d2, d3] }
  | _ => none }
def turnsTurnsRow : OpenClaim := { program := "ytepcfjekijjagaadoor", sum := "d4a3b034150883eda8a527e27fb7935445776eea61a1311a6a4f41bac950e08f", func := "quorate/quoratelaw12.TurnsTurns", spec := "turnsTurns", inPlace := ["internal/reflectlite.TypeOf"], unfollowed := true, recurses := true, named := ["quorate/api.ErrRange", "quorate/api.ErrRound", "quorate/api.ErrShort", "quorate/api.ErrLong", "quorate/api.ErrForm", "quorate/api.ErrSpent", "quorate/api.ErrPower", "quorate/api.ErrDisk", "quorate/api.ErrFull", "quorate/api.ErrNone", "quorate/api.ErrOld", "quorate/api.ErrSet", "quorate/api.ErrProof", "quorate/api.ErrLeader", "quorate/api.ErrUnsafe", "quorate/api.ErrParent", "quorate/api.ErrTwice", "quorate/api.ErrEpoch"], apart := false, laid := [("quorate/api.ErrRange", laid_quorate_api_ErrRange), ("quorate/api.ErrShort", laid_quorate_api_ErrShort), ("quorate/api.ErrLong", laid_quorate_api_ErrLong), ("quorate/api.ErrForm", laid_quorate_api_ErrForm), ("quorate/api.ErrSpent", laid_quorate_api_ErrSpent), ("quorate/api.ErrPower", laid_quorate_api_ErrPower), ("quorate/api.ErrDisk", laid_quorate_api_ErrDisk), ("quorate/api.ErrFull", laid_quorate_api_ErrFull), ("quorate/api.ErrNone", laid_quorate_api_ErrNone), ("quorate/api.ErrOld", laid_quorate_api_ErrOld), ("quorate/api.ErrSet", laid_quorate_api_ErrSet), ("quorate/api.ErrProof", laid_quorate_api_ErrProof), ("quorate/api.ErrLeader", laid_quorate_api_ErrLeader), ("quorate/api.ErrRound", laid_quorate_api_ErrRound), ("quorate/api.ErrUnsafe", laid_quorate_api_ErrUnsafe), ("quorate/api.ErrParent", laid_quorate_api_ErrParent), ("quorate/api.ErrTwice", laid_quorate_api_ErrTwice), ("quorate/api.ErrEpoch", laid_quorate_api_ErrEpoch)] }
def TurnsTurnsSaid : Prop := turnsTurnsRow.holds Tryd.pinned (OpenSpec.ofChange turnsTurnsSpec)

/-- ITS FALSE NEIGHBOUR: 'it returns false'. Refute it at one input. -/
def turnsTurnsWrong : ChangeSpec := { name := "turnsTurns", fn := fun _ => fun
  | [d1, d2, d3] => { results := [.lit (.bool false)], args := [d1, d2, d3] }
  | _ => none }
def TurnsTurnsWrongFalsely : Prop := turnsTurnsRow.holds Tryd.pinned (OpenSpec.ofChange turnsTurnsWrong)

/-- 'quoratelaw12.TurnsAgain': WHATEVER THE INPUT: true; the input reads as it did. -/
def turnsAgainSpec : ChangeSpec := { name := "turnsAgain", fn := fun _ => fun
  | [d1, d2, d3] => { results := [.lit (.bool true)], args := [d1, d2, d3] }
  | _ => none }
def turnsAgainRow : OpenClaim := { program := "ytepcfjekijjagaadoor", sum := "d4a3b034150883eda8a527e27fb7935445776eea61a1311a6a4f41bac950e08f", func := "quorate/quoratelaw12.TurnsAgain", spec := "turnsAgain", inPlace := ["internal/reflectlite.TypeOf"], unfollowed := true, recurses := true, named := ["quorate/api.ErrRange", "quorate/api.ErrRound", "quorate/api.ErrShort", "quorate/api.ErrLong", "quorate/api.ErrForm", "quorate/api.ErrSpent", "quorate/api.ErrPower", "quorate/api.ErrDisk", "quorate/api.ErrFull", "quorate/api.ErrNone", "quorate/api.ErrOld", "quorate/api.ErrSet", "quorate/api.ErrProof", "quorate/api.ErrLeader", "quorate/api.ErrUnsafe", "quorate/api.ErrParent", "quorate/api.ErrTwice", "quorate/api.ErrEpoch"], apart := false, laid := [("quorate/api.ErrRange", laid_quorate_api_ErrRange), ("quorate/api.ErrShort", laid_quorate_api_ErrShort), ("quorate/api.ErrLong", laid_quorate_api_ErrLong), ("quorate/api.ErrForm", laid_quorate_api_ErrForm), ("quorate/api.ErrSpent", laid_quorate_api_ErrSpent), ("quorate/api.ErrPower", laid_quorate_api_ErrPower), ("quorate/api.ErrDisk", laid_quorate_api_ErrDisk), ("quorate/api.ErrFull", laid_quorate_api_ErrFull), ("quorate/api.ErrNone", laid_quorate_api_ErrNone), ("quorate/api.ErrOld", laid_quorate_api_ErrOld), ("quorate/api.ErrSet", laid_quorate_api_ErrSet), ("quorate/api.ErrProof", laid_quorate_api_ErrProof), ("quorate/api.ErrLeader", laid_quorate_api_ErrLeader), ("quorate/api.ErrRound", laid_quorate_api_ErrRound), ("quorate/api.ErrUnsafe", laid_quorate_api_ErrUnsafe), ("quorate/api.ErrParent", laid_quorate_api_ErrParent), ("quorate/api.ErrTwice", laid_quorate_api_ErrTwice), ("quorate/api.ErrEpoch", laid_quorate_api_ErrEpoch)] }
def TurnsAgainSaid : Prop := turnsAgainRow.holds Tryd.pinned (OpenSpec.ofChange turnsAgainSpec)

/-- ITS FALSE NEIGHBOUR: 'it returns false'. Refute it at one input. -/
def turnsAgainWrong : ChangeSpec := { name := "turnsAgain", fn := fun _ => fun
  | [d1, d2, d3] => { results := [.lit (.bool false)], args := [d1, d2, d3] }
  | _ => none }
def TurnsAgainWrongFalsely : Prop := turnsAgainRow.holds Tryd.pinned (OpenSpec.ofChange turnsAgainWrong)

/-- 'quoratelaw16.PacePlays': WHATEVER THE INPUT: true; the input reads as it did. -/
def pacePlaysSpec : ChangeSpec := { name := "pacePlays", fn := fun _ => fun
  | [d1, d2] => { results := [.lit (.bool true)], args := [d1, d2] }
  | _ => none }
def pacePlaysRow : OpenClaim := { program := "ytepcfjekijjagaadoor", sum := "d4a3b034150883eda8a527e27fb7935445776eea61a1311a6a4f41bac950e08f", func := "quorate/quoratelaw16.PacePlays", spec := "pacePlays", inPlace := ["internal/reflectlite.TypeOf"], unfollowed := true, recurses := true, named := ["quorate/api.ErrRound", "quorate/api.ErrRange", "quorate/api.ErrShort", "quorate/api.ErrLong", "quorate/api.ErrForm", "quorate/api.ErrSpent", "quorate/api.ErrPower", "quorate/api.ErrDisk", "quorate/api.ErrFull", "quorate/api.ErrNone", "quorate/api.ErrOld", "quorate/api.ErrSet", "quorate/api.ErrProof", "quorate/api.ErrLeader", "quorate/api.ErrUnsafe", "quorate/api.ErrParent", "quorate/api.ErrTwice", "quorate/api.ErrEpoch"], apart := false, laid := [("quorate/api.ErrRange", laid_quorate_api_ErrRange), ("quorate/api.ErrShort", laid_quorate_api_ErrShort), ("quorate/api.ErrLong", laid_quorate_api_ErrLong), ("quorate/api.ErrForm", laid_quorate_api_ErrForm), ("quorate/api.ErrSpent", laid_quorate_api_ErrSpent), ("quorate/api.ErrPower", laid_quorate_api_ErrPower), ("quorate/api.ErrDisk", laid_quorate_api_ErrDisk), ("quorate/api.ErrFull", laid_quorate_api_ErrFull), ("quorate/api.ErrNone", laid_quorate_api_ErrNone), ("quorate/api.ErrOld", laid_quorate_api_ErrOld), ("quorate/api.ErrSet", laid_quorate_api_ErrSet), ("quorate/api.ErrProof", laid_quorate_api_ErrProof), ("quorate/api.ErrLeader", laid_quorate_api_ErrLeader), ("quorate/api.ErrRound", laid_quorate_api_ErrRound), ("quorate/api.ErrUnsafe", laid_quorate_api_ErrUnsafe), ("quorate/api.ErrParent", laid_quorate_api_ErrParent), ("quorate/api.ErrTwice", laid_quorate_api_ErrTwice), ("quorate/api.ErrEpoch", laid_quorate_api_ErrEpoch)] }
def PacePlaysSaid : Prop := pacePlaysRow.holds Tryd.pinned (OpenSpec.ofChange pacePlaysSpec)

/-- ITS FALSE NEIGHBOUR: 'it returns false'. Refute it at one input. -/
def pacePlaysWrong : ChangeSpec := { name := "pacePlays", fn := fun _ => fun
  | [d1, d2] => { results := [.lit (.bool false)], args := [d1, d2] }
  | _ => none }
def PacePlaysWrongFalsely : Prop := pacePlaysRow.holds Tryd.pinned (OpenSpec.ofChange pacePlaysWrong)

/- THE SECOND FORM. 'bulk': how many values and letters a reading holds, each counted each time it is reached (what is shared counts as often as it is met; a slice's spare places count too). A statement '..UptoSaid' is the law's where the arguments, and the package variables that the reading takes, are together of bulk at most 1048576: NARROWER than '..Said'. Prove '..Said' where nothing that the law and all that it calls make is longer than what came in: it says more and counts as full. Else prove '..UptoSaid'. A law counts once. -/
mutual
def uptoBulk {H : Type} : DataW H → Nat
  | .lit (.string bytes) => bytes.length + 1
  | .lit _ => 1
  | .nil => 1
  | .ptr d => uptoBulk d + 1
  | .slice elems spare => uptoBulkAll elems + uptoBulkAll spare + 1
  | .agg parts => uptoBulkAll parts + 1
  | .iface _ d => uptoBulk d + 1
  | .map entries => uptoBulkEntries entries + 1
  | .held _ => 1
def uptoBulkAll {H : Type} : List (DataW H) → Nat
  | [] => 0
  | d :: r => uptoBulk d + uptoBulkAll r
def uptoBulkEntries {H : Type} : List (Lit × DataW H) → Nat
  | [] => 0
  | x :: r => uptoBulkEntry x + uptoBulkEntries r
def uptoBulkEntry {H : Type} : Lit × DataW H → Nat
  | (.string bytes, d) => bytes.length + uptoBulk d + 1
  | (_, d) => uptoBulk d + 1
 end
def uptoSmall : (H : Type) → List (DataW H) → Bool := fun _ ds => decide (uptoBulkAll ds ≤ 1048576)
def OpenSpec.upto (s : _root_.Go.ChangeSpec) : _root_.Go.OpenSpec := { _root_.Go.OpenSpec.ofChange s with cond := some uptoSmall }

/-- 'quoratelaw12.TurnsFair', WHERE WHAT IT READS IS OF BULK AT MOST 1048576: true; the input reads as it did. -/
def turnsFairUptoRow : OpenClaim := { program := "ytepcfjekijjagaadoor", sum := "d4a3b034150883eda8a527e27fb7935445776eea61a1311a6a4f41bac950e08f", func := "quorate/quoratelaw12.TurnsFair", spec := "turnsFair", unfollowed := true, recurses := true, named := ["quorate/api.ErrRange", "quorate/api.ErrRound"], apart := false, laid := [("quorate/api.ErrRange", laid_quorate_api_ErrRange), ("quorate/api.ErrRound", laid_quorate_api_ErrRound)], narrowed := true }
def TurnsFairUptoSaid : Prop := turnsFairUptoRow.holds Tryd.pinned (OpenSpec.upto turnsFairSpec)

/-- 'quoratelaw16.PaceRises', WHERE WHAT IT READS IS OF BULK AT MOST 1048576: true; the input reads as it did. -/
def paceRisesUptoRow : OpenClaim := { program := "ytepcfjekijjagaadoor", sum := "d4a3b034150883eda8a527e27fb7935445776eea61a1311a6a4f41bac950e08f", func := "quorate/quoratelaw16.PaceRises", spec := "paceRises", named := ["quorate/api.ErrRound", "quorate/api.ErrRange"], apart := false, laid := [("quorate/api.ErrRange", laid_quorate_api_ErrRange), ("quorate/api.ErrRound", laid_quorate_api_ErrRound)], narrowed := true }
def PaceRisesUptoSaid : Prop := paceRisesUptoRow.holds Tryd.pinned (OpenSpec.upto paceRisesSpec)

/-- 'quoratelaw16.PaceWaits', WHERE WHAT IT READS IS OF BULK AT MOST 1048576: true; the input reads as it did. -/
def paceWaitsUptoRow : OpenClaim := { program := "ytepcfjekijjagaadoor", sum := "d4a3b034150883eda8a527e27fb7935445776eea61a1311a6a4f41bac950e08f", func := "quorate/quoratelaw16.PaceWaits", spec := "paceWaits", named := ["quorate/api.ErrRound", "quorate/api.ErrRange"], apart := false, laid := [("quorate/api.ErrRange", laid_quorate_api_ErrRange), ("quorate/api.ErrRound", laid_quorate_api_ErrRound)], narrowed := true }
def PaceWaitsUptoSaid : Prop := paceWaitsUptoRow.holds Tryd.pinned (OpenSpec.upto paceWaitsSpec)

/-- 'quoratelaw16.PaceOld', WHERE WHAT IT READS IS OF BULK AT MOST 1048576: true; the input reads as it did. -/
def paceOldUptoRow : OpenClaim := { program := "ytepcfjekijjagaadoor", sum := "d4a3b034150883eda8a527e27fb7935445776eea61a1311a6a4f41bac950e08f", func := "quorate/quoratelaw16.PaceOld", spec := "paceOld", named := ["quorate/api.ErrRound", "quorate/api.ErrRange"], apart := false, laid := [("quorate/api.ErrRange", laid_quorate_api_ErrRange), ("quorate/api.ErrRound", laid_quorate_api_ErrRound)], narrowed := true }
def PaceOldUptoSaid : Prop := paceOldUptoRow.holds Tryd.pinned (OpenSpec.upto paceOldSpec)

/-- 'quoratelaw12.TurnsLeaders', WHERE WHAT IT READS IS OF BULK AT MOST 1048576: true; the input reads as it did. -/
def turnsLeadersUptoRow : OpenClaim := { program := "ytepcfjekijjagaadoor", sum := "d4a3b034150883eda8a527e27fb7935445776eea61a1311a6a4f41bac950e08f", func := "quorate/quoratelaw12.TurnsLeaders", spec := "turnsLeaders", inPlace := ["internal/reflectlite.TypeOf"], unfollowed := true, recurses := true, named := ["quorate/api.ErrRound", "quorate/api.ErrRange", "quorate/api.ErrShort", "quorate/api.ErrLong", "quorate/api.ErrForm", "quorate/api.ErrSpent", "quorate/api.ErrPower", "quorate/api.ErrDisk", "quorate/api.ErrFull", "quorate/api.ErrNone", "quorate/api.ErrOld", "quorate/api.ErrSet", "quorate/api.ErrProof", "quorate/api.ErrLeader", "quorate/api.ErrUnsafe", "quorate/api.ErrParent", "quorate/api.ErrTwice", "quorate/api.ErrEpoch"], apart := false, laid := [("quorate/api.ErrRange", laid_quorate_api_ErrRange), ("quorate/api.ErrShort", laid_quorate_api_ErrShort), ("quorate/api.ErrLong", laid_quorate_api_ErrLong), ("quorate/api.ErrForm", laid_quorate_api_ErrForm), ("quorate/api.ErrSpent", laid_quorate_api_ErrSpent), ("quorate/api.ErrPower", laid_quorate_api_ErrPower), ("quorate/api.ErrDisk", laid_quorate_api_ErrDisk), ("quorate/api.ErrFull", laid_quorate_api_ErrFull), ("quorate/api.ErrNone", laid_quorate_api_ErrNone), ("quorate/api.ErrOld", laid_quorate_api_ErrOld), ("quorate/api.ErrSet", laid_quorate_api_ErrSet), ("quorate/api.ErrProof", laid_quorate_api_ErrProof), ("quorate/api.ErrLeader", laid_quorate_api_ErrLeader), ("quorate/api.ErrRound", laid_quorate_api_ErrRound), ("quorate/api.ErrUnsafe", laid_quorate_api_ErrUnsafe), ("quorate/api.ErrParent", laid_quorate_api_ErrParent), ("quorate/api.ErrTwice", laid_quorate_api_ErrTwice), ("quorate/api.ErrEpoch", laid_quorate_api_ErrEpoch)], narrowed := true }
def TurnsLeadersUptoSaid : Prop := turnsLeadersUptoRow.holds Tryd.pinned (OpenSpec.upto turnsLeadersSpec)

/-- 'quoratelaw12.TurnsTurns', WHERE WHAT IT READS IS OF BULK AT MOST 1048576: true; the input reads as it did. -/
def turnsTurnsUptoRow : OpenClaim := { program := "ytepcfjekijjagaadoor", sum := "d4a3b034150883eda8a527e27fb7935445776eea61a1311a6a4f41bac950e08f", func := "quorate/quoratelaw12.TurnsTurns", spec := "turnsTurns", inPlace := ["internal/reflectlite.TypeOf"], unfollowed := true, recurses := true, named := ["quorate/api.ErrRange", "quorate/api.ErrRound", "quorate/api.ErrShort", "quorate/api.ErrLong", "quorate/api.ErrForm", "quorate/api.ErrSpent", "quorate/api.ErrPower", "quorate/api.ErrDisk", "quorate/api.ErrFull", "quorate/api.ErrNone", "quorate/api.ErrOld", "quorate/api.ErrSet", "quorate/api.ErrProof", "quorate/api.ErrLeader", "quorate/api.ErrUnsafe", "quorate/api.ErrParent", "quorate/api.ErrTwice", "quorate/api.ErrEpoch"], apart := false, laid := [("quorate/api.ErrRange", laid_quorate_api_ErrRange), ("quorate/api.ErrShort", laid_quorate_api_ErrShort), ("quorate/api.ErrLong", laid_quorate_api_ErrLong), ("quorate/api.ErrForm", laid_quorate_api_ErrForm), ("quorate/api.ErrSpent", laid_quorate_api_ErrSpent), ("quorate/api.ErrPower", laid_quorate_api_ErrPower), ("quorate/api.ErrDisk", laid_quorate_api_ErrDisk), ("quorate/api.ErrFull", laid_quorate_api_ErrFull), ("quorate/api.ErrNone", laid_quorate_api_ErrNone), ("quorate/api.ErrOld", laid_quorate_api_ErrOld), ("quorate/api.ErrSet", laid_quorate_api_ErrSet), ("quorate/api.ErrProof", laid_quorate_api_ErrProof), ("quorate/api.ErrLeader", laid_quorate_api_ErrLeader), ("quorate/api.ErrRound", laid_quorate_api_ErrRound), ("quorate/api.ErrUnsafe", laid_quorate_api_ErrUnsafe), ("quorate/api.ErrParent", laid_quorate_api_ErrParent), ("quorate/api.ErrTwice", laid_quorate_api_ErrTwice), ("quorate/api.ErrEpoch", laid_quorate_api_ErrEpoch)], narrowed := true }
def TurnsTurnsUptoSaid : Prop := turnsTurnsUptoRow.holds Tryd.pinned (OpenSpec.upto turnsTurnsSpec)

/-- 'quoratelaw12.TurnsAgain', WHERE WHAT IT READS IS OF BULK AT MOST 1048576: true; the input reads as it did. -/
def turnsAgainUptoRow : OpenClaim := { program := "ytepcfjekijjagaadoor", sum := "d4a3b034150883eda8a527e27fb7935445776eea61a1311a6a4f41bac950e08f", func := "quorate/quoratelaw12.TurnsAgain", spec := "turnsAgain", inPlace := ["internal/reflectlite.TypeOf"], unfollowed := true, recurses := true, named := ["quorate/api.ErrRange", "quorate/api.ErrRound", "quorate/api.ErrShort", "quorate/api.ErrLong", "quorate/api.ErrForm", "quorate/api.ErrSpent", "quorate/api.ErrPower", "quorate/api.ErrDisk", "quorate/api.ErrFull", "quorate/api.ErrNone", "quorate/api.ErrOld", "quorate/api.ErrSet", "quorate/api.ErrProof", "quorate/api.ErrLeader", "quorate/api.ErrUnsafe", "quorate/api.ErrParent", "quorate/api.ErrTwice", "quorate/api.ErrEpoch"], apart := false, laid := [("quorate/api.ErrRange", laid_quorate_api_ErrRange), ("quorate/api.ErrShort", laid_quorate_api_ErrShort), ("quorate/api.ErrLong", laid_quorate_api_ErrLong), ("quorate/api.ErrForm", laid_quorate_api_ErrForm), ("quorate/api.ErrSpent", laid_quorate_api_ErrSpent), ("quorate/api.ErrPower", laid_quorate_api_ErrPower), ("quorate/api.ErrDisk", laid_quorate_api_ErrDisk), ("quorate/api.ErrFull", laid_quorate_api_ErrFull), ("quorate/api.ErrNone", laid_quorate_api_ErrNone), ("quorate/api.ErrOld", laid_quorate_api_ErrOld), ("quorate/api.ErrSet", laid_quorate_api_ErrSet), ("quorate/api.ErrProof", laid_quorate_api_ErrProof), ("quorate/api.ErrLeader", laid_quorate_api_ErrLeader), ("quorate/api.ErrRound", laid_quorate_api_ErrRound), ("quorate/api.ErrUnsafe", laid_quorate_api_ErrUnsafe), ("quorate/api.ErrParent", laid_quorate_api_ErrParent), ("quorate/api.ErrTwice", laid_quorate_api_ErrTwice), ("quorate/api.ErrEpoch", laid_quorate_api_ErrEpoch)], narrowed := true }
def TurnsAgainUptoSaid : Prop := turnsAgainUptoRow.holds Tryd.pinned (OpenSpec.upto turnsAgainSpec)

/-- 'quoratelaw16.PacePlays', WHERE WHAT IT READS IS OF BULK AT MOST 1048576: true; the input reads as it did. -/
def pacePlaysUptoRow : OpenClaim := { program := "ytepcfjekijjagaadoor", sum := "d4a3b034150883eda8a527e27fb7935445776eea61a1311a6a4f41bac950e08f", func := "quorate/quoratelaw16.PacePlays", spec := "pacePlays", inPlace := ["internal/reflectlite.TypeOf"], unfollowed := true, recurses := true, named := ["quorate/api.ErrRound", "quorate/api.ErrRange", "quorate/api.ErrShort", "quorate/api.ErrLong", "quorate/api.ErrForm", "quorate/api.ErrSpent", "quorate/api.ErrPower", "quorate/api.ErrDisk", "quorate/api.ErrFull", "quorate/api.ErrNone", "quorate/api.ErrOld", "quorate/api.ErrSet", "quorate/api.ErrProof", "quorate/api.ErrLeader", "quorate/api.ErrUnsafe", "quorate/api.ErrParent", "quorate/api.ErrTwice", "quorate/api.ErrEpoch"], apart := false, laid := [("quorate/api.ErrRange", laid_quorate_api_ErrRange), ("quorate/api.ErrShort", laid_quorate_api_ErrShort), ("quorate/api.ErrLong", laid_quorate_api_ErrLong), ("quorate/api.ErrForm", laid_quorate_api_ErrForm), ("quorate/api.ErrSpent", laid_quorate_api_ErrSpent), ("quorate/api.ErrPower", laid_quorate_api_ErrPower), ("quorate/api.ErrDisk", laid_quorate_api_ErrDisk), ("quorate/api.ErrFull", laid_quorate_api_ErrFull), ("quorate/api.ErrNone", laid_quorate_api_ErrNone), ("quorate/api.ErrOld", laid_quorate_api_ErrOld), ("quorate/api.ErrSet", laid_quorate_api_ErrSet), ("quorate/api.ErrProof", laid_quorate_api_ErrProof), ("quorate/api.ErrLeader", laid_quorate_api_ErrLeader), ("quorate/api.ErrRound", laid_quorate_api_ErrRound), ("quorate/api.ErrUnsafe", laid_quorate_api_ErrUnsafe), ("quorate/api.ErrParent", laid_quorate_api_ErrParent), ("quorate/api.ErrTwice", laid_quorate_api_ErrTwice), ("quorate/api.ErrEpoch", laid_quorate_api_ErrEpoch)], narrowed := true }
def PacePlaysUptoSaid : Prop := pacePlaysUptoRow.holds Tryd.pinned (OpenSpec.upto pacePlaysSpec)

end Rows
end Go.Proofs.YtepcfjekijjagaaDoor
