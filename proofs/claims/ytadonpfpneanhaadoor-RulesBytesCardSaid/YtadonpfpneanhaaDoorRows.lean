/-
  NARROWER THAN 'FOR EVERY INPUT', by the rows' own cells (each row's printed sentence says how): WireForth: laid · WireWidths: laid · RulesCovers: laid · WireWrites: laid · WireNests: laid · RulesSteps: laid · RulesOnce: laid · RulesLocks: laid · RulesApart: laid · RulesRows: laid · WireBack: laid · WireReads: laid · WireStops: laid · RulesBytes: laid.
  DERIVED. THE GIVEN ROWS OF THIS SEAT. 14 by the template 'for every input the law returns true; each argument reads behind the call as it read before'; 0 by the template 'total and deterministic' (their statements: YtadonpfpneanhaaDoorTotals.lean).
  GIVEN WITH THE SEED: the statements are not yours to turn. If you find one false, say at which input.
  Laid BY PROGRAM, IN A SANDBOX (cutbox-rows.mjs): the forced cells as the released guide's own fill.sh prints them over the translation ff3cfb9523ec3b86… (all of the seat's roots in one cut). By AI agents, Wed Nov 11 2026. No macro, syntax, notation, axiom, sorry.
-/
import Derived.Test.YtadonpfpneanhaaDoorChecked
import GoSem.Claim
import GoSem.ClaimJoined
import GoSem.ClaimMapViews
import Derived.JoinedTies
import Derived.KernelRfl
namespace Go.Proofs.YtadonpfpneanhaaDoor
/- THE CELL 'sum', in the pinned program and in every row, IS THE sha256 OF THE DUMP (.gsa) THAT YtadonpfpneanhaaDoorProg.lean LOADS. Nothing in Lean hashes anything: it is a label: what it is worth is what the hold of that sum in a sandbox is worth. -/
noncomputable def Tryd.pinned : Pinned := { name := "ytadonpfpneanhaadoor", sum := "ff3cfb9523ec3b86796e0bda10074b2e2aa2d9655cf8728baa60a94f9d33025c", checked := Tryd.checked }
namespace Rows
def none {H : Type} : Left H := { results := [], args := [] }

/- WHAT THE LISTED PACKAGE-LEVEL VARIABLES READ AS WHEN THE CALL BEGINS. Each datum BY PROGRAM (the guide's laid-datum.mjs) off the statement by which the dump's own 'gosem.cut.vars' lays the variable. In a bare row this is a premise. The card (YtadonpfpneanhaaDoorCards.lean) ties it to the program's text. -/
def laid_quorate_api_ErrRange {H : Type} : DataW H := .iface "*errors.errorString" (.ptr (.agg [.lit (.string [113, 117, 111, 114, 97, 116, 101, 58, 32, 114, 97, 110, 103, 101])]))
def laid_quorate_api_ErrShort {H : Type} : DataW H := .iface "*errors.errorString" (.ptr (.agg [.lit (.string [113, 117, 111, 114, 97, 116, 101, 58, 32, 115, 104, 111, 114, 116])]))
def laid_quorate_api_ErrLong {H : Type} : DataW H := .iface "*errors.errorString" (.ptr (.agg [.lit (.string [113, 117, 111, 114, 97, 116, 101, 58, 32, 108, 111, 110, 103])]))
def laid_quorate_api_ErrForm {H : Type} : DataW H := .iface "*errors.errorString" (.ptr (.agg [.lit (.string [113, 117, 111, 114, 97, 116, 101, 58, 32, 102, 111, 114, 109])]))
def laid_quorate_api_ErrSpent {H : Type} : DataW H := .iface "*errors.errorString" (.ptr (.agg [.lit (.string [113, 117, 111, 114, 97, 116, 101, 58, 32, 115, 112, 101, 110, 116])]))
def laid_quorate_api_ErrPower {H : Type} : DataW H := .iface "*errors.errorString" (.ptr (.agg [.lit (.string [113, 117, 111, 114, 97, 116, 101, 58, 32, 112, 111, 119, 101, 114])]))
def laid_quorate_api_ErrDisk {H : Type} : DataW H := .iface "*errors.errorString" (.ptr (.agg [.lit (.string [113, 117, 111, 114, 97, 116, 101, 58, 32, 100, 105, 115, 107])]))
def laid_quorate_api_ErrFull {H : Type} : DataW H := .iface "*errors.errorString" (.ptr (.agg [.lit (.string [113, 117, 111, 114, 97, 116, 101, 58, 32, 102, 117, 108, 108])]))
def laid_quorate_api_ErrNone {H : Type} : DataW H := .iface "*errors.errorString" (.ptr (.agg [.lit (.string [113, 117, 111, 114, 97, 116, 101, 58, 32, 110, 111, 110, 101])]))
def laid_quorate_api_ErrOld {H : Type} : DataW H := .iface "*errors.errorString" (.ptr (.agg [.lit (.string [113, 117, 111, 114, 97, 116, 101, 58, 32, 111, 108, 100])]))
def laid_quorate_api_ErrSet {H : Type} : DataW H := .iface "*errors.errorString" (.ptr (.agg [.lit (.string [113, 117, 111, 114, 97, 116, 101, 58, 32, 115, 101, 116])]))
def laid_quorate_api_ErrProof {H : Type} : DataW H := .iface "*errors.errorString" (.ptr (.agg [.lit (.string [113, 117, 111, 114, 97, 116, 101, 58, 32, 112, 114, 111, 111, 102])]))
def laid_quorate_api_ErrLeader {H : Type} : DataW H := .iface "*errors.errorString" (.ptr (.agg [.lit (.string [113, 117, 111, 114, 97, 116, 101, 58, 32, 108, 101, 97, 100, 101, 114])]))
def laid_quorate_api_ErrRound {H : Type} : DataW H := .iface "*errors.errorString" (.ptr (.agg [.lit (.string [113, 117, 111, 114, 97, 116, 101, 58, 32, 114, 111, 117, 110, 100])]))
def laid_quorate_api_ErrUnsafe {H : Type} : DataW H := .iface "*errors.errorString" (.ptr (.agg [.lit (.string [113, 117, 111, 114, 97, 116, 101, 58, 32, 117, 110, 115, 97, 102, 101])]))
def laid_quorate_api_ErrParent {H : Type} : DataW H := .iface "*errors.errorString" (.ptr (.agg [.lit (.string [113, 117, 111, 114, 97, 116, 101, 58, 32, 112, 97, 114, 101, 110, 116])]))
def laid_quorate_api_ErrTwice {H : Type} : DataW H := .iface "*errors.errorString" (.ptr (.agg [.lit (.string [113, 117, 111, 114, 97, 116, 101, 58, 32, 116, 119, 105, 99, 101])]))
def laid_quorate_api_ErrEpoch {H : Type} : DataW H := .iface "*errors.errorString" (.ptr (.agg [.lit (.string [113, 117, 111, 114, 97, 116, 101, 58, 32, 101, 112, 111, 99, 104])]))

/-- 'quoratelaw01.WireForth': WHATEVER THE INPUT: true; the input reads as it did. -/
def wireForthSpec : ChangeSpec := { name := "wireForth", fn := fun _ => fun
  | [d1, d2] => { results := [.lit (.bool true)], args := [d1, d2] }
  | _ => none }
def wireForthRow : OpenClaim := { program := "ytadonpfpneanhaadoor", sum := "ff3cfb9523ec3b86796e0bda10074b2e2aa2d9655cf8728baa60a94f9d33025c", func := "quorate/quoratelaw01.WireForth", spec := "wireForth", named := ["quorate/api.ErrRange", "quorate/api.ErrShort"], apart := false, laid := [("quorate/api.ErrRange", laid_quorate_api_ErrRange), ("quorate/api.ErrShort", laid_quorate_api_ErrShort)] }
def WireForthSaid : Prop := wireForthRow.holds Tryd.pinned (OpenSpec.ofChange wireForthSpec)

/-- ITS FALSE NEIGHBOUR: 'it returns false'. Refute it at one input. -/
def wireForthWrong : ChangeSpec := { name := "wireForth", fn := fun _ => fun
  | [d1, d2] => { results := [.lit (.bool false)], args := [d1, d2] }
  | _ => none }
def WireForthWrongFalsely : Prop := wireForthRow.holds Tryd.pinned (OpenSpec.ofChange wireForthWrong)

/-- 'quoratelaw01.WireWidths': WHATEVER THE INPUT: true; the input reads as it did. -/
def wireWidthsSpec : ChangeSpec := { name := "wireWidths", fn := fun _ => fun
  | [d1, d2, d3] => { results := [.lit (.bool true)], args := [d1, d2, d3] }
  | _ => none }
def wireWidthsRow : OpenClaim := { program := "ytadonpfpneanhaadoor", sum := "ff3cfb9523ec3b86796e0bda10074b2e2aa2d9655cf8728baa60a94f9d33025c", func := "quorate/quoratelaw01.WireWidths", spec := "wireWidths", inPlace := ["internal/reflectlite.TypeOf"], unfollowed := true, recurses := true, named := ["quorate/api.ErrRange", "quorate/api.ErrShort", "quorate/api.ErrLong", "quorate/api.ErrForm", "quorate/api.ErrSpent", "quorate/api.ErrPower", "quorate/api.ErrDisk", "quorate/api.ErrFull", "quorate/api.ErrNone", "quorate/api.ErrOld", "quorate/api.ErrSet", "quorate/api.ErrProof", "quorate/api.ErrLeader", "quorate/api.ErrRound", "quorate/api.ErrUnsafe", "quorate/api.ErrParent", "quorate/api.ErrTwice", "quorate/api.ErrEpoch"], apart := false, laid := [("quorate/api.ErrRange", laid_quorate_api_ErrRange), ("quorate/api.ErrShort", laid_quorate_api_ErrShort), ("quorate/api.ErrLong", laid_quorate_api_ErrLong), ("quorate/api.ErrForm", laid_quorate_api_ErrForm), ("quorate/api.ErrSpent", laid_quorate_api_ErrSpent), ("quorate/api.ErrPower", laid_quorate_api_ErrPower), ("quorate/api.ErrDisk", laid_quorate_api_ErrDisk), ("quorate/api.ErrFull", laid_quorate_api_ErrFull), ("quorate/api.ErrNone", laid_quorate_api_ErrNone), ("quorate/api.ErrOld", laid_quorate_api_ErrOld), ("quorate/api.ErrSet", laid_quorate_api_ErrSet), ("quorate/api.ErrProof", laid_quorate_api_ErrProof), ("quorate/api.ErrLeader", laid_quorate_api_ErrLeader), ("quorate/api.ErrRound", laid_quorate_api_ErrRound), ("quorate/api.ErrUnsafe", laid_quorate_api_ErrUnsafe), ("quorate/api.ErrParent", laid_quorate_api_ErrParent), ("quorate/api.ErrTwice", laid_quorate_api_ErrTwice), ("quorate/api.ErrEpoch", laid_quorate_api_ErrEpoch)] }
def WireWidthsSaid : Prop := wireWidthsRow.holds Tryd.pinned (OpenSpec.ofChange wireWidthsSpec)

/-- ITS FALSE NEIGHBOUR: 'it returns false'. Refute it at one input. -/
def wireWidthsWrong : ChangeSpec := { name := "wireWidths", fn := fun _ => fun
  | [d1, d2, d3] => { results := [.lit (.bool false)], args := [d1, d2, d3] }
  | _ => none }
def WireWidthsWrongFalsely : Prop := wireWidthsRow.holds Tryd.pinned (OpenSpec.ofChange wireWidthsWrong)

/-- 'quoratelaw13.RulesCovers': WHATEVER THE INPUT: true; the input reads as it did. -/
def rulesCoversSpec : ChangeSpec := { name := "rulesCovers", fn := fun _ => fun
  | [d1, d2, d3] => { results := [.lit (.bool true)], args := [d1, d2, d3] }
  | _ => none }
def rulesCoversRow : OpenClaim := { program := "ytadonpfpneanhaadoor", sum := "ff3cfb9523ec3b86796e0bda10074b2e2aa2d9655cf8728baa60a94f9d33025c", func := "quorate/quoratelaw13.RulesCovers", spec := "rulesCovers", inPlace := ["internal/reflectlite.TypeOf"], unfollowed := true, recurses := true, named := ["quorate/api.ErrRound", "quorate/api.ErrOld", "quorate/api.ErrUnsafe", "quorate/api.ErrForm", "quorate/api.ErrEpoch", "quorate/api.ErrSpent", "quorate/api.ErrRange", "quorate/api.ErrShort", "quorate/api.ErrLong", "quorate/api.ErrPower", "quorate/api.ErrDisk", "quorate/api.ErrFull", "quorate/api.ErrNone", "quorate/api.ErrSet", "quorate/api.ErrProof", "quorate/api.ErrLeader", "quorate/api.ErrParent", "quorate/api.ErrTwice"], apart := false, laid := [("quorate/api.ErrRange", laid_quorate_api_ErrRange), ("quorate/api.ErrShort", laid_quorate_api_ErrShort), ("quorate/api.ErrLong", laid_quorate_api_ErrLong), ("quorate/api.ErrForm", laid_quorate_api_ErrForm), ("quorate/api.ErrSpent", laid_quorate_api_ErrSpent), ("quorate/api.ErrPower", laid_quorate_api_ErrPower), ("quorate/api.ErrDisk", laid_quorate_api_ErrDisk), ("quorate/api.ErrFull", laid_quorate_api_ErrFull), ("quorate/api.ErrNone", laid_quorate_api_ErrNone), ("quorate/api.ErrOld", laid_quorate_api_ErrOld), ("quorate/api.ErrSet", laid_quorate_api_ErrSet), ("quorate/api.ErrProof", laid_quorate_api_ErrProof), ("quorate/api.ErrLeader", laid_quorate_api_ErrLeader), ("quorate/api.ErrRound", laid_quorate_api_ErrRound), ("quorate/api.ErrUnsafe", laid_quorate_api_ErrUnsafe), ("quorate/api.ErrParent", laid_quorate_api_ErrParent), ("quorate/api.ErrTwice", laid_quorate_api_ErrTwice), ("quorate/api.ErrEpoch", laid_quorate_api_ErrEpoch)] }
def RulesCoversSaid : Prop := rulesCoversRow.holds Tryd.pinned (OpenSpec.ofChange rulesCoversSpec)

/-- ITS FALSE NEIGHBOUR: 'it returns false'. Refute it at one input. -/
def rulesCoversWrong : ChangeSpec := { name := "rulesCovers", fn := fun _ => fun
  | [d1, d2, d3] => { results := [.lit (.bool false)], args := [d1, d2, d3] }
  | _ => none }
def RulesCoversWrongFalsely : Prop := rulesCoversRow.holds Tryd.pinned (OpenSpec.ofChange rulesCoversWrong)

/-- 'quoratelaw01.WireWrites': WHATEVER THE INPUT: true; the input reads as it did. -/
def wireWritesSpec : ChangeSpec := { name := "wireWrites", fn := fun _ => fun
  | [d] => { results := [.lit (.bool true)], args := [d] }
  | _ => none }
def wireWritesRow : OpenClaim := { program := "ytadonpfpneanhaadoor", sum := "ff3cfb9523ec3b86796e0bda10074b2e2aa2d9655cf8728baa60a94f9d33025c", func := "quorate/quoratelaw01.WireWrites", spec := "wireWrites", inPlace := ["internal/reflectlite.TypeOf"], unfollowed := true, recurses := true, named := ["quorate/api.ErrRange", "quorate/api.ErrOld", "quorate/api.ErrShort", "quorate/api.ErrLong", "quorate/api.ErrForm", "quorate/api.ErrSpent", "quorate/api.ErrPower", "quorate/api.ErrDisk", "quorate/api.ErrFull", "quorate/api.ErrNone", "quorate/api.ErrSet", "quorate/api.ErrProof", "quorate/api.ErrLeader", "quorate/api.ErrRound", "quorate/api.ErrUnsafe", "quorate/api.ErrParent", "quorate/api.ErrTwice", "quorate/api.ErrEpoch"], apart := false, laid := [("quorate/api.ErrRange", laid_quorate_api_ErrRange), ("quorate/api.ErrShort", laid_quorate_api_ErrShort), ("quorate/api.ErrLong", laid_quorate_api_ErrLong), ("quorate/api.ErrForm", laid_quorate_api_ErrForm), ("quorate/api.ErrSpent", laid_quorate_api_ErrSpent), ("quorate/api.ErrPower", laid_quorate_api_ErrPower), ("quorate/api.ErrDisk", laid_quorate_api_ErrDisk), ("quorate/api.ErrFull", laid_quorate_api_ErrFull), ("quorate/api.ErrNone", laid_quorate_api_ErrNone), ("quorate/api.ErrOld", laid_quorate_api_ErrOld), ("quorate/api.ErrSet", laid_quorate_api_ErrSet), ("quorate/api.ErrProof", laid_quorate_api_ErrProof), ("quorate/api.ErrLeader", laid_quorate_api_ErrLeader), ("quorate/api.ErrRound", laid_quorate_api_ErrRound), ("quorate/api.ErrUnsafe", laid_quorate_api_ErrUnsafe), ("quorate/api.ErrParent", laid_quorate_api_ErrParent), ("quorate/api.ErrTwice", laid_quorate_api_ErrTwice), ("quorate/api.ErrEpoch", laid_quorate_api_ErrEpoch)] }
def WireWritesSaid : Prop := wireWritesRow.holds Tryd.pinned (OpenSpec.ofChange wireWritesSpec)

/-- ITS FALSE NEIGHBOUR: 'it returns false'. Refute it at one input. -/
def wireWritesWrong : ChangeSpec := { name := "wireWrites", fn := fun _ => fun
  | [d] => { results := [.lit (.bool false)], args := [d] }
  | _ => none }
def WireWritesWrongFalsely : Prop := wireWritesRow.holds Tryd.pinned (OpenSpec.ofChange wireWritesWrong)

/-- 'quoratelaw01.WireNests': WHATEVER THE INPUT: true; the input reads as it did. -/
def wireNestsSpec : ChangeSpec := { name := "wireNests", fn := fun _ => fun
  | [d] => { results := [.lit (.bool true)], args := [d] }
  | _ => none }
def wireNestsRow : OpenClaim := { program := "ytadonpfpneanhaadoor", sum := "ff3cfb9523ec3b86796e0bda10074b2e2aa2d9655cf8728baa60a94f9d33025c", func := "quorate/quoratelaw01.WireNests", spec := "wireNests", unfollowed := true, recurses := true, named := ["quorate/api.ErrRange", "quorate/api.ErrShort", "quorate/api.ErrLong"], apart := false, laid := [("quorate/api.ErrRange", laid_quorate_api_ErrRange), ("quorate/api.ErrShort", laid_quorate_api_ErrShort), ("quorate/api.ErrLong", laid_quorate_api_ErrLong)] }
def WireNestsSaid : Prop := wireNestsRow.holds Tryd.pinned (OpenSpec.ofChange wireNestsSpec)

/-- ITS FALSE NEIGHBOUR: 'it returns false'. Refute it at one input. -/
def wireNestsWrong : ChangeSpec := { name := "wireNests", fn := fun _ => fun
  | [d] => { results := [.lit (.bool false)], args := [d] }
  | _ => none }
def WireNestsWrongFalsely : Prop := wireNestsRow.holds Tryd.pinned (OpenSpec.ofChange wireNestsWrong)

/-- 'quoratelaw13.RulesSteps': WHATEVER THE INPUT: true; the input reads as it did. -/
def rulesStepsSpec : ChangeSpec := { name := "rulesSteps", fn := fun _ => fun
  | [d1, d2] => { results := [.lit (.bool true)], args := [d1, d2] }
  | _ => none }
def rulesStepsRow : OpenClaim := { program := "ytadonpfpneanhaadoor", sum := "ff3cfb9523ec3b86796e0bda10074b2e2aa2d9655cf8728baa60a94f9d33025c", func := "quorate/quoratelaw13.RulesSteps", spec := "rulesSteps", inPlace := ["internal/reflectlite.TypeOf"], unfollowed := true, recurses := true, named := ["quorate/api.ErrRound", "quorate/api.ErrOld", "quorate/api.ErrUnsafe", "quorate/api.ErrForm", "quorate/api.ErrEpoch", "quorate/api.ErrSpent", "quorate/api.ErrRange", "quorate/api.ErrShort", "quorate/api.ErrLong", "quorate/api.ErrPower", "quorate/api.ErrDisk", "quorate/api.ErrFull", "quorate/api.ErrNone", "quorate/api.ErrSet", "quorate/api.ErrProof", "quorate/api.ErrLeader", "quorate/api.ErrParent", "quorate/api.ErrTwice"], apart := false, laid := [("quorate/api.ErrRange", laid_quorate_api_ErrRange), ("quorate/api.ErrShort", laid_quorate_api_ErrShort), ("quorate/api.ErrLong", laid_quorate_api_ErrLong), ("quorate/api.ErrForm", laid_quorate_api_ErrForm), ("quorate/api.ErrSpent", laid_quorate_api_ErrSpent), ("quorate/api.ErrPower", laid_quorate_api_ErrPower), ("quorate/api.ErrDisk", laid_quorate_api_ErrDisk), ("quorate/api.ErrFull", laid_quorate_api_ErrFull), ("quorate/api.ErrNone", laid_quorate_api_ErrNone), ("quorate/api.ErrOld", laid_quorate_api_ErrOld), ("quorate/api.ErrSet", laid_quorate_api_ErrSet), ("quorate/api.ErrProof", laid_quorate_api_ErrProof), ("quorate/api.ErrLeader", laid_quorate_api_ErrLeader), ("quorate/api.ErrRound", laid_quorate_api_ErrRound), ("quorate/api.ErrUnsafe", laid_quorate_api_ErrUnsafe), ("quorate/api.ErrParent", laid_quorate_api_ErrParent), ("quorate/api.ErrTwice", laid_quorate_api_ErrTwice), ("quorate/api.ErrEpoch", laid_quorate_api_ErrEpoch)] }
def RulesStepsSaid : Prop := rulesStepsRow.holds Tryd.pinned (OpenSpec.ofChange rulesStepsSpec)

/-- ITS FALSE NEIGHBOUR: 'it returns false'. Refute it at one input. -/
def rulesStepsWrong : ChangeSpec := { name := "rulesSteps", fn := fun _ => fun
  | [d1, d2] => { results := [.lit (.bool false)], args := [d1, d2] }
  | _ => none }
def RulesStepsWrongFalsely : Prop := rulesStepsRow.holds Tryd.pinned (OpenSpec.ofChange rulesStepsWrong)

/-- 'quoratelaw13.RulesOnce': WHATEVER THE INPUT: true; the input reads as it did. -/
def rulesOnceSpec : ChangeSpec := { name := "rulesOnce", fn := fun _ => fun
  | [d] => { results := [.lit (.bool true)], args := [d] }
  | _ => none }
def rulesOnceRow : OpenClaim := { program := "ytadonpfpneanhaadoor", sum := "ff3cfb9523ec3b86796e0bda10074b2e2aa2d9655cf8728baa60a94f9d33025c", func := "quorate/quoratelaw13.RulesOnce", spec := "rulesOnce", inPlace := ["internal/reflectlite.TypeOf"], unfollowed := true, recurses := true, named := ["quorate/api.ErrRound", "quorate/api.ErrOld", "quorate/api.ErrUnsafe", "quorate/api.ErrForm", "quorate/api.ErrEpoch", "quorate/api.ErrSpent", "quorate/api.ErrRange", "quorate/api.ErrShort", "quorate/api.ErrLong", "quorate/api.ErrPower", "quorate/api.ErrDisk", "quorate/api.ErrFull", "quorate/api.ErrNone", "quorate/api.ErrSet", "quorate/api.ErrProof", "quorate/api.ErrLeader", "quorate/api.ErrParent", "quorate/api.ErrTwice"], apart := false, laid := [("quorate/api.ErrRange", laid_quorate_api_ErrRange), ("quorate/api.ErrShort", laid_quorate_api_ErrShort), ("quorate/api.ErrLong", laid_quorate_api_ErrLong), ("quorate/api.ErrForm", laid_quorate_api_ErrForm), ("quorate/api.ErrSpent", laid_quorate_api_ErrSpent), ("quorate/api.ErrPower", laid_quorate_api_ErrPower), ("quorate/api.ErrDisk", laid_quorate_api_ErrDisk), ("quorate/api.ErrFull", laid_quorate_api_ErrFull), ("quorate/api.ErrNone", laid_quorate_api_ErrNone), ("quorate/api.ErrOld", laid_quorate_api_ErrOld), ("quorate/api.ErrSet", laid_quorate_api_ErrSet), ("quorate/api.ErrProof", laid_quorate_api_ErrProof), ("quorate/api.ErrLeader", laid_quorate_api_ErrLeader), ("quorate/api.ErrRound", laid_quorate_api_ErrRound), ("quorate/api.ErrUnsafe", laid_quorate_api_ErrUnsafe), ("quorate/api.ErrParent", laid_quorate_api_ErrParent), ("quorate/api.ErrTwice", laid_quorate_api_ErrTwice), ("quorate/api.ErrEpoch", laid_quorate_api_ErrEpoch)] }
def RulesOnceSaid : Prop := rulesOnceRow.holds Tryd.pinned (OpenSpec.ofChange rulesOnceSpec)

/-- ITS FALSE NEIGHBOUR: 'it returns false'. Refute it at one input. -/
def rulesOnceWrong : ChangeSpec := { name := "rulesOnce", fn := fun _ => fun
  | [d] => { results := [.lit (.bool false)], args := [d] }
  | _ => none }
def RulesOnceWrongFalsely : Prop := rulesOnceRow.holds Tryd.pinned (OpenSpec.ofChange rulesOnceWrong)

/-- 'quoratelaw13.RulesLocks': WHATEVER THE INPUT: true; the input reads as it did. -/
def rulesLocksSpec : ChangeSpec := { name := "rulesLocks", fn := fun _ => fun
  | [d1, d2, d3] => { results := [.lit (.bool true)], args := [d1, d2, d3] }
  | _ => none }
def rulesLocksRow : OpenClaim := { program := "ytadonpfpneanhaadoor", sum := "ff3cfb9523ec3b86796e0bda10074b2e2aa2d9655cf8728baa60a94f9d33025c", func := "quorate/quoratelaw13.RulesLocks", spec := "rulesLocks", inPlace := ["internal/reflectlite.TypeOf"], unfollowed := true, recurses := true, named := ["quorate/api.ErrRound", "quorate/api.ErrOld", "quorate/api.ErrUnsafe", "quorate/api.ErrForm", "quorate/api.ErrEpoch", "quorate/api.ErrSpent", "quorate/api.ErrRange", "quorate/api.ErrShort", "quorate/api.ErrLong", "quorate/api.ErrPower", "quorate/api.ErrDisk", "quorate/api.ErrFull", "quorate/api.ErrNone", "quorate/api.ErrSet", "quorate/api.ErrProof", "quorate/api.ErrLeader", "quorate/api.ErrParent", "quorate/api.ErrTwice"], apart := false, laid := [("quorate/api.ErrRange", laid_quorate_api_ErrRange), ("quorate/api.ErrShort", laid_quorate_api_ErrShort), ("quorate/api.ErrLong", laid_quorate_api_ErrLong), ("quorate/api.ErrForm", laid_quorate_api_ErrForm), ("quorate/api.ErrSpent", laid_quorate_api_ErrSpent), ("quorate/api.ErrPower", laid_quorate_api_ErrPower), ("quorate/api.ErrDisk", laid_quorate_api_ErrDisk), ("quorate/api.ErrFull", laid_quorate_api_ErrFull), ("quorate/api.ErrNone", laid_quorate_api_ErrNone), ("quorate/api.ErrOld", laid_quorate_api_ErrOld), ("quorate/api.ErrSet", laid_quorate_api_ErrSet), ("quorate/api.ErrProof", laid_quorate_api_ErrProof), ("quorate/api.ErrLeader", laid_quorate_api_ErrLeader), ("quorate/api.ErrRound", laid_quorate_api_ErrRound), ("quorate/api.ErrUnsafe", laid_quorate_api_ErrUnsafe), ("quorate/api.ErrParent", laid_quorate_api_ErrParent), ("quorate/api.ErrTwice", laid_quorate_api_ErrTwice), ("quorate/api.ErrEpoch", laid_quorate_api_ErrEpoch)] }
def RulesLocksSaid : Prop := rulesLocksRow.holds Tryd.pinned (OpenSpec.ofChange rulesLocksSpec)

/-- ITS FALSE NEIGHBOUR: 'it returns false'. Refute it at one input. -/
def rulesLocksWrong : ChangeSpec := { name := "rulesLocks", fn := fun _ => fun
  | [d1, d2, d3] => { results := [.lit (.bool false)], args := [d1, d2, d3] }
  | _ => none }
def RulesLocksWrongFalsely : Prop := rulesLocksRow.holds Tryd.pinned (OpenSpec.ofChange rulesLocksWrong)

/-- 'quoratelaw13.RulesApart': WHATEVER THE INPUT: true; the input reads as it did. -/
def rulesApartSpec : ChangeSpec := { name := "rulesApart", fn := fun _ => fun
  | [d1, d2] => { results := [.lit (.bool true)], args := [d1, d2] }
  | _ => none }
def rulesApartRow : OpenClaim := { program := "ytadonpfpneanhaadoor", sum := "ff3cfb9523ec3b86796e0bda10074b2e2aa2d9655cf8728baa60a94f9d33025c", func := "quorate/quoratelaw13.RulesApart", spec := "rulesApart", inPlace := ["internal/reflectlite.TypeOf"], unfollowed := true, recurses := true, named := ["quorate/api.ErrRound", "quorate/api.ErrOld", "quorate/api.ErrUnsafe", "quorate/api.ErrForm", "quorate/api.ErrEpoch", "quorate/api.ErrSpent", "quorate/api.ErrRange", "quorate/api.ErrShort", "quorate/api.ErrLong", "quorate/api.ErrPower", "quorate/api.ErrDisk", "quorate/api.ErrFull", "quorate/api.ErrNone", "quorate/api.ErrSet", "quorate/api.ErrProof", "quorate/api.ErrLeader", "quorate/api.ErrParent", "quorate/api.ErrTwice"], apart := false, laid := [("quorate/api.ErrRange", laid_quorate_api_ErrRange), ("quorate/api.ErrShort", laid_quorate_api_ErrShort), ("quorate/api.ErrLong", laid_quorate_api_ErrLong), ("quorate/api.ErrForm", laid_quorate_api_ErrForm), ("quorate/api.ErrSpent", laid_quorate_api_ErrSpent), ("quorate/api.ErrPower", laid_quorate_api_ErrPower), ("quorate/api.ErrDisk", laid_quorate_api_ErrDisk), ("quorate/api.ErrFull", laid_quorate_api_ErrFull), ("quorate/api.ErrNone", laid_quorate_api_ErrNone), ("quorate/api.ErrOld", laid_quorate_api_ErrOld), ("quorate/api.ErrSet", laid_quorate_api_ErrSet), ("quorate/api.ErrProof", laid_quorate_api_ErrProof), ("quorate/api.ErrLeader", laid_quorate_api_ErrLeader), ("quorate/api.ErrRound", laid_quorate_api_ErrRound), ("quorate/api.ErrUnsafe", laid_quorate_api_ErrUnsafe), ("quorate/api.ErrParent", laid_quorate_api_ErrParent), ("quorate/api.ErrTwice", laid_quorate_api_ErrTwice), ("quorate/api.ErrEpoch", laid_quorate_api_ErrEpoch)] }
def RulesApartSaid : Prop := rulesApartRow.holds Tryd.pinned (OpenSpec.ofChange rulesApartSpec)

/-- ITS FALSE NEIGHBOUR: 'it returns false'. Refute it at one input. -/
def rulesApartWrong : ChangeSpec := { name := "rulesApart", fn := fun _ => fun
  | [d1, d2] => { results := [.lit (.bool false)], args := [d1, d2] }
  | _ => none }
def RulesApartWrongFalsely : Prop := rulesApartRow.holds Tryd.pinned (OpenSpec.ofChange rulesApartWrong)

/-- 'quoratelaw13.RulesRows': WHATEVER THE INPUT: true; the input reads as it did. -/
def rulesRowsSpec : ChangeSpec := { name := "rulesRows", fn := fun _ => fun
  | [d] => { results := [.lit (.bool true)], args := [d] }
  | _ => none }
def rulesRowsRow : OpenClaim := { program := "ytadonpfpneanhaadoor", sum := "ff3cfb9523ec3b86796e0bda10074b2e2aa2d9655cf8728baa60a94f9d33025c", func := "quorate/quoratelaw13.RulesRows", spec := "rulesRows", inPlace := ["internal/reflectlite.TypeOf"], unfollowed := true, recurses := true, named := ["quorate/api.ErrRound", "quorate/api.ErrOld", "quorate/api.ErrUnsafe", "quorate/api.ErrForm", "quorate/api.ErrEpoch", "quorate/api.ErrSpent", "quorate/api.ErrRange", "quorate/api.ErrShort", "quorate/api.ErrLong", "quorate/api.ErrPower", "quorate/api.ErrDisk", "quorate/api.ErrFull", "quorate/api.ErrNone", "quorate/api.ErrSet", "quorate/api.ErrProof", "quorate/api.ErrLeader", "quorate/api.ErrParent", "quorate/api.ErrTwice"], apart := false, laid := [("quorate/api.ErrRange", laid_quorate_api_ErrRange), ("quorate/api.ErrShort", laid_quorate_api_ErrShort), ("quorate/api.ErrLong", laid_quorate_api_ErrLong), ("quorate/api.ErrForm", laid_quorate_api_ErrForm), ("quorate/api.ErrSpent", laid_quorate_api_ErrSpent), ("quorate/api.ErrPower", laid_quorate_api_ErrPower), ("quorate/api.ErrDisk", laid_quorate_api_ErrDisk), ("quorate/api.ErrFull", laid_quorate_api_ErrFull), ("quorate/api.ErrNone", laid_quorate_api_ErrNone), ("quorate/api.ErrOld", laid_quorate_api_ErrOld), ("quorate/api.ErrSet", laid_quorate_api_ErrSet), ("quorate/api.ErrProof", laid_quorate_api_ErrProof), ("quorate/api.ErrLeader", laid_quorate_api_ErrLeader), ("quorate/api.ErrRound", laid_quorate_api_ErrRound), ("quorate/api.ErrUnsafe", laid_quorate_api_ErrUnsafe), ("quorate/api.ErrParent", laid_quorate_api_ErrParent), ("quorate/api.ErrTwice", laid_quorate_api_ErrTwice), ("quorate/api.ErrEpoch", laid_quorate_api_ErrEpoch)] }
def RulesRowsSaid : Prop := rulesRowsRow.holds Tryd.pinned (OpenSpec.ofChange rulesRowsSpec)

/-- ITS FALSE NEIGHBOUR: 'it returns false'. Refute it at one input. -/
def rulesRowsWrong : ChangeSpec := { name := "rulesRows", fn := fun _ => fun
  | [d] => { results := [.lit (.bool false)], args := [d] }
  | _ => none }
def RulesRowsWrongFalsely : Prop := rulesRowsRow.holds Tryd.pinned (OpenSpec.ofChange rulesRowsWrong)

/-- 'quoratelaw01.WireBack': WHATEVER THE INPUT: true; the input reads as it did. -/
def wireBackSpec : ChangeSpec := { name := "wireBack", fn := fun _ => fun
  | [d] => { results := [.lit (.bool true)], args := [d] }
  | _ => none }
def wireBackRow : OpenClaim := { program := "ytadonpfpneanhaadoor", sum := "ff3cfb9523ec3b86796e0bda10074b2e2aa2d9655cf8728baa60a94f9d33025c", func := "quorate/quoratelaw01.WireBack", spec := "wireBack", unfollowed := true, recurses := true, named := ["quorate/api.ErrRange", "quorate/api.ErrOld", "quorate/api.ErrShort", "quorate/api.ErrForm", "quorate/api.ErrLong"], apart := false, laid := [("quorate/api.ErrRange", laid_quorate_api_ErrRange), ("quorate/api.ErrShort", laid_quorate_api_ErrShort), ("quorate/api.ErrLong", laid_quorate_api_ErrLong), ("quorate/api.ErrForm", laid_quorate_api_ErrForm), ("quorate/api.ErrOld", laid_quorate_api_ErrOld)] }
def WireBackSaid : Prop := wireBackRow.holds Tryd.pinned (OpenSpec.ofChange wireBackSpec)

/-- ITS FALSE NEIGHBOUR: 'it returns false'. Refute it at one input. -/
def wireBackWrong : ChangeSpec := { name := "wireBack", fn := fun _ => fun
  | [d] => { results := [.lit (.bool false)], args := [d] }
  | _ => none }
def WireBackWrongFalsely : Prop := wireBackRow.holds Tryd.pinned (OpenSpec.ofChange wireBackWrong)

/-- 'quoratelaw01.WireReads': WHATEVER THE INPUT: true; the input reads as it did. -/
def wireReadsSpec : ChangeSpec := { name := "wireReads", fn := fun _ => fun
  | [d1, d2] => { results := [.lit (.bool true)], args := [d1, d2] }
  | _ => none }
def wireReadsRow : OpenClaim := { program := "ytadonpfpneanhaadoor", sum := "ff3cfb9523ec3b86796e0bda10074b2e2aa2d9655cf8728baa60a94f9d33025c", func := "quorate/quoratelaw01.WireReads", spec := "wireReads", inPlace := ["internal/reflectlite.TypeOf"], unfollowed := true, recurses := true, named := ["quorate/api.ErrRange", "quorate/api.ErrOld", "quorate/api.ErrShort", "quorate/api.ErrForm", "quorate/api.ErrLong", "quorate/api.ErrSpent", "quorate/api.ErrPower", "quorate/api.ErrDisk", "quorate/api.ErrFull", "quorate/api.ErrNone", "quorate/api.ErrSet", "quorate/api.ErrProof", "quorate/api.ErrLeader", "quorate/api.ErrRound", "quorate/api.ErrUnsafe", "quorate/api.ErrParent", "quorate/api.ErrTwice", "quorate/api.ErrEpoch"], apart := false, laid := [("quorate/api.ErrRange", laid_quorate_api_ErrRange), ("quorate/api.ErrShort", laid_quorate_api_ErrShort), ("quorate/api.ErrLong", laid_quorate_api_ErrLong), ("quorate/api.ErrForm", laid_quorate_api_ErrForm), ("quorate/api.ErrSpent", laid_quorate_api_ErrSpent), ("quorate/api.ErrPower", laid_quorate_api_ErrPower), ("quorate/api.ErrDisk", laid_quorate_api_ErrDisk), ("quorate/api.ErrFull", laid_quorate_api_ErrFull), ("quorate/api.ErrNone", laid_quorate_api_ErrNone), ("quorate/api.ErrOld", laid_quorate_api_ErrOld), ("quorate/api.ErrSet", laid_quorate_api_ErrSet), ("quorate/api.ErrProof", laid_quorate_api_ErrProof), ("quorate/api.ErrLeader", laid_quorate_api_ErrLeader), ("quorate/api.ErrRound", laid_quorate_api_ErrRound), ("quorate/api.ErrUnsafe", laid_quorate_api_ErrUnsafe), ("quorate/api.ErrParent", laid_quorate_api_ErrParent), ("quorate/api.ErrTwice", laid_quorate_api_ErrTwice), ("quorate/api.ErrEpoch", laid_quorate_api_ErrEpoch)] }
def WireReadsSaid : Prop := wireReadsRow.holds Tryd.pinned (OpenSpec.ofChange wireReadsSpec)

/-- ITS FALSE NEIGHBOUR: 'it returns false'. Refute it at one input. -/
def wireReadsWrong : ChangeSpec := { name := "wireReads", fn := fun _ => fun
  | [d1, d2] => { results := [.lit (.bool false)], args := [d1, d2] }
  | _ => none }
def WireReadsWrongFalsely : Prop := wireReadsRow.holds Tryd.pinned (OpenSpec.ofChange wireReadsWrong)

/-- 'quoratelaw01.WireStops': WHATEVER THE INPUT: true; the input reads as it did. -/
def wireStopsSpec : ChangeSpec := { name := "wireStops", fn := fun _ => fun
  | [d1, d2] => { results := [.lit (.bool true)], args := [d1, d2] }
  | _ => none }
def wireStopsRow : OpenClaim := { program := "ytadonpfpneanhaadoor", sum := "ff3cfb9523ec3b86796e0bda10074b2e2aa2d9655cf8728baa60a94f9d33025c", func := "quorate/quoratelaw01.WireStops", spec := "wireStops", inPlace := ["internal/reflectlite.TypeOf"], unfollowed := true, recurses := true, named := ["quorate/api.ErrOld", "quorate/api.ErrRound", "quorate/api.ErrRange", "quorate/api.ErrShort", "quorate/api.ErrForm", "quorate/api.ErrLong", "quorate/api.ErrSpent", "quorate/api.ErrPower", "quorate/api.ErrDisk", "quorate/api.ErrFull", "quorate/api.ErrNone", "quorate/api.ErrSet", "quorate/api.ErrProof", "quorate/api.ErrLeader", "quorate/api.ErrUnsafe", "quorate/api.ErrParent", "quorate/api.ErrTwice", "quorate/api.ErrEpoch"], apart := false, laid := [("quorate/api.ErrRange", laid_quorate_api_ErrRange), ("quorate/api.ErrShort", laid_quorate_api_ErrShort), ("quorate/api.ErrLong", laid_quorate_api_ErrLong), ("quorate/api.ErrForm", laid_quorate_api_ErrForm), ("quorate/api.ErrSpent", laid_quorate_api_ErrSpent), ("quorate/api.ErrPower", laid_quorate_api_ErrPower), ("quorate/api.ErrDisk", laid_quorate_api_ErrDisk), ("quorate/api.ErrFull", laid_quorate_api_ErrFull), ("quorate/api.ErrNone", laid_quorate_api_ErrNone), ("quorate/api.ErrOld", laid_quorate_api_ErrOld), ("quorate/api.ErrSet", laid_quorate_api_ErrSet), ("quorate/api.ErrProof", laid_quorate_api_ErrProof), ("quorate/api.ErrLeader", laid_quorate_api_ErrLeader), ("quorate/api.ErrRound", laid_quorate_api_ErrRound), ("quorate/api.ErrUnsafe", laid_quorate_api_ErrUnsafe), ("quorate/api.ErrParent", laid_quorate_api_ErrParent), ("quorate/api.ErrTwice", laid_quorate_api_ErrTwice), ("quorate/api.ErrEpoch", laid_quorate_api_ErrEpoch)] }
def WireStopsSaid : Prop := wireStopsRow.holds Tryd.pinned (OpenSpec.ofChange wireStopsSpec)

/-- ITS FALSE NEIGHBOUR: 'it returns false'. Refute it at one input. -/
def wireStopsWrong : ChangeSpec := { name := "wireStops", fn := fun _ => fun
  | [d1, d2] => { results := [.lit (.bool false)], args := [d1, d2] }
  | _ => none }
def WireStopsWrongFalsely : Prop := wireStopsRow.holds Tryd.pinned (OpenSpec.ofChange wireStopsWrong)

/-- 'quoratelaw13.RulesBytes': WHATEVER THE INPUT: true; the input reads as it did. -/
def rulesBytesSpec : ChangeSpec := { name := "rulesBytes", fn := fun _ => fun
  | [d1, d2] => { results := [.lit (.bool true)], args := [d1, d2] }
  | _ => none }
def rulesBytesRow : OpenClaim := { program := "ytadonpfpneanhaadoor", sum := "ff3cfb9523ec3b86796e0bda10074b2e2aa2d9655cf8728baa60a94f9d33025c", func := "quorate/quoratelaw13.RulesBytes", spec := "rulesBytes", inPlace := ["internal/reflectlite.TypeOf"], unfollowed := true, recurses := true, named := ["quorate/api.ErrRound", "quorate/api.ErrOld", "quorate/api.ErrUnsafe", "quorate/api.ErrForm", "quorate/api.ErrEpoch", "quorate/api.ErrSpent", "quorate/api.ErrRange", "quorate/api.ErrShort", "quorate/api.ErrLong", "quorate/api.ErrPower", "quorate/api.ErrDisk", "quorate/api.ErrFull", "quorate/api.ErrNone", "quorate/api.ErrSet", "quorate/api.ErrProof", "quorate/api.ErrLeader", "quorate/api.ErrParent", "quorate/api.ErrTwice"], apart := false, laid := [("quorate/api.ErrRange", laid_quorate_api_ErrRange), ("quorate/api.ErrShort", laid_quorate_api_ErrShort), ("quorate/api.ErrLong", laid_quorate_api_ErrLong), ("quorate/api.ErrForm", laid_quorate_api_ErrForm), ("quorate/api.ErrSpent", laid_quorate_api_ErrSpent), ("quorate/api.ErrPower", laid_quorate_api_ErrPower), ("quorate/api.ErrDisk", laid_quorate_api_ErrDisk), ("quorate/api.ErrFull", laid_quorate_api_ErrFull), ("quorate/api.ErrNone", laid_quorate_api_ErrNone), ("quorate/api.ErrOld", laid_quorate_api_ErrOld), ("quorate/api.ErrSet", laid_quorate_api_ErrSet), ("quorate/api.ErrProof", laid_quorate_api_ErrProof), ("quorate/api.ErrLeader", laid_quorate_api_ErrLeader), ("quorate/api.ErrRound", laid_quorate_api_ErrRound), ("quorate/api.ErrUnsafe", laid_quorate_api_ErrUnsafe), ("quorate/api.ErrParent", laid_quorate_api_ErrParent), ("quorate/api.ErrTwice", laid_quorate_api_ErrTwice), ("quorate/api.ErrEpoch", laid_quorate_api_ErrEpoch)] }
def RulesBytesSaid : Prop := rulesBytesRow.holds Tryd.pinned (OpenSpec.ofChange rulesBytesSpec)

/-- ITS FALSE NEIGHBOUR: 'it returns false'. Refute it at one input. -/
def rulesBytesWrong : ChangeSpec := { name := "rulesBytes", fn := fun _ => fun
  | [d1, d2] => { results := [.lit (.bool false)], args := [d1, d2] }
  | _ => none }
def RulesBytesWrongFalsely : Prop := rulesBytesRow.holds Tryd.pinned (OpenSpec.ofChange rulesBytesWrong)

/- THE SECOND FORM. 'bulk': how many values and letters a reading holds, each counted each time it is reached (what is shared counts as often as it is met; a slice's spare places count too). A statement '..UptoSaid' is the law's where the arguments, and the package variables that the reading takes, are together of bulk at most 1048576: NARROWER than '..Said'. Prove '..Said' where nothing that the law and all that it calls make is longer than what came in: it says more and counts as full. Else prove '..UptoSaid'. A law counts once. -/
mutual
def uptoBulk {H : Type} : DataW H → Nat
  | .lit (.string bytes) => bytes.length + 1
  | .lit _ => 1
  | .nil => 1
  | .ptr d => uptoBulk d + 1
  | .slice elems spare => uptoBulkAll elems + uptoBulkAll spare + 1
  | .agg parts => uptoBulkAll parts + 1
  | .iface _ d => uptoBulk d + 1
  | .map entries => uptoBulkEntries entries + 1
  | .held _ => 1
def uptoBulkAll {H : Type} : List (DataW H) → Nat
  | [] => 0
  | d :: r => uptoBulk d + uptoBulkAll r
def uptoBulkEntries {H : Type} : List (Lit × DataW H) → Nat
  | [] => 0
  | x :: r => uptoBulkEntry x + uptoBulkEntries r
def uptoBulkEntry {H : Type} : Lit × DataW H → Nat
  | (.string bytes, d) => bytes.length + uptoBulk d + 1
  | (_, d) => uptoBulk d + 1
 end
def uptoSmall : (H : Type) → List (DataW H) → Bool := fun _ ds => decide (uptoBulkAll ds ≤ 1048576)
def OpenSpec.upto (s : _root_.Go.ChangeSpec) : _root_.Go.OpenSpec := { _root_.Go.OpenSpec.ofChange s with cond := some uptoSmall }

/-- 'quoratelaw01.WireForth', WHERE WHAT IT READS IS OF BULK AT MOST 1048576: true; the input reads as it did. -/
def wireForthUptoRow : OpenClaim := { program := "ytadonpfpneanhaadoor", sum := "ff3cfb9523ec3b86796e0bda10074b2e2aa2d9655cf8728baa60a94f9d33025c", func := "quorate/quoratelaw01.WireForth", spec := "wireForth", named := ["quorate/api.ErrRange", "quorate/api.ErrShort"], apart := false, laid := [("quorate/api.ErrRange", laid_quorate_api_ErrRange), ("quorate/api.ErrShort", laid_quorate_api_ErrShort)], narrowed := true }
def WireForthUptoSaid : Prop := wireForthUptoRow.holds Tryd.pinned (OpenSpec.upto wireForthSpec)

/-- 'quoratelaw01.WireWidths', WHERE WHAT IT READS IS OF BULK AT MOST 1048576: true; the input reads as it did. -/
def wireWidthsUptoRow : OpenClaim := { program := "ytadonpfpneanhaadoor", sum := "ff3cfb9523ec3b86796e0bda10074b2e2aa2d9655cf8728baa60a94f9d33025c", func := "quorate/quoratelaw01.WireWidths", spec := "wireWidths", inPlace := ["internal/reflectlite.TypeOf"], unfollowed := true, recurses := true, named := ["quorate/api.ErrRange", "quorate/api.ErrShort", "quorate/api.ErrLong", "quorate/api.ErrForm", "quorate/api.ErrSpent", "quorate/api.ErrPower", "quorate/api.ErrDisk", "quorate/api.ErrFull", "quorate/api.ErrNone", "quorate/api.ErrOld", "quorate/api.ErrSet", "quorate/api.ErrProof", "quorate/api.ErrLeader", "quorate/api.ErrRound", "quorate/api.ErrUnsafe", "quorate/api.ErrParent", "quorate/api.ErrTwice", "quorate/api.ErrEpoch"], apart := false, laid := [("quorate/api.ErrRange", laid_quorate_api_ErrRange), ("quorate/api.ErrShort", laid_quorate_api_ErrShort), ("quorate/api.ErrLong", laid_quorate_api_ErrLong), ("quorate/api.ErrForm", laid_quorate_api_ErrForm), ("quorate/api.ErrSpent", laid_quorate_api_ErrSpent), ("quorate/api.ErrPower", laid_quorate_api_ErrPower), ("quorate/api.ErrDisk", laid_quorate_api_ErrDisk), ("quorate/api.ErrFull", laid_quorate_api_ErrFull), ("quorate/api.ErrNone", laid_quorate_api_ErrNone), ("quorate/api.ErrOld", laid_quorate_api_ErrOld), ("quorate/api.ErrSet", laid_quorate_api_ErrSet), ("quorate/api.ErrProof", laid_quorate_api_ErrProof), ("quorate/api.ErrLeader", laid_quorate_api_ErrLeader), ("quorate/api.ErrRound", laid_quorate_api_ErrRound), ("quorate/api.ErrUnsafe", laid_quorate_api_ErrUnsafe), ("quorate/api.ErrParent", laid_quorate_api_ErrParent), ("quorate/api.ErrTwice", laid_quorate_api_ErrTwice), ("quorate/api.ErrEpoch", laid_quorate_api_ErrEpoch)], narrowed := true }
def WireWidthsUptoSaid : Prop := wireWidthsUptoRow.holds Tryd.pinned (OpenSpec.upto wireWidthsSpec)

/-- 'quoratelaw13.RulesCovers', WHERE WHAT IT READS IS OF BULK AT MOST 1048576: true; the input reads as it did. -/
def rulesCoversUptoRow : OpenClaim := { program := "ytadonpfpneanhaadoor", sum := "ff3cfb9523ec3b86796e0bda10074b2e2aa2d9655cf8728baa60a94f9d33025c", func := "quorate/quoratelaw13.RulesCovers", spec := "rulesCovers", inPlace := ["internal/reflectlite.TypeOf"], unfollowed := true, recurses := true, named := ["quorate/api.ErrRound", "quorate/api.ErrOld", "quorate/api.ErrUnsafe", "quorate/api.ErrForm", "quorate/api.ErrEpoch", "quorate/api.ErrSpent", "quorate/api.ErrRange", "quorate/api.ErrShort", "quorate/api.ErrLong", "quorate/api.ErrPower", "quorate/api.ErrDisk", "quorate/api.ErrFull", "quorate/api.ErrNone", "quorate/api.ErrSet", "quorate/api.ErrProof", "quorate/api.ErrLeader", "quorate/api.ErrParent", "quorate/api.ErrTwice"], apart := false, laid := [("quorate/api.ErrRange", laid_quorate_api_ErrRange), ("quorate/api.ErrShort", laid_quorate_api_ErrShort), ("quorate/api.ErrLong", laid_quorate_api_ErrLong), ("quorate/api.ErrForm", laid_quorate_api_ErrForm), ("quorate/api.ErrSpent", laid_quorate_api_ErrSpent), ("quorate/api.ErrPower", laid_quorate_api_ErrPower), ("quorate/api.ErrDisk", laid_quorate_api_ErrDisk), ("quorate/api.ErrFull", laid_quorate_api_ErrFull), ("quorate/api.ErrNone", laid_quorate_api_ErrNone), ("quorate/api.ErrOld", laid_quorate_api_ErrOld), ("quorate/api.ErrSet", laid_quorate_api_ErrSet), ("quorate/api.ErrProof", laid_quorate_api_ErrProof), ("quorate/api.ErrLeader", laid_quorate_api_ErrLeader), ("quorate/api.ErrRound", laid_quorate_api_ErrRound), ("quorate/api.ErrUnsafe", laid_quorate_api_ErrUnsafe), ("quorate/api.ErrParent", laid_quorate_api_ErrParent), ("quorate/api.ErrTwice", laid_quorate_api_ErrTwice), ("quorate/api.ErrEpoch", laid_quorate_api_ErrEpoch)], narrowed := true }
def RulesCoversUptoSaid : Prop := rulesCoversUptoRow.holds Tryd.pinned (OpenSpec.upto rulesCoversSpec)

/-- 'quoratelaw01.WireWrites', WHERE WHAT IT READS IS OF BULK AT MOST 1048576: true; the input reads as it did. -/
def wireWritesUptoRow : OpenClaim := { program := "ytadonpfpneanhaadoor", sum := "ff3cfb9523ec3b86796e0bda10074b2e2aa2d9655cf8728baa60a94f9d33025c", func := "quorate/quoratelaw01.WireWrites", spec := "wireWrites", inPlace := ["internal/reflectlite.TypeOf"], unfollowed := true, recurses := true, named := ["quorate/api.ErrRange", "quorate/api.ErrOld", "quorate/api.ErrShort", "quorate/api.ErrLong", "quorate/api.ErrForm", "quorate/api.ErrSpent", "quorate/api.ErrPower", "quorate/api.ErrDisk", "quorate/api.ErrFull", "quorate/api.ErrNone", "quorate/api.ErrSet", "quorate/api.ErrProof", "quorate/api.ErrLeader", "quorate/api.ErrRound", "quorate/api.ErrUnsafe", "quorate/api.ErrParent", "quorate/api.ErrTwice", "quorate/api.ErrEpoch"], apart := false, laid := [("quorate/api.ErrRange", laid_quorate_api_ErrRange), ("quorate/api.ErrShort", laid_quorate_api_ErrShort), ("quorate/api.ErrLong", laid_quorate_api_ErrLong), ("quorate/api.ErrForm", laid_quorate_api_ErrForm), ("quorate/api.ErrSpent", laid_quorate_api_ErrSpent), ("quorate/api.ErrPower", laid_quorate_api_ErrPower), ("quorate/api.ErrDisk", laid_quorate_api_ErrDisk), ("quorate/api.ErrFull", laid_quorate_api_ErrFull), ("quorate/api.ErrNone", laid_quorate_api_ErrNone), ("quorate/api.ErrOld", laid_quorate_api_ErrOld), ("quorate/api.ErrSet", laid_quorate_api_ErrSet), ("quorate/api.ErrProof", laid_quorate_api_ErrProof), ("quorate/api.ErrLeader", laid_quorate_api_ErrLeader), ("quorate/api.ErrRound", laid_quorate_api_ErrRound), ("quorate/api.ErrUnsafe", laid_quorate_api_ErrUnsafe), ("quorate/api.ErrParent", laid_quorate_api_ErrParent), ("quorate/api.ErrTwice", laid_quorate_api_ErrTwice), ("quorate/api.ErrEpoch", laid_quorate_api_ErrEpoch)], narrowed := true }
def WireWritesUptoSaid : Prop := wireWritesUptoRow.holds Tryd.pinned (OpenSpec.upto wireWritesSpec)

/-- 'quoratelaw01.WireNests', WHERE WHAT IT READS IS OF BULK AT MOST 1048576: true; the input reads as it did. -/
def wireNestsUptoRow : OpenClaim := { program := "ytadonpfpneanhaadoor", sum := "ff3cfb9523ec3b86796e0bda10074b2e2aa2d9655cf8728baa60a94f9d33025c", func := "quorate/quoratelaw01.WireNests", spec := "wireNests", unfollowed := true, recurses := true, named := ["quorate/api.ErrRange", "quorate/api.ErrShort", "quorate/api.ErrLong"], apart := false, laid := [("quorate/api.ErrRange", laid_quorate_api_ErrRange), ("quorate/api.ErrShort", laid_quorate_api_ErrShort), ("quorate/api.ErrLong", laid_quorate_api_ErrLong)], narrowed := true }
def WireNestsUptoSaid : Prop := wireNestsUptoRow.holds Tryd.pinned (OpenSpec.upto wireNestsSpec)

/-- 'quoratelaw13.RulesSteps', WHERE WHAT IT READS IS OF BULK AT MOST 1048576: true; the input reads as it did. -/
def rulesStepsUptoRow : OpenClaim := { program := "ytadonpfpneanhaadoor", sum := "ff3cfb9523ec3b86796e0bda10074b2e2aa2d9655cf8728baa60a94f9d33025c", func := "quorate/quoratelaw13.RulesSteps", spec := "rulesSteps", inPlace := ["internal/reflectlite.TypeOf"], unfollowed := true, recurses := true, named := ["quorate/api.ErrRound", "quorate/api.ErrOld", "quorate/api.ErrUnsafe", "quorate/api.ErrForm", "quorate/api.ErrEpoch", "quorate/api.ErrSpent", "quorate/api.ErrRange", "quorate/api.ErrShort", "quorate/api.ErrLong", "quorate/api.ErrPower", "quorate/api.ErrDisk", "quorate/api.ErrFull", "quorate/api.ErrNone", "quorate/api.ErrSet", "quorate/api.ErrProof", "quorate/api.ErrLeader", "quorate/api.ErrParent", "quorate/api.ErrTwice"], apart := false, laid := [("quorate/api.ErrRange", laid_quorate_api_ErrRange), ("quorate/api.ErrShort", laid_quorate_api_ErrShort), ("quorate/api.ErrLong", laid_quorate_api_ErrLong), ("quorate/api.ErrForm", laid_quorate_api_ErrForm), ("quorate/api.ErrSpent", laid_quorate_api_ErrSpent), ("quorate/api.ErrPower", laid_quorate_api_ErrPower), ("quorate/api.ErrDisk", laid_quorate_api_ErrDisk), ("quorate/api.ErrFull", laid_quorate_api_ErrFull), ("quorate/api.ErrNone", laid_quorate_api_ErrNone), ("quorate/api.ErrOld", laid_quorate_api_ErrOld), ("quorate/api.ErrSet", laid_quorate_api_ErrSet), ("quorate/api.ErrProof", laid_quorate_api_ErrProof), ("quorate/api.ErrLeader", laid_quorate_api_ErrLeader), ("quorate/api.ErrRound", laid_quorate_api_ErrRound), ("quorate/api.ErrUnsafe", laid_quorate_api_ErrUnsafe), ("quorate/api.ErrParent", laid_quorate_api_ErrParent), ("quorate/api.ErrTwice", laid_quorate_api_ErrTwice), ("quorate/api.ErrEpoch", laid_quorate_api_ErrEpoch)], narrowed := true }
def RulesStepsUptoSaid : Prop := rulesStepsUptoRow.holds Tryd.pinned (OpenSpec.upto rulesStepsSpec)

/-- 'quoratelaw13.RulesOnce', WHERE WHAT IT READS IS OF BULK AT MOST 1048576: true; the input reads as it did. -/
def rulesOnceUptoRow : OpenClaim := { program := "ytadonpfpneanhaadoor", sum := "ff3cfb9523ec3b86796e0bda10074b2e2aa2d9655cf8728baa60a94f9d33025c", func := "quorate/quoratelaw13.RulesOnce", spec := "rulesOnce", inPlace := ["internal/reflectlite.TypeOf"], unfollowed := true, recurses := true, named := ["quorate/api.ErrRound", "quorate/api.ErrOld", "quorate/api.ErrUnsafe", "quorate/api.ErrForm", "quorate/api.ErrEpoch", "quorate/api.ErrSpent", "quorate/api.ErrRange", "quorate/api.ErrShort", "quorate/api.ErrLong", "quorate/api.ErrPower", "quorate/api.ErrDisk", "quorate/api.ErrFull", "quorate/api.ErrNone", "quorate/api.ErrSet", "quorate/api.ErrProof", "quorate/api.ErrLeader", "quorate/api.ErrParent", "quorate/api.ErrTwice"], apart := false, laid := [("quorate/api.ErrRange", laid_quorate_api_ErrRange), ("quorate/api.ErrShort", laid_quorate_api_ErrShort), ("quorate/api.ErrLong", laid_quorate_api_ErrLong), ("quorate/api.ErrForm", laid_quorate_api_ErrForm), ("quorate/api.ErrSpent", laid_quorate_api_ErrSpent), ("quorate/api.ErrPower", laid_quorate_api_ErrPower), ("quorate/api.ErrDisk", laid_quorate_api_ErrDisk), ("quorate/api.ErrFull", laid_quorate_api_ErrFull), ("quorate/api.ErrNone", laid_quorate_api_ErrNone), ("quorate/api.ErrOld", laid_quorate_api_ErrOld), ("quorate/api.ErrSet", laid_quorate_api_ErrSet), ("quorate/api.ErrProof", laid_quorate_api_ErrProof), ("quorate/api.ErrLeader", laid_quorate_api_ErrLeader), ("quorate/api.ErrRound", laid_quorate_api_ErrRound), ("quorate/api.ErrUnsafe", laid_quorate_api_ErrUnsafe), ("quorate/api.ErrParent", laid_quorate_api_ErrParent), ("quorate/api.ErrTwice", laid_quorate_api_ErrTwice), ("quorate/api.ErrEpoch", laid_quorate_api_ErrEpoch)], narrowed := true }
def RulesOnceUptoSaid : Prop := rulesOnceUptoRow.holds Tryd.pinned (OpenSpec.upto rulesOnceSpec)

/-- 'quoratelaw13.RulesLocks', WHERE WHAT IT READS IS OF BULK AT MOST 1048576: true; the input reads as it did. -/
def rulesLocksUptoRow : OpenClaim := { program := "ytadonpfpneanhaadoor", sum := "ff3cfb9523ec3b86796e0bda10074b2e2aa2d9655cf8728baa60a94f9d33025c", func := "quorate/quoratelaw13.RulesLocks", spec := "rulesLocks", inPlace := ["internal/reflectlite.TypeOf"], unfollowed := true, recurses := true, named := ["quorate/api.ErrRound", "quorate/api.ErrOld", "quorate/api.ErrUnsafe", "quorate/api.ErrForm", "quorate/api.ErrEpoch", "quorate/api.ErrSpent", "quorate/api.ErrRange", "quorate/api.ErrShort", "quorate/api.ErrLong", "quorate/api.ErrPower", "quorate/api.ErrDisk", "quorate/api.ErrFull", "quorate/api.ErrNone", "quorate/api.ErrSet", "quorate/api.ErrProof", "quorate/api.ErrLeader", "quorate/api.ErrParent", "quorate/api.ErrTwice"], apart := false, laid := [("quorate/api.ErrRange", laid_quorate_api_ErrRange), ("quorate/api.ErrShort", laid_quorate_api_ErrShort), ("quorate/api.ErrLong", laid_quorate_api_ErrLong), ("quorate/api.ErrForm", laid_quorate_api_ErrForm), ("quorate/api.ErrSpent", laid_quorate_api_ErrSpent), ("quorate/api.ErrPower", laid_quorate_api_ErrPower), ("quorate/api.ErrDisk", laid_quorate_api_ErrDisk), ("quorate/api.ErrFull", laid_quorate_api_ErrFull), ("quorate/api.ErrNone", laid_quorate_api_ErrNone), ("quorate/api.ErrOld", laid_quorate_api_ErrOld), ("quorate/api.ErrSet", laid_quorate_api_ErrSet), ("quorate/api.ErrProof", laid_quorate_api_ErrProof), ("quorate/api.ErrLeader", laid_quorate_api_ErrLeader), ("quorate/api.ErrRound", laid_quorate_api_ErrRound), ("quorate/api.ErrUnsafe", laid_quorate_api_ErrUnsafe), ("quorate/api.ErrParent", laid_quorate_api_ErrParent), ("quorate/api.ErrTwice", laid_quorate_api_ErrTwice), ("quorate/api.ErrEpoch", laid_quorate_api_ErrEpoch)], narrowed := true }
def RulesLocksUptoSaid : Prop := rulesLocksUptoRow.holds Tryd.pinned (OpenSpec.upto rulesLocksSpec)

/-- 'quoratelaw13.RulesApart', WHERE WHAT IT READS IS OF BULK AT MOST 1048576: true; the input reads as it did. -/
def rulesApartUptoRow : OpenClaim := { program := "ytadonpfpneanhaadoor", sum := "ff3cfb9523ec3b86796e0bda10074b2e2aa2d9655cf8728baa60a94f9d33025c", func := "quorate/quoratelaw13.RulesApart", spec := "rulesApart", inPlace := ["internal/reflectlite.TypeOf"], unfollowed := true, recurses := true, named := ["quorate/api.ErrRound", "quorate/api.ErrOld", "quorate/api.ErrUnsafe", "quorate/api.ErrForm", "quorate/api.ErrEpoch", "quorate/api.ErrSpent", "quorate/api.ErrRange", "quorate/api.ErrShort", "quorate/api.ErrLong", "quorate/api.ErrPower", "quorate/api.ErrDisk", "quorate/api.ErrFull", "quorate/api.ErrNone", "quorate/api.ErrSet", "quorate/api.ErrProof", "quorate/api.ErrLeader", "quorate/api.ErrParent", "quorate/api.ErrTwice"], apart := false, laid := [("quorate/api.ErrRange", laid_quorate_api_ErrRange), ("quorate/api.ErrShort", laid_quorate_api_ErrShort), ("quorate/api.ErrLong", laid_quorate_api_ErrLong), ("quorate/api.ErrForm", laid_quorate_api_ErrForm), ("quorate/api.ErrSpent", laid_quorate_api_ErrSpent), ("quorate/api.ErrPower", laid_quorate_api_ErrPower), ("quorate/api.ErrDisk", laid_quorate_api_ErrDisk), ("quorate/api.ErrFull", laid_quorate_api_ErrFull), ("quorate/api.ErrNone", laid_quorate_api_ErrNone), ("quorate/api.ErrOld", laid_quorate_api_ErrOld), ("quorate/api.ErrSet", laid_quorate_api_ErrSet), ("quorate/api.ErrProof", laid_quorate_api_ErrProof), ("quorate/api.ErrLeader", laid_quorate_api_ErrLeader), ("quorate/api.ErrRound", laid_quorate_api_ErrRound), ("quorate/api.ErrUnsafe", laid_quorate_api_ErrUnsafe), ("quorate/api.ErrParent", laid_quorate_api_ErrParent), ("quorate/api.ErrTwice", laid_quorate_api_ErrTwice), ("quorate/api.ErrEpoch", laid_quorate_api_ErrEpoch)], narrowed := true }
def RulesApartUptoSaid : Prop := rulesApartUptoRow.holds Tryd.pinned (OpenSpec.upto rulesApartSpec)

/-- 'quoratelaw13.RulesRows', WHERE WHAT IT READS IS OF BULK AT MOST 1048576: true; the input reads as it did. -/
def rulesRowsUptoRow : OpenClaim := { program := "ytadonpfpneanhaadoor", sum := "ff3cfb9523ec3b86796e0bda10074b2e2aa2d9655cf8728baa60a94f9d33025c", func := "quorate/quoratelaw13.RulesRows", spec := "rulesRows", inPlace := ["internal/reflectlite.TypeOf"], unfollowed := true, recurses := true, named := ["quorate/api.ErrRound", "quorate/api.ErrOld", "quorate/api.ErrUnsafe", "quorate/api.ErrForm", "quorate/api.ErrEpoch", "quorate/api.ErrSpent", "quorate/api.ErrRange", "quorate/api.ErrShort", "quorate/api.ErrLong", "quorate/api.ErrPower", "quorate/api.ErrDisk", "quorate/api.ErrFull", "quorate/api.ErrNone", "quorate/api.ErrSet", "quorate/api.ErrProof", "quorate/api.ErrLeader", "quorate/api.ErrParent", "quorate/api.ErrTwice"], apart := false, laid := [("quorate/api.ErrRange", laid_quorate_api_ErrRange), ("quorate/api.ErrShort", laid_quorate_api_ErrShort), ("quorate/api.ErrLong", laid_quorate_api_ErrLong), ("quorate/api.ErrForm", laid_quorate_api_ErrForm), ("quorate/api.ErrSpent", laid_quorate_api_ErrSpent), ("quorate/api.ErrPower", laid_quorate_api_ErrPower), ("quorate/api.ErrDisk", laid_quorate_api_ErrDisk), ("quorate/api.ErrFull", laid_quorate_api_ErrFull), ("quorate/api.ErrNone", laid_quorate_api_ErrNone), ("quorate/api.ErrOld", laid_quorate_api_ErrOld), ("quorate/api.ErrSet", laid_quorate_api_ErrSet), ("quorate/api.ErrProof", laid_quorate_api_ErrProof), ("quorate/api.ErrLeader", laid_quorate_api_ErrLeader), ("quorate/api.ErrRound", laid_quorate_api_ErrRound), ("quorate/api.ErrUnsafe", laid_quorate_api_ErrUnsafe), ("quorate/api.ErrParent", laid_quorate_api_ErrParent), ("quorate/api.ErrTwice", laid_quorate_api_ErrTwice), ("quorate/api.ErrEpoch", laid_quorate_api_ErrEpoch)], narrowed := true }
def RulesRowsUptoSaid : Prop := rulesRowsUptoRow.holds Tryd.pinned (OpenSpec.upto rulesRowsSpec)

/-- 'quoratelaw01.WireBack', WHERE WHAT IT READS IS OF BULK AT MOST 1048576: true; the input reads as it did. -/
def wireBackUptoRow : OpenClaim := { program := "ytadonpfpneanhaadoor", sum := "ff3cfb9523ec3b86796e0bda10074b2e2aa2d9655cf8728baa60a94f9d33025c", func := "quorate/quoratelaw01.WireBack", spec := "wireBack", unfollowed := true, recurses := true, named := ["quorate/api.ErrRange", "quorate/api.ErrOld", "quorate/api.ErrShort", "quorate/api.ErrForm", "quorate/api.ErrLong"], apart := false, laid := [("quorate/api.ErrRange", laid_quorate_api_ErrRange), ("quorate/api.ErrShort", laid_quorate_api_ErrShort), ("quorate/api.ErrLong", laid_quorate_api_ErrLong), ("quorate/api.ErrForm", laid_quorate_api_ErrForm), ("quorate/api.ErrOld", laid_quorate_api_ErrOld)], narrowed := true }
def WireBackUptoSaid : Prop := wireBackUptoRow.holds Tryd.pinned (OpenSpec.upto wireBackSpec)

/-- 'quoratelaw01.WireReads', WHERE WHAT IT READS IS OF BULK AT MOST 1048576: true; the input reads as it did. -/
def wireReadsUptoRow : OpenClaim := { program := "ytadonpfpneanhaadoor", sum := "ff3cfb9523ec3b86796e0bda10074b2e2aa2d9655cf8728baa60a94f9d33025c", func := "quorate/quoratelaw01.WireReads", spec := "wireReads", inPlace := ["internal/reflectlite.TypeOf"], unfollowed := true, recurses := true, named := ["quorate/api.ErrRange", "quorate/api.ErrOld", "quorate/api.ErrShort", "quorate/api.ErrForm", "quorate/api.ErrLong", "quorate/api.ErrSpent", "quorate/api.ErrPower", "quorate/api.ErrDisk", "quorate/api.ErrFull", "quorate/api.ErrNone", "quorate/api.ErrSet", "quorate/api.ErrProof", "quorate/api.ErrLeader", "quorate/api.ErrRound", "quorate/api.ErrUnsafe", "quorate/api.ErrParent", "quorate/api.ErrTwice", "quorate/api.ErrEpoch"], apart := false, laid := [("quorate/api.ErrRange", laid_quorate_api_ErrRange), ("quorate/api.ErrShort", laid_quorate_api_ErrShort), ("quorate/api.ErrLong", laid_quorate_api_ErrLong), ("quorate/api.ErrForm", laid_quorate_api_ErrForm), ("quorate/api.ErrSpent", laid_quorate_api_ErrSpent), ("quorate/api.ErrPower", laid_quorate_api_ErrPower), ("quorate/api.ErrDisk", laid_quorate_api_ErrDisk), ("quorate/api.ErrFull", laid_quorate_api_ErrFull), ("quorate/api.ErrNone", laid_quorate_api_ErrNone), ("quorate/api.ErrOld", laid_quorate_api_ErrOld), ("quorate/api.ErrSet", laid_quorate_api_ErrSet), ("quorate/api.ErrProof", laid_quorate_api_ErrProof), ("quorate/api.ErrLeader", laid_quorate_api_ErrLeader), ("quorate/api.ErrRound", laid_quorate_api_ErrRound), ("quorate/api.ErrUnsafe", laid_quorate_api_ErrUnsafe), ("quorate/api.ErrParent", laid_quorate_api_ErrParent), ("quorate/api.ErrTwice", laid_quorate_api_ErrTwice), ("quorate/api.ErrEpoch", laid_quorate_api_ErrEpoch)], narrowed := true }
def WireReadsUptoSaid : Prop := wireReadsUptoRow.holds Tryd.pinned (OpenSpec.upto wireReadsSpec)

/-- 'quoratelaw01.WireStops', WHERE WHAT IT READS IS OF BULK AT MOST 1048576: true; the input reads as it did. -/
def wireStopsUptoRow : OpenClaim := { program := "ytadonpfpneanhaadoor", sum := "ff3cfb9523ec3b86796e0bda10074b2e2aa2d9655cf8728baa60a94f9d33025c", func := "quorate/quoratelaw01.WireStops", spec := "wireStops", inPlace := ["internal/reflectlite.TypeOf"], unfollowed := true, recurses := true, named := ["quorate/api.ErrOld", "quorate/api.ErrRound", "quorate/api.ErrRange", "quorate/api.ErrShort", "quorate/api.ErrForm", "quorate/api.ErrLong", "quorate/api.ErrSpent", "quorate/api.ErrPower", "quorate/api.ErrDisk", "quorate/api.ErrFull", "quorate/api.ErrNone", "quorate/api.ErrSet", "quorate/api.ErrProof", "quorate/api.ErrLeader", "quorate/api.ErrUnsafe", "quorate/api.ErrParent", "quorate/api.ErrTwice", "quorate/api.ErrEpoch"], apart := false, laid := [("quorate/api.ErrRange", laid_quorate_api_ErrRange), ("quorate/api.ErrShort", laid_quorate_api_ErrShort), ("quorate/api.ErrLong", laid_quorate_api_ErrLong), ("quorate/api.ErrForm", laid_quorate_api_ErrForm), ("quorate/api.ErrSpent", laid_quorate_api_ErrSpent), ("quorate/api.ErrPower", laid_quorate_api_ErrPower), ("quorate/api.ErrDisk", laid_quorate_api_ErrDisk), ("quorate/api.ErrFull", laid_quorate_api_ErrFull), ("quorate/api.ErrNone", laid_quorate_api_ErrNone), ("quorate/api.ErrOld", laid_quorate_api_ErrOld), ("quorate/api.ErrSet", laid_quorate_api_ErrSet), ("quorate/api.ErrProof", laid_quorate_api_ErrProof), ("quorate/api.ErrLeader", laid_quorate_api_ErrLeader), ("quorate/api.ErrRound", laid_quorate_api_ErrRound), ("quorate/api.ErrUnsafe", laid_quorate_api_ErrUnsafe), ("quorate/api.ErrParent", laid_quorate_api_ErrParent), ("quorate/api.ErrTwice", laid_quorate_api_ErrTwice), ("quorate/api.ErrEpoch", laid_quorate_api_ErrEpoch)], narrowed := true }
def WireStopsUptoSaid : Prop := wireStopsUptoRow.holds Tryd.pinned (OpenSpec.upto wireStopsSpec)

/-- 'quoratelaw13.RulesBytes', WHERE WHAT IT READS IS OF BULK AT MOST 1048576: true; the input reads as it did. -/
def rulesBytesUptoRow : OpenClaim := { program := "ytadonpfpneanhaadoor", sum := "ff3cfb9523ec3b86796e0bda10074b2e2aa2d9655cf8728baa60a94f9d33025c", func := "quorate/quoratelaw13.RulesBytes", spec := "rulesBytes", inPlace := ["internal/reflectlite.TypeOf"], unfollowed := true, recurses := true, named := ["quorate/api.ErrRound", "quorate/api.ErrOld", "quorate/api.ErrUnsafe", "quorate/api.ErrForm", "quorate/api.ErrEpoch", "quorate/api.ErrSpent", "quorate/api.ErrRange", "quorate/api.ErrShort", "quorate/api.ErrLong", "quorate/api.ErrPower", "quorate/api.ErrDisk", "quorate/api.ErrFull", "quorate/api.ErrNone", "quorate/api.ErrSet", "quorate/api.ErrProof", "quorate/api.ErrLeader", "quorate/api.ErrParent", "quorate/api.ErrTwice"], apart := false, laid := [("quorate/api.ErrRange", laid_quorate_api_ErrRange), ("quorate/api.ErrShort", laid_quorate_api_ErrShort), ("quorate/api.ErrLong", laid_quorate_api_ErrLong), ("quorate/api.ErrForm", laid_quorate_api_ErrForm), ("quorate/api.ErrSpent", laid_quorate_api_ErrSpent), ("quorate/api.ErrPower", laid_quorate_api_ErrPower), ("quorate/api.ErrDisk", laid_quorate_api_ErrDisk), ("quorate/api.ErrFull", laid_quorate_api_ErrFull), ("quorate/api.ErrNone", laid_quorate_api_ErrNone), ("quorate/api.ErrOld", laid_quorate_api_ErrOld), ("quorate/api.ErrSet", laid_quorate_api_ErrSet), ("quorate/api.ErrProof", laid_quorate_api_ErrProof), ("quorate/api.ErrLeader", laid_quorate_api_ErrLeader), ("quorate/api.ErrRound", laid_quorate_api_ErrRound), ("quorate/api.ErrUnsafe", laid_quorate_api_ErrUnsafe), ("quorate/api.ErrParent", laid_quorate_api_ErrParent), ("quorate/api.ErrTwice", laid_quorate_api_ErrTwice), ("quorate/api.ErrEpoch", laid_quorate_api_ErrEpoch)], narrowed := true }
def RulesBytesUptoSaid : Prop := rulesBytesUptoRow.holds Tryd.pinned (OpenSpec.upto rulesBytesSpec)

end Rows
end Go.Proofs.YtadonpfpneanhaaDoor
