/-
  No cell of these rows narrows 'for every input' (looked for: loops, veiled, ifaces, maps, wideKeys, modest, calm, conditions, laid).
  DERIVED. THE GIVEN ROWS OF THIS SEAT. 3 by the template 'for every input the law returns true; each argument reads behind the call as it read before'; 0 by the template 'total and deterministic' (their statements: YtepcfjekijjagaaTotals.lean).
  GIVEN WITH THE SEED: the statements are not yours to turn. If you find one false, say at which input.
  Laid BY PROGRAM, IN A SANDBOX (cutbox-rows.mjs): the forced cells as the released guide's own fill.sh prints them over the translation a6a72d41b8d5ab1f… (all of the seat's roots in one cut). By AI agents, Wed Nov 11 2026. No macro, syntax, notation, axiom, sorry.
-/
import Derived.Test.YtepcfjekijjagaaChecked
import GoSem.Claim
import GoSem.ClaimJoined
import GoSem.ClaimMapViews
import Derived.JoinedTies
import Derived.KernelRfl
namespace Go.Proofs.Ytepcfjekijjagaa
/- THE CELL 'sum', in the pinned program and in every row, IS THE sha256 OF THE DUMP (.gsa) THAT YtepcfjekijjagaaProg.lean LOADS. Nothing in Lean hashes anything: it is a label: what it is worth is what the hold of that sum in a sandbox is worth. -/
noncomputable def Try.pinned : Pinned := { name := "ytepcfjekijjagaa", sum := "a6a72d41b8d5ab1f0baebe233ceffd31280393ceecbd9c81a36dc45e22935d88", checked := Try.checked }
namespace Rows
def none {H : Type} : Left H := { results := [], args := [] }

/-- 'quoratelaw12.TurnsDouble': WHATEVER THE INPUT: true; the input reads as it did. -/
def turnsDoubleSpec : ChangeSpec := { name := "turnsDouble", fn := fun _ => fun
  | [d] => { results := [.lit (.bool true)], args := [d] }
  | _ => none }
def turnsDoubleRow : OpenClaim := { program := "ytepcfjekijjagaa", sum := "a6a72d41b8d5ab1f0baebe233ceffd31280393ceecbd9c81a36dc45e22935d88", func := "quorate/quoratelaw12.TurnsDouble", spec := "turnsDouble", apart := false }
def TurnsDoubleSaid : Prop := turnsDoubleRow.holds Try.pinned (OpenSpec.ofChange turnsDoubleSpec)

/-- ITS FALSE NEIGHBOUR: 'it returns false'. Refute it at one input. -/
def turnsDoubleWrong : ChangeSpec := { name := "turnsDouble", fn := fun _ => fun
  | [d] => { results := [.lit (.bool false)], args := [d] }
  | _ => none }
def TurnsDoubleWrongFalsely : Prop := turnsDoubleRow.holds Try.pinned (OpenSpec.ofChange turnsDoubleWrong)

/-- 'quoratelaw12.TurnsFrom': WHATEVER THE INPUT: true; the input reads as it did. -/
def turnsFromSpec : ChangeSpec := { name := "turnsFrom", fn := fun _ => fun
  | [d1, d2, d3] => { results := [.lit (.bool true)], args := [d1, d2, d3] }
  | _ => none }
def turnsFromRow : OpenClaim := { program := "ytepcfjekijjagaa", sum := "a6a72d41b8d5ab1f0baebe233ceffd31280393ceecbd9c81a36dc45e22935d88", func := "quorate/quoratelaw12.TurnsFrom", spec := "turnsFrom", unfollowed := true, recurses := true, apart := false }
def TurnsFromSaid : Prop := turnsFromRow.holds Try.pinned (OpenSpec.ofChange turnsFromSpec)

/-- ITS FALSE NEIGHBOUR: 'it returns false'. Refute it at one input. -/
def turnsFromWrong : ChangeSpec := { name := "turnsFrom", fn := fun _ => fun
  | [d1, d2, d3] => { results := [.lit (.bool false)], args := [d1, d2, d3] }
  | _ => none }
def TurnsFromWrongFalsely : Prop := turnsFromRow.holds Try.pinned (OpenSpec.ofChange turnsFromWrong)

/-- 'quoratelaw12.TurnsRows': WHATEVER THE INPUT: true; the input reads as it did. -/
def turnsRowsSpec : ChangeSpec := { name := "turnsRows", fn := fun _ => fun
  | [d1, d2, d3] => { results := [.lit (.bool true)], args := [d1, d2, d3] }
  | _ => none }
def turnsRowsRow : OpenClaim := { program := "ytepcfjekijjagaa", sum := "a6a72d41b8d5ab1f0baebe233ceffd31280393ceecbd9c81a36dc45e22935d88", func := "quorate/quoratelaw12.TurnsRows", spec := "turnsRows", apart := false }
def TurnsRowsSaid : Prop := turnsRowsRow.holds Try.pinned (OpenSpec.ofChange turnsRowsSpec)

/-- ITS FALSE NEIGHBOUR: 'it returns false'. Refute it at one input. -/
def turnsRowsWrong : ChangeSpec := { name := "turnsRows", fn := fun _ => fun
  | [d1, d2, d3] => { results := [.lit (.bool false)], args := [d1, d2, d3] }
  | _ => none }
def TurnsRowsWrongFalsely : Prop := turnsRowsRow.holds Try.pinned (OpenSpec.ofChange turnsRowsWrong)

/- THE SECOND FORM. 'bulk': how many values and letters a reading holds, each counted each time it is reached (what is shared counts as often as it is met; a slice's spare places count too). A statement '..UptoSaid' is the law's where the arguments, and the package variables that the reading takes, are together of bulk at most 1048576: NARROWER than '..Said'. Prove '..Said' where nothing that the law and all that it calls make is longer than what came in: it says more and counts as full. Else prove '..UptoSaid'. A law counts once. -/
mutual
def uptoBulk {H : Type} : DataW H → Nat
  | .lit (.string bytes) => bytes.length + 1
  | .lit _ => 1
  | .nil => 1
  | .ptr d => uptoBulk d + 1
  | .slice elems spare => uptoBulkAll elems + uptoBulkAll spare + 1
  | .agg parts => uptoBulkAll parts + 1
  | .iface _ d => uptoBulk d + 1
  | .map entries => uptoBulkEntries entries + 1
  | .held _ => 1
def uptoBulkAll {H : Type} : List (DataW H) → Nat
  | [] => 0
  | d :: r => uptoBulk d + uptoBulkAll r
def uptoBulkEntries {H : Type} : List (Lit × DataW H) → Nat
  | [] => 0
  | x :: r => uptoBulkEntry x + uptoBulkEntries r
def uptoBulkEntry {H : Type} : Lit × DataW H → Nat
  | (.string bytes, d) => bytes.length + uptoBulk d + 1
  | (_, d) => uptoBulk d + 1
 end
def uptoSmall : (H : Type) → List (DataW H) → Bool := fun _ ds => decide (uptoBulkAll ds ≤ 1048576)
def OpenSpec.upto (s : _root_.Go.ChangeSpec) : _root_.Go.OpenSpec := { _root_.Go.OpenSpec.ofChange s with cond := some uptoSmall }

/-- 'quoratelaw12.TurnsDouble', WHERE WHAT IT READS IS OF BULK AT MOST 1048576: true; the input reads as it did. -/
def turnsDoubleUptoRow : OpenClaim := { program := "ytepcfjekijjagaa", sum := "a6a72d41b8d5ab1f0baebe233ceffd31280393ceecbd9c81a36dc45e22935d88", func := "quorate/quoratelaw12.TurnsDouble", spec := "turnsDouble", apart := false, narrowed := true }
def TurnsDoubleUptoSaid : Prop := turnsDoubleUptoRow.holds Try.pinned (OpenSpec.upto turnsDoubleSpec)

/-- 'quoratelaw12.TurnsFrom', WHERE WHAT IT READS IS OF BULK AT MOST 1048576: true; the input reads as it did. -/
def turnsFromUptoRow : OpenClaim := { program := "ytepcfjekijjagaa", sum := "a6a72d41b8d5ab1f0baebe233ceffd31280393ceecbd9c81a36dc45e22935d88", func := "quorate/quoratelaw12.TurnsFrom", spec := "turnsFrom", unfollowed := true, recurses := true, apart := false, narrowed := true }
def TurnsFromUptoSaid : Prop := turnsFromUptoRow.holds Try.pinned (OpenSpec.upto turnsFromSpec)

/-- 'quoratelaw12.TurnsRows', WHERE WHAT IT READS IS OF BULK AT MOST 1048576: true; the input reads as it did. -/
def turnsRowsUptoRow : OpenClaim := { program := "ytepcfjekijjagaa", sum := "a6a72d41b8d5ab1f0baebe233ceffd31280393ceecbd9c81a36dc45e22935d88", func := "quorate/quoratelaw12.TurnsRows", spec := "turnsRows", apart := false, narrowed := true }
def TurnsRowsUptoSaid : Prop := turnsRowsUptoRow.holds Try.pinned (OpenSpec.upto turnsRowsSpec)

end Rows
end Go.Proofs.Ytepcfjekijjagaa
