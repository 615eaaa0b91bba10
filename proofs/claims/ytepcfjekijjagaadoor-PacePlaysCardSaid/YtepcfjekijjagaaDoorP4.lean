/- PacePlays from its arguments as they come in. -/
import Derived.Test.YtepcfjekijjagaaDoorP3
namespace Go.Proofs.YtepcfjekijjagaaDoor
open Go.RowKit

theorem ops_open {H : Type} {enc : TypeId × Value → H} {W : World} {base : Nat} {held : Bool} {a : Option Addr} {len cap : Nat} {d : DataW H} {ps : List MemPlace}
    (h : DataW.Trod enc Tryd.prog W base (fun _ => true) held 46 (.slice a len cap) d ps) : ∃ z, StructsAt 2 W a len cap z :=
  structs_open Tryd.underlying46 Tryd.underlying51 (by kernel_rfl) (by kernel_rfl) (by decide) (fun j f hj => by
    rcases j with _ | j
    · obtain rfl := Option.some.inj hj
      exact Tryd.underlying3
    rcases j with _ | j
    · obtain rfl := Option.some.inj hj
      exact Tryd.underlying3
    · simp at hj) h

theorem pacePlays_law (A : List Addr) (w : World) (h : Sents G18 78 A w) (round : Int) (_ : (Lit.int .i64 round).wf = true) (a : Option Addr) (len cap : Nat) (z : Nat → Nat → Int) (hi : StructsAt 2 w a len cap z) :
    Calls Tryd.prog 10 #[.int .i64 round, .slice a len cap] w fun e w' => e = .returned (.bool true) ∧ Below w.heap.size w w' := by
  have h1 := hi.1
  have h2 := hi.2.1
  unfold maxLen at h2
  by_cases hlen : 100 < len
  · exact pacePlays_long A w h round a len cap h1 h2 hlen
  · by_cases hr : round < 1 ∨ 1099511627776 < round
    · exact pacePlays_bad A w h round a len cap h1 h2 (by omega) hr
    · exact pacePlays_good A w h round a len cap z hi (by omega) (by omega) (by omega)

end Go.Proofs.YtepcfjekijjagaaDoor
