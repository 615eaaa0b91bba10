/- The walks of the laws of the paces, from the listed sentinels on. -/
import Derived.Test.YtepcfjekijjagaaDoorA2
import Derived.Test.YtepcfjekijjagaaDoorS
namespace Go.Proofs.YtepcfjekijjagaaDoor
open Go.RowKit

theorem lt_of_cell {w : World} {a : Addr} {v : Value} (h : w.cell? a = some v) : a.block < w.heap.size := by
  rcases Nat.lt_or_ge a.block w.heap.size with h' | h'
  · exact h'
  · simp [World.cell?, Array.getElem?_eq_none h'] at h
theorem errs2_of {A : List Addr} {w : World} (h : Sents [0, 1] 78 A w) : ∃ v0 v1, Errs2 w 78 78 v0 v1 ∧ 2 ≤ w.heap.size := by
  have hl := h.len
  match A, hl with
  | [a0, a1], _ =>
    have e1 := h.cell 1 1 a1 rfl rfl
    exact ⟨_, _, ⟨h.cell 0 0 a0 rfl rfl, e1⟩, lt_of_cell e1⟩
theorem paceWaits_law (A : List Addr) (fails : Int) (_ : (Lit.int .i64 fails).wf = true) (round : Int) (_ : (Lit.int .i64 round).wf = true) (w : World) (h : Sents [0, 1] 78 A w) :
    Calls Tryd.prog 5 #[.int .i64 fails, .int .i64 round] w fun e w' => e = .returned (.bool true) ∧ Below w.heap.size w w' := by
  obtain ⟨v0, v1, he, hz⟩ := errs2_of h
  exact paceWaits_walk 78 78 v0 v1 fails round w he hz

end Go.Proofs.YtepcfjekijjagaaDoor
