/- The listed sentinels of the laws that reach fewer of them. -/
import Derived.Test.YtadonpfpneanhaaDoorW3
namespace Go.Proofs.YtadonpfpneanhaaDoor
open Go.ChangeShapes Go.WideShapes Go.ChangeAt Go.RowKit

def namesF : List (String × List UInt8 × Nat) := names18.take 2
def laidF : List (String × DataW Unit) := [("quorate/api.ErrRange", Rows.laid_quorate_api_ErrRange), ("quorate/api.ErrShort", Rows.laid_quorate_api_ErrShort)]
theorem laidF_eq : laidF = namesF.map fun x => (x.1, sentD x.2.1) := rfl
theorem namesF_G : namesF.map (·.2.2) = [2, 3] := rfl
theorem ersF {W : World} (h : laidMetH Tryd.prog laidF W) : ∃ A, Ers A W := by
  rw [MakeChecks.laidMetH_plain _ _ _ (by kernel_rfl), laidF_eq] at h
  obtain ⟨A, hS⟩ : ∃ A, Sents [2, 3] 132 A W := by
    rw [← namesF_G]
    exact Sents.of_laid Tryd.underlying31 Tryd.rowE Tryd.underlying132 Tryd.underlying157 rfl rfl Tryd.underlying9 Tryd.cells157 Tryd.cells9 namesF h (fun x hx => globals18 x (List.mem_of_mem_take hx))
  have hl := hS.len
  obtain ⟨a, ha⟩ : ∃ a, A[0]? = some a := ⟨A[0]'(by rw [hl]; decide), by simp [hl]⟩
  obtain ⟨b, hb⟩ : ∃ b, A[1]? = some b := ⟨A[1]'(by rw [hl]; decide), by simp [hl]⟩
  exact ⟨A, ⟨a, ha, hS.cell 0 _ _ rfl ha⟩, ⟨b, hb, hS.cell 1 _ _ rfl hb⟩⟩
theorem door_metF (os : Os) (args : Array Value) : laidMetH Tryd.prog laidF ((World.doorLaid Tryd.prog 400 os).forCall (fun _ _ => 0) ⟨#[], args, []⟩).memory :=
  laidMetH_of_parts3 (fuel := 8) (laidMet_of_run' 8 (by kernel_rfl) (by kernel_rfl)) (by kernel_rfl) (by kernel_rfl)

end Go.Proofs.YtadonpfpneanhaaDoor
