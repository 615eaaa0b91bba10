/- The listed sentinels of WireBack (five) and of WireNests (three). -/
import Derived.Test.YtadonpfpneanhaaDoorO6
namespace Go.Proofs.YtadonpfpneanhaaDoor
open Go.ChangeShapes Go.WideShapes Go.ChangeAt Go.RowKit

def Long (A : List Addr) (w : World) : Prop := ∃ a, A[2]? = some a ∧ w.cell? ⟨4, 0, none⟩ = some (.iface 132 (.pointer (some a)))
theorem Long.later {A : List Addr} {w w' : World} (h : Long A w) (hb : Below w.heap.size w w') : Long A w' := by
  obtain ⟨a, h1, h2⟩ := h
  exact ⟨a, h1, (hb.cell (World.block_lt_of_cell? w _ h2)).trans h2⟩
structure Ers3 (A : List Addr) (w : World) : Prop where
  ers : Ers A w
  long : Long A w
theorem Ers3.later {A : List Addr} {w w' : World} (h : Ers3 A w) (hb : Below w.heap.size w w') : Ers3 A w' := ⟨h.ers.later hb, h.long.later hb⟩
theorem Ers3.size {A : List Addr} {w : World} (h : Ers3 A w) : 4 ≤ w.heap.size := by
  obtain ⟨a, _, h2⟩ := h.long
  have := World.block_lt_of_cell? w _ h2
  simp only at this
  omega
structure Ers5 (A : List Addr) (w : World) : Prop where
  three : Ers3 A w
  old : Old A w
  form : Form A w
theorem Ers5.later {A : List Addr} {w w' : World} (h : Ers5 A w) (hb : Below w.heap.size w w') : Ers5 A w' := ⟨h.three.later hb, h.old.later hb, h.form.later hb⟩

def namesT : List (String × List UInt8 × Nat) := names18.take 3
def laidT : List (String × DataW Unit) := [("quorate/api.ErrRange", Rows.laid_quorate_api_ErrRange), ("quorate/api.ErrShort", Rows.laid_quorate_api_ErrShort), ("quorate/api.ErrLong", Rows.laid_quorate_api_ErrLong)]
theorem laidT_eq : laidT = namesT.map fun x => (x.1, sentD x.2.1) := rfl
theorem namesT_G : namesT.map (·.2.2) = [2, 3, 4] := rfl
theorem ersT {W : World} (h : laidMetH Tryd.prog laidT W) : ∃ A, Ers3 A W := by
  rw [MakeChecks.laidMetH_plain _ _ _ (by kernel_rfl), laidT_eq] at h
  obtain ⟨A, hS⟩ : ∃ A, Sents [2, 3, 4] 132 A W := by
    rw [← namesT_G]
    exact Sents.of_laid Tryd.underlying31 Tryd.rowE Tryd.underlying132 Tryd.underlying157 rfl rfl Tryd.underlying9 Tryd.cells157 Tryd.cells9 namesT h (fun x hx => globals18 x (List.mem_of_mem_take hx))
  have hl : A.length = 3 := hS.len
  obtain ⟨a, ha⟩ : ∃ a, A[0]? = some a := ⟨A[0]'(by omega), by simp [hl]⟩
  obtain ⟨b, hb⟩ : ∃ b, A[1]? = some b := ⟨A[1]'(by omega), by simp [hl]⟩
  obtain ⟨c, hc⟩ : ∃ c, A[2]? = some c := ⟨A[2]'(by omega), by simp [hl]⟩
  exact ⟨A, ⟨⟨a, ha, hS.cell 0 _ _ rfl ha⟩, ⟨b, hb, hS.cell 1 _ _ rfl hb⟩⟩, ⟨c, hc, hS.cell 2 _ _ rfl hc⟩⟩
theorem door_metT (os : Os) (args : Array Value) : laidMetH Tryd.prog laidT ((World.doorLaid Tryd.prog 400 os).forCall (fun _ _ => 0) ⟨#[], args, []⟩).memory :=
  laidMetH_of_parts3 (fuel := 8) (laidMet_of_run' 8 (by kernel_rfl) (by kernel_rfl)) (by kernel_rfl) (by kernel_rfl)

def namesV : List (String × List UInt8 × Nat) := names18.take 4 ++ (names18.drop 9).take 1
def laidV : List (String × DataW Unit) := [("quorate/api.ErrRange", Rows.laid_quorate_api_ErrRange), ("quorate/api.ErrShort", Rows.laid_quorate_api_ErrShort), ("quorate/api.ErrLong", Rows.laid_quorate_api_ErrLong), ("quorate/api.ErrForm", Rows.laid_quorate_api_ErrForm), ("quorate/api.ErrOld", Rows.laid_quorate_api_ErrOld)]
theorem laidV_eq : laidV = namesV.map fun x => (x.1, sentD x.2.1) := rfl
theorem namesV_G : namesV.map (·.2.2) = [2, 3, 4, 5, 0] := rfl
theorem ersV {W : World} (h : laidMetH Tryd.prog laidV W) : ∃ A, Ers5 A W := by
  rw [MakeChecks.laidMetH_plain _ _ _ (by kernel_rfl), laidV_eq] at h
  obtain ⟨A, hS⟩ : ∃ A, Sents [2, 3, 4, 5, 0] 132 A W := by
    rw [← namesV_G]
    exact Sents.of_laid Tryd.underlying31 Tryd.rowE Tryd.underlying132 Tryd.underlying157 rfl rfl Tryd.underlying9 Tryd.cells157 Tryd.cells9 namesV h (fun x hx => globals18 x (by
      rcases List.mem_append.1 hx with h | h
      · exact List.mem_of_mem_take h
      · exact List.mem_of_mem_drop (List.mem_of_mem_take h)))
  have hl : A.length = 5 := hS.len
  obtain ⟨a, ha⟩ : ∃ a, A[0]? = some a := ⟨A[0]'(by omega), by simp [hl]⟩
  obtain ⟨b, hb⟩ : ∃ b, A[1]? = some b := ⟨A[1]'(by omega), by simp [hl]⟩
  obtain ⟨c, hc⟩ : ∃ c, A[2]? = some c := ⟨A[2]'(by omega), by simp [hl]⟩
  obtain ⟨d, hd⟩ : ∃ d, A[3]? = some d := ⟨A[3]'(by omega), by simp [hl]⟩
  obtain ⟨e, he⟩ : ∃ e, A[4]? = some e := ⟨A[4]'(by omega), by simp [hl]⟩
  exact ⟨[a, b, c, d, a, a, a, a, a, e], ⟨⟨⟨a, rfl, hS.cell 0 _ _ rfl ha⟩, ⟨b, rfl, hS.cell 1 _ _ rfl hb⟩⟩, ⟨c, rfl, hS.cell 2 _ _ rfl hc⟩⟩, ⟨e, rfl, hS.cell 4 _ _ rfl he⟩, ⟨d, rfl, hS.cell 3 _ _ rfl hd⟩⟩
theorem door_metV (os : Os) (args : Array Value) : laidMetH Tryd.prog laidV ((World.doorLaid Tryd.prog 400 os).forCall (fun _ _ => 0) ⟨#[], args, []⟩).memory :=
  laidMetH_of_parts3 (fuel := 8) (laidMet_of_run' 8 (by kernel_rfl) (by kernel_rfl)) (by kernel_rfl) (by kernel_rfl)

end Go.Proofs.YtadonpfpneanhaaDoor
