/- Slices of bytes and of whole numbers that came in. -/
import Derived.Test.YtadonpfpneanhaaDoorX1
import Derived.Test.YtadonpfpneanhaaDoorW5
namespace Go.Proofs.YtadonpfpneanhaaDoor
open Go.RowKit Go.ChangeShapes Go.WideShapes Go.Deep Go.Joins

def RowAt (k : IntKind) (w : World) (a : Option Addr) (len cap : Nat) (xs : List Int) : Prop :=
  len ≤ cap ∧ cap ≤ maxLen ∧ xs.length = len ∧ (∀ x ∈ xs, (Lit.int k x).wf = true) ∧
    ((a = none ∧ len = 0 ∧ cap = 0) ∨ ∃ ad, a = some ad ∧ ∀ j u, (xs.map (Value.int k))[j]? = some u → w.cell? (ad.add j) = some u)

theorem bytes_open {H : Type} {enc : TypeId × Value → H} {W : World} {base : Nat} {held : Bool} {a : Option Addr} {len cap : Nat} {d : DataW H} {ps : List MemPlace}
    (h : DataW.Trod enc Tryd.prog W base (fun _ => true) held 22 (.slice a len cap) d ps) : ∃ xs, RowAt .u8 W a len cap xs := by
  obtain ⟨fuel, hf⟩ := h
  rcases open_ints Tryd.underlying22 Tryd.underlying5 (by kernel_rfl) hf with ⟨hcs, _⟩ | ⟨x, l, c, zs, hcs, _, hl, hm, hz, _, hcell, hwz⟩
  · simp [Value.cells] at hcs
    obtain ⟨rfl, rfl, rfl⟩ := hcs
    exact ⟨[], Nat.le_refl _, Nat.zero_le _, rfl, (fun x hx => by cases hx), .inl ⟨rfl, rfl, rfl⟩⟩
  · simp [Value.cells] at hcs
    obtain ⟨rfl, rfl, rfl⟩ := hcs
    have hz' : zs.length = cap := by simpa using hz
    have hl' : len ≤ cap := by simpa using hl
    refine ⟨zs.take len, hl', by simpa using hm, by rw [List.length_take]; omega, fun x hx => hwz x (List.mem_of_mem_take hx), .inr ⟨x, rfl, fun j u hj => ?_⟩⟩
    rw [List.map_take, List.getElem?_take] at hj
    split at hj
    · rename_i hjl
      rw [List.getElem?_map, List.getElem?_eq_getElem (by omega)] at hj
      have hc := hcell j (by omega)
      simp at hj
      rw [hc, ← hj, List.getD_eq_getElem?_getD, List.getElem?_eq_getElem (by omega)]
      rfl
    · cases hj
theorem ints_open {H : Type} {enc : TypeId × Value → H} {W : World} {base : Nat} {held : Bool} {a : Option Addr} {len cap : Nat} {d : DataW H} {ps : List MemPlace}
    (h : DataW.Trod enc Tryd.prog W base (fun _ => true) held 23 (.slice a len cap) d ps) : ∃ xs, RowAt .i64 W a len cap xs := by
  obtain ⟨fuel, hf⟩ := h
  rcases open_ints Tryd.underlying23 Tryd.underlying3 (by kernel_rfl) hf with ⟨hcs, _⟩ | ⟨x, l, c, zs, hcs, _, hl, hm, hz, _, hcell, hwz⟩
  · simp [Value.cells] at hcs
    obtain ⟨rfl, rfl, rfl⟩ := hcs
    exact ⟨[], Nat.le_refl _, Nat.zero_le _, rfl, (fun x hx => by cases hx), .inl ⟨rfl, rfl, rfl⟩⟩
  · simp [Value.cells] at hcs
    obtain ⟨rfl, rfl, rfl⟩ := hcs
    have hz' : zs.length = cap := by simpa using hz
    have hl' : len ≤ cap := by simpa using hl
    refine ⟨zs.take len, hl', by simpa using hm, by rw [List.length_take]; omega, fun x hx => hwz x (List.mem_of_mem_take hx), .inr ⟨x, rfl, fun j u hj => ?_⟩⟩
    rw [List.map_take, List.getElem?_take] at hj
    split at hj
    · rename_i hjl
      rw [List.getElem?_map, List.getElem?_eq_getElem (by omega)] at hj
      have hc := hcell j (by omega)
      simp at hj
      rw [hc, ← hj, List.getD_eq_getElem?_getD, List.getElem?_eq_getElem (by omega)]
      rfl
    · cases hj

theorem RowAt.src {w : World} {a : Option Addr} {len cap : Nat} {xs : List Int} (h : RowAt .u8 w a len cap xs) : Src w (.slice a len cap) xs := by
  obtain ⟨h1, h2, h3, h4, ⟨rfl, rfl, rfl⟩ | ⟨ad, rfl, hc⟩⟩ := h
  · exact .inl ⟨rfl, List.eq_nil_of_length_eq_zero h3⟩
  · exact .inr ⟨ad, cap, by rw [h3], by omega, h2, hc⟩
theorem RowAt.by8 {w : World} {a : Option Addr} {len cap : Nat} {xs : List Int} (h : RowAt .u8 w a len cap xs) : ∀ x ∈ xs, 0 ≤ x ∧ x < 256 := fun x hx => by
  have := h.2.2.2.1 x hx
  simp [Lit.wf, IntKind.min, IntKind.max, IntKind.signed, IntKind.bits] at this
  omega
theorem RowAt.at {w : World} {k : IntKind} {a : Option Addr} {len cap j : Nat} {xs : List Int} (h : RowAt k w a len cap xs) (hj : j < xs.length) : ∃ ad, a = some ad ∧ w.cell? (ad.add j) = some (.int k xs[j]) := by
  obtain ⟨h1, h2, h3, h4, ⟨rfl, rfl, rfl⟩ | ⟨ad, rfl, hc⟩⟩ := h
  · omega
  · exact ⟨ad, rfl, hc j _ (by simp [List.getElem?_eq_getElem hj])⟩

end Go.Proofs.YtadonpfpneanhaaDoor
