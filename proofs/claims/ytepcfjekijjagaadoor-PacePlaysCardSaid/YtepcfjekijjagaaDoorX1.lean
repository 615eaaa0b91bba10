/- A slice of structs of whole numbers that came in: its cells, element by element. -/
import Derived.Test.YtepcfjekijjagaaDoorA4
import Derived.Deep.Slices
import Derived.Deep.Fields
import Derived.ChangeSame
namespace Go.Proofs.YtepcfjekijjagaaDoor
open Go.RowKit Go.ChangeShapes Go.WideShapes Go.Deep

/-- A slice of structs of F whole numbers: nil, or rows of F cells at a block; z i j: field j of element i. -/
def StructsAt (F : Nat) (w : World) (a : Option Addr) (len cap : Nat) (z : Nat → Nat → Int) : Prop :=
  len ≤ cap ∧ cap ≤ maxLen ∧ (∀ i j, i < len → j < F → (Lit.int .i64 (z i j)).wf = true) ∧
    (0 < len → ∃ b off, a = some ⟨b, off, none⟩ ∧ b < w.heap.size ∧ ∀ i j, i < len → j < F → w.cell? ⟨b, off + (i * F + j), none⟩ = some (.int .i64 (z i j)))

theorem structs_open {H : Type} {enc : TypeId × Value → H} {P : Program} {W : World} {base : Nat} {held : Bool} {t e : TypeId} {fs : Array Field} {a : Option Addr} {len cap : Nat} {d : DataW H} {ps : List MemPlace}
    (ht : P.underlying t = some (.slice e)) (he : P.underlying e = some (.struct fs)) (hone : oneCellFields P fs = true) (hC : P.cellsOf e = fs.size) (hF : 0 < fs.size)
    (hint : ∀ (j : Nat) (f : Field), fs[j]? = some f → P.underlying f.type = some (.int .i64)) (h : DataW.Trod enc P W base (fun _ => true) held t (.slice a len cap) d ps) :
    ∃ z, StructsAt fs.size W a len cap z := by
  obtain ⟨fuel, hf⟩ := h
  rcases open_slice ht hf with ⟨hcs, _⟩ | ⟨x, l, c, m, n, D, Pl, hcs, _, hl, hm, hmm, _, hi⟩
  · simp [Value.cells] at hcs
    obtain ⟨rfl, rfl, rfl⟩ := hcs
    exact ⟨fun _ _ => 0, Nat.le_refl _, Nat.zero_le _, fun i j hi => absurd hi (by omega), fun h => absurd h (by omega)⟩
  · simp [Value.cells] at hcs
    obtain ⟨rfl, rfl, rfl⟩ := hcs
    have hmm' : m = cap := by simpa using hmm
    subst hmm'
    have key : ∀ i j, i < len → j < fs.size → ∃ k : Int, W.cell? (x.add (i * fs.size + j)) = some (.int .i64 k) ∧ (Lit.int .i64 k).wf = true := by
      intro i j hil hjl
      obtain ⟨cs', hc, ht'⟩ := hi i (by omega)
      rw [hC] at hc
      obtain ⟨ys, n', hn', hy, hlen, hyl, hg⟩ := DataW.trod_struct he ht'
      obtain ⟨_, hcl, hat⟩ := World.cells?_some hc
      have hfj : fs[j]? = some (fs[j]'hjl) := Array.getElem?_eq_getElem hjl
      obtain ⟨ho, hk⟩ := hone_of hone j _ hfj
      have h1 := hg j _ hfj
      rw [ho, hk] at h1
      have hone' : (cs'.drop j).take 1 = [cs'[j]'(by omega)] := by
        rw [List.drop_eq_getElem_cons (by omega)]
        rfl
      rw [hone', List.getElem?_eq_getElem (by omega : j < ys.length)] at h1
      obtain ⟨k, e0, _, hw⟩ := DataW.trod_int (hint j _ hfj) h1
      have hcell := hat j hjl
      rw [Go.Deep.add_add, List.getElem?_eq_getElem (by omega : j < cs'.length)] at hcell
      refine ⟨k, ?_, hw⟩
      rw [hcell]
      simpa using e0
    refine ⟨fun i j => match W.cell? (x.add (i * fs.size + j)) with | some (.int _ k) => k | _ => 0, hl, hm, fun i j hil hjl => ?_, fun h0 => ?_⟩
    · obtain ⟨k, e1, e2⟩ := key i j hil hjl
      simp only [e1]
      exact e2
    · obtain ⟨b, off, spot⟩ := x
      obtain ⟨k0, e0, _⟩ := key 0 0 h0 hF
      have hspot : spot = none := by simpa [Addr.add] using World.cell?_spot e0
      subst hspot
      have hlt := lt_of_cell e0
      rw [add_plain] at hlt
      refine ⟨b, off, rfl, hlt, fun i j hil hjl => ?_⟩
      obtain ⟨k, e1, _⟩ := key i j hil hjl
      simp only [e1]
      rw [← add_plain]
      exact e1

end Go.Proofs.YtepcfjekijjagaaDoor
