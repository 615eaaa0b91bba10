/- A slice of structs of whole numbers that came in: its cells, element by element. -/
import Derived.Test.YtadonpfpneanhaaDoorR1
import Derived.OpenShut
import Derived.Lib.SmallJoins
import Derived.Deep.Slices
import Derived.Deep.Fields
import Derived.ChangeSame
namespace Go.Proofs.YtadonpfpneanhaaDoor
open Go.RowKit Go.ChangeShapes Go.WideShapes Go.Deep Go.Joins

/-- A slice of structs of F whole numbers: nil, or rows of F cells at a block; z i j: field j of element i. -/
def StructsAt (F : Nat) (w : World) (a : Option Addr) (len cap : Nat) (z : Nat → Nat → Int) : Prop :=
  len ≤ cap ∧ cap ≤ maxLen ∧ (∀ i j, i < len → j < F → (Lit.int .i64 (z i j)).wf = true) ∧
    (0 < len → ∃ b off, a = some ⟨b, off, none⟩ ∧ b < w.heap.size ∧ ∀ i j, i < len → j < F → w.cell? ⟨b, off + (i * F + j), none⟩ = some (.int .i64 (z i j)))

theorem structs_open {H : Type} {enc : TypeId × Value → H} {P : Program} {W : World} {base : Nat} {held : Bool} {t e : TypeId} {fs : Array Field} {a : Option Addr} {len cap : Nat} {d : DataW H} {ps : List MemPlace}
    (ht : P.underlying t = some (.slice e)) (he : P.underlying e = some (.struct fs)) (hone : oneCellFields P fs = true) (hC : P.cellsOf e = fs.size) (hF : 0 < fs.size)
    (hint : ∀ (j : Nat) (f : Field), fs[j]? = some f → P.underlying f.type = some (.int .i64)) (h : DataW.Trod enc P W base (fun _ => true) held t (.slice a len cap) d ps) :
    ∃ z, StructsAt fs.size W a len cap z := by
  obtain ⟨fuel, hf⟩ := h
  rcases open_slice ht hf with ⟨hcs, _⟩ | ⟨x, l, c, m, n, D, Pl, hcs, _, hl, hm, hmm, _, hi⟩
  · simp [Value.cells] at hcs
    obtain ⟨rfl, rfl, rfl⟩ := hcs
    exact ⟨fun _ _ => 0, Nat.le_refl _, Nat.zero_le _, fun i j hi => absurd hi (by omega), fun h => absurd h (by omega)⟩
  · simp [Value.cells] at hcs
    obtain ⟨rfl, rfl, rfl⟩ := hcs
    have hmm' : m = cap := by simpa using hmm
    subst hmm'
    have key : ∀ i j, i < len → j < fs.size → ∃ k : Int, W.cell? (x.add (i * fs.size + j)) = some (.int .i64 k) ∧ (Lit.int .i64 k).wf = true := by
      intro i j hil hjl
      obtain ⟨cs', hc, ht'⟩ := hi i (by omega)
      rw [hC] at hc
      obtain ⟨ys, n', hn', hy, hlen, hyl, hg⟩ := DataW.trod_struct he ht'
      obtain ⟨_, hcl, hat⟩ := World.cells?_some hc
      have hfj : fs[j]? = some (fs[j]'hjl) := Array.getElem?_eq_getElem hjl
      obtain ⟨ho, hk⟩ := hone_of hone j _ hfj
      have h1 := hg j _ hfj
      rw [ho, hk] at h1
      have hone' : (cs'.drop j).take 1 = [cs'[j]'(by omega)] := by
        rw [List.drop_eq_getElem_cons (by omega)]
        rfl
      rw [hone', List.getElem?_eq_getElem (by omega : j < ys.length)] at h1
      obtain ⟨k, e0, _, hw⟩ := DataW.trod_int (hint j _ hfj) h1
      have hcell := hat j hjl
      rw [Go.Deep.add_add, List.getElem?_eq_getElem (by omega : j < cs'.length)] at hcell
      refine ⟨k, ?_, hw⟩
      rw [hcell]
      simpa using e0
    refine ⟨fun i j => match W.cell? (x.add (i * fs.size + j)) with | some (.int _ k) => k | _ => 0, hl, hm, fun i j hil hjl => ?_, fun h0 => ?_⟩
    · obtain ⟨k, e1, e2⟩ := key i j hil hjl
      simp only [e1]
      exact e2
    · obtain ⟨b, off, spot⟩ := x
      obtain ⟨k0, e0, _⟩ := key 0 0 h0 hF
      have hspot : spot = none := by simpa [Addr.add] using World.cell?_spot e0
      subst hspot
      have hlt := lt_of_cell e0
      rw [add_plain] at hlt
      refine ⟨b, off, rfl, hlt, fun i j hil hjl => ?_⟩
      obtain ⟨k, e1, _⟩ := key i j hil hjl
      simp only [e1]
      rw [← add_plain]
      exact e1

/-- A struct of five whole numbers that came in by value. -/
theorem agg5_open {H : Type} {enc : TypeId × Value → H} {P : Program} {W : World} {base b0 : Nat} {spare : Nat → Bool} {held : Bool} {r : Reach} {t : TypeId} {fs : Array Field} {v : Value} {d : DataW H} {ps : List MemPlace}
    (hs : P.underlying t = some (.struct fs)) (h5 : fs.size = 5) (hone : oneCellFields P fs = true) (hC : P.cellsOf t = 5)
    (hint : ∀ (j : Nat) (f : Field), fs[j]? = some f → P.underlying f.type = some (.int .i64)) (hv : Value.okWide P W r b0 t v) (h : DataW.Trod enc P W base spare held t v d ps) :
    ∃ a b c d e : Int, v = .agg #[.int .i64 a, .int .i64 b, .int .i64 c, .int .i64 d, .int .i64 e] := by
  obtain ⟨cs, rfl, hsz⟩ := okWide_struct hs hv
  obtain ⟨l⟩ := cs
  obtain ⟨fuel, hf⟩ := h
  obtain ⟨xs, n, _, hx, _, hlen, hg⟩ := DataW.trod_struct hs hf
  have hl : l.length = 5 := by simpa [hC] using hsz
  have key : ∀ j, j < 5 → ∃ k : Int, l[j]? = some (.int .i64 k) := by
    intro j hj
    have hfj : fs[j]? = some (fs[j]'(by omega)) := Array.getElem?_eq_getElem (by omega)
    obtain ⟨ho, hk⟩ := hone_of hone j _ hfj
    have h1 := hg j _ hfj
    rw [ho, hk] at h1
    have hone' : ((Value.agg l.toArray).cells.toList.drop j).take 1 = [l[j]'(by omega)] := by
      show (l.drop j).take 1 = _
      rw [List.drop_eq_getElem_cons (by omega)]
      rfl
    rw [hone'] at h1
    have hxl : xs.length = fs.size := by omega
    rw [List.getElem?_eq_getElem (by omega : j < xs.length)] at h1
    obtain ⟨k, e0, _, _⟩ := DataW.trod_int (hint j _ hfj) h1
    refine ⟨k, ?_⟩
    rw [List.getElem?_eq_getElem (by omega)]
    simpa using e0
  match l, hl, key with
  | [c0, c1, c2, c3, c4], _, key =>
    obtain ⟨k0, e0⟩ := key 0 (by omega)
    obtain ⟨k1, e1⟩ := key 1 (by omega)
    obtain ⟨k2, e2⟩ := key 2 (by omega)
    obtain ⟨k3, e3⟩ := key 3 (by omega)
    obtain ⟨k4, e4⟩ := key 4 (by omega)
    obtain rfl : c0 = .int .i64 k0 := Option.some.inj e0
    obtain rfl : c1 = .int .i64 k1 := Option.some.inj e1
    obtain rfl : c2 = .int .i64 k2 := Option.some.inj e2
    obtain rfl : c3 = .int .i64 k3 := Option.some.inj e3
    obtain rfl : c4 = .int .i64 k4 := Option.some.inj e4
    exact ⟨k0, k1, k2, k3, k4, rfl⟩

theorem five_ints {P : Program} {f0 f1 f2 f3 f4 : Field} (h0 : P.underlying f0.type = some (.int .i64)) (h1 : P.underlying f1.type = some (.int .i64)) (h2 : P.underlying f2.type = some (.int .i64)) (h3 : P.underlying f3.type = some (.int .i64)) (h4 : P.underlying f4.type = some (.int .i64)) :
    ∀ (j : Nat) (f : Field), #[f0, f1, f2, f3, f4][j]? = some f → P.underlying f.type = some (.int .i64) := by
  intro j f hj
  rcases j with _ | _ | _ | _ | _ | j
  · obtain rfl := Option.some.inj hj; exact h0
  · obtain rfl := Option.some.inj hj; exact h1
  · obtain rfl := Option.some.inj hj; exact h2
  · obtain rfl := Option.some.inj hj; exact h3
  · obtain rfl := Option.some.inj hj; exact h4
  · simp at hj
set_option maxRecDepth 100000

theorem state_open {H : Type} {enc : TypeId × Value → H} {W : World} {base b0 : Nat} {spare : Nat → Bool} {held : Bool} {r : Reach} {v : Value} {d : DataW H} {ps : List MemPlace}
    (hv : Value.okWide Tryd.prog W r b0 47 v) (h : DataW.Trod enc Tryd.prog W base spare held 47 v d ps) : ∃ a b c d e : Int, v = .agg #[.int .i64 a, .int .i64 b, .int .i64 c, .int .i64 d, .int .i64 e] :=
  agg5_open Tryd.underlying47 rfl (by kernel_rfl) (by kernel_rfl) (five_ints Tryd.underlying3 Tryd.underlying3 Tryd.underlying3 Tryd.underlying3 Tryd.underlying3) hv h
theorem step_open {H : Type} {enc : TypeId × Value → H} {W : World} {base b0 : Nat} {spare : Nat → Bool} {held : Bool} {r : Reach} {v : Value} {d : DataW H} {ps : List MemPlace}
    (hv : Value.okWide Tryd.prog W r b0 71 v) (h : DataW.Trod enc Tryd.prog W base spare held 71 v d ps) : ∃ a b c d e : Int, v = .agg #[.int .i64 a, .int .i64 b, .int .i64 c, .int .i64 d, .int .i64 e] :=
  agg5_open Tryd.underlying71 rfl (by kernel_rfl) (by kernel_rfl) (five_ints Tryd.underlying3 Tryd.underlying3 Tryd.underlying3 Tryd.underlying3 Tryd.underlying3) hv h
theorem steps_open {H : Type} {enc : TypeId × Value → H} {W : World} {base : Nat} {held : Bool} {a : Option Addr} {len cap : Nat} {d : DataW H} {ps : List MemPlace}
    (h : DataW.Trod enc Tryd.prog W base (fun _ => true) held 77 (.slice a len cap) d ps) : ∃ z, StructsAt 5 W a len cap z :=
  structs_open Tryd.underlying77 Tryd.underlying71 (by kernel_rfl) (by kernel_rfl) (by decide) (five_ints Tryd.underlying3 Tryd.underlying3 Tryd.underlying3 Tryd.underlying3 Tryd.underlying3) h

end Go.Proofs.YtadonpfpneanhaaDoor
