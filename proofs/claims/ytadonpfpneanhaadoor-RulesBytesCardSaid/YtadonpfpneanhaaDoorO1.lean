/- Slices of ops (four whole numbers and a slice of bytes each) that came in. -/
import Derived.Test.YtadonpfpneanhaaDoorX2
namespace Go.Proofs.YtadonpfpneanhaaDoor
open Go.RowKit Go.ChangeShapes Go.WideShapes Go.Deep Go.Joins

/-- An op: its four whole numbers, its slice, the slice's bytes. -/
structure Op5 where
  (k n width most : Int) (sl : Value) (xs : List Int)
def Op5.ok (w : World) (o : Op5) : Prop :=
  Src w o.sl o.xs ∧ (∀ x ∈ o.xs, 0 ≤ x ∧ x < 256) ∧ (-9223372036854775808 ≤ o.n ∧ o.n ≤ 9223372036854775807) ∧ (-9223372036854775808 ≤ o.most ∧ o.most ≤ 9223372036854775807)
def Op5.cells (o : Op5) : List Value := [.int .i64 o.k, .int .i64 o.n, .int .i64 o.width, .int .i64 o.most, o.sl]
def OpsAt (w : World) (a : Option Addr) (len cap : Nat) (z : Nat → Op5) : Prop :=
  len ≤ cap ∧ cap ≤ maxLen ∧ (∀ i, i < len → (z i).ok w) ∧
    (0 < len → ∃ b off, a = some ⟨b, off, none⟩ ∧ b < w.heap.size ∧ ∀ i j u, i < len → (z i).cells[j]? = some u → w.cell? ⟨b, off + (i * 5 + j), none⟩ = some u)

theorem src_of_trod {H : Type} {enc : TypeId × Value → H} {W : World} {base : Nat} {held : Bool} {v : Value} {fuel : Nat} {x : DataW H × List MemPlace}
    (hf : DataW.trod enc Tryd.prog W base (fun _ => true) held fuel 22 [v] = some x) : ∃ xs, Src W v xs ∧ ∀ x ∈ xs, 0 ≤ x ∧ x < 256 := by
  rcases open_ints Tryd.underlying22 Tryd.underlying5 (by kernel_rfl) hf with ⟨hcs, _⟩ | ⟨y, l, c, zs, hcs, _, hl, hm, hz, _, hcell, hwz⟩
  · obtain rfl := List.head_eq_of_cons_eq hcs
    exact ⟨[], .inl ⟨rfl, rfl⟩, fun x hx => by cases hx⟩
  · obtain rfl := List.head_eq_of_cons_eq hcs
    have hz' : zs.length = c := by simpa using hz
    have htl : (zs.take l).length = l := by rw [List.length_take]; omega
    refine ⟨zs.take l, .inr ⟨y, c, by rw [htl], by omega, hm, fun j u hj => ?_⟩, fun x hx => ?_⟩
    · unfold u8s at hj
      rw [List.map_take, List.getElem?_take] at hj
      split at hj
      · rename_i hjl
        rw [List.getElem?_map, List.getElem?_eq_getElem (by omega)] at hj
        have hc := hcell j (by omega)
        simp at hj
        rw [hc, ← hj, List.getD_eq_getElem?_getD, List.getElem?_eq_getElem (by omega)]
        rfl
      · cases hj
    · have := hwz x (List.mem_of_mem_take hx)
      simp [Lit.wf, IntKind.min, IntKind.max, IntKind.signed, IntKind.bits] at this
      omega

theorem int_in {n : Int} (h : (Lit.int .i64 n).wf = true) : -9223372036854775808 ≤ n ∧ n ≤ 9223372036854775807 := by
  simp [Lit.wf, IntKind.min, IntKind.max, IntKind.signed, IntKind.bits] at h
  omega

/-- What the cells of an element say. -/
theorem op_cells {H : Type} {enc : TypeId × Value → H} {W : World} {base fuel : Nat} {held : Bool} {fs : Array Field} {cs : List Value} {x : DataW H × List MemPlace}
    (he : Tryd.prog.underlying 55 = some (.struct fs)) (h5 : fs.size = 5) (hone : oneCellFields Tryd.prog fs = true) (hC : Tryd.prog.cellsOf 55 = 5)
    (hint : ∀ (j : Nat) (f : Field), fs[j]? = some f → j < 4 → Tryd.prog.underlying f.type = some (.int .i64)) (hsl : ∀ f : Field, fs[4]? = some f → f.type = 22)
    (h : DataW.trod enc Tryd.prog W base (fun _ => true) held fuel 55 cs = some x) : ∃ o : Op5, o.ok W ∧ cs = o.cells := by
  obtain ⟨ys, n', hn', hy, hlen, hyl, hg⟩ := DataW.trod_struct he h
  rw [hC] at hlen
  have one : ∀ j (hj : j < cs.length), (cs.drop j).take 1 = [cs[j]] := fun j hj => by rw [List.drop_eq_getElem_cons hj]; rfl
  have key : ∀ j (hj : j < 4), ∃ k : Int, cs[j]? = some (.int .i64 k) ∧ (Lit.int .i64 k).wf = true := by
    intro j hj
    have hfj : fs[j]? = some (fs[j]'(by omega)) := Array.getElem?_eq_getElem (by omega)
    obtain ⟨ho, hk⟩ := hone_of hone j _ hfj
    have h1 := hg j _ hfj
    rw [ho, hk, one j (by omega), List.getElem?_eq_getElem (by omega : j < ys.length)] at h1
    obtain ⟨k, e0, _, hw⟩ := DataW.trod_int (hint j _ hfj hj) h1
    refine ⟨k, ?_, hw⟩
    rw [List.getElem?_eq_getElem (by omega)]
    simpa using e0
  have key4 : ∃ v xs, cs[4]? = some v ∧ Src W v xs ∧ ∀ x ∈ xs, 0 ≤ x ∧ x < 256 := by
    have hfj : fs[4]? = some (fs[4]'(by omega)) := Array.getElem?_eq_getElem (by omega)
    obtain ⟨ho, hk⟩ := hone_of hone 4 _ hfj
    have h1 := hg 4 _ hfj
    rw [ho, hk, one 4 (by omega), List.getElem?_eq_getElem (by omega : 4 < ys.length), hsl _ hfj] at h1
    obtain ⟨xs, hs, h8⟩ := src_of_trod h1
    exact ⟨cs[4], xs, List.getElem?_eq_getElem (by omega), hs, h8⟩
  clear one hg hyl
  match cs, hlen, key, key4 with
  | [c0, c1, c2, c3, c4], _, key, key4 =>
    obtain ⟨k0, e0, _⟩ := key 0 (by omega)
    obtain ⟨k1, e1, w1⟩ := key 1 (by omega)
    obtain ⟨k2, e2, _⟩ := key 2 (by omega)
    obtain ⟨k3, e3, w3⟩ := key 3 (by omega)
    obtain ⟨v, xs, e4, hs, h8⟩ := key4
    obtain rfl : c0 = .int .i64 k0 := Option.some.inj e0
    obtain rfl : c1 = .int .i64 k1 := Option.some.inj e1
    obtain rfl : c2 = .int .i64 k2 := Option.some.inj e2
    obtain rfl : c3 = .int .i64 k3 := Option.some.inj e3
    obtain rfl : c4 = v := Option.some.inj e4
    exact ⟨⟨k0, k1, k2, k3, c4, xs⟩, ⟨hs, h8, int_in w1, int_in w3⟩, rfl⟩

theorem op_fields {f0 f1 f2 f3 f4 : Field} (h0 : Tryd.prog.underlying f0.type = some (.int .i64)) (h1 : Tryd.prog.underlying f1.type = some (.int .i64)) (h2 : Tryd.prog.underlying f2.type = some (.int .i64)) (h3 : Tryd.prog.underlying f3.type = some (.int .i64)) :
    ∀ (j : Nat) (f : Field), #[f0, f1, f2, f3, f4][j]? = some f → j < 4 → Tryd.prog.underlying f.type = some (.int .i64) := by
  intro j f hj hl
  rcases j with _ | _ | _ | _ | j
  · obtain rfl := Option.some.inj hj; exact h0
  · obtain rfl := Option.some.inj hj; exact h1
  · obtain rfl := Option.some.inj hj; exact h2
  · obtain rfl := Option.some.inj hj; exact h3
  · omega

set_option maxRecDepth 100000 in
theorem ops_open {H : Type} {enc : TypeId × Value → H} {W : World} {base : Nat} {held : Bool} {a : Option Addr} {len cap : Nat} {d : DataW H} {ps : List MemPlace}
    (h : DataW.Trod enc Tryd.prog W base (fun _ => true) held 52 (.slice a len cap) d ps) : ∃ z, OpsAt W a len cap z := by
  obtain ⟨fuel, hf⟩ := h
  rcases open_slice Tryd.underlying52 hf with ⟨hcs, _⟩ | ⟨x, l, c, m, n, D, Pl, hcs, _, hl, hm, hmm, _, hi⟩
  · simp [Value.cells] at hcs
    obtain ⟨rfl, rfl, rfl⟩ := hcs
    exact ⟨fun _ => ⟨0, 0, 0, 0, .slice none 0 0, []⟩, Nat.le_refl _, Nat.zero_le _, fun i hi => absurd hi (by omega), fun h => absurd h (by omega)⟩
  · simp [Value.cells] at hcs
    obtain ⟨rfl, rfl, rfl⟩ := hcs
    have hmm' : m = cap := by simpa using hmm
    subst hmm'
    have hC : Tryd.prog.cellsOf 55 = 5 := by kernel_rfl
    have key : ∀ i, ∃ o : Op5, i < len → o.ok W ∧ ∀ j u, o.cells[j]? = some u → W.cell? (x.add (i * 5 + j)) = some u := by
      intro i
      by_cases hil : i < len
      · obtain ⟨cs', hc, ht'⟩ := hi i (by omega)
        obtain ⟨o, ho, rfl⟩ := op_cells Tryd.underlying55 rfl (by kernel_rfl) hC (op_fields Tryd.underlying3 Tryd.underlying3 Tryd.underlying3 Tryd.underlying3) (fun f hf => by obtain rfl := Option.some.inj hf; rfl) ht'
        rw [hC] at hc
        obtain ⟨_, hcl, hat⟩ := World.cells?_some hc
        refine ⟨o, fun _ => ⟨ho, fun j u hj => ?_⟩⟩
        have hjl : j < 5 := by
          have := (List.getElem?_eq_some_iff.1 hj).1
          simpa [Op5.cells] using this
        have hcell := hat j hjl
        rw [Go.Deep.add_add] at hcell
        rw [hcell]
        exact hj
      · exact ⟨⟨0, 0, 0, 0, .slice none 0 0, []⟩, fun h => absurd h hil⟩
    obtain ⟨z, hz⟩ := Classical.axiomOfChoice key
    refine ⟨z, hl, hm, fun i hil => (hz i hil).1, fun h0 => ?_⟩
    obtain ⟨b, off, spot⟩ := x
    have e0 := (hz 0 h0).2 0 _ rfl
    have hspot : spot = none := by simpa [Addr.add] using World.cell?_spot e0
    subst hspot
    have hlt := lt_of_cell e0
    rw [add_plain] at hlt
    refine ⟨b, off, rfl, hlt, fun i j u hil hj => ?_⟩
    have e1 := (hz i hil).2 j u hj
    rw [add_plain] at e1
    exact e1

end Go.Proofs.YtadonpfpneanhaaDoor
