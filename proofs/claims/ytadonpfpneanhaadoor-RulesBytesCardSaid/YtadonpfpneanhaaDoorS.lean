/- What the condition on the listed sentinels gives a walk: each listed variable holds a pointer of its own to an error; no two are one. -/
import Derived.Test.YtadonpfpneanhaaDoorRows
import Derived.ProofKit
import Derived.LaidMore
import Derived.LaidLaws
import Derived.OpenShut
import Derived.Stop.Joined
import Derived.Stop.ErrReads
import Derived.Stop.LaidErr
namespace Go.Proofs.YtadonpfpneanhaaDoor
open Go.ChangeShapes Go.WideShapes Go.ChangeAt Go.RowKit

def sentD (text : List UInt8) : DataW Unit := .iface "*errors.errorString" (.ptr (.agg [.lit (.string text)]))

/-- The sentinels of a list, the i-th in global variable G i, each at an address of its own. -/
structure Sents (G : List Nat) (T : TypeId) (A : List Addr) (w : World) : Prop where
  len : A.length = G.length
  cell : ∀ (i g : Nat) (a : Addr), G[i]? = some g → A[i]? = some a → w.cell? ⟨g, 0, none⟩ = some (.iface T (.pointer (some a)))
  row : ∀ a, a ∈ A → ∃ c t, w.heap[a.block]? = some (.cells c t (0, 0))
  nodup : A.Nodup

theorem sents_of {P : Program} {W : World} {ti tp te ts : TypeId} {ms : Array (String × TypeId)} {f : Field}
    (hi : P.underlying ti = some (.interface ms)) (hrow : ∀ u, P.typeName? 3 u = some "*errors.errorString" → u = tp)
    (hp : P.underlying tp = some (.pointer te)) (he : P.underlying te = some (.struct #[f])) (hft : f.type = ts) (hfo : f.offset = 0) (hs : P.underlying ts = some .string) (hc : P.cellsOf te = 1) (hcs : P.cellsOf ts = 1) :
    ∀ (l : List (String × List UInt8 × Nat)) (ps : List MemPlace), DataW.LaidVars P W (l.map fun x => (x.1, sentD x.2.1)) ps →
      (∀ b off, MemPlace.cell b off ∈ ps → (∃ c t, W.heap[b]? = some (.cells c t (0, 0))) ∧ ∀ u v, W.cell? ⟨b, off, none⟩ = some (.iface u v) → Value.okWide P W .any 0 u v) →
      (∀ x ∈ l, P.globalNamed x.1 = some x.2.2 ∧ (P.globals[x.2.2]?).map (·.type) = some ti) →
      ∃ A : List Addr, A.length = l.length ∧ (∀ (i g : Nat) (a : Addr), (l.map (·.2.2))[i]? = some g → A[i]? = some a → W.cell? ⟨g, 0, none⟩ = some (.iface tp (.pointer (some a)))) ∧
        (∀ a, a ∈ A → ∃ c t, W.heap[a.block]? = some (.cells c t (0, 0))) ∧ (A.map fun a => MemPlace.cell a.block a.off).Sublist ps
  | [], ps, _, _, _ => ⟨[], rfl, fun i g a h => by simp at h, fun a h => by simp at h, by simp⟩
  | x :: l, ps, hv, hr, hg => by
    obtain ⟨g0, t0, cs0, f0, p0, q0, hg0, ht0, hv0, hd0, hq0, rfl⟩ := hv
    obtain ⟨hg1, ht1⟩ := hg x (List.mem_cons_self ..)
    obtain rfl := Option.some.inj (hg1.symm.trans hg0)
    obtain rfl := Option.some.inj (ht1.symm.trans ht0)
    obtain ⟨l0⟩ := cs0
    have hcell : W.cell? ⟨x.2.2, 0, none⟩ = l0[0]? := by simpa using World.var?_cell hg0 hv0 0
    have ok0 : ∀ u v, l0 = [.iface u v] → Value.okWide P W .any 0 u v := fun u v e => by
      subst e
      exact (hr x.2.2 0 (by simp [MemPlace.row])).2 u v (by simpa using hcell)
    obtain ⟨a0, s0, rfl, hc0, hs0, hz0, rfl⟩ := errorString_of_trod hi hrow hp he hft hfo hs hc hcs hd0 ok0
    obtain ⟨A, h1, h2, h3, h4⟩ := sents_of hi hrow hp he hft hfo hs hc hcs l q0 hq0 (fun b off h => hr b off (List.mem_append_right _ h)) (fun y hy => hg y (List.mem_cons_of_mem _ hy))
    refine ⟨a0 :: A, by simp [h1], ?_, ?_, ?_⟩
    · intro i g a hG hA
      cases i with
      | zero =>
        simp at hG hA
        subst hG hA
        simpa using hcell
      | succ i => exact h2 i g a (by simpa using hG) (by simpa using hA)
    · intro a ha
      rcases List.mem_cons.1 ha with rfl | ha
      · exact (hr a.block a.off (by simp [MemPlace.row])).1
      · exact h3 a ha
    · have e : MemPlace.row a0 1 = [MemPlace.cell a0.block a0.off] := by simp [MemPlace.row]
      rw [e, List.map_cons]
      exact (List.Sublist.append (List.sublist_append_right _ _) h4 : ([MemPlace.cell a0.block a0.off] ++ _).Sublist _)

theorem nodup_of_map {A : List Addr} (h : (A.map fun a => MemPlace.cell a.block a.off).Nodup) : A.Nodup := by
  induction A with
  | nil => exact List.nodup_nil
  | cons a A ih =>
    simp only [List.map_cons, List.nodup_cons] at h
    exact List.nodup_cons.2 ⟨fun ha => h.1 (List.mem_map.2 ⟨a, ha, rfl⟩), ih h.2⟩

theorem Sents.of_laid {P : Program} {W : World} {ti tp te ts : TypeId} {ms : Array (String × TypeId)} {f : Field}
    (hi : P.underlying ti = some (.interface ms)) (hrow : ∀ u, P.typeName? 3 u = some "*errors.errorString" → u = tp)
    (hp : P.underlying tp = some (.pointer te)) (he : P.underlying te = some (.struct #[f])) (hft : f.type = ts) (hfo : f.offset = 0) (hs : P.underlying ts = some .string) (hc : P.cellsOf te = 1) (hcs : P.cellsOf ts = 1)
    (l : List (String × List UInt8 × Nat)) (hm : laidMet P (l.map fun x => (x.1, sentD x.2.1)) W) (hg : ∀ x ∈ l, P.globalNamed x.1 = some x.2.2 ∧ (P.globals[x.2.2]?).map (·.type) = some ti) :
    ∃ A, Sents (l.map (·.2.2)) tp A W := by
  obtain ⟨ps, hv, hn, hr⟩ := hm
  obtain ⟨A, h1, h2, h3, h4⟩ := sents_of hi hrow hp he hft hfo hs hc hcs l ps hv hr hg
  exact ⟨A, by simp [h1], h2, h3, nodup_of_map (hn.sublist h4)⟩

theorem Sents.below {G : List Nat} {T : TypeId} {A : List Addr} {w w' : World} (h : Sents G T A w) {B : Nat} (hb : Below B w w') (hG : ∀ g ∈ G, g < B) (hA : ∀ a ∈ A, a.block < B) : Sents G T A w' :=
  ⟨h.len, fun i g a e1 e2 => (hb.cell (p := ⟨g, 0, none⟩) (hG g (List.mem_of_getElem? e1))).trans (h.cell i g a e1 e2), fun a ha => by
    obtain ⟨c, t, e⟩ := h.row a ha
    exact ⟨c, t, (hb.block a.block (hA a ha)).trans e⟩, h.nodup⟩

theorem Tryd.own : ownKnob Tryd.prog.godebug = none := by kernel_rfl
theorem Tryd.star : "*" ++ "errors.errorString" = "*errors.errorString" := by decide
theorem Tryd.rowE (u : TypeId) (h : Tryd.prog.typeName? 3 u = some "*errors.errorString") : u = 132 :=
  typeName_ptr_named (nm := "errors.errorString") (by rw [Tryd.star]; kernel_rfl) (by kernel_rfl) (by decide) u (by rw [Tryd.star]; exact h)
theorem Tryd.cells157 : Tryd.prog.cellsOf 157 = 1 := by kernel_rfl
theorem Tryd.cells9 : Tryd.prog.cellsOf 9 = 1 := by kernel_rfl

/-! ### The eighteen -/
def names18 : List (String × List UInt8 × Nat) := [("quorate/api.ErrRange", [113, 117, 111, 114, 97, 116, 101, 58, 32, 114, 97, 110, 103, 101], 2), ("quorate/api.ErrShort", [113, 117, 111, 114, 97, 116, 101, 58, 32, 115, 104, 111, 114, 116], 3), ("quorate/api.ErrLong", [113, 117, 111, 114, 97, 116, 101, 58, 32, 108, 111, 110, 103], 4), ("quorate/api.ErrForm", [113, 117, 111, 114, 97, 116, 101, 58, 32, 102, 111, 114, 109], 5), ("quorate/api.ErrSpent", [113, 117, 111, 114, 97, 116, 101, 58, 32, 115, 112, 101, 110, 116], 6), ("quorate/api.ErrPower", [113, 117, 111, 114, 97, 116, 101, 58, 32, 112, 111, 119, 101, 114], 7), ("quorate/api.ErrDisk", [113, 117, 111, 114, 97, 116, 101, 58, 32, 100, 105, 115, 107], 8), ("quorate/api.ErrFull", [113, 117, 111, 114, 97, 116, 101, 58, 32, 102, 117, 108, 108], 9), ("quorate/api.ErrNone", [113, 117, 111, 114, 97, 116, 101, 58, 32, 110, 111, 110, 101], 10), ("quorate/api.ErrOld", [113, 117, 111, 114, 97, 116, 101, 58, 32, 111, 108, 100], 0), ("quorate/api.ErrSet", [113, 117, 111, 114, 97, 116, 101, 58, 32, 115, 101, 116], 11), ("quorate/api.ErrProof", [113, 117, 111, 114, 97, 116, 101, 58, 32, 112, 114, 111, 111, 102], 12), ("quorate/api.ErrLeader", [113, 117, 111, 114, 97, 116, 101, 58, 32, 108, 101, 97, 100, 101, 114], 13), ("quorate/api.ErrRound", [113, 117, 111, 114, 97, 116, 101, 58, 32, 114, 111, 117, 110, 100], 1), ("quorate/api.ErrUnsafe", [113, 117, 111, 114, 97, 116, 101, 58, 32, 117, 110, 115, 97, 102, 101], 14), ("quorate/api.ErrParent", [113, 117, 111, 114, 97, 116, 101, 58, 32, 112, 97, 114, 101, 110, 116], 15), ("quorate/api.ErrTwice", [113, 117, 111, 114, 97, 116, 101, 58, 32, 116, 119, 105, 99, 101], 16), ("quorate/api.ErrEpoch", [113, 117, 111, 114, 97, 116, 101, 58, 32, 101, 112, 111, 99, 104], 17)]
def laid18 : List (String × DataW Unit) := [("quorate/api.ErrRange", Rows.laid_quorate_api_ErrRange), ("quorate/api.ErrShort", Rows.laid_quorate_api_ErrShort), ("quorate/api.ErrLong", Rows.laid_quorate_api_ErrLong), ("quorate/api.ErrForm", Rows.laid_quorate_api_ErrForm), ("quorate/api.ErrSpent", Rows.laid_quorate_api_ErrSpent), ("quorate/api.ErrPower", Rows.laid_quorate_api_ErrPower), ("quorate/api.ErrDisk", Rows.laid_quorate_api_ErrDisk), ("quorate/api.ErrFull", Rows.laid_quorate_api_ErrFull), ("quorate/api.ErrNone", Rows.laid_quorate_api_ErrNone), ("quorate/api.ErrOld", Rows.laid_quorate_api_ErrOld), ("quorate/api.ErrSet", Rows.laid_quorate_api_ErrSet), ("quorate/api.ErrProof", Rows.laid_quorate_api_ErrProof), ("quorate/api.ErrLeader", Rows.laid_quorate_api_ErrLeader), ("quorate/api.ErrRound", Rows.laid_quorate_api_ErrRound), ("quorate/api.ErrUnsafe", Rows.laid_quorate_api_ErrUnsafe), ("quorate/api.ErrParent", Rows.laid_quorate_api_ErrParent), ("quorate/api.ErrTwice", Rows.laid_quorate_api_ErrTwice), ("quorate/api.ErrEpoch", Rows.laid_quorate_api_ErrEpoch)]
def G18 : List Nat := [2, 3, 4, 5, 6, 7, 8, 9, 10, 0, 11, 12, 13, 1, 14, 15, 16, 17]
theorem laid18_eq : laid18 = names18.map fun x => (x.1, sentD x.2.1) := rfl
theorem names18_G : names18.map (·.2.2) = G18 := rfl
set_option maxRecDepth 100000 in
theorem globals18 : ∀ x ∈ names18, Tryd.prog.globalNamed x.1 = some x.2.2 ∧ (Tryd.prog.globals[x.2.2]?).map (·.type) = some 31 := by
  intro x hx
  simp only [names18, List.mem_cons, List.not_mem_nil, or_false] at hx
  rcases hx with rfl | rfl | rfl | rfl | rfl | rfl | rfl | rfl | rfl | rfl | rfl | rfl | rfl | rfl | rfl | rfl | rfl | rfl
  all_goals exact ⟨by kernel_rfl, by kernel_rfl⟩
theorem sents18 {W : World} (h : laidMetH Tryd.prog laid18 W) : ∃ A, Sents G18 132 A W := by
  rw [MakeChecks.laidMetH_plain _ _ _ (by kernel_rfl), laid18_eq] at h
  rw [← names18_G]
  exact Sents.of_laid Tryd.underlying31 Tryd.rowE Tryd.underlying132 Tryd.underlying157 rfl rfl Tryd.underlying9 Tryd.cells157 Tryd.cells9 names18 h globals18
theorem door_met18 (os : Os) (args : Array Value) : laidMetH Tryd.prog laid18 ((World.doorLaid Tryd.prog 400 os).forCall (fun _ _ => 0) ⟨#[], args, []⟩).memory :=
  laidMetH_of_parts3 (fuel := 8) (laidMet_of_run' 8 (by kernel_rfl) (by kernel_rfl)) (by kernel_rfl) (by kernel_rfl)

end Go.Proofs.YtadonpfpneanhaaDoor
