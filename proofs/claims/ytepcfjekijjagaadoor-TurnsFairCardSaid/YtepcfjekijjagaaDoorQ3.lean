/- The first round that one leads: what it answers. -/
import Derived.Test.YtepcfjekijjagaaDoorQ2
import Derived.Test.YtepcfjekijjagaaDoorT1
import Derived.Shelf.Abstract
namespace Go.Proofs.YtepcfjekijjagaaDoor
open Go.RowKit Go.Shelf
attribute [local go_sem] Oper.semAt_some

theorem from_any (n r : Int) (w : World) : Calls Tryd.prog 32 #[.int .i64 n, .int .i64 r] w fun e w' =>
    e = .returned (.func (.func 36) #[] #[.pointer (some ⟨w.heap.size, 0, none⟩), .pointer (some ⟨w.heap.size + 1, 0, none⟩)]) ∧ w' = (w.alloc (.cells #[.int .i64 n] 3)).alloc (.cells #[.int .i64 r] 3) := by
  go_enter Tryd.func32, Tryd.ntmps32
  go_wp2
  go_ret
  exact ⟨by simp, rfl⟩

/-- How many rounds on one leads next. -/
def kOf (n who fr : Int) : Int := (who - fr) % n
theorem kOf_in {n who fr : Int} (h1 : 1 ≤ n) : 0 ≤ kOf n who fr ∧ kOf n who fr < n := ⟨Int.emod_nonneg _ (by omega), Int.emod_lt_of_pos _ (by omega)⟩
theorem lead_at {n who fr : Int} (h1 : 1 ≤ n) (h7 : n ≤ 7) (hw0 : 0 ≤ who) (hwn : who < n) (hf : 0 ≤ fr) : leaderOf n (fr + kOf n who fr) = who := by
  have hk := kOf_in (who := who) (fr := fr) h1
  unfold leaderOf
  rw [if_pos (by omega)]
  unfold kOf
  rw [Int.add_emod, Int.emod_emod_of_dvd _ (Int.dvd_refl n), ← Int.add_emod, show fr + (who - fr) = who by omega]
  exact Int.emod_eq_of_lt hw0 hwn
theorem lead_before {n who fr i : Int} (h1 : 1 ≤ n) (h7 : n ≤ 7) (hf : 0 ≤ fr) (hi0 : 0 ≤ i) (hi : i < kOf n who fr) : leaderOf n (fr + i) ≠ who := by
  intro he
  have hk := kOf_in (who := who) (fr := fr) h1
  unfold leaderOf at he
  rw [if_pos (by omega)] at he
  have : kOf n who fr = i := by
    unfold kOf
    rw [← he, Int.sub_emod, Int.emod_emod_of_dvd _ (Int.dvd_refl n), ← Int.sub_emod, show fr + i - fr = i by omega]
    exact Int.emod_eq_of_lt hi0 (by omega)
  omega

/-- Turn's own memory: who is asked for, its two results. -/
structure TAt (w W : World) (b : Nat) (who x : Int) (e : Value) : Prop where
  c0 : W.cell? ⟨b, 0, none⟩ = some (.int .i64 who)
  c1 : W.cell? ⟨b + 1, 0, none⟩ = some (.int .i64 x)
  c2 : W.cell? ⟨b + 1 + 1, 0, none⟩ = some e
  z1 : W.frozen? ⟨b + 1, 0, none⟩ = false
  z2 : W.frozen? ⟨b + 1 + 1, 0, none⟩ = false
  bb : Below b w W
theorem TAt.own {w : World} {b B : Nat} {who : Int} {x : Int} {e : Value} (hB : b ≤ B) {W W' : World} {row : Option Nat} (h : TAt w W b who x e) (hw : b ≤ w.heap.size) (hg : W.grownBy W' row) (hr : ∀ r, row = some r → B ≤ r ∧ ∃ o : Obj, W.heap[r]? = some o ∧ o.isCells = false) : TAt w W' b who x e := by
  have hr2 : ∀ r, row = some r → ∃ o : Obj, W.heap[r]? = some o ∧ o.isCells = false := fun r e => (hr r e).2
  exact ⟨cell_kept h.c0 hg hr2, cell_kept h.c1 hg hr2, cell_kept h.c2 hg hr2, (frozen_kept h.c1 hg hr2).trans h.z1, (frozen_kept h.c2 hg hr2).trans h.z2, h.bb.grown hg (by have := h.bb.size; omega) (fun k e => by have := (hr k e).1; omega)⟩
theorem TAt.bears {w W : World} {b c : Nat} {who x : Int} {e : Value} (hc : b + 1 + 1 < c) (h : TAt w W b who x e) (v : Value) : TAt w (W.setCell ⟨c, 0, none⟩ v) b who x e :=
  ⟨(World.cell?_setCell_other _ _ _ _ (fun e => by cases e; omega)).trans h.c0, (World.cell?_setCell_other _ _ _ _ (fun e => by cases e; omega)).trans h.c1, (World.cell?_setCell_other _ _ _ _ (fun e => by cases e; omega)).trans h.c2,
   by rw [World.frozen?_setCell]; exact h.z1, by rw [World.frozen?_setCell]; exact h.z2, h.bb.setCell (p := ⟨c, 0, none⟩) (show b ≤ c by omega) v⟩
theorem TAt.drew {w W : World} {b : Nat} {who x : Int} {e : Value} (h : TAt w W b who x e) : TAt w W.drew b who x e := ⟨h.c0, h.c1, h.c2, h.z1, h.z2, h.bb.drew⟩
theorem TAt.put {w W : World} {b D : Nat} {who x : Int} {e : Value} {o o' : Obj} (h : TAt w W b who x e) (hD : b ≤ D) (hk : W.heap[D]? = some o) (ho : o.isCells = false) : TAt w (W.putObj D o') b who x e := by
  have hg := grownBy_putObj' W D o'
  have hr2 : ∀ r, some D = some r → ∃ o : Obj, W.heap[r]? = some o ∧ o.isCells = false := fun r e => by cases e; exact ⟨o, hk, ho⟩
  exact ⟨cell_kept h.c0 hg hr2, cell_kept h.c1 hg hr2, cell_kept h.c2 hg hr2, (frozen_kept h.c1 hg hr2).trans h.z1, (frozen_kept h.c2 hg hr2).trans h.z2, h.bb.grown hg (Nat.le_trans hD (Nat.le_of_lt (Array.getElem?_eq_some_iff.1 hk).1)) (fun k e => by cases e; exact hD)⟩
/-- The results are written. -/
theorem TAt.set {w W : World} {b : Nat} {who x : Int} {e : Value} (h : TAt w W b who x e) (y : Int) (u : Value) : TAt w ((W.setCell ⟨b + 1, 0, none⟩ (.int .i64 y)).setCell ⟨b + 1 + 1, 0, none⟩ u) b who y u := by
  refine ⟨?_, ?_, ?_, by rw [World.frozen?_setCell, World.frozen?_setCell]; exact h.z1, by rw [World.frozen?_setCell, World.frozen?_setCell]; exact h.z2, (h.bb.setCell (p := ⟨b + 1, 0, none⟩) (show b ≤ b + 1 by omega) _).setCell (p := ⟨b + 1 + 1, 0, none⟩) (show b ≤ b + 1 + 1 by omega) _⟩
  · exact (World.cell?_setCell_other _ _ _ _ (fun e => by cases e)).trans ((World.cell?_setCell_other _ _ _ _ (fun e => by cases e)).trans h.c0)
  · exact (World.cell?_setCell_other _ _ _ _ (fun e => by cases e)).trans (World.cell?_setCell_same' _ _ _ (by rw [h.c1]; rfl))
  · exact World.cell?_setCell_same' _ _ _ (by rw [World.cell?_setCell_other _ _ _ _ (fun e => by cases e), h.c2]; rfl)
theorem keeps_two (B : Nat) (W : World) (a b : Addr) (u v : Value) : KeepsFrom B W ((W.setCell a u).setCell b v) := ((KeepsOthers.setCell W a u).trans (KeepsOthers.setCell _ b v)).from B

theorem turn_leaves {w W : World} {b D : Nat} {who x : Int} {e : Value} {tmps : Array Value} (h : TAt w W b who x e) (hD : b ≤ D) (hk : W.heap[D]? = some (.deferred (some [])))
    (h6 : tmps[6]?.getD undef = .pointer (some ⟨b + 1, 0, none⟩)) (h7 : tmps[7]?.getD undef = .pointer (some ⟨b + 1 + 1, 0, none⟩)) :
    bodyPostM Fence.wide 3 Tryd.prog Tryd.f13 (fun r w' => r = .returned (.tuple #[.int .i64 x, e]) ∧ Below b w w') .ret { tmps := tmps, defers := [{ target := .collected D, args := #[] }] } W := by
  refine ⟨by simp, .inl ⟨_, _, rfl, run_takeDeferred hk, ?_⟩⟩
  have h' := h.put (o' := .deferred none) hD hk rfl
  obtain ⟨-, c1, c2, -, -, bb⟩ := h'
  refine ⟨.tuple #[.int .i64 x, e], ?_, rfl, bb⟩
  simp [results, Tryd.f13, go_sem, h6, h7, c1, c2]

set_option maxHeartbeats 2000000 in
set_option maxRecDepth 100000 in
theorem turn_good (w : World) (n who fr : Int) (er : Value) (hg1 : w.cell? ⟨1, 0, none⟩ = some (.iface 78 er)) (h1 : 1 ≤ n) (h7 : n ≤ 7) (hw0 : 0 ≤ who) (hwn : who < n) (hf0 : 0 ≤ fr) (hf1 : fr ≤ 9223372036854775807) :
    Calls Tryd.prog 13 #[.int .i64 n, .int .i64 who, .int .i64 fr] w fun e w' =>
      e = .returned (if fr + kOf n who fr ≤ 1099511627776 then .tuple #[.int .i64 (fr + kOf n who fr), .nilIface] else .tuple #[.int .i64 0, .iface 78 er]) ∧ Below w.heap.size w w' := by
  obtain ⟨res, hres⟩ : ∃ v, v = (if fr + kOf n who fr ≤ 1099511627776 then Value.tuple #[.int .i64 (fr + kOf n who fr), .nilIface] else .tuple #[.int .i64 0, .iface 78 er]) := ⟨_, rfl⟩
  rw [← hres]
  have HR := Lib.hid hres
  clear hres
  have hG1 : 1 < w.heap.size := lt_of_cell hg1
  have HG := Lib.hid hg1
  have HLA := Lib.hid (lead_at h1 h7 hw0 hwn hf0)
  have HLB := Lib.hid (fun i : Int => lead_before (who := who) (i := i) h1 h7 hf0)
  have HK := Lib.hid (kOf_in (n := n) (who := who) (fr := fr) h1)
  have HP := Lib.hid (show GoodP n fr from ⟨h1, h7, hf0⟩)
  have HF1 := Lib.hid hf1
  refine (callsIn_wide (n := 3)).1 ?_
  refine callsIn_of_wp_marks Tryd.func13 rfl trivial ?_ rfl
  simp only [Tryd.ntmps13, List.size_toArray, List.length_cons, List.length_nil, Nat.reduceAdd, Nat.reduceSub, Array.replicate_succ, Array.replicate_zero, List.push_toArray, List.append_toArray, List.nil_append, List.cons_append]
  have hfew : decide (1 ≤ n ∧ n ≤ 7) = true := by simp; omega
  have hb1 : decide (who < 0) = false := by simp; omega
  have hb2 : decide (n ≤ who) = false := by simp; omega
  have hb3 : decide (fr < 0) = false := by simp; omega
  clear hg1 h1 h7 hw0 hwn hf0 hf1
  gi_wp2_with (first
    | (refine ⟨trivial, ?_⟩; (with_reducible refine (callsIn_wide.2 (few_any _ _)).mono ?_); rintro e w' ⟨rfl, rfl⟩)
    | (refine ⟨trivial, ?_⟩; (with_reducible refine (callsIn_wide.2 (from_any _ _ _)).mono ?_); rintro e w' ⟨rfl, rfl⟩))
  clear hfew hb1 hb2 hb3
  have hT : TAt w (((((w.alloc (.cells #[.int .i64 who] 3)).alloc (.cells #[.int .i64 0] 3)).alloc (.cells #[.nilIface] 26)).alloc (.cells #[.int .i64 n] 3)).alloc (.cells #[.int .i64 fr] 3)) w.heap.size who 0 .nilIface := by
    refine ⟨by go_simp, by go_simp, by go_simp, by go_simp, by go_simp, ?_⟩
    exact (((((Below.refl _ w).alloc (Nat.le_refl _) _).alloc (by simp) _).alloc (by rw [World.size_alloc, World.size_alloc]; omega) _).alloc (by rw [World.size_alloc, World.size_alloc, World.size_alloc]; omega) _).alloc (by rw [World.size_alloc, World.size_alloc, World.size_alloc, World.size_alloc]; omega) _
  have hF : FromAt (((((w.alloc (.cells #[.int .i64 who] 3)).alloc (.cells #[.int .i64 0] 3)).alloc (.cells #[.nilIface] 26)).alloc (.cells #[.int .i64 n] 3)).alloc (.cells #[.int .i64 fr] 3)) (w.heap.size + 1 + 1 + 1) (w.heap.size + 1 + 1 + 1 + 1) n fr :=
    ⟨by go_simp, by go_simp, by go_simp⟩
  have hsz : (((((w.alloc (.cells #[.int .i64 who] 3)).alloc (.cells #[.int .i64 0] 3)).alloc (.cells #[.nilIface] 26)).alloc (.cells #[.int .i64 n] 3)).alloc (.cells #[.int .i64 fr] 3)).heap.size = w.heap.size + 5 := by simp
  generalize (((((w.alloc (.cells #[.int .i64 who] 3)).alloc (.cells #[.int .i64 0] 3)).alloc (.cells #[.nilIface] 26)).alloc (.cells #[.int .i64 n] 3)).alloc (.cells #[.int .i64 fr] 3)) = W0 at hT hF hsz ⊢
  refine wpIn_range_own rfl (by decide) (gf := 36) (lb := #[.pointer (some ⟨w.heap.size + 1 + 1 + 1, 0, none⟩), .pointer (some ⟨w.heap.size + 1 + 1 + 1 + 1, 0, none⟩)]) rfl trivial (enters_of Tryd.func36 (by kernel_rfl) rfl)
    (encs := encR n fr) (c := w.heap.size + 1 + 1 + 1 + 1) (d := w.heap.size + 1 + 1 + 1) (by omega) (by omega)
    (from_iter _ n fr (w.heap.size + 1 + 1 + 1) (w.heap.size + 1 + 1 + 1 + 1) (by omega) (by have := HP.out.2.2; omega) HF1.out) (fun W hW => hF.later hW) (fun _ => rfl)
    (fun pre W => TAt w W w.heap.size who 0 .nilIface ∧ ∀ i : Nat, i < pre.length → leaderOf n (fr + i) ≠ who)
    (fun j pre W => j = .ret ∧ ∃ i : Nat, leaderOf n (fr + i) = who ∧ (∀ i' : Nat, i' < i → leaderOf n (fr + i') ≠ who) ∧ fr + (i : Int) ≤ 1099511627776 ∧ TAt w W w.heap.size who (fr + i) .nilIface)
    (fun s A B row hs hg hr => ⟨hs.1.own (by omega) (Nat.le_refl _) hg hr, hs.2⟩)
    (fun j s A B row hs hg hr => by obtain ⟨hj, i, g1, g2, g3, g4⟩ := hs; exact ⟨hj, i, g1, g2, g3, g4.own (by omega) (Nat.le_refl _) hg hr⟩)
    ⟨fun s A v hs => ⟨hs.1.bears (by omega) v, hs.2⟩, fun s A hs => ⟨hs.1.drew, hs.2⟩⟩
    (fun j => ⟨fun s A v hs => by obtain ⟨hj, i, g1, g2, g3, g4⟩ := hs; exact ⟨hj, i, g1, g2, g3, g4.bears (by omega) v⟩, fun s A hs => by obtain ⟨hj, i, g1, g2, g3, g4⟩ := hs; exact ⟨hj, i, g1, g2, g3, g4.drew⟩⟩)
    ⟨hT, fun i hi => absurd hi (by simp)⟩
    (fun x => { tmps := #[.int .i64 n, .int .i64 who, .int .i64 fr, undef, .pointer (some ⟨w.heap.size, 0, none⟩), undef, .pointer (some ⟨w.heap.size + 1, 0, none⟩), .pointer (some ⟨w.heap.size + 1 + 1, 0, none⟩), .int .i64 (fr + x), .int .i64 (leaderOf n (fr + x)), .int .i64 n, .bool true, .bool false, .bool false, .int .i64 who, .bool false, .bool false, .bool false, .int .i64 who, .int .i64 n, .bool false, .bool false, .bool false, .int .i64 fr, .bool false, .bool false, undef, .int .i64 n, .int .i64 fr, .func (.func 36) #[] #[.pointer (some ⟨w.heap.size + 1 + 1 + 1, 0, none⟩), .pointer (some ⟨w.heap.size + 1 + 1 + 1 + 1, 0, none⟩)], .int .i64 (fr + x), .int .i64 (leaderOf n (fr + x)), undef, undef, undef, undef, undef], defers := [] }) ?assign ?body ?done ?stop
  case assign =>
    intro l x W K hK
    gi_wp2
    exact hK
  case body =>
    rintro l pre x W hl ⟨hTp, hno⟩ ⟨rfl, hG, hle⟩
    have HT := Lib.hid hTp
    obtain ⟨k0, k1, k2, z1, z2, -⟩ := hTp
    by_cases hx : leaderOf n (fr + (pre.length : Int)) = who
    · have hxb : (leaderOf n (fr + (pre.length : Int)) == who) = true := by simpa using hx
      have HX := Lib.hid hx
      have HN := Lib.hid hno
      clear hx hno
      gi_wp2
      exact ⟨keeps_two _ _ _ _ _ _, rfl, pre.length, HX.out, HN.out, hle, HT.out.set _ _⟩
    · have hxb : (leaderOf n (fr + (pre.length : Int)) == who) = false := by simpa using hx
      have HN := Lib.hid hno
      have HX := Lib.hid hx
      clear hx hno
      gi_wp2
      refine ⟨KeepsFrom.refl _ _, ⟨rfl, rfl⟩, HT.out, fun i hi => ?_⟩
      rw [List.length_append, List.length_singleton] at hi
      by_cases he : i = pre.length
      · subst he; exact HX.out
      · exact HN.out i (by omega)
  case done =>
    rintro D xs W hD hS ⟨hTp, hno⟩ hK
    have HT := Lib.hid hTp
    have HKd := Lib.hid hK
    have HNo := Lib.hid (show ¬ fr + kOf n who fr ≤ 1099511627776 by
      intro hc
      obtain ⟨q0, q1⟩ := HK.out
      have hlt : kOf n who fr < xs.length := by
        rcases hS with ⟨h0, -⟩ | ⟨-, h2, h3⟩
        · exact absurd HP.out h0
        · omega
      have := hno (kOf n who fr).toNat (by omega)
      rw [Int.toNat_of_nonneg q0] at this
      exact this HLA.out)
    clear hno hS
    have hg1 := (hTp.bb.cell (p := ⟨1, 0, none⟩) hG1).trans HG.out
    obtain ⟨k0, k1, k2, z1, z2, -⟩ := hTp
    gi_wp2_with fail
    gi_region
    all_goals gi_wp2_with fail
    all_goals rw [show res = .tuple #[.int .i64 0, .iface 78 er] from HR.out.trans (if_neg (by have := HNo.out; omega))]
    all_goals exact turn_leaves ((HT.out.set 0 (.iface 78 er)).drew) (by omega) ((((KeepsOthers.setCell W _ _).trans (KeepsOthers.setCell _ _ _)).trans (KeepsOthers.drew _)).same D _ HKd.out rfl) rfl rfl
  case stop =>
    rintro D j pre W hD hS ⟨rfl, i, g1, g2, g3, hTp⟩ hK
    have hik : (i : Int) = kOf n who fr := by
      obtain ⟨q0, q1⟩ := HK.out
      rcases Int.lt_trichotomy (i : Int) (kOf n who fr) with hc | hc | hc
      · exact absurd g1 (HLB.out i (by omega) hc)
      · exact hc
      · have := g2 (kOf n who fr).toNat (by omega)
        rw [Int.toNat_of_nonneg q0] at this
        exact absurd HLA.out this
    rw [hik] at g3 hTp
    clear g1 g2 hik
    have HT := Lib.hid hTp
    have HKd := Lib.hid hK
    have HNo := Lib.hid g3
    clear g3
    obtain ⟨k0, k1, k2, z1, z2, -⟩ := hTp
    gi_wp2_with fail
    rw [show res = .tuple #[.int .i64 (fr + kOf n who fr), .nilIface] from HR.out.trans (if_pos (by have := HNo.out; omega))]
    exact turn_leaves HT.out (by omega) HKd.out rfl rfl

end Go.Proofs.YtepcfjekijjagaaDoor
