/- The walk of TurnsFrom: rounds from one on, each with its leader, as many as are asked for. -/
import Derived.Test.YtepcfjekijjagaaZ3
import Derived.Shelf.Abstract
namespace Go.Proofs.Ytepcfjekijjagaa
open Go.RowKit Go.Shelf
attribute [local go_sem] Oper.semAt_some

theorem from_any (n r : Int) (w : World) : Calls Try.prog 8 #[.int .i64 n, .int .i64 r] w fun e w' =>
    e = .returned (.func (.func 13) #[] #[.pointer (some ⟨w.heap.size, 0, none⟩), .pointer (some ⟨w.heap.size + 1, 0, none⟩)]) ∧ w' = (w.alloc (.cells #[.int .i64 n] 3)).alloc (.cells #[.int .i64 r] 3) := by
  go_enter Try.func8, Try.ntmps8
  go_wp2
  go_ret
  exact ⟨by simp, rfl⟩

/-- The law's own memory. -/
structure FAt (w W : World) (b : Nat) (n r m : Int) (ok : Bool) (k : Int) : Prop where
  c0 : W.cell? ⟨b, 0, none⟩ = some (.int .i64 n)
  c1 : W.cell? ⟨b + 1, 0, none⟩ = some (.int .i64 r)
  c2 : W.cell? ⟨b + 1 + 1, 0, none⟩ = some (.int .i64 m)
  c3 : W.cell? ⟨b + 1 + 1 + 1, 0, none⟩ = some (.bool ok)
  c4 : W.cell? ⟨b + 1 + 1 + 1 + 1, 0, none⟩ = some (.int .i64 k)
  z3 : W.frozen? ⟨b + 1 + 1 + 1, 0, none⟩ = false
  z4 : W.frozen? ⟨b + 1 + 1 + 1 + 1, 0, none⟩ = false
  bb : Below b w W
section
variable {w W W' : World} {b B c D : Nat} {n r m k : Int} {ok : Bool}
theorem FAt.own {row : Option Nat} (hB : b ≤ B) (h : FAt w W b n r m ok k) (hw : b ≤ w.heap.size) (hg : W.grownBy W' row) (hr : ∀ r, row = some r → B ≤ r ∧ ∃ o : Obj, W.heap[r]? = some o ∧ o.isCells = false) : FAt w W' b n r m ok k := by
  have hr2 : ∀ r, row = some r → ∃ o : Obj, W.heap[r]? = some o ∧ o.isCells = false := fun r e => (hr r e).2
  exact ⟨cell_kept h.c0 hg hr2, cell_kept h.c1 hg hr2, cell_kept h.c2 hg hr2, cell_kept h.c3 hg hr2, cell_kept h.c4 hg hr2, (frozen_kept h.c3 hg hr2).trans h.z3, (frozen_kept h.c4 hg hr2).trans h.z4, h.bb.grown hg (by have := h.bb.size; omega) (fun k e => by have := (hr k e).1; omega)⟩
theorem FAt.bears (hc : b + 1 + 1 + 1 + 1 < c) (h : FAt w W b n r m ok k) (v : Value) : FAt w (W.setCell ⟨c, 0, none⟩ v) b n r m ok k :=
  ⟨(World.cell?_setCell_other _ _ _ _ (fun e => by cases e; omega)).trans h.c0, (World.cell?_setCell_other _ _ _ _ (fun e => by cases e; omega)).trans h.c1, (World.cell?_setCell_other _ _ _ _ (fun e => by cases e; omega)).trans h.c2, (World.cell?_setCell_other _ _ _ _ (fun e => by cases e; omega)).trans h.c3, (World.cell?_setCell_other _ _ _ _ (fun e => by cases e; omega)).trans h.c4,
   by rw [World.frozen?_setCell]; exact h.z3, by rw [World.frozen?_setCell]; exact h.z4, h.bb.setCell (p := ⟨c, 0, none⟩) (show b ≤ c by omega) v⟩
theorem FAt.drew (h : FAt w W b n r m ok k) : FAt w W.drew b n r m ok k := ⟨h.c0, h.c1, h.c2, h.c3, h.c4, h.z3, h.z4, h.bb.drew⟩
theorem FAt.put {o o' : Obj} (h : FAt w W b n r m ok k) (hbw : b ≤ w.heap.size) (hD : b ≤ D) (hk : W.heap[D]? = some o) (ho : o.isCells = false) : FAt w (W.putObj D o') b n r m ok k :=
  h.own hD hbw (grownBy_putObj' W D o') (fun r e => by cases e; exact ⟨Nat.le_refl _, o, hk, ho⟩)
theorem FAt.setK (h : FAt w W b n r m ok k) (k' : Int) : FAt w (W.setCell ⟨b + 1 + 1 + 1 + 1, 0, none⟩ (.int .i64 k')) b n r m ok k' :=
  ⟨(World.cell?_setCell_other _ _ _ _ (fun e => by cases e)).trans h.c0, (World.cell?_setCell_other _ _ _ _ (fun e => by cases e)).trans h.c1, (World.cell?_setCell_other _ _ _ _ (fun e => by cases e)).trans h.c2, (World.cell?_setCell_other _ _ _ _ (fun e => by cases e)).trans h.c3, World.cell?_setCell_same' _ _ _ (by rw [h.c4]; rfl),
   by rw [World.frozen?_setCell]; exact h.z3, by rw [World.frozen?_setCell]; exact h.z4, h.bb.setCell (p := ⟨b + 1 + 1 + 1 + 1, 0, none⟩) (show b ≤ b + 1 + 1 + 1 + 1 by omega) _⟩
theorem FAt.setOk (h : FAt w W b n r m ok k) (o : Bool) : FAt w (W.setCell ⟨b + 1 + 1 + 1, 0, none⟩ (.bool o)) b n r m o k :=
  ⟨(World.cell?_setCell_other _ _ _ _ (fun e => by cases e)).trans h.c0, (World.cell?_setCell_other _ _ _ _ (fun e => by cases e)).trans h.c1, (World.cell?_setCell_other _ _ _ _ (fun e => by cases e)).trans h.c2, World.cell?_setCell_same' _ _ _ (by rw [h.c3]; rfl), (World.cell?_setCell_other _ _ _ _ (fun e => by cases e)).trans h.c4,
   by rw [World.frozen?_setCell]; exact h.z3, by rw [World.frozen?_setCell]; exact h.z4, h.bb.setCell (p := ⟨b + 1 + 1 + 1, 0, none⟩) (show b ≤ b + 1 + 1 + 1 by omega) _⟩
end

theorem from_leaves {w W : World} {D : Nat} {n r m k : Int} {tmps : Array Value} (h : FAt w W w.heap.size n r m true k) (hD : w.heap.size ≤ D) (hk : W.heap[D]? = some (.deferred (some [])))
    (h6 : tmps[6]?.getD undef = .pointer (some ⟨w.heap.size + 1 + 1 + 1, 0, none⟩)) :
    bodyPostM Fence.wide 3 Try.prog Try.f4 (fun r w' => r = .returned (.bool true) ∧ Below w.heap.size w w') .ret { tmps := tmps, defers := [{ target := .collected D, args := #[] }] } W := by
  refine ⟨by simp, .inl ⟨_, _, rfl, run_takeDeferred hk, ?_⟩⟩
  have h' := h.put (o' := .deferred none) (Nat.le_refl _) hD hk rfl
  obtain ⟨-, -, -, c3, -, -, -, bb⟩ := h'
  refine ⟨.bool true, ?_, rfl, bb⟩
  simp [results, Try.f4, go_sem, h6, c3]

set_option maxHeartbeats 2000000 in
set_option maxRecDepth 100000 in
theorem turnsFrom_walk (w : World) (n r many : Int) (hr1 : -9223372036854775808 ≤ r) (hr2 : r ≤ 9223372036854775807) :
    Calls Try.prog 4 #[.int .i64 n, .int .i64 r, .int .i64 many] w fun e w' => e = .returned (.bool true) ∧ Below w.heap.size w w' := by
  have HR := Lib.hid (And.intro hr1 hr2)
  refine (callsIn_wide (n := 3)).1 ?_
  refine callsIn_of_wp_marks Try.func4 rfl trivial ?_ rfl
  simp only [Try.ntmps4, List.size_toArray, List.length_cons, List.length_nil, Nat.reduceAdd, Nat.reduceSub, Array.replicate_succ, Array.replicate_zero, List.push_toArray, List.append_toArray, List.nil_append, List.cons_append]
  clear hr1 hr2
  gi_wp2_with (first
    | (refine ⟨trivial, ?_⟩; (with_reducible refine (callsIn_wide.2 (alive12 _)).mono ?_); rintro e w' ⟨rfl, rfl⟩)
    | (refine ⟨trivial, ?_⟩; (with_reducible refine (callsIn_wide.2 (from_any _ _ _)).mono ?_); rintro e w' ⟨rfl, rfl⟩))
  generalize IntKind.u64.wrap many = U
  generalize U.tmod 20 = T
  generalize wrap64 T = m
  have hT : FAt w (((((((w.alloc (.cells #[.int .i64 n] 3)).alloc (.cells #[.int .i64 r] 3)).alloc (.cells #[.int .i64 m] 3)).alloc (.cells #[.bool false] 4)).alloc (.cells #[.int .i64 0] 3)).alloc (.cells #[.int .i64 n] 3)).alloc (.cells #[.int .i64 r] 3)) w.heap.size n r m false 0 := by
    refine ⟨by go_simp, by go_simp, by go_simp, by go_simp, by go_simp, by go_simp, by go_simp, ?_⟩
    exact (((((((Below.refl _ w).alloc (Nat.le_refl _) _).alloc (by simp) _).alloc (by rw [World.size_alloc, World.size_alloc]; omega) _).alloc (by rw [World.size_alloc, World.size_alloc, World.size_alloc]; omega) _).alloc (by rw [World.size_alloc, World.size_alloc, World.size_alloc, World.size_alloc]; omega) _).alloc (by rw [World.size_alloc, World.size_alloc, World.size_alloc, World.size_alloc, World.size_alloc]; omega) _).alloc (by rw [World.size_alloc, World.size_alloc, World.size_alloc, World.size_alloc, World.size_alloc, World.size_alloc]; omega) _
  have hF : FromAt (((((((w.alloc (.cells #[.int .i64 n] 3)).alloc (.cells #[.int .i64 r] 3)).alloc (.cells #[.int .i64 m] 3)).alloc (.cells #[.bool false] 4)).alloc (.cells #[.int .i64 0] 3)).alloc (.cells #[.int .i64 n] 3)).alloc (.cells #[.int .i64 r] 3)) (w.heap.size + 1 + 1 + 1 + 1 + 1) (w.heap.size + 1 + 1 + 1 + 1 + 1 + 1) n r := ⟨by go_simp, by go_simp, by go_simp⟩
  have hsz : (((((((w.alloc (.cells #[.int .i64 n] 3)).alloc (.cells #[.int .i64 r] 3)).alloc (.cells #[.int .i64 m] 3)).alloc (.cells #[.bool false] 4)).alloc (.cells #[.int .i64 0] 3)).alloc (.cells #[.int .i64 n] 3)).alloc (.cells #[.int .i64 r] 3)).heap.size = w.heap.size + 7 := by simp
  generalize (((((((w.alloc (.cells #[.int .i64 n] 3)).alloc (.cells #[.int .i64 r] 3)).alloc (.cells #[.int .i64 m] 3)).alloc (.cells #[.bool false] 4)).alloc (.cells #[.int .i64 0] 3)).alloc (.cells #[.int .i64 n] 3)).alloc (.cells #[.int .i64 r] 3)) = W0 at hT hF hsz ⊢
  refine wpIn_range_own rfl (by decide) (gf := 13) (lb := #[.pointer (some ⟨w.heap.size + 1 + 1 + 1 + 1 + 1, 0, none⟩), .pointer (some ⟨w.heap.size + 1 + 1 + 1 + 1 + 1 + 1, 0, none⟩)]) rfl trivial (enters_of Try.func13 (by kernel_rfl) rfl)
    (encs := encR n r) (c := w.heap.size + 1 + 1 + 1 + 1 + 1 + 1) (d := w.heap.size + 1 + 1 + 1 + 1 + 1) (by omega) (by omega)
    (from_iter _ n r (w.heap.size + 1 + 1 + 1 + 1 + 1) (w.heap.size + 1 + 1 + 1 + 1 + 1 + 1) (by omega) HR.out.1 HR.out.2) (fun W hW => hF.later hW) (fun _ => rfl)
    (fun pre W => FAt w W w.heap.size n r m false pre.length)
    (fun j pre W => j = .ret ∧ ∃ k, FAt w W w.heap.size n r m true k)
    (fun s A B row hs hg hr => hs.own (by omega) (Nat.le_refl _) hg hr)
    (fun j s A B row hs hg hr => by obtain ⟨hj, k, g4⟩ := hs; exact ⟨hj, k, g4.own (by omega) (Nat.le_refl _) hg hr⟩)
    ⟨fun s A v hs => hs.bears (by omega) v, fun s A hs => hs.drew⟩
    (fun j => ⟨fun s A v hs => by obtain ⟨hj, k, g4⟩ := hs; exact ⟨hj, k, g4.bears (by omega) v⟩, fun s A hs => by obtain ⟨hj, k, g4⟩ := hs; exact ⟨hj, k, g4.drew⟩⟩)
    hT
    (fun x => { tmps := #[.int .i64 n, .int .i64 r, .int .i64 many, .pointer (some ⟨w.heap.size, 0, none⟩), .pointer (some ⟨w.heap.size + 1, 0, none⟩), .pointer (some ⟨w.heap.size + 1 + 1, 0, none⟩), .pointer (some ⟨w.heap.size + 1 + 1 + 1, 0, none⟩), .pointer (some ⟨w.heap.size + 1 + 1 + 1 + 1, 0, none⟩), .int .i64 (r + x), .int .i64 (leaderOf n (r + x)), .bool true, .bool false, .int .i64 many, .int .u64 U, .int .u64 T, .int .i64 m, .int .i64 n, .int .i64 r, .func (.func 13) #[] #[.pointer (some ⟨w.heap.size + 1 + 1 + 1 + 1 + 1, 0, none⟩), .pointer (some ⟨w.heap.size + 1 + 1 + 1 + 1 + 1 + 1, 0, none⟩)], .int .i64 (r + x), .int .i64 (leaderOf n (r + x)), undef, undef, undef, undef, undef, undef, undef, undef, undef, undef, undef, undef, undef, undef, undef, undef, undef, undef, undef, undef, undef, undef, undef, undef, undef, undef, undef, undef, undef, undef, undef, undef, undef, undef, undef, undef, undef], defers := [] }) ?assign ?body ?done ?stop
  case assign =>
    intro l x W K hK
    gi_wp2
    exact hK
  case body =>
    rintro l pre x W hl hTp ⟨rfl, hG, hle⟩
    have HT := Lib.hid hTp
    obtain ⟨k0, k1, k2, k3, k4, z3, z4, -⟩ := hTp
    by_cases hx : (pre.length : Int) = m
    · have hxb : ((pre.length : Int) == m) = true := by simpa using hx
      clear hx
      gi_wp2
      exact ⟨(KeepsOthers.setCell _ _ _).from _, rfl, _, HT.out.setOk true⟩
    · have hxb : ((pre.length : Int) == m) = false := by simpa using hx
      have hr0 : 0 ≤ r := hG.2.2
      clear hx
      gi_wp2_with (refine ⟨trivial, ?_⟩; refine (CallsIn.inRound l (callsIn_wide.2 (refLeader_any _ _ _))).mono ?_; rintro e w' ⟨rfl, rfl⟩)
      refine ⟨(KeepsOthers.setCell _ _ _).from _, ⟨World.setCell_other_heap _ (by omega), World.setCell_other_heap _ (by omega)⟩, ?_⟩
      have := HT.out.setK ((pre.length : Int) + 1)
      simpa using this
  case done =>
    rintro D xs W hD hS hTp hK
    have HT := Lib.hid hTp
    have HKd := Lib.hid hK
    obtain ⟨k0, k1, k2, k3, k4, z3, z4, -⟩ := hTp
    rcases hS with ⟨hG, hx⟩ | ⟨hG, h2, h3⟩
    · have hl : leaderOf n r = -1 := by unfold GoodP at hG; unfold leaderOf; rw [if_neg hG]
      have hx0 : ((xs.length : Int) == 0) = true := by rw [hx]; rfl
      clear hx hG
      gi_wp2_with (refine ⟨trivial, ?_⟩; (with_reducible refine (callsIn_wide.2 (refLeader_any _ _ _)).mono ?_); rintro e w' ⟨rfl, rfl⟩)
      exact from_leaves (HT.out.setOk true) (by omega) ((KeepsOthers.setCell W _ _).same D _ HKd.out rfl) rfl
    · have hl := (leader_good hG 0).2
      simp only [Int.ofNat_zero, Int.add_zero] at hl
      have hl0 : decide (leaderOf n r < 0) = false := by simp; omega
      have hr0 : 0 ≤ r := hG.2.2
      clear hG hl
      by_cases hr : 1099511627776 < r
      · have hx0 : ((xs.length : Int) == 0) = true := by rw [show xs.length = 0 by omega]; rfl
        clear h2 h3
        gi_wp2_with (refine ⟨trivial, ?_⟩; (with_reducible refine (callsIn_wide.2 (refLeader_any _ _ _)).mono ?_); rintro e w' ⟨rfl, rfl⟩)
        exact from_leaves (HT.out.setOk true) (by omega) ((KeepsOthers.setCell W _ _).same D _ HKd.out rfl) rfl
      · have hle : r ≤ 1099511627776 := by omega
        have hx0 : ((1099511627776 - r : Int) == (xs.length : Int) - 1) = true := by simp; omega
        have hx1 : (1 : Int) ≤ xs.length := by omega
        have hx2 : (xs.length : Int) ≤ 1099511627777 := by omega
        clear h2 h3 hr
        gi_wp2_with (refine ⟨trivial, ?_⟩; (with_reducible refine (callsIn_wide.2 (refLeader_any _ _ _)).mono ?_); rintro e w' ⟨rfl, rfl⟩)
        exact from_leaves (HT.out.setOk true) (by omega) ((KeepsOthers.setCell W _ _).same D _ HKd.out rfl) rfl
  case stop =>
    rintro D j pre W hD hS ⟨rfl, k, hTp⟩ hK
    gi_wp2_with fail
    exact from_leaves hTp (by omega) hK rfl

end Go.Proofs.Ytepcfjekijjagaa
