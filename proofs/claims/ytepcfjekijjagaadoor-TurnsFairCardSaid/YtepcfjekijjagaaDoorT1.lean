/- The walk of TurnsLeaders, and what the laws of the turns share. -/
import Derived.Test.YtepcfjekijjagaaDoorA3
import Derived.Test.YtepcfjekijjagaaDoorE2
namespace Go.Proofs.YtepcfjekijjagaaDoor
open Go.RowKit

theorem refLeader_any (n r : Int) (w : World) : Calls Tryd.prog 23 #[.int .i64 n, .int .i64 r] w fun e w' => e = .returned (.int .i64 (leaderOf n r)) ∧ w = w' := by
  unfold leaderOf
  by_cases h1 : 1 ≤ n
  · by_cases h7 : n ≤ 7
    · by_cases hr : 0 ≤ r
      · rw [if_pos ⟨h1, h7, hr⟩]
        go_enter Tryd.func23, Tryd.ntmps23
        go_wp2
        go_ret
        exact ⟨rfl, rfl⟩
      · rw [if_neg (by omega)]
        go_enter Tryd.func23, Tryd.ntmps23
        go_wp2
        go_ret
        exact ⟨rfl, rfl⟩
    · rw [if_neg (by omega)]
      go_enter Tryd.func23, Tryd.ntmps23
      go_wp2
      go_ret
      exact ⟨rfl, rfl⟩
  · rw [if_neg (by omega)]
    go_enter Tryd.func23, Tryd.ntmps23
    go_wp2
    go_ret
    exact ⟨rfl, rfl⟩
theorem refWait_any (f : Int) (w : World) : Calls Tryd.prog 25 #[.int .i64 f] w fun e w' => e = .returned (.int .i64 (waitOf f)) ∧ w = w' := by
  unfold waitOf
  by_cases h0 : f ≤ 0
  · rw [if_pos h0]
    go_enter Tryd.func25, Tryd.ntmps25
    go_wp2
    go_ret
    exact ⟨rfl, rfl⟩
  · rw [if_neg h0]
    by_cases h1 : f = 1
    · subst h1
      go_enter Tryd.func25, Tryd.ntmps25
      go_wp2
      go_ret
      exact ⟨rfl, rfl⟩
    · rw [if_neg h1]
      by_cases h2 : f = 2
      · subst h2
        go_enter Tryd.func25, Tryd.ntmps25
        go_wp2
        go_ret
        exact ⟨rfl, rfl⟩
      · rw [if_neg h2]
        go_enter Tryd.func25, Tryd.ntmps25
        go_wp2
        go_ret
        exact ⟨rfl, rfl⟩

theorem alive12 (w : World) : Calls Tryd.prog 11 #[] w fun e w' => e = .returned (.bool true) ∧ w = w' := by
  go_enter Tryd.func11, Tryd.ntmps11
  go_wp2_with fail
  refine (leader_any 4 6 _).mono ?_
  rintro e w1 ⟨rfl, rfl⟩
  rw [show leaderOf 4 6 = 2 by decide]
  go_wp2_with fail
  refine (wait_any 0 _ (by omega)).mono ?_
  rintro e w1 ⟨rfl, rfl⟩
  rw [show waitOf 0 = 2 by decide]
  go_wp2_with fail
  refine (wait_any 3 _ (by omega)).mono ?_
  rintro e w1 ⟨rfl, rfl⟩
  rw [show waitOf 3 = 16 by decide]
  go_wp2_with fail
  refine (wait_any 9 _ (by omega)).mono ?_
  rintro e w1 ⟨rfl, rfl⟩
  rw [show waitOf 9 = 16 by decide]
  go_wp2_with fail
  go_ret
  exact ⟨rfl, rfl⟩

theorem Sents.G18_lt {A : List Addr} {w : World} (h : Sents G18 78 A w) : (∀ g ∈ G18, g < w.heap.size) ∧ (∀ a ∈ A, a.block < w.heap.size) := by
  refine ⟨fun g hg => ?_, fun a ha => ?_⟩
  · obtain ⟨i, hi⟩ := List.getElem?_of_mem hg
    have hlt := (List.getElem?_eq_some_iff.1 hi).1
    have : i < A.length := by rw [h.len]; exact hlt
    have hc := h.cell i g _ hi (List.getElem?_eq_getElem this)
    exact lt_of_cell hc
  · obtain ⟨c, t, e⟩ := h.row a ha
    exact (Array.getElem?_eq_some_iff.1 e).1
theorem Sents.later {A : List Addr} {w w' : World} (h : Sents G18 78 A w) (hb : Below w.heap.size w w') : Sents G18 78 A w' := h.below hb h.G18_lt.1 h.G18_lt.2
theorem Sents.drewN {A : List Addr} {w : World} (h : Sents G18 78 A w) (n : Nat) : Sents G18 78 A (w.drewN n) := h.later (below_drewN_self _ _ _)

set_option maxHeartbeats 1000000 in
set_option maxRecDepth 100000 in
theorem turnsLeaders_walk (A : List Addr) (w : World) (h : Sents G18 78 A w) (n : Int) (_ : (Lit.int .i64 n).wf = true) (round : Int) (_ : (Lit.int .i64 round).wf = true) (fails : Int) (hf : (Lit.int .i64 fails).wf = true) :
    Calls Tryd.prog 7 #[.int .i64 n, .int .i64 round, .int .i64 fails] w fun e w' => e = .returned (.bool true) ∧ Below w.heap.size w w' := by
  have hf2 : fails ≤ 9223372036854775807 := by have := bounds_i64 hf; omega
  clear hf
  by_cases hr : 0 ≤ round ∧ round < 1099511627776
  · obtain ⟨hr0, hr1⟩ := hr
    clear h
    go_enter Tryd.func7, Tryd.ntmps7
    go_wp2_with fail
    refine (alive12 _).mono ?_
    rintro e w1 ⟨rfl, rfl⟩
    go_wp2_with fail
    refine (next_ok round _ hr0 hr1).mono ?_
    rintro e w1 ⟨rfl, rfl⟩
    go_wp2_with fail
    refine (leader_any n round _).mono ?_
    rintro e w1 ⟨rfl, rfl⟩
    go_wp2_with fail
    refine (refLeader_any n round _).mono ?_
    rintro e w1 ⟨rfl, rfl⟩
    go_wp2_with fail
    refine (wait_any fails _ hf2).mono ?_
    rintro e w1 ⟨rfl, rfl⟩
    go_wp2_with fail
    refine (refWait_any fails _).mono ?_
    rintro e w1 ⟨rfl, rfl⟩
    go_wp2_with fail
    go_ret
    exact ⟨rfl, Below.refl _ _⟩
  · have hl := h.len
    obtain ⟨a, ha⟩ : ∃ a, A[13]? = some a := ⟨A[13]'(by rw [hl]; decide), by simp [hl, G18]⟩
    have hc := h.cell 13 1 a rfl ha
    have hcase : round < 0 ∨ 1099511627776 ≤ round := by omega
    clear hr
    have HS := Lib.hid h
    clear h
    rcases hcase with hcase | hcase
    all_goals
      go_enter Tryd.func7, Tryd.ntmps7
      go_wp2_with fail
      refine (alive12 _).mono ?_
      rintro e w1 ⟨rfl, rfl⟩
      go_wp2_with fail
      refine (next_err round _ _ hc (by omega)).mono ?_
      rintro e w1 ⟨rfl, k, rfl⟩
      go_wp2_with fail
      refine (leader_any n round _).mono ?_
      rintro e w1 ⟨rfl, rfl⟩
      go_wp2_with fail
      refine (refLeader_any n round _).mono ?_
      rintro e w1 ⟨rfl, rfl⟩
      go_wp2_with fail
      refine (wait_any fails _ hf2).mono ?_
      rintro e w1 ⟨rfl, rfl⟩
      go_wp2_with fail
      refine (refWait_any fails _).mono ?_
      rintro e w1 ⟨rfl, rfl⟩
      go_wp2_with fail
      refine (num_at A _ (HS.out.drewN k) 13 a ha).mono ?_
      rintro e w1 ⟨rfl, hb⟩
      go_wp2_with fail
      go_ret
      exact ⟨rfl, (below_drewN_self _ _ k).trans hb⟩

end Go.Proofs.YtepcfjekijjagaaDoor
