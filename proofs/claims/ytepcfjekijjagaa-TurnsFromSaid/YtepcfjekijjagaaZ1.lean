/- Contracts of the small functions of turns: what each answers, at every argument. -/
import Derived.Test.YtepcfjekijjagaaChecked
import Derived.WalkKit
import Derived.BigQuiet
import Derived.Deep.QuietTactic
import Derived.Deep.RegionWith
import Derived.Deep.LoopGhost
import Derived.WalkSpells
import Derived.WalkLawsBesides
namespace Go.Proofs.Ytepcfjekijjagaa
open Go.RowKit

def waitOf (f : Int) : Int := if f ≤ 0 then 2 else if f = 1 then 4 else if f = 2 then 8 else 16

theorem waitOf_le (f : Int) (h : f ≤ 0) : waitOf f = 2 := if_pos h

def WaitRel (f x y : Int) : Prop := (x = f ∧ y = 2) ∨ (x = f - 1 ∧ y = 4 ∧ 1 ≤ f) ∨ (x = f - 2 ∧ y = 8 ∧ 2 ≤ f) ∨ (x = f - 3 ∧ y = 16 ∧ 3 ≤ f)
theorem waitRel_in {f x y : Int} (h : WaitRel f x y) : x ≤ f ∧ f ≤ x + 3 ∧ 2 ≤ y ∧ y ≤ 16 := by unfold WaitRel at h; omega
theorem waitRel_on {f x y : Int} (h : WaitRel f x y) (hx : 0 < x) (hy : y < 16) : WaitRel f (x - 1) (y * 2) := by unfold WaitRel at *; omega
theorem waitRel_end {f x y : Int} (h : WaitRel f x y) (hx : x ≤ 0 ∨ 16 ≤ y) : y = waitOf f := by
  unfold WaitRel at h
  unfold waitOf
  by_cases h0 : f ≤ 0
  · rw [if_pos h0]; omega
  · rw [if_neg h0]
    by_cases h1 : f = 1
    · rw [if_pos h1]; omega
    · rw [if_neg h1]
      by_cases h2 : f = 2
      · rw [if_pos h2]; omega
      · rw [if_neg h2]; omega

theorem ret_i64 {a b : Int} (h : a = b) : Ending.returned (.int .i64 a) = .returned (.int .i64 b) := by rw [h]

set_option maxHeartbeats 400000 in
theorem wait_any (f : Int) (w : World) (h1 : f ≤ 9223372036854775807) :
    Calls Try.prog 7 #[.int .i64 f] w fun e w' => e = .returned (.int .i64 (waitOf f)) ∧ w = w' := by
  go_enter Try.func7, Try.ntmps7
  go_wp2
  go_loop [0, 3] (fun a b => ∃ x y : Int, a = .int .i64 x ∧ b = .int .i64 y ∧ WaitRel f x y) (fun _ b => (16 - intOf b).toNat)
  case atStart => exact ⟨f, 2, rfl, rfl, .inl ⟨rfl, rfl⟩⟩
  case round =>
    obtain ⟨x, y, rfl, rfl, hr⟩ := hrel
    obtain ⟨b1, b2, b3, b4⟩ := waitRel_in hr
    by_cases hx : 0 < x
    · by_cases hy : y < 16
      · go_wp2
        go_round
        case rel => exact ⟨x - 1, y * 2, rfl, rfl, waitRel_on hr hx hy⟩
        case measure => simp [intOf]; omega
      · go_wp2
        go_ret
        exact ⟨ret_i64 (waitRel_end hr (.inr (by omega))), rfl⟩
    · go_wp2
      go_ret
      exact ⟨ret_i64 (waitRel_end hr (.inl (by omega))), rfl⟩

/-- 'few'. -/
theorem few_any (n : Int) (w : World) : Calls Try.prog 14 #[.int .i64 n] w fun e w' => e = .returned (.bool (decide (1 ≤ n ∧ n ≤ 7))) ∧ w = w' := by
  by_cases h1 : 1 ≤ n
  · by_cases h7 : n ≤ 7
    · have e : decide (1 ≤ n ∧ n ≤ 7) = true := by simp; omega
      rw [e]
      go_enter Try.func14, Try.ntmps14
      go_wp2
      go_ret
      exact ⟨rfl, rfl⟩
    · have e : decide (1 ≤ n ∧ n ≤ 7) = false := by simp; omega
      rw [e]
      go_enter Try.func14, Try.ntmps14
      go_wp2
      go_ret
      exact ⟨rfl, rfl⟩
  · have e : decide (1 ≤ n ∧ n ≤ 7) = false := by simp; omega
    rw [e]
    go_enter Try.func14, Try.ntmps14
    go_wp2
    go_ret
    exact ⟨rfl, rfl⟩

def leaderOf (n r : Int) : Int := if 1 ≤ n ∧ n ≤ 7 ∧ 0 ≤ r then r % n else -1

/-- 'Leader': none, or the rest of the round. -/
theorem leader_any (n r : Int) (w : World) : Calls Try.prog 12 #[.int .i64 n, .int .i64 r] w fun e w' => e = .returned (.int .i64 (leaderOf n r)) ∧ w = w' := by
  unfold leaderOf
  by_cases h1 : 1 ≤ n
  · by_cases h7 : n ≤ 7
    · by_cases hr : 0 ≤ r
      · rw [if_pos ⟨h1, h7, hr⟩]
        go_enter Try.func12, Try.ntmps12
        go_wp2
        go_ret
        exact ⟨rfl, rfl⟩
      · rw [if_neg (by omega)]
        go_enter Try.func12, Try.ntmps12
        go_wp2
        go_ret
        exact ⟨rfl, rfl⟩
    · rw [if_neg (by omega)]
      go_enter Try.func12, Try.ntmps12
      go_wp2
      go_ret
      exact ⟨rfl, rfl⟩
  · rw [if_neg (by omega)]
    go_enter Try.func12, Try.ntmps12
    go_wp2
    go_ret
    exact ⟨rfl, rfl⟩

theorem refLeader_any (n r : Int) (w : World) : Calls Try.prog 9 #[.int .i64 n, .int .i64 r] w fun e w' => e = .returned (.int .i64 (leaderOf n r)) ∧ w = w' := by
  unfold leaderOf
  by_cases h1 : 1 ≤ n
  · by_cases h7 : n ≤ 7
    · by_cases hr : 0 ≤ r
      · rw [if_pos ⟨h1, h7, hr⟩]
        go_enter Try.func9, Try.ntmps9
        go_wp2
        go_ret
        exact ⟨rfl, rfl⟩
      · rw [if_neg (by omega)]
        go_enter Try.func9, Try.ntmps9
        go_wp2
        go_ret
        exact ⟨rfl, rfl⟩
    · rw [if_neg (by omega)]
      go_enter Try.func9, Try.ntmps9
      go_wp2
      go_ret
      exact ⟨rfl, rfl⟩
  · rw [if_neg (by omega)]
    go_enter Try.func9, Try.ntmps9
    go_wp2
    go_ret
    exact ⟨rfl, rfl⟩
theorem alive12 (w : World) : Calls Try.prog 6 #[] w fun e w' => e = .returned (.bool true) ∧ w = w' := by
  go_enter Try.func6, Try.ntmps6
  go_wp2_with fail
  refine (leader_any 4 6 _).mono ?_
  rintro e w1 ⟨rfl, rfl⟩
  rw [show leaderOf 4 6 = 2 by decide]
  go_wp2_with fail
  refine (wait_any 0 _ (by omega)).mono ?_
  rintro e w1 ⟨rfl, rfl⟩
  rw [show waitOf 0 = 2 by decide]
  go_wp2_with fail
  refine (wait_any 3 _ (by omega)).mono ?_
  rintro e w1 ⟨rfl, rfl⟩
  rw [show waitOf 3 = 16 by decide]
  go_wp2_with fail
  refine (wait_any 9 _ (by omega)).mono ?_
  rintro e w1 ⟨rfl, rfl⟩
  rw [show waitOf 9 = 16 by decide]
  go_wp2_with fail
  go_ret
  exact ⟨rfl, rfl⟩


end Go.Proofs.Ytepcfjekijjagaa
