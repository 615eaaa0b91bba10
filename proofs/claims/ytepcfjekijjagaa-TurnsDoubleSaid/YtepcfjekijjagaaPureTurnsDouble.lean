/- The wait doubles with each round that failed, up to 16 ticks: for every number of fails, without conditions. -/
import Derived.Test.YtepcfjekijjagaaPTurnsDoublex1
namespace Go.Proofs.Ytepcfjekijjagaa.Pure
open Go.RowKit Go.Proofs.Ytepcfjekijjagaa.PTurnsDouble Go.Proofs.YtepcfjekijjagaaW.PrintWords Go.Proofs.YtepcfjekijjagaaW.PrintLast

def waitOf (f : Int) : Int := if f ≤ 0 then 2 else if f = 1 then 4 else if f = 2 then 8 else 16

theorem l0_end (k : Nat) (f w : Int) (h : f ≤ 0) : turns_Wait.l0 (k + 1) f w = some (mn w 16) := by
  rw [turns_Wait.l0, if_neg (by omega)]

theorem l0_top (k : Nat) (f w : Int) (h : 16 ≤ w) : turns_Wait.l0 (k + 1) f w = some (mn w 16) := by
  rw [turns_Wait.l0]
  by_cases h0 : f > 0
  · rw [if_pos h0, if_neg (by omega)]
  · rw [if_neg h0]

theorem l0_on (k : Nat) (f w : Int) (h : 0 < f) (hf : f ≤ 2000) (hw : w < 16) (hw0 : 0 < w) : turns_Wait.l0 (k + 1) f w = turns_Wait.l0 k (f - 1) (w * 2) := by
  rw [turns_Wait.l0, if_pos h, if_pos hw, show wrap64 (f - 1) = f - 1 by unfold wrap64; omega, show wrap64 (w * 2) = w * 2 by unfold wrap64; omega]

theorem wait_val (f : Int) (h : f ≤ 2000) : turns_Wait.f 10 f = some (waitOf f) := by
  unfold turns_Wait.f waitOf
  by_cases h0 : f ≤ 0
  · rw [if_pos h0, l0_end 9 _ _ h0]
    rfl
  · rw [if_neg h0, l0_on 9 _ _ (by omega) (by omega) (by omega) (by omega)]
    by_cases h1 : f = 1
    · rw [if_pos h1, l0_end 8 _ _ (by omega)]
      rfl
    · rw [if_neg h1, l0_on 8 _ _ (by omega) (by omega) (by omega) (by omega)]
      by_cases h2 : f = 2
      · rw [if_pos h2, l0_end 7 _ _ (by omega)]
        rfl
      · rw [if_neg h2, l0_on 7 _ _ (by omega) (by omega) (by omega) (by omega), l0_top 6 _ _ (by omega)]
        rfl

theorem alive_val : quoratelaw12_alive.f 10 = some true := by
  unfold quoratelaw12_alive.f
  rw [show turns_Leader.f 4 6 = some 2 by decide]
  simp only [Option.bind_some]
  rw [wait_val 0 (by omega), wait_val 3 (by omega), wait_val 9 (by omega)]
  decide

theorem TurnsDouble : quoratelaw12_TurnsDouble.Pure := by
  intro a _
  refine ⟨10, ?_⟩
  unfold quoratelaw12_TurnsDouble.f
  rw [alive_val]
  simp only [Option.bind_some, if_true]
  obtain ⟨n, hn⟩ : ∃ n : Int, n = Int.tmod (IntKind.u64.wrap a) 1000 := ⟨_, rfl⟩
  have hb : 0 ≤ n ∧ n < 1000 := by
    rw [hn, IntKind.wrap_u64]
    have h0 : 0 ≤ a % 18446744073709551616 := by omega
    rw [Int.tmod_eq_emod_of_nonneg h0]
    omega
  rw [← hn]
  have e0 : wrap64 n = n := by unfold wrap64; omega
  have e1 : wrap64 (n + 1) = n + 1 := by unfold wrap64; omega
  rw [e0, e1, wait_val n (by omega), wait_val (n + 1) (by omega)]
  simp only [Option.bind_some]
  clear hn e0 e1
  have fin : ∀ x y : Int, waitOf n = x → waitOf (n + 1) = y → 2 ≤ x → x ≤ y → y ≤ 2 * x → y ≤ 16 → (y = 2 * x ∨ y = 16) →
      (if waitOf n ≥ 2 then (if waitOf (n + 1) ≥ waitOf n then (if waitOf (n + 1) ≤ (wrap64 (2 * waitOf n)) then (if waitOf (n + 1) ≤ 16 then (if waitOf (n + 1) = (wrap64 (2 * waitOf n)) then (some true) else (some (waitOf (n + 1) == 16))) else (some false)) else (some false)) else (some false)) else (some false)) = some true := by
    intro x y hx hy h1 h2 h3 h4 h5
    rw [hx, hy, show wrap64 (2 * x) = 2 * x by unfold wrap64; omega, if_pos h1, if_pos h2, if_pos h3, if_pos h4]
    by_cases h6 : y = 2 * x
    · rw [if_pos h6]
    · rw [if_neg h6, h5.resolve_left h6]
      rfl
  · by_cases h1 : n = 0
    · subst h1
      exact fin 2 4 rfl rfl (by omega) (by omega) (by omega) (by omega) (by omega)
    · by_cases h2 : n = 1
      · subst h2
        exact fin 4 8 rfl rfl (by omega) (by omega) (by omega) (by omega) (by omega)
      · by_cases h3 : n = 2
        · subst h3
          exact fin 8 16 rfl rfl (by omega) (by omega) (by omega) (by omega) (by omega)
        · exact fin 16 16 (by unfold waitOf; rw [if_neg (by omega), if_neg (by omega), if_neg (by omega)]) (by unfold waitOf; rw [if_neg (by omega), if_neg (by omega), if_neg (by omega)]) (by omega) (by omega) (by omega) (by omega) (by omega)

end Go.Proofs.Ytepcfjekijjagaa.Pure
