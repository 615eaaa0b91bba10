/- What the reference's steps answer. -/
import Derived.Test.YtadonpfpneanhaaDoorR8
namespace Go.Proofs.YtadonpfpneanhaaDoor
open Go.RowKit

def three (b c d : Int) (k : Nat) : Int := if k = 0 then b else if k = 1 then c else d
theorem three_all {b c d : Int} {P : Int → Prop} (h : ∀ k, k < 3 → P (three b c d k)) : P b ∧ P c ∧ P d := ⟨h 0 (by omega), h 1 (by omega), h 2 (by omega)⟩
theorem three_one {b c d : Int} {P : Int → Prop} {k : Nat} (h : ¬ P (three b c d k)) : ¬ (P b ∧ P c ∧ P d) := by
  rintro ⟨h1, h2, h3⟩
  apply h
  unfold three
  split
  · exact h1
  split
  · exact h2
  · exact h3
theorem not_right_three {a b c d e : Int} {k : Nat} (h : ¬ (0 ≤ three b c d k ∧ three b c d k ≤ 1099511627776)) : ¬ RightP a b c d e := by
  have := three_one (P := fun x => 0 ≤ x ∧ x ≤ 1099511627776) h
  rintro ⟨-, h1, h2, h3, -⟩
  exact this ⟨h1, h2, h3⟩

set_option maxHeartbeats 1000000 in
set_option maxRecDepth 100000 in
theorem ref_right (a b c d e : Int) (w : World) :
    Calls Tryd.prog 45 #[st5 a b c d e] w fun r w' => r = .returned (.bool (decide (RightP a b c d e))) ∧ Below w.heap.size w w' := by
  go_enter Tryd.func45, Tryd.ntmps45
  go_wp2_with fail
  obtain ⟨W0, hW0⟩ : ∃ W0, W0 = (w.alloc (.cells #[.int .i64 a, .int .i64 b, .int .i64 c, .int .i64 d, .int .i64 e] 49)).alloc (.cells #[.int .i64 b, .int .i64 c, .int .i64 d] 3) := ⟨_, rfl⟩
  have hbw : Below w.heap.size w W0 := by rw [hW0]; exact below_then (below_new _ _) (below_new _ _) (Nat.le_refl _)
  have s0 : W0.cell? ⟨w.heap.size, 0, none⟩ = some (.int .i64 a) := by rw [hW0]; go_simp
  have s4 : W0.cell? ⟨w.heap.size, 4, none⟩ = some (.int .i64 e) := by rw [hW0]; go_simp
  have h0 : W0.cell? ⟨w.heap.size + 1, 0, none⟩ = some (.int .i64 b) := by rw [hW0]; go_simp
  have h1 : W0.cell? ⟨w.heap.size + 1, 1, none⟩ = some (.int .i64 c) := by rw [hW0]; go_simp
  have h2 : W0.cell? ⟨w.heap.size + 1, 2, none⟩ = some (.int .i64 d) := by rw [hW0]; go_simp
  have hk : ∀ k, k < 3 → W0.cell? ⟨w.heap.size + 1, k, none⟩ = some (.int .i64 (three b c d k)) := by
    intro k hk
    rcases k with _ | _ | _ | k
    · exact h0
    · exact h1
    · exact h2
    · omega
  have HK := Lib.hid hk
  rw [← hW0]
  clear h0 h1 h2 hk hW0
  have HBW := Lib.hid hbw
  clear hbw
  go_loopw [13] (fun i wr => ∃ k : Nat, k ≤ 3 ∧ i = .int .i64 k ∧ wr = W0 ∧ Hid (∀ j, j < k → 0 ≤ three b c d j ∧ three b c d j ≤ 1099511627776))
    (fun i _ => 3 - (intOf i).toNat)
  case atStart => exact ⟨0, by omega, rfl, rfl, Lib.hid (fun j hj => absurd hj (by omega))⟩
  case round =>
    obtain ⟨k, hk, rfl, rfl, hin⟩ := hrel
    by_cases hlt : k < 3
    · have hck := HK.out k hlt
      by_cases hlo : three b c d k < 0
      · have HN : Hid (decide (RightP a b c d e) = false) := decide_eq_false (not_right_three (k := k) (fun ⟨x, _⟩ => by omega))
        go_wp2_with fail
        go_ret
        exact ⟨by rw [HN.out]; rfl, HBW.out⟩
      · by_cases hhi : 1099511627776 < three b c d k
        · have HN : Hid (decide (RightP a b c d e) = false) := decide_eq_false (not_right_three (k := k) (fun ⟨_, x⟩ => by omega))
          go_wp2_with fail
          go_ret
          exact ⟨by rw [HN.out]; rfl, HBW.out⟩
        · have hin2 : Hid (∀ j, j < k + 1 → 0 ≤ three b c d j ∧ three b c d j ≤ 1099511627776) := fun j hj => by
            by_cases hjk : j = k
            · subst hjk; omega
            · exact hin.out j (by omega)
          go_wp2_with fail
          go_roundw
          case rel => exact ⟨k + 1, by omega, by go_num, trivial, hin2⟩
          case measure => simp [intOf]; omega
    · obtain rfl : k = 3 := by omega
      obtain ⟨hb, hc, hd⟩ := three_all (P := fun x => 0 ≤ x ∧ x ≤ 1099511627776) hin.out
      have HR : Hid (decide (RightP a b c d e) = decide (0 ≤ a ∧ a ≤ 1073741824 ∧ 0 ≤ e ∧ e ≤ 32)) := by
        show _ = _
        apply decide_eq_decide.mpr
        unfold RightP
        omega
      clear hin hb hc hd HK
      by_cases ha0 : 0 ≤ a
      · by_cases ha1 : a ≤ 1073741824
        · by_cases he0 : 0 ≤ e
          · by_cases he1 : e ≤ 32
            · go_wp2_with fail
              go_ret
              exact ⟨by rw [HR.out]; apply ret_bool; simp; omega, HBW.out⟩
            · go_wp2_with fail
              go_ret
              exact ⟨by rw [HR.out]; apply ret_bool; simp; omega, HBW.out⟩
          · go_wp2_with fail
            go_ret
            exact ⟨by rw [HR.out]; apply ret_bool; simp; omega, HBW.out⟩
        · go_wp2_with fail
          go_ret
          exact ⟨by rw [HR.out]; apply ret_bool; simp; omega, HBW.out⟩
      · go_wp2_with fail
        go_ret
        exact ⟨by rw [HR.out]; apply ret_bool; simp; omega, HBW.out⟩

end Go.Proofs.YtadonpfpneanhaaDoor
