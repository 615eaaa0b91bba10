/- The reference's numbers. -/
import Derived.Test.YtadonpfpneanhaaDoorO6
namespace Go.Proofs.YtadonpfpneanhaaDoor
open Go.RowKit

theorem div_step (n : Int) (k : Nat) : n / 256 ^ k / 256 = n / 256 ^ (k + 1) := by
  rw [Int.ediv_ediv_of_nonneg (Int.pow_nonneg (by omega)), Int.pow_succ]
theorem div_nonneg' {n : Int} (h : 0 ≤ n) (k : Nat) : 0 ≤ n / 256 ^ k := Int.ediv_nonneg h (Int.pow_nonneg (by omega))
theorem div_le {n : Int} (h : 0 ≤ n) (k : Nat) : n / 256 ^ k ≤ n := Int.ediv_le_self _ h

set_option maxHeartbeats 1000000 in
set_option maxRecDepth 100000 in
theorem fits_any (w : World) (n width : Int) (hn : n ≤ 9223372036854775807) :
    Calls Tryd.prog 67 #[.int .i64 n, .int .i64 width] w fun r w' => r = .returned (.bool (decide (¬ BadN n width))) ∧ w' = w := by
  by_cases h1 : width < 1
  · rw [show decide (¬ BadN n width) = false by simp [BadN, h1]]
    go_enter Tryd.func67, Tryd.ntmps67
    go_wp2_with fail
    go_ret
    exact ⟨rfl, rfl⟩
  by_cases h8 : 8 < width
  · rw [show decide (¬ BadN n width) = false by simp [BadN, h8]]
    go_enter Tryd.func67, Tryd.ntmps67
    go_wp2_with fail
    go_ret
    exact ⟨rfl, rfl⟩
  by_cases h0 : n < 0
  · rw [show decide (¬ BadN n width) = false by simp [BadN, h0]]
    go_enter Tryd.func67, Tryd.ntmps67
    go_wp2_with fail
    go_ret
    exact ⟨rfl, rfl⟩
  · have hend : decide (¬ BadN n width) = decide (n / 256 ^ width.toNat = 0) := by
      rw [decide_eq_decide]
      unfold BadN
      have hp : (0 : Int) < 256 ^ width.toNat := Int.pow_pos (by omega)
      constructor
      · intro h
        apply Int.ediv_eq_zero_of_lt (by omega)
        by_cases hx : width < 8
        · omega
        · obtain rfl : width = 8 := by omega
          show n < 256 ^ 8
          omega
      · intro h hb
        have : n < 256 ^ width.toNat := by
          have h2 := Int.emod_add_mul_ediv n (256 ^ width.toNat)
          have h3 := Int.emod_lt_of_pos n hp
          rw [h] at h2
          omega
        omega
    rw [hend]
    clear hend
    go_enter Tryd.func67, Tryd.ntmps67
    go_wp2_with fail
    go_loop [0, 5] (fun m i => ∃ k : Nat, (k : Int) ≤ width ∧ i = .int .i64 k ∧ m = .int .i64 (n / 256 ^ k)) (fun _ i => (width - intOf i).toNat)
    case atStart => exact ⟨0, by omega, rfl, by simp⟩
    case round =>
      obtain ⟨k, hk, rfl, rfl⟩ := hrel
      by_cases hlt : (k : Int) < width
      · have hd0 := div_nonneg' (n := n) (by omega) k
        have hd1 := div_le (n := n) (by omega) k
        have hds := div_step n k
        generalize n / 256 ^ k = m at *
        go_wp2_with fail
        go_round
        case rel => exact ⟨k + 1, by omega, by go_num, by rw [← hds]⟩
        case measure => simp [intOf]; omega
      · have hke : width.toNat = k := by omega
        go_wp2_with fail
        go_ret
        exact ⟨rfl, rfl⟩

theorem beF_at (n : Int) {m i : Nat} (h : i < m) : beF n m i = n / 256 ^ (m - (i + 1)) % 256 := by
  unfold beF
  rw [show (8 * ((m : Int) - 1 - i)).toNat = 8 * (m - (i + 1)) by omega, Int.pow_mul]
  rfl

set_option maxHeartbeats 1000000 in
set_option maxRecDepth 100000 in
theorem refnum_any (w : World) (n : Int) (m : Nat) (hn : 0 ≤ n) (hn2 : n ≤ 9223372036854775807) (hm : m ≤ 8) :
    Calls Tryd.prog 68 #[.int .i64 n, .int .i64 m] w fun r w' => ∃ v, r = .returned v ∧ w'.ownsRow w.heap.size 5 1 v (be n m).length (u8s (be n m)) ∧ Below w.heap.size w w' := by
  obtain ⟨i0, hi, hz0, hz1, hz2⟩ := info_parts Tryd.info5
  have hmk := run_make (P := Tryd.prog) w 22 5 i0 (.int .u8 0) Tryd.underlying22 hi hz0 .i64 .i64 m m (by omega) (Int.le_refl _) (by rw [hz2]; omega) (by omega)
  rw [hz1, Int.toNat_natCast, Nat.mul_one] at hmk
  have hb0 := belowN w (.cells (madeCells (Value.int IntKind.u8 0).cells m) 5)
  have hk0 : (w.alloc (.cells (madeCells (Value.int IntKind.u8 0).cells m) 5)).heap[w.heap.size]? = some (.cells (madeCells (Value.int IntKind.u8 0).cells m) 5 (0, 0)) := heap_alloc_new w _
  have hs0 : (madeCells (Value.int IntKind.u8 0).cells m).size = m := size_madeCells _ _
  generalize w.alloc (.cells (madeCells (Value.int IntKind.u8 0).cells m) 5) = w1 at *
  generalize madeCells (Value.int IntKind.u8 0).cells m = cs0 at *
  go_enter Tryd.func68, Tryd.ntmps68
  go_wp2_with fail
  go_loopw [0, 6] (fun t i wr => ∃ (k : Nat) (cs : Array Value), k ≤ m ∧ i = .int .i64 ((k : Int) - 1) ∧ t = .int .i64 (n / 256 ^ (m - k)) ∧ wr.heap[w.heap.size]? = some (.cells cs 5 (0, 0)) ∧ cs.size = m ∧ (∀ x, k ≤ x → x < m → cs[x]? = some (.int .u8 (beF n m x))) ∧ Below w.heap.size w wr) (fun _ i _ => (intOf i + 1).toNat)
  case atStart => exact ⟨m, cs0, Nat.le_refl _, rfl, by simp, hk0, hs0, fun x h1 h2 => absurd h2 (by omega), hb0⟩
  case round =>
    obtain ⟨k, cs, hk, rfl, rfl, hkc, hks, hall, hbb⟩ := hrel
    cases k with
    | zero =>
      have HK := Lib.hid (And.intro hkc (And.intro hks (And.intro hall hbb)))
      clear hkc hks hall hbb
      go_wp2_with fail
      go_ret
      obtain ⟨hkc, hks, hall, hbb⟩ := HK.out
      refine ⟨_, rfl, ⟨by simp [u8s], .inr ⟨w.heap.size, m, cs, by rw [be_length, Int.toNat_natCast]; rfl, Nat.le_refl _, hkc, by rw [be_length, Int.toNat_natCast]; exact Nat.le_refl _, by unfold maxLen; omega, by omega, ?_⟩⟩, hbb⟩
      rw [be_length, Int.toNat_natCast]
      apply List.ext_getElem?
      intro x
      rw [List.getElem?_take, Array.getElem?_toList]
      by_cases hx : x < m
      · rw [if_pos (by omega), hall x (Nat.zero_le _) hx]
        simp [u8s, be, hx]
      · rw [if_neg (by omega), List.getElem?_eq_none (by simp [u8s, be]; omega)]
    | succ k =>
      have hd0 := div_nonneg' (n := n) hn (m - (k + 1))
      have hd1 := div_le (n := n) hn (m - (k + 1))
      have hds := div_step n (m - (k + 1))
      have hbe := beF_at n (show k < m by omega)
      generalize n / 256 ^ (m - (k + 1)) = d at *
      rw [show (((k + 1 : Nat) : Int) - 1) = (k : Int) by omega]
      obtain ⟨oldv, hc⟩ : ∃ u, wr.cell? ⟨w.heap.size, k, none⟩ = some u := ⟨_, by rw [cell_of_blk hkc]; exact Array.getElem?_eq_getElem (by omega)⟩
      have hf : wr.frozen? ⟨w.heap.size, k, none⟩ = false := by simp [World.frozen?, hkc]
      have HK := Lib.hid (And.intro hkc (And.intro hks (And.intro hall hbb)))
      clear hkc hks hall hbb
      go_wp2_with fail
      go_roundw
      case rel =>
        obtain ⟨hkc, hks, hall, hbb⟩ := HK.out
        refine ⟨k, cs.setIfInBounds k (.int .u8 (d % 256)), by omega, rfl, by rw [hds, show m - (k + 1) + 1 = m - k by omega], heap_setCell_block hkc _, by simpa using hks, fun x h1 h2 => ?_, hbb.setCell (p := ⟨w.heap.size, k, none⟩) (Nat.le_refl _) _⟩
        by_cases hx : x = k
        · subst hx
          rw [hbe, Array.getElem?_setIfInBounds_self_of_lt (by omega)]
        · rw [Array.getElem?_setIfInBounds_ne (Ne.symm hx)]
          exact hall x (by omega) h2
      case measure => simp [intOf]

end Go.Proofs.YtadonpfpneanhaaDoor
