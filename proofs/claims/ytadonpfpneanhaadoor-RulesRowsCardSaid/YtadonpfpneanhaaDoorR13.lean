/- Covers, the program's and the reference's. -/
import Derived.Test.YtadonpfpneanhaaDoorR12
namespace Go.Proofs.YtadonpfpneanhaaDoor
open Go.RowKit

def CoversP (s t : S5) : Prop := t.e ≤ s.e ∧ (t.a < s.a ∨ (t.a = s.a ∧ t.b ≤ s.b ∧ t.c ≤ s.c ∧ t.d ≤ s.d))
instance (s t : S5) : Decidable (CoversP s t) := by unfold CoversP; infer_instance

set_option maxHeartbeats 1000000 in
set_option maxRecDepth 100000 in
theorem covers_any (a b c d e a2 b2 c2 d2 e2 : Int) (w : World) :
    Calls Tryd.prog 27 #[st5 a b c d e, st5 a2 b2 c2 d2 e2] w fun r w' => r = .returned (.bool (decide (CoversP ⟨a, b, c, d, e⟩ ⟨a2, b2, c2, d2, e2⟩))) ∧ Below w.heap.size w w' := by
  by_cases he : e < e2
  · have he1 : ¬ e2 ≤ e := by omega
    have HR : Hid (decide (CoversP ⟨a, b, c, d, e⟩ ⟨a2, b2, c2, d2, e2⟩) = false) := decide_eq_false (by unfold CoversP; simp only; omega)
    go_enter Tryd.func27, Tryd.ntmps27
    go_wp2_with fail
    go_ret
    exact ⟨by rw [HR.out]; first | rfl | (apply ret_bool; simp; omega) | (apply ret_bool; simp), below_then (below_new _ _) (below_new _ _) (Nat.le_refl _)⟩
  have he1 : e2 ≤ e := by omega
  rcases Int.lt_trichotomy a a2 with ha | ha | ha
  · have ha1 : ¬ a2 < a := by omega
    have ha2 : (a == a2) = false := by simp; omega
    have HR : Hid (decide (CoversP ⟨a, b, c, d, e⟩ ⟨a2, b2, c2, d2, e2⟩) = false) := decide_eq_false (by unfold CoversP; simp only; omega)
    go_enter Tryd.func27, Tryd.ntmps27
    go_wp2_with fail
    go_ret
    exact ⟨by rw [HR.out]; first | rfl | (apply ret_bool; simp; omega) | (apply ret_bool; simp), below_then (below_new _ _) (below_new _ _) (Nat.le_refl _)⟩
  · subst ha
    by_cases hb : b2 ≤ b
    · by_cases hc : c2 ≤ c
      · by_cases hd : d2 ≤ d
        · have HR : Hid (decide (CoversP ⟨a, b, c, d, e⟩ ⟨a, b2, c2, d2, e2⟩) = true) := decide_eq_true ⟨he1, Or.inr ⟨rfl, hb, hc, hd⟩⟩
          go_enter Tryd.func27, Tryd.ntmps27
          go_wp2_with fail
          go_ret
          exact ⟨by rw [HR.out]; first | rfl | (apply ret_bool; simp; omega) | (apply ret_bool; simp), below_then (below_new _ _) (below_new _ _) (Nat.le_refl _)⟩
        · have HR : Hid (decide (CoversP ⟨a, b, c, d, e⟩ ⟨a, b2, c2, d2, e2⟩) = false) := decide_eq_false (by unfold CoversP; simp only; omega)
          go_enter Tryd.func27, Tryd.ntmps27
          go_wp2_with fail
          go_ret
          exact ⟨by rw [HR.out]; first | rfl | (apply ret_bool; simp; omega) | (apply ret_bool; simp), below_then (below_new _ _) (below_new _ _) (Nat.le_refl _)⟩
      · have HR : Hid (decide (CoversP ⟨a, b, c, d, e⟩ ⟨a, b2, c2, d2, e2⟩) = false) := decide_eq_false (by unfold CoversP; simp only; omega)
        go_enter Tryd.func27, Tryd.ntmps27
        go_wp2_with fail
        go_ret
        exact ⟨by rw [HR.out]; first | rfl | (apply ret_bool; simp; omega) | (apply ret_bool; simp), below_then (below_new _ _) (below_new _ _) (Nat.le_refl _)⟩
    · have HR : Hid (decide (CoversP ⟨a, b, c, d, e⟩ ⟨a, b2, c2, d2, e2⟩) = false) := decide_eq_false (by unfold CoversP; simp only; omega)
      go_enter Tryd.func27, Tryd.ntmps27
      go_wp2_with fail
      go_ret
      exact ⟨by rw [HR.out]; first | rfl | (apply ret_bool; simp; omega) | (apply ret_bool; simp), below_then (below_new _ _) (below_new _ _) (Nat.le_refl _)⟩
  · have ha1 : ¬ a < a2 := by omega
    have ha2 : (a == a2) = false := by simp; omega
    have HR : Hid (decide (CoversP ⟨a, b, c, d, e⟩ ⟨a2, b2, c2, d2, e2⟩) = true) := decide_eq_true (by unfold CoversP; simp only; omega)
    go_enter Tryd.func27, Tryd.ntmps27
    go_wp2_with fail
    go_ret
    exact ⟨by rw [HR.out]; first | rfl | (apply ret_bool; simp; omega) | (apply ret_bool; simp), below_then (below_new _ _) (below_new _ _) (Nat.le_refl _)⟩

set_option maxHeartbeats 1000000 in
set_option maxRecDepth 100000 in
theorem ref_covers (a b c d e a2 b2 c2 d2 e2 : Int) (w : World) :
    Calls Tryd.prog 28 #[st5 a b c d e, st5 a2 b2 c2 d2 e2] w fun r w' => r = .returned (.bool (decide (CoversP ⟨a, b, c, d, e⟩ ⟨a2, b2, c2, d2, e2⟩))) ∧ Below w.heap.size w w' := by
  by_cases he : e < e2
  · have he1 : ¬ e2 ≤ e := by omega
    have HR : Hid (decide (CoversP ⟨a, b, c, d, e⟩ ⟨a2, b2, c2, d2, e2⟩) = false) := decide_eq_false (by unfold CoversP; simp only; omega)
    go_enter Tryd.func28, Tryd.ntmps28
    go_wp2_with fail
    go_ret
    exact ⟨by rw [HR.out]; first | rfl | (apply ret_bool; simp; omega) | (apply ret_bool; simp), below_then (below_new _ _) (below_new _ _) (Nat.le_refl _)⟩
  have he1 : e2 ≤ e := by omega
  rcases Int.lt_trichotomy a a2 with ha | ha | ha
  · have ha1 : ¬ a2 < a := by omega
    have ha2 : (a == a2) = false := by simp; omega
    have HR : Hid (decide (CoversP ⟨a, b, c, d, e⟩ ⟨a2, b2, c2, d2, e2⟩) = false) := decide_eq_false (by unfold CoversP; simp only; omega)
    go_enter Tryd.func28, Tryd.ntmps28
    go_wp2_with fail
    go_ret
    exact ⟨by rw [HR.out]; first | rfl | (apply ret_bool; simp; omega) | (apply ret_bool; simp), below_then (below_new _ _) (below_new _ _) (Nat.le_refl _)⟩
  · subst ha
    by_cases hb : b2 ≤ b
    · by_cases hc : c2 ≤ c
      · by_cases hd : d2 ≤ d
        · have HR : Hid (decide (CoversP ⟨a, b, c, d, e⟩ ⟨a, b2, c2, d2, e2⟩) = true) := decide_eq_true ⟨he1, Or.inr ⟨rfl, hb, hc, hd⟩⟩
          go_enter Tryd.func28, Tryd.ntmps28
          go_wp2_with fail
          go_ret
          exact ⟨by rw [HR.out]; first | rfl | (apply ret_bool; simp; omega) | (apply ret_bool; simp), below_then (below_new _ _) (below_new _ _) (Nat.le_refl _)⟩
        · have HR : Hid (decide (CoversP ⟨a, b, c, d, e⟩ ⟨a, b2, c2, d2, e2⟩) = false) := decide_eq_false (by unfold CoversP; simp only; omega)
          go_enter Tryd.func28, Tryd.ntmps28
          go_wp2_with fail
          go_ret
          exact ⟨by rw [HR.out]; first | rfl | (apply ret_bool; simp; omega) | (apply ret_bool; simp), below_then (below_new _ _) (below_new _ _) (Nat.le_refl _)⟩
      · have HR : Hid (decide (CoversP ⟨a, b, c, d, e⟩ ⟨a, b2, c2, d2, e2⟩) = false) := decide_eq_false (by unfold CoversP; simp only; omega)
        go_enter Tryd.func28, Tryd.ntmps28
        go_wp2_with fail
        go_ret
        exact ⟨by rw [HR.out]; first | rfl | (apply ret_bool; simp; omega) | (apply ret_bool; simp), below_then (below_new _ _) (below_new _ _) (Nat.le_refl _)⟩
    · have HR : Hid (decide (CoversP ⟨a, b, c, d, e⟩ ⟨a, b2, c2, d2, e2⟩) = false) := decide_eq_false (by unfold CoversP; simp only; omega)
      go_enter Tryd.func28, Tryd.ntmps28
      go_wp2_with fail
      go_ret
      exact ⟨by rw [HR.out]; first | rfl | (apply ret_bool; simp; omega) | (apply ret_bool; simp), below_then (below_new _ _) (below_new _ _) (Nat.le_refl _)⟩
  · have ha1 : ¬ a < a2 := by omega
    have ha2 : (a == a2) = false := by simp; omega
    have HR : Hid (decide (CoversP ⟨a, b, c, d, e⟩ ⟨a2, b2, c2, d2, e2⟩) = true) := decide_eq_true (by unfold CoversP; simp only; omega)
    go_enter Tryd.func28, Tryd.ntmps28
    go_wp2_with fail
    go_ret
    exact ⟨by rw [HR.out]; first | rfl | (apply ret_bool; simp; omega) | (apply ret_bool; simp), below_then (below_new _ _) (below_new _ _) (Nat.le_refl _)⟩

end Go.Proofs.YtadonpfpneanhaaDoor
