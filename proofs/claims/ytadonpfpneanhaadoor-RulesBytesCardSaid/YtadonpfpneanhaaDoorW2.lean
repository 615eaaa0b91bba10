/- The writer's calls. -/
import Derived.Test.YtadonpfpneanhaaDoorW1
namespace Go.Proofs.YtadonpfpneanhaaDoor
open Go.RowKit

set_option maxHeartbeats 1000000 in
set_option maxRecDepth 100000 in
theorem fail_nil (w : World) (p : Nat) (t : TypeId) (u : Value) (h0 : w.cell? ⟨p, 0, none⟩ = some .nilIface) (hf : w.frozen? ⟨p, 0, none⟩ = false) :
    Calls Tryd.prog 55 #[.pointer (some ⟨p, 0, none⟩), .iface t u] w fun r w' => r = .returned (.tuple #[]) ∧ w' = w.setCell ⟨p, 0, none⟩ (.iface t u) := by
  go_enter Tryd.func55, Tryd.ntmps55
  go_wp2_with fail
  go_end0
  exact ⟨rfl, rfl⟩

set_option maxHeartbeats 1000000 in
set_option maxRecDepth 100000 in
theorem fail_has (w : World) (p : Nat) (e' : Value) {t : TypeId} {u : Value} (h0 : w.cell? ⟨p, 0, none⟩ = some (.iface t u)) :
    Calls Tryd.prog 55 #[.pointer (some ⟨p, 0, none⟩), e'] w fun r w' => r = .returned (.tuple #[]) ∧ w' = w := by
  go_enter Tryd.func55, Tryd.ntmps55
  go_wp2_with fail
  go_end0
  exact ⟨rfl, rfl⟩

theorem new_writer (w : World) : Calls Tryd.prog 19 #[] w fun r w' => r = .returned (.pointer (some ⟨w.heap.size, 0, none⟩)) ∧ w' = w.alloc (.cells #[.nilIface, .slice none 0 0] 92) := by
  go_enter Tryd.func19, Tryd.ntmps19
  go_wp2_with fail
  go_ret
  exact ⟨rfl, rfl⟩

set_option maxHeartbeats 1000000 in
set_option maxRecDepth 100000 in
theorem fixed_has (w : World) (p : Nat) (s : Value) {t : TypeId} {u : Value} (h0 : w.cell? ⟨p, 0, none⟩ = some (.iface t u)) :
    Calls Tryd.prog 63 #[.pointer (some ⟨p, 0, none⟩), s] w fun r w' => r = .returned (.tuple #[]) ∧ w' = w := by
  go_enter Tryd.func63, Tryd.ntmps63
  go_wp2_with fail
  go_end0
  exact ⟨rfl, rfl⟩

theorem slice_of_own {w : World} {B n : Nat} {e : TypeId} {v : Value} {xs : List Value} (h : w.ownsRow B e 1 v n xs) : ∃ a m c, v = .slice a m c := by
  rcases h.2 with ⟨rfl, _⟩ | ⟨g, cap, cur, rfl, _⟩
  · exact ⟨_, _, _, rfl⟩
  · exact ⟨_, _, _, rfl⟩
theorem own_join {w : World} {v : Value} {bs xs : List Int} (h : w.ownsRow 0 5 1 v (bs.length + xs.length) (u8s bs ++ u8s xs)) : w.ownsRow 0 5 1 v (bs ++ xs).length (u8s (bs ++ xs)) := by
  rw [List.length_append, u8s, List.map_append]
  exact h
theorem grown_self (w : World) (r : Option Nat) : w.grownBy w r := ⟨rfl, rfl, rfl, Nat.le_refl _, fun _ _ _ => rfl⟩

set_option maxHeartbeats 1000000 in
set_option maxRecDepth 100000 in
theorem fixed_nil (w : World) (p : Nat) (v s : Value) (bs xs : List Int) (h : Wr w p .nilIface v bs) (hs : Src w s xs) (hlen : bs.length + xs.length ≤ 140737488355328) :
    Calls Tryd.prog 63 #[.pointer (some ⟨p, 0, none⟩), s] w fun r w' => r = .returned (.tuple #[]) ∧ ∃ v', Wr w' p .nilIface v' (bs ++ xs) ∧ Upd p w v w' v' := by
  obtain ⟨i0, hi, hz0, hz1, hz2⟩ := info_parts Tryd.info5
  have k0 := h.c0
  have k1 := h.c1
  have H := Lib.hid h
  have hown0 := h.own
  obtain ⟨a0, m0, c0, rfl⟩ := slice_of_own hown0
  clear h
  rcases hs with ⟨rfl, rfl⟩ | ⟨ad, c, rfl, hc1, hc2, hcs⟩
  · have kf := H.out.f1
    go_enter Tryd.func63, Tryd.ntmps63
    go_wp2_with (first
      | (at_builtin; refine wpList_append_own_none rfl (.tmp 14) (.tmp 15) 22 rfl 0 5 i0 1 Tryd.underlying22 hi _ bs.length (u8s bs) rfl hown0 rfl ?_))
    go_end0
    obtain ⟨-, -, s3, s4⟩ := H.out.stored (grown_self _ _) hown0 (.inl rfl)
    exact ⟨rfl, _, by simpa using s3, s4⟩
  · have hn1 : bs.length + xs.length ≤ maxLen := by unfold maxLen; omega
    have hn2 : (bs.length + xs.length) * 1 ≤ 140737488355328 := by omega
    clear hlen
    go_enter Tryd.func63, Tryd.ntmps63
    go_wp2_with (first
      | (at_builtin; refine wpList_append_own_at _ rfl (.tmp 14) (.tmp 15) 22 rfl 0 5 i0 (.int .u8 0) 1 1 Tryd.underlying22 hi hz0 hz1 hz2 rfl (by decide) _ bs.length (u8s bs) rfl hown0 ad xs.length c (u8s xs) rfl (by simp) hcs (u8s_oneCell xs) hn1 hn2 (Nat.zero_le _) ?_; intro v' w1 hown hgrow _ hat; obtain ⟨a2, m2, c2, rfl⟩ := slice_of_own hown; obtain ⟨s1, s2, s3, s4⟩ := H.out.stored hgrow (own_join hown) hat))
    go_end0
    exact ⟨rfl, _, s3, s4⟩

end Go.Proofs.YtadonpfpneanhaaDoor
