/- An op is read alike: errors, every op. -/
import Derived.Test.YtadonpfpneanhaaDoorM11
namespace Go.Proofs.YtadonpfpneanhaaDoor
open Go.RowKit

set_option maxHeartbeats 4000000 in
set_option maxRecDepth 100000 in
theorem reads_fail (A : List Addr) (w0 w : World) (q m : Nat) (sl b slo : Value) (B : List Int) (s : RS) (n width most : Int) (hO : Old A (w.alloc (opB 6 n width most slo)))
    (h : St A w0 q m w.heap.size b B (opB 6 n width most slo) (w.alloc (opB 6 n width most slo)) sl s s []) :
    Calls Tryd.prog 52 #[.pointer (some ⟨q, 0, none⟩), .pointer (some ⟨m, 0, none⟩), opV 6 n width most slo] w fun r w' => r = .returned (.bool true) ∧ ∃ sl' K, St A w0 q m w.heap.size b B (opB 6 n width most slo) w' sl' (s.fail 10) (s.fail 10) K := by
  obtain ⟨a1, ha1, hg⟩ := hO
  have HF : Hid (∀ W, W = (w.alloc (opB 6 n width most slo)).drew → Calls Tryd.prog 55 #[.pointer (some ⟨q, 0, none⟩), .iface 132 (.pointer (some a1))] W fun r W' => r = .returned (.tuple #[]) ∧ St A w0 q m w.heap.size b B (opB 6 n width most slo) W' sl (s.fail 10) s []) := fun W e => by
    refine (rfail_drew h.eye ha1 W e).mono ?_
    rintro _ W' ⟨e1, e2, e3⟩
    exact ⟨e1, h.left e2 e3⟩
  clear h ha1
  go_enter Tryd.func52, Tryd.ntmps52
  go_wp2_with fail
  go_region_with (first
    | (go_at_call 55; refine (HF.out _ rfl).mono ?_; rintro r w4 ⟨rfl, P4⟩))
  all_goals
    have HM : Hid (Calls Tryd.prog 87 #[.pointer (some ⟨m, 0, none⟩), .int .i64 10] w4 fun r W' => r = .returned (.tuple #[]) ∧ St A w0 q m w.heap.size b B (opB 6 n width most slo) W' sl (s.fail 10) (s.fail 10) []) :=
      (mfail_any w4 m b B s P4.mr 10 (by decide) 10 rfl).mono fun _ _ ⟨e1, e2, e3⟩ => ⟨e1, P4.right e2 e3⟩
    clear P4
    go_wp2_with fail
    refine HM.out.mono ?_
    rintro r w5 ⟨rfl, P5⟩
    have HK := Lib.hid P5
    clear P5
    go_wp2_with fail
    go_ret
    exact ⟨rfl, _, _, HK.out⟩

set_option maxHeartbeats 4000000 in
set_option maxRecDepth 100000 in
theorem reads_else (A : List Addr) (w0 w : World) (q m : Nat) (sl b slo : Value) (B : List Int) (s : RS) (k n width most : Int) (h1 : ¬ k = 1) (h2 : ¬ k = 2) (h3 : ¬ k = 3) (h4 : ¬ k = 4) (h5 : ¬ k = 5) (h6 : ¬ k = 6)
    (h : St A w0 q m w.heap.size b B (opB k n width most slo) (w.alloc (opB k n width most slo)) sl s s []) :
    Calls Tryd.prog 52 #[.pointer (some ⟨q, 0, none⟩), .pointer (some ⟨m, 0, none⟩), opV k n width most slo] w fun r w' => r = .returned (.bool true) ∧ ∃ sl' K, St A w0 q m w.heap.size b B (opB k n width most slo) w' sl' s s K := by
  have HK := Lib.hid h
  clear h
  go_enter Tryd.func52, Tryd.ntmps52
  go_wp2_with fail
  go_ret
  exact ⟨rfl, _, _, HK.out⟩

def RS.rop (s : RS) (k n width most : Int) : RS :=
  if k = 1 then s.number width else if k = 2 then s.flag else if k = 3 then s.fixed n else if k = 4 then s.bytes most else if k = 5 then s.listS most else if k = 6 then s.fail 10 else s
theorem fail_c {s : RS} (h : s.c ≤ 18) {k : Nat} (hk : k ≤ 18) : (s.fail k).c ≤ 18 := by
  unfold RS.fail
  split
  · exact hk
  · exact h
theorem take_c {s : RS} (h : s.c ≤ 18) (n : Nat) : (s.take n).c ≤ 18 := by
  unfold RS.take
  split
  · split
    · exact of_decide_eq_true rfl
    · exact Nat.zero_le _
  · exact h
theorem number_c {s : RS} (h : s.c ≤ 18) (x : Int) : (s.number x).c ≤ 18 := by
  unfold RS.number
  split
  · exact fail_c h (by omega)
  · refine take_c ?_ _
    unfold RS.pre
    split
    · exact fail_c h (by omega)
    · exact h
theorem most_c {s : RS} (h : s.c ≤ 18) (n x : Int) : (s.most n x).c ≤ 18 := by
  unfold RS.most
  split
  · exact fail_c h (by omega)
  · exact h
theorem fixed_c {s : RS} (h : s.c ≤ 18) (n : Int) : (s.fixed n).c ≤ 18 := by
  unfold RS.fixed
  split
  · exact fail_c h (by omega)
  · exact take_c h _
theorem list_c (n : Nat) : ∀ {s : RS}, s.c ≤ 18 → (s.list n).1.c ≤ 18 := by
  induction n with
  | zero => intro s h; exact h
  | succ n ih =>
    intro s h
    unfold RS.list
    split
    · exact h
    · exact ih (number_c h 1)
theorem rop_c {s : RS} (h : s.c ≤ 18) (k n width most : Int) : (s.rop k n width most).c ≤ 18 := by
  unfold RS.rop
  split
  · exact number_c h _
  split
  · unfold RS.flag RS.flagP
    refine number_c ?_ _
    split
    · exact fail_c h (by omega)
    · exact h
  split
  · exact fixed_c h _
  split
  · exact fixed_c (most_c (number_c h _) _ _) _
  split
  · exact list_c _ (most_c (number_c h _) _ _)
  split
  · exact fail_c h (by omega)
  · exact h

/-- What an op reads. -/
theorem reads_any (A : List Addr) (w0 w : World) (q m : Nat) (sl b slo : Value) (B : List Int) (s : RS) (k n width most : Int) (hF : Form A (w.alloc (opB k n width most slo))) (hO : Old A (w.alloc (opB k n width most slo))) (h8 : ∀ x ∈ s.xs, 0 ≤ x ∧ x < 256)
    (h : St A w0 q m w.heap.size b B (opB k n width most slo) (w.alloc (opB k n width most slo)) sl s s []) :
    Calls Tryd.prog 52 #[.pointer (some ⟨q, 0, none⟩), .pointer (some ⟨m, 0, none⟩), opV k n width most slo] w fun r w' => r = .returned (.bool true) ∧ ∃ sl' K, St A w0 q m w.heap.size b B (opB k n width most slo) w' sl' (s.rop k n width most) (s.rop k n width most) K := by
  by_cases h1 : k = 1
  · subst h1
    rw [show s.rop 1 n width most = _ from rfl]
    exact (reads_num A w0 w q m sl b slo B s n width most h)
  by_cases h2 : k = 2
  · subst h2
    rw [show s.rop 2 n width most = _ from rfl]
    exact (reads_flag A w0 w q m sl b slo B s n width most hF h)
  by_cases h3 : k = 3
  · subst h3
    rw [show s.rop 3 n width most = _ from rfl]
    exact (reads_fixed A w0 w q m sl b slo B s n width most h)
  by_cases h4 : k = 4
  · subst h4
    rw [show s.rop 4 n width most = _ from rfl]
    exact (reads_bytes A w0 w q m sl b slo B s n width most h)
  by_cases h5 : k = 5
  · subst h5
    rw [show s.rop 5 n width most = _ from rfl]
    exact (reads_list A w0 w q m sl b slo B s n width most h8 h)
  by_cases h6 : k = 6
  · subst h6
    rw [show s.rop 6 n width most = _ from rfl]
    exact (reads_fail A w0 w q m sl b slo B s n width most hO h)
  rw [show s.rop k n width most = s by unfold RS.rop; rw [if_neg h1, if_neg h2, if_neg h3, if_neg h4, if_neg h5, if_neg h6]]
  exact (reads_else A w0 w q m sl b slo B s k n width most h1 h2 h3 h4 h5 h6 h)

end Go.Proofs.YtadonpfpneanhaaDoor
