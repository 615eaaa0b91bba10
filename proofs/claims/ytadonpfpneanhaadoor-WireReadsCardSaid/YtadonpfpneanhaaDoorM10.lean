/- An op is read alike: numbers, flags, bytes. -/
import Derived.Test.YtadonpfpneanhaaDoorM9
namespace Go.Proofs.YtadonpfpneanhaaDoor
open Go.RowKit

set_option maxHeartbeats 4000000 in
set_option maxRecDepth 100000 in
theorem reads_num (A : List Addr) (w0 w : World) (q m : Nat) (sl b slo : Value) (B : List Int) (s : RS) (n width most : Int)
    (h : St A w0 q m w.heap.size b B (opB 1 n width most slo) (w.alloc (opB 1 n width most slo)) sl s s []) :
    Calls Tryd.prog 52 #[.pointer (some ⟨q, 0, none⟩), .pointer (some ⟨m, 0, none⟩), opV 1 n width most slo] w fun r w' => r = .returned (.bool true) ∧ ∃ sl' K, St A w0 q m w.heap.size b B (opB 1 n width most slo) w' sl' (s.number width) (s.number width) K := by
  have P0 := h.later ((Below.refl _ _).drew)
  have HA : Hid (∀ W sl s t, St A w0 q m w.heap.size b B (opB 1 n width most slo) W sl s t [] → Calls Tryd.prog 20 #[.pointer (some ⟨q, 0, none⟩), .int .i64 width] W fun r W' => r = .returned (.int .i64 (s.numV width)) ∧ W'.cell? ⟨w.heap.size, 2, none⟩ = some (.int .i64 width) ∧ ∃ sl', St A w0 q m w.heap.size b B (opB 1 n width most slo) W' sl' (s.number width) t []) := fun W sl s t h =>
    (st_num h width).mono fun _ _ ⟨e1, sl', e2⟩ => ⟨e1, e2.cell 2, sl', e2⟩
  have HB : Hid (∀ W sl s t, St A w0 q m w.heap.size b B (opB 1 n width most slo) W sl s t [] → Calls Tryd.prog 79 #[.pointer (some ⟨m, 0, none⟩), .int .i64 width] W fun r W' => r = .returned (.int .i64 (t.numV width)) ∧ W'.cell? ⟨w.heap.size, 2, none⟩ = some (.int .i64 width) ∧ St A w0 q m w.heap.size b B (opB 1 n width most slo) W' sl s (t.number width) []) := fun W sl s t h =>
    (st_mnum h width).mono fun _ _ ⟨e1, e2⟩ => ⟨e1, e2.cell 2, e2⟩
  clear h
  go_enter Tryd.func52, Tryd.ntmps52
  go_wp2_with fail
  go_region_with (first
    | (go_at_call 20; refine (HA.out _ _ _ _ (by assumption)).mono ?_; rintro r w7 ⟨rfl, k7, sl7, P7⟩)
    | (go_at_call 79; refine (HB.out _ _ _ _ (by assumption)).mono ?_; rintro r w8 ⟨rfl, k8, P8⟩))
  all_goals
    first
      | have HK : Hid (∃ sl' K, St A w0 q m w.heap.size b B (opB 1 n width most slo) w8 sl' (s.number width) (s.number width) K) := ⟨_, _, P8⟩
      | have HK : Hid (∃ sl' K, St A w0 q m w.heap.size b B (opB 1 n width most slo) w7 sl' (s.number width) (s.number width) K) := ⟨_, _, P7⟩
    clear k7 k8 P7 P8 P0
    go_wp2_with fail
    go_ret
    exact ⟨by first | rfl | simp [Act.put], HK.out⟩

set_option maxHeartbeats 4000000 in
set_option maxRecDepth 100000 in
theorem reads_flag (A : List Addr) (w0 w : World) (q m : Nat) (sl b slo : Value) (B : List Int) (s : RS) (n width most : Int) (hF : Form A (w.alloc (opB 2 n width most slo)))
    (h : St A w0 q m w.heap.size b B (opB 2 n width most slo) (w.alloc (opB 2 n width most slo)) sl s s []) :
    Calls Tryd.prog 52 #[.pointer (some ⟨q, 0, none⟩), .pointer (some ⟨m, 0, none⟩), opV 2 n width most slo] w fun r w' => r = .returned (.bool true) ∧ ∃ sl' K, St A w0 q m w.heap.size b B (opB 2 n width most slo) w' sl' (s.flag) (s.flag) K := by
  have HA : Hid (Calls Tryd.prog 47 #[.pointer (some ⟨q, 0, none⟩)] (w.alloc (opB 2 n width most slo)) fun r W' => r = .returned (.bool s.flagV) ∧ ∃ sl', St A w0 q m w.heap.size b B (opB 2 n width most slo) W' sl' s.flag s []) :=
    (rflag_any A _ hF q sl s h.eye).mono fun _ _ ⟨e1, sl', e2, e3⟩ => ⟨e1, sl', h.left e2 e3⟩
  clear h
  go_enter Tryd.func52, Tryd.ntmps52
  go_wp2_with fail
  refine HA.out.mono ?_
  rintro r w7 ⟨rfl, sl7, P7⟩
  have HB : Hid (Calls Tryd.prog 80 #[.pointer (some ⟨m, 0, none⟩)] w7 fun r W' => r = .returned (.bool s.flagV) ∧ St A w0 q m w.heap.size b B (opB 2 n width most slo) W' sl7 s.flag s.flag []) :=
    (mflag_any w7 m b B s P7.mr).mono fun _ _ ⟨e1, e2, e3⟩ => ⟨e1, P7.right e2 e3⟩
  clear P7
  go_wp2_with fail
  refine HB.out.mono ?_
  rintro r w8 ⟨rfl, P8⟩
  have HK := Lib.hid P8
  clear P8
  go_wp2_with fail
  go_ret
  exact ⟨by first | rfl | simp [Act.put], _, _, HK.out⟩

set_option maxHeartbeats 4000000 in
set_option maxRecDepth 100000 in
theorem reads_fixed (A : List Addr) (w0 w : World) (q m : Nat) (sl b slo : Value) (B : List Int) (s : RS) (n width most : Int)
    (h : St A w0 q m w.heap.size b B (opB 3 n width most slo) (w.alloc (opB 3 n width most slo)) sl s s []) :
    Calls Tryd.prog 52 #[.pointer (some ⟨q, 0, none⟩), .pointer (some ⟨m, 0, none⟩), opV 3 n width most slo] w fun r w' => r = .returned (.bool true) ∧ ∃ sl' K, St A w0 q m w.heap.size b B (opB 3 n width most slo) w' sl' (s.fixed n) (s.fixed n) K := by
  have P0 := h.later ((Below.refl _ _).drew)
  have HA : Hid (∀ W sl s t K, St A w0 q m w.heap.size b B (opB 3 n width most slo) W sl s t K → Calls Tryd.prog 48 #[.pointer (some ⟨q, 0, none⟩), .int .i64 n] W fun r W' => ∃ out sl', r = .returned out ∧ W'.cell? ⟨w.heap.size, 1, none⟩ = some (.int .i64 n) ∧ St A w0 q m w.heap.size b B (opB 3 n width most slo) W' sl' (s.fixed n) t ((out, s.fixedV n) :: K)) := fun W sl s t K h =>
    (st_fixed h n).mono fun _ _ ⟨out, sl', e1, e2⟩ => ⟨out, sl', e1, e2.cell 1, e2⟩
  have HB : Hid (∀ W sl s t K, St A w0 q m w.heap.size b B (opB 3 n width most slo) W sl s t K → Calls Tryd.prog 81 #[.pointer (some ⟨m, 0, none⟩), .int .i64 n] W fun r W' => ∃ out, r = .returned out ∧ W'.cell? ⟨w.heap.size, 1, none⟩ = some (.int .i64 n) ∧ St A w0 q m w.heap.size b B (opB 3 n width most slo) W' sl s (t.fixed n) ((out, t.fixedV n) :: K)) := fun W sl s t K h =>
    (st_mfixed h n).mono fun _ _ ⟨out, e1, e2⟩ => ⟨out, e1, e2.cell 1, e2⟩
  clear h
  go_enter Tryd.func52, Tryd.ntmps52
  go_wp2_with fail
  go_region_with (first
    | (go_at_call 48; refine (HA.out _ _ _ _ _ (by assumption)).mono ?_; rintro r w7 ⟨o7, sl7, rfl, k7, P7⟩; have x7 := P7.conv1; try have y7 := P7.conv2)
    | (go_at_call 81; refine (HB.out _ _ _ _ _ (by assumption)).mono ?_; rintro r w8 ⟨o8, rfl, k8, P8⟩; have x8 := P8.conv1; try have y8 := P8.conv2))
  all_goals
    first
      | have HK : Hid (∃ sl' K, St A w0 q m w.heap.size b B (opB 3 n width most slo) w8 sl' (s.fixed n) (s.fixed n) K) := ⟨_, _, P8⟩
      | have HK : Hid (∃ sl' K, St A w0 q m w.heap.size b B (opB 3 n width most slo) w7 sl' (s.fixed n) (s.fixed n) K) := ⟨_, _, P7⟩
    clear k7 k8 P7 P8 P0
    go_wp2_with fail
    go_ret
    exact ⟨by first | rfl | simp [Act.put], HK.out⟩

set_option maxHeartbeats 4000000 in
set_option maxRecDepth 100000 in
theorem reads_bytes (A : List Addr) (w0 w : World) (q m : Nat) (sl b slo : Value) (B : List Int) (s : RS) (n width most : Int)
    (h : St A w0 q m w.heap.size b B (opB 4 n width most slo) (w.alloc (opB 4 n width most slo)) sl s s []) :
    Calls Tryd.prog 52 #[.pointer (some ⟨q, 0, none⟩), .pointer (some ⟨m, 0, none⟩), opV 4 n width most slo] w fun r w' => r = .returned (.bool true) ∧ ∃ sl' K, St A w0 q m w.heap.size b B (opB 4 n width most slo) w' sl' (s.bytes most) (s.bytes most) K := by
  have P0 := h.later ((Below.refl _ _).drew)
  have HA : Hid (∀ W sl s t K, St A w0 q m w.heap.size b B (opB 4 n width most slo) W sl s t K → Calls Tryd.prog 49 #[.pointer (some ⟨q, 0, none⟩), .int .i64 most] W fun r W' => ∃ out sl', r = .returned out ∧ W'.cell? ⟨w.heap.size, 3, none⟩ = some (.int .i64 most) ∧ St A w0 q m w.heap.size b B (opB 4 n width most slo) W' sl' (s.bytes most) t ((out, s.bytesV most) :: K)) := fun W sl s t K h =>
    (st_bytes h most).mono fun _ _ ⟨out, sl', e1, e2⟩ => ⟨out, sl', e1, e2.cell 3, e2⟩
  have HB : Hid (∀ W sl s t K, St A w0 q m w.heap.size b B (opB 4 n width most slo) W sl s t K → Calls Tryd.prog 82 #[.pointer (some ⟨m, 0, none⟩), .int .i64 most] W fun r W' => ∃ out, r = .returned out ∧ W'.cell? ⟨w.heap.size, 3, none⟩ = some (.int .i64 most) ∧ St A w0 q m w.heap.size b B (opB 4 n width most slo) W' sl s (t.bytes most) ((out, t.bytesV most) :: K)) := fun W sl s t K h =>
    (st_mbytes h most).mono fun _ _ ⟨out, e1, e2⟩ => ⟨out, e1, e2.cell 3, e2⟩
  clear h
  go_enter Tryd.func52, Tryd.ntmps52
  go_wp2_with fail
  go_region_with (first
    | (go_at_call 49; refine (HA.out _ _ _ _ _ (by assumption)).mono ?_; rintro r w7 ⟨o7, sl7, rfl, k7, P7⟩; have x7 := P7.conv1; try have y7 := P7.conv2)
    | (go_at_call 82; refine (HB.out _ _ _ _ _ (by assumption)).mono ?_; rintro r w8 ⟨o8, rfl, k8, P8⟩; have x8 := P8.conv1; try have y8 := P8.conv2))
  all_goals
    first
      | have HK : Hid (∃ sl' K, St A w0 q m w.heap.size b B (opB 4 n width most slo) w8 sl' (s.bytes most) (s.bytes most) K) := ⟨_, _, P8⟩
      | have HK : Hid (∃ sl' K, St A w0 q m w.heap.size b B (opB 4 n width most slo) w7 sl' (s.bytes most) (s.bytes most) K) := ⟨_, _, P7⟩
    clear k7 k8 P7 P8 P0
    go_wp2_with fail
    go_ret
    exact ⟨by first | rfl | simp [Act.put], HK.out⟩

end Go.Proofs.YtadonpfpneanhaaDoor
