/- Contracts of the small functions of turns and pace: what each answers, at every argument. -/
import Derived.Test.YtepcfjekijjagaaDoorChecked
import Derived.WalkKit
import Derived.BigQuiet
import Derived.Deep.QuietTactic
import Derived.Deep.RegionWith
import Derived.Deep.LoopGhost
import Derived.WalkSpells
import Derived.WalkLawsBesides
namespace Go.Proofs.YtepcfjekijjagaaDoor
open Go.RowKit

def waitOf (f : Int) : Int := if f ≤ 0 then 2 else if f = 1 then 4 else if f = 2 then 8 else 16

theorem waitOf_le (f : Int) (h : f ≤ 0) : waitOf f = 2 := if_pos h

def WaitRel (f x y : Int) : Prop := (x = f ∧ y = 2) ∨ (x = f - 1 ∧ y = 4 ∧ 1 ≤ f) ∨ (x = f - 2 ∧ y = 8 ∧ 2 ≤ f) ∨ (x = f - 3 ∧ y = 16 ∧ 3 ≤ f)
theorem waitRel_in {f x y : Int} (h : WaitRel f x y) : x ≤ f ∧ f ≤ x + 3 ∧ 2 ≤ y ∧ y ≤ 16 := by unfold WaitRel at h; omega
theorem waitRel_on {f x y : Int} (h : WaitRel f x y) (hx : 0 < x) (hy : y < 16) : WaitRel f (x - 1) (y * 2) := by unfold WaitRel at *; omega
theorem waitRel_end {f x y : Int} (h : WaitRel f x y) (hx : x ≤ 0 ∨ 16 ≤ y) : y = waitOf f := by
  unfold WaitRel at h
  unfold waitOf
  by_cases h0 : f ≤ 0
  · rw [if_pos h0]; omega
  · rw [if_neg h0]
    by_cases h1 : f = 1
    · rw [if_pos h1]; omega
    · rw [if_neg h1]
      by_cases h2 : f = 2
      · rw [if_pos h2]; omega
      · rw [if_neg h2]; omega

theorem ret_i64 {a b : Int} (h : a = b) : Ending.returned (.int .i64 a) = .returned (.int .i64 b) := by rw [h]

set_option maxHeartbeats 400000 in
theorem wait_any (f : Int) (w : World) (h1 : f ≤ 9223372036854775807) :
    Calls Tryd.prog 24 #[.int .i64 f] w fun e w' => e = .returned (.int .i64 (waitOf f)) ∧ w = w' := by
  go_enter Tryd.func24, Tryd.ntmps24
  go_wp2
  go_loop [0, 3] (fun a b => ∃ x y : Int, a = .int .i64 x ∧ b = .int .i64 y ∧ WaitRel f x y) (fun _ b => (16 - intOf b).toNat)
  case atStart => exact ⟨f, 2, rfl, rfl, .inl ⟨rfl, rfl⟩⟩
  case round =>
    obtain ⟨x, y, rfl, rfl, hr⟩ := hrel
    obtain ⟨b1, b2, b3, b4⟩ := waitRel_in hr
    by_cases hx : 0 < x
    · by_cases hy : y < 16
      · go_wp2
        go_round
        case rel => exact ⟨x - 1, y * 2, rfl, rfl, waitRel_on hr hx hy⟩
        case measure => simp [intOf]; omega
      · go_wp2
        go_ret
        exact ⟨ret_i64 (waitRel_end hr (.inr (by omega))), rfl⟩
    · go_wp2
      go_ret
      exact ⟨ret_i64 (waitRel_end hr (.inl (by omega))), rfl⟩

/-- 'few'. -/
theorem few_any (n : Int) (w : World) : Calls Tryd.prog 31 #[.int .i64 n] w fun e w' => e = .returned (.bool (decide (1 ≤ n ∧ n ≤ 7))) ∧ w = w' := by
  by_cases h1 : 1 ≤ n
  · by_cases h7 : n ≤ 7
    · have e : decide (1 ≤ n ∧ n ≤ 7) = true := by simp; omega
      rw [e]
      go_enter Tryd.func31, Tryd.ntmps31
      go_wp2
      go_ret
      exact ⟨rfl, rfl⟩
    · have e : decide (1 ≤ n ∧ n ≤ 7) = false := by simp; omega
      rw [e]
      go_enter Tryd.func31, Tryd.ntmps31
      go_wp2
      go_ret
      exact ⟨rfl, rfl⟩
  · have e : decide (1 ≤ n ∧ n ≤ 7) = false := by simp; omega
    rw [e]
    go_enter Tryd.func31, Tryd.ntmps31
    go_wp2
    go_ret
    exact ⟨rfl, rfl⟩

def leaderOf (n r : Int) : Int := if 1 ≤ n ∧ n ≤ 7 ∧ 0 ≤ r then r % n else -1

/-- 'Leader': none, or the rest of the round. -/
theorem leader_any (n r : Int) (w : World) : Calls Tryd.prog 12 #[.int .i64 n, .int .i64 r] w fun e w' => e = .returned (.int .i64 (leaderOf n r)) ∧ w = w' := by
  unfold leaderOf
  by_cases h1 : 1 ≤ n
  · by_cases h7 : n ≤ 7
    · by_cases hr : 0 ≤ r
      · rw [if_pos ⟨h1, h7, hr⟩]
        go_enter Tryd.func12, Tryd.ntmps12
        go_wp2
        go_ret
        exact ⟨rfl, rfl⟩
      · rw [if_neg (by omega)]
        go_enter Tryd.func12, Tryd.ntmps12
        go_wp2
        go_ret
        exact ⟨rfl, rfl⟩
    · rw [if_neg (by omega)]
      go_enter Tryd.func12, Tryd.ntmps12
      go_wp2
      go_ret
      exact ⟨rfl, rfl⟩
  · rw [if_neg (by omega)]
    go_enter Tryd.func12, Tryd.ntmps12
    go_wp2
    go_ret
    exact ⟨rfl, rfl⟩

/-- 'Next': the error. -/
theorem next_err (r : Int) (a : Value) (w : World) (ha : w.cell? ⟨1, 0, none⟩ = some a) (h : r < 0 ∨ 1099511627776 ≤ r) :
    Calls Tryd.prog 22 #[.int .i64 r] w fun e w' => e = .returned (.tuple #[.int .i64 0, a]) ∧ ∃ n, w' = w.drewN n := by
  rcases h with h | h
  all_goals
    go_enter Tryd.func22, Tryd.ntmps22
    go_wp2
    go_quiet (fail)
    go_wp2
    go_ret2
    exact ⟨rfl, _, rfl⟩
theorem next_ok (r : Int) (w : World) (h0 : 0 ≤ r) (h1 : r < 1099511627776) :
    Calls Tryd.prog 22 #[.int .i64 r] w fun e w' => e = .returned (.tuple #[.int .i64 (r + 1), .nilIface]) ∧ w = w' := by
  go_enter Tryd.func22, Tryd.ntmps22
  go_wp2
  go_ret2
  exact ⟨rfl, rfl⟩

/-- A pace in block b: its round, its fails, its ticks; its cells may be written. -/
structure PaceAt (w : World) (b : Nat) (r f t : Int) : Prop where
  c0 : w.cell? ⟨b, 0, none⟩ = some (.int .i64 r)
  c1 : w.cell? ⟨b, 1, none⟩ = some (.int .i64 f)
  c2 : w.cell? ⟨b, 2, none⟩ = some (.int .i64 t)
  z0 : w.frozen? ⟨b, 0, none⟩ = false
  z1 : w.frozen? ⟨b, 1, none⟩ = false
  z2 : w.frozen? ⟨b, 2, none⟩ = false

abbrev pp (b : Nat) : Value := .pointer (some ⟨b, 0, none⟩)

theorem round_any (b : Nat) (r f t : Int) (w : World) (h : PaceAt w b r f t) :
    Calls Tryd.prog 18 #[pp b] w fun e w' => e = .returned (.int .i64 r) ∧ w = w' := by
  obtain ⟨c0, c1, c2, z0, z1, z2⟩ := h
  go_enter Tryd.func18, Tryd.ntmps18
  go_wp2
  go_ret
  exact ⟨rfl, rfl⟩
theorem fails_any (b : Nat) (r f t : Int) (w : World) (h : PaceAt w b r f t) :
    Calls Tryd.prog 21 #[pp b] w fun e w' => e = .returned (.int .i64 f) ∧ w = w' := by
  obtain ⟨c0, c1, c2, z0, z1, z2⟩ := h
  go_enter Tryd.func21, Tryd.ntmps21
  go_wp2
  go_ret
  exact ⟨rfl, rfl⟩
theorem waitOf_in (f : Int) : 2 ≤ waitOf f ∧ waitOf f ≤ 16 := by unfold waitOf; repeat' split <;> try omega
theorem left_any (b : Nat) (r f t : Int) (w : World) (h : PaceAt w b r f t) (hf : f ≤ 9223372036854775807) (ht : 0 ≤ t) (ht2 : t ≤ 9223372036854775807) :
    Calls Tryd.prog 19 #[pp b] w fun e w' => e = .returned (.int .i64 (waitOf f - t)) ∧ ∃ n, w' = w.drewN n := by
  obtain ⟨c0, c1, c2, z0, z1, z2⟩ := h
  obtain ⟨w1, w2⟩ := waitOf_in f
  go_enter Tryd.func19, Tryd.ntmps19
  go_wp2
  go_quiet ((go_at_call 24; exact Calls.quiet_of_same ((wait_any f _ hf).mono fun e w' ⟨a, b⟩ => ⟨a, b.symm⟩)))
  go_wp2
  go_ret
  exact ⟨rfl, _, rfl⟩

theorem PaceAt.drewN {w : World} {b : Nat} {r f t : Int} (h : PaceAt w b r f t) (n : Nat) : PaceAt (w.drewN n) b r f t := ⟨h.c0, h.c1, h.c2, h.z0, h.z1, h.z2⟩
theorem below_drewN_self (B : Nat) (w : World) (n : Nat) : Below B w (w.drewN n) := ⟨rfl, rfl, rfl, Nat.le_refl _, fun _ _ => rfl⟩

def enterErr (a0 a1 : Value) (q : Int) : Value := if q < 0 then a0 else if 1099511627776 ≤ q then a1 else .nilIface
/-- What 'enter' does: nothing, or it enters the round behind q with so many fails. -/
def EnterPost (a0 a1 : Value) (b : Nat) (r f t q g : Int) (w : World) (e : Ending) (w' : World) : Prop :=
  (e = .returned (.tuple #[.bool false, enterErr a0 a1 q]) ∧ (q < 0 ∨ 1099511627776 ≤ q ∨ q < r) ∧ PaceAt w' b r f t ∧ Below b w w') ∨
  (e = .returned (.tuple #[.bool true, .nilIface]) ∧ 0 ≤ q ∧ q < 1099511627776 ∧ r ≤ q ∧ PaceAt w' b (q + 1) g 0 ∧ Below b w w')

theorem next_any (q : Int) (a1 : Value) (w : World) (h1 : w.cell? ⟨1, 0, none⟩ = some a1) (hq0 : 0 ≤ q) :
    Calls Tryd.prog 22 #[.int .i64 q] w fun e w' => (∃ n, w' = w.drewN n) ∧ ((e = .returned (.tuple #[.int .i64 0, a1]) ∧ 1099511627776 ≤ q) ∨ (e = .returned (.tuple #[.int .i64 (q + 1), .nilIface]) ∧ q < 1099511627776)) := by
  by_cases h : 1099511627776 ≤ q
  · exact (next_err q a1 w h1 (.inr h)).mono fun e w' ⟨he, hw⟩ => ⟨hw, .inl ⟨he, h⟩⟩
  · exact (next_ok q w hq0 (by omega)).mono fun e w' ⟨he, hw⟩ => ⟨⟨0, hw.symm⟩, .inr ⟨he, by omega⟩⟩

theorem enter_neg (a0 a1 : Value) (b : Nat) (r f t q g : Int) (w : World) (h : PaceAt w b r f t) (h0 : w.cell? ⟨0, 0, none⟩ = some a0) (hq : q < 0) :
    Calls Tryd.prog 33 #[pp b, .int .i64 q, .int .i64 g] w (EnterPost a0 a1 b r f t q g w) := by
  go_enter Tryd.func33, Tryd.ntmps33
  go_wp2
  go_quiet (fail)
  go_wp2
  go_ret2
  refine .inl ⟨?_, .inl hq, h.drewN _, below_drewN_self _ _ _⟩
  rw [enterErr, if_pos hq]
  rfl
theorem enter_great (a0 a1 : Value) (u : TypeId) (v : Value) (hu : a1 = .iface u v) (b : Nat) (r f t q g : Int) (w : World) (h : PaceAt w b r f t) (h1 : w.cell? ⟨1, 0, none⟩ = some a1) (hq : 1099511627776 ≤ q) :
    Calls Tryd.prog 33 #[pp b, .int .i64 q, .int .i64 g] w (EnterPost a0 a1 b r f t q g w) := by
  subst hu
  go_enter Tryd.func33, Tryd.ntmps33
  go_wp2_with (go_at_call 22; refine (next_err q _ _ h1 (.inr hq)).mono ?_; rintro e w' ⟨rfl, n, rfl⟩)
  go_ret2
  refine .inl ⟨?_, .inr (.inl hq), h.drewN _, below_drewN_self _ _ _⟩
  rw [enterErr, if_neg (by omega), if_pos hq]
  rfl
theorem enter_old (a0 a1 : Value) (b : Nat) (r f t q g : Int) (w : World) (h : PaceAt w b r f t) (hq0 : 0 ≤ q) (hq1 : q < 1099511627776) (hr : q < r) :
    Calls Tryd.prog 33 #[pp b, .int .i64 q, .int .i64 g] w (EnterPost a0 a1 b r f t q g w) := by
  obtain ⟨c0, c1, c2, z0, z1, z2⟩ := h
  go_enter Tryd.func33, Tryd.ntmps33
  go_wp2_with (go_at_call 22; refine (next_ok q _ hq0 hq1).mono ?_; rintro e w' ⟨rfl, rfl⟩)
  go_ret2
  refine .inl ⟨?_, .inr (.inr hr), ⟨c0, c1, c2, z0, z1, z2⟩, Below.refl _ _⟩
  rw [enterErr, if_neg (by omega), if_neg (by omega)]
  rfl
theorem enter_new (a0 a1 : Value) (b : Nat) (r f t q g : Int) (w : World) (h : PaceAt w b r f t) (hq0 : 0 ≤ q) (hq1 : q < 1099511627776) (hr : r ≤ q) :
    Calls Tryd.prog 33 #[pp b, .int .i64 q, .int .i64 g] w (EnterPost a0 a1 b r f t q g w) := by
  obtain ⟨c0, c1, c2, z0, z1, z2⟩ := h
  go_enter Tryd.func33, Tryd.ntmps33
  go_wp2_with (go_at_call 22; refine (next_ok q _ hq0 hq1).mono ?_; rintro e w' ⟨rfl, rfl⟩)
  go_ret2
  refine .inr ⟨rfl, hq0, hq1, hr, ⟨?_, ?_, ?_, ?_, ?_, ?_⟩, (((Below.refl _ _).setCell (by simp) _).setCell (by simp) _).setCell (by simp) _⟩
  all_goals go_simp

/-- Two sentinels: blocks 0 and 1 hold two errors that are not nil. -/
structure Errs2 (w : World) (u0 u1 : TypeId) (v0 v1 : Value) : Prop where
  e0 : w.cell? ⟨0, 0, none⟩ = some (.iface u0 v0)
  e1 : w.cell? ⟨1, 0, none⟩ = some (.iface u1 v1)
theorem Errs2.below {w w' : World} {u0 u1 : TypeId} {v0 v1 : Value} (h : Errs2 w u0 u1 v0 v1) {B : Nat} (hb : Below B w w') (hB : 2 ≤ B) : Errs2 w' u0 u1 v0 v1 :=
  ⟨(hb.cell (p := ⟨0, 0, none⟩) (by simp; omega)).trans h.e0, (hb.cell (p := ⟨1, 0, none⟩) (by simp; omega)).trans h.e1⟩

theorem enter_any (u0 u1 : TypeId) (v0 v1 : Value) (b : Nat) (r f t q g : Int) (w : World) (h : PaceAt w b r f t) (he : Errs2 w u0 u1 v0 v1) :
    Calls Tryd.prog 33 #[pp b, .int .i64 q, .int .i64 g] w (EnterPost (.iface u0 v0) (.iface u1 v1) b r f t q g w) := by
  by_cases hq : q < 0
  · exact enter_neg _ _ b r f t q g w h he.e0 hq
  · by_cases hq1 : 1099511627776 ≤ q
    · exact enter_great _ _ u1 v1 rfl b r f t q g w h he.e1 hq1
    · by_cases hr : q < r
      · exact enter_old _ _ b r f t q g w h (by omega) (by omega) hr
      · exact enter_new _ _ b r f t q g w h (by omega) (by omega) (by omega)

theorem QC_any (u0 u1 : TypeId) (v0 v1 : Value) (b : Nat) (r f t q : Int) (w : World) (h : PaceAt w b r f t) (he : Errs2 w u0 u1 v0 v1) :
    Calls Tryd.prog 16 #[pp b, .int .i64 q] w (EnterPost (.iface u0 v0) (.iface u1 v1) b r f t q 0 w) := by
  go_enter Tryd.func16, Tryd.ntmps16
  go_wp2_with (go_at_call 33; refine (enter_any u0 u1 v0 v1 b r f t q 0 w h he).mono ?_; rintro e w' (⟨rfl, h2, h3, h4⟩ | ⟨rfl, h2, h3, h4, h5, h6⟩))
  · go_ret2
    exact .inl ⟨rfl, h2, h3, h4⟩
  · go_ret2
    exact .inr ⟨rfl, h2, h3, h4, h5, h6⟩
theorem TC_any (u0 u1 : TypeId) (v0 v1 : Value) (b : Nat) (r f t q : Int) (w : World) (h : PaceAt w b r f t) (he : Errs2 w u0 u1 v0 v1) (hf : 0 ≤ f) (hf1 : f ≤ 9223372036854775000) :
    Calls Tryd.prog 17 #[pp b, .int .i64 q] w (EnterPost (.iface u0 v0) (.iface u1 v1) b r f t q (f + 1) w) := by
  have c1 := h.c1
  go_enter Tryd.func17, Tryd.ntmps17
  go_wp2_with (go_at_call 33; refine (enter_any u0 u1 v0 v1 b r f t q _ w h he).mono ?_; rintro e w' (⟨rfl, h2, h3, h4⟩ | ⟨rfl, h2, h3, h4, h5, h6⟩))
  · go_ret2
    exact .inl ⟨rfl, h2, h3, h4⟩
  · go_ret2
    exact .inr ⟨rfl, h2, h3, h4, h5, h6⟩

theorem PaceAt.ticks {w : World} {b : Nat} {r f t : Int} (h : PaceAt w b r f t) (t' : Int) : PaceAt (w.setCell ⟨b, 2, none⟩ (.int .i64 t')) b r f t' := by
  obtain ⟨c0, c1, c2, z0, z1, z2⟩ := h
  exact ⟨by go_simp, by go_simp, by go_simp, by go_simp, by go_simp, by go_simp⟩
/-- What a tick does. -/
def TickPost (b : Nat) (r f t : Int) (w : World) (e : Ending) (w' : World) : Prop :=
  (e = .returned (.bool false) ∧ t + 1 < waitOf f ∧ PaceAt w' b r f (t + 1) ∧ Below b w w') ∨
  (e = .returned (.bool true) ∧ waitOf f ≤ t + 1 ∧ PaceAt w' b r f 0 ∧ Below b w w')
theorem tick_any (b : Nat) (r f t : Int) (w : World) (h : PaceAt w b r f t) (hf : f ≤ 9223372036854775807) (ht : 0 ≤ t) (ht2 : t ≤ 1000) :
    Calls Tryd.prog 20 #[pp b] w (TickPost b r f t w) := by
  have wi := waitOf_in f
  obtain ⟨c0, c1, c2, z0, z1, z2⟩ := h
  have hp : PaceAt (w.setCell ⟨b, 2, none⟩ (.int .i64 (t + 1))) b r f (t + 1) := ⟨by go_simp, by go_simp, by go_simp, by go_simp, by go_simp, by go_simp⟩
  by_cases hx : t + 1 < waitOf f
  · go_enter Tryd.func20, Tryd.ntmps20
    go_wp2_with (go_at_call 19; refine (left_any b r f (t + 1) _ hp hf (by omega) (by omega)).mono ?_; rintro e w' ⟨rfl, n, rfl⟩)
    go_ret
    exact .inl ⟨rfl, hx, hp.drewN _, ((Below.refl _ _).setCell (by simp) _).trans (below_drewN_self _ _ _)⟩
  · go_enter Tryd.func20, Tryd.ntmps20
    go_wp2_with (go_at_call 19; refine (left_any b r f (t + 1) _ hp hf (by omega) (by omega)).mono ?_; rintro e w' ⟨rfl, n, rfl⟩)
    go_ret
    exact .inr ⟨rfl, by omega, (hp.drewN n).ticks 0, (((Below.refl _ _).setCell (by simp) _).trans (below_drewN_self _ _ n)).setCell (by simp) _⟩

/-- A pace that is made: behind 'New' of a round that is one. -/
theorem new_any (r : Int) (w : World) (h1 : 1 ≤ r) (h2 : r ≤ 1099511627776) :
    Calls Tryd.prog 15 #[.int .i64 r] w fun e w' => e = .returned (.tuple #[pp w.heap.size, .nilIface]) ∧ PaceAt w' w.heap.size r 0 0 ∧ Below w.heap.size w w' := by
  go_enter Tryd.func15, Tryd.ntmps15
  go_wp2
  go_ret2
  refine ⟨rfl, ⟨?_, ?_, ?_, ?_, ?_, ?_⟩, (Below.refl _ _).alloc (Nat.le_refl _) _⟩
  all_goals go_simp
theorem new_err (r : Int) (a1 : Value) (w : World) (ha : w.cell? ⟨1, 0, none⟩ = some a1) (h : r < 1 ∨ 1099511627776 < r) :
    Calls Tryd.prog 15 #[.int .i64 r] w fun e w' => e = .returned (.tuple #[.pointer none, a1]) ∧ ∃ n, w' = w.drewN n := by
  rcases h with h | h
  all_goals
    go_enter Tryd.func15, Tryd.ntmps15
    go_wp2
    go_quiet (fail)
    go_wp2
    go_ret2
    exact ⟨rfl, _, rfl⟩

theorem tick_no (b : Nat) (r f t : Int) (w : World) (h : PaceAt w b r f t) (hf : f ≤ 9223372036854775807) (ht : 0 ≤ t) (hx : t + 1 < waitOf f) :
    Calls Tryd.prog 20 #[pp b] w fun e w' => e = .returned (.bool false) ∧ PaceAt w' b r f (t + 1) ∧ Below b w w' := by
  have wi := waitOf_in f
  refine (tick_any b r f t w h hf ht (by omega)).mono ?_
  rintro e w' (⟨h1, h2, h3, h4⟩ | ⟨h1, h2, h3, h4⟩)
  · exact ⟨h1, h3, h4⟩
  · omega
theorem tick_yes (b : Nat) (r f t : Int) (w : World) (h : PaceAt w b r f t) (hf : f ≤ 9223372036854775807) (ht : 0 ≤ t) (ht2 : t ≤ 1000) (hx : waitOf f ≤ t + 1) :
    Calls Tryd.prog 20 #[pp b] w fun e w' => e = .returned (.bool true) ∧ PaceAt w' b r f 0 ∧ Below b w w' := by
  refine (tick_any b r f t w h hf ht ht2).mono ?_
  rintro e w' (⟨h1, h2, h3, h4⟩ | ⟨h1, h2, h3, h4⟩)
  · omega
  · exact ⟨h1, h3, h4⟩
theorem TC_new (u0 u1 : TypeId) (v0 v1 : Value) (b : Nat) (r f t q : Int) (w : World) (h : PaceAt w b r f t) (he : Errs2 w u0 u1 v0 v1) (hf : 0 ≤ f) (hf1 : f ≤ 9223372036854775000)
    (hq0 : 0 ≤ q) (hq1 : q < 1099511627776) (hr : r ≤ q) :
    Calls Tryd.prog 17 #[pp b, .int .i64 q] w fun e w' => e = .returned (.tuple #[.bool true, .nilIface]) ∧ PaceAt w' b (q + 1) (f + 1) 0 ∧ Below b w w' := by
  refine (TC_any u0 u1 v0 v1 b r f t q w h he hf hf1).mono ?_
  rintro e w' (⟨h1, h2, h3, h4⟩ | ⟨h1, h2, h3, h4, h5, h6⟩)
  · omega
  · exact ⟨h1, h5, h6⟩

theorem QC_new (u0 u1 : TypeId) (v0 v1 : Value) (b : Nat) (r f t q : Int) (w : World) (h : PaceAt w b r f t) (he : Errs2 w u0 u1 v0 v1)
    (hq0 : 0 ≤ q) (hq1 : q < 1099511627776) (hr : r ≤ q) :
    Calls Tryd.prog 16 #[pp b, .int .i64 q] w fun e w' => e = .returned (.tuple #[.bool true, .nilIface]) ∧ PaceAt w' b (q + 1) 0 0 ∧ Below b w w' := by
  refine (QC_any u0 u1 v0 v1 b r f t q w h he).mono ?_
  rintro e w' (⟨h1, h2, h3, h4⟩ | ⟨h1, h2, h3, h4, h5, h6⟩)
  · omega
  · exact ⟨h1, h5, h6⟩
theorem QC_old (u0 u1 : TypeId) (v0 v1 : Value) (b : Nat) (r f t q : Int) (w : World) (h : PaceAt w b r f t) (he : Errs2 w u0 u1 v0 v1)
    (hq0 : 0 ≤ q) (hq1 : q < 1099511627776) (hr : q < r) :
    Calls Tryd.prog 16 #[pp b, .int .i64 q] w fun e w' => e = .returned (.tuple #[.bool false, .nilIface]) ∧ PaceAt w' b r f t ∧ Below b w w' := by
  refine (QC_any u0 u1 v0 v1 b r f t q w h he).mono ?_
  rintro e w' (⟨h1, h2, h3, h4⟩ | ⟨h1, h2, h3, h4, h5, h6⟩)
  · rw [enterErr, if_neg (by omega), if_neg (by omega)] at h1
    exact ⟨h1, h3, h4⟩
  · omega
theorem TC_old (u0 u1 : TypeId) (v0 v1 : Value) (b : Nat) (r f t q : Int) (w : World) (h : PaceAt w b r f t) (he : Errs2 w u0 u1 v0 v1) (hf : 0 ≤ f) (hf1 : f ≤ 9223372036854775000)
    (hq0 : 0 ≤ q) (hq1 : q < 1099511627776) (hr : q < r) :
    Calls Tryd.prog 17 #[pp b, .int .i64 q] w fun e w' => e = .returned (.tuple #[.bool false, .nilIface]) ∧ PaceAt w' b r f t ∧ Below b w w' := by
  refine (TC_any u0 u1 v0 v1 b r f t q w h he hf hf1).mono ?_
  rintro e w' (⟨h1, h2, h3, h4⟩ | ⟨h1, h2, h3, h4, h5, h6⟩)
  · rw [enterErr, if_neg (by omega), if_neg (by omega)] at h1
    exact ⟨h1, h3, h4⟩
  · omega

theorem alive16 (u0 u1 : TypeId) (v0 v1 : Value) (w : World) (he : Errs2 w u0 u1 v0 v1) (hz : 2 ≤ w.heap.size) :
    Calls Tryd.prog 14 #[] w fun e w' => e = .returned (.bool true) ∧ Below w.heap.size w w' := by
  go_enter Tryd.func14, Tryd.ntmps14
  go_wp2_with fail
  refine (new_any 1 _ (by omega) (by omega)).mono ?_
  rintro e w1 ⟨rfl, p1, b1⟩
  go_wp2_with fail
  refine (tick_no _ _ _ _ _ p1 (by omega) (by omega) (by decide)).mono ?_
  rintro e w2 ⟨rfl, p2, b2⟩
  go_wp2_with fail
  refine (tick_yes _ _ _ _ _ p2 (by omega) (by omega) (by omega) (by decide)).mono ?_
  rintro e w3 ⟨rfl, p3, b3⟩
  have b13 := (b1.trans b2).trans b3
  have he3 := he.below b13 (by omega)
  go_wp2_with fail
  refine (TC_new u0 u1 v0 v1 _ _ _ _ _ _ p3 he3 (by omega) (by omega) (by omega) (by omega) (by omega)).mono ?_
  rintro e w4 ⟨rfl, p4, b4⟩
  go_wp2_with fail
  refine (round_any _ _ _ _ _ p4).mono ?_
  rintro e w5 ⟨rfl, rfl⟩
  go_wp2_with fail
  refine (left_any _ _ _ _ _ p4 (by omega) (by omega) (by omega)).mono ?_
  rintro e w6 ⟨rfl, n, rfl⟩
  go_wp2_with fail
  go_ret
  refine ⟨rfl, (b13.trans b4).trans (below_drewN_self _ _ n)⟩

end Go.Proofs.YtepcfjekijjagaaDoor
