/- A step of a script by its number, of every kind. -/
import Derived.Test.YtadonpfpneanhaaDoorR7
namespace Go.Proofs.YtadonpfpneanhaaDoor
open Go.RowKit

set_option maxHeartbeats 1000000 in
set_option maxRecDepth 100000 in
theorem do_late (A : List Addr) (a b c d e ep ro q g : Int) (w : World) (h : Sents G18 132 A w) :
    Calls Tryd.prog 42 #[st5 a b c d e, stepV 2 ep ro q g] w fun r w' => r = .returned (.tuple #[(lateS ⟨a, b, c, d, e⟩ ep ro).v, .int .i64 (lateC ⟨a, b, c, d, e⟩ ep ro : Int)]) ∧ Below w.heap.size w w' := by
  have HB : Hid (∀ W', Below w.heap.size w W' → Sents G18 132 A W') := fun W' hW => h.later hW
  have hle := lateC_le ⟨a, b, c, d, e⟩ ep ro
  obtain ⟨S, hS⟩ : ∃ S, lateS ⟨a, b, c, d, e⟩ ep ro = S := ⟨_, rfl⟩
  obtain ⟨C, hC⟩ : ∃ C, lateC ⟨a, b, c, d, e⟩ ep ro = C := ⟨_, rfl⟩
  rw [hS, hC]
  rw [hC] at hle
  obtain ⟨a2, b2, c2, d2, e2⟩ := S
  have HC : ∀ w, Sents G18 132 A w → Calls Tryd.prog 69 #[st5 a b c d e, .int .i64 ep, .int .i64 ro] w fun r w' => r = .returned (.tuple #[st5 a2 b2 c2 d2 e2, errV A C]) ∧ Below w.heap.size w w' := fun w h => by
    have := late_any A ⟨a, b, c, d, e⟩ ep ro w h
    rw [hS, hC] at this
    exact this
  have HCC := Lib.hid HC
  clear hS hC HC h
  go_enter Tryd.func42, Tryd.ntmps42
  go_wp2_with fail
  refine (HCC.out _ (HB.out _ ?hb0)).mono ?_
  case hb0 => exact (((((Below.refl w.heap.size w).alloc (Nat.le_refl _) _).alloc (by simp) _).alloc (by simp; omega) _).alloc (by simp; omega) _)
  rintro r w1 ⟨rfl, b1⟩
  obtain ⟨hx2, hx3, hbw⟩ := box4 b1
  clear b1
  have l3 := hx3.lt
  -- t6 holds the state that was answered
  have hx5 := hx3.set5 a2 b2 c2 d2 e2
  have hx4 := hx2.set5_other (p2 := w.heap.size + 1 + 1 + 1) (by omega) (.int .i64 a2) (.int .i64 b2) (.int .i64 c2) (.int .i64 d2) (.int .i64 e2)
  have hbw2 := below_five hbw (p := w.heap.size + 1 + 1 + 1) (by omega) (.int .i64 a2) (.int .i64 b2) (.int .i64 c2) (.int .i64 d2) (.int .i64 e2)
  obtain ⟨s0, s1, s2, s3, s4, sz0, sz1, sz2, sz3, sz4⟩ := hx3
  go_upto_region 13 with (fail)
  obtain ⟨W, hW⟩ : ∃ W, W = ((((w1.setCell ⟨w.heap.size + 1 + 1 + 1, 0, none⟩ (.int .i64 a2)).setCell ⟨w.heap.size + 1 + 1 + 1, 1, none⟩ (.int .i64 b2)).setCell ⟨w.heap.size + 1 + 1 + 1, 2, none⟩ (.int .i64 c2)).setCell ⟨w.heap.size + 1 + 1 + 1, 3, none⟩ (.int .i64 d2)).setCell ⟨w.heap.size + 1 + 1 + 1, 4, none⟩ (.int .i64 e2) := ⟨_, rfl⟩
  rw [← hW] at hx5 hx4 hbw2 ⊢
  clear hW s0 s1 s2 s3 s4 sz0 sz1 sz2 sz3 sz4 hbw hx2 l3
  have h5 := Lib.hid hx5
  have h4 := Lib.hid hx4
  have l5 := hx5.lt
  obtain ⟨s0, s1, s2, s3, s4, sz0, sz1, sz2, sz3, sz4⟩ := hx5
  obtain ⟨r0, r1, r2, r3, r4, rz0, rz1, rz2, rz3, rz4⟩ := hx4
  go_region_with (first
    | (go_at_call 25; refine (num_code A _ (HB.out _ ?_) _ hle).mono ?_; exact hbw2.drew; rintro r w2 ⟨rfl, bb⟩; have hF := below_then hbw2.drew bb (Nat.le_refl _); have q5 := h5.out.drew.later bb; have q4 := h4.out.drew.later bb; obtain ⟨t0, t1, t2, t3, t4, tz0, tz1, tz2, tz3, tz4⟩ := q5; obtain ⟨u0, u1, u2, u3, u4, uz0, uz1, uz2, uz3, uz4⟩ := q4)
    | (go_at_call 25; refine (num_code A _ (HB.out _ ?_) _ hle).mono ?_; exact (below_five hbw2 (by omega) _ _ _ _ _).drew; rintro r w2 ⟨rfl, bb⟩; have hF := below_then (below_five hbw2 (by omega) _ _ _ _ _).drew bb (Nat.le_refl _); have q4 := (h4.out.set5 a2 b2 c2 d2 e2).drew.later bb; obtain ⟨u0, u1, u2, u3, u4, uz0, uz1, uz2, uz3, uz4⟩ := q4))
  all_goals (try go_wp2_with fail)
  all_goals first
    | exact bodyPost_ret (v := .tuple #[st5 a2 b2 c2 d2 e2, .int .i64 C]) (by simp [results, Tryd.results42, go_sem, u0, u1, u2, u3, u4]) rfl ⟨rfl, hF⟩
    | exact bodyPost_ret (v := .tuple #[st5 a2 b2 c2 d2 e2, .int .i64 C]) (by simp [results, Tryd.results42, go_sem, u0, u1, u2, u3, u4]) rfl ⟨rfl, below_five hF (by omega) _ _ _ _ _⟩

set_option maxHeartbeats 1000000 in
set_option maxRecDepth 100000 in
theorem do_propose (A : List Addr) (a b c d e ep ro q g : Int) (w : World) (h : Sents G18 132 A w) :
    Calls Tryd.prog 42 #[st5 a b c d e, stepV 3 ep ro q g] w fun r w' => r = .returned (.tuple #[(proposeS ⟨a, b, c, d, e⟩ ep ro).v, .int .i64 (proposeC ⟨a, b, c, d, e⟩ ep ro : Int)]) ∧ Below w.heap.size w w' := by
  have HB : Hid (∀ W', Below w.heap.size w W' → Sents G18 132 A W') := fun W' hW => h.later hW
  have hle := proposeC_le ⟨a, b, c, d, e⟩ ep ro
  obtain ⟨S, hS⟩ : ∃ S, proposeS ⟨a, b, c, d, e⟩ ep ro = S := ⟨_, rfl⟩
  obtain ⟨C, hC⟩ : ∃ C, proposeC ⟨a, b, c, d, e⟩ ep ro = C := ⟨_, rfl⟩
  rw [hS, hC]
  rw [hC] at hle
  obtain ⟨a2, b2, c2, d2, e2⟩ := S
  have HC : ∀ w, Sents G18 132 A w → Calls Tryd.prog 70 #[st5 a b c d e, .int .i64 ep, .int .i64 ro] w fun r w' => r = .returned (.tuple #[st5 a2 b2 c2 d2 e2, errV A C]) ∧ Below w.heap.size w w' := fun w h => by
    have := propose_any A ⟨a, b, c, d, e⟩ ep ro w h
    rw [hS, hC] at this
    exact this
  have HCC := Lib.hid HC
  clear hS hC HC h
  go_enter Tryd.func42, Tryd.ntmps42
  go_wp2_with fail
  refine (HCC.out _ (HB.out _ ?hb0)).mono ?_
  case hb0 => exact (((((Below.refl w.heap.size w).alloc (Nat.le_refl _) _).alloc (by simp) _).alloc (by simp; omega) _).alloc (by simp; omega) _)
  rintro r w1 ⟨rfl, b1⟩
  obtain ⟨hx2, hx3, hbw⟩ := box4 b1
  clear b1
  have l3 := hx3.lt
  -- t6 holds the state that was answered
  have hx5 := hx3.set5 a2 b2 c2 d2 e2
  have hx4 := hx2.set5_other (p2 := w.heap.size + 1 + 1 + 1) (by omega) (.int .i64 a2) (.int .i64 b2) (.int .i64 c2) (.int .i64 d2) (.int .i64 e2)
  have hbw2 := below_five hbw (p := w.heap.size + 1 + 1 + 1) (by omega) (.int .i64 a2) (.int .i64 b2) (.int .i64 c2) (.int .i64 d2) (.int .i64 e2)
  obtain ⟨s0, s1, s2, s3, s4, sz0, sz1, sz2, sz3, sz4⟩ := hx3
  go_upto_region 13 with (fail)
  obtain ⟨W, hW⟩ : ∃ W, W = ((((w1.setCell ⟨w.heap.size + 1 + 1 + 1, 0, none⟩ (.int .i64 a2)).setCell ⟨w.heap.size + 1 + 1 + 1, 1, none⟩ (.int .i64 b2)).setCell ⟨w.heap.size + 1 + 1 + 1, 2, none⟩ (.int .i64 c2)).setCell ⟨w.heap.size + 1 + 1 + 1, 3, none⟩ (.int .i64 d2)).setCell ⟨w.heap.size + 1 + 1 + 1, 4, none⟩ (.int .i64 e2) := ⟨_, rfl⟩
  rw [← hW] at hx5 hx4 hbw2 ⊢
  clear hW s0 s1 s2 s3 s4 sz0 sz1 sz2 sz3 sz4 hbw hx2 l3
  have h5 := Lib.hid hx5
  have h4 := Lib.hid hx4
  have l5 := hx5.lt
  obtain ⟨s0, s1, s2, s3, s4, sz0, sz1, sz2, sz3, sz4⟩ := hx5
  obtain ⟨r0, r1, r2, r3, r4, rz0, rz1, rz2, rz3, rz4⟩ := hx4
  go_region_with (first
    | (go_at_call 25; refine (num_code A _ (HB.out _ ?_) _ hle).mono ?_; exact hbw2.drew; rintro r w2 ⟨rfl, bb⟩; have hF := below_then hbw2.drew bb (Nat.le_refl _); have q5 := h5.out.drew.later bb; have q4 := h4.out.drew.later bb; obtain ⟨t0, t1, t2, t3, t4, tz0, tz1, tz2, tz3, tz4⟩ := q5; obtain ⟨u0, u1, u2, u3, u4, uz0, uz1, uz2, uz3, uz4⟩ := q4)
    | (go_at_call 25; refine (num_code A _ (HB.out _ ?_) _ hle).mono ?_; exact (below_five hbw2 (by omega) _ _ _ _ _).drew; rintro r w2 ⟨rfl, bb⟩; have hF := below_then (below_five hbw2 (by omega) _ _ _ _ _).drew bb (Nat.le_refl _); have q4 := (h4.out.set5 a2 b2 c2 d2 e2).drew.later bb; obtain ⟨u0, u1, u2, u3, u4, uz0, uz1, uz2, uz3, uz4⟩ := q4))
  all_goals (try go_wp2_with fail)
  all_goals first
    | exact bodyPost_ret (v := .tuple #[st5 a2 b2 c2 d2 e2, .int .i64 C]) (by simp [results, Tryd.results42, go_sem, u0, u1, u2, u3, u4]) rfl ⟨rfl, hF⟩
    | exact bodyPost_ret (v := .tuple #[st5 a2 b2 c2 d2 e2, .int .i64 C]) (by simp [results, Tryd.results42, go_sem, u0, u1, u2, u3, u4]) rfl ⟨rfl, below_five hF (by omega) _ _ _ _ _⟩

set_option maxHeartbeats 1000000 in
set_option maxRecDepth 100000 in
theorem do_enter (A : List Addr) (a b c d e ep ro q g : Int) (w : World) (h : Sents G18 132 A w) :
    Calls Tryd.prog 42 #[st5 a b c d e, stepV 4 ep ro q g] w fun r w' => r = .returned (.tuple #[(enterS ⟨a, b, c, d, e⟩ ep).v, .int .i64 (enterC ⟨a, b, c, d, e⟩ ep : Int)]) ∧ Below w.heap.size w w' := by
  have HB : Hid (∀ W', Below w.heap.size w W' → Sents G18 132 A W') := fun W' hW => h.later hW
  have hle := enterC_le ⟨a, b, c, d, e⟩ ep
  obtain ⟨S, hS⟩ : ∃ S, enterS ⟨a, b, c, d, e⟩ ep = S := ⟨_, rfl⟩
  obtain ⟨C, hC⟩ : ∃ C, enterC ⟨a, b, c, d, e⟩ ep = C := ⟨_, rfl⟩
  rw [hS, hC]
  rw [hC] at hle
  obtain ⟨a2, b2, c2, d2, e2⟩ := S
  have HC : ∀ w, Sents G18 132 A w → Calls Tryd.prog 71 #[st5 a b c d e, .int .i64 ep] w fun r w' => r = .returned (.tuple #[st5 a2 b2 c2 d2 e2, errV A C]) ∧ Below w.heap.size w w' := fun w h => by
    have := enter_any A ⟨a, b, c, d, e⟩ ep w h
    rw [hS, hC] at this
    exact this
  have HCC := Lib.hid HC
  clear hS hC HC h
  go_enter Tryd.func42, Tryd.ntmps42
  go_wp2_with fail
  refine (HCC.out _ (HB.out _ ?hb0)).mono ?_
  case hb0 => exact (((((Below.refl w.heap.size w).alloc (Nat.le_refl _) _).alloc (by simp) _).alloc (by simp; omega) _).alloc (by simp; omega) _)
  rintro r w1 ⟨rfl, b1⟩
  obtain ⟨hx2, hx3, hbw⟩ := box4 b1
  clear b1
  have l3 := hx3.lt
  -- t6 holds the state that was answered
  have hx5 := hx3.set5 a2 b2 c2 d2 e2
  have hx4 := hx2.set5_other (p2 := w.heap.size + 1 + 1 + 1) (by omega) (.int .i64 a2) (.int .i64 b2) (.int .i64 c2) (.int .i64 d2) (.int .i64 e2)
  have hbw2 := below_five hbw (p := w.heap.size + 1 + 1 + 1) (by omega) (.int .i64 a2) (.int .i64 b2) (.int .i64 c2) (.int .i64 d2) (.int .i64 e2)
  obtain ⟨s0, s1, s2, s3, s4, sz0, sz1, sz2, sz3, sz4⟩ := hx3
  go_upto_region 13 with (fail)
  obtain ⟨W, hW⟩ : ∃ W, W = ((((w1.setCell ⟨w.heap.size + 1 + 1 + 1, 0, none⟩ (.int .i64 a2)).setCell ⟨w.heap.size + 1 + 1 + 1, 1, none⟩ (.int .i64 b2)).setCell ⟨w.heap.size + 1 + 1 + 1, 2, none⟩ (.int .i64 c2)).setCell ⟨w.heap.size + 1 + 1 + 1, 3, none⟩ (.int .i64 d2)).setCell ⟨w.heap.size + 1 + 1 + 1, 4, none⟩ (.int .i64 e2) := ⟨_, rfl⟩
  rw [← hW] at hx5 hx4 hbw2 ⊢
  clear hW s0 s1 s2 s3 s4 sz0 sz1 sz2 sz3 sz4 hbw hx2 l3
  have h5 := Lib.hid hx5
  have h4 := Lib.hid hx4
  have l5 := hx5.lt
  obtain ⟨s0, s1, s2, s3, s4, sz0, sz1, sz2, sz3, sz4⟩ := hx5
  obtain ⟨r0, r1, r2, r3, r4, rz0, rz1, rz2, rz3, rz4⟩ := hx4
  go_region_with (first
    | (go_at_call 25; refine (num_code A _ (HB.out _ ?_) _ hle).mono ?_; exact hbw2.drew; rintro r w2 ⟨rfl, bb⟩; have hF := below_then hbw2.drew bb (Nat.le_refl _); have q5 := h5.out.drew.later bb; have q4 := h4.out.drew.later bb; obtain ⟨t0, t1, t2, t3, t4, tz0, tz1, tz2, tz3, tz4⟩ := q5; obtain ⟨u0, u1, u2, u3, u4, uz0, uz1, uz2, uz3, uz4⟩ := q4)
    | (go_at_call 25; refine (num_code A _ (HB.out _ ?_) _ hle).mono ?_; exact (below_five hbw2 (by omega) _ _ _ _ _).drew; rintro r w2 ⟨rfl, bb⟩; have hF := below_then (below_five hbw2 (by omega) _ _ _ _ _).drew bb (Nat.le_refl _); have q4 := (h4.out.set5 a2 b2 c2 d2 e2).drew.later bb; obtain ⟨u0, u1, u2, u3, u4, uz0, uz1, uz2, uz3, uz4⟩ := q4))
  all_goals (try go_wp2_with fail)
  all_goals first
    | exact bodyPost_ret (v := .tuple #[st5 a2 b2 c2 d2 e2, .int .i64 C]) (by simp [results, Tryd.results42, go_sem, u0, u1, u2, u3, u4]) rfl ⟨rfl, hF⟩
    | exact bodyPost_ret (v := .tuple #[st5 a2 b2 c2 d2 e2, .int .i64 C]) (by simp [results, Tryd.results42, go_sem, u0, u1, u2, u3, u4]) rfl ⟨rfl, below_five hF (by omega) _ _ _ _ _⟩

set_option maxHeartbeats 1000000 in
set_option maxRecDepth 100000 in
theorem do_other (a b c d e k ep ro q g : Int) (w : World) (h1 : k ≠ 1) (h2 : k ≠ 2) (h3 : k ≠ 3) (h4 : k ≠ 4) :
    Calls Tryd.prog 42 #[st5 a b c d e, stepV k ep ro q g] w fun r w' => r = .returned (.tuple #[st5 a b c d e, .int .i64 0]) ∧ Below w.heap.size w w' := by
  have e1 : (k == 1) = false := by simpa using h1
  have e2 : (k == 2) = false := by simpa using h2
  have e3 : (k == 3) = false := by simpa using h3
  have e4 : (k == 4) = false := by simpa using h4
  clear h1 h2 h3 h4
  go_enter Tryd.func42, Tryd.ntmps42
  go_wp2_with fail
  exact bodyPost_ret (v := .tuple #[st5 a b c d e, .int .i64 0]) (by simp [results, Tryd.results42, go_sem]) rfl ⟨rfl, ((((Below.refl w.heap.size w).alloc (Nat.le_refl _) _).alloc (by simp) _).alloc (by simp; omega) _).alloc (by simp; omega) _⟩

/-- A step of a script: the state behind it, and the error's number. -/
theorem do_any (A : List Addr) (s : S5) (k ep ro q g : Int) (w : World) (h : Sents G18 132 A w) :
    Calls Tryd.prog 42 #[s.v, stepV k ep ro q g] w fun r w' => r = .returned (.tuple #[(doS s k ep ro q g).v, .int .i64 (doC s k ep ro q : Int)]) ∧ Below w.heap.size w w' := by
  obtain ⟨a, b, c, d, e⟩ := s
  unfold doS doC
  by_cases h1 : k = 1
  · subst h1
    exact do_vote A a b c d e ep ro q g w h
  rw [if_neg h1, if_neg h1]
  by_cases h2 : k = 2
  · subst h2
    exact do_late A a b c d e ep ro q g w h
  rw [if_neg h2, if_neg h2]
  by_cases h3 : k = 3
  · subst h3
    exact do_propose A a b c d e ep ro q g w h
  rw [if_neg h3, if_neg h3]
  by_cases h4 : k = 4
  · subst h4
    exact do_enter A a b c d e ep ro q g w h
  rw [if_neg h4, if_neg h4]
  exact do_other a b c d e k ep ro q g w h1 h2 h3 h4

end Go.Proofs.YtadonpfpneanhaaDoor
