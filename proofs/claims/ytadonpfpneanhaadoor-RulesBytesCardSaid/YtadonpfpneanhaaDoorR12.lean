/- The reference's step by its number. -/
import Derived.Test.YtadonpfpneanhaaDoorR11
namespace Go.Proofs.YtadonpfpneanhaaDoor
open Go.RowKit

theorem ref3 {w w1 : World} {o1 o2 o3 : Obj} (e3 : o3 = .cells #[.int .i64 0, .int .i64 0, .int .i64 0, .int .i64 0, .int .i64 0] 49)
    (hb : Below (((w.alloc o1).alloc o2).alloc o3).heap.size (((w.alloc o1).alloc o2).alloc o3) w1) : Box w1 (w.heap.size + 1 + 1) 0 0 0 0 0 ∧ Below w.heap.size w w1 := by
  subst e3
  have h2 := (Box.new ((w.alloc o1).alloc o2) 0 0 0 0 0 49).later hb
  rw [World.size_alloc, World.size_alloc] at h2
  exact ⟨h2, below_then (below_then (below_then (below_new _ _) (below_new _ _) (Nat.le_refl _)) (below_new _ _) (Nat.le_refl _)) hb (Nat.le_refl _)⟩

set_option maxHeartbeats 1000000 in
set_option maxRecDepth 100000 in
theorem told_vote (a b c d e ep ro q g : Int) (w : World) :
    Calls Tryd.prog 43 #[st5 a b c d e, stepV 1 ep ro q g] w fun r w' => r = .returned (.tuple #[(voteS ⟨a, b, c, d, e⟩ ep ro q g).v, .int .i64 (voteC ⟨a, b, c, d, e⟩ ep ro q : Int)]) ∧ Below w.heap.size w w' := by
  obtain ⟨S, hS⟩ : ∃ S, voteS ⟨a, b, c, d, e⟩ ep ro q g = S := ⟨_, rfl⟩
  obtain ⟨C, hC⟩ : ∃ C, voteC ⟨a, b, c, d, e⟩ ep ro q = C := ⟨_, rfl⟩
  rw [hS, hC]
  obtain ⟨a2, b2, c2, d2, e2⟩ := S
  have HC : ∀ w, Calls Tryd.prog 72 #[st5 a b c d e, .int .i64 ep, .int .i64 ro, .int .i64 q, .int .i64 g] w fun r w' => r = .returned (.tuple #[st5 a2 b2 c2 d2 e2, .int .i64 (C : Int)]) ∧ Below w.heap.size w w' := fun w => by
    have := ref_vote ⟨a, b, c, d, e⟩ ep ro q g w
    rw [hS, hC] at this
    exact this
  have HCC := Lib.hid HC
  clear hS hC HC
  go_enter Tryd.func43, Tryd.ntmps43
  go_wp2_with fail
  refine (HCC.out _).mono ?_
  rintro r w1 ⟨rfl, hb1⟩
  obtain ⟨x2, hb⟩ := ref3 rfl hb1
  clear hb1
  have HBW := Lib.hid hb
  have l2 := x2.lt
  obtain ⟨r0, r1, r2, r3, r4, z0, z1, z2, z3, z4⟩ := x2
  clear hb
  go_wp2_with fail
  exact bodyPost_ret (v := .tuple #[st5 a2 b2 c2 d2 e2, .int .i64 C]) (by simp [results, Tryd.results43, go_sem, r0, r1, r2, r3, r4]) rfl ⟨rfl, below_five HBW.out (by omega) _ _ _ _ _⟩
set_option maxHeartbeats 1000000 in
set_option maxRecDepth 100000 in
theorem told_late (a b c d e ep ro q g : Int) (w : World) :
    Calls Tryd.prog 43 #[st5 a b c d e, stepV 2 ep ro q g] w fun r w' => r = .returned (.tuple #[(lateS ⟨a, b, c, d, e⟩ ep ro).v, .int .i64 (lateC ⟨a, b, c, d, e⟩ ep ro : Int)]) ∧ Below w.heap.size w w' := by
  obtain ⟨S, hS⟩ : ∃ S, lateS ⟨a, b, c, d, e⟩ ep ro = S := ⟨_, rfl⟩
  obtain ⟨C, hC⟩ : ∃ C, lateC ⟨a, b, c, d, e⟩ ep ro = C := ⟨_, rfl⟩
  rw [hS, hC]
  obtain ⟨a2, b2, c2, d2, e2⟩ := S
  have HC : ∀ w, Calls Tryd.prog 73 #[st5 a b c d e, .int .i64 ep, .int .i64 ro] w fun r w' => r = .returned (.tuple #[st5 a2 b2 c2 d2 e2, .int .i64 (C : Int)]) ∧ Below w.heap.size w w' := fun w => by
    have := ref_late ⟨a, b, c, d, e⟩ ep ro w
    rw [hS, hC] at this
    exact this
  have HCC := Lib.hid HC
  clear hS hC HC
  go_enter Tryd.func43, Tryd.ntmps43
  go_wp2_with fail
  refine (HCC.out _).mono ?_
  rintro r w1 ⟨rfl, hb1⟩
  obtain ⟨x2, hb⟩ := ref3 rfl hb1
  clear hb1
  have HBW := Lib.hid hb
  have l2 := x2.lt
  obtain ⟨r0, r1, r2, r3, r4, z0, z1, z2, z3, z4⟩ := x2
  clear hb
  go_wp2_with fail
  exact bodyPost_ret (v := .tuple #[st5 a2 b2 c2 d2 e2, .int .i64 C]) (by simp [results, Tryd.results43, go_sem, r0, r1, r2, r3, r4]) rfl ⟨rfl, below_five HBW.out (by omega) _ _ _ _ _⟩
set_option maxHeartbeats 1000000 in
set_option maxRecDepth 100000 in
theorem told_propose (a b c d e ep ro q g : Int) (w : World) :
    Calls Tryd.prog 43 #[st5 a b c d e, stepV 3 ep ro q g] w fun r w' => r = .returned (.tuple #[(proposeS ⟨a, b, c, d, e⟩ ep ro).v, .int .i64 (proposeC ⟨a, b, c, d, e⟩ ep ro : Int)]) ∧ Below w.heap.size w w' := by
  obtain ⟨S, hS⟩ : ∃ S, proposeS ⟨a, b, c, d, e⟩ ep ro = S := ⟨_, rfl⟩
  obtain ⟨C, hC⟩ : ∃ C, proposeC ⟨a, b, c, d, e⟩ ep ro = C := ⟨_, rfl⟩
  rw [hS, hC]
  obtain ⟨a2, b2, c2, d2, e2⟩ := S
  have HC : ∀ w, Calls Tryd.prog 74 #[st5 a b c d e, .int .i64 ep, .int .i64 ro] w fun r w' => r = .returned (.tuple #[st5 a2 b2 c2 d2 e2, .int .i64 (C : Int)]) ∧ Below w.heap.size w w' := fun w => by
    have := ref_propose ⟨a, b, c, d, e⟩ ep ro w
    rw [hS, hC] at this
    exact this
  have HCC := Lib.hid HC
  clear hS hC HC
  go_enter Tryd.func43, Tryd.ntmps43
  go_wp2_with fail
  refine (HCC.out _).mono ?_
  rintro r w1 ⟨rfl, hb1⟩
  obtain ⟨x2, hb⟩ := ref3 rfl hb1
  clear hb1
  have HBW := Lib.hid hb
  have l2 := x2.lt
  obtain ⟨r0, r1, r2, r3, r4, z0, z1, z2, z3, z4⟩ := x2
  clear hb
  go_wp2_with fail
  exact bodyPost_ret (v := .tuple #[st5 a2 b2 c2 d2 e2, .int .i64 C]) (by simp [results, Tryd.results43, go_sem, r0, r1, r2, r3, r4]) rfl ⟨rfl, below_five HBW.out (by omega) _ _ _ _ _⟩
set_option maxHeartbeats 1000000 in
set_option maxRecDepth 100000 in
theorem told_enter (a b c d e ep ro q g : Int) (w : World) :
    Calls Tryd.prog 43 #[st5 a b c d e, stepV 4 ep ro q g] w fun r w' => r = .returned (.tuple #[(enterS ⟨a, b, c, d, e⟩ ep).v, .int .i64 (enterC ⟨a, b, c, d, e⟩ ep : Int)]) ∧ Below w.heap.size w w' := by
  obtain ⟨S, hS⟩ : ∃ S, enterS ⟨a, b, c, d, e⟩ ep = S := ⟨_, rfl⟩
  obtain ⟨C, hC⟩ : ∃ C, enterC ⟨a, b, c, d, e⟩ ep = C := ⟨_, rfl⟩
  rw [hS, hC]
  obtain ⟨a2, b2, c2, d2, e2⟩ := S
  have HC : ∀ w, Calls Tryd.prog 75 #[st5 a b c d e, .int .i64 ep] w fun r w' => r = .returned (.tuple #[st5 a2 b2 c2 d2 e2, .int .i64 (C : Int)]) ∧ Below w.heap.size w w' := fun w => by
    have := ref_enter ⟨a, b, c, d, e⟩ ep w
    rw [hS, hC] at this
    exact this
  have HCC := Lib.hid HC
  clear hS hC HC
  go_enter Tryd.func43, Tryd.ntmps43
  go_wp2_with fail
  refine (HCC.out _).mono ?_
  rintro r w1 ⟨rfl, hb1⟩
  obtain ⟨x2, hb⟩ := ref3 rfl hb1
  clear hb1
  have HBW := Lib.hid hb
  have l2 := x2.lt
  obtain ⟨r0, r1, r2, r3, r4, z0, z1, z2, z3, z4⟩ := x2
  clear hb
  go_wp2_with fail
  exact bodyPost_ret (v := .tuple #[st5 a2 b2 c2 d2 e2, .int .i64 C]) (by simp [results, Tryd.results43, go_sem, r0, r1, r2, r3, r4]) rfl ⟨rfl, below_five HBW.out (by omega) _ _ _ _ _⟩
set_option maxHeartbeats 1000000 in
set_option maxRecDepth 100000 in
theorem told_other (a b c d e k ep ro q g : Int) (w : World) (h1 : k ≠ 1) (h2 : k ≠ 2) (h3 : k ≠ 3) (h4 : k ≠ 4) :
    Calls Tryd.prog 43 #[st5 a b c d e, stepV k ep ro q g] w fun r w' => r = .returned (.tuple #[st5 a b c d e, .int .i64 0]) ∧ Below w.heap.size w w' := by
  have e1 : (k == 1) = false := by simpa using h1
  have e2 : (k == 2) = false := by simpa using h2
  have e3 : (k == 3) = false := by simpa using h3
  have e4 : (k == 4) = false := by simpa using h4
  clear h1 h2 h3 h4
  go_enter Tryd.func43, Tryd.ntmps43
  go_wp2_with fail
  exact bodyPost_ret (v := .tuple #[st5 a b c d e, .int .i64 0]) (by simp [results, Tryd.results43, go_sem]) rfl ⟨rfl, ((((Below.refl w.heap.size w).alloc (Nat.le_refl _) _).alloc (by simp) _).alloc (by simp; omega) _)⟩

theorem told_any (s : S5) (k ep ro q g : Int) (w : World) :
    Calls Tryd.prog 43 #[s.v, stepV k ep ro q g] w fun r w' => r = .returned (.tuple #[(doS s k ep ro q g).v, .int .i64 (doC s k ep ro q : Int)]) ∧ Below w.heap.size w w' := by
  obtain ⟨a, b, c, d, e⟩ := s
  unfold doS doC
  by_cases h1 : k = 1
  · subst h1
    exact told_vote a b c d e ep ro q g w
  rw [if_neg h1, if_neg h1]
  by_cases h2 : k = 2
  · subst h2
    exact told_late a b c d e ep ro q g w
  rw [if_neg h2, if_neg h2]
  by_cases h3 : k = 3
  · subst h3
    exact told_propose a b c d e ep ro q g w
  rw [if_neg h3, if_neg h3]
  by_cases h4 : k = 4
  · subst h4
    exact told_enter a b c d e ep ro q g w
  rw [if_neg h4, if_neg h4]
  exact told_other a b c d e k ep ro q g w h1 h2 h3 h4

theorem right_any (a b c d e : Int) (w : World) : Calls Tryd.prog 44 #[st5 a b c d e] w fun r w' => r = .returned (.bool (decide (RightP a b c d e))) ∧ Below w.heap.size w w' := by
  by_cases h : RightP a b c d e
  · rw [decide_eq_true h]
    exact right_yes a b c d e w h
  · rw [decide_eq_false h]
    exact right_no a b c d e w h

end Go.Proofs.YtadonpfpneanhaaDoor
