/- The reference's steps, each by one contract. -/
import Derived.Test.YtadonpfpneanhaaDoorR9
namespace Go.Proofs.YtadonpfpneanhaaDoor
open Go.RowKit

theorem ref2 {w w1 : World} {a b c d e : Int} {o1 o2 : Obj} (e1 : o1 = .cells #[.int .i64 a, .int .i64 b, .int .i64 c, .int .i64 d, .int .i64 e] 49) (e2 : o2 = .cells #[.int .i64 0, .int .i64 0, .int .i64 0, .int .i64 0, .int .i64 0] 49)
    (hb : Below ((w.alloc o1).alloc o2).heap.size ((w.alloc o1).alloc o2) w1) : Box w1 w.heap.size a b c d e ∧ Box w1 (w.heap.size + 1) 0 0 0 0 0 ∧ Below w.heap.size w w1 := by
  subst e1 e2
  have h1 := ((Box.new w a b c d e 49).later (below_new _ (.cells #[.int .i64 0, .int .i64 0, .int .i64 0, .int .i64 0, .int .i64 0] 49))).later hb
  have h2 := (Box.new (w.alloc (.cells #[.int .i64 a, .int .i64 b, .int .i64 c, .int .i64 d, .int .i64 e] 49)) 0 0 0 0 0 49).later hb
  rw [World.size_alloc] at h2
  exact ⟨h1, h2, below_then (below_then (below_new _ _) (below_new _ _) (Nat.le_refl _)) hb (Nat.le_refl _)⟩

set_option maxHeartbeats 1000000 in
set_option maxRecDepth 100000 in
theorem ref_late (s : S5) (epoch round : Int) (w : World) :
    Calls Tryd.prog 73 #[s.v, .int .i64 epoch, .int .i64 round] w fun r w' => r = .returned (.tuple #[(lateS s epoch round).v, .int .i64 (lateC s epoch round : Int)]) ∧ Below w.heap.size w w' := by
  obtain ⟨a, b, c, d, e⟩ := s
  unfold lateS lateC
  by_cases hR : RightP a b c d e
  · have hRd : Hid (decide (RightP a b c d e) = true) := decide_eq_true hR
    have hR2 := Lib.hid hR
    by_cases hE : epoch = a
    · subst hE
      by_cases hr : round < 1 ∨ 1099511627776 < round
      · have hB : S5.begin ⟨epoch, b, c, d, e⟩ epoch round = 14 := by simp only [S5.begin, beginC]; rw [if_neg (fun x => x hR), if_neg (fun x => x rfl), if_pos hr]
        rw [if_pos (show S5.begin ⟨epoch, b, c, d, e⟩ epoch round ≠ 0 by rw [hB]; decide), hB, if_neg (by decide)]
        clear hB hR
        rcases hr with hr | hr
        · go_enter Tryd.func73, Tryd.ntmps73
          go_wp2_with fail
          refine (ref_right epoch b c d e _).mono ?_
          rintro r w1 ⟨rfl, hb1⟩
          obtain ⟨x1, x2, hb⟩ := ref2 rfl rfl hb1
          rw [hRd.out]
          clear hb1
          have HBW := Lib.hid hb
          have l1 := x1.lt
          have l2 := x2.lt
          obtain ⟨k0, k1, k2, k3, k4, f0, f1, f2, f3, f4⟩ := x1
          obtain ⟨r0, r1, r2, r3, r4, z0, z1, z2, z3, z4⟩ := x2
          clear hb
          go_wp2_with fail
          exact bodyPost_ret (v := .tuple #[st5 epoch b c d e, .int .i64 14]) (by simp [results, Tryd.results73, go_sem, r0, r1, r2, r3, r4]) rfl ⟨rfl, by repeat (with_reducible (first | exact HBW.out | refine Below.setCell ?_ (by show w.heap.size ≤ _; first | exact Nat.le_refl _ | exact Nat.le_add_right _ _) _))⟩
        · go_enter Tryd.func73, Tryd.ntmps73
          go_wp2_with fail
          refine (ref_right epoch b c d e _).mono ?_
          rintro r w1 ⟨rfl, hb1⟩
          obtain ⟨x1, x2, hb⟩ := ref2 rfl rfl hb1
          rw [hRd.out]
          clear hb1
          have HBW := Lib.hid hb
          have l1 := x1.lt
          have l2 := x2.lt
          obtain ⟨k0, k1, k2, k3, k4, f0, f1, f2, f3, f4⟩ := x1
          obtain ⟨r0, r1, r2, r3, r4, z0, z1, z2, z3, z4⟩ := x2
          clear hb
          go_wp2_with fail
          exact bodyPost_ret (v := .tuple #[st5 epoch b c d e, .int .i64 14]) (by simp [results, Tryd.results73, go_sem, r0, r1, r2, r3, r4]) rfl ⟨rfl, by repeat (with_reducible (first | exact HBW.out | refine Below.setCell ?_ (by show w.heap.size ≤ _; first | exact Nat.le_refl _ | exact Nat.le_add_right _ _) _))⟩
      · have hB : S5.begin ⟨epoch, b, c, d, e⟩ epoch round = 0 := by simp only [S5.begin, beginC]; rw [if_neg (fun x => x hR), if_neg (fun x => x rfl), if_neg hr]
        rw [if_neg (show ¬ (S5.begin ⟨epoch, b, c, d, e⟩ epoch round ≠ 0) from fun x => x hB)]
        have hr1 : 1 ≤ round := by omega
        have hr2 : round ≤ 1099511627776 := by omega
        obtain ⟨-, ⟨b0, b1⟩, ⟨c0, c1⟩, ⟨d0, d1⟩, ⟨e0, e1⟩⟩ := hR
        clear hB hr
        by_cases he : 32 ≤ e
        · obtain rfl : e = 32 := by omega
          rw [if_pos he, if_neg (by decide)]
          clear he
          go_enter Tryd.func73, Tryd.ntmps73
          go_wp2_with fail
          refine (ref_right epoch b c d 32 _).mono ?_
          rintro r w1 ⟨rfl, hb1⟩
          obtain ⟨x1, x2, hb⟩ := ref2 rfl rfl hb1
          rw [hRd.out]
          clear hb1
          have HBW := Lib.hid hb
          have l1 := x1.lt
          have l2 := x2.lt
          obtain ⟨k0, k1, k2, k3, k4, f0, f1, f2, f3, f4⟩ := x1
          obtain ⟨r0, r1, r2, r3, r4, z0, z1, z2, z3, z4⟩ := x2
          clear hb
          go_wp2_with fail
          exact bodyPost_ret (v := .tuple #[st5 epoch b c d 32, .int .i64 5]) (by simp [results, Tryd.results73, go_sem, r0, r1, r2, r3, r4]) rfl ⟨rfl, by repeat (with_reducible (first | exact HBW.out | refine Below.setCell ?_ (by show w.heap.size ≤ _; first | exact Nat.le_refl _ | exact Nat.le_add_right _ _) _))⟩
        rw [if_neg he, if_pos rfl]
        have he2 : (e == 32) = false := by simp; omega
        by_cases hb : b < round
        · rw [show max b round = round by omega]
          go_enter Tryd.func73, Tryd.ntmps73
          go_wp2_with fail
          refine (ref_right epoch b c d e _).mono ?_
          rintro r w1 ⟨rfl, hb1⟩
          obtain ⟨x1, x2, hb⟩ := ref2 rfl rfl hb1
          rw [hRd.out]
          clear hb1
          have HBW := Lib.hid hb
          have l1 := x1.lt
          have l2 := x2.lt
          obtain ⟨k0, k1, k2, k3, k4, f0, f1, f2, f3, f4⟩ := x1
          obtain ⟨r0, r1, r2, r3, r4, z0, z1, z2, z3, z4⟩ := x2
          clear hb
          go_wp2_with fail
          exact bodyPost_ret (v := .tuple #[st5 epoch round c d (e + 1), .int .i64 0]) (by simp [results, Tryd.results73, go_sem, r0, r1, r2, r3, r4]) rfl ⟨rfl, by repeat (with_reducible (first | exact HBW.out | refine Below.setCell ?_ (by show w.heap.size ≤ _; first | exact Nat.le_refl _ | exact Nat.le_add_right _ _) _))⟩
        · rw [show max b round = b by omega]
          go_enter Tryd.func73, Tryd.ntmps73
          go_wp2_with fail
          refine (ref_right epoch b c d e _).mono ?_
          rintro r w1 ⟨rfl, hb1⟩
          obtain ⟨x1, x2, hb⟩ := ref2 rfl rfl hb1
          rw [hRd.out]
          clear hb1
          have HBW := Lib.hid hb
          have l1 := x1.lt
          have l2 := x2.lt
          obtain ⟨k0, k1, k2, k3, k4, f0, f1, f2, f3, f4⟩ := x1
          obtain ⟨r0, r1, r2, r3, r4, z0, z1, z2, z3, z4⟩ := x2
          clear hb
          go_wp2_with fail
          exact bodyPost_ret (v := .tuple #[st5 epoch b c d (e + 1), .int .i64 0]) (by simp [results, Tryd.results73, go_sem, r0, r1, r2, r3, r4]) rfl ⟨rfl, by repeat (with_reducible (first | exact HBW.out | refine Below.setCell ?_ (by show w.heap.size ≤ _; first | exact Nat.le_refl _ | exact Nat.le_add_right _ _) _))⟩
    · have hB : S5.begin ⟨a, b, c, d, e⟩ epoch round = 18 := by simp only [S5.begin, beginC]; rw [if_neg (fun x => x hR), if_pos hE]
      rw [if_pos (show S5.begin ⟨a, b, c, d, e⟩ epoch round ≠ 0 by rw [hB]; decide), hB, if_neg (by decide)]
      clear hB hR
      have hE2 : (epoch != a) = true := by simpa using hE
      clear hE
      go_enter Tryd.func73, Tryd.ntmps73
      go_wp2_with fail
      refine (ref_right a b c d e _).mono ?_
      rintro r w1 ⟨rfl, hb1⟩
      obtain ⟨x1, x2, hb⟩ := ref2 rfl rfl hb1
      rw [hRd.out]
      clear hb1
      have HBW := Lib.hid hb
      have l1 := x1.lt
      have l2 := x2.lt
      obtain ⟨k0, k1, k2, k3, k4, f0, f1, f2, f3, f4⟩ := x1
      obtain ⟨r0, r1, r2, r3, r4, z0, z1, z2, z3, z4⟩ := x2
      clear hb
      go_wp2_with fail
      exact bodyPost_ret (v := .tuple #[st5 a b c d e, .int .i64 18]) (by simp [results, Tryd.results73, go_sem, r0, r1, r2, r3, r4]) rfl ⟨rfl, by repeat (with_reducible (first | exact HBW.out | refine Below.setCell ?_ (by show w.heap.size ≤ _; first | exact Nat.le_refl _ | exact Nat.le_add_right _ _) _))⟩
  · have hRd : Hid (decide (RightP a b c d e) = false) := decide_eq_false hR
    have hB : S5.begin ⟨a, b, c, d, e⟩ epoch round = 4 := by simp only [S5.begin, beginC]; rw [if_pos hR]
    rw [if_pos (show S5.begin ⟨a, b, c, d, e⟩ epoch round ≠ 0 by rw [hB]; decide), hB, if_neg (by decide)]
    clear hB hR
    go_enter Tryd.func73, Tryd.ntmps73
    go_wp2_with fail
    refine (ref_right a b c d e _).mono ?_
    rintro r w1 ⟨rfl, hb1⟩
    obtain ⟨x1, x2, hb⟩ := ref2 rfl rfl hb1
    rw [hRd.out]
    clear hb1
    have HBW := Lib.hid hb
    have l1 := x1.lt
    have l2 := x2.lt
    obtain ⟨k0, k1, k2, k3, k4, f0, f1, f2, f3, f4⟩ := x1
    obtain ⟨r0, r1, r2, r3, r4, z0, z1, z2, z3, z4⟩ := x2
    clear hb
    go_wp2_with fail
    exact bodyPost_ret (v := .tuple #[st5 a b c d e, .int .i64 4]) (by simp [results, Tryd.results73, go_sem, r0, r1, r2, r3, r4]) rfl ⟨rfl, by repeat (with_reducible (first | exact HBW.out | refine Below.setCell ?_ (by show w.heap.size ≤ _; first | exact Nat.le_refl _ | exact Nat.le_add_right _ _) _))⟩

set_option maxHeartbeats 1000000 in
set_option maxRecDepth 100000 in
theorem ref_enter (s : S5) (epoch : Int) (w : World) :
    Calls Tryd.prog 75 #[s.v, .int .i64 epoch] w fun r w' => r = .returned (.tuple #[(enterS s epoch).v, .int .i64 (enterC s epoch : Int)]) ∧ Below w.heap.size w w' := by
  obtain ⟨a, b, c, d, e⟩ := s
  unfold enterS enterC
  by_cases hR : RightP a b c d e
  · have hRd : Hid (decide (RightP a b c d e) = true) := decide_eq_true hR
    rw [if_neg (show ¬ ¬ S5.right ⟨a, b, c, d, e⟩ from fun x => x hR)]
    clear hR
    by_cases hE : epoch ≤ a ∨ 1073741824 < epoch
    · rw [if_pos hE, if_neg (by decide)]
      by_cases hE1 : epoch ≤ a
      · clear hE
        go_enter Tryd.func75, Tryd.ntmps75
        go_wp2_with fail
        refine (ref_right a b c d e _).mono ?_
        rintro r w1 ⟨rfl, hb1⟩
        obtain ⟨x1, x2, hb⟩ := ref2 rfl rfl hb1
        rw [hRd.out]
        clear hb1
        have HBW := Lib.hid hb
        have l1 := x1.lt
        have l2 := x2.lt
        obtain ⟨k0, k1, k2, k3, k4, f0, f1, f2, f3, f4⟩ := x1
        obtain ⟨r0, r1, r2, r3, r4, z0, z1, z2, z3, z4⟩ := x2
        clear hb
        go_wp2_with fail
        exact bodyPost_ret (v := .tuple #[st5 a b c d e, .int .i64 18]) (by simp [results, Tryd.results75, go_sem, r0, r1, r2, r3, r4]) rfl ⟨rfl, by repeat (with_reducible (first | exact HBW.out | refine Below.setCell ?_ (by show w.heap.size ≤ _; first | exact Nat.le_refl _ | exact Nat.le_add_right _ _) _))⟩
      · have hE2 : 1073741824 < epoch := by omega
        clear hE
        go_enter Tryd.func75, Tryd.ntmps75
        go_wp2_with fail
        refine (ref_right a b c d e _).mono ?_
        rintro r w1 ⟨rfl, hb1⟩
        obtain ⟨x1, x2, hb⟩ := ref2 rfl rfl hb1
        rw [hRd.out]
        clear hb1
        have HBW := Lib.hid hb
        have l1 := x1.lt
        have l2 := x2.lt
        obtain ⟨k0, k1, k2, k3, k4, f0, f1, f2, f3, f4⟩ := x1
        obtain ⟨r0, r1, r2, r3, r4, z0, z1, z2, z3, z4⟩ := x2
        clear hb
        go_wp2_with fail
        exact bodyPost_ret (v := .tuple #[st5 a b c d e, .int .i64 18]) (by simp [results, Tryd.results75, go_sem, r0, r1, r2, r3, r4]) rfl ⟨rfl, by repeat (with_reducible (first | exact HBW.out | refine Below.setCell ?_ (by show w.heap.size ≤ _; first | exact Nat.le_refl _ | exact Nat.le_add_right _ _) _))⟩
    · rw [if_neg hE, if_pos rfl]
      have hE1 : a < epoch := by omega
      have hE2 : epoch ≤ 1073741824 := by omega
      clear hE
      go_enter Tryd.func75, Tryd.ntmps75
      go_wp2_with fail
      refine (ref_right a b c d e _).mono ?_
      rintro r w1 ⟨rfl, hb1⟩
      obtain ⟨x1, x2, hb⟩ := ref2 rfl rfl hb1
      rw [hRd.out]
      clear hb1
      have HBW := Lib.hid hb
      have l1 := x1.lt
      have l2 := x2.lt
      obtain ⟨k0, k1, k2, k3, k4, f0, f1, f2, f3, f4⟩ := x1
      obtain ⟨r0, r1, r2, r3, r4, z0, z1, z2, z3, z4⟩ := x2
      clear hb
      go_wp2_with fail
      exact bodyPost_ret (v := .tuple #[st5 epoch 0 0 0 e, .int .i64 0]) (by simp [results, Tryd.results75, go_sem, r0, r1, r2, r3, r4]) rfl ⟨rfl, by repeat (with_reducible (first | exact HBW.out | refine Below.setCell ?_ (by show w.heap.size ≤ _; first | exact Nat.le_refl _ | exact Nat.le_add_right _ _) _))⟩
  · have hRd : Hid (decide (RightP a b c d e) = false) := decide_eq_false hR
    rw [if_pos (show ¬ S5.right ⟨a, b, c, d, e⟩ from hR), if_neg (by decide)]
    clear hR
    go_enter Tryd.func75, Tryd.ntmps75
    go_wp2_with fail
    refine (ref_right a b c d e _).mono ?_
    rintro r w1 ⟨rfl, hb1⟩
    obtain ⟨x1, x2, hb⟩ := ref2 rfl rfl hb1
    rw [hRd.out]
    clear hb1
    have HBW := Lib.hid hb
    have l1 := x1.lt
    have l2 := x2.lt
    obtain ⟨k0, k1, k2, k3, k4, f0, f1, f2, f3, f4⟩ := x1
    obtain ⟨r0, r1, r2, r3, r4, z0, z1, z2, z3, z4⟩ := x2
    clear hb
    go_wp2_with fail
    exact bodyPost_ret (v := .tuple #[st5 a b c d e, .int .i64 4]) (by simp [results, Tryd.results75, go_sem, r0, r1, r2, r3, r4]) rfl ⟨rfl, by repeat (with_reducible (first | exact HBW.out | refine Below.setCell ?_ (by show w.heap.size ≤ _; first | exact Nat.le_refl _ | exact Nat.le_add_right _ _) _))⟩

end Go.Proofs.YtadonpfpneanhaaDoor
