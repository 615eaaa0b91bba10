/- The reference's steps, each by one contract. -/
import Derived.Test.YtadonpfpneanhaaDoorR10
namespace Go.Proofs.YtadonpfpneanhaaDoor
open Go.RowKit

set_option maxHeartbeats 1000000 in
set_option maxRecDepth 100000 in
theorem ref_vote (s : S5) (epoch round q g : Int) (w : World) :
    Calls Tryd.prog 72 #[s.v, .int .i64 epoch, .int .i64 round, .int .i64 q, .int .i64 g] w fun r w' => r = .returned (.tuple #[(voteS s epoch round q g).v, .int .i64 (voteC s epoch round q : Int)]) ∧ Below w.heap.size w w' := by
  obtain ⟨a, b, c, d, e⟩ := s
  unfold voteS voteC
  by_cases hR : RightP a b c d e
  · have hRd : Hid (decide (RightP a b c d e) = true) := decide_eq_true hR
    have hR2 := Lib.hid hR
    by_cases hE : epoch = a
    · subst hE
      by_cases hr : round < 1 ∨ 1099511627776 < round
      · have hB : S5.begin ⟨epoch, b, c, d, e⟩ epoch round = 14 := by simp only [S5.begin, beginC]; rw [if_neg (fun x => x hR), if_neg (fun x => x rfl), if_pos hr]
        rw [if_pos (show S5.begin ⟨epoch, b, c, d, e⟩ epoch round ≠ 0 by rw [hB]; decide), hB, if_neg (by decide)]
        clear hB hR
        rcases hr with hr | hr
        · go_enter Tryd.func72, Tryd.ntmps72
          go_wp2_with fail
          refine (ref_right epoch b c d e _).mono ?_
          rintro r w1 ⟨rfl, hb1⟩
          obtain ⟨x1, x2, hb⟩ := ref2 rfl rfl hb1
          rw [hRd.out]
          clear hb1
          have HBW := Lib.hid hb
          have l1 := x1.lt
          have l2 := x2.lt
          obtain ⟨k0, k1, k2, k3, k4, f0, f1, f2, f3, f4⟩ := x1
          obtain ⟨r0, r1, r2, r3, r4, z0, z1, z2, z3, z4⟩ := x2
          clear hb
          go_wp2_with fail
          exact bodyPost_ret (v := .tuple #[st5 epoch b c d e, .int .i64 14]) (by simp [results, Tryd.results72, go_sem, r0, r1, r2, r3, r4]) rfl ⟨rfl, by repeat (with_reducible (first | exact HBW.out | refine Below.setCell ?_ (by show w.heap.size ≤ _; first | exact Nat.le_refl _ | exact Nat.le_add_right _ _) _))⟩
        · go_enter Tryd.func72, Tryd.ntmps72
          go_wp2_with fail
          refine (ref_right epoch b c d e _).mono ?_
          rintro r w1 ⟨rfl, hb1⟩
          obtain ⟨x1, x2, hb⟩ := ref2 rfl rfl hb1
          rw [hRd.out]
          clear hb1
          have HBW := Lib.hid hb
          have l1 := x1.lt
          have l2 := x2.lt
          obtain ⟨k0, k1, k2, k3, k4, f0, f1, f2, f3, f4⟩ := x1
          obtain ⟨r0, r1, r2, r3, r4, z0, z1, z2, z3, z4⟩ := x2
          clear hb
          go_wp2_with fail
          exact bodyPost_ret (v := .tuple #[st5 epoch b c d e, .int .i64 14]) (by simp [results, Tryd.results72, go_sem, r0, r1, r2, r3, r4]) rfl ⟨rfl, by repeat (with_reducible (first | exact HBW.out | refine Below.setCell ?_ (by show w.heap.size ≤ _; first | exact Nat.le_refl _ | exact Nat.le_add_right _ _) _))⟩
      · have hB : S5.begin ⟨epoch, b, c, d, e⟩ epoch round = 0 := by simp only [S5.begin, beginC]; rw [if_neg (fun x => x hR), if_neg (fun x => x rfl), if_neg hr]
        rw [if_neg (show ¬ (S5.begin ⟨epoch, b, c, d, e⟩ epoch round ≠ 0) from fun x => x hB)]
        have hr1 : 1 ≤ round := by omega
        have hr2 : round ≤ 1099511627776 := by omega
        obtain ⟨-, ⟨b0, b1⟩, ⟨c0, c1⟩, ⟨d0, d1⟩, ⟨e0, e1⟩⟩ := hR
        clear hB hr
        by_cases hq : q < 0 ∨ round ≤ q
        · rw [if_pos hq, if_neg (by decide)]
          by_cases hq0 : q < 0
          · clear hq
            go_enter Tryd.func72, Tryd.ntmps72
            go_wp2_with fail
            refine (ref_right epoch b c d e _).mono ?_
            rintro r w1 ⟨rfl, hb1⟩
            obtain ⟨x1, x2, hb⟩ := ref2 rfl rfl hb1
            rw [hRd.out]
            clear hb1
            have HBW := Lib.hid hb
            have l1 := x1.lt
            have l2 := x2.lt
            obtain ⟨k0, k1, k2, k3, k4, f0, f1, f2, f3, f4⟩ := x1
            obtain ⟨r0, r1, r2, r3, r4, z0, z1, z2, z3, z4⟩ := x2
            clear hb
            go_wp2_with fail
            exact bodyPost_ret (v := .tuple #[st5 epoch b c d e, .int .i64 14]) (by simp [results, Tryd.results72, go_sem, r0, r1, r2, r3, r4]) rfl ⟨rfl, by repeat (with_reducible (first | exact HBW.out | refine Below.setCell ?_ (by show w.heap.size ≤ _; first | exact Nat.le_refl _ | exact Nat.le_add_right _ _) _))⟩
          · have hq1 : round ≤ q := by omega
            clear hq
            go_enter Tryd.func72, Tryd.ntmps72
            go_wp2_with fail
            refine (ref_right epoch b c d e _).mono ?_
            rintro r w1 ⟨rfl, hb1⟩
            obtain ⟨x1, x2, hb⟩ := ref2 rfl rfl hb1
            rw [hRd.out]
            clear hb1
            have HBW := Lib.hid hb
            have l1 := x1.lt
            have l2 := x2.lt
            obtain ⟨k0, k1, k2, k3, k4, f0, f1, f2, f3, f4⟩ := x1
            obtain ⟨r0, r1, r2, r3, r4, z0, z1, z2, z3, z4⟩ := x2
            clear hb
            go_wp2_with fail
            exact bodyPost_ret (v := .tuple #[st5 epoch b c d e, .int .i64 14]) (by simp [results, Tryd.results72, go_sem, r0, r1, r2, r3, r4]) rfl ⟨rfl, by repeat (with_reducible (first | exact HBW.out | refine Below.setCell ?_ (by show w.heap.size ≤ _; first | exact Nat.le_refl _ | exact Nat.le_add_right _ _) _))⟩
        rw [if_neg hq]
        have hq0 : 0 ≤ q := by omega
        have hq1 : q < round := by omega
        clear hq
        by_cases hb : round ≤ b
        · rw [if_pos hb, if_neg (by decide)]
          go_enter Tryd.func72, Tryd.ntmps72
          go_wp2_with fail
          refine (ref_right epoch b c d e _).mono ?_
          rintro r w1 ⟨rfl, hb1⟩
          obtain ⟨x1, x2, hb⟩ := ref2 rfl rfl hb1
          rw [hRd.out]
          clear hb1
          have HBW := Lib.hid hb
          have l1 := x1.lt
          have l2 := x2.lt
          obtain ⟨k0, k1, k2, k3, k4, f0, f1, f2, f3, f4⟩ := x1
          obtain ⟨r0, r1, r2, r3, r4, z0, z1, z2, z3, z4⟩ := x2
          clear hb
          go_wp2_with fail
          exact bodyPost_ret (v := .tuple #[st5 epoch b c d e, .int .i64 10]) (by simp [results, Tryd.results72, go_sem, r0, r1, r2, r3, r4]) rfl ⟨rfl, by repeat (with_reducible (first | exact HBW.out | refine Below.setCell ?_ (by show w.heap.size ≤ _; first | exact Nat.le_refl _ | exact Nat.le_add_right _ _) _))⟩
        rw [if_neg hb]
        by_cases hc : q < c
        · rw [if_pos hc, if_neg (by decide)]
          go_enter Tryd.func72, Tryd.ntmps72
          go_wp2_with fail
          refine (ref_right epoch b c d e _).mono ?_
          rintro r w1 ⟨rfl, hb1⟩
          obtain ⟨x1, x2, hb⟩ := ref2 rfl rfl hb1
          rw [hRd.out]
          clear hb1
          have HBW := Lib.hid hb
          have l1 := x1.lt
          have l2 := x2.lt
          obtain ⟨k0, k1, k2, k3, k4, f0, f1, f2, f3, f4⟩ := x1
          obtain ⟨r0, r1, r2, r3, r4, z0, z1, z2, z3, z4⟩ := x2
          clear hb
          go_wp2_with fail
          exact bodyPost_ret (v := .tuple #[st5 epoch b c d e, .int .i64 15]) (by simp [results, Tryd.results72, go_sem, r0, r1, r2, r3, r4]) rfl ⟨rfl, by repeat (with_reducible (first | exact HBW.out | refine Below.setCell ?_ (by show w.heap.size ≤ _; first | exact Nat.le_refl _ | exact Nat.le_add_right _ _) _))⟩
        rw [if_neg hc]
        by_cases he : 32 ≤ e
        · obtain rfl : e = 32 := by omega
          rw [if_pos he, if_neg (by decide)]
          clear he
          go_enter Tryd.func72, Tryd.ntmps72
          go_wp2_with fail
          refine (ref_right epoch b c d 32 _).mono ?_
          rintro r w1 ⟨rfl, hb1⟩
          obtain ⟨x1, x2, hb⟩ := ref2 rfl rfl hb1
          rw [hRd.out]
          clear hb1
          have HBW := Lib.hid hb
          have l1 := x1.lt
          have l2 := x2.lt
          obtain ⟨k0, k1, k2, k3, k4, f0, f1, f2, f3, f4⟩ := x1
          obtain ⟨r0, r1, r2, r3, r4, z0, z1, z2, z3, z4⟩ := x2
          clear hb
          go_wp2_with fail
          exact bodyPost_ret (v := .tuple #[st5 epoch b c d 32, .int .i64 5]) (by simp [results, Tryd.results72, go_sem, r0, r1, r2, r3, r4]) rfl ⟨rfl, by repeat (with_reducible (first | exact HBW.out | refine Below.setCell ?_ (by show w.heap.size ≤ _; first | exact Nat.le_refl _ | exact Nat.le_add_right _ _) _))⟩
        rw [if_neg he, if_pos rfl]
        have he2 : (e == 32) = false := by simp; omega
        by_cases hg : g ≤ q
        · rw [if_pos hg]
          by_cases hgc : c < g
          · rw [show max c g = g by omega]
            have hg0 : 0 ≤ g := by omega
            go_enter Tryd.func72, Tryd.ntmps72
            go_wp2_with fail
            refine (ref_right epoch b c d e _).mono ?_
            rintro r w1 ⟨rfl, hb1⟩
            obtain ⟨x1, x2, hb⟩ := ref2 rfl rfl hb1
            rw [hRd.out]
            clear hb1
            have HBW := Lib.hid hb
            have l1 := x1.lt
            have l2 := x2.lt
            obtain ⟨k0, k1, k2, k3, k4, f0, f1, f2, f3, f4⟩ := x1
            obtain ⟨r0, r1, r2, r3, r4, z0, z1, z2, z3, z4⟩ := x2
            clear hb
            go_wp2_with fail
            exact bodyPost_ret (v := .tuple #[st5 epoch round g d (e + 1), .int .i64 0]) (by simp [results, Tryd.results72, go_sem, r0, r1, r2, r3, r4]) rfl ⟨rfl, by repeat (with_reducible (first | exact HBW.out | refine Below.setCell ?_ (by show w.heap.size ≤ _; first | exact Nat.le_refl _ | exact Nat.le_add_right _ _) _))⟩
          · rw [show max c g = c by omega]
            by_cases hg0 : 0 ≤ g
            · go_enter Tryd.func72, Tryd.ntmps72
              go_wp2_with fail
              refine (ref_right epoch b c d e _).mono ?_
              rintro r w1 ⟨rfl, hb1⟩
              obtain ⟨x1, x2, hb⟩ := ref2 rfl rfl hb1
              rw [hRd.out]
              clear hb1
              have HBW := Lib.hid hb
              have l1 := x1.lt
              have l2 := x2.lt
              obtain ⟨k0, k1, k2, k3, k4, f0, f1, f2, f3, f4⟩ := x1
              obtain ⟨r0, r1, r2, r3, r4, z0, z1, z2, z3, z4⟩ := x2
              clear hb
              go_wp2_with fail
              exact bodyPost_ret (v := .tuple #[st5 epoch round c d (e + 1), .int .i64 0]) (by simp [results, Tryd.results72, go_sem, r0, r1, r2, r3, r4]) rfl ⟨rfl, by repeat (with_reducible (first | exact HBW.out | refine Below.setCell ?_ (by show w.heap.size ≤ _; first | exact Nat.le_refl _ | exact Nat.le_add_right _ _) _))⟩
            · go_enter Tryd.func72, Tryd.ntmps72
              go_wp2_with fail
              refine (ref_right epoch b c d e _).mono ?_
              rintro r w1 ⟨rfl, hb1⟩
              obtain ⟨x1, x2, hb⟩ := ref2 rfl rfl hb1
              rw [hRd.out]
              clear hb1
              have HBW := Lib.hid hb
              have l1 := x1.lt
              have l2 := x2.lt
              obtain ⟨k0, k1, k2, k3, k4, f0, f1, f2, f3, f4⟩ := x1
              obtain ⟨r0, r1, r2, r3, r4, z0, z1, z2, z3, z4⟩ := x2
              clear hb
              go_wp2_with fail
              exact bodyPost_ret (v := .tuple #[st5 epoch round c d (e + 1), .int .i64 0]) (by simp [results, Tryd.results72, go_sem, r0, r1, r2, r3, r4]) rfl ⟨rfl, by repeat (with_reducible (first | exact HBW.out | refine Below.setCell ?_ (by show w.heap.size ≤ _; first | exact Nat.le_refl _ | exact Nat.le_add_right _ _) _))⟩
        · rw [if_neg hg]
          have hg0 : 0 ≤ g := by omega
          go_enter Tryd.func72, Tryd.ntmps72
          go_wp2_with fail
          refine (ref_right epoch b c d e _).mono ?_
          rintro r w1 ⟨rfl, hb1⟩
          obtain ⟨x1, x2, hb⟩ := ref2 rfl rfl hb1
          rw [hRd.out]
          clear hb1
          have HBW := Lib.hid hb
          have l1 := x1.lt
          have l2 := x2.lt
          obtain ⟨k0, k1, k2, k3, k4, f0, f1, f2, f3, f4⟩ := x1
          obtain ⟨r0, r1, r2, r3, r4, z0, z1, z2, z3, z4⟩ := x2
          clear hb
          go_wp2_with fail
          exact bodyPost_ret (v := .tuple #[st5 epoch round c d (e + 1), .int .i64 0]) (by simp [results, Tryd.results72, go_sem, r0, r1, r2, r3, r4]) rfl ⟨rfl, by repeat (with_reducible (first | exact HBW.out | refine Below.setCell ?_ (by show w.heap.size ≤ _; first | exact Nat.le_refl _ | exact Nat.le_add_right _ _) _))⟩
    · have hB : S5.begin ⟨a, b, c, d, e⟩ epoch round = 18 := by simp only [S5.begin, beginC]; rw [if_neg (fun x => x hR), if_pos hE]
      rw [if_pos (show S5.begin ⟨a, b, c, d, e⟩ epoch round ≠ 0 by rw [hB]; decide), hB, if_neg (by decide)]
      clear hB hR
      have hE2 : (epoch != a) = true := by simpa using hE
      clear hE
      go_enter Tryd.func72, Tryd.ntmps72
      go_wp2_with fail
      refine (ref_right a b c d e _).mono ?_
      rintro r w1 ⟨rfl, hb1⟩
      obtain ⟨x1, x2, hb⟩ := ref2 rfl rfl hb1
      rw [hRd.out]
      clear hb1
      have HBW := Lib.hid hb
      have l1 := x1.lt
      have l2 := x2.lt
      obtain ⟨k0, k1, k2, k3, k4, f0, f1, f2, f3, f4⟩ := x1
      obtain ⟨r0, r1, r2, r3, r4, z0, z1, z2, z3, z4⟩ := x2
      clear hb
      go_wp2_with fail
      exact bodyPost_ret (v := .tuple #[st5 a b c d e, .int .i64 18]) (by simp [results, Tryd.results72, go_sem, r0, r1, r2, r3, r4]) rfl ⟨rfl, by repeat (with_reducible (first | exact HBW.out | refine Below.setCell ?_ (by show w.heap.size ≤ _; first | exact Nat.le_refl _ | exact Nat.le_add_right _ _) _))⟩
  · have hRd : Hid (decide (RightP a b c d e) = false) := decide_eq_false hR
    have hB : S5.begin ⟨a, b, c, d, e⟩ epoch round = 4 := by simp only [S5.begin, beginC]; rw [if_pos hR]
    rw [if_pos (show S5.begin ⟨a, b, c, d, e⟩ epoch round ≠ 0 by rw [hB]; decide), hB, if_neg (by decide)]
    clear hB hR
    go_enter Tryd.func72, Tryd.ntmps72
    go_wp2_with fail
    refine (ref_right a b c d e _).mono ?_
    rintro r w1 ⟨rfl, hb1⟩
    obtain ⟨x1, x2, hb⟩ := ref2 rfl rfl hb1
    rw [hRd.out]
    clear hb1
    have HBW := Lib.hid hb
    have l1 := x1.lt
    have l2 := x2.lt
    obtain ⟨k0, k1, k2, k3, k4, f0, f1, f2, f3, f4⟩ := x1
    obtain ⟨r0, r1, r2, r3, r4, z0, z1, z2, z3, z4⟩ := x2
    clear hb
    go_wp2_with fail
    exact bodyPost_ret (v := .tuple #[st5 a b c d e, .int .i64 4]) (by simp [results, Tryd.results72, go_sem, r0, r1, r2, r3, r4]) rfl ⟨rfl, by repeat (with_reducible (first | exact HBW.out | refine Below.setCell ?_ (by show w.heap.size ≤ _; first | exact Nat.le_refl _ | exact Nat.le_add_right _ _) _))⟩

set_option maxHeartbeats 1000000 in
set_option maxRecDepth 100000 in
theorem ref_propose (s : S5) (epoch round : Int) (w : World) :
    Calls Tryd.prog 74 #[s.v, .int .i64 epoch, .int .i64 round] w fun r w' => r = .returned (.tuple #[(proposeS s epoch round).v, .int .i64 (proposeC s epoch round : Int)]) ∧ Below w.heap.size w w' := by
  obtain ⟨a, b, c, d, e⟩ := s
  unfold proposeS proposeC
  by_cases hR : RightP a b c d e
  · have hRd : Hid (decide (RightP a b c d e) = true) := decide_eq_true hR
    have hR2 := Lib.hid hR
    by_cases hE : epoch = a
    · subst hE
      by_cases hr : round < 1 ∨ 1099511627776 < round
      · have hB : S5.begin ⟨epoch, b, c, d, e⟩ epoch round = 14 := by simp only [S5.begin, beginC]; rw [if_neg (fun x => x hR), if_neg (fun x => x rfl), if_pos hr]
        rw [if_pos (show S5.begin ⟨epoch, b, c, d, e⟩ epoch round ≠ 0 by rw [hB]; decide), hB, if_neg (by decide)]
        clear hB hR
        rcases hr with hr | hr
        · go_enter Tryd.func74, Tryd.ntmps74
          go_wp2_with fail
          refine (ref_right epoch b c d e _).mono ?_
          rintro r w1 ⟨rfl, hb1⟩
          obtain ⟨x1, x2, hb⟩ := ref2 rfl rfl hb1
          rw [hRd.out]
          clear hb1
          have HBW := Lib.hid hb
          have l1 := x1.lt
          have l2 := x2.lt
          obtain ⟨k0, k1, k2, k3, k4, f0, f1, f2, f3, f4⟩ := x1
          obtain ⟨r0, r1, r2, r3, r4, z0, z1, z2, z3, z4⟩ := x2
          clear hb
          go_wp2_with fail
          exact bodyPost_ret (v := .tuple #[st5 epoch b c d e, .int .i64 14]) (by simp [results, Tryd.results74, go_sem, r0, r1, r2, r3, r4]) rfl ⟨rfl, by repeat (with_reducible (first | exact HBW.out | refine Below.setCell ?_ (by show w.heap.size ≤ _; first | exact Nat.le_refl _ | exact Nat.le_add_right _ _) _))⟩
        · go_enter Tryd.func74, Tryd.ntmps74
          go_wp2_with fail
          refine (ref_right epoch b c d e _).mono ?_
          rintro r w1 ⟨rfl, hb1⟩
          obtain ⟨x1, x2, hb⟩ := ref2 rfl rfl hb1
          rw [hRd.out]
          clear hb1
          have HBW := Lib.hid hb
          have l1 := x1.lt
          have l2 := x2.lt
          obtain ⟨k0, k1, k2, k3, k4, f0, f1, f2, f3, f4⟩ := x1
          obtain ⟨r0, r1, r2, r3, r4, z0, z1, z2, z3, z4⟩ := x2
          clear hb
          go_wp2_with fail
          exact bodyPost_ret (v := .tuple #[st5 epoch b c d e, .int .i64 14]) (by simp [results, Tryd.results74, go_sem, r0, r1, r2, r3, r4]) rfl ⟨rfl, by repeat (with_reducible (first | exact HBW.out | refine Below.setCell ?_ (by show w.heap.size ≤ _; first | exact Nat.le_refl _ | exact Nat.le_add_right _ _) _))⟩
      · have hB : S5.begin ⟨epoch, b, c, d, e⟩ epoch round = 0 := by simp only [S5.begin, beginC]; rw [if_neg (fun x => x hR), if_neg (fun x => x rfl), if_neg hr]
        rw [if_neg (show ¬ (S5.begin ⟨epoch, b, c, d, e⟩ epoch round ≠ 0) from fun x => x hB)]
        have hr1 : 1 ≤ round := by omega
        have hr2 : round ≤ 1099511627776 := by omega
        obtain ⟨-, ⟨b0, b1⟩, ⟨c0, c1⟩, ⟨d0, d1⟩, ⟨e0, e1⟩⟩ := hR
        clear hB hr
        by_cases hd : round ≤ d
        · rw [if_pos hd, if_neg (by decide)]
          go_enter Tryd.func74, Tryd.ntmps74
          go_wp2_with fail
          refine (ref_right epoch b c d e _).mono ?_
          rintro r w1 ⟨rfl, hb1⟩
          obtain ⟨x1, x2, hb⟩ := ref2 rfl rfl hb1
          rw [hRd.out]
          clear hb1
          have HBW := Lib.hid hb
          have l1 := x1.lt
          have l2 := x2.lt
          obtain ⟨k0, k1, k2, k3, k4, f0, f1, f2, f3, f4⟩ := x1
          obtain ⟨r0, r1, r2, r3, r4, z0, z1, z2, z3, z4⟩ := x2
          clear hb
          go_wp2_with fail
          exact bodyPost_ret (v := .tuple #[st5 epoch b c d e, .int .i64 10]) (by simp [results, Tryd.results74, go_sem, r0, r1, r2, r3, r4]) rfl ⟨rfl, by repeat (with_reducible (first | exact HBW.out | refine Below.setCell ?_ (by show w.heap.size ≤ _; first | exact Nat.le_refl _ | exact Nat.le_add_right _ _) _))⟩
        rw [if_neg hd]
        by_cases he : 32 ≤ e
        · obtain rfl : e = 32 := by omega
          rw [if_pos he, if_neg (by decide)]
          clear he
          go_enter Tryd.func74, Tryd.ntmps74
          go_wp2_with fail
          refine (ref_right epoch b c d 32 _).mono ?_
          rintro r w1 ⟨rfl, hb1⟩
          obtain ⟨x1, x2, hb⟩ := ref2 rfl rfl hb1
          rw [hRd.out]
          clear hb1
          have HBW := Lib.hid hb
          have l1 := x1.lt
          have l2 := x2.lt
          obtain ⟨k0, k1, k2, k3, k4, f0, f1, f2, f3, f4⟩ := x1
          obtain ⟨r0, r1, r2, r3, r4, z0, z1, z2, z3, z4⟩ := x2
          clear hb
          go_wp2_with fail
          exact bodyPost_ret (v := .tuple #[st5 epoch b c d 32, .int .i64 5]) (by simp [results, Tryd.results74, go_sem, r0, r1, r2, r3, r4]) rfl ⟨rfl, by repeat (with_reducible (first | exact HBW.out | refine Below.setCell ?_ (by show w.heap.size ≤ _; first | exact Nat.le_refl _ | exact Nat.le_add_right _ _) _))⟩
        rw [if_neg he, if_pos rfl]
        have he2 : (e == 32) = false := by simp; omega
        go_enter Tryd.func74, Tryd.ntmps74
        go_wp2_with fail
        refine (ref_right epoch b c d e _).mono ?_
        rintro r w1 ⟨rfl, hb1⟩
        obtain ⟨x1, x2, hb⟩ := ref2 rfl rfl hb1
        rw [hRd.out]
        clear hb1
        have HBW := Lib.hid hb
        have l1 := x1.lt
        have l2 := x2.lt
        obtain ⟨k0, k1, k2, k3, k4, f0, f1, f2, f3, f4⟩ := x1
        obtain ⟨r0, r1, r2, r3, r4, z0, z1, z2, z3, z4⟩ := x2
        clear hb
        go_wp2_with fail
        exact bodyPost_ret (v := .tuple #[st5 epoch b c round (e + 1), .int .i64 0]) (by simp [results, Tryd.results74, go_sem, r0, r1, r2, r3, r4]) rfl ⟨rfl, by repeat (with_reducible (first | exact HBW.out | refine Below.setCell ?_ (by show w.heap.size ≤ _; first | exact Nat.le_refl _ | exact Nat.le_add_right _ _) _))⟩
    · have hB : S5.begin ⟨a, b, c, d, e⟩ epoch round = 18 := by simp only [S5.begin, beginC]; rw [if_neg (fun x => x hR), if_pos hE]
      rw [if_pos (show S5.begin ⟨a, b, c, d, e⟩ epoch round ≠ 0 by rw [hB]; decide), hB, if_neg (by decide)]
      clear hB hR
      have hE2 : (epoch != a) = true := by simpa using hE
      clear hE
      go_enter Tryd.func74, Tryd.ntmps74
      go_wp2_with fail
      refine (ref_right a b c d e _).mono ?_
      rintro r w1 ⟨rfl, hb1⟩
      obtain ⟨x1, x2, hb⟩ := ref2 rfl rfl hb1
      rw [hRd.out]
      clear hb1
      have HBW := Lib.hid hb
      have l1 := x1.lt
      have l2 := x2.lt
      obtain ⟨k0, k1, k2, k3, k4, f0, f1, f2, f3, f4⟩ := x1
      obtain ⟨r0, r1, r2, r3, r4, z0, z1, z2, z3, z4⟩ := x2
      clear hb
      go_wp2_with fail
      exact bodyPost_ret (v := .tuple #[st5 a b c d e, .int .i64 18]) (by simp [results, Tryd.results74, go_sem, r0, r1, r2, r3, r4]) rfl ⟨rfl, by repeat (with_reducible (first | exact HBW.out | refine Below.setCell ?_ (by show w.heap.size ≤ _; first | exact Nat.le_refl _ | exact Nat.le_add_right _ _) _))⟩
  · have hRd : Hid (decide (RightP a b c d e) = false) := decide_eq_false hR
    have hB : S5.begin ⟨a, b, c, d, e⟩ epoch round = 4 := by simp only [S5.begin, beginC]; rw [if_pos hR]
    rw [if_pos (show S5.begin ⟨a, b, c, d, e⟩ epoch round ≠ 0 by rw [hB]; decide), hB, if_neg (by decide)]
    clear hB hR
    go_enter Tryd.func74, Tryd.ntmps74
    go_wp2_with fail
    refine (ref_right a b c d e _).mono ?_
    rintro r w1 ⟨rfl, hb1⟩
    obtain ⟨x1, x2, hb⟩ := ref2 rfl rfl hb1
    rw [hRd.out]
    clear hb1
    have HBW := Lib.hid hb
    have l1 := x1.lt
    have l2 := x2.lt
    obtain ⟨k0, k1, k2, k3, k4, f0, f1, f2, f3, f4⟩ := x1
    obtain ⟨r0, r1, r2, r3, r4, z0, z1, z2, z3, z4⟩ := x2
    clear hb
    go_wp2_with fail
    exact bodyPost_ret (v := .tuple #[st5 a b c d e, .int .i64 4]) (by simp [results, Tryd.results74, go_sem, r0, r1, r2, r3, r4]) rfl ⟨rfl, by repeat (with_reducible (first | exact HBW.out | refine Below.setCell ?_ (by show w.heap.size ≤ _; first | exact Nat.le_refl _ | exact Nat.le_add_right _ _) _))⟩

end Go.Proofs.YtadonpfpneanhaaDoor
