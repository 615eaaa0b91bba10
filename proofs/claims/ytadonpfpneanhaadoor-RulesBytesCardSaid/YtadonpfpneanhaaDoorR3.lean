/- The rules' steps once more: those that ask for a leaf. -/
import Derived.Test.YtadonpfpneanhaaDoorR2
namespace Go.Proofs.YtadonpfpneanhaaDoor
open Go.RowKit

set_option maxHeartbeats 1000000 in
set_option maxRecDepth 100000 in
theorem vote_spent (A : List Addr) (a b c d e epoch round q g : Int) (w : World) (h : Sents G18 132 A w) (hB : beginC a b c d e epoch round = 0) (hq0 : 0 ≤ q) (hq1 : q < round) (hb2 : b < round) (hc : c ≤ q) (he : 32 ≤ e) :
    Calls Tryd.prog 46 #[st5 a b c d e, .int .i64 epoch, .int .i64 round, .int .i64 q, .int .i64 g] w fun r w' => r = .returned (.tuple #[st5 a b c d e, errV A 5]) ∧ Below w.heap.size w w' := by
  have HS := Lib.hid h
  have HB : Hid (errV A (beginC a b c d e epoch round) = .nilIface) := by rw [hB]; rfl
  obtain ⟨x, hx⟩ := sent_at h 4 (by omega)
  have EX : Hid (errV A 5 = .iface 132 (.pointer (some x))) := errV_at hx
  clear hx
  obtain ⟨hR, hE, hr1, hr2⟩ := begin_zero hB
  obtain ⟨⟨a0, a1⟩, ⟨b0, b1⟩, ⟨c0, c1⟩, ⟨d0, d1⟩, ⟨e0, e1⟩⟩ := hR
  clear h hB hE
  go_enter Tryd.func46, Tryd.ntmps46
  go_wp2_with fail
  refine (begin_any A a b c d e epoch round _ (HS.out.later (((Below.refl w.heap.size w).alloc (Nat.le_refl _) _).alloc (by simp) _))).mono ?_
  rintro r w1 ⟨rfl, hb1⟩
  have hs1 := Lib.hid ((HS.out.later (((Below.refl w.heap.size w).alloc (Nat.le_refl _) _).alloc (by simp) _)).later hb1)
  have hb := (((Below.refl w.heap.size w).alloc (Nat.le_refl _) _).alloc (by simp) _).trans (hb1.mono (by simp; omega))
  obtain ⟨⟨k0, k1, k2, k3, k4⟩, ⟨r0, r1, r2, r3, r4⟩, ⟨z0, z1, z2, z3, z4⟩⟩ := box2 hb1
  have hz1 := hb1.size
  simp only [World.size_alloc] at hz1
  rw [HB.out]
  go_wp2_with fail
  refine (end_spent A a b c d e _ hs1.out he).mono ?_
  rintro r w2 ⟨rfl, hbe⟩
  have k20 := (hbe.cell (p := ⟨w.heap.size, 0, none⟩) (by simp; omega)).trans k0
  have k21 := (hbe.cell (p := ⟨w.heap.size, 1, none⟩) (by simp; omega)).trans k1
  have k22 := (hbe.cell (p := ⟨w.heap.size, 2, none⟩) (by simp; omega)).trans k2
  have k23 := (hbe.cell (p := ⟨w.heap.size, 3, none⟩) (by simp; omega)).trans k3
  have k24 := (hbe.cell (p := ⟨w.heap.size, 4, none⟩) (by simp; omega)).trans k4
  have r20 := (hbe.cell (p := ⟨w.heap.size + 1, 0, none⟩) (by simp; omega)).trans r0
  have r21 := (hbe.cell (p := ⟨w.heap.size + 1, 1, none⟩) (by simp; omega)).trans r1
  have r22 := (hbe.cell (p := ⟨w.heap.size + 1, 2, none⟩) (by simp; omega)).trans r2
  have r23 := (hbe.cell (p := ⟨w.heap.size + 1, 3, none⟩) (by simp; omega)).trans r3
  have r24 := (hbe.cell (p := ⟨w.heap.size + 1, 4, none⟩) (by simp; omega)).trans r4
  have z20 := (hbe.frozen (p := ⟨w.heap.size + 1, 0, none⟩) (by simp; omega)).trans z0
  have z21 := (hbe.frozen (p := ⟨w.heap.size + 1, 1, none⟩) (by simp; omega)).trans z1
  have z22 := (hbe.frozen (p := ⟨w.heap.size + 1, 2, none⟩) (by simp; omega)).trans z2
  have z23 := (hbe.frozen (p := ⟨w.heap.size + 1, 3, none⟩) (by simp; omega)).trans z3
  have z24 := (hbe.frozen (p := ⟨w.heap.size + 1, 4, none⟩) (by simp; omega)).trans z4
  have hz2 : w.heap.size + 2 ≤ w2.heap.size := by have := hbe.size; omega
  have kA0 := cell_alloc_old k20
  have kA1 := cell_alloc_old k21
  have kA2 := cell_alloc_old k22
  have kA3 := cell_alloc_old k23
  have kA4 := cell_alloc_old k24
  have rA0 := cell_alloc_old r20
  have rA1 := cell_alloc_old r21
  have rA2 := cell_alloc_old r22
  have rA3 := cell_alloc_old r23
  have rA4 := cell_alloc_old r24
  have zA0 := frozen_alloc_old (p := ⟨w.heap.size + 1, 0, none⟩) (show w.heap.size + 1 < w2.heap.size by omega) z20
  have zA1 := frozen_alloc_old (p := ⟨w.heap.size + 1, 1, none⟩) (show w.heap.size + 1 < w2.heap.size by omega) z21
  have zA2 := frozen_alloc_old (p := ⟨w.heap.size + 1, 2, none⟩) (show w.heap.size + 1 < w2.heap.size by omega) z22
  have zA3 := frozen_alloc_old (p := ⟨w.heap.size + 1, 3, none⟩) (show w.heap.size + 1 < w2.heap.size by omega) z23
  have zA4 := frozen_alloc_old (p := ⟨w.heap.size + 1, 4, none⟩) (show w.heap.size + 1 < w2.heap.size by omega) z24
  have n1 : ¬ w.heap.size = w2.heap.size := by omega
  have n2 : ¬ w.heap.size + 1 = w2.heap.size := by omega
  have n3 : ¬ w2.heap.size = w.heap.size := by omega
  have n4 : ¬ w2.heap.size = w.heap.size + 1 := by omega
  have hbw := hb.trans (hbe.mono (by omega))
  clear k0 k1 k2 k3 k4 r0 r1 r2 r3 r4 z0 z1 z2 z3 z4
  rw [EX.out]
  go_wp2_with fail
  exact bodyPost_ret (v := .tuple #[st5 a b c d e, .iface 132 (.pointer (some x))]) (by simp [results, Tryd.results46, go_sem, rA0, rA1, rA2, rA3, rA4]) rfl ⟨by rw [EX.out], below_five (hbw.alloc (by omega) _) (by omega) _ _ _ _ _⟩
set_option maxHeartbeats 1000000 in
set_option maxRecDepth 100000 in
theorem vote_ok1a (A : List Addr) (a b c d e epoch round q g : Int) (w : World) (h : Sents G18 132 A w) (hB : beginC a b c d e epoch round = 0) (hq0 : 0 ≤ q) (hq1 : q < round) (hb2 : b < round) (hc : c ≤ q) (he : e < 32) (hg : g ≤ q) (hgc : g ≤ c) :
    Calls Tryd.prog 46 #[st5 a b c d e, .int .i64 epoch, .int .i64 round, .int .i64 q, .int .i64 g] w fun r w' => r = .returned (.tuple #[st5 a round c d (e + 1), .nilIface]) ∧ Below w.heap.size w w' := by
  have HS := Lib.hid h
  have HB : Hid (errV A (beginC a b c d e epoch round) = .nilIface) := by rw [hB]; rfl
  obtain ⟨hR, hE, hr1, hr2⟩ := begin_zero hB
  obtain ⟨⟨a0, a1⟩, ⟨b0, b1⟩, ⟨c0, c1⟩, ⟨d0, d1⟩, ⟨e0, e1⟩⟩ := hR
  clear h hB hE
  have he2 : 0 ≤ e := e0
  go_enter Tryd.func46, Tryd.ntmps46
  go_wp2_with fail
  refine (begin_any A a b c d e epoch round _ (HS.out.later (((Below.refl w.heap.size w).alloc (Nat.le_refl _) _).alloc (by simp) _))).mono ?_
  rintro r w1 ⟨rfl, hb1⟩
  have hs1 := Lib.hid ((HS.out.later (((Below.refl w.heap.size w).alloc (Nat.le_refl _) _).alloc (by simp) _)).later hb1)
  have hb := (((Below.refl w.heap.size w).alloc (Nat.le_refl _) _).alloc (by simp) _).trans (hb1.mono (by simp; omega))
  obtain ⟨⟨k0, k1, k2, k3, k4⟩, ⟨r0, r1, r2, r3, r4⟩, ⟨z0, z1, z2, z3, z4⟩⟩ := box2 hb1
  have hz1 := hb1.size
  simp only [World.size_alloc] at hz1
  rw [HB.out]
  go_wp2_with fail
  refine (end_ok a b c d e _ he2 he).mono ?_
  rintro r w2 ⟨rfl, hbe⟩
  have k20 := (hbe.cell (p := ⟨w.heap.size, 0, none⟩) (by simp; omega)).trans k0
  have k21 := (hbe.cell (p := ⟨w.heap.size, 1, none⟩) (by simp; omega)).trans k1
  have k22 := (hbe.cell (p := ⟨w.heap.size, 2, none⟩) (by simp; omega)).trans k2
  have k23 := (hbe.cell (p := ⟨w.heap.size, 3, none⟩) (by simp; omega)).trans k3
  have k24 := (hbe.cell (p := ⟨w.heap.size, 4, none⟩) (by simp; omega)).trans k4
  have r20 := (hbe.cell (p := ⟨w.heap.size + 1, 0, none⟩) (by simp; omega)).trans r0
  have r21 := (hbe.cell (p := ⟨w.heap.size + 1, 1, none⟩) (by simp; omega)).trans r1
  have r22 := (hbe.cell (p := ⟨w.heap.size + 1, 2, none⟩) (by simp; omega)).trans r2
  have r23 := (hbe.cell (p := ⟨w.heap.size + 1, 3, none⟩) (by simp; omega)).trans r3
  have r24 := (hbe.cell (p := ⟨w.heap.size + 1, 4, none⟩) (by simp; omega)).trans r4
  have z20 := (hbe.frozen (p := ⟨w.heap.size + 1, 0, none⟩) (by simp; omega)).trans z0
  have z21 := (hbe.frozen (p := ⟨w.heap.size + 1, 1, none⟩) (by simp; omega)).trans z1
  have z22 := (hbe.frozen (p := ⟨w.heap.size + 1, 2, none⟩) (by simp; omega)).trans z2
  have z23 := (hbe.frozen (p := ⟨w.heap.size + 1, 3, none⟩) (by simp; omega)).trans z3
  have z24 := (hbe.frozen (p := ⟨w.heap.size + 1, 4, none⟩) (by simp; omega)).trans z4
  have hz2 : w.heap.size + 2 ≤ w2.heap.size := by have := hbe.size; omega
  have kA0 := cell_alloc_old k20
  have kA1 := cell_alloc_old k21
  have kA2 := cell_alloc_old k22
  have kA3 := cell_alloc_old k23
  have kA4 := cell_alloc_old k24
  have rA0 := cell_alloc_old r20
  have rA1 := cell_alloc_old r21
  have rA2 := cell_alloc_old r22
  have rA3 := cell_alloc_old r23
  have rA4 := cell_alloc_old r24
  have zA0 := frozen_alloc_old (p := ⟨w.heap.size + 1, 0, none⟩) (show w.heap.size + 1 < w2.heap.size by omega) z20
  have zA1 := frozen_alloc_old (p := ⟨w.heap.size + 1, 1, none⟩) (show w.heap.size + 1 < w2.heap.size by omega) z21
  have zA2 := frozen_alloc_old (p := ⟨w.heap.size + 1, 2, none⟩) (show w.heap.size + 1 < w2.heap.size by omega) z22
  have zA3 := frozen_alloc_old (p := ⟨w.heap.size + 1, 3, none⟩) (show w.heap.size + 1 < w2.heap.size by omega) z23
  have zA4 := frozen_alloc_old (p := ⟨w.heap.size + 1, 4, none⟩) (show w.heap.size + 1 < w2.heap.size by omega) z24
  have n1 : ¬ w.heap.size = w2.heap.size := by omega
  have n2 : ¬ w.heap.size + 1 = w2.heap.size := by omega
  have n3 : ¬ w2.heap.size = w.heap.size := by omega
  have n4 : ¬ w2.heap.size = w.heap.size + 1 := by omega
  have hbw := hb.trans (hbe.mono (by omega))
  clear k0 k1 k2 k3 k4 r0 r1 r2 r3 r4 z0 z1 z2 z3 z4
  go_wp2_with fail
  exact bodyPost_ret (v := .tuple #[st5 a round c d (e + 1), .nilIface]) (by simp [results, Tryd.results46, go_sem, rA0, rA1, rA2, rA3, rA4]) rfl ⟨rfl, below_five (hbw.alloc (by omega) _) (by omega) _ _ _ _ _⟩
set_option maxHeartbeats 1000000 in
set_option maxRecDepth 100000 in
theorem vote_ok1b (A : List Addr) (a b c d e epoch round q g : Int) (w : World) (h : Sents G18 132 A w) (hB : beginC a b c d e epoch round = 0) (hq0 : 0 ≤ q) (hq1 : q < round) (hb2 : b < round) (hc : c ≤ q) (he : e < 32) (hg : g ≤ q) (hgc : c < g) :
    Calls Tryd.prog 46 #[st5 a b c d e, .int .i64 epoch, .int .i64 round, .int .i64 q, .int .i64 g] w fun r w' => r = .returned (.tuple #[st5 a round g d (e + 1), .nilIface]) ∧ Below w.heap.size w w' := by
  have HS := Lib.hid h
  have HB : Hid (errV A (beginC a b c d e epoch round) = .nilIface) := by rw [hB]; rfl
  obtain ⟨hR, hE, hr1, hr2⟩ := begin_zero hB
  obtain ⟨⟨a0, a1⟩, ⟨b0, b1⟩, ⟨c0, c1⟩, ⟨d0, d1⟩, ⟨e0, e1⟩⟩ := hR
  clear h hB hE
  have he2 : 0 ≤ e := e0
  go_enter Tryd.func46, Tryd.ntmps46
  go_wp2_with fail
  refine (begin_any A a b c d e epoch round _ (HS.out.later (((Below.refl w.heap.size w).alloc (Nat.le_refl _) _).alloc (by simp) _))).mono ?_
  rintro r w1 ⟨rfl, hb1⟩
  have hs1 := Lib.hid ((HS.out.later (((Below.refl w.heap.size w).alloc (Nat.le_refl _) _).alloc (by simp) _)).later hb1)
  have hb := (((Below.refl w.heap.size w).alloc (Nat.le_refl _) _).alloc (by simp) _).trans (hb1.mono (by simp; omega))
  obtain ⟨⟨k0, k1, k2, k3, k4⟩, ⟨r0, r1, r2, r3, r4⟩, ⟨z0, z1, z2, z3, z4⟩⟩ := box2 hb1
  have hz1 := hb1.size
  simp only [World.size_alloc] at hz1
  rw [HB.out]
  go_wp2_with fail
  refine (end_ok a b c d e _ he2 he).mono ?_
  rintro r w2 ⟨rfl, hbe⟩
  have k20 := (hbe.cell (p := ⟨w.heap.size, 0, none⟩) (by simp; omega)).trans k0
  have k21 := (hbe.cell (p := ⟨w.heap.size, 1, none⟩) (by simp; omega)).trans k1
  have k22 := (hbe.cell (p := ⟨w.heap.size, 2, none⟩) (by simp; omega)).trans k2
  have k23 := (hbe.cell (p := ⟨w.heap.size, 3, none⟩) (by simp; omega)).trans k3
  have k24 := (hbe.cell (p := ⟨w.heap.size, 4, none⟩) (by simp; omega)).trans k4
  have r20 := (hbe.cell (p := ⟨w.heap.size + 1, 0, none⟩) (by simp; omega)).trans r0
  have r21 := (hbe.cell (p := ⟨w.heap.size + 1, 1, none⟩) (by simp; omega)).trans r1
  have r22 := (hbe.cell (p := ⟨w.heap.size + 1, 2, none⟩) (by simp; omega)).trans r2
  have r23 := (hbe.cell (p := ⟨w.heap.size + 1, 3, none⟩) (by simp; omega)).trans r3
  have r24 := (hbe.cell (p := ⟨w.heap.size + 1, 4, none⟩) (by simp; omega)).trans r4
  have z20 := (hbe.frozen (p := ⟨w.heap.size + 1, 0, none⟩) (by simp; omega)).trans z0
  have z21 := (hbe.frozen (p := ⟨w.heap.size + 1, 1, none⟩) (by simp; omega)).trans z1
  have z22 := (hbe.frozen (p := ⟨w.heap.size + 1, 2, none⟩) (by simp; omega)).trans z2
  have z23 := (hbe.frozen (p := ⟨w.heap.size + 1, 3, none⟩) (by simp; omega)).trans z3
  have z24 := (hbe.frozen (p := ⟨w.heap.size + 1, 4, none⟩) (by simp; omega)).trans z4
  have hz2 : w.heap.size + 2 ≤ w2.heap.size := by have := hbe.size; omega
  have kA0 := cell_alloc_old k20
  have kA1 := cell_alloc_old k21
  have kA2 := cell_alloc_old k22
  have kA3 := cell_alloc_old k23
  have kA4 := cell_alloc_old k24
  have rA0 := cell_alloc_old r20
  have rA1 := cell_alloc_old r21
  have rA2 := cell_alloc_old r22
  have rA3 := cell_alloc_old r23
  have rA4 := cell_alloc_old r24
  have zA0 := frozen_alloc_old (p := ⟨w.heap.size + 1, 0, none⟩) (show w.heap.size + 1 < w2.heap.size by omega) z20
  have zA1 := frozen_alloc_old (p := ⟨w.heap.size + 1, 1, none⟩) (show w.heap.size + 1 < w2.heap.size by omega) z21
  have zA2 := frozen_alloc_old (p := ⟨w.heap.size + 1, 2, none⟩) (show w.heap.size + 1 < w2.heap.size by omega) z22
  have zA3 := frozen_alloc_old (p := ⟨w.heap.size + 1, 3, none⟩) (show w.heap.size + 1 < w2.heap.size by omega) z23
  have zA4 := frozen_alloc_old (p := ⟨w.heap.size + 1, 4, none⟩) (show w.heap.size + 1 < w2.heap.size by omega) z24
  have n1 : ¬ w.heap.size = w2.heap.size := by omega
  have n2 : ¬ w.heap.size + 1 = w2.heap.size := by omega
  have n3 : ¬ w2.heap.size = w.heap.size := by omega
  have n4 : ¬ w2.heap.size = w.heap.size + 1 := by omega
  have hbw := hb.trans (hbe.mono (by omega))
  clear k0 k1 k2 k3 k4 r0 r1 r2 r3 r4 z0 z1 z2 z3 z4
  go_wp2_with fail
  exact bodyPost_ret (v := .tuple #[st5 a round g d (e + 1), .nilIface]) (by simp [results, Tryd.results46, go_sem, rA0, rA1, rA2, rA3, rA4]) rfl ⟨rfl, below_five (hbw.alloc (by omega) _) (by omega) _ _ _ _ _⟩
set_option maxHeartbeats 1000000 in
set_option maxRecDepth 100000 in
theorem vote_ok2 (A : List Addr) (a b c d e epoch round q g : Int) (w : World) (h : Sents G18 132 A w) (hB : beginC a b c d e epoch round = 0) (hq0 : 0 ≤ q) (hq1 : q < round) (hb2 : b < round) (hc : c ≤ q) (he : e < 32) (hg : q < g) :
    Calls Tryd.prog 46 #[st5 a b c d e, .int .i64 epoch, .int .i64 round, .int .i64 q, .int .i64 g] w fun r w' => r = .returned (.tuple #[st5 a round c d (e + 1), .nilIface]) ∧ Below w.heap.size w w' := by
  have HS := Lib.hid h
  have HB : Hid (errV A (beginC a b c d e epoch round) = .nilIface) := by rw [hB]; rfl
  obtain ⟨hR, hE, hr1, hr2⟩ := begin_zero hB
  obtain ⟨⟨a0, a1⟩, ⟨b0, b1⟩, ⟨c0, c1⟩, ⟨d0, d1⟩, ⟨e0, e1⟩⟩ := hR
  clear h hB hE
  have he2 : 0 ≤ e := e0
  go_enter Tryd.func46, Tryd.ntmps46
  go_wp2_with fail
  refine (begin_any A a b c d e epoch round _ (HS.out.later (((Below.refl w.heap.size w).alloc (Nat.le_refl _) _).alloc (by simp) _))).mono ?_
  rintro r w1 ⟨rfl, hb1⟩
  have hs1 := Lib.hid ((HS.out.later (((Below.refl w.heap.size w).alloc (Nat.le_refl _) _).alloc (by simp) _)).later hb1)
  have hb := (((Below.refl w.heap.size w).alloc (Nat.le_refl _) _).alloc (by simp) _).trans (hb1.mono (by simp; omega))
  obtain ⟨⟨k0, k1, k2, k3, k4⟩, ⟨r0, r1, r2, r3, r4⟩, ⟨z0, z1, z2, z3, z4⟩⟩ := box2 hb1
  have hz1 := hb1.size
  simp only [World.size_alloc] at hz1
  rw [HB.out]
  go_wp2_with fail
  refine (end_ok a b c d e _ he2 he).mono ?_
  rintro r w2 ⟨rfl, hbe⟩
  have k20 := (hbe.cell (p := ⟨w.heap.size, 0, none⟩) (by simp; omega)).trans k0
  have k21 := (hbe.cell (p := ⟨w.heap.size, 1, none⟩) (by simp; omega)).trans k1
  have k22 := (hbe.cell (p := ⟨w.heap.size, 2, none⟩) (by simp; omega)).trans k2
  have k23 := (hbe.cell (p := ⟨w.heap.size, 3, none⟩) (by simp; omega)).trans k3
  have k24 := (hbe.cell (p := ⟨w.heap.size, 4, none⟩) (by simp; omega)).trans k4
  have r20 := (hbe.cell (p := ⟨w.heap.size + 1, 0, none⟩) (by simp; omega)).trans r0
  have r21 := (hbe.cell (p := ⟨w.heap.size + 1, 1, none⟩) (by simp; omega)).trans r1
  have r22 := (hbe.cell (p := ⟨w.heap.size + 1, 2, none⟩) (by simp; omega)).trans r2
  have r23 := (hbe.cell (p := ⟨w.heap.size + 1, 3, none⟩) (by simp; omega)).trans r3
  have r24 := (hbe.cell (p := ⟨w.heap.size + 1, 4, none⟩) (by simp; omega)).trans r4
  have z20 := (hbe.frozen (p := ⟨w.heap.size + 1, 0, none⟩) (by simp; omega)).trans z0
  have z21 := (hbe.frozen (p := ⟨w.heap.size + 1, 1, none⟩) (by simp; omega)).trans z1
  have z22 := (hbe.frozen (p := ⟨w.heap.size + 1, 2, none⟩) (by simp; omega)).trans z2
  have z23 := (hbe.frozen (p := ⟨w.heap.size + 1, 3, none⟩) (by simp; omega)).trans z3
  have z24 := (hbe.frozen (p := ⟨w.heap.size + 1, 4, none⟩) (by simp; omega)).trans z4
  have hz2 : w.heap.size + 2 ≤ w2.heap.size := by have := hbe.size; omega
  have kA0 := cell_alloc_old k20
  have kA1 := cell_alloc_old k21
  have kA2 := cell_alloc_old k22
  have kA3 := cell_alloc_old k23
  have kA4 := cell_alloc_old k24
  have rA0 := cell_alloc_old r20
  have rA1 := cell_alloc_old r21
  have rA2 := cell_alloc_old r22
  have rA3 := cell_alloc_old r23
  have rA4 := cell_alloc_old r24
  have zA0 := frozen_alloc_old (p := ⟨w.heap.size + 1, 0, none⟩) (show w.heap.size + 1 < w2.heap.size by omega) z20
  have zA1 := frozen_alloc_old (p := ⟨w.heap.size + 1, 1, none⟩) (show w.heap.size + 1 < w2.heap.size by omega) z21
  have zA2 := frozen_alloc_old (p := ⟨w.heap.size + 1, 2, none⟩) (show w.heap.size + 1 < w2.heap.size by omega) z22
  have zA3 := frozen_alloc_old (p := ⟨w.heap.size + 1, 3, none⟩) (show w.heap.size + 1 < w2.heap.size by omega) z23
  have zA4 := frozen_alloc_old (p := ⟨w.heap.size + 1, 4, none⟩) (show w.heap.size + 1 < w2.heap.size by omega) z24
  have n1 : ¬ w.heap.size = w2.heap.size := by omega
  have n2 : ¬ w.heap.size + 1 = w2.heap.size := by omega
  have n3 : ¬ w2.heap.size = w.heap.size := by omega
  have n4 : ¬ w2.heap.size = w.heap.size + 1 := by omega
  have hbw := hb.trans (hbe.mono (by omega))
  clear k0 k1 k2 k3 k4 r0 r1 r2 r3 r4 z0 z1 z2 z3 z4
  go_wp2_with fail
  exact bodyPost_ret (v := .tuple #[st5 a round c d (e + 1), .nilIface]) (by simp [results, Tryd.results46, go_sem, rA0, rA1, rA2, rA3, rA4]) rfl ⟨rfl, below_five (hbw.alloc (by omega) _) (by omega) _ _ _ _ _⟩

end Go.Proofs.YtadonpfpneanhaaDoor
