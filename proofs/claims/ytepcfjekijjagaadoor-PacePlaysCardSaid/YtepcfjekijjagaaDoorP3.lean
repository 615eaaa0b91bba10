/- The walk of PacePlays: it answers true at every round and every script. -/
import Derived.Test.YtepcfjekijjagaaDoorP2
import Derived.Test.YtepcfjekijjagaaDoorX1
namespace Go.Proofs.YtepcfjekijjagaaDoor
open Go.RowKit

set_option maxHeartbeats 1000000 in
set_option maxRecDepth 100000 in
theorem pacePlays_long (A : List Addr) (w : World) (h : Sents G18 78 A w) (round : Int) (a : Option Addr) (len cap : Nat) (_hlc : len ≤ cap) (_hcm : cap ≤ 9223372036854775807) (hlen : 100 < len) :
    Calls Tryd.prog 10 #[.int .i64 round, .slice a len cap] w fun e w' => e = .returned (.bool true) ∧ Below w.heap.size w w' := by
  obtain ⟨a0, h0⟩ := sent_at h 0 (by omega)
  obtain ⟨a1, h1⟩ := sent_at h 13 (by omega)
  have he := errs2_18 h h0 h1
  have hz := lt_of_cell he.e1
  clear h h0 h1
  go_enter Tryd.func10, Tryd.ntmps10
  go_wp2_with fail
  refine (alive16 _ _ _ _ w he hz).mono ?_
  rintro e w1 ⟨rfl, b1⟩
  go_wp2_with fail
  go_ret
  exact ⟨rfl, b1⟩

set_option maxHeartbeats 1000000 in
set_option maxRecDepth 100000 in
theorem pacePlays_bad (A : List Addr) (w : World) (h : Sents G18 78 A w) (round : Int) (a : Option Addr) (len cap : Nat) (_hlc : len ≤ cap) (_hcm : cap ≤ 9223372036854775807) (hlen : len ≤ 100) (hr : round < 1 ∨ 1099511627776 < round) :
    Calls Tryd.prog 10 #[.int .i64 round, .slice a len cap] w fun e w' => e = .returned (.bool true) ∧ Below w.heap.size w w' := by
  obtain ⟨a0, h0⟩ := sent_at h 0 (by omega)
  obtain ⟨a1, h1⟩ := sent_at h 13 (by omega)
  have he := errs2_18 h h0 h1
  have hz := lt_of_cell he.e1
  have HS := Lib.hid h
  have H1 := Lib.hid h1
  clear h h0 h1
  rcases hr with hr | hr
  all_goals
    go_enter Tryd.func10, Tryd.ntmps10
    go_wp2_with fail
    refine (alive16 _ _ _ _ w he hz).mono ?_
    rintro e w1 ⟨rfl, b1⟩
    have hs1 := HS.out.later b1
    have hc := (b1.cell (p := ⟨1, 0, none⟩) hz).trans he.e1
    go_wp2_with fail
    refine (new_err round _ _ hc (by omega)).mono ?_
    rintro e w2 ⟨rfl, n, rfl⟩
    go_wp2_with fail
    refine (num_at A _ (hs1.drewN n) 13 a1 H1.out).mono ?_
    rintro e w3 ⟨rfl, b3⟩
    go_wp2_with fail
    go_ret
    exact ⟨rfl, b1.trans (((below_drewN_self _ _ n).trans b3).mono b1.size)⟩

set_option maxHeartbeats 2000000 in
set_option maxRecDepth 100000 in
theorem pacePlays_good (A : List Addr) (w : World) (h : Sents G18 78 A w) (round : Int) (a : Option Addr) (len cap : Nat) (z : Nat → Nat → Int) (hi : StructsAt 2 w a len cap z) (hlen : len ≤ 100) (hr1 : 1 ≤ round) (hr2 : round ≤ 1099511627776) :
    Calls Tryd.prog 10 #[.int .i64 round, .slice a len cap] w fun e w' => e = .returned (.bool true) ∧ Below w.heap.size w w' := by
  obtain ⟨hlc, hcm, hwf, hcells⟩ := hi
  unfold maxLen at hcm
  obtain ⟨a0, h0⟩ := sent_at h 0 (by omega)
  obtain ⟨a1, h1⟩ := sent_at h 13 (by omega)
  have he := errs2_18 h h0 h1
  have hz := lt_of_cell he.e1
  have HS := Lib.hid h
  have H0 := Lib.hid h0
  have H1 := Lib.hid h1
  have HC := Lib.hid hcells
  clear h h0 h1 hcells hwf
  go_enter Tryd.func10, Tryd.ntmps10
  go_wp2_with fail
  refine (alive16 _ _ _ _ w he hz).mono ?_
  rintro e w1 ⟨rfl, b1⟩
  have hs1 := HS.out.later b1
  go_wp2_with fail
  refine (new_any round _ hr1 hr2).mono ?_
  rintro e w2 ⟨rfl, p2, b2⟩
  go_wp2_with fail
  have b13 : Below w1.heap.size w1 (w2.alloc (.cells #[.int .i64 round, .int .i64 0, .int .i64 0] 49)) := b2.alloc b2.size _
  have b23 : Below w2.heap.size w2 (w2.alloc (.cells #[.int .i64 round, .int .i64 0, .int .i64 0] 49)) := (Below.refl _ _).alloc (Nat.le_refl _) _
  have hlt12 := p2.lt
  have p3 := p2.below b23 hlt12
  have m3 : PaceAt (w2.alloc (.cells #[.int .i64 round, .int .i64 0, .int .i64 0] 49)) w2.heap.size round 0 0 := by
    refine ⟨?_, ?_, ?_, ?_, ?_, ?_⟩ <;> go_simp
  obtain ⟨B1, hB1⟩ : ∃ B, B = w1.heap.size := ⟨_, rfl⟩
  obtain ⟨B2, hB2⟩ : ∃ B, B = w2.heap.size := ⟨_, rfl⟩
  obtain ⟨w3, hw3⟩ : ∃ w3, w3 = w2.alloc (.cells #[.int .i64 round, .int .i64 0, .int .i64 0] 49) := ⟨_, rfl⟩
  have hcells1 : 0 < len → ∃ b off, a = some ⟨b, off, none⟩ ∧ b < B1 ∧ ∀ i j, i < len → j < 2 → w1.cell? ⟨b, off + (i * 2 + j), none⟩ = some (.int .i64 (z i j)) := fun hp => by
    obtain ⟨b, off, e1, e2, e3⟩ := HC.out hp
    have := b1.size
    exact ⟨b, off, e1, by omega, fun i j hi hj => (b1.cell (p := ⟨b, off + (i * 2 + j), none⟩) e2).trans (e3 i j hi hj)⟩
  have HC1 := Lib.hid hcells1
  have hz1 : 2 ≤ B1 := by have := b1.size; omega
  have HB : Hid (∀ W, Below B1 w1 W → Sents G18 78 A W) := fun W hW => hs1.later (hB1 ▸ hW)
  have hbw : Below w.heap.size w w1 ∧ w.heap.size ≤ B1 := ⟨b1, by have := b1.size; omega⟩
  rw [← hB1] at p2 b2 b13 hlt12 p3 ⊢
  rw [← hB2] at b23 hlt12 m3 ⊢
  rw [← hw3] at b13 b23 p3 m3 ⊢
  clear HC hcells1 hs1 b1 p2 b2 b23 hB1 hB2 hw3 he hz HS
  go_loopw [53] (fun i wr => ∃ (k : Nat) (r f t : Int), k ≤ len ∧ i = .int .i64 k ∧ 0 ≤ f ∧ f ≤ k ∧ 0 ≤ t ∧ t ≤ 100 ∧ PaceAt wr B1 r f t ∧ PaceAt wr B2 r f t ∧ Below B1 w1 wr)
    (fun i _ => len - (intOf i).toNat)
  case atStart => exact ⟨0, round, 0, 0, by omega, rfl, by omega, by omega, by omega, by omega, p3, m3, b13⟩
  case round =>
    obtain ⟨k, r, f, t, hk, rfl, hf0, hfk, ht0, ht1, hp, hm, hbb⟩ := hrel
    by_cases hlt : k < len
    · obtain ⟨bs, off, rfl, hbs, hcs⟩ := HC1.out (by omega)
      have k0 : wr.cell? ⟨bs, off + k * 2, none⟩ = some (.int .i64 (z k 0)) := (hbb.cell (p := ⟨bs, off + (k * 2 + 0), none⟩) hbs).trans (hcs k 0 hlt (by omega))
      have k1 : wr.cell? ⟨bs, off + k * 2 + 1, none⟩ = some (.int .i64 (z k 1)) := (hbb.cell (p := ⟨bs, off + (k * 2 + 1), none⟩) hbs).trans (hcs k 1 hlt (by omega))
      clear hcs
      by_cases e1 : z k 0 = 1
      · have hk1 : (z k 0 == 1) = true := by simpa using e1
        clear e1
        go_wp2_with fail
        have hW : Below wr.heap.size wr (wr.alloc (.cells #[.int .i64 (z k 0), .int .i64 (z k 1)] 51)) := (Below.refl _ _).alloc (Nat.le_refl _) _
        have k1' : (wr.alloc (.cells #[.int .i64 (z k 0), .int .i64 (z k 1)] 51)).cell? ⟨wr.heap.size, 1, none⟩ = some (.int .i64 (z k 1)) := by rw [cell_new_at]; rfl
        obtain ⟨W0, hW0⟩ : ∃ W0, W0 = wr.alloc (.cells #[.int .i64 (z k 0), .int .i64 (z k 1)] 51) := ⟨_, rfl⟩
        rw [← hW0] at hW k1' ⊢
        clear hW0 k0 k1
        have l1 := hp.lt
        have l2 := hm.lt
        have l3 := lt_of_cell k1'
        simp only at l3
        have hwW : Below B1 w1 W0 := hbb.trans (hW.mono (by omega))
        refine (pQC_any a0 a1 B1 r f t _ W0 (hp.below hW l1) (errs2_18 (HB.out W0 hwW) H0.out H1.out)).mono ?_
        rintro e w4 ⟨yes, code, r4, f4, t4, rfl, hq, hp4, ho4⟩
        have k4 := (ho4.cell (p := ⟨wr.heap.size, 1, none⟩) (by simp; omega) l3).trans k1'
        have hm4 := (hm.below hW l2).only ho4 (by omega)
        go_wp2_with fail
        refine (rQC_any B2 r f t _ w4 hm4).mono ?_
        rintro e w5 ⟨yes5, code5, r5, f5, t5, rfl, hq5, hm5, ho5⟩
        obtain ⟨rfl, rfl, rfl, rfl, rfl⟩ := hq.unique hq5
        have hp5 := hp4.only ho5 (by omega)
        have b45 := (ho4.below (B := B1) (by omega) (by omega)).trans (ho5.below (B := B1) (by omega) (by have := ho4.size; omega))
        obtain ⟨hc, hf5, ht5⟩ := hq.bounds
        have hw5 := hwW.trans b45
        go_wp2_with fail
        refine (num_err A w5 (HB.out w5 hw5) a0 a1 H0.out H1.out _ hc).mono ?_
        rintro e w6 ⟨rfl, b6⟩
        have hp6 := hp5.below b6 hp5.lt
        have hm6 := hm5.below b6 hm5.lt
        have hw6 := hw5.trans (b6.mono (by have := hp5.lt; omega))
        clear hq hq5 hp hm hp4 hm4 hp5 hm5 ho4 ho5 b45 hbb hwW hW k1' k4 b6 hw5
        go_wp2_with fail
        have wi := waitOf_in f5
        obtain ⟨mc0, mc1, mc2, mz0, mz1, mz2⟩ := hm6
        go_quiet ((first
          | (go_at_call 18; exact Calls.quiet_of_same ((round_any _ _ _ _ _ (hp6.drewN _)).mono fun e w' ⟨x, y⟩ => ⟨x, y.symm⟩))
          | (go_at_call 21; exact Calls.quiet_of_same ((fails_any _ _ _ _ _ (hp6.drewN _)).mono fun e w' ⟨x, y⟩ => ⟨x, y.symm⟩))
          | (go_at_call 19; exact Calls.quiet_of (left_any _ _ _ _ _ (hp6.drewN _) (by omega) (by omega) (by omega)))
          | (go_at_call 25; exact Calls.quiet_of_same ((refWait_any _ _).mono fun e w' ⟨x, y⟩ => ⟨x, y.symm⟩))))
        have hm7 : PaceAt w6 B2 r5 f5 t5 := ⟨mc0, mc1, mc2, mz0, mz1, mz2⟩
        go_wp2_with fail
        go_roundw
        case rel => first | exact ⟨k + 1, r5, f5, t5, by omega, by go_num, by omega, by omega, by omega, by omega, hp6.drewN _, hm7.drewN _, hw6.trans (below_drewN_self _ _ _)⟩ | ((repeat apply Exists.intro); exact ⟨⟨k + 1, r5, f5, t5, by omega, rfl, by omega, by omega, by omega, by omega, hp6.drewN _, hm7.drewN _, hw6.trans (below_drewN_self _ _ _)⟩, rfl⟩)
        case measure => simp [intOf]; omega
      have hk1 : (z k 0 == 1) = false := by simpa using e1
      clear e1
      by_cases e2 : z k 0 = 2
      · have hk2 : (z k 0 == 2) = true := by simpa using e2
        clear e2
        go_wp2_with fail
        have hW : Below wr.heap.size wr (wr.alloc (.cells #[.int .i64 (z k 0), .int .i64 (z k 1)] 51)) := (Below.refl _ _).alloc (Nat.le_refl _) _
        have k1' : (wr.alloc (.cells #[.int .i64 (z k 0), .int .i64 (z k 1)] 51)).cell? ⟨wr.heap.size, 1, none⟩ = some (.int .i64 (z k 1)) := by rw [cell_new_at]; rfl
        obtain ⟨W0, hW0⟩ : ∃ W0, W0 = wr.alloc (.cells #[.int .i64 (z k 0), .int .i64 (z k 1)] 51) := ⟨_, rfl⟩
        rw [← hW0] at hW k1' ⊢
        clear hW0 k0 k1
        have l1 := hp.lt
        have l2 := hm.lt
        have l3 := lt_of_cell k1'
        simp only at l3
        have hwW : Below B1 w1 W0 := hbb.trans (hW.mono (by omega))
        refine (pTC_any a0 a1 B1 r f t _ W0 (hp.below hW l1) (errs2_18 (HB.out W0 hwW) H0.out H1.out) (by omega) (by omega)).mono ?_
        rintro e w4 ⟨yes, code, r4, f4, t4, rfl, hq, hp4, ho4⟩
        have k4 := (ho4.cell (p := ⟨wr.heap.size, 1, none⟩) (by simp; omega) l3).trans k1'
        have hm4 := (hm.below hW l2).only ho4 (by omega)
        go_wp2_with fail
        refine (rTC_any B2 r f t _ w4 hm4 (by omega) (by omega)).mono ?_
        rintro e w5 ⟨yes5, code5, r5, f5, t5, rfl, hq5, hm5, ho5⟩
        obtain ⟨rfl, rfl, rfl, rfl, rfl⟩ := hq.unique hq5
        have hp5 := hp4.only ho5 (by omega)
        have b45 := (ho4.below (B := B1) (by omega) (by omega)).trans (ho5.below (B := B1) (by omega) (by have := ho4.size; omega))
        obtain ⟨hc, hf5, ht5⟩ := hq.bounds
        have hw5 := hwW.trans b45
        go_wp2_with fail
        refine (num_err A w5 (HB.out w5 hw5) a0 a1 H0.out H1.out _ hc).mono ?_
        rintro e w6 ⟨rfl, b6⟩
        have hp6 := hp5.below b6 hp5.lt
        have hm6 := hm5.below b6 hm5.lt
        have hw6 := hw5.trans (b6.mono (by have := hp5.lt; omega))
        clear hq hq5 hp hm hp4 hm4 hp5 hm5 ho4 ho5 b45 hbb hwW hW k1' k4 b6 hw5
        go_wp2_with fail
        have wi := waitOf_in f5
        obtain ⟨mc0, mc1, mc2, mz0, mz1, mz2⟩ := hm6
        go_quiet ((first
          | (go_at_call 18; exact Calls.quiet_of_same ((round_any _ _ _ _ _ (hp6.drewN _)).mono fun e w' ⟨x, y⟩ => ⟨x, y.symm⟩))
          | (go_at_call 21; exact Calls.quiet_of_same ((fails_any _ _ _ _ _ (hp6.drewN _)).mono fun e w' ⟨x, y⟩ => ⟨x, y.symm⟩))
          | (go_at_call 19; exact Calls.quiet_of (left_any _ _ _ _ _ (hp6.drewN _) (by omega) (by omega) (by omega)))
          | (go_at_call 25; exact Calls.quiet_of_same ((refWait_any _ _).mono fun e w' ⟨x, y⟩ => ⟨x, y.symm⟩))))
        have hm7 : PaceAt w6 B2 r5 f5 t5 := ⟨mc0, mc1, mc2, mz0, mz1, mz2⟩
        go_wp2_with fail
        go_roundw
        case rel => first | exact ⟨k + 1, r5, f5, t5, by omega, by go_num, by omega, by omega, by omega, by omega, hp6.drewN _, hm7.drewN _, hw6.trans (below_drewN_self _ _ _)⟩ | ((repeat apply Exists.intro); exact ⟨⟨k + 1, r5, f5, t5, by omega, rfl, by omega, by omega, by omega, by omega, hp6.drewN _, hm7.drewN _, hw6.trans (below_drewN_self _ _ _)⟩, rfl⟩)
        case measure => simp [intOf]; omega
      have hk2 : (z k 0 == 2) = false := by simpa using e2
      clear e2
      by_cases e3 : z k 0 = 3
      · have hk3 : (z k 0 == 3) = true := by simpa using e3
        clear e3
        go_wp2_with fail
        have hW : Below wr.heap.size wr (wr.alloc (.cells #[.int .i64 (z k 0), .int .i64 (z k 1)] 51)) := (Below.refl _ _).alloc (Nat.le_refl _) _
        have k1' : (wr.alloc (.cells #[.int .i64 (z k 0), .int .i64 (z k 1)] 51)).cell? ⟨wr.heap.size, 1, none⟩ = some (.int .i64 (z k 1)) := by rw [cell_new_at]; rfl
        obtain ⟨W0, hW0⟩ : ∃ W0, W0 = wr.alloc (.cells #[.int .i64 (z k 0), .int .i64 (z k 1)] 51) := ⟨_, rfl⟩
        rw [← hW0] at hW k1' ⊢
        clear hW0 k0 k1
        have l1 := hp.lt
        have l2 := hm.lt
        have l3 := lt_of_cell k1'
        simp only at l3
        have hwW : Below B1 w1 W0 := hbb.trans (hW.mono (by omega))
        obtain ⟨N, hN, hN40⟩ := small_mod (z k 1) 40 (by omega) (by omega)
        rw [hN]
        clear hN
        have hpW := hp.below hW l1
        have hmW := hm.below hW l2
        clear hp hm hbb hW k1'
        go_loopw [10, 116] (fun ok j ws => ∃ (i : Nat) (s : Int), i ≤ N ∧ j = .int .i64 i ∧ ok = .bool true ∧ 0 ≤ s ∧ s ≤ 100 ∧ PaceAt ws B1 r f s ∧ PaceAt ws B2 r f s ∧ Below B1 w1 ws)
          (fun _ j _ => N - (intOf j).toNat)
        case atStart => exact ⟨0, t, by omega, rfl, rfl, by omega, by omega, hpW, hmW, hwW⟩
        case round =>
          obtain ⟨i, s, hi, rfl, rfl, hs0, hs1, hp, hm, hbb⟩ := hrel
          have wi := waitOf_in f
          by_cases hin : i < N
          · go_wp2_with fail
            refine (ptick_any B1 r f s _ hp (by omega) (by omega) (by omega)).mono ?_
            rintro e w4 ⟨yes, t4, rfl, hq, hp4, ho4⟩
            have hm4 := hm.only ho4 (by omega)
            go_wp2_with fail
            refine (rtick_any B2 r f s w4 hm4 (by omega) (by omega)).mono ?_
            rintro e w5 ⟨yes5, t5, rfl, hq5, hm5, ho5⟩
            obtain ⟨rfl, rfl⟩ := hq.unique hq5
            have hp5 := hp4.only ho5 (by omega)
            have l4 := hp.lt
            have b45 := (ho4.below (B := B1) (by omega) (by omega)).trans (ho5.below (B := B1) (by omega) (by have := ho4.size; omega))
            have hb := hq.bounds
            have hw5 := hbb.trans b45
            clear hq hq5
            go_wp2_with fail
            go_roundw
            case rel => first | exact ⟨i + 1, t5, by omega, by go_num, rfl, by omega, by omega, hp5, hm5, hw5⟩ | ((repeat apply Exists.intro); exact ⟨⟨i + 1, t5, by omega, rfl, by simp, by omega, by omega, hp5, hm5, hw5⟩, rfl⟩)
            case measure => simp [intOf]; omega
          · obtain ⟨w6, rfl⟩ : ∃ w6, w6 = wr := ⟨_, rfl⟩
            obtain ⟨r5, rfl⟩ : ∃ r5, r5 = r := ⟨_, rfl⟩
            obtain ⟨f5, rfl⟩ : ∃ f5, f5 = f := ⟨_, rfl⟩
            obtain ⟨t5, rfl⟩ : ∃ t5, t5 = s := ⟨_, rfl⟩
            have hp6 := hp
            have hm6 := hm
            have hw6 := hbb
            clear hp hm hbb
            go_wp2_with fail
            have wi5 := waitOf_in f5
            obtain ⟨mc0, mc1, mc2, mz0, mz1, mz2⟩ := hm6
            go_quiet ((first
              | (go_at_call 18; exact Calls.quiet_of_same ((round_any _ _ _ _ _ (hp6.drewN _)).mono fun e w' ⟨x, y⟩ => ⟨x, y.symm⟩))
              | (go_at_call 21; exact Calls.quiet_of_same ((fails_any _ _ _ _ _ (hp6.drewN _)).mono fun e w' ⟨x, y⟩ => ⟨x, y.symm⟩))
              | (go_at_call 19; exact Calls.quiet_of (left_any _ _ _ _ _ (hp6.drewN _) (by omega) (by omega) (by omega)))
              | (go_at_call 25; exact Calls.quiet_of_same ((refWait_any _ _).mono fun e w' ⟨x, y⟩ => ⟨x, y.symm⟩))))
            have hm7 : PaceAt w6 B2 r5 f5 t5 := ⟨mc0, mc1, mc2, mz0, mz1, mz2⟩
            go_wp2_with fail
            go_roundw
            case rel => first | exact ⟨k + 1, r5, f5, t5, by omega, by go_num, by omega, by omega, by omega, by omega, hp6.drewN _, hm7.drewN _, hw6.trans (below_drewN_self _ _ _)⟩ | ((repeat apply Exists.intro); exact ⟨⟨k + 1, r5, f5, t5, by omega, rfl, by omega, by omega, by omega, by omega, hp6.drewN _, hm7.drewN _, hw6.trans (below_drewN_self _ _ _)⟩, rfl⟩)
            case measure => simp [intOf]; omega
      · have hk3 : (z k 0 == 3) = false := by simpa using e3
        clear e3
        go_wp2_with fail
        have hW : Below wr.heap.size wr (wr.alloc (.cells #[.int .i64 (z k 0), .int .i64 (z k 1)] 51)) := (Below.refl _ _).alloc (Nat.le_refl _) _
        have k1' : (wr.alloc (.cells #[.int .i64 (z k 0), .int .i64 (z k 1)] 51)).cell? ⟨wr.heap.size, 1, none⟩ = some (.int .i64 (z k 1)) := by rw [cell_new_at]; rfl
        obtain ⟨W0, hW0⟩ : ∃ W0, W0 = wr.alloc (.cells #[.int .i64 (z k 0), .int .i64 (z k 1)] 51) := ⟨_, rfl⟩
        rw [← hW0] at hW k1' ⊢
        clear hW0 k0 k1
        have l1 := hp.lt
        have l2 := hm.lt
        have l3 := lt_of_cell k1'
        simp only at l3
        have hwW : Below B1 w1 W0 := hbb.trans (hW.mono (by omega))
        obtain ⟨w6, rfl⟩ : ∃ w6, w6 = W0 := ⟨_, rfl⟩
        obtain ⟨r5, rfl⟩ : ∃ r5, r5 = r := ⟨_, rfl⟩
        obtain ⟨f5, rfl⟩ : ∃ f5, f5 = f := ⟨_, rfl⟩
        obtain ⟨t5, rfl⟩ : ∃ t5, t5 = t := ⟨_, rfl⟩
        have hp6 := hp.below hW l1
        have hm6 := hm.below hW l2
        have hw6 := hwW
        clear hp hm hbb hW k1' hwW
        have wi := waitOf_in f5
        obtain ⟨mc0, mc1, mc2, mz0, mz1, mz2⟩ := hm6
        go_quiet ((first
          | (go_at_call 18; exact Calls.quiet_of_same ((round_any _ _ _ _ _ (hp6.drewN _)).mono fun e w' ⟨x, y⟩ => ⟨x, y.symm⟩))
          | (go_at_call 21; exact Calls.quiet_of_same ((fails_any _ _ _ _ _ (hp6.drewN _)).mono fun e w' ⟨x, y⟩ => ⟨x, y.symm⟩))
          | (go_at_call 19; exact Calls.quiet_of (left_any _ _ _ _ _ (hp6.drewN _) (by omega) (by omega) (by omega)))
          | (go_at_call 25; exact Calls.quiet_of_same ((refWait_any _ _).mono fun e w' ⟨x, y⟩ => ⟨x, y.symm⟩))))
        have hm7 : PaceAt w6 B2 r5 f5 t5 := ⟨mc0, mc1, mc2, mz0, mz1, mz2⟩
        go_wp2_with fail
        go_roundw
        case rel => first | exact ⟨k + 1, r5, f5, t5, by omega, by go_num, by omega, by omega, by omega, by omega, hp6.drewN _, hm7.drewN _, hw6.trans (below_drewN_self _ _ _)⟩ | ((repeat apply Exists.intro); exact ⟨⟨k + 1, r5, f5, t5, by omega, rfl, by omega, by omega, by omega, by omega, hp6.drewN _, hm7.drewN _, hw6.trans (below_drewN_self _ _ _)⟩, rfl⟩)
        case measure => simp [intOf]; omega
    · go_wp2_with fail
      go_ret
      exact ⟨rfl, hbw.1.trans (hbb.mono hbw.2)⟩

end Go.Proofs.YtepcfjekijjagaaDoor
