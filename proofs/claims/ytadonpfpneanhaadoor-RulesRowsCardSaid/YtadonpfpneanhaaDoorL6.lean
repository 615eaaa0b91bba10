/- The walk of RulesRows: rows of steps answer as the document's; each state covers the one ahead, and one with a signature is not covered by it. -/
import Derived.Test.YtadonpfpneanhaaDoorR13
import Derived.Test.YtadonpfpneanhaaDoorL1
import Derived.Test.YtadonpfpneanhaaDoorX1
namespace Go.Proofs.YtadonpfpneanhaaDoor
open Go.RowKit

theorem covers_do (s : S5) (k ep ro q g : Int) : CoversP (doS s k ep ro q g) s := by
  obtain ⟨a, b, c, d, e⟩ := s
  have hself : CoversP (⟨a, b, c, d, e⟩ : S5) ⟨a, b, c, d, e⟩ := ⟨Int.le_refl _, Or.inr ⟨rfl, Int.le_refl _, Int.le_refl _, Int.le_refl _⟩⟩
  have hee : e ≤ e + 1 := by omega
  unfold doS
  split
  · unfold voteS
    split
    · rename_i hc
      unfold voteC at hc
      simp only at hc
      split at hc
      · omega
      split at hc
      · omega
      split at hc
      · omega
      split at hc
      · omega
      split at hc
      · omega
      refine ⟨hee, Or.inr ⟨rfl, (show b ≤ ro by omega), ?_, Int.le_refl _⟩⟩
      show c ≤ if g ≤ q then max c g else c
      split
      · exact Int.le_max_left _ _
      · exact Int.le_refl _
    · exact hself
  split
  · unfold lateS
    split
    · exact ⟨hee, Or.inr ⟨rfl, Int.le_max_left _ _, Int.le_refl _, Int.le_refl _⟩⟩
    · exact hself
  split
  · unfold proposeS
    split
    · rename_i hc
      unfold proposeC at hc
      simp only at hc
      split at hc
      · omega
      split at hc
      · omega
      split at hc
      · omega
      exact ⟨hee, Or.inr ⟨rfl, Int.le_refl _, Int.le_refl _, (show d ≤ ro by omega)⟩⟩
    · exact hself
  split
  · unfold enterS
    split
    · rename_i hc
      unfold enterC at hc
      simp only at hc
      split at hc
      · omega
      split at hc
      · omega
      exact ⟨Int.le_refl _, Or.inl (show a < ep by omega)⟩
    · exact hself
  exact hself

theorem right_do (s : S5) (k ep ro q g : Int) (h : RightP s.a s.b s.c s.d s.e) : RightP (doS s k ep ro q g).a (doS s k ep ro q g).b (doS s k ep ro q g).c (doS s k ep ro q g).d (doS s k ep ro q g).e := by
  obtain ⟨a, b, c, d, e⟩ := s
  simp only at h
  unfold doS
  split
  · unfold voteS
    split
    · rename_i hc
      unfold voteC at hc
      simp only at hc
      split at hc
      · omega
      rename_i hb
      have hb2 := Classical.not_not.1 hb
      unfold S5.begin at hb2
      simp only at hb2
      obtain ⟨hr, h1, h2⟩ := begin_zero hb2
      unfold RightP at *
      simp only
      split at hc
      · omega
      split at hc
      · omega
      split at hc
      · omega
      split at hc
      · omega
      split <;> omega
    · exact h
  split
  · unfold lateS
    split
    · rename_i hc
      unfold lateC at hc
      simp only at hc
      split at hc
      · omega
      rename_i hb
      have hb2 := Classical.not_not.1 hb
      unfold S5.begin at hb2
      simp only at hb2
      obtain ⟨hr, h1, h2⟩ := begin_zero hb2
      unfold RightP at *
      simp only
      split at hc
      · omega
      omega
    · exact h
  split
  · unfold proposeS
    split
    · rename_i hc
      unfold proposeC at hc
      simp only at hc
      split at hc
      · omega
      rename_i hb
      have hb2 := Classical.not_not.1 hb
      unfold S5.begin at hb2
      simp only at hb2
      obtain ⟨hr, h1, h2⟩ := begin_zero hb2
      unfold RightP at *
      simp only
      split at hc
      · omega
      split at hc
      · omega
      omega
    · exact h
  split
  · unfold enterS
    split
    · rename_i hc
      unfold enterC at hc
      simp only at hc
      unfold RightP at *
      simp only
      split at hc
      · omega
      split at hc
      · omega
      omega
    · exact h
  exact h

theorem not_back (s : S5) (k ep ro q g : Int) (h0 : doC s k ep ro q = 0) (h1 : 1 ≤ k) (h4 : k ≤ 4) : ¬ CoversP s (doS s k ep ro q g) := by
  obtain ⟨a, b, c, d, e⟩ := s
  unfold doC at h0
  unfold doS
  by_cases k1 : k = 1
  · rw [if_pos k1] at h0 ⊢
    unfold voteS
    rw [if_pos h0]
    unfold CoversP
    simp only
    omega
  rw [if_neg k1] at h0 ⊢
  by_cases k2 : k = 2
  · rw [if_pos k2] at h0 ⊢
    unfold lateS
    rw [if_pos h0]
    unfold CoversP
    simp only
    omega
  rw [if_neg k2] at h0 ⊢
  by_cases k3 : k = 3
  · rw [if_pos k3] at h0 ⊢
    unfold proposeS
    rw [if_pos h0]
    unfold CoversP
    simp only
    omega
  rw [if_neg k3] at h0 ⊢
  rw [if_pos (show k = 4 by omega)] at h0 ⊢
  unfold enterS
  rw [if_pos h0]
  unfold enterC at h0
  unfold CoversP
  simp only at h0 ⊢
  split at h0
  · omega
  split at h0
  · omega
  omega

set_option maxHeartbeats 1000000 in
set_option maxRecDepth 100000 in
theorem rulesRows_long (A : List Addr) (w : World) (h : Sents G18 132 A w) (a : Option Addr) (len cap : Nat) (_hlc : len ≤ cap) (_hcm : cap ≤ 9223372036854775807) (hlen : 100 < len) :
    Calls Tryd.prog 12 #[.slice a len cap] w fun e w' => e = .returned (.bool true) ∧ Below w.heap.size w w' := by
  go_enter Tryd.func12, Tryd.ntmps12
  go_wp2_with fail
  refine (alive13 A w h).mono ?_
  rintro e w1 ⟨rfl, b1⟩
  go_wp2_with fail
  go_ret
  exact ⟨rfl, b1⟩

set_option maxHeartbeats 4000000 in
set_option maxRecDepth 100000 in
theorem rulesRows_good (A : List Addr) (w : World) (h : Sents G18 132 A w) (a : Option Addr) (len cap : Nat) (z : Nat → Nat → Int) (hi : StructsAt 5 w a len cap z) (hlen : len ≤ 100) :
    Calls Tryd.prog 12 #[.slice a len cap] w fun e w' => e = .returned (.bool true) ∧ Below w.heap.size w w' := by
  obtain ⟨hlc, hcm, hwf, hcells⟩ := hi
  unfold maxLen at hcm
  have HB : Hid (∀ W', Below w.heap.size w W' → Sents G18 132 A W') := fun W' hW => h.later hW
  have HC := Lib.hid hcells
  clear hcells hwf
  go_enter Tryd.func12, Tryd.ntmps12
  go_wp2_with fail
  refine (alive13 A w h).mono ?_
  rintro e w1 ⟨rfl, b1⟩
  clear h
  go_wp2_with fail
  have p3 := (Box.new w1 0 0 0 0 0 47).later (below_new _ (box 0 0 0 0 0 49))
  have p4 := Box.new (w1.alloc (box 0 0 0 0 0 47)) 0 0 0 0 0 49
  have b13 := below_then (below_then b1 (below_new w1 (box 0 0 0 0 0 47)) (Nat.le_refl _)) (below_new _ (box 0 0 0 0 0 49)) (Nat.le_refl _)
  rw [World.size_alloc] at p4
  obtain ⟨B1, hB1⟩ : ∃ B, B = w1.heap.size := ⟨_, rfl⟩
  have hB : w.heap.size ≤ B1 := by have := b1.size; omega
  rw [← hB1] at p3 p4 ⊢
  obtain ⟨w3, hw3⟩ : ∃ w3, w3 = (w1.alloc (box 0 0 0 0 0 47)).alloc (box 0 0 0 0 0 49) := ⟨_, rfl⟩
  rw [← hw3] at p3 p4 b13 ⊢
  clear hw3 hB1 b1
  go_loopw [20] (fun i wr => ∃ (n : Nat) (s : S5), n ≤ len ∧ i = .int .i64 n ∧ RightP s.a s.b s.c s.d s.e ∧ Box wr B1 s.a s.b s.c s.d s.e ∧ Box wr (B1 + 1) s.a s.b s.c s.d s.e ∧ Below w.heap.size w wr)
    (fun i _ => len - (intOf i).toNat)
  case atStart => exact ⟨0, ⟨0, 0, 0, 0, 0⟩, by omega, rfl, by decide, p3, p4, b13⟩
  case round =>
    obtain ⟨n, ⟨sa, sb, sc, sd, se⟩, hn, rfl, hR, hp, hm, hbb⟩ := hrel
    by_cases hlt : n < len
    · obtain ⟨bs, off, rfl, hbs, hcs⟩ := HC.out (by omega)
      have k0 : wr.cell? ⟨bs, off + n * 5, none⟩ = some (.int .i64 (z n 0)) := (hbb.cell (p := ⟨bs, off + (n * 5 + 0), none⟩) hbs).trans (hcs n 0 hlt (by omega))
      have k1 : wr.cell? ⟨bs, off + n * 5 + 1, none⟩ = some (.int .i64 (z n 1)) := (hbb.cell (p := ⟨bs, off + (n * 5 + 1), none⟩) hbs).trans (hcs n 1 hlt (by omega))
      have k2 : wr.cell? ⟨bs, off + n * 5 + 2, none⟩ = some (.int .i64 (z n 2)) := (hbb.cell (p := ⟨bs, off + (n * 5 + 2), none⟩) hbs).trans (hcs n 2 hlt (by omega))
      have k3 : wr.cell? ⟨bs, off + n * 5 + 3, none⟩ = some (.int .i64 (z n 3)) := (hbb.cell (p := ⟨bs, off + (n * 5 + 3), none⟩) hbs).trans (hcs n 3 hlt (by omega))
      have k4 : wr.cell? ⟨bs, off + n * 5 + 4, none⟩ = some (.int .i64 (z n 4)) := (hbb.cell (p := ⟨bs, off + (n * 5 + 4), none⟩) hbs).trans (hcs n 4 hlt (by omega))
      clear hcs
      obtain ⟨ka0, ka1, ka2, ka3, ka4⟩ := hp.alls
      go_wp2_with fail
      generalize z n 0 = k at *
      generalize z n 1 = ep at *
      generalize z n 2 = ro at *
      generalize z n 3 = q at *
      generalize z n 4 = g at *
      clear ka0 ka1 ka2 ka3 ka4 k0 k1 k2 k3 k4
      have t1 := below_then hbb (below_new wr (box k ep ro q g 71)) (Nat.le_refl _)
      have x1 := hp.later (below_new wr (box k ep ro q g 71))
      have m1 := hm.later (below_new wr (box k ep ro q g 71))
      have x2 := Box.new wr k ep ro q g 71
      have hT : ∀ w, Calls Tryd.prog 43 #[st5 sa sb sc sd se, stepV k ep ro q g] w _ := fun w => told_any ⟨sa, sb, sc, sd, se⟩ k ep ro q g w
      have hcov := covers_do ⟨sa, sb, sc, sd, se⟩ k ep ro q g
      have hR2 := right_do ⟨sa, sb, sc, sd, se⟩ k ep ro q g hR
      have hback : doC ⟨sa, sb, sc, sd, se⟩ k ep ro q = 0 → 1 ≤ k → k ≤ 4 → decide (CoversP ⟨sa, sb, sc, sd, se⟩ (doS ⟨sa, sb, sc, sd, se⟩ k ep ro q g)) = false := fun h0 h1 h4 => decide_eq_false (not_back _ k ep ro q g h0 h1 h4)
      refine (do_any A ⟨sa, sb, sc, sd, se⟩ k ep ro q g _ (HB.out _ t1)).mono ?_
      rintro r w2 ⟨rfl, bb2⟩
      generalize doS ⟨sa, sb, sc, sd, se⟩ k ep ro q g = S at *
      generalize doC ⟨sa, sb, sc, sd, se⟩ k ep ro q = C at *
      obtain ⟨a2, b2, c2, d2, e2⟩ := S
      have HT := Lib.hid hT
      have HCov := Lib.hid (decide_eq_true hcov)
      have HRight := Lib.hid (decide_eq_true hR2)
      have HR2 := Lib.hid hR2
      have HBack := Lib.hid hback
      clear hT hcov hR2 hback hR
      have t2 := below_then t1 bb2 (Nat.le_refl _)
      have y1 := x1.later bb2
      have ym := m1.later bb2
      have y2 := x2.later bb2
      clear x1 m1 x2 bb2 t1 hp hm hbb
      have Y1 := Lib.hid y1
      have YM := Lib.hid ym
      have Y2 := Lib.hid y2
      have T2 := Lib.hid t2
      clear t2
      obtain ⟨ka0, ka1, ka2, ka3, ka4⟩ := ym.alls
      obtain ⟨ma0, ma1, ma2, ma3, ma4⟩ := y2.alls
      clear y1 ym y2
      go_wp2_with fail
      clear ka0 ka1 ka2 ka3 ka4 ma0 ma1 ma2 ma3 ma4
      have n5 := Box.new w2 a2 b2 c2 d2 e2 47
      have hb2 := below_new w2 (box a2 b2 c2 d2 e2 47)
      have t3 := below_then T2.out hb2 (Nat.le_refl _)
      have z1 := Y1.out.later hb2
      have zm := YM.out.later hb2
      have z2 := Y2.out.later hb2
      have YL := Lib.hid YM.out.lt
      clear Y1 YM Y2 T2 hb2
      refine (HT.out _).mono ?_
      rintro r w4 ⟨rfl, bb3⟩
      have hb4 := below_new w4 (box a2 b2 c2 d2 e2 49)
      have T4 := Lib.hid (below_then (below_then t3 bb3 (Nat.le_refl _)) hb4 (Nat.le_refl _))
      have V1 := Lib.hid ((z1.later bb3).later hb4)
      have VM := Lib.hid ((zm.later bb3).later hb4)
      have V2 := Lib.hid ((z2.later bb3).later hb4)
      have v5 := n5.later bb3
      have V5 := Lib.hid (v5.later hb4)
      have v6 := Box.new w4 a2 b2 c2 d2 e2 49
      have hP5 : B1 + 1 < w2.heap.size := YL.out
      have hP6 : B1 + 1 < w4.heap.size := (zm.later bb3).lt
      have V6 := Lib.hid v6
      obtain ⟨ka0, ka1, ka2, ka3, ka4⟩ := v5.alls
      obtain ⟨ma0, ma1, ma2, ma3, ma4⟩ := (z1.later bb3).alls
      clear v5 v6 n5 z1 zm z2 bb3 t3 hb4
      go_wp2_with fail
      clear ka0 ka1 ka2 ka3 ka4 ma0 ma1 ma2 ma3 ma4
      obtain ⟨W, hW⟩ : ∃ W, W = w4.alloc (box a2 b2 c2 d2 e2 49) := ⟨_, rfl⟩
      rw [← hW] at T4 V1 VM V2 V5 V6 ⊢
      generalize w4.heap.size = P6 at *
      generalize w2.heap.size = P5 at *
      clear hW
      refine (covers_any a2 b2 c2 d2 e2 sa sb sc sd se _).mono ?_
      rintro r w5 ⟨rfl, bb5⟩
      rw [HCov.out]
      have T5 := Lib.hid (below_then T4.out bb5 (Nat.le_refl _))
      have X1 := Lib.hid (V1.out.later bb5)
      have XM := Lib.hid (VM.out.later bb5)
      have X2 := Lib.hid (V2.out.later bb5)
      have X5 := Lib.hid (V5.out.later bb5)
      have X6 := Lib.hid (V6.out.later bb5)
      clear V1 VM V2 V5 V6 T4 bb5 HCov
      obtain ⟨k0, k1, k2, k3, k4, -, -, -, -, -⟩ := X5.out
      go_wp2_with fail
      clear k0 k1 k2 k3 k4
      refine (right_any a2 b2 c2 d2 e2 _).mono ?_
      rintro r w6 ⟨rfl, bb6⟩
      rw [HRight.out]
      have T6 := Lib.hid (below_then T5.out bb6 (Nat.le_refl _))
      have Z1 := Lib.hid (X1.out.later bb6)
      have ZM := Lib.hid (XM.out.later bb6)
      have Z2 := Lib.hid (X2.out.later bb6)
      have Z5 := Lib.hid (X5.out.later bb6)
      have Z6 := Lib.hid (X6.out.later bb6)
      clear X1 XM X2 X5 X6 T5 bb6 HRight
      obtain ⟨k0, -, -, -, -, -, -, -, -, -⟩ := Z2.out
      by_cases hC0 : C = 0
      · have hC1 : ((C : Int) == 0) = true := by simpa using hC0
        by_cases h1 : 1 ≤ k
        · by_cases h4 : k ≤ 4
          · have hK1 : decide (k < 1) = false := by simp; omega
            have hback := HBack.out hC0 h1 h4
            clear hC0 HBack
            have HBk := Lib.hid hback
            clear hback
            have Y1 := Lib.hid Z1.out
            obtain ⟨qc0, qc1, qc2, qc3, qc4, -, -, -, -, -⟩ := Z1.out
            obtain ⟨qi0, qi1, qi2, qi3, qi4, -, -, -, -, -⟩ := Z5.out
            go_wp2_with fail
            clear qc0 qc1 qc2 qc3 qc4 qi0 qi1 qi2 qi3 qi4 k0
            refine (covers_any sa sb sc sd se a2 b2 c2 d2 e2 _).mono ?_
            rintro r w7 ⟨rfl, bb7⟩
            rw [HBk.out]
            replace T6 := Lib.hid (below_then T6.out bb7 (Nat.le_refl _))
            replace Z1 := Lib.hid (Z1.out.later bb7)
            replace ZM := Lib.hid (ZM.out.later bb7)
            replace Z5 := Lib.hid (Z5.out.later bb7)
            replace Z6 := Lib.hid (Z6.out.later bb7)
            clear Y1 HBk bb7 Z2
            go_wp2_with fail
            have g1 : P5 ≠ B1 := by omega
            have g2 : P5 ≠ B1 + 1 := by omega
            have g3 : P6 ≠ B1 := by omega
            have g4 : P6 ≠ B1 + 1 := by omega
            have E1 := Lib.hid ((Z1.out.set5 a2 b2 c2 d2 e2).set5_other (show B1 ≠ B1 + 1 by omega) (.int .i64 a2) (.int .i64 b2) (.int .i64 c2) (.int .i64 d2) (.int .i64 e2))
            have EM := Lib.hid ((ZM.out.set5_other (show B1 + 1 ≠ B1 by omega) (.int .i64 a2) (.int .i64 b2) (.int .i64 c2) (.int .i64 d2) (.int .i64 e2)).set5 a2 b2 c2 d2 e2)
            have EB := Lib.hid (below_five (below_five T6.out hB (.int .i64 a2) (.int .i64 b2) (.int .i64 c2) (.int .i64 d2) (.int .i64 e2)) (Nat.le_succ_of_le hB) (.int .i64 a2) (.int .i64 b2) (.int .i64 c2) (.int .i64 d2) (.int .i64 e2))
            obtain ⟨qc0, qc1, qc2, qc3, qc4, qf0, qf1, qf2, qf3, qf4⟩ := Z1.out
            obtain ⟨qd0, qd1, qd2, qd3, qd4, qh0, qh1, qh2, qh3, qh4⟩ := ZM.out
            obtain ⟨qi0, qi1, qi2, qi3, qi4, -, -, -, -, -⟩ := Z5.out
            obtain ⟨qj0, qj1, qj2, qj3, qj4, -, -, -, -, -⟩ := Z6.out
            go_region_with (fail)
            all_goals clear qc0 qc1 qc2 qc3 qc4 qf0 qf1 qf2 qf3 qf4 qd0 qd1 qd2 qd3 qd4 qh0 qh1 qh2 qh3 qh4 qi0 qi1 qi2 qi3 qi4 qj0 qj1 qj2 qj3 qj4
            all_goals go_wp2_with fail
            all_goals go_roundw
            all_goals first
              | exact ⟨n + 1, ⟨a2, b2, c2, d2, e2⟩, by omega, by go_num, HR2.out, E1.out.later ((Below.refl _ _).drew), EM.out.later ((Below.refl _ _).drew), EB.out.drew⟩
              | ((repeat apply Exists.intro); exact ⟨⟨n + 1, ⟨a2, b2, c2, d2, e2⟩, by omega, rfl, HR2.out, E1.out.later ((Below.refl _ _).drew), EM.out.later ((Below.refl _ _).drew), EB.out.drew⟩, rfl⟩)
              | (simp [intOf]; omega)
          · clear hC0 HBack
            go_wp2_with fail
            clear k0
            have g1 : P5 ≠ B1 := by omega
            have g2 : P5 ≠ B1 + 1 := by omega
            have g3 : P6 ≠ B1 := by omega
            have g4 : P6 ≠ B1 + 1 := by omega
            have E1 := Lib.hid ((Z1.out.set5 a2 b2 c2 d2 e2).set5_other (show B1 ≠ B1 + 1 by omega) (.int .i64 a2) (.int .i64 b2) (.int .i64 c2) (.int .i64 d2) (.int .i64 e2))
            have EM := Lib.hid ((ZM.out.set5_other (show B1 + 1 ≠ B1 by omega) (.int .i64 a2) (.int .i64 b2) (.int .i64 c2) (.int .i64 d2) (.int .i64 e2)).set5 a2 b2 c2 d2 e2)
            have EB := Lib.hid (below_five (below_five T6.out hB (.int .i64 a2) (.int .i64 b2) (.int .i64 c2) (.int .i64 d2) (.int .i64 e2)) (Nat.le_succ_of_le hB) (.int .i64 a2) (.int .i64 b2) (.int .i64 c2) (.int .i64 d2) (.int .i64 e2))
            obtain ⟨qc0, qc1, qc2, qc3, qc4, qf0, qf1, qf2, qf3, qf4⟩ := Z1.out
            obtain ⟨qd0, qd1, qd2, qd3, qd4, qh0, qh1, qh2, qh3, qh4⟩ := ZM.out
            obtain ⟨qi0, qi1, qi2, qi3, qi4, -, -, -, -, -⟩ := Z5.out
            obtain ⟨qj0, qj1, qj2, qj3, qj4, -, -, -, -, -⟩ := Z6.out
            go_region_with (fail)
            all_goals clear qc0 qc1 qc2 qc3 qc4 qf0 qf1 qf2 qf3 qf4 qd0 qd1 qd2 qd3 qd4 qh0 qh1 qh2 qh3 qh4 qi0 qi1 qi2 qi3 qi4 qj0 qj1 qj2 qj3 qj4
            all_goals go_wp2_with fail
            all_goals go_roundw
            all_goals first
              | exact ⟨n + 1, ⟨a2, b2, c2, d2, e2⟩, by omega, by go_num, HR2.out, E1.out.later ((Below.refl _ _).drew), EM.out.later ((Below.refl _ _).drew), EB.out.drew⟩
              | ((repeat apply Exists.intro); exact ⟨⟨n + 1, ⟨a2, b2, c2, d2, e2⟩, by omega, rfl, HR2.out, E1.out.later ((Below.refl _ _).drew), EM.out.later ((Below.refl _ _).drew), EB.out.drew⟩, rfl⟩)
              | (simp [intOf]; omega)
        · clear hC0 HBack
          go_wp2_with fail
          clear k0
          have g1 : P5 ≠ B1 := by omega
          have g2 : P5 ≠ B1 + 1 := by omega
          have g3 : P6 ≠ B1 := by omega
          have g4 : P6 ≠ B1 + 1 := by omega
          have E1 := Lib.hid ((Z1.out.set5 a2 b2 c2 d2 e2).set5_other (show B1 ≠ B1 + 1 by omega) (.int .i64 a2) (.int .i64 b2) (.int .i64 c2) (.int .i64 d2) (.int .i64 e2))
          have EM := Lib.hid ((ZM.out.set5_other (show B1 + 1 ≠ B1 by omega) (.int .i64 a2) (.int .i64 b2) (.int .i64 c2) (.int .i64 d2) (.int .i64 e2)).set5 a2 b2 c2 d2 e2)
          have EB := Lib.hid (below_five (below_five T6.out hB (.int .i64 a2) (.int .i64 b2) (.int .i64 c2) (.int .i64 d2) (.int .i64 e2)) (Nat.le_succ_of_le hB) (.int .i64 a2) (.int .i64 b2) (.int .i64 c2) (.int .i64 d2) (.int .i64 e2))
          obtain ⟨qc0, qc1, qc2, qc3, qc4, qf0, qf1, qf2, qf3, qf4⟩ := Z1.out
          obtain ⟨qd0, qd1, qd2, qd3, qd4, qh0, qh1, qh2, qh3, qh4⟩ := ZM.out
          obtain ⟨qi0, qi1, qi2, qi3, qi4, -, -, -, -, -⟩ := Z5.out
          obtain ⟨qj0, qj1, qj2, qj3, qj4, -, -, -, -, -⟩ := Z6.out
          go_region_with (fail)
          all_goals clear qc0 qc1 qc2 qc3 qc4 qf0 qf1 qf2 qf3 qf4 qd0 qd1 qd2 qd3 qd4 qh0 qh1 qh2 qh3 qh4 qi0 qi1 qi2 qi3 qi4 qj0 qj1 qj2 qj3 qj4
          all_goals go_wp2_with fail
          all_goals go_roundw
          all_goals first
            | exact ⟨n + 1, ⟨a2, b2, c2, d2, e2⟩, by omega, by go_num, HR2.out, E1.out.later ((Below.refl _ _).drew), EM.out.later ((Below.refl _ _).drew), EB.out.drew⟩
            | ((repeat apply Exists.intro); exact ⟨⟨n + 1, ⟨a2, b2, c2, d2, e2⟩, by omega, rfl, HR2.out, E1.out.later ((Below.refl _ _).drew), EM.out.later ((Below.refl _ _).drew), EB.out.drew⟩, rfl⟩)
            | (simp [intOf]; omega)
      · have hC1 : ((C : Int) == 0) = false := by simpa using hC0
        clear hC0 HBack
        go_wp2_with fail
        clear k0
        have g1 : P5 ≠ B1 := by omega
        have g2 : P5 ≠ B1 + 1 := by omega
        have g3 : P6 ≠ B1 := by omega
        have g4 : P6 ≠ B1 + 1 := by omega
        have E1 := Lib.hid ((Z1.out.set5 a2 b2 c2 d2 e2).set5_other (show B1 ≠ B1 + 1 by omega) (.int .i64 a2) (.int .i64 b2) (.int .i64 c2) (.int .i64 d2) (.int .i64 e2))
        have EM := Lib.hid ((ZM.out.set5_other (show B1 + 1 ≠ B1 by omega) (.int .i64 a2) (.int .i64 b2) (.int .i64 c2) (.int .i64 d2) (.int .i64 e2)).set5 a2 b2 c2 d2 e2)
        have EB := Lib.hid (below_five (below_five T6.out hB (.int .i64 a2) (.int .i64 b2) (.int .i64 c2) (.int .i64 d2) (.int .i64 e2)) (Nat.le_succ_of_le hB) (.int .i64 a2) (.int .i64 b2) (.int .i64 c2) (.int .i64 d2) (.int .i64 e2))
        obtain ⟨qc0, qc1, qc2, qc3, qc4, qf0, qf1, qf2, qf3, qf4⟩ := Z1.out
        obtain ⟨qd0, qd1, qd2, qd3, qd4, qh0, qh1, qh2, qh3, qh4⟩ := ZM.out
        obtain ⟨qi0, qi1, qi2, qi3, qi4, -, -, -, -, -⟩ := Z5.out
        obtain ⟨qj0, qj1, qj2, qj3, qj4, -, -, -, -, -⟩ := Z6.out
        go_region_with (fail)
        all_goals clear qc0 qc1 qc2 qc3 qc4 qf0 qf1 qf2 qf3 qf4 qd0 qd1 qd2 qd3 qd4 qh0 qh1 qh2 qh3 qh4 qi0 qi1 qi2 qi3 qi4 qj0 qj1 qj2 qj3 qj4
        all_goals go_wp2_with fail
        all_goals go_roundw
        all_goals first
          | exact ⟨n + 1, ⟨a2, b2, c2, d2, e2⟩, by omega, by go_num, HR2.out, E1.out.later ((Below.refl _ _).drew), EM.out.later ((Below.refl _ _).drew), EB.out.drew⟩
          | ((repeat apply Exists.intro); exact ⟨⟨n + 1, ⟨a2, b2, c2, d2, e2⟩, by omega, rfl, HR2.out, E1.out.later ((Below.refl _ _).drew), EM.out.later ((Below.refl _ _).drew), EB.out.drew⟩, rfl⟩)
          | (simp [intOf]; omega)
    · have H := Lib.hid hbb
      obtain rfl : n = len := by omega
      clear hbb hp hm
      go_wp2_with fail
      go_ret
      exact ⟨rfl, H.out⟩

theorem rulesRows_law (A : List Addr) (w : World) (h : Sents G18 132 A w) (a : Option Addr) (len cap : Nat) (z : Nat → Nat → Int) (hi : StructsAt 5 w a len cap z) :
    Calls Tryd.prog 12 #[.slice a len cap] w fun e w' => e = .returned (.bool true) ∧ Below w.heap.size w w' := by
  have h1 := hi.1
  have h2 := hi.2.1
  unfold maxLen at h2
  by_cases hlen : 100 < len
  · exact rulesRows_long A w h a len cap h1 h2 hlen
  · exact rulesRows_good A w h a len cap z hi (by omega)

end Go.Proofs.YtadonpfpneanhaaDoor
