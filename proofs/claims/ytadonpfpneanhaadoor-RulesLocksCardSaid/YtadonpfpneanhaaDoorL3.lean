/- The walk of RulesLocks: the locked round is never above the q of a vote that was given. -/
import Derived.Test.YtadonpfpneanhaaDoorL1
import Derived.Test.YtadonpfpneanhaaDoorX1
namespace Go.Proofs.YtadonpfpneanhaaDoor
open Go.RowKit

theorem locks_vote {s : S5} {most ep ro q g : Int} (h : doC s 1 ep ro q = 0) (hp : s.c ≤ most) : (doS s 1 ep ro q g).c ≤ max most q := by
  have hc : voteC s ep ro q = 0 := h
  have hS : doS s 1 ep ro q g = ⟨s.a, ro, if g ≤ q then max s.c g else s.c, s.d, s.e + 1⟩ := by
    show voteS s ep ro q g = _
    unfold voteS
    rw [if_pos hc]
  rw [hS]
  simp only
  split <;> omega
theorem locks_enter {s : S5} {ep ro q g : Int} (h : doC s 4 ep ro q = 0) : (doS s 4 ep ro q g).c ≤ 0 := by
  have hc : enterC s ep = 0 := h
  have hS : doS s 4 ep ro q g = ⟨ep, 0, 0, 0, s.e⟩ := by
    show enterS s ep = _
    unfold enterS
    rw [if_pos hc]
  rw [hS]
  exact Int.le_refl _
theorem locks_else {s : S5} {k ep ro q g : Int} (hk1 : k ≠ 1) (hk4 : k ≠ 4) : (doS s k ep ro q g).c = s.c := by
  unfold doS
  rw [if_neg hk1]
  split
  · unfold lateS
    split <;> rfl
  split
  · unfold proposeS
    split <;> rfl
  rfl
theorem vote_safe {s : S5} {ep ro q : Int} (h : voteC s ep ro q = 0) : s.c ≤ q := by
  unfold voteC at h
  split at h
  · omega
  split at h
  · omega
  split at h
  · omega
  split at h
  · omega
  omega

set_option maxHeartbeats 1000000 in
set_option maxRecDepth 100000 in
theorem rulesLocks_long (A : List Addr) (w : World) (h : Sents G18 132 A w) (round q : Int) (a : Option Addr) (len cap : Nat) (_hlc : len ≤ cap) (_hcm : cap ≤ 9223372036854775807) (hlen : 100 < len) :
    Calls Tryd.prog 10 #[.slice a len cap, .int .i64 round, .int .i64 q] w fun e w' => e = .returned (.bool true) ∧ Below w.heap.size w w' := by
  go_enter Tryd.func10, Tryd.ntmps10
  go_wp2_with fail
  refine (alive13 A w h).mono ?_
  rintro e w1 ⟨rfl, b1⟩
  go_wp2_with fail
  go_ret
  exact ⟨rfl, b1⟩

set_option maxHeartbeats 2000000 in
set_option maxRecDepth 100000 in
theorem rulesLocks_good (A : List Addr) (w : World) (h : Sents G18 132 A w) (round q2 : Int) (a : Option Addr) (len cap : Nat) (z : Nat → Nat → Int) (hi : StructsAt 5 w a len cap z) (hlen : len ≤ 100) :
    Calls Tryd.prog 10 #[.slice a len cap, .int .i64 round, .int .i64 q2] w fun e w' => e = .returned (.bool true) ∧ Below w.heap.size w w' := by
  obtain ⟨hlc, hcm, hwf, hcells⟩ := hi
  unfold maxLen at hcm
  have HB : Hid (∀ W', Below w.heap.size w W' → Sents G18 132 A W') := fun W' hW => h.later hW
  have HC := Lib.hid hcells
  clear hcells hwf
  go_enter Tryd.func10, Tryd.ntmps10
  go_wp2_with fail
  refine (alive13 A w h).mono ?_
  rintro e w1 ⟨rfl, b1⟩
  clear h
  go_wp2_with fail
  have p3 := Box.new w1 0 0 0 0 0 47
  have b13 := below_then b1 (below_new w1 (box 0 0 0 0 0 47)) (Nat.le_refl _)
  obtain ⟨B1, hB1⟩ : ∃ B, B = w1.heap.size := ⟨_, rfl⟩
  have hB : w.heap.size ≤ B1 := by have := b1.size; omega
  rw [← hB1] at p3 ⊢
  obtain ⟨w3, hw3⟩ : ∃ w3, w3 = w1.alloc (box 0 0 0 0 0 47) := ⟨_, rfl⟩
  rw [← hw3] at p3 b13 ⊢
  clear hw3 hB1 b1
  go_loopw [8, 23] (fun l i wr => ∃ (n : Nat) (s : S5) (most : Int), n ≤ len ∧ i = .int .i64 n ∧ l = .int .i64 most ∧ s.c ≤ most ∧ Box wr B1 s.a s.b s.c s.d s.e ∧ Below w.heap.size w wr)
    (fun _ i _ => len - (intOf i).toNat)
  case atStart => exact ⟨0, ⟨0, 0, 0, 0, 0⟩, 0, by omega, rfl, rfl, by decide, p3, b13⟩
  case round =>
    obtain ⟨n, ⟨sa, sb, sc, sd, se⟩, most, hn, rfl, rfl, hO, hp, hbb⟩ := hrel
    by_cases hlt : n < len
    · obtain ⟨bs, off, rfl, hbs, hcs⟩ := HC.out (by omega)
      have k0 : wr.cell? ⟨bs, off + n * 5, none⟩ = some (.int .i64 (z n 0)) := (hbb.cell (p := ⟨bs, off + (n * 5 + 0), none⟩) hbs).trans (hcs n 0 hlt (by omega))
      have k1 : wr.cell? ⟨bs, off + n * 5 + 1, none⟩ = some (.int .i64 (z n 1)) := (hbb.cell (p := ⟨bs, off + (n * 5 + 1), none⟩) hbs).trans (hcs n 1 hlt (by omega))
      have k2 : wr.cell? ⟨bs, off + n * 5 + 2, none⟩ = some (.int .i64 (z n 2)) := (hbb.cell (p := ⟨bs, off + (n * 5 + 2), none⟩) hbs).trans (hcs n 2 hlt (by omega))
      have k3 : wr.cell? ⟨bs, off + n * 5 + 3, none⟩ = some (.int .i64 (z n 3)) := (hbb.cell (p := ⟨bs, off + (n * 5 + 3), none⟩) hbs).trans (hcs n 3 hlt (by omega))
      have k4 : wr.cell? ⟨bs, off + n * 5 + 4, none⟩ = some (.int .i64 (z n 4)) := (hbb.cell (p := ⟨bs, off + (n * 5 + 4), none⟩) hbs).trans (hcs n 4 hlt (by omega))
      clear hcs
      obtain ⟨ka0, ka1, ka2, ka3, ka4⟩ := hp.alls
      go_wp2_with fail
      generalize z n 0 = k at *
      generalize z n 1 = ep at *
      generalize z n 2 = ro at *
      generalize z n 3 = q at *
      generalize z n 4 = g at *
      clear ka0 ka1 ka2 ka3 ka4 k0 k1 k2 k3 k4
      have t1 := below_then hbb (below_new wr (box k ep ro q g 71)) (Nat.le_refl _)
      have x1 := hp.later (below_new wr (box k ep ro q g 71))
      have x2 := Box.new wr k ep ro q g 71
      refine (do_any A ⟨sa, sb, sc, sd, se⟩ k ep ro q g _ (HB.out _ t1)).mono ?_
      rintro r w2 ⟨rfl, b2⟩
      have t2 := below_then t1 b2 (Nat.le_refl _)
      have y1 := x1.later b2
      have y2 := x2.later b2
      clear x1 x2 b2 t1 hp hbb
      have Y1 := Lib.hid y1
      have Y2 := Lib.hid y2
      have T2 := Lib.hid t2
      obtain ⟨ja0, ja1, ja2, ja3, ja4⟩ := y1.alls
      obtain ⟨ma0, ma1, ma2, ma3, ma4⟩ := y2.alls
      have l1 := Y1.out.lt
      obtain ⟨fc0, fc1, fc2, fc3, fc4, fz0, fz1, fz2, fz3, fz4⟩ := Y1.out
      clear y1 y2 t2
      by_cases hC0 : doC ⟨sa, sb, sc, sd, se⟩ k ep ro q = 0
      · have hC1 : ((doC ⟨sa, sb, sc, sd, se⟩ k ep ro q : Int) == 0) = true := by simpa using hC0
        by_cases hk1 : k = 1
        · have hO2 := locks_vote (g := g) (hk1 ▸ hC0) hO
          rw [← hk1] at hO2
          have hkk : (k == 1) = true := by simpa using hk1
          have hkk4 : (k == 4) = false := by rw [hk1]; rfl
          clear hk1 hC0
          by_cases hm : most < q
          · rw [Int.max_eq_right (Int.le_of_lt hm)] at hO2
            obtain ⟨⟨a2, b2, c2, d2, e2⟩, hS⟩ : ∃ S, doS ⟨sa, sb, sc, sd, se⟩ k ep ro q g = S := ⟨_, rfl⟩
            rw [hS] at hO2 ⊢
            clear hS hO
            have hge : decide (q < c2) = false := by simp only [decide_eq_false_iff_not]; exact Int.not_lt.mpr hO2
            have HO2 := Lib.hid hO2
            clear hO2
            go_wp2_with fail
            go_roundw
            case rel => first | exact ⟨n + 1, ⟨a2, b2, c2, d2, e2⟩, q, by omega, by go_num, rfl, HO2.out, (Y1.out.set5 _ _ _ _ _).later (below_new _ _), below_then (below_five T2.out hB _ _ _ _ _) (below_new _ _) (Nat.le_refl _)⟩ | ((repeat apply Exists.intro); exact ⟨⟨n + 1, ⟨a2, b2, c2, d2, e2⟩, q, by omega, rfl, rfl, HO2.out, (Y1.out.set5 _ _ _ _ _).later (below_new _ _), below_then (below_five T2.out hB _ _ _ _ _) (below_new _ _) (Nat.le_refl _)⟩, rfl⟩)
            case measure => simp [intOf]; omega
          · rw [Int.max_eq_left (Int.not_lt.mp hm)] at hO2
            obtain ⟨⟨a2, b2, c2, d2, e2⟩, hS⟩ : ∃ S, doS ⟨sa, sb, sc, sd, se⟩ k ep ro q g = S := ⟨_, rfl⟩
            rw [hS] at hO2 ⊢
            clear hS hO
            have hge : decide (most < c2) = false := by simp only [decide_eq_false_iff_not]; exact Int.not_lt.mpr hO2
            have HO2 := Lib.hid hO2
            clear hO2
            go_wp2_with fail
            go_roundw
            case rel => first | exact ⟨n + 1, ⟨a2, b2, c2, d2, e2⟩, most, by omega, by go_num, rfl, HO2.out, (Y1.out.set5 _ _ _ _ _).later (below_new _ _), below_then (below_five T2.out hB _ _ _ _ _) (below_new _ _) (Nat.le_refl _)⟩ | ((repeat apply Exists.intro); exact ⟨⟨n + 1, ⟨a2, b2, c2, d2, e2⟩, most, by omega, rfl, rfl, HO2.out, (Y1.out.set5 _ _ _ _ _).later (below_new _ _), below_then (below_five T2.out hB _ _ _ _ _) (below_new _ _) (Nat.le_refl _)⟩, rfl⟩)
            case measure => simp [intOf]; omega
        · have hkk : (k == 1) = false := by simpa using hk1
          by_cases hk4 : k = 4
          · have hO2 := locks_enter (g := g) (hk4 ▸ hC0)
            rw [← hk4] at hO2
            have hkk4 : (k == 4) = true := by simpa using hk4
            clear hk4 hk1 hC0
            obtain ⟨⟨a2, b2, c2, d2, e2⟩, hS⟩ : ∃ S, doS ⟨sa, sb, sc, sd, se⟩ k ep ro q g = S := ⟨_, rfl⟩
            rw [hS] at hO2 ⊢
            clear hS hO
            have hge : decide (0 < c2) = false := by simp only [decide_eq_false_iff_not]; exact Int.not_lt.mpr hO2
            have HO2 := Lib.hid hO2
            clear hO2
            go_wp2_with fail
            go_roundw
            case rel => first | exact ⟨n + 1, ⟨a2, b2, c2, d2, e2⟩, 0, by omega, by go_num, rfl, HO2.out, (Y1.out.set5 _ _ _ _ _).later (below_new _ _), below_then (below_five T2.out hB _ _ _ _ _) (below_new _ _) (Nat.le_refl _)⟩ | ((repeat apply Exists.intro); exact ⟨⟨n + 1, ⟨a2, b2, c2, d2, e2⟩, 0, by omega, rfl, rfl, HO2.out, (Y1.out.set5 _ _ _ _ _).later (below_new _ _), below_then (below_five T2.out hB _ _ _ _ _) (below_new _ _) (Nat.le_refl _)⟩, rfl⟩)
            case measure => simp [intOf]; omega
          · have hO2 := Int.le_trans (Int.le_of_eq (locks_else (s := ⟨sa, sb, sc, sd, se⟩) (ep := ep) (ro := ro) (q := q) (g := g) hk1 hk4)) hO
            have hkk4 : (k == 4) = false := by simpa using hk4
            clear hk4 hk1 hC0
            obtain ⟨⟨a2, b2, c2, d2, e2⟩, hS⟩ : ∃ S, doS ⟨sa, sb, sc, sd, se⟩ k ep ro q g = S := ⟨_, rfl⟩
            rw [hS] at hO2 ⊢
            clear hS hO
            have hge : decide (most < c2) = false := by simp only [decide_eq_false_iff_not]; exact Int.not_lt.mpr hO2
            have HO2 := Lib.hid hO2
            clear hO2
            go_wp2_with fail
            go_roundw
            case rel => first | exact ⟨n + 1, ⟨a2, b2, c2, d2, e2⟩, most, by omega, by go_num, rfl, HO2.out, (Y1.out.set5 _ _ _ _ _).later (below_new _ _), below_then (below_five T2.out hB _ _ _ _ _) (below_new _ _) (Nat.le_refl _)⟩ | ((repeat apply Exists.intro); exact ⟨⟨n + 1, ⟨a2, b2, c2, d2, e2⟩, most, by omega, rfl, rfl, HO2.out, (Y1.out.set5 _ _ _ _ _).later (below_new _ _), below_then (below_five T2.out hB _ _ _ _ _) (below_new _ _) (Nat.le_refl _)⟩, rfl⟩)
            case measure => simp [intOf]; omega
      · have hC1 : ((doC ⟨sa, sb, sc, sd, se⟩ k ep ro q : Int) == 0) = false := by simpa using hC0
        have hO2 : (doS ⟨sa, sb, sc, sd, se⟩ k ep ro q g).c ≤ most := by rw [doS_err hC0]; exact hO
        clear hC0
        obtain ⟨⟨a2, b2, c2, d2, e2⟩, hS⟩ : ∃ S, doS ⟨sa, sb, sc, sd, se⟩ k ep ro q g = S := ⟨_, rfl⟩
        rw [hS] at hO2 ⊢
        clear hS hO
        have hge : decide (most < c2) = false := by simp only [decide_eq_false_iff_not]; exact Int.not_lt.mpr hO2
        have HO2 := Lib.hid hO2
        clear hO2
        go_wp2_with fail
        go_roundw
        case rel => first | exact ⟨n + 1, ⟨a2, b2, c2, d2, e2⟩, most, by omega, by go_num, rfl, HO2.out, (Y1.out.set5 _ _ _ _ _).later (below_new _ _), below_then (below_five T2.out hB _ _ _ _ _) (below_new _ _) (Nat.le_refl _)⟩ | ((repeat apply Exists.intro); exact ⟨⟨n + 1, ⟨a2, b2, c2, d2, e2⟩, most, by omega, rfl, rfl, HO2.out, (Y1.out.set5 _ _ _ _ _).later (below_new _ _), below_then (below_five T2.out hB _ _ _ _ _) (below_new _ _) (Nat.le_refl _)⟩, rfl⟩)
        case measure => simp [intOf]; omega
    · obtain rfl : n = len := by omega
      have H := Lib.hid hbb
      have HP := Lib.hid hp
      obtain ⟨c0, c1, c2, c3, c4, -, -, -, -, -⟩ := hp
      go_wp2_with fail
      refine (vote_any A ⟨sa, sb, sc, sd, se⟩ sa round q2 0 _ (HB.out _ H.out)).mono ?_
      rintro r w2 ⟨rfl, b2⟩
      have t2 := Lib.hid (below_then H.out b2 (Nat.le_refl _))
      have y1 := Lib.hid (HP.out.later b2)
      obtain ⟨ja0, ja1, ja2, ja3, ja4⟩ := y1.out.alls
      clear c0 c1 c2 c3 c4 b2 hbb
      by_cases hV : voteC ⟨sa, sb, sc, sd, se⟩ sa round q2 = 0
      · have hs := vote_safe hV
        simp only at hs
        have hs2 : decide (sc ≤ q2) = true := by simpa using hs
        rw [hV, errV_zero]
        go_wp2_with fail
        go_ret
        exact ⟨rfl, below_then t2.out (below_new _ _) (Nat.le_refl _)⟩
      · rw [show errV A (voteC ⟨sa, sb, sc, sd, se⟩ sa round q2) = .iface 132 (.pointer (some (A.getD (voteC ⟨sa, sb, sc, sd, se⟩ sa round q2 - 1) default))) by unfold errV; rw [if_neg hV]]
        by_cases hs : sc ≤ q2
        · have hs2 : decide (sc ≤ q2) = true := by simpa using hs
          go_wp2_with fail
          go_ret
          exact ⟨rfl, below_then t2.out (below_new _ _) (Nat.le_refl _)⟩
        · have hs2 : decide (sc ≤ q2) = false := by simpa using hs
          go_wp2_with fail
          go_ret
          exact ⟨rfl, below_then t2.out (below_new _ _) (Nat.le_refl _)⟩

theorem rulesLocks_law (A : List Addr) (w : World) (h : Sents G18 132 A w) (a : Option Addr) (len cap : Nat) (z : Nat → Nat → Int) (hi : StructsAt 5 w a len cap z) (round : Int) (_ : (Lit.int .i64 round).wf = true) (q : Int) (_ : (Lit.int .i64 q).wf = true) :
    Calls Tryd.prog 10 #[.slice a len cap, .int .i64 round, .int .i64 q] w fun e w' => e = .returned (.bool true) ∧ Below w.heap.size w w' := by
  have h1 := hi.1
  have h2 := hi.2.1
  unfold maxLen at h2
  by_cases hlen : 100 < len
  · exact rulesLocks_long A w h round q a len cap h1 h2 hlen
  · exact rulesLocks_good A w h round q a len cap z hi (by omega)

end Go.Proofs.YtadonpfpneanhaaDoor
