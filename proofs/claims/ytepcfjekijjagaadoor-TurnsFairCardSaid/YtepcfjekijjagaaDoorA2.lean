/- The walk of PaceWaits: it answers true, at every number of fails and every round. -/
import Derived.Test.YtepcfjekijjagaaDoorA1
import Derived.Outline
namespace Go.Proofs.YtepcfjekijjagaaDoor
open Go.RowKit

theorem small_mod (x : Int) (m : Int) (h0 : 0 < m) (hm : m ≤ 1000) : ∃ N : Nat, wrap64 ((IntKind.u64.wrap x).tmod m) = (N : Int) ∧ (N : Int) < m := by
  have h1 : 0 ≤ IntKind.u64.wrap x := wrap_u64_nonneg x
  have h2 := Int.tmod_nonneg m h1
  have h3 := Int.tmod_lt_of_pos (IntKind.u64.wrap x) h0
  exact ⟨((IntKind.u64.wrap x).tmod m).toNat, by unfold wrap64; omega, by omega⟩
theorem waitOf_mono (k : Nat) : waitOf (k : Int) ≤ waitOf ((k : Int) + 1) ∧ waitOf ((k : Int) + 1) ≤ 2 * waitOf (k : Int) := by
  unfold waitOf
  repeat' split <;> try omega

set_option maxHeartbeats 1000000 in
set_option maxRecDepth 100000 in
theorem paceWaits_walk (u0 u1 : TypeId) (v0 v1 : Value) (fails round : Int) (w : World) (he : Errs2 w u0 u1 v0 v1) (hz : 2 ≤ w.heap.size) :
    Calls Tryd.prog 5 #[.int .i64 fails, .int .i64 round] w fun e w' => e = .returned (.bool true) ∧ Below w.heap.size w w' := by
  go_enter Tryd.func5, Tryd.ntmps5
  go_wp2_with fail
  refine (alive16 u0 u1 v0 v1 w he hz).mono ?_
  rintro e w1 ⟨rfl, b1⟩
  have he1 := he.below b1 (by omega)
  have hz1 := b1.size
  go_wp2_with fail
  refine (new_any 1 _ (by omega) (by omega)).mono ?_
  rintro e w2 ⟨rfl, p2, b2⟩
  have he2 := he1.below b2 (by omega)
  go_wp2_with fail
  refine (left_any _ _ _ _ _ p2 (by omega) (by omega) (by omega)).mono ?_
  rintro e w3 ⟨rfl, n, rfl⟩
  go_wp2_with fail
  obtain ⟨N, hN, hN12⟩ := small_mod fails 12 (by omega) (by omega)
  rw [hN]
  clear hN
  have p3 := p2.drewN n
  have he3 := he2.below (below_drewN_self 18 w2 n) (by omega)
  have b3 : Below w1.heap.size w1 (w2.drewN n) := b2.trans (below_drewN_self _ _ n)
  have hb18 : 2 ≤ w1.heap.size := by omega
  go_loopw [7, 31] (fun l i wr => ∃ k : Nat, k ≤ N ∧ i = .int .i64 k ∧ l = .int .i64 (waitOf k) ∧ PaceAt wr w1.heap.size (1 + k) k 0 ∧ Errs2 wr u0 u1 v0 v1 ∧ Below w1.heap.size w1 wr)
    (fun _ i _ => N - (intOf i).toNat)
  case atStart => exact ⟨0, by omega, rfl, rfl, p3, he3, b3⟩
  case round =>
    obtain ⟨k, hk, rfl, rfl, hp, hee, hbb⟩ := hrel
    have hwi := waitOf_in (k : Int)
    by_cases hlt : k < N
    · have hm := waitOf_mono k
      go_wp2_with fail
      obtain ⟨wo, hwo⟩ : ∃ wo : World, wo = wr := ⟨_, rfl⟩
      subst hwo
      go_loopw [9] (fun i wr => ∃ j : Nat, i = .int .i64 j ∧ (j : Int) < waitOf k ∧ PaceAt wr w1.heap.size (1 + k) k j ∧ Errs2 wr u0 u1 v0 v1 ∧ Below w1.heap.size w1 wr)
        (fun i _ => 16 - (intOf i).toNat)
      case atStart => exact ⟨0, rfl, by omega, hp, hee, hbb⟩
      case round =>
        obtain ⟨j, rfl, hj, hp, hee, hbb⟩ := hrel
        by_cases hx : (j : Int) + 1 < waitOf k
        · go_wp2_with fail
          refine (tick_no _ _ _ _ _ hp (by omega) (by omega) hx).mono ?_
          rintro e w4 ⟨rfl, p4, b4⟩
          go_wp2_with fail
          go_roundw
          case rel => exact ⟨_, .int .i64 ((j + 1 : Nat) : Int), _, _, _, _, _, _, _, ⟨j + 1, rfl, by omega, p4, hee.below b4 (by omega), hbb.trans b4⟩, rfl⟩
          case measure => simp [intOf]; omega
        · go_wp2_with fail
          refine (tick_yes _ _ _ _ _ hp (by omega) (by omega) (by omega) (by omega)).mono ?_
          rintro e w4 ⟨rfl, p4, b4⟩
          have he4 := hee.below b4 (by omega)
          go_wp2_with fail
          refine (TC_new u0 u1 v0 v1 _ _ _ _ _ _ p4 he4 (by omega) (by omega) (by omega) (by omega) (by omega)).mono ?_
          rintro e w5 ⟨rfl, p5, b5⟩
          go_wp2_with fail
          refine (left_any _ _ _ _ _ p5 (by omega) (by omega) (by omega)).mono ?_
          rintro e w6 ⟨rfl, n2, rfl⟩
          go_wp2_with fail
          refine (left_any _ _ _ _ _ (p5.drewN n2) (by omega) (by omega) (by omega)).mono ?_
          rintro e w7 ⟨rfl, n3, rfl⟩
          have b47 := ((b4.trans b5).trans (below_drewN_self _ _ n2)).trans (below_drewN_self _ _ n3)
          have hee7 := hee.below b47 (by omega)
          have bb7 := hbb.trans b47
          have p7 : PaceAt ((w5.drewN n2).drewN n3) w1.heap.size (1 + ((k + 1 : Nat) : Int)) ((k + 1 : Nat) : Int) 0 := (p5.drewN n2).drewN n3
          rw [World.drewN_drewN] at hee7 bb7 p7
          go_wp2_with fail
          go_roundw
          case rel =>
            repeat apply Exists.intro
            exact ⟨⟨k + 1, by omega, rfl, rfl, p7, hee7, bb7⟩, rfl⟩
          case measure => simp [intOf]; omega
    · obtain rfl : k = N := by omega
      obtain ⟨M, hM, hM5⟩ := small_mod round 5 (by omega) (by omega)
      go_wp2_with fail
      refine (round_any _ _ _ _ _ hp).mono ?_
      rintro e w4 ⟨rfl, rfl⟩
      go_wp2_with fail
      rw [hM]
      refine (QC_new u0 u1 v0 v1 _ _ _ _ _ _ hp hee (by omega) (by omega) (by omega)).mono ?_
      rintro e w5 ⟨rfl, p5, b5⟩
      go_wp2_with fail
      refine (left_any _ _ _ _ _ p5 (by omega) (by omega) (by omega)).mono ?_
      rintro e w6 ⟨rfl, n2, rfl⟩
      go_wp2_with fail
      refine (round_any _ _ _ _ _ (p5.drewN n2)).mono ?_
      rintro e w7 ⟨rfl, rfl⟩
      go_wp2_with fail
      refine (fails_any _ _ _ _ _ (p5.drewN n2)).mono ?_
      rintro e w8 ⟨rfl, rfl⟩
      go_wp2_with fail
      go_ret
      exact ⟨rfl, b1.trans (((hbb.trans b5).trans (below_drewN_self _ _ n2)).mono (by omega))⟩

end Go.Proofs.YtepcfjekijjagaaDoor
