/- The walk of TurnsAgain: a leader leads again just behind as many rounds as there are validators. -/
import Derived.Test.YtepcfjekijjagaaDoorQ5
namespace Go.Proofs.YtepcfjekijjagaaDoor
open Go.RowKit

theorem again_pure {n who fr : Int} (h0 : 0 ≤ fr) (h1 : fr ≤ 1099511627756) (hg : 1 ≤ n ∧ n ≤ 7 ∧ 0 ≤ who ∧ who < n) :
    turnC n who fr = 0 ∧ turnV n who fr = fr + kOf n who fr ∧ turnC n who (fr + kOf n who fr + 1) = 0 ∧ turnV n who (fr + kOf n who fr + 1) = fr + kOf n who fr + n ∧ leaderOf n (fr + kOf n who fr) = who ∧ leaderOf n (fr + kOf n who fr + n) = who := by
  obtain ⟨h2, h7, hw0, hwn⟩ := hg
  have hk := kOf_in (n := n) (who := who) (fr := fr) h2
  have hl := lead_at h2 h7 hw0 hwn h0
  have hc : turnC n who fr = 0 := by unfold turnC; rw [if_pos ⟨h2, h7, hw0, hwn, h0⟩, if_pos (by omega)]
  have hv : turnV n who fr = fr + kOf n who fr := by unfold turnV; rw [if_pos hc]
  have hl2 : leaderOf n (fr + kOf n who fr + n) = who := by
    unfold leaderOf at hl ⊢
    rw [if_pos (by omega)] at hl ⊢
    rw [Int.add_emod_right]
    exact hl
  have hkk : kOf n who (fr + kOf n who fr + 1) = n - 1 := by
    unfold leaderOf at hl
    rw [if_pos (by omega)] at hl
    generalize fr + kOf n who fr = a at *
    unfold kOf
    have : who - (a + 1) = (who - a - n) + (n - 1) := by omega
    rw [this]
    have h3 : (who - a - n) % n = 0 := by
      rw [Int.sub_emod_right, ← hl, Int.sub_emod, Int.emod_emod_of_dvd _ (Int.dvd_refl n), Int.sub_self, Int.zero_emod]
    rw [Int.add_emod, h3, Int.zero_add, Int.emod_emod_of_dvd _ (Int.dvd_refl n)]
    exact Int.emod_eq_of_lt (by omega) (by omega)
  have hc2 : turnC n who (fr + kOf n who fr + 1) = 0 := by unfold turnC; rw [if_pos ⟨h2, h7, hw0, hwn, by omega⟩, hkk, if_pos (by omega)]
  have hv2 : turnV n who (fr + kOf n who fr + 1) = fr + kOf n who fr + n := by unfold turnV; rw [if_pos hc2, hkk]; omega
  exact ⟨hc, hv, hc2, hv2, hl, hl2⟩

set_option maxHeartbeats 1000000 in
set_option maxRecDepth 100000 in
theorem turnsAgain_walk (A : List Addr) (w : World) (h : Sents G18 78 A w) (n : Int) (_ : (Lit.int .i64 n).wf = true) (who : Int) (_ : (Lit.int .i64 who).wf = true) (fr : Int) (hf : (Lit.int .i64 fr).wf = true) :
    Calls Tryd.prog 9 #[.int .i64 n, .int .i64 who, .int .i64 fr] w fun e w' => e = .returned (.bool true) ∧ Below w.heap.size w w' := by
  have hf2 : fr ≤ 9223372036854775807 := by have := bounds_i64 hf; omega
  have HS := Lib.hid h
  clear h hf
  by_cases h0 : fr < 0
  · go_enter Tryd.func9, Tryd.ntmps9
    go_wp2_with fail
    refine (alive12 _).mono ?_
    rintro e w1 ⟨rfl, rfl⟩
    go_wp2_with fail
    go_ret
    exact ⟨rfl, Below.refl _ _⟩
  have h0' : 0 ≤ fr := by omega
  by_cases h1 : 1099511627756 < fr
  · clear h0
    go_enter Tryd.func9, Tryd.ntmps9
    go_wp2_with fail
    refine (alive12 _).mono ?_
    rintro e w1 ⟨rfl, rfl⟩
    go_wp2_with fail
    go_ret
    exact ⟨rfl, Below.refl _ _⟩
  have h1' : fr ≤ 1099511627756 := by omega
  have HT := Lib.hid (turn_any A w HS.out n who fr hf2)
  by_cases hg : 1 ≤ n ∧ n ≤ 7 ∧ 0 ≤ who ∧ who < n
  · have hp := again_pure h0' h1' hg
    have hk := kOf_in (n := n) (who := who) (fr := fr) hg.1
    have ha1 : fr + kOf n who fr ≤ 1099511627763 := by omega
    have ha0 : 0 ≤ fr + kOf n who fr := by omega
    have hn1 : 1 ≤ n := hg.1
    have hn7 : n ≤ 7 := hg.2.1
    generalize fr + kOf n who fr = a at *
    obtain ⟨p1, p2, p3, p4, p5, p6⟩ := hp
    have HT2 : Hid (∀ w, Sents G18 78 A w → Calls Tryd.prog 13 #[.int .i64 n, .int .i64 who, .int .i64 (a + 1)] w fun e w' => e = .returned (.tuple #[.int .i64 (a + n), .nilIface]) ∧ Below w.heap.size w w') := fun w hw => by
      have := turn_any A w hw n who (a + 1) (by omega)
      rwa [p4, p3] at this
    have HT1 : Hid (Calls Tryd.prog 13 #[.int .i64 n, .int .i64 who, .int .i64 fr] w fun e w' => e = .returned (.tuple #[.int .i64 a, .nilIface]) ∧ Below w.heap.size w w') := by
      have := HT.out
      rwa [p2, p1] at this
    have HL1 : Hid (∀ w, Calls Tryd.prog 12 #[.int .i64 n, .int .i64 a] w fun e w' => e = .returned (.int .i64 who) ∧ w = w') := fun w => by
      have := leader_any n a w
      rwa [p5] at this
    have HL2 : Hid (∀ w, Calls Tryd.prog 12 #[.int .i64 n, .int .i64 (a + n)] w fun e w' => e = .returned (.int .i64 who) ∧ w = w') := fun w => by
      have := leader_any n (a + n) w
      rwa [p6] at this
    clear p1 p2 p3 p4 p5 p6 hk hg HT h0 h1 hf2
    go_enter Tryd.func9, Tryd.ntmps9
    go_wp2_with fail
    refine (alive12 _).mono ?_
    rintro e w1 ⟨rfl, rfl⟩
    go_wp2_with fail
    refine HT1.out.mono ?_
    rintro e w1 ⟨rfl, hb⟩
    have HB := Lib.hid hb
    clear hb
    go_wp2_with fail
    refine (HT2.out _ (HS.out.later HB.out)).mono ?_
    rintro e w2 ⟨rfl, hb⟩
    have HB2 := Lib.hid (HB.out.trans (hb.mono HB.out.size))
    clear hb
    go_wp2_with fail
    refine (HL1.out _).mono ?_
    rintro e w3 ⟨rfl, rfl⟩
    go_wp2_with fail
    refine (HL2.out _).mono ?_
    rintro e w3 ⟨rfl, rfl⟩
    go_wp2_with fail
    go_ret
    exact ⟨rfl, HB2.out⟩
  · have hc : turnC n who fr = 1 := by unfold turnC; rw [if_neg (fun x => hg ⟨x.1, x.2.1, x.2.2.1, x.2.2.2.1⟩)]
    have HT1 : Hid (Calls Tryd.prog 13 #[.int .i64 n, .int .i64 who, .int .i64 fr] w fun e w' => ∃ u, (e = .returned (.tuple #[.int .i64 (turnV n who fr), .iface 78 u]) ∧ errV A 1 = .iface 78 u) ∧ Below w.heap.size w w') := by
      have := HT.out
      rw [hc] at this
      exact this.mono fun e w' he => ⟨_, ⟨he.1, rfl⟩, he.2⟩
    clear hc hg HT h0 h1 hf2
    go_enter Tryd.func9, Tryd.ntmps9
    go_wp2_with fail
    refine (alive12 _).mono ?_
    rintro e w1 ⟨rfl, rfl⟩
    go_wp2_with fail
    refine HT1.out.mono ?_
    rintro e w1 ⟨u, ⟨rfl, hu⟩, hb⟩
    have HB := Lib.hid hb
    have HC := Lib.hid (num_code A _ (HS.out.later hb) 1 (by decide))
    rw [hu] at HC
    clear hb hu
    go_wp2_with fail
    refine HC.out.mono ?_
    rintro e w2 ⟨rfl, hb⟩
    have HB2 := Lib.hid (HB.out.trans (hb.mono HB.out.size))
    clear hb
    go_wp2_with fail
    go_ret
    exact ⟨rfl, HB2.out⟩

end Go.Proofs.YtepcfjekijjagaaDoor
