/- The reference's Turn; the walks of TurnsTurns and TurnsAgain. -/
import Derived.Test.YtepcfjekijjagaaDoorQ4
namespace Go.Proofs.YtepcfjekijjagaaDoor
open Go.RowKit

theorem kOf_least {n who fr : Int} {k : Nat} (h1 : 1 ≤ n) (h7 : n ≤ 7) (hw0 : 0 ≤ who) (hwn : who < n) (hf : 0 ≤ fr) (hno : ∀ j : Nat, j < k → (fr + (j : Int)) % n ≠ who) : (k : Int) ≤ kOf n who fr := by
  have hk := kOf_in (n := n) (who := who) (fr := fr) h1
  by_cases hc : kOf n who fr < k
  · have := hno (kOf n who fr).toNat (by omega)
    rw [Int.toNat_of_nonneg hk.1] at this
    have hl := lead_at h1 h7 hw0 hwn hf
    unfold leaderOf at hl
    rw [if_pos (by omega)] at hl
    exact absurd hl this
  · omega
theorem kOf_here {n who fr : Int} {k : Nat} (h1 : 1 ≤ n) (h7 : n ≤ 7) (hf : 0 ≤ fr) (he : (fr + (k : Int)) % n = who) (hk : (k : Int) ≤ kOf n who fr) : kOf n who fr = k := by
  rcases Int.lt_or_eq_of_le hk with hc | hc
  · have := lead_before (who := who) h1 h7 hf (Int.natCast_nonneg k) hc
    unfold leaderOf at this
    rw [if_pos (by omega)] at this
    exact absurd he this
  · exact hc.symm

set_option maxHeartbeats 1000000 in
set_option maxRecDepth 100000 in
theorem refTurn_any (w : World) (n who fr : Int) (hf1 : fr ≤ 9223372036854775807) :
    Calls Tryd.prog 27 #[.int .i64 n, .int .i64 who, .int .i64 fr] w fun e w' => e = .returned (.tuple #[.int .i64 (turnV n who fr), .int .i64 (turnC n who fr : Int)]) ∧ w = w' := by
  obtain ⟨V, hV⟩ : ∃ V, V = turnV n who fr := ⟨_, rfl⟩
  obtain ⟨C, hC⟩ : ∃ C, C = turnC n who fr := ⟨_, rfl⟩
  rw [← hV, ← hC]
  by_cases hg : 1 ≤ n ∧ n ≤ 7 ∧ 0 ≤ who ∧ who < n ∧ 0 ≤ fr
  · obtain ⟨h1, h7, hw0, hwn, hf0⟩ := hg
    have HC := Lib.hid (show C = if fr + kOf n who fr ≤ 1099511627776 then 0 else 14 by rw [hC]; unfold turnC; rw [if_pos ⟨h1, h7, hw0, hwn, hf0⟩])
    have HV := Lib.hid (show V = if C = 0 then fr + kOf n who fr else 0 by rw [hV, hC]; rfl)
    have HL := Lib.hid (fun k hno => kOf_least (k := k) h1 h7 hw0 hwn hf0 hno)
    have HE := Lib.hid (fun k he hk => kOf_here (who := who) (k := k) h1 h7 hf0 he hk)
    have HK := Lib.hid (kOf_in (n := n) (who := who) (fr := fr) h1)
    clear hV hC
    go_enter Tryd.func27, Tryd.ntmps27
    go_wp2_with fail
    go_loop [8] (fun i => ∃ k : Nat, (k : Int) ≤ n ∧ i = .int .i64 k ∧ ∀ j : Nat, j < k → (fr + (j : Int)) % n ≠ who) (fun i => (n - intOf i).toNat)
    case atStart => exact ⟨0, by omega, rfl, fun j hj => absurd hj (by omega)⟩
    case round =>
      obtain ⟨k, hk, rfl, hno⟩ := hrel
      have hle := HL.out k hno
      have HN := Lib.hid hno
      clear hno
      by_cases hkn : (k : Int) < n
      · by_cases hq : fr ≤ 1099511627776 - (k : Int)
        · by_cases hm : (fr + (k : Int)) % n = who
          · have hkk := HE.out k hm hle
            have hC0 : C = 0 := HC.out.trans (if_pos (by omega))
            have hV0 : V = fr + k := by rw [HV.out, if_pos hC0, hkk]
            have hb : ((fr + (k : Int)) % n == who) = true := by simpa using hm
            clear hm hle hkk
            subst hC0 hV0
            go_wp2_with fail
            exact bodyPost_ret (v := .tuple #[.int .i64 (fr + k), .int .i64 0]) (by simp [results, Tryd.f27, go_sem]) rfl ⟨rfl, rfl⟩
          · have hb : ((fr + (k : Int)) % n == who) = false := by simpa using hm
            have HM := Lib.hid hm
            clear hm hle
            go_wp2_with fail
            go_round
            case rel => exact ⟨k + 1, by omega, by go_num, fun j hj => by
              by_cases he : j = k
              · subst he; exact HM.out
              · exact HN.out j (by omega)⟩
            case measure => simp [intOf]; omega
        · have hC0 : C = 14 := HC.out.trans (if_neg (by omega))
          have hV0 : V = 0 := by rw [HV.out, if_neg (by omega)]
          clear hle
          subst hC0 hV0
          go_wp2_with fail
          exact bodyPost_ret (v := .tuple #[.int .i64 0, .int .i64 14]) (by simp [results, Tryd.f27, go_sem]) rfl ⟨rfl, rfl⟩
      · exact absurd HK.out.2 (by omega)
  · have hC0 : C = 1 := by rw [hC]; unfold turnC; rw [if_neg hg]
    have hV0 : V = 0 := by rw [hV]; unfold turnV turnC; rw [if_neg hg, if_neg (by decide)]
    clear hV hC
    subst hC0 hV0
    rcases (show n < 1 ∨ 7 < n ∨ (1 ≤ n ∧ n ≤ 7 ∧ who < 0) ∨ (1 ≤ n ∧ n ≤ 7 ∧ 0 ≤ who ∧ n ≤ who) ∨ (1 ≤ n ∧ n ≤ 7 ∧ 0 ≤ who ∧ who < n ∧ fr < 0) by omega) with h | h | ⟨h1, h2, h3⟩ | ⟨h1, h2, h3, h4⟩ | ⟨h1, h2, h3, h4, h5⟩
    all_goals
      clear hg
      go_enter Tryd.func27, Tryd.ntmps27
      go_wp2_with fail
    all_goals exact bodyPost_ret (v := .tuple #[.int .i64 0, .int .i64 1]) (by simp [results, Tryd.f27, go_sem]) rfl ⟨rfl, rfl⟩

theorem turnC_le (n who fr : Int) : turnC n who fr ≤ 18 := by unfold turnC; repeat' split <;> try omega

set_option maxHeartbeats 1000000 in
set_option maxRecDepth 100000 in
theorem turnsTurns_walk (A : List Addr) (w : World) (h : Sents G18 78 A w) (n : Int) (_ : (Lit.int .i64 n).wf = true) (who : Int) (_ : (Lit.int .i64 who).wf = true) (fr : Int) (hf : (Lit.int .i64 fr).wf = true) :
    Calls Tryd.prog 8 #[.int .i64 n, .int .i64 who, .int .i64 fr] w fun e w' => e = .returned (.bool true) ∧ Below w.heap.size w w' := by
  have hf2 : fr ≤ 9223372036854775807 := by have := bounds_i64 hf; omega
  have HT := Lib.hid (turn_any A w h n who fr hf2)
  have HC := Lib.hid (turnC_le n who fr)
  have HR := Lib.hid (fun w => refTurn_any w n who fr hf2)
  have HS := Lib.hid h
  clear hf hf2 h
  generalize turnV n who fr = V at *
  generalize turnC n who fr = C at *
  go_enter Tryd.func8, Tryd.ntmps8
  go_wp2_with fail
  refine (alive12 _).mono ?_
  rintro e w1 ⟨rfl, rfl⟩
  go_wp2_with fail
  refine HT.out.mono ?_
  rintro e w1 ⟨rfl, hb⟩
  have HB := Lib.hid hb
  clear hb
  go_wp2_with fail
  refine (HR.out _).mono ?_
  rintro e w2 ⟨rfl, rfl⟩
  go_wp2_with fail
  refine (num_code A _ (HS.out.later HB.out) C HC.out).mono ?_
  rintro e w2 ⟨rfl, hb2⟩
  have HB2 := Lib.hid (HB.out.trans (hb2.mono HB.out.size))
  clear hb2
  go_wp2_with fail
  go_ret
  exact ⟨rfl, HB2.out⟩

end Go.Proofs.YtepcfjekijjagaaDoor
