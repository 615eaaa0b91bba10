/- The walk of WireNests: lists of lists are read as they were written. -/
import Derived.Test.YtadonpfpneanhaaDoorP6
namespace Go.Proofs.YtadonpfpneanhaaDoor
open Go.RowKit

set_option maxHeartbeats 4000000 in
set_option maxRecDepth 100000 in
theorem wireNests_walk (A : List Addr) (w : World) (h : Ers3 A w) (b : Option Addr) (n c : Nat) (sx : (Nat → Value) × (Nat → List Int)) (hz : ListsAt w b n c sx.1 sx.2) :
    Calls Tryd.prog 7 #[.slice b n c] w fun e w' => e = .returned (.bool true) ∧ Below w.heap.size w w' := by
  obtain ⟨s, x⟩ := sx
  simp only at hz
  have HB : Hid (∀ W', Below w.heap.size w W' → Ers3 A W') := fun W' hW => h.later hW
  have HZ := Lib.hid hz
  have H4 := Lib.hid h.size
  have hn2 : (n : Int) ≤ 9223372036854775807 := by
    have := Nat.le_trans hz.1 hz.2.1
    unfold maxLen at this
    omega
  have HAL := Lib.hid (alive01 A w h.ers)
  clear hz h
  by_cases h40 : 40 < n
  · go_enter Tryd.func7, Tryd.ntmps7
    go_wp2_with fail
    refine HAL.out.mono ?_
    rintro e w1 ⟨rfl, b1⟩
    go_wp2_with fail
    go_ret
    exact ⟨rfl, b1⟩
  go_enter Tryd.func7, Tryd.ntmps7
  go_wp2_with fail
  refine HAL.out.mono ?_
  rintro e w1 ⟨rfl, b1⟩
  have B1 := Lib.hid b1
  clear b1 HAL
  go_wp2_with fail
  go_loopw [17] (fun i wr => ∃ k : Nat, k ≤ n ∧ i = .int .i64 k ∧ (∀ i, i < k → (x i).length ≤ 200) ∧ wr = w1) (fun i _ => n - (intOf i).toNat)
  case atStart => exact ⟨0, Nat.zero_le _, rfl, fun i hi => absurd hi (by omega), rfl⟩
  case round =>
    obtain ⟨k, hk, rfl, hall, rfl⟩ := hrel
    have HA := Lib.hid hall
    clear hall
    by_cases hlt : k < n
    · obtain ⟨_, _, hsr, hcs⟩ := HZ.out.below B1.out
      obtain ⟨bb, off, rfl, hbl, hcell⟩ := hcs (by omega)
      have k0 := hcell k hlt
      obtain ⟨a4, c4, h4⟩ := (hsr k hlt).1.len
      rw [h4] at k0
      have hLm : ((x k).length : Int) ≤ 9223372036854775807 := by
        rcases (hsr k hlt).1 with ⟨_, h⟩ | ⟨_, c, _, h1, h2, _⟩
        · rw [h]; simp
        · unfold maxLen at h2; omega
      generalize hL : (x k).length = L at *
      have HL := Lib.hid hL
      clear hsr hcs hcell h4 hL
      by_cases h2 : 200 < L
      · go_wp2_with fail
        go_ret
        exact ⟨rfl, B1.out⟩
      · go_wp2_with fail
        go_roundw
        case rel => exact ⟨k + 1, by omega, by go_num, fun i hi => by
          rcases Nat.lt_succ_iff_lt_or_eq.1 hi with h | rfl
          · exact HA.out i h
          · have := HL.out; omega, by first | rfl | trivial⟩
        case measure => simp [intOf]; omega
    · have hke : k = n := by omega
      subst hke
      have hx : ∀ i, i < k → (x i).length ≤ 200 ∧ ∀ y ∈ x i, 0 ≤ y ∧ y < 256 := fun i hi => ⟨HA.out i hi, (HZ.out.2.2.1 i hi).2⟩
      have HX := Lib.hid hx
      clear hx HA
      go_wp2_with fail
      refine (new_writer _).mono ?_
      rintro e w3 ⟨rfl, rfl⟩
      have hwr := Wr.new wr
      have hb3 := belowN wr (.cells #[.nilIface, .slice none 0 0] 92)
      have B3 := Lib.hid (belowT B1.out hb3 (Nat.le_refl _))
      have hpB : w.heap.size ≤ wr.heap.size := B1.out.size
      generalize wr.alloc (.cells #[.nilIface, .slice none 0 0] 92) = W3 at *
      generalize hpp : wr.heap.size = p at *
      have HPUT := Lib.hid (put_lists A W3 p noV [] b k c s x (HB.out _ B3.out).ers hwr ⟨by have := H4.out; omega, fun g hg => by simp [Value.ownBlock] at hg⟩ (by simp) (HZ.out.below B3.out) (by omega) (fun i hi => (HX.out i hi).1)
        (fun i hi => (HZ.out.2.2.1 i hi).1.away hpB (fun g hg => by simp [Value.ownBlock] at hg)) (fun h0 b' off' he => by
          obtain ⟨b2, off2, he2, hlt2, _⟩ := HZ.out.2.2.2 h0
          rw [he2] at he
          cases he
          exact ⟨by omega, fun e => by simp [Value.ownBlock] at e⟩))
      clear hwr hb3
      go_wp2_with fail
      refine HPUT.out.mono ?_
      rintro r w4 ⟨rfl, v4, hW4, hU4⟩
      obtain ⟨hb4, ho4⟩ := hU4.below (B := w.heap.size) hpB B3.out.size (fun g hg => by simp [Value.ownBlock] at hg)
      have B4 := Lib.hid (B3.out.trans hb4)
      rw [List.nil_append] at hW4
      have hle := nestB_le x k (fun i hi => (HX.out i hi).1) k (Nat.le_refl _)
      have HD := Lib.hid (done_ok w4 p v4 _ hW4 (by simp only [List.length_cons]; omega))
      have HLE := Lib.hid hle
      clear hW4 hU4 hb4 ho4 hle HPUT
      go_wp2_with fail
      refine HD.out.mono ?_
      rintro r w5 ⟨v5, rfl, ho, hb5⟩
      have B5 := Lib.hid (belowT B4.out hb5 (Nat.le_refl _))
      have HNR := Lib.hid (new_reader w5 v5 _ (Src.of_own ho) (fun y hy => by
        rcases List.mem_cons.1 hy with h | h
        · omega
        · exact nestB_in x k HX.out k (Nat.le_refl _) y h) (by have := HLE.out; simp only [List.length_cons]; omega))
      clear ho hb5 HD
      go_wp2_with fail
      refine HNR.out.mono ?_
      rintro e w6 ⟨q, sl, rfl, hq, hR, hb6⟩
      have B6 := Lib.hid (belowT B5.out hb6 (Nat.le_refl _))
      have hqB : w.heap.size ≤ q := Nat.le_trans B5.out.size hq
      have hE6 : Eye A w6 q sl ⟨0, (k : Int) :: nestB x k⟩ := ⟨(HB.out _ B6.out).ers, hR, by have := HLE.out; simp only [List.length_cons]; omega, by have := H4.out; omega⟩
      have HTK := Lib.hid (take_lists A w6 q sl k x hE6 (by omega) HX.out)
      clear hR hb6 HNR hq hE6
      go_wp2_with fail
      refine HTK.out.mono ?_
      rintro e w7 ⟨v7, vals, sl7, rfl, hT, hE7, hU7⟩
      obtain ⟨hb7, -⟩ := hU7.below (B := w.heap.size) hqB B6.out.size (fun g hg => by simp [Value.ownBlock] at hg)
      have B7 := Lib.hid (B6.out.trans hb7)
      have hd := rdone_any A w7 (HB.out _ B7.out).long q sl7 ⟨0, []⟩ hE7.rd
      rw [show RS.fin ⟨0, []⟩ = 0 from rfl, errV_zero] at hd
      have HD7 := Lib.hid hd
      have hv7 : ∃ va vc, v7 = .slice va k vc := by
        rcases hT.own.2 with ⟨rfl, rfl⟩ | ⟨g, cap, cur, rfl, _⟩
        · exact ⟨none, 0, rfl⟩
        · exact ⟨_, _, rfl⟩
      obtain ⟨va, vc, rfl⟩ := hv7
      have HSM := Lib.hid (same_lists w7 va b k vc c (fun i => vals.getD i undef) s x (by omega) (fun i hi => by
        have hlen := hT.len
        have hgi : vals[i]? = some (vals.getD i undef) := by rw [List.getD_eq_getElem?_getD, List.getElem?_eq_getElem (by omega)]; rfl
        rcases hT.own.2 with ⟨_, h0⟩ | ⟨g, cap, cur, he, _⟩
        · omega
        · have he1 : va = some ⟨g, 0, none⟩ := by injection he
          subst he1
          exact ⟨_, rfl, hT.own.cells rfl i _ hgi, Src.of_own (hT.each i _ hgi).1⟩) (fun i hi => by
        obtain ⟨_, _, hsr, hcs⟩ := HZ.out.below B7.out
        obtain ⟨bb, off, he, hbl, hcell⟩ := hcs (by omega)
        refine ⟨⟨bb, off, none⟩, he, ?_, (hsr i hi).1⟩
        have hcell2 := hcell i hi
        rw [Go.WideShapes.add_plain]
        exact hcell2))
      clear hT hE7 hU7 hb7 hd HTK
      go_wp2_with fail
      refine HD7.out.mono ?_
      rintro r w8 ⟨rfl, rfl⟩
      go_wp2_with fail
      refine HSM.out.mono ?_
      rintro r w9 ⟨rfl, hb9⟩
      have B9 := Lib.hid (belowT B7.out hb9 (Nat.le_refl _))
      clear hb9
      go_wp2_with fail
      go_ret
      exact ⟨rfl, B9.out⟩

end Go.Proofs.YtadonpfpneanhaaDoor
