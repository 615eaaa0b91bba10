/- A copy with marked room behind; whether it stands as it stood. -/
import Derived.Test.YtadonpfpneanhaaDoorM12
namespace Go.Proofs.YtadonpfpneanhaaDoor
open Go.RowKit

abbrev marks : List Int := [201, 202, 203, 204, 205, 206]
/-- A slice whose bytes are known, and six behind them. -/
def Marked (w : World) (v : Value) (xs : List Int) (g : Nat) : Prop :=
  ∃ cap, v = .slice (some ⟨g, 0, none⟩) xs.length cap ∧ xs.length + 6 ≤ cap ∧ cap ≤ maxLen ∧ ∀ j u, (u8s (xs ++ marks))[j]? = some u → w.cell? ⟨g, j, none⟩ = some u

theorem six_cells (w : World) : ∀ j u, (u8s marks)[j]? = some u → (w.alloc (.cells #[.int .u8 201, .int .u8 202, .int .u8 203, .int .u8 204, .int .u8 205, .int .u8 206] 5)).cell? ((⟨w.heap.size, 0, none⟩ : Addr).add j) = some u :=
  (World.ownsRow_lit w #[.int .u8 201, .int .u8 202, .int .u8 203, .int .u8 204, .int .u8 205, .int .u8 206] 6 (base := 0) (e := 5) (size := 1) (Nat.zero_le _) (by decide) rfl).cells rfl

set_option maxHeartbeats 4000000 in
set_option maxRecDepth 100000 in
theorem marked_any (w : World) (sl : Value) (xs : List Int) (hs : Src w sl xs) (hl : xs.length ≤ 1000) :
    Calls Tryd.prog 51 #[sl] w fun r w' => ∃ v g, r = .returned v ∧ Marked w' v xs g ∧ w.heap.size ≤ g ∧ g < w'.heap.size ∧ Below w.heap.size w w' := by
  obtain ⟨i0, hi, hz0, hz1, hz2⟩ := info_parts Tryd.info5
  have hmk := run_make (P := Tryd.prog) w 22 5 i0 (.int .u8 0) Tryd.underlying22 hi hz0 .i64 .i64 0 ((xs.length : Int) + 6) (by omega) (by omega) (by rw [hz2]; omega) (by omega)
  rw [hz1, Nat.mul_one] at hmk
  have hN : ((xs.length : Int) + 6).toNat = xs.length + 6 := by omega
  rw [hN] at hmk
  have hb0 := belowN w (.cells (madeCells (Value.int IntKind.u8 0).cells (xs.length + 6)) 5)
  have hown : (w.alloc (.cells (madeCells (Value.int IntKind.u8 0).cells (xs.length + 6)) 5)).ownsRow w.heap.size 5 1 (.slice (some ⟨w.heap.size, 0, none⟩) 0 (xs.length + 6)) 0 [] :=
    ⟨rfl, .inr ⟨w.heap.size, xs.length + 6, _, rfl, Nat.le_refl _, heap_alloc_new w _, Nat.zero_le _, by unfold maxLen; omega, by rw [Nat.mul_one]; exact size_madeCells _ _, rfl⟩⟩
  have hs0 := hs.below hb0
  have HB0 := Lib.hid hb0
  have hsz0 : w.heap.size ≤ (w.alloc (.cells (madeCells (Value.int IntKind.u8 0).cells (xs.length + 6)) 5)).heap.size := by simp
  clear hb0 hs
  generalize w.alloc (.cells (madeCells (Value.int IntKind.u8 0).cells (xs.length + 6)) 5) = w1 at *
  have hfin : ∀ (w2 w3 : World) (v2 v3 : Value), w2.ownsRow w.heap.size 5 1 v2 xs.length (u8s xs) → Below w.heap.size w w2 → (w2.alloc (.cells #[.int .u8 201, .int .u8 202, .int .u8 203, .int .u8 204, .int .u8 205, .int .u8 206] 5)).grownBy w3 v2.ownBlock → w3.ownsRow w.heap.size 5 1 v3 (xs.length + 6) (u8s xs ++ u8s marks) → ∃ g cap, v3 = .slice (some ⟨g, 0, none⟩) (xs.length + 6) cap ∧ xs.length ≤ cap ∧ Marked w3 (.slice (some ⟨g, 0, none⟩) xs.length cap) xs g ∧ w.heap.size ≤ g ∧ g < w3.heap.size ∧ Below w.heap.size w w3 := by
    intro w2 w3 v2 v3 ho2 hb2 hg3 ho3
    have hb3 : Below w.heap.size w w3 := (hb2.alloc hb2.size _).grown hg3 (by have := hb2.size; simp; omega) (fun g hg => (ho2.lt g hg).1)
    obtain ⟨h1, h2⟩ := ho3
    rcases h2 with ⟨_, h⟩ | ⟨g, cap, cur, rfl, hB, hg, hnc, hcm, hcs, htake⟩
    · omega
    · refine ⟨g, cap, rfl, by omega, ⟨cap, rfl, hnc, hcm, fun j u hj => ?_⟩, hB, (Array.getElem?_eq_some_iff.1 hg).1, hb3⟩
      rw [cell_of_blk hg]
      have hj2 : (u8s xs ++ u8s marks)[j]? = some u := by rw [← List.map_append]; exact hj
      rw [← htake, List.getElem?_take] at hj2
      split at hj2
      · rw [Array.getElem?_toList] at hj2
        exact hj2
      · cases hj2
  have HFIN := Lib.hid hfin
  clear hfin
  have hn1 : 0 + xs.length ≤ maxLen := by unfold maxLen; omega
  have hn2 : (0 + xs.length) * 1 ≤ 140737488355328 := by omega
  have hm1 : xs.length + 6 ≤ maxLen := by unfold maxLen; omega
  have hm2 : (xs.length + 6) * 1 ≤ 140737488355328 := by omega
  rcases hs0 with ⟨rfl, rfl⟩ | ⟨ad, c, rfl, hc1, hc2, hcs⟩
  · have ho2 : w1.ownsRow w.heap.size 5 1 (.slice (some ⟨w.heap.size, 0, none⟩) 0 6) ([] : List Int).length (u8s []) := hown
    have ho2a := ho2.alloc (.cells #[.int .u8 201, .int .u8 202, .int .u8 203, .int .u8 204, .int .u8 205, .int .u8 206] 5)
    have hsz2 : w.heap.size ≤ (w1.alloc (.cells #[.int .u8 201, .int .u8 202, .int .u8 203, .int .u8 204, .int .u8 205, .int .u8 206] 5)).heap.size := by simp; omega
    have HO2 := Lib.hid ho2
    simp only [List.length_nil, Nat.zero_add] at hown hm1 hm2 hmk ho2a HFIN
    rw [show ((0 : Nat) : Int) + 6 = 6 from rfl] at hmk
    simp only [Int.toNat_zero] at hmk
    clear ho2
    go_enter Tryd.func51, Tryd.ntmps51
    go_wp2_with (first
      | (at_builtin; refine wpList_append_own_none rfl (.tmp 7) (.tmp 8) 22 rfl w.heap.size 5 i0 1 Tryd.underlying22 hi _ 0 [] rfl hown rfl ?_; clear hmk hown; go_simp)
      | (at_builtin; refine wpList_append_own _ rfl (.tmp 9) (.tmp 10) 22 rfl w.heap.size 5 i0 (.int .u8 0) 1 1 Tryd.underlying22 hi hz0 hz1 hz2 rfl (by decide) _ 0 [] rfl ho2a ⟨w1.heap.size, 0, none⟩ 6 6 (u8s marks) rfl rfl (six_cells _) (u8s_oneCell marks) hm1 hm2 hsz2 ?_; intro v3 w3 hown3 hgrow3 _
         obtain ⟨g, cap, rfl, hcap, hM, hg1, hg2, hb3⟩ := HFIN.out _ _ _ _ HO2.out HB0.out hgrow3 hown3
         have HK := Lib.hid (And.intro hM (And.intro hg1 (And.intro hg2 hb3)))
         clear hown3 hgrow3 hM hg1 hg2 hb3 ho2a
         go_simp))
    exact bodyPost_ret (v := .slice (some ⟨g, 0, none⟩) 0 cap) (by simp [results, Tryd.f51, go_sem]) rfl ⟨_, g, rfl, HK.out⟩
  · go_enter Tryd.func51, Tryd.ntmps51
    go_wp2_with (first
      | (at_builtin; refine wpList_append_own _ rfl (.tmp 7) (.tmp 8) 22 rfl w.heap.size 5 i0 (.int .u8 0) 1 1 Tryd.underlying22 hi hz0 hz1 hz2 rfl (by decide) _ 0 [] rfl hown ad xs.length c (u8s xs) rfl (by simp) hcs (u8s_oneCell xs) hn1 hn2 hsz0 ?_; intro v' w2 hown' hgrow _
         have ho2 : w2.ownsRow w.heap.size 5 1 v' xs.length (u8s xs) := by simpa using hown'
         have hb2 : Below w.heap.size w w2 := HB0.out.grown hgrow hsz0 (fun g hg => (hown.lt g hg).1)
         have ho2a := ho2.alloc (.cells #[.int .u8 201, .int .u8 202, .int .u8 203, .int .u8 204, .int .u8 205, .int .u8 206] 5)
         have hsz2 : w.heap.size ≤ (w2.alloc (.cells #[.int .u8 201, .int .u8 202, .int .u8 203, .int .u8 204, .int .u8 205, .int .u8 206] 5)).heap.size := by have := hb2.size; simp; omega
         have HO2 := Lib.hid ho2
         have HB2 := Lib.hid hb2
         clear hown hown' hgrow hcs hmk ho2 hb2
         go_simp)
      | (at_builtin; refine wpList_append_own _ rfl (.tmp 9) (.tmp 10) 22 rfl w.heap.size 5 i0 (.int .u8 0) 1 1 Tryd.underlying22 hi hz0 hz1 hz2 rfl (by decide) _ xs.length (u8s xs) rfl ho2a ⟨w2.heap.size, 0, none⟩ 6 6 (u8s marks) rfl rfl (six_cells _) (u8s_oneCell marks) hm1 hm2 hsz2 ?_; intro v3 w3 hown3 hgrow3 _
         obtain ⟨g, cap, rfl, hcap, hM, hg1, hg2, hb3⟩ := HFIN.out _ _ _ _ HO2.out HB2.out hgrow3 hown3
         have HK := Lib.hid (And.intro hM (And.intro hg1 (And.intro hg2 hb3)))
         clear hown3 hgrow3 hM hg1 hg2 hb3 ho2a
         go_simp))
    exact bodyPost_ret (v := .slice (some ⟨g, 0, none⟩) xs.length cap) (by simp [results, Tryd.f51, go_sem]) rfl ⟨_, g, rfl, HK.out⟩

theorem Marked.below {w w' : World} {v : Value} {xs : List Int} {g : Nat} (h : Marked w v xs g) (hb : Below w.heap.size w w') : Marked w' v xs g := by
  obtain ⟨cap, rfl, h1, h2, h3⟩ := h
  exact ⟨cap, rfl, h1, h2, fun j u hj => (hb.cell (World.block_lt_of_cell? w _ (h3 j u hj))).trans (h3 j u hj)⟩
theorem add_at (g j : Nat) : (⟨g, 0, none⟩ : Addr).add j = ⟨g, j, none⟩ := by
  unfold Addr.add
  split
  · rename_i h; rw [h]
  · simp
theorem Marked.src {w : World} {xs : List Int} {g cap : Nat} (h : Marked w (.slice (some ⟨g, 0, none⟩) xs.length cap) xs g) : Src w (.slice (some ⟨g, 0, none⟩) xs.length cap) xs := by
  obtain ⟨cap', he, h1, h2, h3⟩ := h
  cases he
  refine .inr ⟨⟨g, 0, none⟩, cap, rfl, by omega, h2, fun j u hj => ?_⟩
  rw [add_at]
  refine h3 j u ?_
  unfold u8s at hj ⊢
  rw [List.map_append, List.getElem?_append_left (by exact (List.getElem?_eq_some_iff.1 hj).1)]
  exact hj

set_option maxHeartbeats 4000000 in
set_option maxRecDepth 100000 in
theorem kept_any (w : World) (v sb : Value) (xs : List Int) (g : Nat) (h : Marked w v xs g) (hs : Src w sb xs) (hl : xs.length ≤ 1000) :
    Calls Tryd.prog 54 #[v, sb] w fun r w' => r = .returned (.bool true) ∧ ∃ n, w' = w.drewN n := by
  obtain ⟨cap, rfl, h1, h2, h3⟩ := h
  have hM : Marked w (.slice (some ⟨g, 0, none⟩) xs.length cap) xs g := ⟨cap, rfl, h1, h2, h3⟩
  have hs1 : ∀ n, (convert 22 9 (.slice (some ⟨g, 0, none⟩) xs.length cap)).run Tryd.prog (w.drewN n) = .ok (.string (strOfNums xs)) (w.drewN n) := fun n => str_src (hM.src.below (below_drewN_self _ _ n))
  obtain ⟨a, c, rfl⟩ := hs.len
  have hs2 : ∀ n, (convert 22 9 (.slice a xs.length c)).run Tryd.prog (w.drewN n) = .ok (.string (strOfNums xs)) (w.drewN n) := fun n => str_src (hs.below (below_drewN_self _ _ n))
  have H3 : Hid (∀ i : Nat, i < 6 → w.cell? ⟨g, xs.length + i, none⟩ = some (.int .u8 (201 + i))) := fun i hi => by
    refine h3 _ _ ?_
    unfold u8s
    rw [List.map_append, List.getElem?_append_right (by simp)]
    simp only [List.length_map, Nat.add_sub_cancel_left]
    match i, hi with
    | 0, _ => rfl
    | 1, _ => rfl
    | 2, _ => rfl
    | 3, _ => rfl
    | 4, _ => rfl
    | 5, _ => rfl
    | n + 6, h => omega
  unfold maxLen at h2
  have e1 : IntKind.i64.wrap ((xs.length : Int) + 6) = (xs.length : Int) + 6 := IntWalk.i64_in _ (by omega)
  have e2 : (decide ((cap : Int) < (xs.length : Int) + 6)) = false := by simp; omega
  have e3 : xs.length ≤ cap := by omega
  have e4 : (xs.length : Int) ≤ cap := by omega
  clear h3 hM hs
  go_enter Tryd.func54, Tryd.ntmps54
  go_wp2_with fail
  go_quiet (fail)
  go_wp2_with fail
  go_loopw [6] (fun i wr => ∃ k n : Nat, k ≤ 6 ∧ i = .int .i64 k ∧ wr = w.drewN n) (fun i _ => 6 - (intOf i).toNat)
  case atStart => exact ⟨0, _, Nat.zero_le _, rfl, rfl⟩
  case round =>
    obtain ⟨k, n, hk, rfl, rfl⟩ := hrel
    by_cases hlt : k < 6
    · have hc := H3.out k hlt
      have hu8 : IntKind.u8.wrap (201 + (k : Int)) = 201 + (k : Int) := by simp [IntKind.wrap, IntKind.signed, IntKind.bits]; omega
      have hil : xs.length + k < cap := by omega
      clear hs1 hs2 e1 e2
      go_wp2_with fail
      go_roundw
      case rel => exact ⟨k + 1, _, by omega, by go_num, rfl⟩
      case measure => simp [intOf]; omega
    · have hke : k = 6 := by omega
      go_wp2_with fail
      go_ret
      exact ⟨rfl, _, rfl⟩

end Go.Proofs.YtadonpfpneanhaaDoor
