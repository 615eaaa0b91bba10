/- The walks of PaceOld and PaceRises: they answer true at every input. -/
import Derived.Test.YtepcfjekijjagaaDoorA3
import Derived.Outline
import Derived.OpenShut
import Derived.Lib.Hide
namespace Go.Proofs.YtepcfjekijjagaaDoor
open Go.RowKit Go.ChangeShapes

/-- A slice of ints that came in: nil, or a row of cells at a block. -/
def IntsAt (w : World) (a : Option Addr) (len cap : Nat) (zs : List Int) : Prop :=
  len ≤ cap ∧ cap ≤ maxLen ∧ zs.length = cap ∧ (∀ n ∈ zs, (Lit.int .i64 n).wf = true) ∧ (0 < len → ∃ b off, a = some ⟨b, off, none⟩ ∧ b < w.heap.size ∧ ∀ i, i < len → w.cell? ⟨b, off + i, none⟩ = some (.int .i64 (zs.getD i 0)))
theorem ints_open {H : Type} {enc : TypeId × Value → H} {P : Program} {W : World} {base : Nat} {held : Bool} {t e : TypeId} {a : Option Addr} {len cap : Nat} {d : DataW H} {ps : List MemPlace}
    (ht : P.underlying t = some (.slice e)) (he : P.underlying e = some (.int .i64)) (hc : P.cellsOf e = 1) (h : DataW.Trod enc P W base (fun _ => true) held t (.slice a len cap) d ps) : ∃ zs, IntsAt W a len cap zs := by
  obtain ⟨fuel, hf⟩ := h
  rcases open_ints ht he hc hf with ⟨hcs, _⟩ | ⟨x, l, c, zs, hcs, _, hl, hm, hz, _, hcell, hwz⟩
  · simp [Value.cells] at hcs
    obtain ⟨rfl, rfl, rfl⟩ := hcs
    exact ⟨[], Nat.le_refl _, Nat.zero_le _, rfl, fun n h => (by cases h), fun h => absurd h (by omega)⟩
  · simp [Value.cells] at hcs
    obtain ⟨rfl, rfl, rfl⟩ := hcs
    have hz' : zs.length = cap := by simpa using hz
    refine ⟨zs, hl, hm, hz', hwz, fun h0 => ?_⟩
    obtain ⟨b, off, rfl, hc'⟩ := ints_at hcell (by omega)
    have h1 := hc' 0 (by omega)
    exact ⟨b, off, rfl, lt_of_cell h1, fun i hi => hc' i (by omega)⟩

set_option maxHeartbeats 1000000 in
set_option maxRecDepth 100000 in
theorem paceOld_walk (u0 u1 : TypeId) (v0 v1 : Value) (round ticks : Int) (a : Option Addr) (len cap : Nat) (zs : List Int) (w : World) (hi : IntsAt w a len cap zs) (he : Errs2 w u0 u1 v0 v1) (hz : 2 ≤ w.heap.size) :
    Calls Tryd.prog 6 #[.int .i64 round, .int .i64 ticks, .slice a len cap] w fun e w' => e = .returned (.bool true) ∧ Below w.heap.size w w' := by
  obtain ⟨hlc, hcm, hzl, hwf, hcells⟩ := hi
  unfold maxLen at hcm
  by_cases hlen : 60 < len
  · clear hcells hwf
    go_enter Tryd.func6, Tryd.ntmps6
    go_wp2_with fail
    refine (alive16 u0 u1 v0 v1 w he hz).mono ?_
    rintro e w1 ⟨rfl, b1⟩
    go_wp2_with fail
    go_ret
    exact ⟨rfl, b1⟩
  obtain ⟨N, hN, hN100⟩ := small_mod round 100 (by omega) (by omega)
  have hev : (Int.tmod ticks 2 == 0) = true ∨ (Int.tmod ticks 2 == 0) = false := by cases (Int.tmod ticks 2 == 0) <;> simp
  have HN : Hid (wrap64 ((IntKind.u64.wrap round).tmod 100) = ↑N) := hN
  clear hN
  go_enter Tryd.func6, Tryd.ntmps6
  go_wp2_with fail
  refine (alive16 u0 u1 v0 v1 w he hz).mono ?_
  rintro e w1 ⟨rfl, b1⟩
  have he1 := he.below b1 (by omega)
  have hz1 := b1.size
  go_wp2_with fail
  rw [HN.out, show wrap64 (2 + (N : Int)) = 2 + (N : Int) by unfold wrap64; omega]
  refine (new_any _ _ (by omega) (by omega)).mono ?_
  rintro e w2 ⟨rfl, p2, b2⟩
  have he2 := he1.below b2 (by omega)
  rcases hev with hev | hev
  case' inl =>
    go_wp2_with fail
    refine (tick_no _ _ _ _ _ p2 (by omega) (by omega) (by decide)).mono ?_
    rintro e w3 ⟨rfl, p3, b3⟩
    go_wp2_with fail
    obtain ⟨tk, hp, ht0, ht1⟩ : ∃ tk : Int, PaceAt w3 w1.heap.size (2 + N) 0 tk ∧ 0 ≤ tk ∧ tk ≤ 1 := ⟨_, p3, by omega, by omega⟩
    have hee := he2.below b3 (by omega)
    have hbb := b2.trans b3
    clear p3 b3 p2 b2 he2
    refine (left_any _ _ _ _ _ hp (by omega) (by omega) (by omega)).mono ?_
    rintro e w4 ⟨rfl, n, rfl⟩
    go_wp2_with fail
  case' inr =>
    go_wp2_with fail
    obtain ⟨tk, hp, ht0, ht1⟩ : ∃ tk : Int, PaceAt w2 w1.heap.size (2 + N) 0 tk ∧ 0 ≤ tk ∧ tk ≤ 1 := ⟨_, p2, by omega, by omega⟩
    have hee := he2
    have hbb := b2
    clear p2 b2 he2
    obtain ⟨w3, rfl⟩ : ∃ w3, w3 = w2 := ⟨_, rfl⟩
    refine (left_any _ _ _ _ _ hp (by omega) (by omega) (by omega)).mono ?_
    rintro e w4 ⟨rfl, n, rfl⟩
    go_wp2_with fail
  all_goals
    have hpn := hp.drewN n
    have hen := hee.below (below_drewN_self 2 w3 n) (by omega)
    have hbn : Below w1.heap.size w1 (w3.drewN n) := hbb.trans (below_drewN_self _ _ n)
    have hsz : 2 ≤ w1.heap.size := by omega
    have hcells1 : 0 < len → ∃ b off, a = some ⟨b, off, none⟩ ∧ b < w1.heap.size ∧ ∀ i, i < len → w1.cell? ⟨b, off + i, none⟩ = some (.int .i64 (zs.getD i 0)) := fun h0 => by
      obtain ⟨b, off, e1, e2, e3⟩ := hcells h0
      exact ⟨b, off, e1, by omega, fun i hi => (b1.cell (p := ⟨b, off + i, none⟩) e2).trans (e3 i hi)⟩
    have HC := Lib.hid hcells1
    clear hcells hcells1 hp hee hbb hwf
    go_loopw [42] (fun i wr => ∃ k : Nat, k ≤ len ∧ i = .int .i64 k ∧ PaceAt wr w1.heap.size (2 + N) 0 tk ∧ Errs2 wr u0 u1 v0 v1 ∧ Below w1.heap.size w1 wr)
      (fun i _ => len - (intOf i).toNat)
    case atStart => exact ⟨0, by omega, rfl, hpn, hen, hbn⟩
    case round =>
      obtain ⟨k, hk, rfl, hp, hee, hbb⟩ := hrel
      by_cases hlt : k < len
      · obtain ⟨b, off, rfl, hb, hc⟩ := HC.out (by omega)
        have hck := (hbb.cell (p := ⟨b, off + k, none⟩) hb).trans (hc k hlt)
        clear hc
        obtain ⟨M, hM, hMN⟩ := small_mod (zs[k]?.getD 0) (2 + N) (by omega) (by omega)
        have hR : IntKind.u64.wrap (2 + (N : Int)) = 2 + (N : Int) := by rw [IntKind.wrap_u64]; omega
        have HM : Hid (wrap64 ((IntKind.u64.wrap (zs[k]?.getD 0)).tmod (2 + ↑N)) = ↑M) := hM
        clear hM
        go_wp2_with fail
        rw [HM.out]
        refine (QC_old u0 u1 v0 v1 _ _ _ _ _ _ hp hee (by omega) (by omega) (by omega)).mono ?_
        rintro e w4 ⟨rfl, p4, b4⟩
        have e4 := hee.below b4 (by omega)
        go_wp2_with fail
        refine (TC_old u0 u1 v0 v1 _ _ _ _ _ _ p4 e4 (by omega) (by omega) (by omega) (by omega) (by omega)).mono ?_
        rintro e w5 ⟨rfl, p5, b5⟩
        have e5 := e4.below b5 (by omega)
        have bb5 := (hbb.trans b4).trans b5
        go_wp2_with fail
        go_roundw
        case rel => first | exact ⟨k + 1, by omega, by go_num, p5, e5, bb5⟩ | ((repeat apply Exists.intro); exact ⟨⟨k + 1, by omega, rfl, p5, e5, bb5⟩, rfl⟩)
        case measure => simp [intOf]; omega
      · obtain rfl : k = len := by omega
        go_wp2_with fail
        refine (round_any _ _ _ _ _ hp).mono ?_
        rintro e w4 ⟨rfl, rfl⟩
        go_wp2_with fail
        refine (left_any _ _ _ _ _ hp (by omega) (by omega) (by omega)).mono ?_
        rintro e w5 ⟨rfl, n5, rfl⟩
        go_wp2_with fail
        refine (fails_any _ _ _ _ _ (hp.drewN n5)).mono ?_
        rintro e w6 ⟨rfl, rfl⟩
        go_wp2_with fail
        go_ret
        exact ⟨rfl, b1.trans ((hbb.trans (below_drewN_self _ _ n5)).mono (by omega))⟩

theorem waitOf_four (f : Int) : waitOf f = 2 ∨ waitOf f = 4 ∨ waitOf f = 8 ∨ waitOf f = 16 := by
  unfold waitOf
  repeat' split <;> try omega
theorem told_no {W : Int} (hW : W = 2 ∨ W = 4 ∨ W = 8 ∨ W = 16) {j : Nat} (h : (j : Int) % W + 1 < W) : ((j + 1 : Nat) : Int) / W = (j : Int) / W ∧ ((j + 1 : Nat) : Int) % W = (j : Int) % W + 1 := by
  rcases hW with rfl | rfl | rfl | rfl <;> omega
theorem told_yes {W : Int} (hW : W = 2 ∨ W = 4 ∨ W = 8 ∨ W = 16) {j : Nat} (h : ¬ (j : Int) % W + 1 < W) : ((j + 1 : Nat) : Int) / W = (j : Int) / W + 1 ∧ ((j + 1 : Nat) : Int) % W = 0 := by
  rcases hW with rfl | rfl | rfl | rfl <;> omega
theorem told_in {W : Int} (hW : W = 2 ∨ W = 4 ∨ W = 8 ∨ W = 16) (j : Nat) : 0 ≤ (j : Int) % W ∧ (j : Int) % W < 16 ∧ 0 ≤ (j : Int) / W ∧ (j : Int) / W ≤ j := by
  rcases hW with rfl | rfl | rfl | rfl <;> omega

set_option maxHeartbeats 1000000 in
set_option maxRecDepth 100000 in
theorem paceRises_walk (u0 u1 : TypeId) (v0 v1 : Value) (a : Option Addr) (len cap : Nat) (zs : List Int) (ticks : Int) (w : World) (hi : IntsAt w a len cap zs) (he : Errs2 w u0 u1 v0 v1) (hz : 2 ≤ w.heap.size) :
    Calls Tryd.prog 4 #[.slice a len cap, .int .i64 ticks] w fun e w' => e = .returned (.bool true) ∧ Below w.heap.size w w' := by
  obtain ⟨hlc, hcm, hzl, hwf, hcells⟩ := hi
  unfold maxLen at hcm
  by_cases hlen : 100 < len
  · clear hcells hwf
    go_enter Tryd.func4, Tryd.ntmps4
    go_wp2_with fail
    refine (alive16 u0 u1 v0 v1 w he hz).mono ?_
    rintro e w1 ⟨rfl, b1⟩
    go_wp2_with fail
    go_ret
    exact ⟨rfl, b1⟩
  obtain ⟨N, hN, hN100⟩ := small_mod ticks 100 (by omega) (by omega)
  have HN : Hid (wrap64 ((IntKind.u64.wrap ticks).tmod 100) = ↑N) := hN
  clear hN
  go_enter Tryd.func4, Tryd.ntmps4
  go_wp2_with fail
  refine (alive16 u0 u1 v0 v1 w he hz).mono ?_
  rintro e w1 ⟨rfl, b1⟩
  have he1 := he.below b1 (by omega)
  have hz1 := b1.size
  go_wp2_with fail
  refine (new_any _ _ (by omega) (by omega)).mono ?_
  rintro e w2 ⟨rfl, p2, b2⟩
  have he2 := he1.below b2 (by omega)
  go_wp2_with fail
  have hsz : 2 ≤ w1.heap.size := by omega
  have hcells1 : 0 < len → ∃ b off, a = some ⟨b, off, none⟩ ∧ b < w1.heap.size ∧ ∀ i, i < len → w1.cell? ⟨b, off + i, none⟩ = some (.int .i64 (zs.getD i 0)) := fun h0 => by
    obtain ⟨b, off, e1, e2, e3⟩ := hcells h0
    exact ⟨b, off, e1, by omega, fun i hi => (b1.cell (p := ⟨b, off + i, none⟩) e2).trans (e3 i hi)⟩
  have HC := Lib.hid hcells1
  clear hcells hcells1 hwf
  go_loopw [7, 27] (fun l i wr => ∃ (k : Nat) (r f : Int), k ≤ len ∧ i = .int .i64 k ∧ l = .int .i64 r ∧ 1 ≤ r ∧ r ≤ 1099511627776 ∧ 0 ≤ f ∧ f ≤ k ∧ PaceAt wr w1.heap.size r f 0 ∧ Errs2 wr u0 u1 v0 v1 ∧ Below w1.heap.size w1 wr)
    (fun _ i _ => len - (intOf i).toNat)
  case atStart => exact ⟨0, 1, 0, by omega, rfl, rfl, by omega, by omega, by omega, by omega, p2, he2, b2⟩
  case round =>
    obtain ⟨k, r, f, hk, rfl, rfl, hr1, hr2, hf0, hfk, hp, hee, hbb⟩ := hrel
    by_cases hlt : k < len
    · obtain ⟨b, off, rfl, hb, hc⟩ := HC.out (by omega)
      have hck := (hbb.cell (p := ⟨b, off + k, none⟩) hb).trans (hc k hlt)
      clear hc
      by_cases hev : (k : Int) % 2 = 0
      · have hev2 : ((k : Int) % 2 == 0) = true := by simpa using hev
        clear hev
        go_wp2_with fail
        refine (QC_any u0 u1 v0 v1 _ _ _ _ _ _ hp hee).mono ?_
        rintro e w4 (⟨rfl, h2, p4, b4⟩ | ⟨rfl, h2, h3, h4, p4, b4⟩)
        · clear h2
          have e4 := hee.below b4 (by omega)
          go_wp2_with (go_at_call 18; refine (round_any _ _ _ _ _ p4).mono ?_; rintro e w5 ⟨rfl, rfl⟩)
          go_roundw
          case rel => exact ⟨k + 1, r, f, by omega, by go_num, rfl, by omega, by omega, by omega, by omega, p4, e4, hbb.trans b4⟩
          case measure => simp [intOf]; omega
        · have e4 := hee.below b4 (by omega)
          have hd : decide (r < zs[k]?.getD 0 + 1) = true := by simp; omega
          go_wp2_with (go_at_call 18; refine (round_any _ _ _ _ _ p4).mono ?_; rintro e w5 ⟨rfl, rfl⟩)
          go_roundw
          case rel => exact ⟨k + 1, _, _, by omega, by go_num, rfl, by omega, by omega, by omega, by omega, p4, e4, hbb.trans b4⟩
          case measure => simp [intOf]; omega
      · have hev2 : ((k : Int) % 2 == 0) = false := by simpa using hev
        clear hev
        go_wp2_with fail
        refine (TC_any u0 u1 v0 v1 _ _ _ _ _ _ hp hee (by omega) (by omega)).mono ?_
        rintro e w4 (⟨rfl, h2, p4, b4⟩ | ⟨rfl, h2, h3, h4, p4, b4⟩)
        · clear h2
          have e4 := hee.below b4 (by omega)
          go_wp2_with (go_at_call 18; refine (round_any _ _ _ _ _ p4).mono ?_; rintro e w5 ⟨rfl, rfl⟩)
          go_roundw
          case rel => exact ⟨k + 1, r, f, by omega, by go_num, rfl, by omega, by omega, by omega, by omega, p4, e4, hbb.trans b4⟩
          case measure => simp [intOf]; omega
        · have e4 := hee.below b4 (by omega)
          have hd : decide (r < zs[k]?.getD 0 + 1) = true := by simp; omega
          go_wp2_with (go_at_call 18; refine (round_any _ _ _ _ _ p4).mono ?_; rintro e w5 ⟨rfl, rfl⟩)
          go_roundw
          case rel => exact ⟨k + 1, _, _, by omega, by go_num, rfl, by omega, by omega, by omega, by omega, p4, e4, hbb.trans b4⟩
          case measure => simp [intOf]; omega
    · have wi := waitOf_in f
      have w4 := waitOf_four f
      go_wp2_with fail
      refine (left_any _ _ _ _ _ hp (by omega) (by omega) (by omega)).mono ?_
      rintro e w5 ⟨rfl, n5, rfl⟩
      go_wp2_with fail
      rw [HN.out]
      have hp5 := hp.drewN n5
      have hb5 : Below w1.heap.size w1 (wr.drewN n5) := hbb.trans (below_drewN_self _ _ n5)
      clear hp hbb hee
      obtain ⟨W, hW⟩ : ∃ W, W = waitOf f := ⟨_, rfl⟩
      rw [← hW] at w4 wi ⊢
      have HW := Lib.hid hW
      clear hW
      obtain ⟨wo, hwo⟩ : ∃ wo, wo = wr.drewN n5 := ⟨_, rfl⟩
      rw [← hwo] at hp5 hb5 ⊢
      clear hwo
      go_loopw [13, 69] (fun t i ws => ∃ j : Nat, j ≤ N ∧ i = .int .i64 j ∧ t = .int .i64 ((j : Int) / W) ∧ PaceAt ws w1.heap.size r f ((j : Int) % W) ∧ Below w1.heap.size w1 ws)
        (fun _ i _ => N - (intOf i).toNat)
      case atStart =>
        refine ⟨0, by omega, rfl, ?_, ?_, hb5⟩
        · simp
        · simpa using hp5
      case round =>
        obtain ⟨j, hj, rfl, rfl, hp, hbb⟩ := hrel
        have hti := told_in w4 j
        by_cases hlt : j < N
        · by_cases hx : (j : Int) % W + 1 < W
          · obtain ⟨e1, e2⟩ := told_no w4 hx
            have E1 := Lib.hid e1
            clear e1
            have hx2 : (j : Int) % W + 1 < waitOf f := by rw [← HW.out]; exact hx
            go_wp2_with fail
            refine (tick_no _ _ _ _ _ hp (by omega) (by omega) hx2).mono ?_
            rintro e w6 ⟨rfl, p6, b6⟩
            go_wp2_with fail
            go_roundw
            case rel => exact ⟨j + 1, by omega, by go_num, by rw [E1.out], by rw [e2]; exact p6, hbb.trans b6⟩
            case measure => simp [intOf]; omega
          · obtain ⟨e1, e2⟩ := told_yes w4 hx
            have E1 := Lib.hid e1
            have E2 := Lib.hid e2
            clear e1 e2
            have hx2 : waitOf f ≤ (j : Int) % W + 1 := by rw [← HW.out]; omega
            go_wp2_with fail
            refine (tick_yes _ _ _ _ _ hp (by omega) (by omega) (by omega) hx2).mono ?_
            rintro e w6 ⟨rfl, p6, b6⟩
            go_wp2_with fail
            go_roundw
            case rel => exact ⟨j + 1, by omega, by go_num, by rw [E1.out], by rw [E2.out]; exact p6, hbb.trans b6⟩
            case measure => simp [intOf]; omega
        · obtain rfl : j = N := by omega
          go_wp2_with fail
          go_ret
          exact ⟨rfl, b1.trans (hbb.mono (by omega))⟩

theorem paceOld_law (A : List Addr) (w : World) (h : Sents [0, 1] 78 A w) (round : Int) (_ : (Lit.int .i64 round).wf = true) (ticks : Int) (_ : (Lit.int .i64 ticks).wf = true) (a : Option Addr) (len cap : Nat) (zs : List Int) (hi : IntsAt w a len cap zs) :
    Calls Tryd.prog 6 #[.int .i64 round, .int .i64 ticks, .slice a len cap] w fun e w' => e = .returned (.bool true) ∧ Below w.heap.size w w' := by
  obtain ⟨v0, v1, he, hz⟩ := errs2_of h
  exact paceOld_walk 78 78 v0 v1 round ticks a len cap zs w hi he hz
theorem paceRises_law (A : List Addr) (w : World) (h : Sents [0, 1] 78 A w) (a : Option Addr) (len cap : Nat) (zs : List Int) (hi : IntsAt w a len cap zs) (ticks : Int) (_ : (Lit.int .i64 ticks).wf = true) :
    Calls Tryd.prog 4 #[.slice a len cap, .int .i64 ticks] w fun e w' => e = .returned (.bool true) ∧ Below w.heap.size w w' := by
  obtain ⟨v0, v1, he, hz⟩ := errs2_of h
  exact paceRises_walk 78 78 v0 v1 a len cap zs ticks w hi he hz

end Go.Proofs.YtepcfjekijjagaaDoor
