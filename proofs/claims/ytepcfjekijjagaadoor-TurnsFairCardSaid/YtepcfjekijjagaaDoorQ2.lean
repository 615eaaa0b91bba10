/- The iterator of rounds and leaders: its contract. -/
import Derived.Test.YtepcfjekijjagaaDoorA1
import Derived.Test.YtepcfjekijjagaaDoorQ1
import Derived.Lib.Hide
import Derived.RegionIn
import Derived.Sort.QuietThIn
import Derived.Stop.RegionWithIn
namespace Go.Proofs.YtepcfjekijjagaaDoor
open Go.RowKit
attribute [local go_sem] Oper.semAt_some

def GoodP (n r : Int) : Prop := 1 ≤ n ∧ n ≤ 7 ∧ 0 ≤ r
/-- Round number i from r on, and its leader. -/
abbrev encR (n r : Int) (i : Nat) : Array Value := #[.int .i64 (r + i), .int .i64 (leaderOf n (r + i))]
structure FromAt (w : World) (cn c : Nat) (n x : Int) : Prop where
  c0 : w.cell? ⟨cn, 0, none⟩ = some (.int .i64 n)
  c1 : w.cell? ⟨c, 0, none⟩ = some (.int .i64 x)
  z1 : w.frozen? ⟨c, 0, none⟩ = false
def cellInt (w : World) (c : Nat) : Int := intOf ((w.cell? ⟨c, 0, none⟩).getD undef)

theorem leader_good {n r : Int} (h : GoodP n r) (i : Nat) : leaderOf n (r + i) = (r + i) % n ∧ 0 ≤ leaderOf n (r + i) := by
  unfold GoodP at h
  unfold leaderOf
  rw [if_pos (by omega)]
  exact ⟨rfl, Int.emod_nonneg _ (by omega)⟩

theorem FromAt.later {w w' : World} {cn c : Nat} {n x : Int} (h : FromAt w cn c n x) (hk : Same2 c cn w w') : FromAt w' cn c n x :=
  ⟨(World.cell?_of_block (a := ⟨cn, 0, none⟩) hk.2).trans h.c0, (World.cell?_of_block (a := ⟨c, 0, none⟩) hk.1).trans h.c1, (World.frozen?_of_block (a := ⟨c, 0, none⟩) hk.1).trans h.z1⟩
theorem cellInt_at {w : World} {c : Nat} {x : Int} (h : w.cell? ⟨c, 0, none⟩ = some (.int .i64 x)) : cellInt w c = x := by unfold cellInt; rw [h]; rfl
theorem cellInt_set {w : World} {c : Nat} {x y : Int} (h : w.cell? ⟨c, 0, none⟩ = some (.int .i64 x)) : cellInt (w.setCell ⟨c, 0, none⟩ (.int .i64 y)) c = y := by
  unfold cellInt
  rw [World.cell?_setCell_same' _ _ _ (by rw [h]; rfl)]
  rfl
theorem FromAt.set {w : World} {cn c : Nat} {n x : Int} (h : FromAt w cn c n x) (hne : cn ≠ c) (y : Int) : FromAt (w.setCell ⟨c, 0, none⟩ (.int .i64 y)) cn c n y :=
  ⟨(World.cell?_setCell_other _ _ _ _ (fun e => hne (by cases e; rfl))).trans h.c0, World.cell?_setCell_same' _ _ _ (by rw [h.c1]; rfl), by rw [World.frozen?_setCell]; exact h.z1⟩
/-- A region that draws, walked once over a class of worlds, inside a fence. -/
theorem regionIn_class {F : Fence} {n : Nat} {P : Program} {id : Nat} {Q : Exit → Act → World → Prop} {a : Act} {w : World} {l : List Oper} (C : World → Prop) (hro : F.round = none) (hm : P.follows .mixedOrders = true) (hB : Region.lexB .any l.toArray = true) (hC : C w.drew)
    (h : wpQuietIn F n P l.toArray C (fun a' => ∀ w', C w' → Q .normal a' w') l a) : (Code.region id l.toArray true).wpIn F n P Q a w :=
  wpIn_region_quiet (C := C) hro hm hB hC (by simpa using h)
theorem wide_depth (m : Nat) : Fence.wide.depth.isSome = true → 1 ≤ m := fun h => by simp [Fence.wide] at h

set_option maxHeartbeats 2000000 in
set_option maxRecDepth 100000 in
theorem from_iter (m : Nat) (n r : Int) (cn c : Nat) (hne : cn ≠ c) (hr1 : -9223372036854775808 ≤ r) (hr2 : r ≤ 9223372036854775807) :
    Iter Fence.wide m Tryd.prog 36 #[.pointer (some ⟨cn, 0, none⟩), .pointer (some ⟨c, 0, none⟩)] (encR n r) c cn (fun w => FromAt w cn c n r)
      (fun pre i => i = pre.length ∧ GoodP n r ∧ r + (pre.length : Int) ≤ 1099511627776)
      (fun xs => (¬ GoodP n r ∧ xs.length = 0) ∨ (GoodP n r ∧ 1099511627776 < r + (xs.length : Int) ∧ (xs.length = 0 ∨ r + (xs.length : Int) = 1099511627777))) (fun _ => True) := by
  intro l J Jx W bJ bJx hSt hY hJ
  obtain ⟨h0, h1, h2⟩ := hSt
  refine callsIn_of_wp Tryd.func36 rfl trivial ?_ rfl
  simp only [Tryd.ntmps36, List.size_toArray, List.length_cons, List.length_nil, Nat.reduceAdd, Nat.reduceSub, Array.replicate_succ, Array.replicate_zero, List.push_toArray, List.append_toArray, List.nil_append, List.cons_append]
  by_cases hg : GoodP n r
  · obtain ⟨hL, hL0⟩ := leader_good hg 0
    simp only [Int.ofNat_zero, Int.add_zero] at hL hL0
    have hne1 : (leaderOf n r == -1) = false := by simp; omega
    clear hL
    gi_wp2_with (refine ⟨trivial, wide_depth _, ?_⟩; (with_reducible refine (callsIn_wide.2 (leader_any _ _ _)).mono ?_); rintro e w' ⟨rfl, rfl⟩)
    clear hL0 hne1
    gi_loopw [8] (fun _ wr => ∃ pre : List Nat, (pre.length = 0 ∨ r + (pre.length : Int) ≤ 1099511627777) ∧ FromAt wr cn c n (r + pre.length) ∧ J pre wr) (fun _ wr => (1099511627777 - cellInt wr c).toNat)
    case atStart => exact ⟨[], .inl rfl, ⟨h0, by simpa using h1, h2⟩, hJ⟩
    case round =>
      obtain ⟨pre, hp, ⟨k0, k1, k2⟩, hj⟩ := hrel
      by_cases hlt : r + (pre.length : Int) ≤ 1099511627776
      · have hle : decide (r + (pre.length : Int) ≤ 1099511627776) = true := by simpa using hlt
        obtain ⟨fn, tmps, assign, body, hy, hR⟩ := hY pre pre.length wr.drew (bJ.drew _ _ hj) ⟨rfl, hg, hlt⟩
        dsimp only [encR] at hy
        have hR2 : Hid (RoundIn Fence.wide (m - 1) Tryd.prog l fn tmps assign body wr.drew fun e W' => ∃ b, e = .returned (.bool b) ∧ ((b = true ∧ J (pre ++ [pre.length]) W' ∧ Same2 c cn wr.drew W') ∨ (b = false ∧ Jx (pre ++ [pre.length]) W'))) := by
          refine hR.mono ?_
          rintro e W' (⟨rfl, h⟩ | ⟨rfl, h⟩)
          · exact ⟨true, rfl, .inl ⟨rfl, h⟩⟩
          · exact ⟨false, rfl, .inr ⟨rfl, h⟩⟩
        clear hR
        have HK := Lib.hid (FromAt.mk (w := wr.drew) (cn := cn) (c := c) k0 k1 k2)
        have hmr := cellInt_at k1
        gi_wp2_with fail
        gi_region_with (first
          | (refine ⟨trivial, wide_depth _, ?_⟩; (with_reducible refine (callsIn_wide.2 (leader_any _ _ _)).mono ?_); rintro e w' ⟨rfl, rfl⟩)
          | (refine ⟨wide_depth _, ?_⟩; refine hR2.out.mono ?_; rintro e W' ⟨b, rfl, hE⟩))
        all_goals
          clear k0 k1 k2 hy hR2
          obtain ⟨rfl, hJ2, hk⟩ | ⟨rfl, hJ2⟩ := hE
          · obtain ⟨k0, k1, k2⟩ := HK.out.later hk
            have hm := cellInt_at k1
            skip
            gi_wp2_with fail
            go_roundw
            case rel => first | exact ⟨pre ++ [pre.length], .inr (by simp; omega), by simpa [Int.add_assoc] using FromAt.set ⟨k0, k1, k2⟩ hne (r + (pre.length : Int) + 1), bJ.set _ _ _ hJ2⟩ | ((repeat apply Exists.intro); exact ⟨⟨pre ++ [pre.length], .inr (by simp; omega), by simpa [Int.add_assoc] using FromAt.set ⟨k0, k1, k2⟩ hne (r + (pre.length : Int) + 1), bJ.set _ _ _ hJ2⟩, rfl⟩)
            case measure => rw [cellInt_set k1, hmr]; omega
          · skip
            gi_wp2_with fail
            go_end0
            exact ⟨⟨_, rfl⟩, .inr ⟨_, trivial, hJ2⟩⟩
      · have hle : decide (r + (pre.length : Int) ≤ 1099511627776) = false := by simpa using hlt
        have hin : r + (pre.length : Int) ≤ 9223372036854775807 := by omega
        gi_wp2_with fail
        refine regionIn_class (fun w' => w' = wr.drew) rfl (by kernel_rfl) (by kernel_rfl) rfl ?_
        iterate 10 (
          refine wpQuietIn_step (fun _ _ _ _ => trivial) (fun K hK => ?_)
          first
            | (rw [if_pos (by rfl)]
               apply Exists.intro
               refine ⟨fun w hw => ?_, hK _ ?_⟩
               case refine_1 =>
                 subst hw
                 unfold Oper.quietAtIn
                 go_simp
                 first | done | exact (⟨rfl, rfl⟩ : _ ∧ _))
            | (rw [if_neg (by exact ne_true_of_eq_false rfl)]
               refine hK _ ?_)
          clear hK K
          simp only [Act.put, List.setIfInBounds_toArray, List.set_cons_zero, List.set_cons_succ])
        refine wpQuietIn_nil ?_
        rintro w' rfl
        gi_wp2_with fail
        go_end0
        exact ⟨⟨_, rfl⟩, .inl ⟨pre, .inr ⟨hg, by omega, by omega⟩, bJ.drew _ _ hj⟩⟩
  · have hL : leaderOf n r = -1 := by unfold GoodP at hg; unfold leaderOf; rw [if_neg hg]
    gi_wp2_with (refine ⟨trivial, wide_depth _, ?_⟩; (with_reducible refine (callsIn_wide.2 (leader_any _ _ _)).mono ?_); rintro e w' ⟨rfl, rfl⟩)
    refine bodyPost_ret (results_none rfl _ _ _) rfl ?_
    exact ⟨⟨_, rfl⟩, .inl ⟨[], .inl ⟨hg, rfl⟩, hJ⟩⟩

end Go.Proofs.YtepcfjekijjagaaDoor
