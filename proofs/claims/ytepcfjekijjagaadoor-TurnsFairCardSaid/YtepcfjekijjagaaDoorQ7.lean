/- The walk of TurnsFair: of as many rounds as there are validators each leads one. -/
import Derived.Test.YtepcfjekijjagaaDoorQ6
import Derived.Maps.Own
import Derived.Maps.OwnOps
import Derived.Maps.OwnSet
namespace Go.Proofs.YtepcfjekijjagaaDoor
open Go.RowKit Go.Maps

abbrev yes : DataW Unit := .lit (.bool true)
def keyAt (n r : Int) (j : Nat) : Lit := .int .i64 (leaderOf n (r + j))
/-- The map behind so many rounds. -/
def led (n r : Int) (k : Nat) : DataW Unit := setOf yes ((List.range k).map (keyAt n r))
theorem led_succ (n r : Int) (k : Nat) : led n r (k + 1) = (led n r k).put (keyAt n r k) yes := by
  unfold led
  rw [List.range_succ, List.map_append, List.map_singleton, setOf_snoc]
theorem keyLit (x : Int) (_ : 0 ≤ x) (_ : x ≤ 7) : WideAt.IsKeyLit (.int .i64 x) := by
  first | exact trivial | (simp [WideAt.IsKeyLit])
theorem leader_in {n r : Int} (h1 : 1 ≤ n) (h7 : n ≤ 7) (h0 : 0 ≤ r) (j : Nat) : 0 ≤ leaderOf n (r + j) ∧ leaderOf n (r + j) < n := by
  unfold leaderOf
  rw [if_pos (by omega)]
  exact ⟨Int.emod_nonneg _ (by omega), Int.emod_lt_of_pos _ (by omega)⟩
theorem keys_lit {n r : Int} (h1 : 1 ≤ n) (h7 : n ≤ 7) (h0 : 0 ≤ r) (k : Nat) : ∀ x ∈ (List.range k).map (keyAt n r), WideAt.IsKeyLit x := by
  intro x hx
  obtain ⟨j, _, rfl⟩ := List.mem_map.1 hx
  have := leader_in h1 h7 h0 j
  exact keyLit _ this.1 (by omega)
theorem led_tidy {n r : Int} (h1 : 1 ≤ n) (h7 : n ≤ 7) (h0 : 0 ≤ r) (k : Nat) : Tidy (led n r k) := tidy_setOf _ _ (keys_lit h1 h7 h0 k)
theorem leader_ne {n r : Int} (h1 : 1 ≤ n) (h7 : n ≤ 7) (h0 : 0 ≤ r) {i j : Nat} (hij : i < j) (hj : (j : Int) < n) : leaderOf n (r + i) ≠ leaderOf n (r + j) := by
  unfold leaderOf
  rw [if_pos (by omega), if_pos (by omega)]
  intro he
  have h2 := Int.emod_add_mul_ediv (r + i) n
  have h3 := Int.emod_add_mul_ediv (r + j) n
  have : ((r + j) / n - (r + i) / n) * n = (j : Int) - i := by rw [Int.sub_mul, Int.mul_comm _ n, Int.mul_comm _ n]; omega
  rcases Int.lt_trichotomy ((r + j) / n - (r + i) / n) 0 with h | h | h
  · have : ((r + j) / n - (r + i) / n) * n ≤ 0 := Int.mul_nonpos_of_nonpos_of_nonneg (by omega) (by omega)
    omega
  · rw [h] at this; omega
  · have : 1 * n ≤ ((r + j) / n - (r + i) / n) * n := Int.mul_le_mul_of_nonneg_right (by omega) (by omega)
    omega
theorem led_has {n r : Int} (k : Nat) (x : Int) (h : ∀ j : Nat, j < k → leaderOf n (r + j) ≠ x) : Maps.has (led n r k) (.int .i64 x) = false := by
  induction k with
  | zero => rfl
  | succ k ih =>
    rw [led_succ, has_put_other (fun e => by unfold keyAt at e; injection e with _ e2; exact h k (by omega) e2.symm)]
    exact ih (fun j hj => h j (by omega))
theorem led_size {n r : Int} (h1 : 1 ≤ n) (h7 : n ≤ 7) (h0 : 0 ≤ r) (k : Nat) (hk : (k : Int) ≤ n) : Maps.size (led n r k) = k := by
  induction k with
  | zero => rfl
  | succ k ih =>
    have hf : Maps.has (led n r k) (keyAt n r k) = false := led_has k _ (fun j hj => leader_ne h1 h7 h0 hj (by omega))
    rw [led_succ, size_put (led_tidy h1 h7 h0 k), hf, ih (by omega)]
    rfl
theorem led_at {n r : Int} (h1 : 1 ≤ n) (h7 : n ≤ 7) (h0 : 0 ≤ r) (k : Nat) (x : Int) (hx0 : 0 ≤ x) (hx7 : x ≤ 7) (z : DataW Unit) (h : ∃ j : Nat, j < k ∧ leaderOf n (r + j) = x) : (led n r k).atKey (.int .i64 x) z = yes := by
  induction k with
  | zero => obtain ⟨j, hj, _⟩ := h; omega
  | succ k ih =>
    rw [led_succ]
    by_cases he : leaderOf n (r + k) = x
    · have : keyAt n r k = .int .i64 x := by unfold keyAt; rw [he]
      rw [this, atKey_put_same (led_tidy h1 h7 h0 k).isMap (keyLit _ hx0 hx7)]
    · rw [atKey_put_other (fun e => by unfold keyAt at e; injection e with _ e2; exact he e2.symm)]
      obtain ⟨j, hj, hjx⟩ := h
      refine ih ⟨j, ?_, hjx⟩
      by_cases hjk : j = k
      · subst hjk; exact absurd hjx he
      · omega

theorem plainElem_bool_inv {P : Program} {e : TypeId} (he : P.underlying e = some .bool) {v : Value} {z : DataW Unit × List MemPlace} (h : plainElem P e v = some z) : ∃ x, v = .bool x ∧ z = (.lit (.bool x), []) := by
  unfold plainElem at h
  rw [he] at h
  cases v <;> simp at h
  exact ⟨_, rfl, h.symm⟩

set_option maxHeartbeats 2000000 in
set_option maxRecDepth 100000 in
theorem turnsFair_good (w : World) (er : Value) (h : w.cell? ⟨1, 0, none⟩ = some (.iface 78 er)) (n r : Int) (h1 : 1 ≤ n) (h7 : n ≤ 7) (h0 : 0 ≤ r) (hr : r ≤ 1099511627769) :
    Calls Tryd.prog 3 #[.int .i64 n, .int .i64 r] w fun e w' => e = .returned (.bool true) ∧ Below w.heap.size w w' := by
  have HB : Hid (∀ W', Below w.heap.size w W' → W'.cell? ⟨1, 0, none⟩ = some (.iface 78 er)) := fun W' hW => (hW.cell (World.block_lt_of_cell? w _ h)).trans h
  have law := int_keyed Tryd.underlying3
  have hmm := @run_makeMap Tryd.prog
  clear h
  go_enter Tryd.func3, Tryd.ntmps3
  go_wp2_with fail
  refine (alive12 _).mono ?_
  rintro e w1 ⟨rfl, rfl⟩
  go_wp2_with fail
  have hm0 := World.ownsMap_made w Tryd.prog 3 (plainElem (H := Unit) Tryd.prog 4)
  have hb0 : Below w.heap.size w (w.alloc (.map #[] 0)) := (Below.refl _ _).alloc (Nat.le_refl _) _
  clear hmm
  go_loopw [28] (fun i wr => ∃ k : Nat, (k : Int) ≤ n ∧ i = .int .i64 k ∧ wr.ownsMap Tryd.prog 3 (plainElem (H := Unit) Tryd.prog 4) w.heap.size k (led n r k) ∧ Below w.heap.size w wr) (fun i _ => (n - intOf i).toNat)
  case atStart => exact ⟨0, by omega, rfl, hm0, hb0⟩
  case round =>
    obtain ⟨k, hk, rfl, hown, hbb⟩ := hrel
    by_cases hlt : (k : Int) < n
    · go_wp2_with fail
      refine (leader_any n (r + k) _).mono ?_
      rintro e w2 ⟨rfl, rfl⟩
      have hin := leader_in h1 h7 h0 k
      have hkey : keyOf Tryd.prog 3 (.int .i64 (leaderOf n (r + k))) = some (keyAt n r k) := keyOf_int_mk Tryd.underlying3 (WalkArith.wf_i64 (by omega))
      go_wp2_with (first
        | (at_mapUpdate; refine wpList_mapUpdate_own _ rfl _ _ _ 23 rfl 3 4 law Tryd.underlying23 _ w.heap.size k _ rfl hown (by unfold maxLen; omega) _ _ _ rfl rfl hkey _ [] (plainElem_bool Tryd.underlying4 true) ?_; intro w3 hown1 hgrow1))
      go_roundw
      case rel => exact ⟨k + 1, by omega, by go_num, by rw [led_succ]; exact hown1, hbb.grown hgrow1 hbb.size (fun j hj => by cases hj; exact Nat.le_refl _)⟩
      case measure => simp [intOf]; omega
    · have hkn : (k : Int) = n := by omega
      have hse : ((Maps.size (led n r k) : Int) == n) = true := by rw [led_size h1 h7 h0 k hk]; simpa using hkn
      go_wp2_with fail
      go_loopw [39] (fun i wr2 => ∃ j : Nat, (j : Int) ≤ n ∧ i = .int .i64 j ∧ wr2.ownsMap Tryd.prog 3 (plainElem (H := Unit) Tryd.prog 4) w.heap.size k (led n r k) ∧ Below w.heap.size w wr2) (fun i _ => (n - intOf i).toNat)
      case atStart => exact ⟨0, by omega, rfl, hown, hbb⟩
      case round =>
        obtain ⟨j, hj, rfl, hown2, hbb2⟩ := hrel
        by_cases hjn : (j : Int) < n
        · have hK := kOf_in (n := n) (who := j) (fr := r) h1
          have hLA := lead_at (who := j) h1 h7 (by omega) hjn h0
          have hturn := turn_good wr n j r er (HB.out _ hbb2) h1 h7 (by omega) hjn h0 (by omega)
          rw [if_pos (by omega)] at hturn
          have hat : (led n r k).atKey (.int .i64 (j : Int)) (.lit (.bool false)) = yes := led_at h1 h7 h0 k j (by omega) (by omega) _ ⟨(kOf n j r).toNat, by omega, by rw [Int.toNat_of_nonneg hK.1]; exact hLA⟩
          have hkey : keyOf Tryd.prog 3 (.int .i64 (j : Int)) = some (.int .i64 (j : Int)) := keyOf_int_mk Tryd.underlying3 (WalkArith.wf_i64 (by omega))
          have HT : Hid (Calls Tryd.prog 13 #[.int .i64 n, .int .i64 j, .int .i64 r] wr fun e w' => e = .returned (.tuple #[.int .i64 (r + kOf n j r), .nilIface]) ∧ Below wr.heap.size wr w') := hturn
          generalize kOf n j r = K at *
          clear hturn hLA
          go_wp2_with fail
          refine HT.out.mono ?_
          rintro e w5 ⟨rfl, hb5⟩
          have hown5 := hown2.kept (row := none) ⟨hb5.os, hb5.tape, hb5.output, hb5.size, fun i hi _ => hb5.block i hi⟩ (by simp)
          have hlook : (Instr.lookup 23 (.map (some w.heap.size)) (.int .i64 (j : Int)) false).run Tryd.prog w5 = .ok (.bool true) w5 := by
            obtain ⟨v, ps, hrun, hv⟩ := hown5.lookup law Tryd.underlying23 (z := .bool false) (by kernel_rfl) (plainElem_bool Tryd.underlying4 false) hkey
            rw [hat] at hv
            obtain ⟨x, rfl, hx⟩ := plainElem_bool_inv Tryd.underlying4 hv
            have : x = true := by have h9 := hx.symm; simp at h9; exact h9.1
            subst this
            exact hrun
          have HO5 := Lib.hid hown5
          have HB5 := Lib.hid (hbb2.trans (hb5.mono hbb2.size))
          have hK0 := hK.1
          have hK1 := hK.2
          clear hown5 hb5 hat hkey hK hown2 hbb2
          go_wp2_with fail
          go_roundw
          case rel => exact ⟨j + 1, by omega, by go_num, HO5.out, HB5.out⟩
          case measure => simp [intOf]; omega
        · have hje : (j : Int) = n := by omega
          have HB2 := Lib.hid hbb2
          clear hbb2
          go_wp2_with (first
            | (at_len; refine wpList_len_own _ rfl _ 23 rfl 3 4 Tryd.underlying23 _ w.heap.size k _ rfl hown2 ?_))
          go_ret
          exact ⟨rfl, HB2.out⟩

set_option maxHeartbeats 1000000 in
set_option maxRecDepth 100000 in
theorem turnsFair_out (w : World) (n r : Int) (hc : n < 1 ∨ (1 ≤ n ∧ 7 < n) ∨ (1 ≤ n ∧ n ≤ 7 ∧ r < 0) ∨ (1 ≤ n ∧ n ≤ 7 ∧ 0 ≤ r ∧ 1099511627769 < r)) :
    Calls Tryd.prog 3 #[.int .i64 n, .int .i64 r] w fun e w' => e = .returned (.bool true) ∧ Below w.heap.size w w' := by
  rcases hc with h | ⟨h1, h⟩ | ⟨h1, h7, h⟩ | ⟨h1, h7, h0, h⟩
  all_goals
    go_enter Tryd.func3, Tryd.ntmps3
    go_wp2_with fail
    refine (alive12 _).mono ?_
    rintro e w1 ⟨rfl, rfl⟩
    go_wp2_with fail
    go_ret
    exact ⟨rfl, Below.refl _ _⟩

theorem turnsFair_walk (A : List Addr) (w : World) (h : Sents [0, 1] 78 A w) (n : Int) (_ : (Lit.int .i64 n).wf = true) (r : Int) (_ : (Lit.int .i64 r).wf = true) :
    Calls Tryd.prog 3 #[.int .i64 n, .int .i64 r] w fun e w' => e = .returned (.bool true) ∧ Below w.heap.size w w' := by
  by_cases hg : 1 ≤ n ∧ n ≤ 7 ∧ 0 ≤ r ∧ r ≤ 1099511627769
  · obtain ⟨a, ha⟩ : ∃ a, A[1]? = some a := ⟨A[1]'(by rw [h.len]; decide), by simp [h.len]⟩
    exact turnsFair_good w _ (h.cell 1 _ _ rfl ha) n r hg.1 hg.2.1 hg.2.2.1 hg.2.2.2
  · exact turnsFair_out w n r (by omega)

end Go.Proofs.YtepcfjekijjagaaDoor
