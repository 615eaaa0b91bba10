/- Scripts of ops: what is long; a reader beside a writer. -/
import Derived.Test.YtadonpfpneanhaaDoorO4
import Derived.Test.YtadonpfpneanhaaDoorO5
import Derived.Test.YtadonpfpneanhaaDoorL7
namespace Go.Proofs.YtadonpfpneanhaaDoor
open Go.RowKit

theorem Op5.ok.below {w w' : World} {o : Op5} (h : o.ok w) (hb : Below w.heap.size w w') : o.ok w' := ⟨h.1.below hb, h.2⟩
theorem OpsAt.below {w w' : World} {a : Option Addr} {len cap : Nat} {z : Nat → Op5} (h : OpsAt w a len cap z) (hb : Below w.heap.size w w') : OpsAt w' a len cap z := by
  obtain ⟨h1, h2, h3, h4⟩ := h
  refine ⟨h1, h2, fun i hi => (h3 i hi).below hb, fun h0 => ?_⟩
  obtain ⟨b, off, rfl, hlt, hc⟩ := h4 h0
  exact ⟨b, off, rfl, Nat.lt_of_lt_of_le hlt hb.size, fun i j u hi hj => (hb.cell (p := ⟨b, off + (i * 5 + j), none⟩) hlt).trans (hc i j u hi hj)⟩
/-- The cells of one op, at a later world. -/
theorem OpsAt.at {w w' : World} {a : Option Addr} {len cap i : Nat} {z : Nat → Op5} (h : OpsAt w a len cap z) (hb : Below w.heap.size w w') (hi : i < len) : ∃ b off, a = some ⟨b, off, none⟩ ∧ w'.cell? ⟨b, off + i * 5, none⟩ = some (.int .i64 (z i).k) ∧
    w'.cell? ⟨b, off + i * 5 + 1, none⟩ = some (.int .i64 (z i).n) ∧ w'.cell? ⟨b, off + i * 5 + 2, none⟩ = some (.int .i64 (z i).width) ∧ w'.cell? ⟨b, off + i * 5 + 3, none⟩ = some (.int .i64 (z i).most) ∧ w'.cell? ⟨b, off + i * 5 + 4, none⟩ = some (z i).sl := by
  obtain ⟨_, _, _, h4⟩ := h.below hb
  obtain ⟨b, off, rfl, hlt, hc⟩ := h4 (by omega)
  exact ⟨b, off, rfl, hc i 0 _ hi rfl, hc i 1 _ hi rfl, hc i 2 _ hi rfl, hc i 3 _ hi rfl, hc i 4 _ hi rfl⟩
theorem Src.away {w : World} {sl v : Value} {xs : List Int} {p : Nat} (h : Src w sl xs) (hp : w.heap.size ≤ p) (hv : ∀ g, v.ownBlock = some g → w.heap.size ≤ g) : Away sl xs p v := by
  intro hx ad l c he
  rcases h with ⟨_, h⟩ | ⟨ad', c', he', _, _, hc⟩
  · exact absurd h hx
  · rw [he'] at he
    cases he
    cases xs with
    | nil => exact absurd rfl hx
    | cons x t =>
      have := World.block_lt_of_cell? w _ (hc 0 (.int .u8 x) rfl)
      rw [add_block] at this
      exact ⟨by omega, fun e => by have := hv _ e.symm; omega⟩
theorem Sents.big {A : List Addr} {w : World} (h : Sents G18 132 A w) : 18 ≤ w.heap.size := by
  obtain ⟨a, ha⟩ := sent_at h 17 (by omega)
  have := World.block_lt_of_cell? w _ (h.cell 17 _ _ rfl ha)
  exact this

/-- A writer turns no reader. -/
theorem Rd.beside {w w' : World} {p q : Nat} {e sl ev v v' : Value} {xs bs : List Int} (h : Rd w q e sl xs) (hW : Wr w p ev v bs) (he : ∀ k n, ev ≠ .int k n) (hu : Upd p w v w' v') (hpq : p ≠ q) (hv : ∀ g, v.ownBlock = some g → q < g) : Rd w' q e sl xs := by
  refine ⟨(hu.same q h.lt (Ne.symm hpq) (fun e => by have := hv q e.symm; omega)).trans h.blk, ?_, h.ap, h.by8⟩
  rcases h.src with h1 | ⟨ad, c, rfl, h1, h2, h3⟩
  · exact .inl h1
  · refine .inr ⟨ad, c, rfl, h1, h2, fun j u hj => (hu.cell (World.block_lt_of_cell? w _ (h3 j u hj)) ?_ ?_).trans (h3 j u hj)⟩
    · intro hx
      have hc := h3 j u hj
      obtain ⟨n, hn⟩ : ∃ n, u = .int .u8 n := by
        have := List.mem_of_getElem? hj
        obtain ⟨n, _, rfl⟩ := List.mem_map.1 this
        exact ⟨n, rfl⟩
      have hb := hW.blk
      generalize ad.add j = y at *
      obtain ⟨yb, yo, ys⟩ := y
      obtain rfl : yb = p := hx
      have hsp := World.cell?_spot hc
      simp only at hsp
      subst hsp
      rw [cell_of_blk hb] at hc
      rw [hn] at hc
      match yo, hc with
      | 0, hc => exact he _ _ (Option.some.inj hc)
      | 1, hc =>
        obtain ⟨a, m, c', rfl⟩ := slice_of_own hW.own
        have := Option.some.inj hc
        cases this
      | yo + 2, hc => simp at hc
    · intro hx
      have := (h.ap ad _ c rfl).1
      rw [add_block] at hx
      have := hv _ hx.symm
      omega
theorem errV_ne (A : List Addr) (c : Nat) : ∀ k n, errV A c ≠ .int k n := by
  intro k n
  rcases errV_form A c with h | ⟨u, h⟩ <;> rw [h] <;> exact fun e => by cases e

set_option maxHeartbeats 1000000 in
set_option maxRecDepth 100000 in
theorem long_any (w : World) (a : Option Addr) (len cap : Nat) (z : Nat → Op5) (hz : OpsAt w a len cap z) :
    Calls Tryd.prog 29 #[.slice a len cap] w fun e w' => ∃ b, e = .returned (.bool b) ∧ (b = false → len ≤ 40 ∧ ∀ i, i < len → (z i).xs.length ≤ 400) ∧ Below w.heap.size w w' := by
  have hlc : len ≤ maxLen := Nat.le_trans hz.1 hz.2.1
  unfold maxLen at hlc
  have HZ := Lib.hid hz
  clear hz
  by_cases hl : 40 < len
  · go_enter Tryd.func29, Tryd.ntmps29
    go_wp2_with fail
    go_ret
    exact ⟨_, rfl, (fun h => by cases h), Below.refl _ _⟩
  · go_enter Tryd.func29, Tryd.ntmps29
    go_wp2_with fail
    go_loopw [10] (fun i wr => ∃ k : Nat, k ≤ len ∧ i = .int .i64 k ∧ (∀ i, i < k → (z i).xs.length ≤ 400) ∧ Below w.heap.size w wr) (fun i _ => len - (intOf i).toNat)
    case atStart => exact ⟨0, Nat.zero_le _, rfl, fun i hi => absurd hi (by omega), Below.refl _ _⟩
    case round =>
      obtain ⟨k, hk, rfl, hall, hb⟩ := hrel
      have HA := Lib.hid hall
      have HB := Lib.hid hb
      by_cases hlt : k < len
      · obtain ⟨bs, off, rfl, k0, k1, k2, k3, k4⟩ := HZ.out.at hb hlt
        obtain ⟨a4, c4, h4⟩ := (HZ.out.2.2.1 k hlt).1.len
        rw [h4] at k4
        generalize hX : (z k).xs.length = L at *
        have hLm : L ≤ 9223372036854775807 := by
          rcases (HZ.out.2.2.1 k hlt).1 with ⟨_, h⟩ | ⟨_, c, _, h1, h2, _⟩
          · rw [h] at hX; simp at hX; omega
          · unfold maxLen at h2; omega
        have HX := Lib.hid hX
        generalize (z k).k = x0 at *
        generalize (z k).n = x1 at *
        generalize (z k).width = x2 at *
        generalize (z k).most = x3 at *
        clear hall hb hX h4
        by_cases h4 : 400 < L
        · go_wp2_with fail
          go_ret
          exact ⟨_, rfl, (fun h => by cases h), HB.out.alloc HB.out.size _⟩
        · go_wp2_with fail
          go_roundw
          case rel => exact ⟨k + 1, by omega, by go_num, fun i hi => by
            rcases Nat.lt_succ_iff_lt_or_eq.1 hi with h | rfl
            · exact HA.out i h
            · have := HX.out; omega, HB.out.alloc HB.out.size _⟩
          case measure => simp [intOf]; omega
      · have hke : k = len := by omega
        subst hke
        clear hall hb
        go_wp2_with fail
        go_ret
        exact ⟨_, rfl, fun _ => ⟨by omega, HA.out⟩, HB.out⟩

end Go.Proofs.YtadonpfpneanhaaDoor
