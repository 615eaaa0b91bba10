/- The document's reader: its memory; its error, what is left, its numbers. -/
import Derived.Test.YtadonpfpneanhaaDoorO9
import Derived.Deep.QuietTactic
import Derived.BigQuiet
namespace Go.Proofs.YtadonpfpneanhaaDoor
open Go.RowKit

theorem Src.nil_any {w : World} (w' : World) {v : Value} (h : Src w v []) : Src w' v [] := by
  rcases h with h | ⟨ad, c, rfl, h1, h2, _⟩
  · exact .inl h
  · exact .inr ⟨ad, c, rfl, h1, h2, fun j u hj => by simp [u8s] at hj⟩
theorem Src.setm {w : World} {q : Nat} {s : Value} {ys : List Int} (hs : Src w s ys) (hp : ys ≠ [] → ∀ ad l c, s = .slice (some ad) l c → ad.block ≠ q) (o : Nat) (u : Value) : Src (w.setCell ⟨q, o, none⟩ u) s ys := by
  by_cases hy : ys = []
  · subst hy; exact hs.nil_any _
  · exact hs.setq (hp hy) o u
theorem Src.updm {w w' : World} {s : Value} {xs : List Int} {p : Nat} {v v' : Value} (h : Src w s xs) (hu : Upd p w v w' v') (hp : xs ≠ [] → ∀ ad l c, s = .slice (some ad) l c → ad.block ≠ p ∧ some ad.block ≠ v.ownBlock) : Src w' s xs := by
  by_cases hy : xs = []
  · subst hy; exact h.nil_any _
  · exact h.upd hu (hp hy)
theorem Src.lowm {w w' : World} {N : Nat} {v : Value} {xs : List Int} (h : Src w v xs) (hb : Below N w w') (hv : xs ≠ [] → ∀ ad l c, v = .slice (some ad) l c → ad.block < N) : Src w' v xs := by
  by_cases hy : xs = []
  · subst hy; exact h.nil_any _
  · rcases h with h | ⟨ad, c, rfl, h1, h2, h3⟩
    · exact .inl h
    · exact .inr ⟨ad, c, rfl, h1, h2, fun j u hj => (hb.cell (by rw [add_block]; exact hv hy ad _ c rfl)).trans (h3 j u hj)⟩

/-- The document's reader at block m: its bytes, its place, its error's number. Behind an error the place is of no matter. -/
structure Mr (w : World) (m : Nat) (b : Value) (B : List Int) (s : RS) : Prop where
  blk : ∃ at' : Int, w.heap[m]? = some (.cells #[b, .int .i64 at', .int .i64 (s.c : Int)] 86 (0, 0)) ∧ (s.c = 0 → ∃ k : Nat, at' = k ∧ k ≤ B.length ∧ s.xs = B.drop k)
  src : Src w b B
  ap : B ≠ [] → ∀ ad l c, b = .slice (some ad) l c → ad.block ≠ m
  by8 : ∀ x ∈ B, 0 ≤ x ∧ x < 256
  big : B.length ≤ 140737488355328

section
variable {w w' : World} {m : Nat} {b : Value} {B : List Int} {s : RS}
theorem Mr.lt (h : Mr w m b B s) : m < w.heap.size := by
  obtain ⟨_, h1, _⟩ := h.blk
  exact (Array.getElem?_eq_some_iff.1 h1).1
theorem Mr.later (h : Mr w m b B s) (hb : Below w.heap.size w w') : Mr w' m b B s := by
  obtain ⟨at', h1, h2⟩ := h.blk
  exact ⟨⟨at', (hb.block m (Array.getElem?_eq_some_iff.1 h1).1).trans h1, h2⟩, h.src.below hb, h.ap, h.by8, h.big⟩
theorem Mr.same {s' : RS} (h : Mr w m b B s) (hc : s'.c = s.c) (hx : s.c = 0 → s'.xs = s.xs) : Mr w m b B s' := by
  obtain ⟨at', h1, h2⟩ := h.blk
  refine ⟨⟨at', by rw [hc]; exact h1, fun h0 => ?_⟩, h.src, h.ap, h.by8, h.big⟩
  rw [hc] at h0
  obtain ⟨k, e1, e2, e3⟩ := h2 h0
  exact ⟨k, e1, e2, (hx h0).trans e3⟩
theorem Mr.c2 (h : Mr w m b B s) : w.cell? ⟨m, 2, none⟩ = some (.int .i64 (s.c : Int)) := by
  obtain ⟨at', h1, _⟩ := h.blk
  exact cell_of_blk h1 2
theorem Mr.c0 (h : Mr w m b B s) : w.cell? ⟨m, 0, none⟩ = some b := by
  obtain ⟨at', h1, _⟩ := h.blk
  exact cell_of_blk h1 0
theorem Mr.frz (h : Mr w m b B s) (j : Nat) : w.frozen? ⟨m, j, none⟩ = false := by
  obtain ⟨at', h1, _⟩ := h.blk
  simp [World.frozen?, h1]
theorem Upd.setm (m o : Nat) (u : Value) (w : World) : Upd m w noV (w.setCell ⟨m, o, none⟩ u) noV :=
  ⟨rfl, rfl, rfl, by simp, fun k _ hk _ => Below.heap_setCell _ _ _ _ hk, fun _ hg => .inl hg⟩
theorem Mr.fail (h : Mr w m b B s) {k : Nat} (hk : k ≠ 0) : Mr (w.setCell ⟨m, 2, none⟩ (.int .i64 (k : Int))) m b B ⟨k, s.xs⟩ := by
  obtain ⟨at', h1, _⟩ := h.blk
  exact ⟨⟨at', by rw [heap_setCell_block h1]; rfl, fun h0 => absurd h0 hk⟩, h.src.setm h.ap 2 _, h.ap, h.by8, h.big⟩
theorem Mr.move (h : Mr w m b B s) {k : Nat} (hk : k ≤ B.length) (h0 : s.c = 0) : Mr (w.setCell ⟨m, 1, none⟩ (.int .i64 (k : Int))) m b B ⟨0, B.drop k⟩ := by
  obtain ⟨at', h1, _⟩ := h.blk
  refine ⟨⟨k, by rw [heap_setCell_block h1, h0]; rfl, fun _ => ⟨k, rfl, hk, rfl⟩⟩, h.src.setm h.ap 1 _, h.ap, h.by8, h.big⟩
end

set_option maxHeartbeats 1000000 in
set_option maxRecDepth 100000 in
theorem mfail_any (w : World) (m : Nat) (b : Value) (B : List Int) (s : RS) (h : Mr w m b B s) (k : Nat) (hk : k ≠ 0) (e : Int) (he : e = (k : Int)) :
    Calls Tryd.prog 87 #[.pointer (some ⟨m, 0, none⟩), .int .i64 e] w fun r w' => r = .returned (.tuple #[]) ∧ Mr w' m b B (s.fail k) ∧ Upd m w noV w' noV := by
  subst he
  obtain ⟨c, xs⟩ := s
  have k2 := h.c2
  have f2 := h.frz 2
  have H := Lib.hid h
  clear h
  unfold RS.fail
  by_cases hc : c = 0
  · subst hc
    rw [if_pos rfl]
    replace k2 : w.cell? ⟨m, 2, none⟩ = some (.int .i64 0) := k2
    go_enter Tryd.func87, Tryd.ntmps87
    go_wp2_with fail
    go_end0
    exact ⟨rfl, H.out.fail hk, Upd.setm _ _ _ _⟩
  · rw [if_neg hc]
    have hc2 : ¬ ((c : Nat) : Int) = 0 := by omega
    simp only at k2
    generalize ((c : Nat) : Int) = cv at *
    go_enter Tryd.func87, Tryd.ntmps87
    go_wp2_with fail
    go_end0
    exact ⟨rfl, H.out, Upd.refl _ _ _⟩

set_option maxHeartbeats 1000000 in
set_option maxRecDepth 100000 in
theorem mleft_any (w : World) (m : Nat) (b : Value) (B : List Int) (s : RS) (h : Mr w m b B s) (h0 : s.c = 0) :
    Calls Tryd.prog 88 #[.pointer (some ⟨m, 0, none⟩)] w fun r w' => r = .returned (.int .i64 (s.xs.length : Int)) ∧ ∃ n, w' = w.drewN n := by
  obtain ⟨at', h1, h2⟩ := h.blk
  obtain ⟨k, rfl, hk, hx⟩ := h2 h0
  obtain ⟨a, c, rfl⟩ := h.src.len
  have hb := h.big
  have k0 := cell_of_blk h1 0
  have k1 := cell_of_blk h1 1
  replace k0 : w.cell? ⟨m, 0, none⟩ = some (.slice a B.length c) := k0
  replace k1 : w.cell? ⟨m, 1, none⟩ = some (.int .i64 (k : Int)) := k1
  have hl : (s.xs.length : Int) = (B.length : Int) - k := by rw [hx, List.length_drop]; omega
  rw [hl]
  clear h h1 h2 hx hl h0
  go_enter Tryd.func88, Tryd.ntmps88
  go_wp2_with fail
  go_quiet (fail)
  go_wp2_with fail
  go_ret
  exact ⟨rfl, _, rfl⟩

end Go.Proofs.YtadonpfpneanhaaDoor
