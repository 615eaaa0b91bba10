/- The reader of bytes: its memory, and what 'take' answers. -/
import Derived.Test.YtadonpfpneanhaaDoorW5
namespace Go.Proofs.YtadonpfpneanhaaDoor
open Go.RowKit

abbrev noV : Value := .slice none 0 0
/-- A reader at block q: its error, its slice, the bytes that are left. -/
structure Rd (w : World) (q : Nat) (e sl : Value) (xs : List Int) : Prop where
  blk : w.heap[q]? = some (.cells #[e, sl] 36 (0, 0))
  src : Src w sl xs
  ap : ∀ ad l c, sl = .slice (some ad) l c → ad.block < q ∧ ad.spot = none
  by8 : ∀ x ∈ xs, 0 ≤ x ∧ x < 256
section
variable {w w' : World} {q : Nat} {e sl : Value} {xs : List Int}
theorem Rd.lt (h : Rd w q e sl xs) : q < w.heap.size := (Array.getElem?_eq_some_iff.1 h.blk).1
theorem Rd.c0 (h : Rd w q e sl xs) : w.cell? ⟨q, 0, none⟩ = some e := cell_of_blk h.blk 0
theorem Rd.c1 (h : Rd w q e sl xs) : w.cell? ⟨q, 1, none⟩ = some sl := cell_of_blk h.blk 1
theorem Rd.f0 (h : Rd w q e sl xs) : w.frozen? ⟨q, 0, none⟩ = false := by simp [World.frozen?, h.blk]
theorem Rd.f1 (h : Rd w q e sl xs) : w.frozen? ⟨q, 1, none⟩ = false := by simp [World.frozen?, h.blk]
theorem Rd.later (h : Rd w q e sl xs) (hb : Below w.heap.size w w') : Rd w' q e sl xs := ⟨(hb.block q h.lt).trans h.blk, h.src.below hb, h.ap, h.by8⟩
theorem Src.setq {s : Value} {ys : List Int} (hs : Src w s ys) (hp : ∀ ad l c, s = .slice (some ad) l c → ad.block ≠ q) (o : Nat) (u : Value) : Src (w.setCell ⟨q, o, none⟩ u) s ys := by
  rcases hs with h | ⟨ad, c, rfl, h1, h2, h3⟩
  · exact .inl h
  · exact .inr ⟨ad, c, rfl, h1, h2, fun j v hj => (World.cell?_of_block (Below.heap_setCell _ _ _ _ (by rw [add_block]; exact hp ad _ c rfl))).trans (h3 j v hj)⟩
theorem add_add (a : Addr) (h : a.spot = none) (n j : Nat) : (a.add n).add j = a.add (n + j) := by
  obtain ⟨b, o, s⟩ := a
  obtain rfl : s = none := h
  unfold Addr.add
  by_cases h1 : n = 0
  · subst h1; simp
  · by_cases h2 : j = 0
    · subst h2; simp [h1]
    · simp [h1, h2]; omega
theorem Src.take {ad : Addr} {c : Nat} (h : Src w (.slice (some ad) xs.length c) xs) {n : Nat} (hn : n ≤ xs.length) : Src w (.slice (some ad) n c) (xs.take n) := by
  rcases h with ⟨h, _⟩ | ⟨ad', c', he, h1, h2, h3⟩
  · cases h
  · cases he
    have hl : (xs.take n).length = n := by rw [List.length_take]; omega
    refine .inr ⟨ad, c, by rw [hl], by omega, h2, fun j u hj => ?_⟩
    unfold u8s at hj
    rw [List.map_take, List.getElem?_take] at hj
    split at hj
    · exact h3 j u hj
    · cases hj
theorem Src.drop {ad : Addr} {c : Nat} (hs : ad.spot = none) (h : Src w (.slice (some ad) xs.length c) xs) {n : Nat} (hn : n ≤ xs.length) : Src w (.slice (if c = n then some ad else some (ad.add n)) (xs.length - n) (c - n)) (xs.drop n) := by
  rcases h with ⟨h, _⟩ | ⟨ad', c', he, h1, h2, h3⟩
  · cases h
  · cases he
    have hl : (xs.drop n).length = xs.length - n := List.length_drop
    by_cases hc : c = n
    · rw [if_pos hc]
      have : xs.drop n = [] := List.eq_nil_of_length_eq_zero (by omega)
      refine .inr ⟨ad, c - n, by rw [hl], by omega, by omega, fun j u hj => ?_⟩
      rw [this] at hj
      simp at hj
    · rw [if_neg hc]
      refine .inr ⟨ad.add n, c - n, by rw [hl], by omega, by omega, fun j u hj => ?_⟩
      unfold u8s at hj
      rw [List.map_drop, List.getElem?_drop] at hj
      rw [add_add _ hs]
      exact h3 _ u hj
theorem Rd.fail (h : Rd w q e sl xs) (e' : Value) : Rd (w.setCell ⟨q, 0, none⟩ e') q e' sl xs ∧ Upd q w noV (w.setCell ⟨q, 0, none⟩ e') noV :=
  ⟨⟨by rw [heap_setCell_block h.blk]; rfl, h.src.setq (fun ad l c hh => Nat.ne_of_lt (h.ap ad l c hh).1) 0 e', h.ap, h.by8⟩, ⟨rfl, rfl, rfl, by simp, fun k _ hk _ => Below.heap_setCell _ _ _ _ hk, fun _ hg => .inl hg⟩⟩
end

/-- A reader's error and what is left. -/
structure RS where
  (c : Nat) (xs : List Int)
def RS.fail (s : RS) (k : Nat) : RS := if s.c = 0 then ⟨k, s.xs⟩ else s

theorem rfail_any (A : List Addr) (w : World) (q : Nat) (sl : Value) (s : RS) (k : Nat) (hk : k ≠ 0) (h : Rd w q (errV A s.c) sl s.xs) :
    Calls Tryd.prog 55 #[.pointer (some ⟨q, 0, none⟩), errV A k] w fun r w' => r = .returned (.tuple #[]) ∧ Rd w' q (errV A (s.fail k).c) sl (s.fail k).xs ∧ Upd q w noV w' noV := by
  obtain ⟨c, xs⟩ := s
  obtain ⟨u, hu⟩ := errV_pos A hk
  unfold RS.fail
  by_cases hc : c = 0
  · subst hc
    rw [if_pos rfl, hu]
    refine (fail_nil w q 132 u h.c0 h.f0).mono ?_
    rintro r w' ⟨rfl, rfl⟩
    exact ⟨rfl, h.fail _⟩
  · rw [if_neg hc]
    obtain ⟨u2, hu2⟩ := errV_pos A hc
    have h0 := h.c0
    rw [hu2] at h0
    refine (fail_has w q _ h0).mono ?_
    rintro r w' ⟨rfl, rfl⟩
    exact ⟨rfl, h, Upd.refl _ _ _⟩

set_option maxHeartbeats 1000000 in
set_option maxRecDepth 100000 in
theorem take_has (w : World) (q : Nat) (n : Int) {t : TypeId} {u : Value} (h0 : w.cell? ⟨q, 0, none⟩ = some (.iface t u)) :
    Calls Tryd.prog 62 #[.pointer (some ⟨q, 0, none⟩), .int .i64 n] w fun r w' => r = .returned (.slice none 0 0) ∧ w' = w := by
  go_enter Tryd.func62, Tryd.ntmps62
  go_wp2_with fail
  go_ret
  exact ⟨rfl, rfl⟩

set_option maxHeartbeats 1000000 in
set_option maxRecDepth 100000 in
theorem take_short (A : List Addr) (w : World) (h : Ers A w) (q : Nat) (sl : Value) (xs : List Int) (hR : Rd w q .nilIface sl xs) (n : Int) (hn : (xs.length : Int) < n) :
    Calls Tryd.prog 62 #[.pointer (some ⟨q, 0, none⟩), .int .i64 n] w fun r w' => r = .returned (.slice none 0 0) ∧ Rd w' q (errV A 2) sl xs ∧ Upd q w noV w' noV := by
  obtain ⟨a, c, rfl⟩ := hR.src.len
  obtain ⟨a1, ha1, hg⟩ := h.e1
  have k0 := hR.c0
  have k1 := hR.c1
  have hF : Hid (∀ w2 : World, w2 = w.drew → Calls Tryd.prog 55 #[.pointer (some ⟨q, 0, none⟩), .iface 132 (.pointer (some a1))] w2 fun r w' => r = .returned (.tuple #[]) ∧ Rd w' q (errV A 2) (.slice a xs.length c) xs ∧ Upd q w noV w' noV) := fun w2 e => by
    subst e
    have := rfail_any A w.drew q (.slice a xs.length c) ⟨0, xs⟩ 2 (by decide) (hR.later ((Below.refl _ _).drew))
    rw [errV_at ha1] at this
    exact this.mono fun r w' hr => ⟨hr.1, hr.2.1, hr.2.2.of_drew⟩
  clear h hR
  go_enter Tryd.func62, Tryd.ntmps62
  go_wp2_with fail
  go_region_with (first
    | (go_at_call 55; refine (hF.out _ rfl).mono ?_; rintro r w4 ⟨rfl, b4⟩))
  all_goals go_wp2_with fail
  all_goals exact bodyPost_ret (v := .slice none 0 0) (by simp [results, Tryd.f62, go_sem]) rfl ⟨rfl, b4⟩

set_option maxHeartbeats 1000000 in
set_option maxRecDepth 100000 in
theorem take_good (w : World) (q : Nat) (ad : Addr) (c : Nat) (xs : List Int) (hR : Rd w q .nilIface (.slice (some ad) xs.length c) xs) (n : Nat) (hn : n ≤ xs.length) (_hbig : xs.length ≤ 140737488355328) :
    Calls Tryd.prog 62 #[.pointer (some ⟨q, 0, none⟩), .int .i64 n] w fun r w' => r = .returned (.slice (some ad) n c) ∧ w' = w.setCell ⟨q, 1, none⟩ (.slice (if c = n then some ad else some (ad.add n)) (xs.length - n) (c - n)) := by
  have k0 := hR.c0
  have k1 := hR.c1
  have f1 := hR.f1
  have hc : xs.length ≤ c ∧ c ≤ maxLen := by
    rcases hR.src with ⟨h, _⟩ | ⟨ad', c', he, h1, h2, _⟩
    · cases h
    · cases he; exact ⟨h1, h2⟩
  have hnc : n ≤ c := by omega
  have hnl : ¬ xs.length < n := by omega
  clear hR hc
  by_cases hcn : c = n
  · subst hcn
    rw [if_pos rfl]
    go_enter Tryd.func62, Tryd.ntmps62
    go_wp2_with fail
    all_goals exact bodyPost_ret (v := .slice (some ad) c c) (by simp [results, Tryd.f62, go_sem]) rfl ⟨rfl, by simp⟩
  · rw [if_neg hcn]
    go_enter Tryd.func62, Tryd.ntmps62
    go_wp2_with fail
    all_goals exact bodyPost_ret (v := .slice (some ad) n c) (by simp [results, Tryd.f62, go_sem]) rfl ⟨rfl, rfl⟩

set_option maxHeartbeats 1000000 in
set_option maxRecDepth 100000 in
theorem take_nil (w : World) (q : Nat) (hR : Rd w q .nilIface (.slice none 0 0) []) :
    Calls Tryd.prog 62 #[.pointer (some ⟨q, 0, none⟩), .int .i64 0] w fun r w' => r = .returned (.slice none 0 0) ∧ w' = w.setCell ⟨q, 1, none⟩ (.slice none 0 0) := by
  have k0 := hR.c0
  have k1 := hR.c1
  have f1 := hR.f1
  clear hR
  go_enter Tryd.func62, Tryd.ntmps62
  go_wp2_with fail
  all_goals exact bodyPost_ret (v := .slice none 0 0) (by simp [results, Tryd.f62, go_sem]) rfl ⟨rfl, rfl⟩

theorem Rd.setb {w : World} {q : Nat} {e sl sl' : Value} {xs xs' : List Int} (h : Rd w q e sl xs) (hs : Src w sl' xs') (hap : ∀ ad l c, sl' = .slice (some ad) l c → ad.block < q ∧ ad.spot = none) (h8 : ∀ x ∈ xs', 0 ≤ x ∧ x < 256) :
    Rd (w.setCell ⟨q, 1, none⟩ sl') q e sl' xs' ∧ Upd q w noV (w.setCell ⟨q, 1, none⟩ sl') noV :=
  ⟨⟨by rw [heap_setCell_block h.blk]; rfl, hs.setq (fun ad l c hh => Nat.ne_of_lt (hap ad l c hh).1) 1 sl', hap, h8⟩, ⟨rfl, rfl, rfl, by simp, fun k _ hk _ => Below.heap_setCell _ _ _ _ hk, fun _ hg => .inl hg⟩⟩

def RS.take (s : RS) (n : Nat) : RS := if s.c = 0 then (if s.xs.length < n then ⟨2, s.xs⟩ else ⟨0, s.xs.drop n⟩) else s
def RS.took (s : RS) (n : Nat) : List Int := if s.c = 0 ∧ n ≤ s.xs.length then s.xs.take n else []

theorem take_any (A : List Addr) (w : World) (h : Ers A w) (q : Nat) (sl : Value) (s : RS) (hR : Rd w q (errV A s.c) sl s.xs) (n : Nat) (hbig : s.xs.length ≤ 140737488355328) :
    Calls Tryd.prog 62 #[.pointer (some ⟨q, 0, none⟩), .int .i64 n] w fun r w' => ∃ out sl', r = .returned out ∧ Src w' out (s.took n) ∧ Rd w' q (errV A (s.take n).c) sl' (s.take n).xs ∧ Upd q w noV w' noV := by
  obtain ⟨k, xs⟩ := s
  unfold RS.take RS.took
  simp only
  by_cases hk : k = 0
  · subst hk
    rw [if_pos rfl]
    by_cases hn : xs.length < n
    · rw [if_pos hn, if_neg (by omega)]
      refine (take_short A w h q sl xs hR n (by omega)).mono ?_
      rintro r w' ⟨rfl, hR', hU⟩
      exact ⟨_, sl, rfl, .inl ⟨rfl, rfl⟩, hR', hU⟩
    · rw [if_neg hn, if_pos ⟨rfl, by omega⟩]
      have hR0 : Rd w q .nilIface sl xs := hR
      rcases hR0.src with ⟨rfl, rfl⟩ | ⟨ad, c, rfl, h1, h2, h3⟩
      · obtain rfl : n = 0 := by simpa using hn
        refine (take_nil w q hR0).mono ?_
        rintro r w' ⟨rfl, rfl⟩
        have hx := hR0.setb (sl' := .slice none 0 0) (xs' := []) (.inl ⟨rfl, rfl⟩) (fun _ _ _ hh => by cases hh) (fun x hx => by cases hx)
        exact ⟨_, _, rfl, .inl ⟨rfl, rfl⟩, hx⟩
      · have hsp := (hR0.ap ad _ c rfl)
        refine (take_good w q ad c xs hR0 n (by omega) hbig).mono ?_
        rintro r w' ⟨rfl, rfl⟩
        have hx := hR0.setb (sl' := .slice (if c = n then some ad else some (ad.add n)) (xs.length - n) (c - n)) (xs' := xs.drop n) (hR0.src.drop hsp.2 (by omega)) (fun ad' l c' hh => by
          split at hh
          · cases hh; exact hsp
          · cases hh; exact ⟨by rw [add_block]; exact hsp.1, by unfold Addr.add; split <;> first | exact hsp.2 | rfl⟩) (fun x hx => hR0.by8 x (List.mem_of_mem_drop hx))
        exact ⟨_, _, rfl, (hR0.src.take (by omega)).setq (fun ad' l c' hh => by cases hh; exact Nat.ne_of_lt hsp.1) 1 _, hx⟩
  · rw [if_neg hk, if_neg (fun x => hk x.1)]
    obtain ⟨u, hu⟩ := errV_pos A hk
    have h0 := hR.c0
    simp only at h0
    rw [hu] at h0
    refine (take_has w q n h0).mono ?_
    rintro r w' ⟨rfl, rfl⟩
    exact ⟨_, sl, rfl, .inl ⟨rfl, rfl⟩, hR, Upd.refl _ _ _⟩

end Go.Proofs.YtadonpfpneanhaaDoor
