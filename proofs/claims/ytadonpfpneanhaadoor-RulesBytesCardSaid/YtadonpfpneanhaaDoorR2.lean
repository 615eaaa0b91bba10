/- What the rules' steps answer: the state behind a step, or its error. -/
import Derived.Test.YtadonpfpneanhaaDoorR1
namespace Go.Proofs.YtadonpfpneanhaaDoor
open Go.RowKit

theorem cell_alloc_old2 {w : World} {p : Addr} {v : Value} (h : w.cell? p = some v) : ∀ o1 o2 : Obj, ((w.alloc o1).alloc o2).cell? p = some v := fun o1 o2 => cell_alloc_old (cell_alloc_old h o1) o2
def box5 (a b c d e : Int) : Obj := .cells #[.int .i64 a, .int .i64 b, .int .i64 c, .int .i64 d, .int .i64 e] 47
/-- Behind a call: what the box of the state and the place of the result hold. -/
theorem box2 {w w1 : World} {a b c d e : Int} (hb : Below ((w.alloc (box5 a b c d e)).alloc (box5 0 0 0 0 0)).heap.size ((w.alloc (box5 a b c d e)).alloc (box5 0 0 0 0 0)) w1) :
    (w1.cell? ⟨w.heap.size, 0, none⟩ = some (.int .i64 a) ∧ w1.cell? ⟨w.heap.size, 1, none⟩ = some (.int .i64 b) ∧ w1.cell? ⟨w.heap.size, 2, none⟩ = some (.int .i64 c) ∧ w1.cell? ⟨w.heap.size, 3, none⟩ = some (.int .i64 d) ∧ w1.cell? ⟨w.heap.size, 4, none⟩ = some (.int .i64 e)) ∧
    (w1.cell? ⟨w.heap.size + 1, 0, none⟩ = some (.int .i64 0) ∧ w1.cell? ⟨w.heap.size + 1, 1, none⟩ = some (.int .i64 0) ∧ w1.cell? ⟨w.heap.size + 1, 2, none⟩ = some (.int .i64 0) ∧ w1.cell? ⟨w.heap.size + 1, 3, none⟩ = some (.int .i64 0) ∧ w1.cell? ⟨w.heap.size + 1, 4, none⟩ = some (.int .i64 0)) ∧
    (w1.frozen? ⟨w.heap.size + 1, 0, none⟩ = false ∧ w1.frozen? ⟨w.heap.size + 1, 1, none⟩ = false ∧ w1.frozen? ⟨w.heap.size + 1, 2, none⟩ = false ∧ w1.frozen? ⟨w.heap.size + 1, 3, none⟩ = false ∧ w1.frozen? ⟨w.heap.size + 1, 4, none⟩ = false) := by
  obtain ⟨hc, hf⟩ := bcell hb
  simp only [World.size_alloc] at hc hf
  refine ⟨⟨?_, ?_, ?_, ?_, ?_⟩, ⟨?_, ?_, ?_, ?_, ?_⟩, ⟨?_, ?_, ?_, ?_, ?_⟩⟩
  all_goals (first | rw [hc _ _ (by omega)] | rw [hf _ _ (by omega)])
  all_goals (unfold box5; go_simp)
theorem below_five {B : Nat} {u w : World} (h : Below B u w) {p : Nat} (hp : B ≤ p) (v0 v1 v2 v3 v4 : Value) :
    Below B u (((((w.setCell ⟨p, 0, none⟩ v0).setCell ⟨p, 1, none⟩ v1).setCell ⟨p, 2, none⟩ v2).setCell ⟨p, 3, none⟩ v3).setCell ⟨p, 4, none⟩ v4) :=
  ((((h.setCell (p := ⟨p, 0, none⟩) hp _).setCell (p := ⟨p, 1, none⟩) hp _).setCell (p := ⟨p, 2, none⟩) hp _).setCell (p := ⟨p, 3, none⟩) hp _).setCell (p := ⟨p, 4, none⟩) hp _
theorem frozen_alloc_old {w : World} {p : Addr} {v : Bool} (hp : p.block < w.heap.size) (h : w.frozen? p = v) : ∀ o : Obj, (w.alloc o).frozen? p = v := fun o =>
  (((Below.refl w.heap.size w).alloc (Nat.le_refl _) o).frozen hp).trans h
theorem errV_some {A : List Addr} {c : Nat} (h : c ≠ 0) : ∃ y, errV A c = .iface 132 (.pointer (some y)) := ⟨_, if_neg h⟩

/-- 'end': what it answers to a state: the state and an error, or the state with a leaf more. -/
theorem end_spent (A : List Addr) (a b c d e : Int) (w : World) (h : Sents G18 132 A w) (he : 32 ≤ e) :
    Calls Tryd.prog 78 #[st5 a b c d e, .bool false] w fun r w' => r = .returned (.tuple #[st5 a b c d e, errV A 5]) ∧ Below w.heap.size w w' := by
  obtain ⟨x, hx⟩ := sent_at h 4 (by omega)
  rw [errV_at hx]
  have hc := h.cell 4 6 x rfl hx
  clear h hx
  have hc1 := cell_alloc_old hc
  have hc2 := cell_alloc_old2 hc
  go_enter Tryd.func78, Tryd.ntmps78
  go_wp2_with fail
  go_region
  go_wp2_with fail
  exact bodyPost_ret (v := .tuple #[st5 a b c d e, .iface 132 (.pointer (some x))]) (by simp [results, Tryd.results78, go_sem]) rfl ⟨rfl, (((Below.refl _ w).alloc (Nat.le_refl _) _).alloc (by simp) _).drew⟩
theorem end_old (A : List Addr) (a b c d e : Int) (w : World) (h : Sents G18 132 A w) :
    Calls Tryd.prog 78 #[st5 a b c d e, .bool true] w fun r w' => r = .returned (.tuple #[st5 a b c d e, errV A 10]) ∧ Below w.heap.size w w' := by
  obtain ⟨x, hx⟩ := sent_at h 9 (by omega)
  rw [errV_at hx]
  have hc := h.cell 9 0 x rfl hx
  clear h hx
  have hc1 := cell_alloc_old hc
  have hc2 := cell_alloc_old2 hc
  go_enter Tryd.func78, Tryd.ntmps78
  go_wp2_with fail
  go_region
  go_wp2_with fail
  exact bodyPost_ret (v := .tuple #[st5 a b c d e, .iface 132 (.pointer (some x))]) (by simp [results, Tryd.results78, go_sem]) rfl ⟨rfl, (((Below.refl _ w).alloc (Nat.le_refl _) _).alloc (by simp) _).drew⟩
theorem end_ok (a b c d e : Int) (w : World) (he0 : 0 ≤ e) (he : e < 32) :
    Calls Tryd.prog 78 #[st5 a b c d e, .bool false] w fun r w' => r = .returned (.tuple #[st5 a b c d (e + 1), .nilIface]) ∧ Below w.heap.size w w' := by
  go_enter Tryd.func78, Tryd.ntmps78
  go_wp2_with fail
  exact bodyPost_ret (v := .tuple #[st5 a b c d (e + 1), .nilIface]) (by simp [results, Tryd.results78, go_sem]) rfl ⟨rfl, ((Below.refl _ w).alloc (Nat.le_refl _) _).alloc (by simp) _⟩

/-! ### The steps as plain functions -/
structure S5 where
  (a b c d e : Int)
deriving DecidableEq
abbrev S5.v (s : S5) : Value := st5 s.a s.b s.c s.d s.e
abbrev S5.right (s : S5) : Prop := RightP s.a s.b s.c s.d s.e
abbrev S5.begin (s : S5) (epoch round : Int) : Nat := beginC s.a s.b s.c s.d s.e epoch round
def voteC (s : S5) (epoch round q : Int) : Nat := if s.begin epoch round ≠ 0 then s.begin epoch round else if q < 0 ∨ round ≤ q then 14 else if round ≤ s.b then 10 else if q < s.c then 15 else if 32 ≤ s.e then 5 else 0
def voteS (s : S5) (epoch round q g : Int) : S5 := if voteC s epoch round q = 0 then ⟨s.a, round, if g ≤ q then max s.c g else s.c, s.d, s.e + 1⟩ else s
def lateC (s : S5) (epoch round : Int) : Nat := if s.begin epoch round ≠ 0 then s.begin epoch round else if 32 ≤ s.e then 5 else 0
def lateS (s : S5) (epoch round : Int) : S5 := if lateC s epoch round = 0 then ⟨s.a, max s.b round, s.c, s.d, s.e + 1⟩ else s
def proposeC (s : S5) (epoch round : Int) : Nat := if s.begin epoch round ≠ 0 then s.begin epoch round else if round ≤ s.d then 10 else if 32 ≤ s.e then 5 else 0
def proposeS (s : S5) (epoch round : Int) : S5 := if proposeC s epoch round = 0 then ⟨s.a, s.b, s.c, round, s.e + 1⟩ else s
def enterC (s : S5) (epoch : Int) : Nat := if ¬ s.right then 4 else if epoch ≤ s.a ∨ 1073741824 < epoch then 18 else 0
def enterS (s : S5) (epoch : Int) : S5 := if enterC s epoch = 0 then ⟨epoch, 0, 0, 0, s.e⟩ else s

theorem begin_zero {a b c d e epoch round : Int} (h : beginC a b c d e epoch round = 0) : RightP a b c d e ∧ epoch = a ∧ 1 ≤ round ∧ round ≤ 1099511627776 := by
  unfold beginC at h
  by_cases hR : RightP a b c d e
  · rw [if_neg (fun x => x hR)] at h
    by_cases hE : epoch = a
    · rw [if_neg (by simpa using hE)] at h
      by_cases hr : round < 1 ∨ 1099511627776 < round
      · rw [if_pos hr] at h; omega
      · exact ⟨hR, hE, by omega, by omega⟩
    · rw [if_pos hE] at h; omega
  · rw [if_pos hR] at h; omega

set_option maxHeartbeats 1000000 in
set_option maxRecDepth 100000 in
theorem vote_begin (A : List Addr) (a b c d e epoch round q g : Int) (w : World) (h : Sents G18 132 A w) (hB : beginC a b c d e epoch round ≠ 0) :
    Calls Tryd.prog 46 #[st5 a b c d e, .int .i64 epoch, .int .i64 round, .int .i64 q, .int .i64 g] w fun r w' => r = .returned (.tuple #[st5 a b c d e, errV A (beginC a b c d e epoch round)]) ∧ Below w.heap.size w w' := by
  have HS := Lib.hid h
  obtain ⟨y, hy⟩ := errV_some (A := A) hB
  have HB : Hid (errV A (beginC a b c d e epoch round) = .iface 132 (.pointer (some y))) := hy
  clear h hB hy
  go_enter Tryd.func46, Tryd.ntmps46
  go_wp2_with fail
  refine (begin_any A a b c d e epoch round _ (HS.out.later (((Below.refl w.heap.size w).alloc (Nat.le_refl _) _).alloc (by simp) _))).mono ?_
  rintro r w1 ⟨rfl, hb1⟩
  have hs1 := Lib.hid ((HS.out.later (((Below.refl w.heap.size w).alloc (Nat.le_refl _) _).alloc (by simp) _)).later hb1)
  have hb := (((Below.refl w.heap.size w).alloc (Nat.le_refl _) _).alloc (by simp) _).trans (hb1.mono (by simp; omega))
  obtain ⟨⟨k0, k1, k2, k3, k4⟩, ⟨r0, r1, r2, r3, r4⟩, ⟨z0, z1, z2, z3, z4⟩⟩ := box2 hb1
  have hz1 := hb1.size
  simp only [World.size_alloc] at hz1
  rw [HB.out]
  go_wp2_with fail
  exact bodyPost_ret (v := .tuple #[st5 a b c d e, .iface 132 (.pointer (some y))]) (by simp [results, Tryd.results46, go_sem, r0, r1, r2, r3, r4]) rfl ⟨by rw [HB.out], below_five hb (by omega) _ _ _ _ _⟩
set_option maxHeartbeats 1000000 in
set_option maxRecDepth 100000 in
theorem vote_q (A : List Addr) (a b c d e epoch round q g : Int) (w : World) (h : Sents G18 132 A w) (hB : beginC a b c d e epoch round = 0) (hc : q < 0 ∨ round ≤ q) :
    Calls Tryd.prog 46 #[st5 a b c d e, .int .i64 epoch, .int .i64 round, .int .i64 q, .int .i64 g] w fun r w' => r = .returned (.tuple #[st5 a b c d e, errV A 14]) ∧ Below w.heap.size w w' := by
  have HS := Lib.hid h
  have hsz := h.size
  have HB : Hid (errV A (beginC a b c d e epoch round) = .nilIface) := by rw [hB]; rfl
  obtain ⟨x, hx⟩ := sent_at h 13 (by omega)
  have HX := Lib.hid hx
  have EX : Hid (errV A 14 = .iface 132 (.pointer (some x))) := errV_at hx
  obtain ⟨hR, hE, hr1, hr2⟩ := begin_zero hB
  obtain ⟨⟨a0, a1⟩, ⟨b0, b1⟩, ⟨c0, c1⟩, ⟨d0, d1⟩, ⟨e0, e1⟩⟩ := hR
  clear h hB hx hE
  rcases hc with hc | hc
  all_goals
    go_enter Tryd.func46, Tryd.ntmps46
    go_wp2_with fail
    refine (begin_any A a b c d e epoch round _ (HS.out.later (((Below.refl w.heap.size w).alloc (Nat.le_refl _) _).alloc (by simp) _))).mono ?_
    rintro r w1 ⟨rfl, hb1⟩
    have hs1 := Lib.hid ((HS.out.later (((Below.refl w.heap.size w).alloc (Nat.le_refl _) _).alloc (by simp) _)).later hb1)
    have hb := (((Below.refl w.heap.size w).alloc (Nat.le_refl _) _).alloc (by simp) _).trans (hb1.mono (by simp; omega))
    obtain ⟨⟨k0, k1, k2, k3, k4⟩, ⟨r0, r1, r2, r3, r4⟩, ⟨z0, z1, z2, z3, z4⟩⟩ := box2 hb1
    have hz1 := hb1.size
    simp only [World.size_alloc] at hz1
    rw [HB.out]
    have hg1 := hs1.out.cell 13 1 x rfl HX.out
    go_wp2_with fail
    go_region
    go_wp2_with fail
    exact bodyPost_ret (v := .tuple #[st5 a b c d e, .iface 132 (.pointer (some x))]) (by simp [results, Tryd.results46, go_sem, r0, r1, r2, r3, r4]) rfl ⟨by rw [EX.out], (below_five hb (by omega) _ _ _ _ _).drew⟩
set_option maxHeartbeats 1000000 in
set_option maxRecDepth 100000 in
theorem vote_old (A : List Addr) (a b c d e epoch round q g : Int) (w : World) (h : Sents G18 132 A w) (hB : beginC a b c d e epoch round = 0) (hq0 : 0 ≤ q) (hq1 : q < round) (hc : round ≤ b) :
    Calls Tryd.prog 46 #[st5 a b c d e, .int .i64 epoch, .int .i64 round, .int .i64 q, .int .i64 g] w fun r w' => r = .returned (.tuple #[st5 a b c d e, errV A 10]) ∧ Below w.heap.size w w' := by
  have HS := Lib.hid h
  have hsz := h.size
  have HB : Hid (errV A (beginC a b c d e epoch round) = .nilIface) := by rw [hB]; rfl
  obtain ⟨x, hx⟩ := sent_at h 9 (by omega)
  have HX := Lib.hid hx
  have EX : Hid (errV A 10 = .iface 132 (.pointer (some x))) := errV_at hx
  obtain ⟨hR, hE, hr1, hr2⟩ := begin_zero hB
  obtain ⟨⟨a0, a1⟩, ⟨b0, b1⟩, ⟨c0, c1⟩, ⟨d0, d1⟩, ⟨e0, e1⟩⟩ := hR
  clear h hB hx hE
  go_enter Tryd.func46, Tryd.ntmps46
  go_wp2_with fail
  refine (begin_any A a b c d e epoch round _ (HS.out.later (((Below.refl w.heap.size w).alloc (Nat.le_refl _) _).alloc (by simp) _))).mono ?_
  rintro r w1 ⟨rfl, hb1⟩
  have hs1 := Lib.hid ((HS.out.later (((Below.refl w.heap.size w).alloc (Nat.le_refl _) _).alloc (by simp) _)).later hb1)
  have hb := (((Below.refl w.heap.size w).alloc (Nat.le_refl _) _).alloc (by simp) _).trans (hb1.mono (by simp; omega))
  obtain ⟨⟨k0, k1, k2, k3, k4⟩, ⟨r0, r1, r2, r3, r4⟩, ⟨z0, z1, z2, z3, z4⟩⟩ := box2 hb1
  have hz1 := hb1.size
  simp only [World.size_alloc] at hz1
  rw [HB.out]
  have hg1 := hs1.out.cell 9 0 x rfl HX.out
  go_wp2_with fail
  go_region
  go_wp2_with fail
  exact bodyPost_ret (v := .tuple #[st5 a b c d e, .iface 132 (.pointer (some x))]) (by simp [results, Tryd.results46, go_sem, r0, r1, r2, r3, r4]) rfl ⟨by rw [EX.out], (below_five hb (by omega) _ _ _ _ _).drew⟩
set_option maxHeartbeats 1000000 in
set_option maxRecDepth 100000 in
theorem vote_unsafe (A : List Addr) (a b c d e epoch round q g : Int) (w : World) (h : Sents G18 132 A w) (hB : beginC a b c d e epoch round = 0) (hq0 : 0 ≤ q) (hq1 : q < round) (hb2 : b < round) (hc : q < c) :
    Calls Tryd.prog 46 #[st5 a b c d e, .int .i64 epoch, .int .i64 round, .int .i64 q, .int .i64 g] w fun r w' => r = .returned (.tuple #[st5 a b c d e, errV A 15]) ∧ Below w.heap.size w w' := by
  have HS := Lib.hid h
  have hsz := h.size
  have HB : Hid (errV A (beginC a b c d e epoch round) = .nilIface) := by rw [hB]; rfl
  obtain ⟨x, hx⟩ := sent_at h 14 (by omega)
  have HX := Lib.hid hx
  have EX : Hid (errV A 15 = .iface 132 (.pointer (some x))) := errV_at hx
  obtain ⟨hR, hE, hr1, hr2⟩ := begin_zero hB
  obtain ⟨⟨a0, a1⟩, ⟨b0, b1⟩, ⟨c0, c1⟩, ⟨d0, d1⟩, ⟨e0, e1⟩⟩ := hR
  clear h hB hx hE
  go_enter Tryd.func46, Tryd.ntmps46
  go_wp2_with fail
  refine (begin_any A a b c d e epoch round _ (HS.out.later (((Below.refl w.heap.size w).alloc (Nat.le_refl _) _).alloc (by simp) _))).mono ?_
  rintro r w1 ⟨rfl, hb1⟩
  have hs1 := Lib.hid ((HS.out.later (((Below.refl w.heap.size w).alloc (Nat.le_refl _) _).alloc (by simp) _)).later hb1)
  have hb := (((Below.refl w.heap.size w).alloc (Nat.le_refl _) _).alloc (by simp) _).trans (hb1.mono (by simp; omega))
  obtain ⟨⟨k0, k1, k2, k3, k4⟩, ⟨r0, r1, r2, r3, r4⟩, ⟨z0, z1, z2, z3, z4⟩⟩ := box2 hb1
  have hz1 := hb1.size
  simp only [World.size_alloc] at hz1
  rw [HB.out]
  have hg1 := hs1.out.cell 14 14 x rfl HX.out
  go_wp2_with fail
  go_region
  go_wp2_with fail
  exact bodyPost_ret (v := .tuple #[st5 a b c d e, .iface 132 (.pointer (some x))]) (by simp [results, Tryd.results46, go_sem, r0, r1, r2, r3, r4]) rfl ⟨by rw [EX.out], (below_five hb (by omega) _ _ _ _ _).drew⟩

end Go.Proofs.YtadonpfpneanhaaDoor
