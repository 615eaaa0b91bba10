/- The chapter's examples of the rules, and a step by its number. -/
import Derived.Test.YtadonpfpneanhaaDoorR5
namespace Go.Proofs.YtadonpfpneanhaaDoor
open Go.RowKit

/-- A state in a block of its own. -/
structure Box (w : World) (p : Nat) (a b c d e : Int) : Prop where
  c0 : w.cell? ⟨p, 0, none⟩ = some (.int .i64 a)
  c1 : w.cell? ⟨p, 1, none⟩ = some (.int .i64 b)
  c2 : w.cell? ⟨p, 2, none⟩ = some (.int .i64 c)
  c3 : w.cell? ⟨p, 3, none⟩ = some (.int .i64 d)
  c4 : w.cell? ⟨p, 4, none⟩ = some (.int .i64 e)
  z0 : w.frozen? ⟨p, 0, none⟩ = false
  z1 : w.frozen? ⟨p, 1, none⟩ = false
  z2 : w.frozen? ⟨p, 2, none⟩ = false
  z3 : w.frozen? ⟨p, 3, none⟩ = false
  z4 : w.frozen? ⟨p, 4, none⟩ = false
theorem Box.new (w : World) (a b c d e : Int) (t : TypeId) : Box (w.alloc (.cells #[.int .i64 a, .int .i64 b, .int .i64 c, .int .i64 d, .int .i64 e] t)) w.heap.size a b c d e := by
  refine ⟨?_, ?_, ?_, ?_, ?_, ?_, ?_, ?_, ?_, ?_⟩ <;> go_simp
theorem Box.lt {w : World} {p : Nat} {a b c d e : Int} (h : Box w p a b c d e) : p < w.heap.size := lt_of_cell h.c0
theorem Box.below {w w' : World} {p : Nat} {a b c d e : Int} (h : Box w p a b c d e) {B : Nat} (hb : Below B w w') (hp : p < B) : Box w' p a b c d e :=
  ⟨(hb.cell (p := ⟨p, 0, none⟩) hp).trans h.c0, (hb.cell (p := ⟨p, 1, none⟩) hp).trans h.c1, (hb.cell (p := ⟨p, 2, none⟩) hp).trans h.c2, (hb.cell (p := ⟨p, 3, none⟩) hp).trans h.c3, (hb.cell (p := ⟨p, 4, none⟩) hp).trans h.c4,
   (hb.frozen (p := ⟨p, 0, none⟩) hp).trans h.z0, (hb.frozen (p := ⟨p, 1, none⟩) hp).trans h.z1, (hb.frozen (p := ⟨p, 2, none⟩) hp).trans h.z2, (hb.frozen (p := ⟨p, 3, none⟩) hp).trans h.z3, (hb.frozen (p := ⟨p, 4, none⟩) hp).trans h.z4⟩
theorem Box.later {w w' : World} {p : Nat} {a b c d e : Int} (h : Box w p a b c d e) (hb : Below w.heap.size w w') : Box w' p a b c d e := h.below hb h.lt
theorem below_new (w : World) (o : Obj) : Below w.heap.size w (w.alloc o) := (Below.refl _ _).alloc (Nat.le_refl _) _
theorem below_then {B : Nat} {u v w : World} (h : Below B u v) (k : Below v.heap.size v w) (hB : B ≤ u.heap.size) : Below B u w := h.trans (k.mono (Nat.le_trans hB h.size))

set_option maxHeartbeats 1000000 in
set_option maxRecDepth 100000 in
theorem alive13 (A : List Addr) (w : World) (h : Sents G18 132 A w) :
    Calls Tryd.prog 26 #[] w fun r w' => r = .returned (.bool true) ∧ Below w.heap.size w w' := by
  have HS := Lib.hid h
  clear h
  go_enter Tryd.func26, Tryd.ntmps26
  go_wp2_with fail
  refine (vote_any A ⟨1, 0, 0, 0, 0⟩ 1 3 2 1 _ HS.out).mono ?_
  rintro r w1 ⟨rfl, b1⟩
  rw [show voteS ⟨1, 0, 0, 0, 0⟩ 1 3 2 1 = ⟨1, 3, 1, 0, 1⟩ by decide, show voteC ⟨1, 0, 0, 0, 0⟩ 1 3 2 = 0 by decide, errV_zero]
  have hs1 := Lib.hid (HS.out.later b1)
  go_wp2_with fail
  have hx1 := Box.new w1 1 3 1 0 1 47
  have bx1 := below_new w1 (.cells #[.int .i64 1, .int .i64 3, .int .i64 1, .int .i64 0, .int .i64 1] 47)
  have hs2 := Lib.hid (hs1.out.later bx1)
  obtain ⟨W1, hW1⟩ : ∃ W1, W1 = w1.alloc (.cells #[.int .i64 1, .int .i64 3, .int .i64 1, .int .i64 0, .int .i64 1] 47) := ⟨_, rfl⟩
  rw [← hW1] at hx1 bx1 hs2 ⊢
  clear hW1
  refine (vote_any A ⟨1, 3, 1, 0, 1⟩ 1 3 2 1 _ hs2.out).mono ?_
  rintro r w2 ⟨rfl, b2⟩
  rw [show voteS ⟨1, 3, 1, 0, 1⟩ 1 3 2 1 = ⟨1, 3, 1, 0, 1⟩ by decide, show voteC ⟨1, 3, 1, 0, 1⟩ 1 3 2 = 10 by decide]
  have hs3 := Lib.hid (hs2.out.later b2)
  have hx2 := hx1.later b2
  have bx2 := below_new w2 (.cells #[.int .i64 1, .int .i64 3, .int .i64 1, .int .i64 0, .int .i64 1] 47)
  have e0 := cell_alloc_old hx2.c0
  have e1 := cell_alloc_old hx2.c1
  have e2 := cell_alloc_old hx2.c2
  have e3 := cell_alloc_old hx2.c3
  have e4 := cell_alloc_old hx2.c4
  go_wp2_with fail
  obtain ⟨W2, hW2⟩ : ∃ W2, W2 = w2.alloc (.cells #[.int .i64 1, .int .i64 3, .int .i64 1, .int .i64 0, .int .i64 1] 47) := ⟨_, rfl⟩
  have hs4 := Lib.hid (hs3.out.later bx2)
  rw [← hW2] at bx2 hs4 ⊢
  clear hW2 e0 e1 e2 e3 e4
  refine (vote_any A ⟨1, 3, 1, 0, 1⟩ 1 4 0 0 _ hs4.out).mono ?_
  rintro r w3 ⟨rfl, b3⟩
  rw [show voteS ⟨1, 3, 1, 0, 1⟩ 1 4 0 0 = ⟨1, 3, 1, 0, 1⟩ by decide, show voteC ⟨1, 3, 1, 0, 1⟩ 1 4 0 = 15 by decide]
  have hs5 := Lib.hid (hs4.out.later b3)
  have bx3 := below_new w3 (.cells #[.int .i64 1, .int .i64 3, .int .i64 1, .int .i64 0, .int .i64 1] 47)
  have hs6 := Lib.hid (hs5.out.later bx3)
  go_wp2_with fail
  refine (num_code A _ hs6.out 10 (by omega)).mono ?_
  rintro r w4 ⟨rfl, b4⟩
  have hs7 := Lib.hid (hs6.out.later b4)
  go_wp2_with fail
  refine (num_code A _ hs7.out 15 (by omega)).mono ?_
  rintro r w5 ⟨rfl, b5⟩
  go_wp2_with fail
  go_ret
  have t1 := below_then b1 bx1 (Nat.le_refl _)
  have t2 := below_then t1 b2 (Nat.le_refl _)
  have t3 := below_then t2 bx2 (Nat.le_refl _)
  have t4 := below_then t3 b3 (Nat.le_refl _)
  have t5 := below_then t4 bx3 (Nat.le_refl _)
  have t6 := below_then t5 b4 (Nat.le_refl _)
  exact ⟨rfl, below_then t6 b5 (Nat.le_refl _)⟩

/-- A step of a script: kind, epoch, round, q, g. -/
abbrev stepV (k ep ro q g : Int) : Value := .agg #[.int .i64 k, .int .i64 ep, .int .i64 ro, .int .i64 q, .int .i64 g]
def doC (s : S5) (k ep ro q : Int) : Nat := if k = 1 then voteC s ep ro q else if k = 2 then lateC s ep ro else if k = 3 then proposeC s ep ro else if k = 4 then enterC s ep else 0
def doS (s : S5) (k ep ro q g : Int) : S5 := if k = 1 then voteS s ep ro q g else if k = 2 then lateS s ep ro else if k = 3 then proposeS s ep ro else if k = 4 then enterS s ep else s


end Go.Proofs.YtadonpfpneanhaaDoor
