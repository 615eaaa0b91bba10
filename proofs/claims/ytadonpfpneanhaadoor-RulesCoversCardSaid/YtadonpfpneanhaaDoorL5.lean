/- The walk of RulesCovers: which states cover which, and that it goes on over a third. -/
import Derived.Test.YtadonpfpneanhaaDoorR13
import Derived.Test.YtadonpfpneanhaaDoorL1
namespace Go.Proofs.YtadonpfpneanhaaDoor
open Go.RowKit

structure Cell5 (w : World) (p : Nat) (a b c d e : Int) : Prop where
  c0 : w.cell? ⟨p, 0, none⟩ = some (.int .i64 a)
  c1 : w.cell? ⟨p, 1, none⟩ = some (.int .i64 b)
  c2 : w.cell? ⟨p, 2, none⟩ = some (.int .i64 c)
  c3 : w.cell? ⟨p, 3, none⟩ = some (.int .i64 d)
  c4 : w.cell? ⟨p, 4, none⟩ = some (.int .i64 e)
theorem Cell5.later {w w' : World} {p : Nat} {a b c d e : Int} (h : Cell5 w p a b c d e) (hb : Below w.heap.size w w') : Cell5 w' p a b c d e := by
  obtain ⟨h0, h1, h2, h3, h4⟩ := h
  have hp : p < w.heap.size := lt_of_cell h0
  exact ⟨(hb.cell (p := ⟨p, 0, none⟩) hp).trans h0, (hb.cell (p := ⟨p, 1, none⟩) hp).trans h1, (hb.cell (p := ⟨p, 2, none⟩) hp).trans h2, (hb.cell (p := ⟨p, 3, none⟩) hp).trans h3, (hb.cell (p := ⟨p, 4, none⟩) hp).trans h4⟩
theorem Box.cell5 {w : World} {p : Nat} {a b c d e : Int} (h : Box w p a b c d e) : Cell5 w p a b c d e := ⟨h.c0, h.c1, h.c2, h.c3, h.c4⟩

structure CovS (w : World) (B : Nat) (a b c d e a2 b2 c2 d2 e2 a3 b3 c3 d3 e3 : Int) (w' : World) : Prop where
  x1 : Cell5 w' B a b c d e
  x2 : Cell5 w' (B + 1) a2 b2 c2 d2 e2
  x3 : Cell5 w' (B + 1 + 1) a3 b3 c3 d3 e3
  bb : Below w.heap.size w w'
theorem CovS.later {w W W' : World} {B : Nat} {a b c d e a2 b2 c2 d2 e2 a3 b3 c3 d3 e3 : Int} (h : CovS w B a b c d e a2 b2 c2 d2 e2 a3 b3 c3 d3 e3 W) (hb : Below W.heap.size W W') : CovS w B a b c d e a2 b2 c2 d2 e2 a3 b3 c3 d3 e3 W' :=
  ⟨h.1.later hb, h.2.later hb, h.3.later hb, below_then h.4 hb (Nat.le_refl _)⟩

theorem covers_self (s : S5) : decide (CoversP s s) = true := decide_eq_true ⟨Int.le_refl _, Or.inr ⟨rfl, Int.le_refl _, Int.le_refl _, Int.le_refl _⟩⟩
theorem covers_over {s t u : S5} (h1 : CoversP s t) (h2 : CoversP t u) : CoversP s u := by
  unfold CoversP at *
  omega

/-- A region that draws, walked once over a class of worlds; its operations written out. -/
theorem region_class {P : Program} {id : Nat} {Q : Exit → Act → World → Prop} {a : Act} {w : World} {l : List Oper} (C : World → Prop) (hm : P.follows .mixedOrders = true) (hB : Region.lexB .any l.toArray = true) (hC : C w.drew)
    (h : wpQuiet P l.toArray C (fun a' => ∀ w', C w' → Q .normal a' w') l a) : (Code.region id l.toArray true).wp P Q a w :=
  wp_region_quiet (C := C) hm hB hC (by simpa using h)

set_option maxHeartbeats 4000000 in
set_option maxRecDepth 100000 in
theorem rulesCovers_walk (A : List Addr) (w : World) (h : Sents G18 132 A w) (a b c d e a2 b2 c2 d2 e2 a3 b3 c3 d3 e3 : Int) :
    Calls Tryd.prog 5 #[st5 a b c d e, st5 a2 b2 c2 d2 e2, st5 a3 b3 c3 d3 e3] w fun r w' => r = .returned (.bool true) ∧ Below w.heap.size w w' := by
  have HB : Hid (∀ W', Below w.heap.size w W' → Sents G18 132 A W') := fun W' hW => h.later hW
  clear h
  have hss := covers_self ⟨a, b, c, d, e⟩
  obtain ⟨st, hst⟩ : ∃ x, decide (CoversP ⟨a, b, c, d, e⟩ ⟨a2, b2, c2, d2, e2⟩) = x := ⟨_, rfl⟩
  obtain ⟨tu, htu⟩ : ∃ x, decide (CoversP ⟨a2, b2, c2, d2, e2⟩ ⟨a3, b3, c3, d3, e3⟩) = x := ⟨_, rfl⟩
  obtain ⟨su, hsu⟩ : ∃ x, decide (CoversP ⟨a, b, c, d, e⟩ ⟨a3, b3, c3, d3, e3⟩) = x := ⟨_, rfl⟩
  have hall : (st && tu && !su) = false := by
    cases st <;> cases tu <;> cases su <;> first | rfl | (exact absurd (covers_over (of_decide_eq_true hst) (of_decide_eq_true htu)) (of_decide_eq_false hsu))
  have CSS : Hid (∀ w, Calls Tryd.prog 27 #[st5 a b c d e, st5 a b c d e] w fun r w' => r = .returned (.bool true) ∧ Below w.heap.size w w') := fun w => by
    have := covers_any a b c d e a b c d e w
    rwa [hss] at this
  have CST : Hid (∀ w, Calls Tryd.prog 27 #[st5 a b c d e, st5 a2 b2 c2 d2 e2] w fun r w' => r = .returned (.bool st) ∧ Below w.heap.size w w') := fun w => by
    have := covers_any a b c d e a2 b2 c2 d2 e2 w
    rwa [hst] at this
  have RST : Hid (∀ w, Calls Tryd.prog 28 #[st5 a b c d e, st5 a2 b2 c2 d2 e2] w fun r w' => r = .returned (.bool st) ∧ Below w.heap.size w w') := fun w => by
    have := ref_covers a b c d e a2 b2 c2 d2 e2 w
    rwa [hst] at this
  have CTU : Hid (∀ w, Calls Tryd.prog 27 #[st5 a2 b2 c2 d2 e2, st5 a3 b3 c3 d3 e3] w fun r w' => r = .returned (.bool tu) ∧ Below w.heap.size w w') := fun w => by
    have := covers_any a2 b2 c2 d2 e2 a3 b3 c3 d3 e3 w
    rwa [htu] at this
  have CSU : Hid (∀ w, Calls Tryd.prog 27 #[st5 a b c d e, st5 a3 b3 c3 d3 e3] w fun r w' => r = .returned (.bool su) ∧ Below w.heap.size w w') := fun w => by
    have := covers_any a b c d e a3 b3 c3 d3 e3 w
    rwa [hsu] at this
  clear hss hst htu hsu
  go_enter Tryd.func5, Tryd.ntmps5
  go_wp2_with fail
  have q1 := Box.new w a b c d e 47
  have q2 := Box.new (w.alloc (box a b c d e 47)) a2 b2 c2 d2 e2 47
  have q3 := Box.new ((w.alloc (box a b c d e 47)).alloc (box a2 b2 c2 d2 e2 47)) a3 b3 c3 d3 e3 47
  rw [World.size_alloc] at q2
  rw [World.size_alloc, World.size_alloc] at q3
  have t1 := below_then (below_then (below_new w (box a b c d e 47)) (below_new _ (box a2 b2 c2 d2 e2 47)) (Nat.le_refl _)) (below_new _ (box a3 b3 c3 d3 e3 47)) (Nat.le_refl _)
  refine (alive13 A _ (HB.out _ t1)).mono ?_
  rintro r w1 ⟨rfl, b1⟩
  have y1 := (((q1.later (below_new _ _)).later (below_new _ _)).later b1).cell5
  have y2 := ((q2.later (below_new _ _)).later b1).cell5
  have y3 := (q3.later b1).cell5
  have t2 := below_then t1 b1 (Nat.le_refl _)
  have hS : CovS w w.heap.size a b c d e a2 b2 c2 d2 e2 a3 b3 c3 d3 e3 w1.drew := (CovS.mk y1 y2 y3 t2).later ((Below.refl _ _).drew)
  clear b1 t1 q1 q2 q3 y1 y2 y3 t2 HB
  go_upto_region 3 with (fail)
  refine region_class (CovS w w.heap.size a b c d e a2 b2 c2 d2 e2 a3 b3 c3 d3 e3) (by kernel_rfl) (by kernel_rfl) hS ?_
  clear hS
  cases st <;> cases tu <;> cases su
  all_goals first
    | (exfalso; revert hall; decide)
    | skip
  all_goals clear hall
  all_goals
    iterate 30 (
      refine wpQuiet_step (fun K hK => ?_)
      first
        | (rw [if_pos (by rfl)]
           apply Exists.intro
           refine ⟨fun W hW => ?_, hK _ ?_⟩
           case refine_1 =>
             have HK := Lib.hid hW
             obtain ⟨⟨f0, f1, f2, f3, f4⟩, ⟨g0, g1, g2, g3, g4⟩, ⟨i0, i1, i2, i3, i4⟩, -⟩ := hW
             unfold Oper.quietAt
             go_simp
             first
               | ((with_reducible refine (CST.out _).mono ?_); rintro r w4 ⟨rfl, b4⟩; exact ⟨rfl, HK.out.later b4⟩)
               | ((with_reducible refine (RST.out _).mono ?_); rintro r w4 ⟨rfl, b4⟩; exact ⟨rfl, HK.out.later b4⟩)
               | ((with_reducible refine (CSS.out _).mono ?_); rintro r w4 ⟨rfl, b4⟩; exact ⟨rfl, HK.out.later b4⟩)
               | ((with_reducible refine (CTU.out _).mono ?_); rintro r w4 ⟨rfl, b4⟩; exact ⟨rfl, HK.out.later b4⟩)
               | ((with_reducible refine (CSU.out _).mono ?_); rintro r w4 ⟨rfl, b4⟩; exact ⟨rfl, HK.out.later b4⟩)
               | done
               | with_reducible rfl)
        | (rw [if_neg (by exact ne_true_of_eq_false rfl)]
           refine hK _ ?_)
      clear hK K
      simp only [Act.put, List.setIfInBounds_toArray, List.set_cons_zero, List.set_cons_succ])
  all_goals
    refine wpQuiet_nil ?_
    intro w' hw'
    have HL := Lib.hid hw'.bb
    clear hw'
    go_wp2_with fail
  all_goals
    go_ret
    exact ⟨rfl, HL.out⟩

end Go.Proofs.YtadonpfpneanhaaDoor
