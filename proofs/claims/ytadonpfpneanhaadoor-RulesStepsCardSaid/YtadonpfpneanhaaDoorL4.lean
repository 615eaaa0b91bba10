/- The walk of RulesSteps: which state is behind every step, or its error. -/
import Derived.Test.YtadonpfpneanhaaDoorR12
import Derived.Test.YtadonpfpneanhaaDoorL1
namespace Go.Proofs.YtadonpfpneanhaaDoor
open Go.RowKit

set_option maxHeartbeats 4000000 in
set_option maxRecDepth 100000 in
theorem rulesSteps_walk (A : List Addr) (w : World) (h : Sents G18 132 A w) (a b c d e k ep ro q g : Int) :
    Calls Tryd.prog 8 #[st5 a b c d e, stepV k ep ro q g] w fun r w' => r = .returned (.bool true) ∧ Below w.heap.size w w' := by
  obtain ⟨S, hS⟩ : ∃ S, doS ⟨a, b, c, d, e⟩ k ep ro q g = S := ⟨_, rfl⟩
  obtain ⟨C, hC⟩ : ∃ C, doC ⟨a, b, c, d, e⟩ k ep ro q = C := ⟨_, rfl⟩
  have HDo : Hid (∀ w, Sents G18 132 A w → Calls Tryd.prog 42 #[st5 a b c d e, stepV k ep ro q g] w fun r w' => r = .returned (.tuple #[S.v, .int .i64 (C : Int)]) ∧ Below w.heap.size w w') := fun w h => by
    have := do_any A ⟨a, b, c, d, e⟩ k ep ro q g w h
    rw [hS, hC] at this
    exact this
  have HTold : Hid (∀ w, Calls Tryd.prog 43 #[st5 a b c d e, stepV k ep ro q g] w fun r w' => r = .returned (.tuple #[S.v, .int .i64 (C : Int)]) ∧ Below w.heap.size w w') := fun w => by
    have := told_any ⟨a, b, c, d, e⟩ k ep ro q g w
    rw [hS, hC] at this
    exact this
  clear hS hC
  have HB : Hid (∀ W', Below w.heap.size w W' → Sents G18 132 A W') := fun W' hW => h.later hW
  clear h
  obtain ⟨a2, b2, c2, d2, e2⟩ := S
  go_enter Tryd.func8, Tryd.ntmps8
  go_wp2_with fail
  have t1 := below_then (below_new w (box a b c d e 47)) (below_new _ (box k ep ro q g 71)) (Nat.le_refl _)
  refine (alive13 A _ (HB.out _ t1)).mono ?_
  rintro r w1 ⟨rfl, b1⟩
  have t2 := below_then t1 b1 (Nat.le_refl _)
  have x2 : Box w1 w.heap.size a b c d e := ((Box.new w a b c d e 47).later (below_new _ _)).later b1
  have x3 : Box w1 (w.heap.size + 1) k ep ro q g := by
    have := (Box.new (w.alloc (box a b c d e 47)) k ep ro q g 71).later b1
    rwa [World.size_alloc] at this
  have X2 := Lib.hid x2
  have X3 := Lib.hid x3
  obtain ⟨k0, k1, k2, k3, k4, -, -, -, -, -⟩ := x2
  obtain ⟨m0, m1, m2, m3, m4, -, -, -, -, -⟩ := x3
  clear b1 t1
  go_wp2_with fail
  clear k0 k1 k2 k3 k4 m0 m1 m2 m3 m4
  refine (HDo.out _ (HB.out _ t2)).mono ?_
  rintro r w2 ⟨rfl, bb2⟩
  have t3 := below_then t2 bb2 (Nat.le_refl _)
  have y2 := X2.out.later bb2
  have y3 := X3.out.later bb2
  have Y2 := Lib.hid y2
  have Y3 := Lib.hid y3
  obtain ⟨ka0, ka1, ka2, ka3, ka4⟩ := y2.alls
  obtain ⟨ma0, ma1, ma2, ma3, ma4⟩ := y3.alls
  clear y2 y3 X2 X3 bb2 t2
  go_wp2_with fail
  clear ka0 ka1 ka2 ka3 ka4 ma0 ma1 ma2 ma3 ma4
  have n5 := Box.new w2 a2 b2 c2 d2 e2 47
  have t4 := below_then t3 (below_new w2 (box a2 b2 c2 d2 e2 47)) (Nat.le_refl _)
  have z2 := Y2.out.later (below_new w2 (box a2 b2 c2 d2 e2 47))
  refine (HTold.out _).mono ?_
  rintro r w3 ⟨rfl, b3⟩
  have t5 := below_then t4 b3 (Nat.le_refl _)
  have u2 := z2.later b3
  have u5 := n5.later b3
  have v7 := Box.new w3 a2 b2 c2 d2 e2 49
  have v2 := u2.later (below_new w3 (box a2 b2 c2 d2 e2 49))
  have v5 := u5.later (below_new w3 (box a2 b2 c2 d2 e2 49))
  have t6 := below_then t5 (below_new w3 (box a2 b2 c2 d2 e2 49)) (Nat.le_refl _)
  have U2 := Lib.hid v2
  clear z2 n5 b3 t3 t4 t5 Y2 Y3 u2 u5
  have s3 := v7.lt
  go_upto_region 5 with (fail)
  obtain ⟨W, hW⟩ : ∃ W, W = w3.alloc (box a2 b2 c2 d2 e2 49) := ⟨_, rfl⟩
  rw [← hW] at v7 v2 v5 t6 U2 ⊢
  clear hW
  have T6 := Lib.hid t6
  obtain ⟨k0, k1, k2, k3, k4, -, -, -, -, -⟩ := v2
  obtain ⟨m0, m1, m2, m3, m4, -, -, -, -, -⟩ := v5
  obtain ⟨j0, j1, j2, j3, j4, -, -, -, -, -⟩ := v7
  clear t6 s3
  go_region_with (first
    | (go_at_call 44; refine (right_any _ _ _ _ _ _).mono ?_; rintro r w4 ⟨rfl, b4⟩; have hF := below_then T6.out.drew b4 (Nat.le_refl _); have q2 := U2.out.drew.later b4; obtain ⟨n0, n1, n2, n3, n4, -, -, -, -, -⟩ := q2)
    | (go_at_call 45; refine (ref_right _ _ _ _ _ _).mono ?_; rintro r w5 ⟨rfl, b5⟩; have hG := below_then hF b5 (Nat.le_refl _)))
  all_goals (go_wp2_with fail)
  all_goals (go_ret; exact ⟨rfl, hG⟩)

end Go.Proofs.YtadonpfpneanhaaDoor
