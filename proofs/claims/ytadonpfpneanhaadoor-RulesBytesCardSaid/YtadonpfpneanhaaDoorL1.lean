/- The walk of RulesApart: a step that is refused changes nothing, and a state's own copy stays. -/
import Derived.Test.YtadonpfpneanhaaDoorR8
namespace Go.Proofs.YtadonpfpneanhaaDoor
open Go.RowKit

theorem doS_err {s : S5} {k ep ro q g : Int} (h : doC s k ep ro q ≠ 0) : doS s k ep ro q g = s := by
  unfold doC at h
  unfold doS
  by_cases h1 : k = 1
  · rw [if_pos h1] at h ⊢
    exact if_neg h
  rw [if_neg h1] at h ⊢
  by_cases h2 : k = 2
  · rw [if_pos h2] at h ⊢
    exact if_neg h
  rw [if_neg h2] at h ⊢
  by_cases h3 : k = 3
  · rw [if_pos h3] at h ⊢
    exact if_neg h
  rw [if_neg h3] at h ⊢
  by_cases h4 : k = 4
  · rw [if_pos h4] at h ⊢
    exact if_neg h
  rw [if_neg h4] at h
  exact absurd rfl h

theorem Box.alls {w : World} {p : Nat} {a b c d e : Int} (h : Box w p a b c d e) : (∀ o : Obj, (w.alloc o).cell? ⟨p, 0, none⟩ = some (.int .i64 a)) ∧ (∀ o : Obj, (w.alloc o).cell? ⟨p, 1, none⟩ = some (.int .i64 b)) ∧
    (∀ o : Obj, (w.alloc o).cell? ⟨p, 2, none⟩ = some (.int .i64 c)) ∧ (∀ o : Obj, (w.alloc o).cell? ⟨p, 3, none⟩ = some (.int .i64 d)) ∧ (∀ o : Obj, (w.alloc o).cell? ⟨p, 4, none⟩ = some (.int .i64 e)) :=
  ⟨cell_alloc_old h.c0, cell_alloc_old h.c1, cell_alloc_old h.c2, cell_alloc_old h.c3, cell_alloc_old h.c4⟩
abbrev box (a b c d e : Int) (t : TypeId) : Obj := .cells #[.int .i64 a, .int .i64 b, .int .i64 c, .int .i64 d, .int .i64 e] t

set_option maxHeartbeats 2000000 in
set_option maxRecDepth 100000 in
theorem rulesApart_walk (A : List Addr) (w : World) (h : Sents G18 132 A w) (a b c d e k ep ro q g : Int) :
    Calls Tryd.prog 11 #[st5 a b c d e, stepV k ep ro q g] w fun r w' => r = .returned (.bool true) ∧ Below w.heap.size w w' := by
  obtain ⟨S, hS⟩ : ∃ S, doS ⟨a, b, c, d, e⟩ k ep ro q g = S := ⟨_, rfl⟩
  obtain ⟨C, hC⟩ : ∃ C, doC ⟨a, b, c, d, e⟩ k ep ro q = C := ⟨_, rfl⟩
  have hErr : C ≠ 0 → S = ⟨a, b, c, d, e⟩ := fun hne => by rw [← hS]; exact doS_err (by rw [hC]; exact hne)
  have HDo : Hid (∀ w, Sents G18 132 A w → Calls Tryd.prog 42 #[st5 a b c d e, stepV k ep ro q g] w fun r w' => r = .returned (.tuple #[S.v, .int .i64 (C : Int)]) ∧ Below w.heap.size w w') := fun w h => by
    have := do_any A ⟨a, b, c, d, e⟩ k ep ro q g w h
    rw [hS, hC] at this
    exact this
  clear hS hC
  have HB : Hid (∀ W', Below w.heap.size w W' → Sents G18 132 A W') := fun W' hW => h.later hW
  clear h
  by_cases hC0 : C = 0
  · subst hC0
    clear hErr
    obtain ⟨a2, b2, c2, d2, e2⟩ := S
    go_enter Tryd.func11, Tryd.ntmps11
    go_wp2_with fail
    have t1 := below_then (below_new w (box a b c d e 47)) (below_new _ (box k ep ro q g 71)) (Nat.le_refl _)
    refine (alive13 A _ (HB.out _ t1)).mono ?_
    rintro r w1 ⟨rfl, b1⟩
    have t2 := below_then t1 b1 (Nat.le_refl _)
    have x2 : Box w1 w.heap.size a b c d e := ((Box.new w a b c d e 47).later (below_new _ _)).later b1
    have x3 : Box w1 (w.heap.size + 1) k ep ro q g := by
      have := (Box.new (w.alloc (box a b c d e 47)) k ep ro q g 71).later b1
      rwa [World.size_alloc] at this
    have X2 := Lib.hid x2
    have X3 := Lib.hid x3
    obtain ⟨ka0, ka1, ka2, ka3, ka4⟩ := x2.alls
    obtain ⟨ma0, ma1, ma2, ma3, ma4⟩ := x3.alls
    obtain ⟨k0, k1, k2, k3, k4, kz0, kz1, kz2, kz3, kz4⟩ := x2
    clear x3 b1 kz0 kz1 kz2 kz3 kz4
    go_wp2_with fail
    clear ka0 ka1 ka2 ka3 ka4 ma0 ma1 ma2 ma3 ma4 k0 k1 k2 k3 k4
    have t3 := below_then t2 (below_new w1 (box a b c d e 47)) (Nat.le_refl _)
    refine (HDo.out _ (HB.out _ t3)).mono ?_
    rintro r w2 ⟨rfl, bb2⟩
    have t4 := below_then t3 bb2 (Nat.le_refl _)
    have y2 := (X2.out.later (below_new w1 (box a b c d e 47))).later bb2
    have y3 := (X3.out.later (below_new w1 (box a b c d e 47))).later bb2
    have y5 := (Box.new w1 a b c d e 47).later bb2
    clear X2 X3 bb2
    have Y2 := Lib.hid y2
    have Y3 := Lib.hid y3
    obtain ⟨ka0, ka1, ka2, ka3, ka4⟩ := y2.alls
    obtain ⟨ma0, ma1, ma2, ma3, ma4⟩ := y3.alls
    obtain ⟨ja0, ja1, ja2, ja3, ja4⟩ := y5.alls
    clear y2 y3 y5
    go_wp2_with fail
    clear ka0 ka1 ka2 ka3 ka4 ma0 ma1 ma2 ma3 ma4 ja0 ja1 ja2 ja3 ja4
    have t5 := below_then t4 (below_new w2 (box a2 b2 c2 d2 e2 47)) (Nat.le_refl _)
    refine (HDo.out _ (HB.out _ t5)).mono ?_
    rintro r w3 ⟨rfl, b3⟩
    have t6 := below_then t5 b3 (Nat.le_refl _)
    have z6 := (Box.new w2 a2 b2 c2 d2 e2 47).later b3
    obtain ⟨ja0, ja1, ja2, ja3, ja4⟩ := z6.alls
    clear z6
    go_wp2_with fail
    go_ret
    exact ⟨rfl, below_then t6 (below_new w3 (box a2 b2 c2 d2 e2 47)) (Nat.le_refl _)⟩
  · obtain rfl := hErr hC0
    have hC1 : ((C : Int) == 0) = false := by simpa using hC0
    have hC2 : ((C : Int) != 0) = true := by simpa using hC0
    have hC3 : ¬ (C : Int) = 0 := by omega
    clear hC0 hErr
    go_enter Tryd.func11, Tryd.ntmps11
    go_wp2_with fail
    have t1 := below_then (below_new w (box a b c d e 47)) (below_new _ (box k ep ro q g 71)) (Nat.le_refl _)
    refine (alive13 A _ (HB.out _ t1)).mono ?_
    rintro r w1 ⟨rfl, b1⟩
    have t2 := below_then t1 b1 (Nat.le_refl _)
    have x2 : Box w1 w.heap.size a b c d e := ((Box.new w a b c d e 47).later (below_new _ _)).later b1
    have x3 : Box w1 (w.heap.size + 1) k ep ro q g := by
      have := (Box.new (w.alloc (box a b c d e 47)) k ep ro q g 71).later b1
      rwa [World.size_alloc] at this
    have X2 := Lib.hid x2
    have X3 := Lib.hid x3
    obtain ⟨ka0, ka1, ka2, ka3, ka4⟩ := x2.alls
    obtain ⟨ma0, ma1, ma2, ma3, ma4⟩ := x3.alls
    obtain ⟨k0, k1, k2, k3, k4, kz0, kz1, kz2, kz3, kz4⟩ := x2
    clear x3 b1 kz0 kz1 kz2 kz3 kz4
    go_wp2_with fail
    clear ka0 ka1 ka2 ka3 ka4 ma0 ma1 ma2 ma3 ma4 k0 k1 k2 k3 k4
    have t3 := below_then t2 (below_new w1 (box a b c d e 47)) (Nat.le_refl _)
    refine (HDo.out _ (HB.out _ t3)).mono ?_
    rintro r w2 ⟨rfl, bb2⟩
    have t4 := below_then t3 bb2 (Nat.le_refl _)
    have y2 := (X2.out.later (below_new w1 (box a b c d e 47))).later bb2
    have y3 := (X3.out.later (below_new w1 (box a b c d e 47))).later bb2
    have y5 := (Box.new w1 a b c d e 47).later bb2
    clear X2 X3 bb2
    have Y2 := Lib.hid y2
    have Y3 := Lib.hid y3
    obtain ⟨ka0, ka1, ka2, ka3, ka4⟩ := y2.alls
    obtain ⟨ma0, ma1, ma2, ma3, ma4⟩ := y3.alls
    obtain ⟨ja0, ja1, ja2, ja3, ja4⟩ := y5.alls
    clear y2 y3 y5
    go_wp2_with fail
    clear ka0 ka1 ka2 ka3 ka4 ma0 ma1 ma2 ma3 ma4 ja0 ja1 ja2 ja3 ja4
    have t5 := below_then t4 (below_new w2 (box a b c d e 47)) (Nat.le_refl _)
    refine (HDo.out _ (HB.out _ t5)).mono ?_
    rintro r w3 ⟨rfl, b3⟩
    have t6 := below_then t5 b3 (Nat.le_refl _)
    have z6 := (Box.new w2 a b c d e 47).later b3
    obtain ⟨ja0, ja1, ja2, ja3, ja4⟩ := z6.alls
    clear z6
    go_wp2_with fail
    go_ret
    exact ⟨rfl, below_then t6 (below_new w3 (box a b c d e 47)) (Nat.le_refl _)⟩

end Go.Proofs.YtadonpfpneanhaaDoor
