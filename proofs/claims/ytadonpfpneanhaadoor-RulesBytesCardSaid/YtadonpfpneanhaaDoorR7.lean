/- A step of a script by its number. -/
import Derived.Test.YtadonpfpneanhaaDoorR6
import Derived.Deep.Cut
namespace Go.Proofs.YtadonpfpneanhaaDoor
open Go.RowKit

/-- What lies below, behind the three boxes and the place of a result. -/
theorem box4 {w w1 : World} {a b c d e : Int} {o : Obj} (hb : Below ((((w.alloc (box5 a b c d e)).alloc o).alloc (box5 0 0 0 0 0)).alloc (box5 0 0 0 0 0)).heap.size ((((w.alloc (box5 a b c d e)).alloc o).alloc (box5 0 0 0 0 0)).alloc (box5 0 0 0 0 0)) w1) :
    Box w1 (w.heap.size + 1 + 1) 0 0 0 0 0 ∧ Box w1 (w.heap.size + 1 + 1 + 1) 0 0 0 0 0 ∧ Below w.heap.size w w1 := by
  have h1 : Box (((w.alloc (box5 a b c d e)).alloc o).alloc (box5 0 0 0 0 0)) (w.heap.size + 1 + 1) 0 0 0 0 0 := by
    have h : Box (((w.alloc (box5 a b c d e)).alloc o).alloc (box5 0 0 0 0 0)) ((w.alloc (box5 a b c d e)).alloc o).heap.size 0 0 0 0 0 := Box.new _ 0 0 0 0 0 47
    rw [World.size_alloc, World.size_alloc] at h
    exact h
  have h2 : Box ((((w.alloc (box5 a b c d e)).alloc o).alloc (box5 0 0 0 0 0)).alloc (box5 0 0 0 0 0)) (w.heap.size + 1 + 1 + 1) 0 0 0 0 0 := by
    have h : Box ((((w.alloc (box5 a b c d e)).alloc o).alloc (box5 0 0 0 0 0)).alloc (box5 0 0 0 0 0)) (((w.alloc (box5 a b c d e)).alloc o).alloc (box5 0 0 0 0 0)).heap.size 0 0 0 0 0 := Box.new _ 0 0 0 0 0 47
    rw [World.size_alloc, World.size_alloc, World.size_alloc] at h
    exact h
  refine ⟨(h1.later (below_new _ _)).later hb, h2.later hb, ?_⟩
  have t1 := below_then (below_new w (box5 a b c d e)) (below_new _ o) (Nat.le_refl _)
  have t2 := below_then t1 (below_new _ (box5 0 0 0 0 0)) (Nat.le_refl _)
  have t3 := below_then t2 (below_new _ (box5 0 0 0 0 0)) (Nat.le_refl _)
  exact below_then t3 hb (Nat.le_refl _)

theorem Box.drew {w : World} {p : Nat} {a b c d e : Int} (h : Box w p a b c d e) : Box w.drew p a b c d e := ⟨h.c0, h.c1, h.c2, h.c3, h.c4, h.z0, h.z1, h.z2, h.z3, h.z4⟩
theorem Box.set5 {w : World} {p : Nat} {a b c d e : Int} (h : Box w p a b c d e) (a' b' c' d' e' : Int) :
    Box (((((w.setCell ⟨p, 0, none⟩ (.int .i64 a')).setCell ⟨p, 1, none⟩ (.int .i64 b')).setCell ⟨p, 2, none⟩ (.int .i64 c')).setCell ⟨p, 3, none⟩ (.int .i64 d')).setCell ⟨p, 4, none⟩ (.int .i64 e')) p a' b' c' d' e' := by
  obtain ⟨c0, c1, c2, c3, c4, z0, z1, z2, z3, z4⟩ := h
  refine ⟨?_, ?_, ?_, ?_, ?_, ?_, ?_, ?_, ?_, ?_⟩ <;> go_simp
theorem Box.set5_other {w : World} {p p2 : Nat} {a b c d e : Int} (h : Box w p a b c d e) (hne : p ≠ p2) (v0 v1 v2 v3 v4 : Value) :
    Box (((((w.setCell ⟨p2, 0, none⟩ v0).setCell ⟨p2, 1, none⟩ v1).setCell ⟨p2, 2, none⟩ v2).setCell ⟨p2, 3, none⟩ v3).setCell ⟨p2, 4, none⟩ v4) p a b c d e := by
  have hne2 : ¬ p2 = p := fun x => hne x.symm
  obtain ⟨c0, c1, c2, c3, c4, z0, z1, z2, z3, z4⟩ := h
  refine ⟨?_, ?_, ?_, ?_, ?_, ?_, ?_, ?_, ?_, ?_⟩ <;> go_simp

set_option maxHeartbeats 1000000 in
set_option maxRecDepth 100000 in
theorem do_vote (A : List Addr) (a b c d e ep ro q g : Int) (w : World) (h : Sents G18 132 A w) :
    Calls Tryd.prog 42 #[st5 a b c d e, stepV 1 ep ro q g] w fun r w' => r = .returned (.tuple #[(voteS ⟨a, b, c, d, e⟩ ep ro q g).v, .int .i64 (voteC ⟨a, b, c, d, e⟩ ep ro q : Int)]) ∧ Below w.heap.size w w' := by
  have HB : Hid (∀ W', Below w.heap.size w W' → Sents G18 132 A W') := fun W' hW => h.later hW
  have hle := voteC_le ⟨a, b, c, d, e⟩ ep ro q
  obtain ⟨S, hS⟩ : ∃ S, voteS ⟨a, b, c, d, e⟩ ep ro q g = S := ⟨_, rfl⟩
  obtain ⟨C, hC⟩ : ∃ C, voteC ⟨a, b, c, d, e⟩ ep ro q = C := ⟨_, rfl⟩
  rw [hS, hC]
  rw [hC] at hle
  obtain ⟨a2, b2, c2, d2, e2⟩ := S
  have HC : ∀ w, Sents G18 132 A w → Calls Tryd.prog 46 #[st5 a b c d e, .int .i64 ep, .int .i64 ro, .int .i64 q, .int .i64 g] w fun r w' => r = .returned (.tuple #[st5 a2 b2 c2 d2 e2, errV A C]) ∧ Below w.heap.size w w' := fun w h => by
    have := vote_any A ⟨a, b, c, d, e⟩ ep ro q g w h
    rw [hS, hC] at this
    exact this
  have HCC := Lib.hid HC
  clear hS hC HC h
  go_enter Tryd.func42, Tryd.ntmps42
  go_wp2_with fail
  refine (HCC.out _ (HB.out _ ?hb0)).mono ?_
  case hb0 => exact (((((Below.refl w.heap.size w).alloc (Nat.le_refl _) _).alloc (by simp) _).alloc (by simp; omega) _).alloc (by simp; omega) _)
  rintro r w1 ⟨rfl, b1⟩
  obtain ⟨hx2, hx3, hbw⟩ := box4 b1
  clear b1
  have l3 := hx3.lt
  -- t6 holds the state that was answered
  have hx5 := hx3.set5 a2 b2 c2 d2 e2
  have hx4 := hx2.set5_other (p2 := w.heap.size + 1 + 1 + 1) (by omega) (.int .i64 a2) (.int .i64 b2) (.int .i64 c2) (.int .i64 d2) (.int .i64 e2)
  have hbw2 := below_five hbw (p := w.heap.size + 1 + 1 + 1) (by omega) (.int .i64 a2) (.int .i64 b2) (.int .i64 c2) (.int .i64 d2) (.int .i64 e2)
  obtain ⟨s0, s1, s2, s3, s4, sz0, sz1, sz2, sz3, sz4⟩ := hx3
  go_upto_region 13 with (fail)
  obtain ⟨W, hW⟩ : ∃ W, W = ((((w1.setCell ⟨w.heap.size + 1 + 1 + 1, 0, none⟩ (.int .i64 a2)).setCell ⟨w.heap.size + 1 + 1 + 1, 1, none⟩ (.int .i64 b2)).setCell ⟨w.heap.size + 1 + 1 + 1, 2, none⟩ (.int .i64 c2)).setCell ⟨w.heap.size + 1 + 1 + 1, 3, none⟩ (.int .i64 d2)).setCell ⟨w.heap.size + 1 + 1 + 1, 4, none⟩ (.int .i64 e2) := ⟨_, rfl⟩
  rw [← hW] at hx5 hx4 hbw2 ⊢
  clear hW s0 s1 s2 s3 s4 sz0 sz1 sz2 sz3 sz4 hbw hx2 l3
  have h5 := Lib.hid hx5
  have h4 := Lib.hid hx4
  have l5 := hx5.lt
  obtain ⟨s0, s1, s2, s3, s4, sz0, sz1, sz2, sz3, sz4⟩ := hx5
  obtain ⟨r0, r1, r2, r3, r4, rz0, rz1, rz2, rz3, rz4⟩ := hx4
  go_region_with (first
    | (go_at_call 25; refine (num_code A _ (HB.out _ ?_) _ hle).mono ?_; exact hbw2.drew; rintro r w2 ⟨rfl, bb⟩; have hF := below_then hbw2.drew bb (Nat.le_refl _); have q5 := h5.out.drew.later bb; have q4 := h4.out.drew.later bb; obtain ⟨t0, t1, t2, t3, t4, tz0, tz1, tz2, tz3, tz4⟩ := q5; obtain ⟨u0, u1, u2, u3, u4, uz0, uz1, uz2, uz3, uz4⟩ := q4)
    | (go_at_call 25; refine (num_code A _ (HB.out _ ?_) _ hle).mono ?_; exact (below_five hbw2 (by omega) _ _ _ _ _).drew; rintro r w2 ⟨rfl, bb⟩; have hF := below_then (below_five hbw2 (by omega) _ _ _ _ _).drew bb (Nat.le_refl _); have q4 := (h4.out.set5 a2 b2 c2 d2 e2).drew.later bb; obtain ⟨u0, u1, u2, u3, u4, uz0, uz1, uz2, uz3, uz4⟩ := q4))
  all_goals (try go_wp2_with fail)
  all_goals first
    | exact bodyPost_ret (v := .tuple #[st5 a2 b2 c2 d2 e2, .int .i64 C]) (by simp [results, Tryd.results42, go_sem, u0, u1, u2, u3, u4]) rfl ⟨rfl, hF⟩
    | exact bodyPost_ret (v := .tuple #[st5 a2 b2 c2 d2 e2, .int .i64 C]) (by simp [results, Tryd.results42, go_sem, u0, u1, u2, u3, u4]) rfl ⟨rfl, below_five hF (by omega) _ _ _ _ _⟩

end Go.Proofs.YtadonpfpneanhaaDoor
