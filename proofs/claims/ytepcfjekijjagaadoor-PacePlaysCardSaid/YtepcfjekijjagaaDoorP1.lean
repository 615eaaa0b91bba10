/- The paces of the program and of the document side by side: each call writes its own pace alone. -/
import Derived.Test.YtepcfjekijjagaaDoorT1
namespace Go.Proofs.YtepcfjekijjagaaDoor
open Go.RowKit

/-- Of the blocks that there were, block b alone may have changed. -/
structure Only (b : Nat) (w w' : World) : Prop where
  os : w'.os = w.os
  tape : w'.tape = w.tape
  output : w'.output = w.output
  size : w.heap.size ≤ w'.heap.size
  block : ∀ k, k ≠ b → k < w.heap.size → w'.heap[k]? = w.heap[k]?
theorem Only.refl (b : Nat) (w : World) : Only b w w := ⟨rfl, rfl, rfl, Nat.le_refl _, fun _ _ _ => rfl⟩
theorem Only.trans {b : Nat} {u v w : World} (h : Only b u v) (k : Only b v w) : Only b u w :=
  ⟨k.os.trans h.os, k.tape.trans h.tape, k.output.trans h.output, Nat.le_trans h.size k.size, fun j hj hl => (k.block j hj (Nat.lt_of_lt_of_le hl h.size)).trans (h.block j hj hl)⟩
theorem Only.drewN (b : Nat) (w : World) (n : Nat) : Only b w (w.drewN n) := ⟨rfl, rfl, rfl, Nat.le_refl _, fun _ _ _ => rfl⟩
theorem Only.setCell {b : Nat} {u w : World} (h : Only b u w) {p : Addr} (hp : p.block = b) (v : Value) : Only b u (w.setCell p v) := by
  have hb := (Below.refl 0 w).setCell (p := p) (Nat.zero_le _) v
  exact ⟨hb.os.trans h.os, hb.tape.trans h.tape, hb.output.trans h.output, Nat.le_trans h.size hb.size, fun k hk hl => (Below.heap_setCell w p v k (by rw [hp]; exact hk)).trans (h.block k hk hl)⟩
theorem Only.set {b : Nat} {u w : World} (h : Only b u w) (o : Nat) (v : Value) : Only b u (w.setCell ⟨b, o, none⟩ v) := h.setCell rfl v
theorem Only.below {b : Nat} {w w' : World} (h : Only b w w') {B : Nat} (hB : B ≤ b) (hs : B ≤ w.heap.size) : Below B w w' :=
  ⟨h.os, h.tape, h.output, h.size, fun k hk => h.block k (by omega) (by omega)⟩
theorem Only.cell {b : Nat} {w w' : World} (h : Only b w w') {p : Addr} (hp : p.block ≠ b) (hl : p.block < w.heap.size) : w'.cell? p = w.cell? p := World.cell?_of_block (w := w) (h.block p.block hp hl)
theorem Only.frozen {b : Nat} {w w' : World} (h : Only b w w') {p : Addr} (hp : p.block ≠ b) (hl : p.block < w.heap.size) : w'.frozen? p = w.frozen? p := World.frozen?_of_block (w := w) (h.block p.block hp hl)
theorem PaceAt.lt {w : World} {b : Nat} {r f t : Int} (h : PaceAt w b r f t) : b < w.heap.size := lt_of_cell h.c0
theorem PaceAt.only {w w' : World} {b b2 : Nat} {r f t : Int} (h : PaceAt w b r f t) (ho : Only b2 w w') (hne : b ≠ b2) : PaceAt w' b r f t :=
  ⟨(ho.cell (p := ⟨b, 0, none⟩) hne h.lt).trans h.c0, (ho.cell (p := ⟨b, 1, none⟩) hne h.lt).trans h.c1, (ho.cell (p := ⟨b, 2, none⟩) hne h.lt).trans h.c2,
   (ho.frozen (p := ⟨b, 0, none⟩) hne h.lt).trans h.z0, (ho.frozen (p := ⟨b, 1, none⟩) hne h.lt).trans h.z1, (ho.frozen (p := ⟨b, 2, none⟩) hne h.lt).trans h.z2⟩
theorem PaceAt.below {w w' : World} {b : Nat} {r f t : Int} (h : PaceAt w b r f t) {B : Nat} (ho : Below B w w') (hb : b < B) : PaceAt w' b r f t :=
  ⟨(ho.cell (p := ⟨b, 0, none⟩) hb).trans h.c0, (ho.cell (p := ⟨b, 1, none⟩) hb).trans h.c1, (ho.cell (p := ⟨b, 2, none⟩) hb).trans h.c2,
   (ho.frozen (p := ⟨b, 0, none⟩) hb).trans h.z0, (ho.frozen (p := ⟨b, 1, none⟩) hb).trans h.z1, (ho.frozen (p := ⟨b, 2, none⟩) hb).trans h.z2⟩

/-- What 'enter' does: nothing, or it enters the round behind q with so many fails. -/
def EnterPostO (a0 a1 : Value) (b : Nat) (r f t q g : Int) (w : World) (e : Ending) (w' : World) : Prop :=
  (e = .returned (.tuple #[.bool false, enterErr a0 a1 q]) ∧ (q < 0 ∨ 1099511627776 ≤ q ∨ q < r) ∧ PaceAt w' b r f t ∧ Only b w w') ∨
  (e = .returned (.tuple #[.bool true, .nilIface]) ∧ 0 ≤ q ∧ q < 1099511627776 ∧ r ≤ q ∧ PaceAt w' b (q + 1) g 0 ∧ Only b w w')

theorem enter_neg_o (a0 a1 : Value) (b : Nat) (r f t q g : Int) (w : World) (h : PaceAt w b r f t) (h0 : w.cell? ⟨0, 0, none⟩ = some a0) (hq : q < 0) :
    Calls Tryd.prog 33 #[pp b, .int .i64 q, .int .i64 g] w (EnterPostO a0 a1 b r f t q g w) := by
  go_enter Tryd.func33, Tryd.ntmps33
  go_wp2
  go_quiet (fail)
  go_wp2
  go_ret2
  refine .inl ⟨?_, .inl hq, h.drewN _, Only.drewN _ _ _⟩
  rw [enterErr, if_pos hq]
  rfl
theorem enter_great_o (a0 a1 : Value) (u : TypeId) (v : Value) (hu : a1 = .iface u v) (b : Nat) (r f t q g : Int) (w : World) (h : PaceAt w b r f t) (h1 : w.cell? ⟨1, 0, none⟩ = some a1) (hq : 1099511627776 ≤ q) :
    Calls Tryd.prog 33 #[pp b, .int .i64 q, .int .i64 g] w (EnterPostO a0 a1 b r f t q g w) := by
  subst hu
  go_enter Tryd.func33, Tryd.ntmps33
  go_wp2_with (go_at_call 22; refine (next_err q _ _ h1 (.inr hq)).mono ?_; rintro e w' ⟨rfl, n, rfl⟩)
  go_ret2
  refine .inl ⟨?_, .inr (.inl hq), h.drewN _, Only.drewN _ _ _⟩
  rw [enterErr, if_neg (by omega), if_pos hq]
  rfl
theorem enter_old_o (a0 a1 : Value) (b : Nat) (r f t q g : Int) (w : World) (h : PaceAt w b r f t) (hq0 : 0 ≤ q) (hq1 : q < 1099511627776) (hr : q < r) :
    Calls Tryd.prog 33 #[pp b, .int .i64 q, .int .i64 g] w (EnterPostO a0 a1 b r f t q g w) := by
  obtain ⟨c0, c1, c2, z0, z1, z2⟩ := h
  go_enter Tryd.func33, Tryd.ntmps33
  go_wp2_with (go_at_call 22; refine (next_ok q _ hq0 hq1).mono ?_; rintro e w' ⟨rfl, rfl⟩)
  go_ret2
  refine .inl ⟨?_, .inr (.inr hr), ⟨c0, c1, c2, z0, z1, z2⟩, Only.refl _ _⟩
  rw [enterErr, if_neg (by omega), if_neg (by omega)]
  rfl
theorem enter_new_o (a0 a1 : Value) (b : Nat) (r f t q g : Int) (w : World) (h : PaceAt w b r f t) (hq0 : 0 ≤ q) (hq1 : q < 1099511627776) (hr : r ≤ q) :
    Calls Tryd.prog 33 #[pp b, .int .i64 q, .int .i64 g] w (EnterPostO a0 a1 b r f t q g w) := by
  obtain ⟨c0, c1, c2, z0, z1, z2⟩ := h
  go_enter Tryd.func33, Tryd.ntmps33
  go_wp2_with (go_at_call 22; refine (next_ok q _ hq0 hq1).mono ?_; rintro e w' ⟨rfl, rfl⟩)
  go_ret2
  refine .inr ⟨rfl, hq0, hq1, hr, ⟨?_, ?_, ?_, ?_, ?_, ?_⟩, (((Only.refl _ _).set _ _).set _ _).set _ _⟩
  all_goals go_simp

theorem enter_any_o (u0 u1 : TypeId) (v0 v1 : Value) (b : Nat) (r f t q g : Int) (w : World) (h : PaceAt w b r f t) (he : Errs2 w u0 u1 v0 v1) :
    Calls Tryd.prog 33 #[pp b, .int .i64 q, .int .i64 g] w (EnterPostO (.iface u0 v0) (.iface u1 v1) b r f t q g w) := by
  by_cases hq : q < 0
  · exact enter_neg_o _ _ b r f t q g w h he.e0 hq
  · by_cases hq1 : 1099511627776 ≤ q
    · exact enter_great_o _ _ u1 v1 rfl b r f t q g w h he.e1 hq1
    · by_cases hr : q < r
      · exact enter_old_o _ _ b r f t q g w h (by omega) (by omega) hr
      · exact enter_new_o _ _ b r f t q g w h (by omega) (by omega) (by omega)

theorem QC_any_o (u0 u1 : TypeId) (v0 v1 : Value) (b : Nat) (r f t q : Int) (w : World) (h : PaceAt w b r f t) (he : Errs2 w u0 u1 v0 v1) :
    Calls Tryd.prog 16 #[pp b, .int .i64 q] w (EnterPostO (.iface u0 v0) (.iface u1 v1) b r f t q 0 w) := by
  go_enter Tryd.func16, Tryd.ntmps16
  go_wp2_with (go_at_call 33; refine (enter_any_o u0 u1 v0 v1 b r f t q 0 w h he).mono ?_; rintro e w' (⟨rfl, h2, h3, h4⟩ | ⟨rfl, h2, h3, h4, h5, h6⟩))
  · go_ret2
    exact .inl ⟨rfl, h2, h3, h4⟩
  · go_ret2
    exact .inr ⟨rfl, h2, h3, h4, h5, h6⟩
theorem TC_any_o (u0 u1 : TypeId) (v0 v1 : Value) (b : Nat) (r f t q : Int) (w : World) (h : PaceAt w b r f t) (he : Errs2 w u0 u1 v0 v1) (hf : 0 ≤ f) (hf1 : f ≤ 9223372036854775000) :
    Calls Tryd.prog 17 #[pp b, .int .i64 q] w (EnterPostO (.iface u0 v0) (.iface u1 v1) b r f t q (f + 1) w) := by
  have c1 := h.c1
  go_enter Tryd.func17, Tryd.ntmps17
  go_wp2_with (go_at_call 33; refine (enter_any_o u0 u1 v0 v1 b r f t q _ w h he).mono ?_; rintro e w' (⟨rfl, h2, h3, h4⟩ | ⟨rfl, h2, h3, h4, h5, h6⟩))
  · go_ret2
    exact .inl ⟨rfl, h2, h3, h4⟩
  · go_ret2
    exact .inr ⟨rfl, h2, h3, h4, h5, h6⟩

/-- What a tick does. -/
def TickPostO (b : Nat) (r f t : Int) (w : World) (e : Ending) (w' : World) : Prop :=
  (e = .returned (.bool false) ∧ t + 1 < waitOf f ∧ PaceAt w' b r f (t + 1) ∧ Only b w w') ∨
  (e = .returned (.bool true) ∧ waitOf f ≤ t + 1 ∧ PaceAt w' b r f 0 ∧ Only b w w')
theorem tick_any_o (b : Nat) (r f t : Int) (w : World) (h : PaceAt w b r f t) (hf : f ≤ 9223372036854775807) (ht : 0 ≤ t) (ht2 : t ≤ 1000) :
    Calls Tryd.prog 20 #[pp b] w (TickPostO b r f t w) := by
  have wi := waitOf_in f
  obtain ⟨c0, c1, c2, z0, z1, z2⟩ := h
  have hp : PaceAt (w.setCell ⟨b, 2, none⟩ (.int .i64 (t + 1))) b r f (t + 1) := ⟨by go_simp, by go_simp, by go_simp, by go_simp, by go_simp, by go_simp⟩
  by_cases hx : t + 1 < waitOf f
  · go_enter Tryd.func20, Tryd.ntmps20
    go_wp2_with (go_at_call 19; refine (left_any b r f (t + 1) _ hp hf (by omega) (by omega)).mono ?_; rintro e w' ⟨rfl, n, rfl⟩)
    go_ret
    exact .inl ⟨rfl, hx, hp.drewN _, ((Only.refl _ _).set _ _).trans (Only.drewN _ _ _)⟩
  · go_enter Tryd.func20, Tryd.ntmps20
    go_wp2_with (go_at_call 19; refine (left_any b r f (t + 1) _ hp hf (by omega) (by omega)).mono ?_; rintro e w' ⟨rfl, n, rfl⟩)
    go_ret
    exact .inr ⟨rfl, by omega, (hp.drewN n).ticks 0, (((Only.refl _ _).set _ _).trans (Only.drewN _ _ n)).set _ _⟩

end Go.Proofs.YtepcfjekijjagaaDoor
