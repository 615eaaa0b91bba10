/- What both paces answer to a QC, a TC and a tick, in one form; the number of each error that they answer. -/
import Derived.Test.YtepcfjekijjagaaDoorP1
import Derived.Outline
namespace Go.Proofs.YtepcfjekijjagaaDoor
open Go.RowKit

def errVal (a0 a1 : Addr) (code : Int) : Value := if code = 1 then .iface 78 (.pointer (some a0)) else if code = 14 then .iface 78 (.pointer (some a1)) else .nilIface
/-- A step to the round behind q (with so many fails): whether it is one, the error's number, the pace then. -/
def QStep (r f t q g : Int) (yes : Bool) (code r' f' t' : Int) : Prop :=
  (q < 0 ∧ yes = false ∧ code = 1 ∧ r' = r ∧ f' = f ∧ t' = t) ∨ (1099511627776 ≤ q ∧ yes = false ∧ code = 14 ∧ r' = r ∧ f' = f ∧ t' = t) ∨
  (0 ≤ q ∧ q < 1099511627776 ∧ q < r ∧ yes = false ∧ code = 0 ∧ r' = r ∧ f' = f ∧ t' = t) ∨ (0 ≤ q ∧ q < 1099511627776 ∧ r ≤ q ∧ yes = true ∧ code = 0 ∧ r' = q + 1 ∧ f' = g ∧ t' = 0)
theorem QStep.unique {r f t q g : Int} {y1 y2 : Bool} {c1 c2 r1 r2 f1 f2 t1 t2 : Int} (h : QStep r f t q g y1 c1 r1 f1 t1) (k : QStep r f t q g y2 c2 r2 f2 t2) : y2 = y1 ∧ c2 = c1 ∧ r2 = r1 ∧ f2 = f1 ∧ t2 = t1 := by
  rcases h with ⟨a, b, c, d, e, f⟩ | ⟨a, b, c, d, e, f⟩ | ⟨a, a2, a3, b, c, d, e, f⟩ | ⟨a, a2, a3, b, c, d, e, f⟩ <;>
  rcases k with ⟨a', b', c', d', e', f'⟩ | ⟨a', b', c', d', e', f'⟩ | ⟨a', a2', a3', b', c', d', e', f'⟩ | ⟨a', a2', a3', b', c', d', e', f'⟩ <;>
  first | (exfalso; omega) | (subst b b'; exact ⟨rfl, by omega, by omega, by omega, by omega⟩)
def TStep (f t : Int) (yes : Bool) (t' : Int) : Prop := (t + 1 < waitOf f ∧ yes = false ∧ t' = t + 1) ∨ (waitOf f ≤ t + 1 ∧ yes = true ∧ t' = 0)
theorem TStep.unique {f t : Int} {y1 y2 : Bool} {t1 t2 : Int} (h : TStep f t y1 t1) (k : TStep f t y2 t2) : y2 = y1 ∧ t2 = t1 := by
  rcases h with ⟨a, b, c⟩ | ⟨a, b, c⟩ <;> rcases k with ⟨a', b', c'⟩ | ⟨a', b', c'⟩ <;> first | (exfalso; omega) | (subst b b'; exact ⟨rfl, by omega⟩)

theorem sent_at {A : List Addr} {w : World} (h : Sents G18 78 A w) (i : Nat) (hi : i < 18) : ∃ a, A[i]? = some a := ⟨A[i]'(by rw [h.len]; exact hi), by simp [h.len, G18, hi]⟩
theorem num_err (A : List Addr) (w : World) (h : Sents G18 78 A w) (a0 a1 : Addr) (h0 : A[0]? = some a0) (h1 : A[13]? = some a1) (code : Int) (hc : code = 0 ∨ code = 1 ∨ code = 14) :
    Calls Tryd.prog 26 #[errVal a0 a1 code] w fun e w' => e = .returned (.int .i64 code) ∧ Below w.heap.size w w' := by
  rcases hc with rfl | rfl | rfl
  · exact (num_nil w).mono fun e w' ⟨he, hw⟩ => ⟨he, hw ▸ Below.refl _ _⟩
  · exact num_at A w h 0 a0 h0
  · exact num_at A w h 13 a1 h1

theorem errs2_18 {A : List Addr} {w : World} (h : Sents G18 78 A w) {a0 a1 : Addr} (h0 : A[0]? = some a0) (h1 : A[13]? = some a1) : Errs2 w 78 78 (.pointer (some a0)) (.pointer (some a1)) :=
  ⟨h.cell 0 0 a0 rfl h0, h.cell 13 1 a1 rfl h1⟩

theorem QStep.of_enter {a0 a1 : Addr} {b : Nat} {r f t q g : Int} {w w' : World} {e : Ending} (h : EnterPostO (.iface 78 (.pointer (some a0))) (.iface 78 (.pointer (some a1))) b r f t q g w e w') :
    ∃ yes code r' f' t', e = .returned (.tuple #[.bool yes, errVal a0 a1 code]) ∧ QStep r f t q g yes code r' f' t' ∧ PaceAt w' b r' f' t' ∧ Only b w w' := by
  rcases h with ⟨rfl, h2, h3, h4⟩ | ⟨rfl, h2, h3, h4, h5, h6⟩
  · unfold enterErr
    by_cases hq : q < 0
    · rw [if_pos hq]
      exact ⟨false, 1, r, f, t, rfl, .inl ⟨hq, rfl, rfl, rfl, rfl, rfl⟩, h3, h4⟩
    · rw [if_neg hq]
      by_cases hq1 : 1099511627776 ≤ q
      · rw [if_pos hq1]
        exact ⟨false, 14, r, f, t, rfl, .inr (.inl ⟨hq1, rfl, rfl, rfl, rfl, rfl⟩), h3, h4⟩
      · rw [if_neg hq1]
        exact ⟨false, 0, r, f, t, rfl, .inr (.inr (.inl ⟨by omega, by omega, by omega, rfl, rfl, rfl, rfl, rfl⟩)), h3, h4⟩
  · exact ⟨true, 0, q + 1, g, 0, rfl, .inr (.inr (.inr ⟨h2, h3, h4, rfl, rfl, rfl, rfl, rfl⟩)), h5, h6⟩

theorem pQC_any (a0 a1 : Addr) (b : Nat) (r f t q : Int) (w : World) (h : PaceAt w b r f t) (he : Errs2 w 78 78 (.pointer (some a0)) (.pointer (some a1))) :
    Calls Tryd.prog 16 #[pp b, .int .i64 q] w fun e w' => ∃ yes code r' f' t', e = .returned (.tuple #[.bool yes, errVal a0 a1 code]) ∧ QStep r f t q 0 yes code r' f' t' ∧ PaceAt w' b r' f' t' ∧ Only b w w' :=
  (QC_any_o _ _ _ _ b r f t q w h he).mono fun _ _ hp => QStep.of_enter hp
theorem pTC_any (a0 a1 : Addr) (b : Nat) (r f t q : Int) (w : World) (h : PaceAt w b r f t) (he : Errs2 w 78 78 (.pointer (some a0)) (.pointer (some a1))) (hf : 0 ≤ f) (hf1 : f ≤ 9223372036854775000) :
    Calls Tryd.prog 17 #[pp b, .int .i64 q] w fun e w' => ∃ yes code r' f' t', e = .returned (.tuple #[.bool yes, errVal a0 a1 code]) ∧ QStep r f t q (f + 1) yes code r' f' t' ∧ PaceAt w' b r' f' t' ∧ Only b w w' :=
  (TC_any_o _ _ _ _ b r f t q w h he hf hf1).mono fun _ _ hp => QStep.of_enter hp
theorem ptick_any (b : Nat) (r f t : Int) (w : World) (h : PaceAt w b r f t) (hf : f ≤ 9223372036854775807) (ht : 0 ≤ t) (ht2 : t ≤ 1000) :
    Calls Tryd.prog 20 #[pp b] w fun e w' => ∃ yes t', e = .returned (.bool yes) ∧ TStep f t yes t' ∧ PaceAt w' b r f t' ∧ Only b w w' := by
  refine (tick_any_o b r f t w h hf ht ht2).mono ?_
  rintro e w' (⟨h1, h2, h3, h4⟩ | ⟨h1, h2, h3, h4⟩)
  · exact ⟨false, _, h1, .inl ⟨h2, rfl, rfl⟩, h3, h4⟩
  · exact ⟨true, _, h1, .inr ⟨h2, rfl, rfl⟩, h3, h4⟩
theorem QStep.bounds {r f t q g : Int} {yes : Bool} {c r1 f1 t1 : Int} (h : QStep r f t q g yes c r1 f1 t1) : (c = 0 ∨ c = 1 ∨ c = 14) ∧ (f1 = f ∨ f1 = g) ∧ (t1 = t ∨ t1 = 0) := by
  rcases h with ⟨a, b, c, d, e, f⟩ | ⟨a, b, c, d, e, f⟩ | ⟨a, a2, a3, b, c, d, e, f⟩ | ⟨a, a2, a3, b, c, d, e, f⟩ <;> exact ⟨by omega, by omega, by omega⟩
theorem TStep.bounds {f t : Int} {yes : Bool} {t1 : Int} (h : TStep f t yes t1) : t1 = 0 ∨ (t1 = t + 1 ∧ t + 1 < waitOf f) := by
  rcases h with ⟨a, b, c⟩ | ⟨a, b, c⟩ <;> omega

/-! ### The document's pace -/
theorem renter_neg (b : Nat) (q : Int) (w : World) (hq : q < 0) :
    Calls Tryd.prog 35 #[pp b, .int .i64 q] w fun e w' => e = .returned (.tuple #[.bool false, .int .i64 1]) ∧ w = w' := by
  go_enter Tryd.func35, Tryd.ntmps35
  go_wp2
  go_ret2
  exact ⟨rfl, rfl⟩
theorem renter_great (b : Nat) (q : Int) (w : World) (hq : 1099511627776 ≤ q) :
    Calls Tryd.prog 35 #[pp b, .int .i64 q] w fun e w' => e = .returned (.tuple #[.bool false, .int .i64 14]) ∧ w = w' := by
  go_enter Tryd.func35, Tryd.ntmps35
  go_wp2
  go_ret2
  exact ⟨rfl, rfl⟩
theorem renter_old (b : Nat) (r f t q : Int) (w : World) (h : PaceAt w b r f t) (hq0 : 0 ≤ q) (hq1 : q < 1099511627776) (hr : q < r) :
    Calls Tryd.prog 35 #[pp b, .int .i64 q] w fun e w' => e = .returned (.tuple #[.bool false, .int .i64 0]) ∧ w = w' := by
  obtain ⟨c0, c1, c2, z0, z1, z2⟩ := h
  go_enter Tryd.func35, Tryd.ntmps35
  go_wp2
  go_ret2
  exact ⟨rfl, rfl⟩
theorem renter_new (b : Nat) (r f t q : Int) (w : World) (h : PaceAt w b r f t) (hq0 : 0 ≤ q) (hq1 : q < 1099511627776) (hr : r ≤ q) :
    Calls Tryd.prog 35 #[pp b, .int .i64 q] w fun e w' => e = .returned (.tuple #[.bool true, .int .i64 0]) ∧ PaceAt w' b (q + 1) f 0 ∧ Only b w w' := by
  obtain ⟨c0, c1, c2, z0, z1, z2⟩ := h
  go_enter Tryd.func35, Tryd.ntmps35
  go_wp2
  go_ret2
  refine ⟨rfl, ⟨?_, ?_, ?_, ?_, ?_, ?_⟩, ((Only.refl _ _).set _ _).set _ _⟩
  all_goals go_simp

theorem PaceAt.fails {w : World} {b : Nat} {r f t : Int} (h : PaceAt w b r f t) (f' : Int) : PaceAt (w.setCell ⟨b, 1, none⟩ (.int .i64 f')) b r f' t := by
  obtain ⟨c0, c1, c2, z0, z1, z2⟩ := h
  exact ⟨by go_simp, by go_simp, by go_simp, by go_simp, by go_simp, by go_simp⟩

theorem rQC_any (b : Nat) (r f t q : Int) (w : World) (h : PaceAt w b r f t) :
    Calls Tryd.prog 28 #[pp b, .int .i64 q] w fun e w' => ∃ yes code r' f' t', e = .returned (.tuple #[.bool yes, .int .i64 code]) ∧ QStep r f t q 0 yes code r' f' t' ∧ PaceAt w' b r' f' t' ∧ Only b w w' := by
  by_cases hq : q < 0
  · go_enter Tryd.func28, Tryd.ntmps28
    go_wp2_with (go_at_call 35; refine (renter_neg b q w hq).mono ?_; rintro e w' ⟨rfl, rfl⟩)
    go_ret2
    exact ⟨false, 1, r, f, t, rfl, .inl ⟨hq, rfl, rfl, rfl, rfl, rfl⟩, h, Only.refl _ _⟩
  by_cases hq1 : 1099511627776 ≤ q
  · go_enter Tryd.func28, Tryd.ntmps28
    go_wp2_with (go_at_call 35; refine (renter_great b q w hq1).mono ?_; rintro e w' ⟨rfl, rfl⟩)
    go_ret2
    exact ⟨false, 14, r, f, t, rfl, .inr (.inl ⟨hq1, rfl, rfl, rfl, rfl, rfl⟩), h, Only.refl _ _⟩
  by_cases hr : q < r
  · go_enter Tryd.func28, Tryd.ntmps28
    go_wp2_with (go_at_call 35; refine (renter_old b r f t q w h (by omega) (by omega) hr).mono ?_; rintro e w' ⟨rfl, rfl⟩)
    go_ret2
    exact ⟨false, 0, r, f, t, rfl, .inr (.inr (.inl ⟨by omega, by omega, hr, rfl, rfl, rfl, rfl, rfl⟩)), h, Only.refl _ _⟩
  · go_enter Tryd.func28, Tryd.ntmps28
    go_wp2_with fail
    refine (renter_new b r f t q w h (by omega) (by omega) (by omega)).mono ?_
    rintro e w' ⟨rfl, hp, ho⟩
    have z1 := hp.z1
    have c1 := hp.c1
    go_wp2
    go_ret2
    exact ⟨true, 0, q + 1, 0, 0, rfl, .inr (.inr (.inr ⟨by omega, by omega, by omega, rfl, rfl, rfl, rfl, rfl⟩)), hp.fails 0, ho.set _ _⟩
theorem rTC_any (b : Nat) (r f t q : Int) (w : World) (h : PaceAt w b r f t) (hf : 0 ≤ f) (hf1 : f ≤ 1000000) :
    Calls Tryd.prog 29 #[pp b, .int .i64 q] w fun e w' => ∃ yes code r' f' t', e = .returned (.tuple #[.bool yes, .int .i64 code]) ∧ QStep r f t q (f + 1) yes code r' f' t' ∧ PaceAt w' b r' f' t' ∧ Only b w w' := by
  by_cases hq : q < 0
  · go_enter Tryd.func29, Tryd.ntmps29
    go_wp2_with (go_at_call 35; refine (renter_neg b q w hq).mono ?_; rintro e w' ⟨rfl, rfl⟩)
    go_ret2
    exact ⟨false, 1, r, f, t, rfl, .inl ⟨hq, rfl, rfl, rfl, rfl, rfl⟩, h, Only.refl _ _⟩
  by_cases hq1 : 1099511627776 ≤ q
  · go_enter Tryd.func29, Tryd.ntmps29
    go_wp2_with (go_at_call 35; refine (renter_great b q w hq1).mono ?_; rintro e w' ⟨rfl, rfl⟩)
    go_ret2
    exact ⟨false, 14, r, f, t, rfl, .inr (.inl ⟨hq1, rfl, rfl, rfl, rfl, rfl⟩), h, Only.refl _ _⟩
  by_cases hr : q < r
  · go_enter Tryd.func29, Tryd.ntmps29
    go_wp2_with (go_at_call 35; refine (renter_old b r f t q w h (by omega) (by omega) hr).mono ?_; rintro e w' ⟨rfl, rfl⟩)
    go_ret2
    exact ⟨false, 0, r, f, t, rfl, .inr (.inr (.inl ⟨by omega, by omega, hr, rfl, rfl, rfl, rfl, rfl⟩)), h, Only.refl _ _⟩
  · go_enter Tryd.func29, Tryd.ntmps29
    go_wp2_with fail
    refine (renter_new b r f t q w h (by omega) (by omega) (by omega)).mono ?_
    rintro e w' ⟨rfl, hp, ho⟩
    have z1 := hp.z1
    have c1 := hp.c1
    go_wp2
    go_ret2
    exact ⟨true, 0, q + 1, f + 1, 0, rfl, .inr (.inr (.inr ⟨by omega, by omega, by omega, rfl, rfl, rfl, rfl, rfl⟩)), hp.fails _, ho.set _ _⟩
theorem rtick_any (b : Nat) (r f t : Int) (w : World) (h : PaceAt w b r f t) (ht : 0 ≤ t) (ht2 : t ≤ 1000) :
    Calls Tryd.prog 30 #[pp b] w fun e w' => ∃ yes t', e = .returned (.bool yes) ∧ TStep f t yes t' ∧ PaceAt w' b r f t' ∧ Only b w w' := by
  have wi := waitOf_in f
  have hp := h.ticks (t + 1)
  obtain ⟨c0, c1, c2, z0, z1, z2⟩ := h
  by_cases hx : t + 1 < waitOf f
  · go_enter Tryd.func30, Tryd.ntmps30
    go_wp2
    go_quiet ((go_at_call 25; exact Calls.quiet_of_same ((refWait_any f _).mono fun e w' ⟨a, b⟩ => ⟨a, b.symm⟩)))
    go_wp2
    go_ret
    exact ⟨false, _, rfl, .inl ⟨hx, rfl, rfl⟩, hp.drewN _, ((Only.refl _ _).set _ _).trans (Only.drewN _ _ _)⟩
  · have hx2 : decide (t + 1 < waitOf f) = false := by simpa using hx
    go_enter Tryd.func30, Tryd.ntmps30
    go_wp2
    go_quiet ((go_at_call 25; exact Calls.quiet_of_same ((refWait_any f _).mono fun e w' ⟨a, b⟩ => ⟨a, b.symm⟩)))
    go_wp2
    go_ret
    exact ⟨true, 0, rfl, .inr ⟨by omega, rfl, rfl⟩, (hp.drewN _).ticks 0, (((Only.refl _ _).set _ _).trans (Only.drewN _ _ _)).set _ _⟩

end Go.Proofs.YtepcfjekijjagaaDoor
