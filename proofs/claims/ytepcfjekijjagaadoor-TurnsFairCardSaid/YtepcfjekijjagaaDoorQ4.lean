/- Turn at every argument, the reference's Turn, and the walks of TurnsTurns and TurnsAgain. -/
import Derived.Test.YtepcfjekijjagaaDoorQ3
namespace Go.Proofs.YtepcfjekijjagaaDoor
open Go.RowKit

/-- An error by its number. -/
def errV (A : List Addr) (c : Nat) : Value := if c = 0 then .nilIface else .iface 78 (.pointer (some (A.getD (c - 1) default)))
theorem errV_at {A : List Addr} {c : Nat} {a : Addr} (h : A[c]? = some a) : errV A (c + 1) = .iface 78 (.pointer (some a)) := by
  unfold errV
  rw [if_neg (by omega), show c + 1 - 1 = c from rfl, List.getD_eq_getElem?_getD, h]
  rfl
theorem sent_at {A : List Addr} {w : World} (h : Sents G18 78 A w) (i : Nat) (hi : i < 18) : ∃ a, A[i]? = some a := ⟨A[i]'(by rw [h.len]; exact hi), by simp [h.len, G18, hi]⟩
theorem num_code (A : List Addr) (w : World) (h : Sents G18 78 A w) (c : Nat) (hc : c ≤ 18) :
    Calls Tryd.prog 26 #[errV A c] w fun e w' => e = .returned (.int .i64 (c : Int)) ∧ Below w.heap.size w w' := by
  cases c with
  | zero => exact (num_nil w).mono fun e w' ⟨he, hw⟩ => ⟨he, hw ▸ Below.refl _ _⟩
  | succ c =>
    obtain ⟨a, ha⟩ := sent_at h c (by omega)
    rw [errV_at ha]
    exact num_at A w h c a ha

def turnC (n who fr : Int) : Nat := if 1 ≤ n ∧ n ≤ 7 ∧ 0 ≤ who ∧ who < n ∧ 0 ≤ fr then (if fr + kOf n who fr ≤ 1099511627776 then 0 else 14) else 1
def turnV (n who fr : Int) : Int := if turnC n who fr = 0 then fr + kOf n who fr else 0

theorem turn_post {w W : World} {b : Nat} {who x : Int} {e : Value} {tmps : Array Value} (h : TAt w W b who x e)
    (h6 : tmps[6]?.getD undef = .pointer (some ⟨b + 1, 0, none⟩)) (h7 : tmps[7]?.getD undef = .pointer (some ⟨b + 1 + 1, 0, none⟩)) :
    bodyPost Tryd.prog Tryd.f13 (fun r w' => r = .returned (.tuple #[.int .i64 x, e]) ∧ Below b w w') .ret { tmps := tmps, defers := [] } W := by
  obtain ⟨-, c1, c2, -, -, bb⟩ := h
  exact bodyPost_ret (v := .tuple #[.int .i64 x, e]) (by simp [results, Tryd.f13, go_sem, h6, h7, c1, c2]) rfl ⟨rfl, bb⟩

set_option maxHeartbeats 1000000 in
set_option maxRecDepth 100000 in
theorem turn_bad (w : World) (n who fr : Int) (er : Value) (hg0 : w.cell? ⟨0, 0, none⟩ = some (.iface 78 er)) (hb : ¬ (1 ≤ n ∧ n ≤ 7 ∧ 0 ≤ who ∧ who < n ∧ 0 ≤ fr)) :
    Calls Tryd.prog 13 #[.int .i64 n, .int .i64 who, .int .i64 fr] w fun e w' => e = .returned (.tuple #[.int .i64 0, .iface 78 er]) ∧ Below w.heap.size w w' := by
  have hG0 : 0 < w.heap.size := lt_of_cell hg0
  by_cases hn : 1 ≤ n ∧ n ≤ 7
  · have hfew : decide (1 ≤ n ∧ n ≤ 7) = true := by simpa using hn
    by_cases h1 : who < 0
    · clear hn hb
      go_enter Tryd.func13, Tryd.ntmps13
      go_wp2_with fail
      refine (few_any _ _).mono ?_
      rintro e w1 ⟨rfl, rfl⟩
      go_wp2_with fail
      have hT : TAt w (((w.alloc (.cells #[.int .i64 who] 3)).alloc (.cells #[.int .i64 0] 3)).alloc (.cells #[.nilIface] 26)) w.heap.size who 0 .nilIface :=
        ⟨by go_simp, by go_simp, by go_simp, by go_simp, by go_simp, ((((Below.refl _ w).alloc (Nat.le_refl _) _).alloc (by simp) _).alloc (by rw [World.size_alloc, World.size_alloc]; omega) _)⟩
      have hc : (((w.alloc (.cells #[.int .i64 who] 3)).alloc (.cells #[.int .i64 0] 3)).alloc (.cells #[.nilIface] 26)).cell? ⟨0, 0, none⟩ = some (.iface 78 er) := (hT.bb.cell (p := ⟨0, 0, none⟩) hG0).trans hg0
      generalize ((w.alloc (.cells #[.int .i64 who] 3)).alloc (.cells #[.int .i64 0] 3)).alloc (.cells #[.nilIface] 26) = W at hT hc ⊢
      have HE := Lib.hid ((hT.set 0 (.iface 78 er)).drew)
      obtain ⟨k0, k1, k2, z1, z2, -⟩ := hT
      go_region
      all_goals go_wp2_with fail
      all_goals exact turn_post HE.out rfl rfl
    by_cases h2 : n ≤ who
    · have h1' : 0 ≤ who := by omega
      clear hn hb h1
      go_enter Tryd.func13, Tryd.ntmps13
      go_wp2_with fail
      refine (few_any _ _).mono ?_
      rintro e w1 ⟨rfl, rfl⟩
      go_wp2_with fail
      have hT : TAt w (((w.alloc (.cells #[.int .i64 who] 3)).alloc (.cells #[.int .i64 0] 3)).alloc (.cells #[.nilIface] 26)) w.heap.size who 0 .nilIface :=
        ⟨by go_simp, by go_simp, by go_simp, by go_simp, by go_simp, ((((Below.refl _ w).alloc (Nat.le_refl _) _).alloc (by simp) _).alloc (by rw [World.size_alloc, World.size_alloc]; omega) _)⟩
      have hc : (((w.alloc (.cells #[.int .i64 who] 3)).alloc (.cells #[.int .i64 0] 3)).alloc (.cells #[.nilIface] 26)).cell? ⟨0, 0, none⟩ = some (.iface 78 er) := (hT.bb.cell (p := ⟨0, 0, none⟩) hG0).trans hg0
      generalize ((w.alloc (.cells #[.int .i64 who] 3)).alloc (.cells #[.int .i64 0] 3)).alloc (.cells #[.nilIface] 26) = W at hT hc ⊢
      have HE := Lib.hid ((hT.set 0 (.iface 78 er)).drew)
      obtain ⟨k0, k1, k2, z1, z2, -⟩ := hT
      go_region
      all_goals go_wp2_with fail
      all_goals exact turn_post HE.out rfl rfl
    have h1' : 0 ≤ who := by omega
    have h2' : who < n := by omega
    have h3 : fr < 0 := by omega
    clear hn hb h1 h2
    go_enter Tryd.func13, Tryd.ntmps13
    go_wp2_with fail
    refine (few_any _ _).mono ?_
    rintro e w1 ⟨rfl, rfl⟩
    go_wp2_with fail
    have hT : TAt w (((w.alloc (.cells #[.int .i64 who] 3)).alloc (.cells #[.int .i64 0] 3)).alloc (.cells #[.nilIface] 26)) w.heap.size who 0 .nilIface :=
      ⟨by go_simp, by go_simp, by go_simp, by go_simp, by go_simp, ((((Below.refl _ w).alloc (Nat.le_refl _) _).alloc (by simp) _).alloc (by rw [World.size_alloc, World.size_alloc]; omega) _)⟩
    have hc : (((w.alloc (.cells #[.int .i64 who] 3)).alloc (.cells #[.int .i64 0] 3)).alloc (.cells #[.nilIface] 26)).cell? ⟨0, 0, none⟩ = some (.iface 78 er) := (hT.bb.cell (p := ⟨0, 0, none⟩) hG0).trans hg0
    generalize ((w.alloc (.cells #[.int .i64 who] 3)).alloc (.cells #[.int .i64 0] 3)).alloc (.cells #[.nilIface] 26) = W at hT hc ⊢
    have HE := Lib.hid ((hT.set 0 (.iface 78 er)).drew)
    obtain ⟨k0, k1, k2, z1, z2, -⟩ := hT
    go_region
    all_goals go_wp2_with fail
    all_goals exact turn_post HE.out rfl rfl
  · have hfew : decide (1 ≤ n ∧ n ≤ 7) = false := by simpa using hn
    clear hn hb
    go_enter Tryd.func13, Tryd.ntmps13
    go_wp2_with fail
    refine (few_any _ _).mono ?_
    rintro e w1 ⟨rfl, rfl⟩
    go_wp2_with fail
    have hT : TAt w (((w.alloc (.cells #[.int .i64 who] 3)).alloc (.cells #[.int .i64 0] 3)).alloc (.cells #[.nilIface] 26)) w.heap.size who 0 .nilIface :=
      ⟨by go_simp, by go_simp, by go_simp, by go_simp, by go_simp, ((((Below.refl _ w).alloc (Nat.le_refl _) _).alloc (by simp) _).alloc (by rw [World.size_alloc, World.size_alloc]; omega) _)⟩
    have hc : (((w.alloc (.cells #[.int .i64 who] 3)).alloc (.cells #[.int .i64 0] 3)).alloc (.cells #[.nilIface] 26)).cell? ⟨0, 0, none⟩ = some (.iface 78 er) := (hT.bb.cell (p := ⟨0, 0, none⟩) hG0).trans hg0
    generalize ((w.alloc (.cells #[.int .i64 who] 3)).alloc (.cells #[.int .i64 0] 3)).alloc (.cells #[.nilIface] 26) = W at hT hc ⊢
    have HE := Lib.hid ((hT.set 0 (.iface 78 er)).drew)
    obtain ⟨k0, k1, k2, z1, z2, -⟩ := hT
    go_region
    all_goals go_wp2_with fail
    all_goals exact turn_post HE.out rfl rfl

theorem turn_any (A : List Addr) (w : World) (h : Sents G18 78 A w) (n who fr : Int) (hf1 : fr ≤ 9223372036854775807) :
    Calls Tryd.prog 13 #[.int .i64 n, .int .i64 who, .int .i64 fr] w fun e w' => e = .returned (.tuple #[.int .i64 (turnV n who fr), errV A (turnC n who fr)]) ∧ Below w.heap.size w w' := by
  obtain ⟨a0, ha0⟩ := sent_at h 0 (by omega)
  obtain ⟨a13, ha13⟩ := sent_at h 13 (by omega)
  have c0 := h.cell 0 _ _ rfl ha0
  have c1 := h.cell 13 _ _ rfl ha13
  unfold turnV turnC
  by_cases hg : 1 ≤ n ∧ n ≤ 7 ∧ 0 ≤ who ∧ who < n ∧ 0 ≤ fr
  · rw [if_pos hg]
    obtain ⟨h1, h7, hw0, hwn, hf0⟩ := hg
    refine (turn_good w n who fr _ c1 h1 h7 hw0 hwn hf0 hf1).mono ?_
    rintro r w' ⟨rfl, hb⟩
    refine ⟨?_, hb⟩
    by_cases hk : fr + kOf n who fr ≤ 1099511627776
    · rw [if_pos hk, if_pos hk, if_pos rfl]
      rfl
    · rw [if_neg hk, if_neg hk, if_neg (by decide), errV_at ha13]
  · rw [if_neg hg, if_neg (by decide), errV_at ha0]
    exact turn_bad w n who fr _ c0 hg

end Go.Proofs.YtepcfjekijjagaaDoor
