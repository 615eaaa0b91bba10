/- The rules' steps as plain functions of five numbers; what Right, begin and end answer. -/
import Derived.Test.YtadonpfpneanhaaDoorE2
import Derived.BigQuiet
import Derived.Deep.QuietTactic
import Derived.Deep.RegionWith
import Derived.Deep.LoopGhost
import Derived.WalkLawsBesides
import Derived.RegionTactic
import Derived.BigRegion
namespace Go.Proofs.YtadonpfpneanhaaDoor
open Go.RowKit

theorem below_drewN_self (B : Nat) (w : World) (n : Nat) : Below B w (w.drewN n) := ⟨rfl, rfl, rfl, Nat.le_refl _, fun _ _ => rfl⟩
theorem bcell {W w1 : World} (hb : Below W.heap.size W w1) : (∀ b o, b < W.heap.size → w1.cell? ⟨b, o, none⟩ = W.cell? ⟨b, o, none⟩) ∧ (∀ b o, b < W.heap.size → w1.frozen? ⟨b, o, none⟩ = W.frozen? ⟨b, o, none⟩) :=
  ⟨fun b o h => hb.cell (p := ⟨b, o, none⟩) h, fun b o h => hb.frozen (p := ⟨b, o, none⟩) h⟩
theorem lt_of_cell {w : World} {a : Addr} {v : Value} (h : w.cell? a = some v) : a.block < w.heap.size := by
  rcases Nat.lt_or_ge a.block w.heap.size with h' | h'
  · exact h'
  · simp [World.cell?, Array.getElem?_eq_none h'] at h
theorem Sents.G18_lt {A : List Addr} {w : World} (h : Sents G18 132 A w) : (∀ g ∈ G18, g < w.heap.size) ∧ (∀ a ∈ A, a.block < w.heap.size) := by
  refine ⟨fun g hg => ?_, fun a ha => ?_⟩
  · obtain ⟨i, hi⟩ := List.getElem?_of_mem hg
    have hlt := (List.getElem?_eq_some_iff.1 hi).1
    have : i < A.length := by rw [h.len]; exact hlt
    have hc := h.cell i g _ hi (List.getElem?_eq_getElem this)
    exact lt_of_cell hc
  · obtain ⟨c, t, e⟩ := h.row a ha
    exact (Array.getElem?_eq_some_iff.1 e).1
theorem Sents.later {A : List Addr} {w w' : World} (h : Sents G18 132 A w) (hb : Below w.heap.size w w') : Sents G18 132 A w' := h.below hb h.G18_lt.1 h.G18_lt.2
theorem sent_at {A : List Addr} {w : World} (h : Sents G18 132 A w) (i : Nat) (hi : i < 18) : ∃ a, A[i]? = some a := ⟨A[i]'(by rw [h.len]; exact hi), by simp [h.len, G18, hi]⟩
theorem Sents.size {A : List Addr} {w : World} (h : Sents G18 132 A w) : 18 ≤ w.heap.size := by
  have := h.G18_lt.1 17 (by decide)
  omega

abbrev st5 (a b c d e : Int) : Value := .agg #[.int .i64 a, .int .i64 b, .int .i64 c, .int .i64 d, .int .i64 e]
/-- An error by its number. -/
def errV (A : List Addr) (c : Nat) : Value := if c = 0 then .nilIface else .iface 132 (.pointer (some (A.getD (c - 1) default)))
theorem errV_zero (A : List Addr) : errV A 0 = .nilIface := rfl
theorem errV_at {A : List Addr} {c : Nat} {a : Addr} (h : A[c]? = some a) : errV A (c + 1) = .iface 132 (.pointer (some a)) := by
  unfold errV
  rw [if_neg (by omega), show c + 1 - 1 = c from rfl, List.getD_eq_getElem?_getD, h]
  rfl
theorem num_code (A : List Addr) (w : World) (h : Sents G18 132 A w) (c : Nat) (hc : c ≤ 18) :
    Calls Tryd.prog 25 #[errV A c] w fun e w' => e = .returned (.int .i64 (c : Int)) ∧ Below w.heap.size w w' := by
  cases c with
  | zero => exact (num_nil w).mono fun e w' ⟨he, hw⟩ => ⟨he, hw ▸ Below.refl _ _⟩
  | succ c =>
    obtain ⟨a, ha⟩ := sent_at h c (by omega)
    rw [errV_at ha]
    exact num_at A w h c a ha

def RightP (a b c d e : Int) : Prop := (0 ≤ a ∧ a ≤ 1073741824) ∧ (0 ≤ b ∧ b ≤ 1099511627776) ∧ (0 ≤ c ∧ c ≤ 1099511627776) ∧ (0 ≤ d ∧ d ≤ 1099511627776) ∧ (0 ≤ e ∧ e ≤ 32)
instance (a b c d e : Int) : Decidable (RightP a b c d e) := by unfold RightP; infer_instance

theorem ret_bool {x y : Bool} (h : x = y) : Ending.returned (.bool x) = .returned (.bool y) := by rw [h]
theorem ret_i64 {a b : Int} (h : a = b) : Ending.returned (.int .i64 a) = .returned (.int .i64 b) := by rw [h]
theorem right_yes (a b c d e : Int) (w : World) (h : RightP a b c d e) : Calls Tryd.prog 44 #[st5 a b c d e] w fun r w' => r = .returned (.bool true) ∧ Below w.heap.size w w' := by
  obtain ⟨⟨a0, a1⟩, ⟨b0, b1⟩, ⟨c0, c1⟩, ⟨d0, d1⟩, ⟨e0, e1⟩⟩ := h
  go_enter Tryd.func44, Tryd.ntmps44
  go_wp2
  go_ret
  exact ⟨rfl, (Below.refl _ _).alloc (Nat.le_refl _) _⟩
theorem right_no (a b c d e : Int) (w : World) (h : ¬ RightP a b c d e) : Calls Tryd.prog 44 #[st5 a b c d e] w fun r w' => r = .returned (.bool false) ∧ Below w.heap.size w w' := by
  unfold RightP at h
  by_cases ha : 0 ≤ a ∧ a ≤ 1073741824
  · obtain ⟨a0, a1⟩ := ha
    by_cases hb : 0 ≤ b ∧ b ≤ 1099511627776
    · obtain ⟨b0, b1⟩ := hb
      by_cases hc : 0 ≤ c ∧ c ≤ 1099511627776
      · obtain ⟨c0, c1⟩ := hc
        by_cases hd : 0 ≤ d ∧ d ≤ 1099511627776
        · obtain ⟨d0, d1⟩ := hd
          have he : e < 0 ∨ 32 < e := by omega
          clear h
          rcases he with he | he
          all_goals
            go_enter Tryd.func44, Tryd.ntmps44
            go_wp2
            go_ret
            first
              | exact ⟨rfl, (Below.refl _ _).alloc (Nat.le_refl _) _⟩
              | exact ⟨ret_bool (x := decide (e ≤ 32)) (by simp; omega), (Below.refl _ _).alloc (Nat.le_refl _) _⟩
        · have hd : d < 0 ∨ 1099511627776 < d := by omega
          clear h
          rcases hd with hd | hd
          all_goals
            go_enter Tryd.func44, Tryd.ntmps44
            go_wp2
            go_ret
            exact ⟨rfl, (Below.refl _ _).alloc (Nat.le_refl _) _⟩
      · have hc : c < 0 ∨ 1099511627776 < c := by omega
        clear h
        rcases hc with hc | hc
        all_goals
          go_enter Tryd.func44, Tryd.ntmps44
          go_wp2
          go_ret
          exact ⟨rfl, (Below.refl _ _).alloc (Nat.le_refl _) _⟩
    · have hb : b < 0 ∨ 1099511627776 < b := by omega
      clear h
      rcases hb with hb | hb
      all_goals
        go_enter Tryd.func44, Tryd.ntmps44
        go_wp2
        go_ret
        exact ⟨rfl, (Below.refl _ _).alloc (Nat.le_refl _) _⟩
  · have ha : a < 0 ∨ 1073741824 < a := by omega
    clear h
    rcases ha with ha | ha
    all_goals
      go_enter Tryd.func44, Tryd.ntmps44
      go_wp2
      go_ret
      exact ⟨rfl, (Below.refl _ _).alloc (Nat.le_refl _) _⟩

/-! ### begin and end -/
def beginC (a b c d e epoch round : Int) : Nat := if ¬ RightP a b c d e then 4 else if epoch ≠ a then 18 else if round < 1 ∨ 1099511627776 < round then 14 else 0
theorem begin_any (A : List Addr) (a b c d e epoch round : Int) (w : World) (h : Sents G18 132 A w) :
    Calls Tryd.prog 77 #[st5 a b c d e, .int .i64 epoch, .int .i64 round] w fun r w' => r = .returned (errV A (beginC a b c d e epoch round)) ∧ Below w.heap.size w w' := by
  have HS := Lib.hid h
  unfold beginC
  by_cases hR : RightP a b c d e
  · rw [if_neg (fun x => x hR)]
    have HR := Lib.hid hR
    clear hR
    by_cases hE : epoch = a
    · subst hE
      rw [if_neg (by simp)]
      by_cases hr : round < 1 ∨ 1099511627776 < round
      · rw [if_pos hr]
        obtain ⟨x, hx⟩ := sent_at h 13 (by omega)
        rw [errV_at hx]
        have HX := Lib.hid hx
        clear h hx
        rcases hr with hr | hr
        all_goals
          go_enter Tryd.func77, Tryd.ntmps77
          go_wp2_with fail
          refine (right_yes _ _ _ _ _ _ HR.out).mono ?_
          rintro r w1 ⟨rfl, hb1⟩
          have hg1 := ((HS.out.later ((Below.refl _ w).alloc (Nat.le_refl _) _)).later hb1).cell 13 1 x rfl HX.out
          have hb := ((Below.refl w.heap.size w).alloc (Nat.le_refl _) _).trans (hb1.mono (by simp))
          obtain ⟨hcc, hff⟩ := bcell hb1
          go_wp2_with fail
          go_ret
          exact ⟨rfl, hb⟩
      · rw [if_neg hr, errV_zero]
        have hr1 : 1 ≤ round := by omega
        have hr2 : round ≤ 1099511627776 := by omega
        clear hr h
        go_enter Tryd.func77, Tryd.ntmps77
        go_wp2_with fail
        refine (right_yes _ _ _ _ _ _ HR.out).mono ?_
        rintro r w1 ⟨rfl, hb1⟩
        have hb := ((Below.refl w.heap.size w).alloc (Nat.le_refl _) _).trans (hb1.mono (by simp))
        obtain ⟨hcc, hff⟩ := bcell hb1
        go_wp2_with fail
        go_ret
        exact ⟨rfl, hb⟩
    · rw [if_pos hE]
      have hE2 : (epoch == a) = false := by simpa using hE
      have hE3 : (epoch != a) = true := by simpa using hE
      obtain ⟨x, hx⟩ := sent_at h 17 (by omega)
      rw [errV_at hx]
      have HX := Lib.hid hx
      clear h hx hE
      go_enter Tryd.func77, Tryd.ntmps77
      go_wp2_with fail
      refine (right_yes _ _ _ _ _ _ HR.out).mono ?_
      rintro r w1 ⟨rfl, hb1⟩
      have hg1 := ((HS.out.later ((Below.refl _ w).alloc (Nat.le_refl _) _)).later hb1).cell 17 17 x rfl HX.out
      have hb := ((Below.refl w.heap.size w).alloc (Nat.le_refl _) _).trans (hb1.mono (by simp))
      obtain ⟨hcc, hff⟩ := bcell hb1
      go_wp2_with fail
      go_ret
      exact ⟨rfl, hb⟩
  · rw [if_pos hR]
    have HR := Lib.hid hR
    clear hR
    obtain ⟨x, hx⟩ := sent_at h 3 (by omega)
    rw [errV_at hx]
    have HX := Lib.hid hx
    clear h hx
    go_enter Tryd.func77, Tryd.ntmps77
    go_wp2_with fail
    refine (right_no _ _ _ _ _ _ HR.out).mono ?_
    rintro r w1 ⟨rfl, hb1⟩
    have hg1 := ((HS.out.later ((Below.refl _ w).alloc (Nat.le_refl _) _)).later hb1).cell 3 5 x rfl HX.out
    have hb := ((Below.refl w.heap.size w).alloc (Nat.le_refl _) _).trans (hb1.mono (by simp))
    obtain ⟨hcc, hff⟩ := bcell hb1
    go_wp2_with fail
    go_ret
    exact ⟨rfl, hb⟩

theorem cell_alloc_old {w : World} {p : Addr} {v : Value} (h : w.cell? p = some v) : ∀ o : Obj, (w.alloc o).cell? p = some v := fun o =>
  (((Below.refl w.heap.size w).alloc (Nat.le_refl _) o).cell (lt_of_cell h)).trans h

end Go.Proofs.YtadonpfpneanhaaDoor
