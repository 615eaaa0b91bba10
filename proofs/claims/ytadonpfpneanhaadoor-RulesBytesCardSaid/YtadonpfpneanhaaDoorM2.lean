/- The document's reader: its numbers. -/
import Derived.Test.YtadonpfpneanhaaDoorM1
namespace Go.Proofs.YtadonpfpneanhaaDoor
open Go.RowKit

theorem Mr.drewN {w : World} {m : Nat} {b : Value} {B : List Int} {s : RS} (h : Mr w m b B s) (n : Nat) : Mr (w.drewN n) m b B s := h.later (below_drewN_self _ _ _)
theorem Upd.drewN {p : Nat} {w w' : World} {v v' : Value} (h : Upd p w v w' v') (n : Nat) : Upd p w v (w'.drewN n) v' := ⟨h.os, h.tape, h.output, h.size, h.same, h.own⟩

set_option maxHeartbeats 1000000 in
set_option maxRecDepth 100000 in
theorem mnum_bad (w : World) (m : Nat) (b : Value) (B : List Int) (s : RS) (h : Mr w m b B s) (width : Int) (hb : width < 1 ∨ 8 < width) :
    Calls Tryd.prog 79 #[.pointer (some ⟨m, 0, none⟩), .int .i64 width] w fun r w' => r = .returned (.int .i64 0) ∧ Mr w' m b B (s.fail 1) ∧ Upd m w noV w' noV := by
  have HF := Lib.hid (mfail_any w m b B s h 1 (by decide) 1 rfl)
  have hne : (s.fail 1).c ≠ 0 := by unfold RS.fail; split <;> simp_all
  have HN := Lib.hid hne
  clear h hne
  rcases (show width < 1 ∨ (¬ width < 1 ∧ 8 < width) by omega) with h1 | ⟨h1, h2⟩
  all_goals
    clear hb
    go_enter Tryd.func79, Tryd.ntmps79
    go_wp2_with fail
    refine HF.out.mono ?_
    rintro r w1 ⟨rfl, hM, hU⟩
    have k2 := hM.c2
    have hne : ¬ (((s.fail 1).c : Nat) : Int) = 0 := by have := HN.out; omega
    have HM := Lib.hid (And.intro hM hU)
    generalize (((s.fail 1).c : Nat) : Int) = cv at *
    clear hM hU
    have hq : (cv == 0) = false := by simpa using hne
    go_wp2_with fail
    go_quiet (fail)
    go_wp2_with fail
    go_ret
    exact ⟨rfl, HM.out.1.drewN _, HM.out.2.drewN _⟩

set_option maxHeartbeats 1000000 in
set_option maxRecDepth 100000 in
theorem mnum_has (w : World) (m : Nat) (b : Value) (B : List Int) (s : RS) (h : Mr w m b B s) (width : Int) (h1 : ¬ width < 1) (h8 : ¬ 8 < width) (hc : s.c ≠ 0) :
    Calls Tryd.prog 79 #[.pointer (some ⟨m, 0, none⟩), .int .i64 width] w fun r w' => r = .returned (.int .i64 0) ∧ Mr w' m b B s ∧ Upd m w noV w' noV := by
  have k2 := h.c2
  have hne : ¬ ((s.c : Nat) : Int) = 0 := by omega
  have HM := Lib.hid h
  clear h hc
  generalize ((s.c : Nat) : Int) = cv at *
  have hq : (cv == 0) = false := by simpa using hne
  go_enter Tryd.func79, Tryd.ntmps79
  go_wp2_with fail
  go_quiet (fail)
  go_wp2_with fail
  go_ret
  exact ⟨rfl, HM.out.drewN _, (Upd.refl _ _ _).drewN _⟩

set_option maxHeartbeats 1000000 in
set_option maxRecDepth 100000 in
theorem mnum_short (w : World) (m : Nat) (b : Value) (B xs : List Int) (h : Mr w m b B ⟨0, xs⟩) (width : Int) (h1 : ¬ width < 1) (h8 : ¬ 8 < width) (hl : (xs.length : Int) < width) :
    Calls Tryd.prog 79 #[.pointer (some ⟨m, 0, none⟩), .int .i64 width] w fun r w' => r = .returned (.int .i64 0) ∧ Mr w' m b B ⟨2, xs⟩ ∧ Upd m w noV w' noV := by
  have k2 := h.c2
  have HL := Lib.hid (mleft_any w m b B ⟨0, xs⟩ h rfl)
  have HF : Hid (∀ n, Calls Tryd.prog 87 #[.pointer (some ⟨m, 0, none⟩), .int .i64 2] (w.drewN n) fun r w' => r = .returned (.tuple #[]) ∧ Mr w' m b B ⟨2, xs⟩ ∧ Upd m w noV w' noV) := fun n =>
    (mfail_any (w.drewN n) m b B ⟨0, xs⟩ (h.drewN n) 2 (by decide) 2 rfl).mono fun r w' ⟨e1, e2, e3⟩ => ⟨e1, e2, ⟨e3.os, e3.tape, e3.output, e3.size, e3.same, e3.own⟩⟩
  clear h
  replace k2 : w.cell? ⟨m, 2, none⟩ = some (.int .i64 0) := k2
  go_enter Tryd.func79, Tryd.ntmps79
  go_wp2_with fail
  refine HL.out.mono ?_
  rintro r w1 ⟨rfl, n, rfl⟩
  go_wp2_with fail
  refine (HF.out _).mono ?_
  rintro r w1 ⟨rfl, hM, hU⟩
  have k2' := hM.c2
  replace k2' : w1.cell? ⟨m, 2, none⟩ = some (.int .i64 2) := k2'
  have HM := Lib.hid (And.intro hM hU)
  clear hM hU k2
  go_wp2_with fail
  go_quiet (fail)
  go_wp2_with fail
  go_ret
  exact ⟨rfl, HM.out.1.drewN _, HM.out.2.drewN _⟩

theorem headD_drop {B : List Int} {k : Nat} (hk : k < B.length) : (B.drop k).headD 0 = B[k] := by
  rw [List.drop_eq_getElem_cons hk]; rfl

set_option maxHeartbeats 1000000 in
set_option maxRecDepth 100000 in
theorem mnum_over (w : World) (m : Nat) (b : Value) (B xs : List Int) (h : Mr w m b B ⟨0, xs⟩) (hl : 8 ≤ xs.length) (hx : 127 < xs.headD 0) :
    Calls Tryd.prog 79 #[.pointer (some ⟨m, 0, none⟩), .int .i64 8] w fun r w' => r = .returned (.int .i64 0) ∧ Mr w' m b B ⟨1, xs⟩ ∧ Upd m w noV w' noV := by
  have HL := Lib.hid (mleft_any w m b B ⟨0, xs⟩ h rfl)
  have HF : Hid (∀ n, Calls Tryd.prog 87 #[.pointer (some ⟨m, 0, none⟩), .int .i64 1] (w.drewN n) fun r w' => r = .returned (.tuple #[]) ∧ Mr w' m b B ⟨1, xs⟩ ∧ Upd m w noV w' noV) := fun n =>
    (mfail_any (w.drewN n) m b B ⟨0, xs⟩ (h.drewN n) 1 (by decide) 1 rfl).mono fun r w' ⟨e1, e2, e3⟩ => ⟨e1, e2, ⟨e3.os, e3.tape, e3.output, e3.size, e3.same, e3.own⟩⟩
  have hsr := h.src
  have hbig := h.big
  obtain ⟨at', e1, e2⟩ := h.blk
  obtain ⟨k, rfl, hk, hxs⟩ := e2 rfl
  simp only at hxs
  have hkl : k < B.length := by rw [hxs, List.length_drop] at hl; omega
  rw [hxs, headD_drop hkl] at hx
  obtain ⟨a, c, rfl⟩ := hsr.len
  obtain ⟨ad, rfl, hc⟩ := hsr.at hkl
  have k0 := cell_of_blk e1 0
  have k1 := cell_of_blk e1 1
  have k2 := cell_of_blk e1 2
  replace k0 : w.cell? ⟨m, 0, none⟩ = some (.slice (some ad) B.length c) := k0
  replace k1 : w.cell? ⟨m, 1, none⟩ = some (.int .i64 (k : Int)) := k1
  replace k2 : w.cell? ⟨m, 2, none⟩ = some (.int .i64 0) := k2
  have hl2 : ¬ (xs.length : Int) < 8 := by omega
  generalize B[k] = x at *
  have hx2 : (128 : Int) ≤ x := by omega
  have hki : (k : Int) < B.length := by omega
  clear h e1 e2 hsr hxs hx hl
  go_enter Tryd.func79, Tryd.ntmps79
  go_wp2_with fail
  refine HL.out.mono ?_
  rintro r w1 ⟨rfl, n, rfl⟩
  go_wp2_with fail
  go_quiet (fail)
  go_wp2_with fail
  refine (HF.out _).mono ?_
  rintro r w1 ⟨rfl, hM, hU⟩
  have k2' := hM.c2
  replace k2' : w1.cell? ⟨m, 2, none⟩ = some (.int .i64 1) := k2'
  have HM := Lib.hid (And.intro hM hU)
  clear hM hU k2
  go_wp2_with fail
  go_ret
  exact ⟨rfl, HM.out.1, HM.out.2⟩

end Go.Proofs.YtadonpfpneanhaaDoor
