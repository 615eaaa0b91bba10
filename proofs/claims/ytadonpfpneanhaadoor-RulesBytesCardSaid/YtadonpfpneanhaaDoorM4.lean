/- The document's reader: numbers at every width, flags, how many, the end. -/
import Derived.Test.YtadonpfpneanhaaDoorM3
namespace Go.Proofs.YtadonpfpneanhaaDoor
open Go.RowKit

theorem mnum_any (w : World) (m : Nat) (b : Value) (B : List Int) (s : RS) (h : Mr w m b B s) (width : Int) :
    Calls Tryd.prog 79 #[.pointer (some ⟨m, 0, none⟩), .int .i64 width] w fun r w' => r = .returned (.int .i64 (s.numV width)) ∧ Mr w' m b B (s.number width) ∧ Upd m w noV w' noV := by
  unfold RS.numV RS.number
  by_cases hb : width < 1 ∨ 8 < width
  · rw [if_pos hb, if_pos hb]
    exact mnum_bad w m b B s h width hb
  · rw [if_neg hb, if_neg hb]
    obtain ⟨c, xs⟩ := s
    by_cases hc : c = 0
    · subst hc
      obtain ⟨W, rfl⟩ : ∃ W : Nat, width = W := ⟨width.toNat, by omega⟩
      rw [Int.toNat_natCast]
      by_cases hl : W ≤ xs.length
      · by_cases hx : W = 8 ∧ 127 < xs.headD 0
        · obtain ⟨rfl, hx⟩ := hx
          have hp : RS.pre ⟨0, xs⟩ ((8 : Nat) : Int) = ⟨1, xs⟩ := by
            unfold RS.pre
            rw [if_pos ⟨rfl, rfl, hl, hx⟩]
            rfl
          rw [hp]
          exact mnum_over w m b B xs h hl hx
        · have hp : RS.pre ⟨0, xs⟩ (W : Int) = ⟨0, xs⟩ := by
            unfold RS.pre
            rw [if_neg (fun x => hx ⟨by have := x.2.1; omega, x.2.2.2⟩)]
          rw [hp]
          have ht : RS.take ⟨0, xs⟩ W = ⟨0, xs.drop W⟩ := by unfold RS.take; rw [if_pos rfl, if_neg (by simp only; omega)]
          have hk : RS.took ⟨0, xs⟩ W = xs.take W := by unfold RS.took; rw [if_pos ⟨rfl, hl⟩]
          rw [ht, hk]
          exact mnum_good w m b B xs h W (by omega) (by omega) hl (by omega)
      · have hp : RS.pre ⟨0, xs⟩ (W : Int) = ⟨0, xs⟩ := by
          unfold RS.pre
          rw [if_neg (fun x => by have h1 := x.2.1; have h2 := x.2.2.1; simp only at h2; omega)]
        rw [hp]
        have ht : RS.take ⟨0, xs⟩ W = ⟨2, xs⟩ := by unfold RS.take; rw [if_pos rfl, if_pos (by simp only; omega)]
        have hk : RS.took ⟨0, xs⟩ W = [] := by unfold RS.took; rw [if_neg (fun x => hl x.2)]
        rw [ht, hk]
        exact mnum_short w m b B xs h W (by omega) (by omega) (by omega)
    · have hp : RS.pre ⟨c, xs⟩ width = ⟨c, xs⟩ := by unfold RS.pre; rw [if_neg (fun x => hc x.1)]
      rw [hp]
      have ht : RS.take ⟨c, xs⟩ width.toNat = ⟨c, xs⟩ := by unfold RS.take; rw [if_neg hc]
      have hk : RS.took ⟨c, xs⟩ width.toNat = [] := by unfold RS.took; rw [if_neg (fun x => hc x.1)]
      rw [ht, hk]
      exact mnum_has w m b B ⟨c, xs⟩ h width (by omega) (by omega) hc

set_option maxHeartbeats 1000000 in
set_option maxRecDepth 100000 in
theorem mdone_any (w : World) (m : Nat) (b : Value) (B : List Int) (s : RS) (h : Mr w m b B s) :
    Calls Tryd.prog 53 #[.pointer (some ⟨m, 0, none⟩)] w fun r w' => r = .returned (.int .i64 (s.fin : Int)) ∧ ∃ n, w' = w.drewN n := by
  obtain ⟨c, xs⟩ := s
  have k2 := h.c2
  unfold RS.fin
  by_cases hc : c = 0
  · subst hc
    have HL := Lib.hid (mleft_any w m b B ⟨0, xs⟩ h rfl)
    replace k2 : w.cell? ⟨m, 2, none⟩ = some (.int .i64 0) := k2
    clear h
    by_cases hl : 0 < xs.length
    · rw [if_pos ⟨rfl, hl⟩]
      have hl2 : (0 : Int) < xs.length := by omega
      go_enter Tryd.func53, Tryd.ntmps53
      go_wp2_with fail
      refine HL.out.mono ?_
      rintro r w1 ⟨rfl, n, rfl⟩
      go_wp2_with fail
      go_ret
      exact ⟨rfl, _, rfl⟩
    · rw [if_neg (fun x => hl x.2)]
      have hl2 : ¬ (0 : Int) < xs.length := by omega
      have hl3 : xs.length = 0 := by omega
      go_enter Tryd.func53, Tryd.ntmps53
      go_wp2_with fail
      refine HL.out.mono ?_
      rintro r w1 ⟨rfl, n, rfl⟩
      go_wp2_with fail
      go_ret
      exact ⟨rfl, _, rfl⟩
  · rw [if_neg (fun x => hc x.1)]
    have hne : ¬ ((c : Nat) : Int) = 0 := by omega
    simp only at k2
    generalize ((c : Nat) : Int) = cv at *
    have hq : (cv == 0) = false := by simpa using hne
    clear h
    go_enter Tryd.func53, Tryd.ntmps53
    go_wp2_with fail
    go_ret
    exact ⟨rfl, 0, rfl⟩

/-- A reader's state up to what nobody reads behind an error. -/
def RS.like (s t : RS) : Prop := s.c = t.c ∧ (s.c = 0 → s.xs = t.xs)
theorem Mr.like {w : World} {m : Nat} {b : Value} {B : List Int} {s t : RS} (h : Mr w m b B s) (hl : RS.like s t) : Mr w m b B t := h.same hl.1.symm (fun h0 => (hl.2 h0).symm)

def RS.many (s : RS) (most : Int) : RS := (s.number 1).most (s.numV 1) most
def RS.manyV (s : RS) (most : Int) : Int := if (s.number 1).c = 0 ∧ most < s.numV 1 then 0 else s.numV 1

theorem one_num {xs : List Int} {x : Int} : RS.number ⟨0, x :: xs⟩ 1 = ⟨0, xs⟩ ∧ RS.numV ⟨0, x :: xs⟩ 1 = x := by
  have hp : RS.pre ⟨0, x :: xs⟩ 1 = ⟨0, x :: xs⟩ := by unfold RS.pre; rw [if_neg (fun x => by have := x.2.1; omega)]
  unfold RS.number RS.numV
  rw [if_neg (by omega), if_neg (by omega), hp]
  simp [RS.take, RS.took, beVal]
theorem flag_like (s : RS) : RS.like (if (s.number 1).c = 0 ∧ 1 < s.numV 1 then (s.number 1).fail 4 else s.number 1) s.flag ∧ (if (s.number 1).c = 0 ∧ 1 < s.numV 1 then false else decide (s.numV 1 = 1)) = s.flagV := by
  obtain ⟨c, xs⟩ := s
  unfold RS.flag RS.flagV RS.flagP
  by_cases hc : c = 0
  · subst hc
    cases xs with
    | nil =>
      have h1 : RS.number ⟨0, []⟩ 1 = ⟨2, []⟩ := rfl
      have h2 : RS.numV ⟨0, []⟩ 1 = 0 := rfl
      rw [h1, h2]
      simp [RS.like, h1, h2]
    | cons x xs =>
      rw [one_num.1, one_num.2]
      by_cases hx : 1 < x
      · rw [if_pos ⟨rfl, hx⟩, if_pos ⟨rfl, hx⟩]
        simp only [hx, and_self, if_true]
        have h4 : RS.number (RS.fail ⟨0, x :: xs⟩ 4) 1 = ⟨4, x :: xs⟩ := rfl
        have h5 : RS.numV (RS.fail ⟨0, x :: xs⟩ 4) 1 = 0 := rfl
        rw [h4, h5]
        simp [RS.like, RS.fail]
      · rw [if_neg (fun h => hx h.2), if_neg (fun h => hx h.2)]
        simp only [hx, and_false, if_false]
        rw [one_num.1, one_num.2]
        exact ⟨⟨rfl, fun _ => rfl⟩, rfl⟩
  · have h1 : RS.number ⟨c, xs⟩ 1 = ⟨c, xs⟩ := by
      unfold RS.number RS.pre
      rw [if_neg (by omega), if_neg (fun x => hc x.1)]
      unfold RS.take
      rw [if_neg hc]
    have h2 : RS.numV ⟨c, xs⟩ 1 = 0 := by
      unfold RS.numV RS.pre
      rw [if_neg (by omega), if_neg (fun x => hc x.1)]
      unfold RS.took
      rw [if_neg (fun x => hc x.1)]
      rfl
    have h3 : ¬ ((RS.number ⟨c, xs⟩ 1).c = 0 ∧ 1 < RS.numV ⟨c, xs⟩ 1) := fun h => hc (by have := h.1; rwa [h1] at this)
    rw [if_neg h3, if_neg h3, if_neg (fun h => hc h.1), h1, h2]
    exact ⟨⟨rfl, fun _ => rfl⟩, rfl⟩

set_option maxHeartbeats 1000000 in
set_option maxRecDepth 100000 in
theorem mflag_any (w : World) (m : Nat) (b : Value) (B : List Int) (s : RS) (h : Mr w m b B s) :
    Calls Tryd.prog 80 #[.pointer (some ⟨m, 0, none⟩)] w fun r w' => r = .returned (.bool s.flagV) ∧ Mr w' m b B s.flag ∧ Upd m w noV w' noV := by
  have HN := Lib.hid (mnum_any w m b B s h 1)
  obtain ⟨l1, l2⟩ := flag_like s
  rw [← l2]
  have HK := Lib.hid l1
  clear l1 l2 h
  generalize s.flag = s2 at *
  generalize hV : s.numV 1 = V at *
  generalize hS : s.number 1 = s1 at *
  clear hV hS
  by_cases hc : s1.c = 0
  · by_cases hv : 1 < V
    · rw [if_pos ⟨hc, hv⟩]
      rw [if_pos ⟨hc, hv⟩] at HK
      go_enter Tryd.func80, Tryd.ntmps80
      go_wp2_with fail
      refine HN.out.mono ?_
      rintro r w1 ⟨rfl, hM, hU⟩
      have k2 := hM.c2
      rw [hc] at k2
      replace k2 : w1.cell? ⟨m, 2, none⟩ = some (.int .i64 0) := k2
      have HF := Lib.hid (mfail_any w1 m b B s1 hM 4 (by decide) 4 rfl)
      have HU := Lib.hid hU
      clear hM hU hc
      go_wp2_with fail
      refine HF.out.mono ?_
      rintro r w2 ⟨rfl, hM, hU⟩
      have HM : Hid (Mr w2 m b B s2 ∧ Upd m w noV w2 noV) := ⟨hM.like HK.out, HU.out.trans hU⟩
      clear hM hU
      go_wp2_with fail
      go_ret
      exact ⟨rfl, HM.out⟩
    · rw [if_neg (fun x => hv x.2)]
      rw [if_neg (fun x => hv x.2)] at HK
      go_enter Tryd.func80, Tryd.ntmps80
      go_wp2_with fail
      refine HN.out.mono ?_
      rintro r w1 ⟨rfl, hM, hU⟩
      have k2 := hM.c2
      rw [hc] at k2
      replace k2 : w1.cell? ⟨m, 2, none⟩ = some (.int .i64 0) := k2
      have HM : Hid (Mr w1 m b B s2 ∧ Upd m w noV w1 noV) := ⟨hM.like HK.out, hU⟩
      clear hM hU hc
      go_wp2_with fail
      go_ret
      exact ⟨rfl, HM.out⟩
  · rw [if_neg (fun x => hc x.1)]
    rw [if_neg (fun x => hc x.1)] at HK
    go_enter Tryd.func80, Tryd.ntmps80
    go_wp2_with fail
    refine HN.out.mono ?_
    rintro r w1 ⟨rfl, hM, hU⟩
    have k2 := hM.c2
    have hne : ¬ ((s1.c : Nat) : Int) = 0 := by omega
    have HM : Hid (Mr w1 m b B s2 ∧ Upd m w noV w1 noV) := ⟨hM.like HK.out, hU⟩
    generalize ((s1.c : Nat) : Int) = cv at *
    have hq : (cv == 0) = false := by simpa using hne
    clear hM hU hc
    go_wp2_with fail
    go_ret
    exact ⟨rfl, HM.out⟩

set_option maxHeartbeats 1000000 in
set_option maxRecDepth 100000 in
theorem mmany_any (w : World) (m : Nat) (b : Value) (B : List Int) (s : RS) (h : Mr w m b B s) (most : Int) :
    Calls Tryd.prog 85 #[.pointer (some ⟨m, 0, none⟩), .int .i64 most] w fun r w' => r = .returned (.int .i64 (s.manyV most)) ∧ Mr w' m b B (s.many most) ∧ Upd m w noV w' noV := by
  have HN := Lib.hid (mnum_any w m b B s h 1)
  unfold RS.many RS.manyV RS.most
  clear h
  generalize hV : s.numV 1 = V at *
  generalize hS : s.number 1 = s1 at *
  clear hV hS
  by_cases hc : s1.c = 0
  · by_cases hv : most < V
    · rw [if_pos ⟨hc, hv⟩, if_pos ⟨hc, hv⟩]
      go_enter Tryd.func85, Tryd.ntmps85
      go_wp2_with fail
      refine HN.out.mono ?_
      rintro r w1 ⟨rfl, hM, hU⟩
      have k2 := hM.c2
      rw [hc] at k2
      replace k2 : w1.cell? ⟨m, 2, none⟩ = some (.int .i64 0) := k2
      have HF := Lib.hid (mfail_any w1 m b B s1 hM 1 (by decide) 1 rfl)
      have HU := Lib.hid hU
      clear hM hU hc
      go_wp2_with fail
      refine HF.out.mono ?_
      rintro r w2 ⟨rfl, hM, hU⟩
      have HM : Hid (Mr w2 m b B (s1.fail 1) ∧ Upd m w noV w2 noV) := ⟨hM, HU.out.trans hU⟩
      clear hM hU
      go_wp2_with fail
      go_ret
      exact ⟨rfl, HM.out⟩
    · rw [if_neg (fun x => hv x.2), if_neg (fun x => hv x.2)]
      go_enter Tryd.func85, Tryd.ntmps85
      go_wp2_with fail
      refine HN.out.mono ?_
      rintro r w1 ⟨rfl, hM, hU⟩
      have k2 := hM.c2
      rw [hc] at k2
      replace k2 : w1.cell? ⟨m, 2, none⟩ = some (.int .i64 0) := k2
      have HM := Lib.hid (And.intro hM hU)
      clear hM hU hc
      go_wp2_with fail
      go_ret
      exact ⟨rfl, HM.out⟩
  · rw [if_neg (fun x => hc x.1), if_neg (fun x => hc x.1)]
    go_enter Tryd.func85, Tryd.ntmps85
    go_wp2_with fail
    refine HN.out.mono ?_
    rintro r w1 ⟨rfl, hM, hU⟩
    have k2 := hM.c2
    have hne : ¬ ((s1.c : Nat) : Int) = 0 := by omega
    have HM := Lib.hid (And.intro hM hU)
    generalize ((s1.c : Nat) : Int) = cv at *
    have hq : (cv == 0) = false := by simpa using hne
    clear hM hU hc
    go_wp2_with fail
    go_ret
    exact ⟨rfl, HM.out⟩

end Go.Proofs.YtadonpfpneanhaaDoor
