/- The reader's number at every width, its end, its error, its making. -/
import Derived.Test.YtadonpfpneanhaaDoorW7
namespace Go.Proofs.YtadonpfpneanhaaDoor
open Go.RowKit

set_option maxHeartbeats 2000000 in
set_option maxRecDepth 100000 in
theorem rnum_over (A : List Addr) (w : World) (h : Ers A w) (q : Nat) (sl : Value) (xs : List Int) (hR : Rd w q .nilIface sl xs) (hbig : xs.length ≤ 140737488355328) (hc : 8 ≤ xs.length) (hw : 127 < xs.headD 0) :
    Calls Tryd.prog 20 #[.pointer (some ⟨q, 0, none⟩), .int .i64 8] w fun r w' => r = .returned (.int .i64 0) ∧ Rd w' q (errV A 1) sl xs ∧ Upd q w noV w' noV := by
  obtain ⟨a1, ha1, hg⟩ := h.e0
  have k0 := hR.c0
  have k1 := hR.c1
  have hF : Hid (∀ w2 : World, w2 = w.drew → Calls Tryd.prog 55 #[.pointer (some ⟨q, 0, none⟩), .iface 132 (.pointer (some a1))] w2 fun r w' => r = .returned (.tuple #[]) ∧ Rd w' q (errV A 1) sl xs ∧ Upd q w noV w' noV) := fun w2 e => by
    subst e
    have := rfail_any A w.drew q sl ⟨0, xs⟩ 1 (by decide) (hR.later ((Below.refl _ _).drew))
    rw [errV_at ha1] at this
    exact this.mono fun r w' hr => ⟨hr.1, hr.2.1, hr.2.2.of_drew⟩
  obtain ⟨a, c, rfl⟩ := hR.src.len
  obtain ⟨ad, rfl, hc0⟩ := hR.src.at (k := 0) (by omega)
  have hge : (8 : Int) ≤ xs.length := by omega
  have hxb : (127 : Int) < xs[0] := by
    cases xs with
    | nil => simp at hc
    | cons x t => exact hw
  rw [show ad.add 0 = ad from if_pos rfl] at hc0
  generalize xs[0] = x0 at *
  clear h hR hbig hw hc
  go_enter Tryd.func20, Tryd.ntmps20
  go_wp2_with fail
  go_region_with (first
    | (go_at_call 55; refine (hF.out _ rfl).mono ?_; rintro r w4 ⟨rfl, b4⟩))
  all_goals
    obtain ⟨hR4, hU4⟩ := b4
    have h4 := hR4.c0
    rw [show (1 : Nat) = 0 + 1 from rfl, errV_at ha1] at h4
    have HT := Lib.hid (take_has w4 q 8 h4)
    have HR4 := Lib.hid (And.intro hR4 hU4)
    clear hR4 hU4 h4
    go_wp2_with fail
    refine HT.out.mono ?_
    rintro r w5 ⟨rfl, rfl⟩
    go_wp2_with fail
    go_loop [5, 55] (fun v i => v = .int .i64 0 ∧ i = .int .i64 0) (fun _ _ => 0)
  all_goals try (case atStart => exact ⟨rfl, rfl⟩)
  all_goals
    obtain ⟨rfl, rfl⟩ := hrel
    go_wp2_with fail
    exact bodyPost_ret (v := .int .i64 0) (by simp [results, Tryd.f20, go_sem]) rfl ⟨rfl, HR4.out⟩

theorem rnum_any (A : List Addr) (w : World) (h : Ers A w) (q : Nat) (sl : Value) (s : RS) (hR : Rd w q (errV A s.c) sl s.xs) (hbig : s.xs.length ≤ 140737488355328) (width : Int) :
    Calls Tryd.prog 20 #[.pointer (some ⟨q, 0, none⟩), .int .i64 width] w fun r w' => r = .returned (.int .i64 (s.numV width)) ∧ ∃ sl', Rd w' q (errV A (s.number width).c) sl' (s.number width).xs ∧ Upd q w noV w' noV := by
  unfold RS.numV RS.number
  by_cases hb : width < 1 ∨ 8 < width
  · rw [if_pos hb, if_pos hb]
    exact (rnum_bad A w h q sl s hR width hb).mono fun r w' hr => ⟨hr.1, sl, hr.2⟩
  · rw [if_neg hb, if_neg hb]
    by_cases hc : s.c ≠ 0 ∨ (s.c = 0 ∧ width < 8)
    · rw [show s.pre width = s by unfold RS.pre; rw [if_neg (by omega)]]
      exact rnum_calm A w h q sl s hR hbig width (by omega) (by omega) hc
    · have hc0 : s.c = 0 := by omega
      have h8 : width = 8 := by omega
      obtain ⟨k, xs⟩ := s
      simp only at hc0
      subst hc0 h8
      by_cases hx : 8 ≤ xs.length ∧ 127 < xs.headD 0
      · rw [show RS.pre ⟨0, xs⟩ 8 = ⟨1, xs⟩ by unfold RS.pre; rw [if_pos ⟨rfl, rfl, hx.1, hx.2⟩]; rfl]
        exact (rnum_over A w h q sl xs hR hbig hx.1 hx.2).mono fun r w' hr => ⟨hr.1, sl, hr.2⟩
      · rw [show RS.pre ⟨0, xs⟩ 8 = ⟨0, xs⟩ by unfold RS.pre; rw [if_neg (fun x => hx ⟨x.2.2.1, x.2.2.2⟩)]]
        exact rnum_eight A w h q sl xs hR hbig (by omega)

def RS.fin (s : RS) : Nat := if s.c = 0 ∧ 0 < s.xs.length then 3 else s.c

set_option maxHeartbeats 1000000 in
set_option maxRecDepth 100000 in
theorem rdone_any (A : List Addr) (w : World) (h : ∃ a, A[2]? = some a ∧ w.cell? ⟨4, 0, none⟩ = some (.iface 132 (.pointer (some a)))) (q : Nat) (sl : Value) (s : RS) (hR : Rd w q (errV A s.c) sl s.xs) :
    Calls Tryd.prog 40 #[.pointer (some ⟨q, 0, none⟩)] w fun r w' => r = .returned (errV A s.fin) ∧ w' = w := by
  obtain ⟨k, xs⟩ := s
  have k0 := hR.c0
  have k1 := hR.c1
  obtain ⟨a, c, rfl⟩ := hR.src.len
  unfold RS.fin
  by_cases hk : k = 0
  · subst hk
    replace k0 : w.cell? ⟨q, 0, none⟩ = some .nilIface := k0
    by_cases hl : 0 < xs.length
    · obtain ⟨a1, ha1, hg⟩ := h
      rw [if_pos ⟨rfl, hl⟩, errV_at ha1]
      have hl2 : (0 : Int) < xs.length := by omega
      clear hR
      go_enter Tryd.func40, Tryd.ntmps40
      go_wp2_with fail
      go_ret
      exact ⟨rfl, rfl⟩
    · rw [if_neg (fun x => hl x.2)]
      have hl2 : ¬ (0 : Int) < xs.length := by omega
      have hl3 : xs.length = 0 := by omega
      clear h hR
      go_enter Tryd.func40, Tryd.ntmps40
      go_wp2_with fail
      go_ret
      exact ⟨rfl, rfl⟩
  · rw [if_neg (fun x => hk x.1)]
    obtain ⟨u, hu⟩ := errV_pos A hk
    simp only at k0
    rw [hu] at k0
    rw [hu]
    clear h hR
    go_enter Tryd.func40, Tryd.ntmps40
    go_wp2_with fail
    go_ret
    exact ⟨rfl, rfl⟩

set_option maxRecDepth 100000 in
theorem err_any (w : World) (q : Nat) (e : Value) (h0 : w.cell? ⟨q, 0, none⟩ = some e) (he : e = .nilIface ∨ ∃ u, e = .iface 132 u) :
    Calls Tryd.prog 21 #[.pointer (some ⟨q, 0, none⟩)] w fun r w' => r = .returned e ∧ w' = w := by
  rcases he with rfl | ⟨u, rfl⟩
  all_goals
    go_enter Tryd.func21, Tryd.ntmps21
    go_wp2_with fail
    go_ret
    exact ⟨rfl, rfl⟩
theorem errV_form (A : List Addr) (c : Nat) : errV A c = .nilIface ∨ ∃ u, errV A c = .iface 132 u := by
  by_cases hc : c = 0
  · left; rw [hc]; rfl
  · right; exact errV_pos A hc

set_option maxHeartbeats 1000000 in
set_option maxRecDepth 100000 in
/-- A reader of its own copy of the bytes. -/
theorem new_reader (w : World) (s : Value) (xs : List Int) (hs : Src w s xs) (h8 : ∀ x ∈ xs, 0 ≤ x ∧ x < 256) (hlen : xs.length ≤ 140737488355328) :
    Calls Tryd.prog 18 #[s] w fun r w' => ∃ q sl, r = .returned (.pointer (some ⟨q, 0, none⟩)) ∧ w.heap.size ≤ q ∧ Rd w' q .nilIface sl xs ∧ Below w.heap.size w w' := by
  have HC := Lib.hid (clone_any w s xs hs hlen)
  clear hs hlen
  go_enter Tryd.func18, Tryd.ntmps18
  go_wp2_with fail
  refine HC.out.mono ?_
  rintro r w1 ⟨v, rfl, ho, hb⟩
  have HO := Lib.hid ho
  have HB := Lib.hid hb
  obtain ⟨a, m, c, rfl⟩ := slice_of_own ho
  clear ho hb
  go_wp2_with fail
  go_ret
  refine ⟨w1.heap.size, .slice a m c, by simp, HB.out.size, ⟨heap_alloc_new w1 _, Src.of_own (HO.out.alloc _), ?_, h8⟩, HB.out.alloc HB.out.size _⟩
  intro ad l c' he
  cases he
  rcases HO.out.2 with ⟨he, _⟩ | ⟨g, cap, cur, he, _, hg, _⟩
  · cases he
  · cases he
    have := (Array.getElem?_eq_some_iff.1 hg).1
    exact ⟨this, rfl⟩

end Go.Proofs.YtadonpfpneanhaaDoor
