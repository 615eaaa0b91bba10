/- The document's reader: bytes at every number, and bytes with their number. -/
import Derived.Test.YtadonpfpneanhaaDoorM5
namespace Go.Proofs.YtadonpfpneanhaaDoor
open Go.RowKit

theorem own_base {w : World} {B B' n size : Nat} {e : TypeId} {v : Value} {xs : List Value} (h : w.ownsRow B e size v n xs) (hB : B' ≤ B) : w.ownsRow B' e size v n xs := by
  refine ⟨h.1, ?_⟩
  rcases h.2 with hh | ⟨g, cap, cur, rfl, hb0, rest⟩
  · exact .inl hh
  · exact .inr ⟨g, cap, cur, rfl, Nat.le_trans hB hb0, rest⟩

set_option maxHeartbeats 1000000 in
set_option maxRecDepth 100000 in
theorem mfixed_neg (w : World) (m : Nat) (b : Value) (B : List Int) (s : RS) (h : Mr w m b B s) (n : Int) (hn : n < 0) :
    Calls Tryd.prog 81 #[.pointer (some ⟨m, 0, none⟩), .int .i64 n] w fun r w' => r = .returned (.slice none 0 0) ∧ Mr w' m b B (s.fail 1) ∧ Upd m w noV w' noV := by
  have HF := Lib.hid (mfail_any w m b B s h 1 (by decide) 1 rfl)
  have hne : (s.fail 1).c ≠ 0 := by unfold RS.fail; split <;> simp_all
  have HN := Lib.hid hne
  clear h hne
  go_enter Tryd.func81, Tryd.ntmps81
  go_wp2_with fail
  refine HF.out.mono ?_
  rintro r w1 ⟨rfl, hM, hU⟩
  have k2 := hM.c2
  have hne : ¬ (((s.fail 1).c : Nat) : Int) = 0 := by have := HN.out; omega
  have HM := Lib.hid (And.intro hM hU)
  generalize (((s.fail 1).c : Nat) : Int) = cv at *
  have hq : (cv == 0) = false := by simpa using hne
  clear hM hU
  go_wp2_with fail
  go_ret
  exact ⟨rfl, HM.out⟩

set_option maxHeartbeats 1000000 in
set_option maxRecDepth 100000 in
theorem mfixed_has (w : World) (m : Nat) (b : Value) (B : List Int) (s : RS) (h : Mr w m b B s) (n : Int) (hn : ¬ n < 0) (hc : s.c ≠ 0) :
    Calls Tryd.prog 81 #[.pointer (some ⟨m, 0, none⟩), .int .i64 n] w fun r w' => r = .returned (.slice none 0 0) ∧ Mr w' m b B s ∧ Upd m w noV w' noV := by
  have k2 := h.c2
  have hne : ¬ ((s.c : Nat) : Int) = 0 := by omega
  have HM := Lib.hid h
  clear h hc
  generalize ((s.c : Nat) : Int) = cv at *
  have hq : (cv == 0) = false := by simpa using hne
  go_enter Tryd.func81, Tryd.ntmps81
  go_wp2_with fail
  go_ret
  exact ⟨rfl, HM.out, Upd.refl _ _ _⟩

set_option maxHeartbeats 1000000 in
set_option maxRecDepth 100000 in
theorem mfixed_short (w : World) (m : Nat) (b : Value) (B xs : List Int) (h : Mr w m b B ⟨0, xs⟩) (n : Int) (hn : ¬ n < 0) (hl : (xs.length : Int) < n) :
    Calls Tryd.prog 81 #[.pointer (some ⟨m, 0, none⟩), .int .i64 n] w fun r w' => r = .returned (.slice none 0 0) ∧ Mr w' m b B ⟨2, xs⟩ ∧ Upd m w noV w' noV := by
  have k2 := h.c2
  have HL := Lib.hid (mleft_any w m b B ⟨0, xs⟩ h rfl)
  have HF : Hid (∀ n, Calls Tryd.prog 87 #[.pointer (some ⟨m, 0, none⟩), .int .i64 2] (w.drewN n) fun r w' => r = .returned (.tuple #[]) ∧ Mr w' m b B ⟨2, xs⟩ ∧ Upd m w noV w' noV) := fun n =>
    (mfail_any (w.drewN n) m b B ⟨0, xs⟩ (h.drewN n) 2 (by decide) 2 rfl).mono fun r w' ⟨e1, e2, e3⟩ => ⟨e1, e2, ⟨e3.os, e3.tape, e3.output, e3.size, e3.same, e3.own⟩⟩
  clear h
  replace k2 : w.cell? ⟨m, 2, none⟩ = some (.int .i64 0) := k2
  go_enter Tryd.func81, Tryd.ntmps81
  go_wp2_with fail
  refine HL.out.mono ?_
  rintro r w1 ⟨rfl, n, rfl⟩
  go_wp2_with fail
  refine (HF.out _).mono ?_
  rintro r w1 ⟨rfl, hM, hU⟩
  have k2' := hM.c2
  replace k2' : w1.cell? ⟨m, 2, none⟩ = some (.int .i64 2) := k2'
  have HM := Lib.hid (And.intro hM hU)
  clear hM hU k2
  go_wp2_with fail
  go_ret
  exact ⟨rfl, HM.out⟩

theorem mfixed_any (w : World) (m : Nat) (b : Value) (B : List Int) (s : RS) (h : Mr w m b B s) (n : Int) :
    Calls Tryd.prog 81 #[.pointer (some ⟨m, 0, none⟩), .int .i64 n] w fun r w' => ∃ out, r = .returned out ∧ w'.ownsRow w.heap.size 5 1 out (s.fixedV n).length (u8s (s.fixedV n)) ∧ Mr w' m b B (s.fixed n) ∧ Upd m w noV w' noV := by
  unfold RS.fixedV RS.fixed
  by_cases hn : n < 0
  · rw [if_pos hn, if_pos hn]
    exact (mfixed_neg w m b B s h n hn).mono fun r w' ⟨h1, h2⟩ => ⟨_, h1, World.ownsRow_nil _ _ _ _, h2⟩
  · rw [if_neg hn, if_neg hn]
    obtain ⟨c, xs⟩ := s
    by_cases hc : c = 0
    · subst hc
      obtain ⟨N, rfl⟩ : ∃ N : Nat, n = N := ⟨n.toNat, by omega⟩
      rw [Int.toNat_natCast]
      by_cases hl : N ≤ xs.length
      · have ht : RS.take ⟨0, xs⟩ N = ⟨0, xs.drop N⟩ := by unfold RS.take; rw [if_pos rfl, if_neg (by simp only; omega)]
        have hk : RS.took ⟨0, xs⟩ N = xs.take N := by unfold RS.took; rw [if_pos ⟨rfl, hl⟩]
        rw [ht, hk]
        obtain ⟨at', e1, e2⟩ := h.blk
        obtain ⟨k, rfl, hkb, hxs⟩ := e2 rfl
        simp only at hxs
        subst hxs
        rw [List.length_drop] at hl
        have hA : MrAt w m b B k := ⟨e1, h.src, h.ap⟩
        have h8 := h.by8
        have hbig := h.big
        rw [List.drop_drop]
        clear h e1 e2
        rcases hA.src with ⟨rfl, rfl⟩ | ⟨ad, c', rfl, h1, h2, _⟩
        · obtain rfl : k = 0 := by simpa using hkb
          obtain rfl : N = 0 := by simpa using hl
          exact (mfixed_none w m hA).mono fun r w' hr => by simpa using hr
        · unfold maxLen at h2
          by_cases hck : c' = k
          · subst hck
            obtain rfl : N = 0 := by omega
            have hl2 : B.length = c' := by omega
            exact (mfixed_full w m ad B c' hA h8 hbig hl2).mono fun r w' hr => by simpa using hr
          · exact mfixed_some w m ad c' B k N hA (by omega) h8 hbig h1 (by omega) hck
      · have ht : RS.take ⟨0, xs⟩ N = ⟨2, xs⟩ := by unfold RS.take; rw [if_pos rfl, if_pos (by simp only; omega)]
        have hk : RS.took ⟨0, xs⟩ N = [] := by unfold RS.took; rw [if_neg (fun x => hl x.2)]
        rw [ht, hk]
        exact (mfixed_short w m b B xs h N hn (by omega)).mono fun r w' ⟨h1, h2⟩ => ⟨_, h1, World.ownsRow_nil _ _ _ _, h2⟩
    · have ht : RS.take ⟨c, xs⟩ n.toNat = ⟨c, xs⟩ := by unfold RS.take; rw [if_neg hc]
      have hk : RS.took ⟨c, xs⟩ n.toNat = [] := by unfold RS.took; rw [if_neg (fun x => hc x.1)]
      rw [ht, hk]
      exact (mfixed_has w m b B ⟨c, xs⟩ h n hn hc).mono fun r w' ⟨h1, h2⟩ => ⟨_, h1, World.ownsRow_nil _ _ _ _, h2⟩

set_option maxHeartbeats 1000000 in
set_option maxRecDepth 100000 in
theorem mbytes_any (w : World) (m : Nat) (b : Value) (B : List Int) (s : RS) (h : Mr w m b B s) (most : Int) :
    Calls Tryd.prog 82 #[.pointer (some ⟨m, 0, none⟩), .int .i64 most] w fun r w' => ∃ out, r = .returned out ∧ w'.ownsRow w.heap.size 5 1 out (s.bytesV most).length (u8s (s.bytesV most)) ∧ Mr w' m b B (s.bytes most) ∧ Upd m w noV w' noV := by
  have HN := Lib.hid (mnum_any w m b B s h 2)
  unfold RS.bytes RS.bytesV RS.most
  clear h
  generalize hV : s.numV 2 = V at *
  generalize hS : s.number 2 = s1 at *
  clear hV hS
  by_cases hc : s1.c = 0
  · by_cases hv : most < V
    · rw [if_pos ⟨hc, hv⟩]
      go_enter Tryd.func82, Tryd.ntmps82
      go_wp2_with fail
      refine HN.out.mono ?_
      rintro r w1 ⟨rfl, hM, hU⟩
      have k2 := hM.c2
      rw [hc] at k2
      replace k2 : w1.cell? ⟨m, 2, none⟩ = some (.int .i64 0) := k2
      have HF := Lib.hid (mfail_any w1 m b B s1 hM 1 (by decide) 1 rfl)
      have HU := Lib.hid hU
      clear hM hU hc
      go_wp2_with fail
      refine HF.out.mono ?_
      rintro r w2 ⟨rfl, hM, hU⟩
      have HX := Lib.hid (mfixed_any w2 m b B _ hM V)
      have HU2 := Lib.hid (HU.out.trans hU)
      clear hM hU k2
      go_wp2_with fail
      refine HX.out.mono ?_
      rintro r w3 ⟨out, rfl, h1, h2, h3⟩
      have HK := Lib.hid (And.intro (own_base h1 HU2.out.size) (And.intro h2 (HU2.out.trans h3)))
      clear h1 h2 h3
      go_wp2_with fail
      go_ret
      exact ⟨_, rfl, HK.out⟩
    · rw [if_neg (fun x => hv x.2)]
      go_enter Tryd.func82, Tryd.ntmps82
      go_wp2_with fail
      refine HN.out.mono ?_
      rintro r w1 ⟨rfl, hM, hU⟩
      have k2 := hM.c2
      rw [hc] at k2
      replace k2 : w1.cell? ⟨m, 2, none⟩ = some (.int .i64 0) := k2
      have HX := Lib.hid (mfixed_any w1 m b B _ hM V)
      have HU2 := Lib.hid hU
      clear hM hU hc
      go_wp2_with fail
      refine HX.out.mono ?_
      rintro r w3 ⟨out, rfl, h1, h2, h3⟩
      have HK := Lib.hid (And.intro (own_base h1 HU2.out.size) (And.intro h2 (HU2.out.trans h3)))
      clear h1 h2 h3
      go_wp2_with fail
      go_ret
      exact ⟨_, rfl, HK.out⟩
  · rw [if_neg (fun x => hc x.1)]
    go_enter Tryd.func82, Tryd.ntmps82
    go_wp2_with fail
    refine HN.out.mono ?_
    rintro r w1 ⟨rfl, hM, hU⟩
    have k2 := hM.c2
    have hne : ¬ ((s1.c : Nat) : Int) = 0 := by omega
    have HX := Lib.hid (mfixed_any w1 m b B _ hM V)
    have HU2 := Lib.hid hU
    generalize ((s1.c : Nat) : Int) = cv at *
    have hq : (cv == 0) = false := by simpa using hne
    clear hM hU hc
    go_wp2_with fail
    refine HX.out.mono ?_
    rintro r w3 ⟨out, rfl, h1, h2, h3⟩
    have HK := Lib.hid (And.intro (own_base h1 HU2.out.size) (And.intro h2 (HU2.out.trans h3)))
    clear h1 h2 h3
    go_wp2_with fail
    go_ret
    exact ⟨_, rfl, HK.out⟩

end Go.Proofs.YtadonpfpneanhaaDoor
