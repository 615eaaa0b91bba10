/- The writer's end, its bytes with their number, and the chapter's examples. -/
import Derived.Test.YtadonpfpneanhaaDoorW3
namespace Go.Proofs.YtadonpfpneanhaaDoor
open Go.RowKit

set_option maxHeartbeats 1000000 in
set_option maxRecDepth 100000 in
theorem clone_any (w : World) (s : Value) (xs : List Int) (hs : Src w s xs) (hlen : xs.length ≤ 140737488355328) :
    Calls Tryd.prog 61 #[s] w fun r w' => ∃ v, r = .returned v ∧ w'.ownsRow w.heap.size 5 1 v xs.length (u8s xs) ∧ Below w.heap.size w w' := by
  obtain ⟨i0, hi, hz0, hz1, hz2⟩ := info_parts Tryd.info5
  have hE : ∀ (a : Option Addr) (l c : Nat) (W : World), (binOp .eql 22 (.slice a l c) (.slice none 0 0)).run Tryd.prog W = .ok (.bool a.isNone) W := fun a l c W => Lib.run_eql_slice_nil W 22 5 a l c 0 0 Tryd.underlying22
  rcases hs with ⟨rfl, rfl⟩ | ⟨ad, c, rfl, hc1, hc2, hcs⟩
  · go_enter Tryd.func61, Tryd.ntmps61
    go_wp2_with fail
    go_ret
    exact ⟨_, rfl, World.ownsRow_nil _ _ _ _, Below.refl _ _⟩
  · have hn1 : 0 + xs.length ≤ maxLen := by unfold maxLen; omega
    have hn2 : (0 + xs.length) * 1 ≤ 140737488355328 := by omega
    have hown : (w.alloc (.cells #[] 5)).ownsRow w.heap.size 5 1 (.slice (some ⟨w.heap.size, 0, none⟩) 0 0) 0 [] := World.ownsRow_lit w #[] 0 (Nat.le_refl _) (Nat.zero_le _) rfl
    have hcs2 : ∀ j u, (u8s xs)[j]? = some u → (w.alloc (.cells #[] 5)).cell? (ad.add j) = some u := fun j u hj => by
      have hk := hcs j u hj
      exact (((Below.refl w.heap.size w).alloc (Nat.le_refl _) _).cell (World.block_lt_of_cell? w _ hk)).trans hk
    have HB := Lib.hid (((Below.refl w.heap.size w).alloc (Nat.le_refl _) (.cells #[] 5)))
    clear hcs hlen
    go_enter Tryd.func61, Tryd.ntmps61
    go_wp2_with (first
      | (at_builtin; refine wpList_append_own _ rfl (.tmp 5) (.tmp 6) 22 rfl w.heap.size 5 i0 (.int .u8 0) 1 1 Tryd.underlying22 hi hz0 hz1 hz2 rfl (by decide) _ 0 [] rfl hown ad xs.length c (u8s xs) rfl (by simp) hcs2 (u8s_oneCell xs) hn1 hn2 (by simp) ?_; intro v' w1 hown' hgrow _))
    go_ret
    refine ⟨v', rfl, by simpa using hown', ?_⟩
    exact HB.out.grown hgrow (by simp) (fun k e => (hown.lt k e).1)

set_option maxHeartbeats 1000000 in
set_option maxRecDepth 100000 in
theorem done_ok (w : World) (p : Nat) (v : Value) (bs : List Int) (h : Wr w p .nilIface v bs) (hlen : bs.length ≤ 140737488355328) :
    Calls Tryd.prog 23 #[.pointer (some ⟨p, 0, none⟩)] w fun r w' => ∃ v2, r = .returned (.tuple #[v2, .nilIface]) ∧ w'.ownsRow w.heap.size 5 1 v2 bs.length (u8s bs) ∧ Below w.heap.size w w' := by
  have k0 := h.c0
  have k1 := h.c1
  obtain ⟨a0, m0, c0, rfl⟩ := slice_of_own h.own
  have HC := Lib.hid (clone_any w _ bs (Src.of_own h.own) hlen)
  clear h hlen
  go_enter Tryd.func23, Tryd.ntmps23
  go_wp2_with fail
  refine HC.out.mono ?_
  rintro r w' ⟨v2, rfl, ho, hb⟩
  have HO := Lib.hid ho
  have HB := Lib.hid hb
  clear ho hb
  go_wp2_with fail
  exact bodyPost_ret (v := .tuple #[v2, .nilIface]) (by simp [results, Tryd.f23, go_sem]) rfl ⟨v2, rfl, HO.out, HB.out⟩

set_option maxHeartbeats 1000000 in
set_option maxRecDepth 100000 in
theorem done_err (w : World) (p : Nat) (t : TypeId) (u : Value) (h0 : w.cell? ⟨p, 0, none⟩ = some (.iface t u)) :
    Calls Tryd.prog 23 #[.pointer (some ⟨p, 0, none⟩)] w fun r w' => r = .returned (.tuple #[.slice none 0 0, .iface t u]) ∧ Below w.heap.size w w' := by
  go_enter Tryd.func23, Tryd.ntmps23
  go_wp2_with fail
  go_region
  all_goals go_wp2_with fail
  all_goals exact bodyPost_ret (v := .tuple #[.slice none 0 0, .iface t u]) (by simp [results, Tryd.f23, go_sem]) rfl ⟨rfl, (Below.refl _ _).drew⟩

/-- What Bytes writes: how many, and they; or the error. -/
def WS.bytes (s : WS) (xs : List Int) (most : Int) : WS := if most < xs.length ∨ 65535 < (xs.length : Int) then s.fail 1 else (s.number xs.length 2).fixed xs

theorem Src.len {w : World} {s : Value} {xs : List Int} (h : Src w s xs) : ∃ a c, s = .slice a xs.length c := by
  rcases h with ⟨rfl, rfl⟩ | ⟨ad, c, rfl, _⟩
  · exact ⟨none, 0, rfl⟩
  · exact ⟨some ad, c, rfl⟩
/-- A slice of bytes that lies apart from a writer. -/
def Apart (s : Value) (p : Nat) (v : Value) : Prop := ∀ ad l c, s = .slice (some ad) l c → ad.block ≠ p ∧ some ad.block ≠ v.ownBlock

set_option maxHeartbeats 1000000 in
set_option maxRecDepth 100000 in
theorem bytes_any (A : List Addr) (w : World) (h : Ers A w) (p : Nat) (v sl : Value) (s : WS) (xs : List Int) (most : Int) (hW : Wr w p (errV A s.c) v s.bs) (hs : Src w sl xs) (hap : Apart sl p v) (hlen : s.bs.length + xs.length + 16 ≤ 140737488355328) :
    Calls Tryd.prog 60 #[.pointer (some ⟨p, 0, none⟩), sl, .int .i64 most] w fun r w' => r = .returned (.tuple #[]) ∧ ∃ v', Wr w' p (errV A (s.bytes xs most).c) v' (s.bytes xs most).bs ∧ Upd p w v w' v' := by
  obtain ⟨a, c, rfl⟩ := hs.len
  have hm1 : (xs.length : Int) ≤ 9223372036854775807 := by omega
  unfold WS.bytes
  by_cases hb : most < xs.length ∨ 65535 < (xs.length : Int)
  · rw [if_pos hb]
    obtain ⟨a1, ha1, hg⟩ := h.e0
    have hF : Hid (∀ w2 : World, w2 = w.drew → Calls Tryd.prog 55 #[.pointer (some ⟨p, 0, none⟩), .iface 132 (.pointer (some a1))] w2 fun r w' => r = .returned (.tuple #[]) ∧ Wr w' p (errV A (s.fail 1).c) v (s.fail 1).bs ∧ Upd p w v w' v) := fun w2 e => by
      subst e
      have := fail_any A w.drew p v s 1 (by decide) ⟨hW.blk, hW.own⟩
      rw [errV_at ha1] at this
      exact this.mono fun r w' hr => ⟨hr.1, hr.2.1, hr.2.2.of_drew⟩
    clear h hW hs hap hlen
    rcases (show most < xs.length ∨ (¬ most < xs.length ∧ 65535 < (xs.length : Int)) by omega) with h1 | ⟨h1, h2⟩
    all_goals
      clear hb
      go_enter Tryd.func60, Tryd.ntmps60
      go_wp2_with fail
      go_region_with (first
        | (go_at_call 55; refine (hF.out _ rfl).mono ?_; rintro r w4 ⟨rfl, b4⟩))
      all_goals go_wp2_with fail
      all_goals exact bodyPost_ret (results_none rfl _ _ _) rfl ⟨rfl, v, b4⟩
  · rw [if_neg hb]
    have h1 : ¬ most < xs.length := fun x => hb (.inl x)
    have h2 : ¬ 65535 < (xs.length : Int) := fun x => hb (.inr x)
    have HNum := Lib.hid (number_any A w h p v s hW (by omega) xs.length 2)
    have HS := Lib.hid hs
    have HA := Lib.hid hap
    have HL := Lib.hid hlen
    clear h hW hs hap hlen hb
    go_enter Tryd.func60, Tryd.ntmps60
    go_wp2_with fail
    refine HNum.out.mono ?_
    rintro r w1 ⟨rfl, v1, hW1, hU1⟩
    have HF := Lib.hid (fixed_any A w1 p v1 _ (s.number xs.length 2) xs hW1 (HS.out.upd hU1 HA.out) (by
      have : (s.number xs.length 2).bs.length ≤ s.bs.length + 2 := by
        unfold WS.number WS.fail WS.fixed
        split
        · split <;> simp
        · split
          · simp [be_length]
          · simp
      have := HL.out
      omega))
    have HU := Lib.hid hU1
    clear hW1 hU1
    go_wp2_with fail
    refine HF.out.mono ?_
    rintro r w2 ⟨rfl, v2, hW2, hU2⟩
    have HW2 := Lib.hid hW2
    have HU2 := Lib.hid (HU.out.trans hU2)
    clear hW2 hU2
    go_wp2_with fail
    go_end0
    exact ⟨rfl, v2, HW2.out, HU2.out⟩

end Go.Proofs.YtadonpfpneanhaaDoor
