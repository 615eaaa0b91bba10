/- What an op writes. -/
import Derived.Test.YtadonpfpneanhaaDoorO3
namespace Go.Proofs.YtadonpfpneanhaaDoor
open Go.RowKit

/-- The error of what is old. -/
def Old (A : List Addr) (w : World) : Prop := ∃ a, A[9]? = some a ∧ w.cell? ⟨0, 0, none⟩ = some (.iface 132 (.pointer (some a)))
theorem Old.later {A : List Addr} {w w' : World} (h : Old A w) (hb : Below w.heap.size w w') : Old A w' := by
  obtain ⟨a, h1, h2⟩ := h
  exact ⟨a, h1, (hb.cell (World.block_lt_of_cell? w _ h2)).trans h2⟩
theorem Sents.old {A : List Addr} {w : World} (h : Sents G18 132 A w) : Old A w := by
  obtain ⟨a, ha⟩ := sent_at h 9 (by omega)
  exact ⟨a, ha, h.cell 9 _ _ rfl ha⟩
theorem Pen.later {A : List Addr} {w w' : World} {p : Nat} {v sl : Value} {s : WS} {xs : List Int} (h : Pen A w p v sl s xs) (hb : Below w.heap.size w w') : Pen A w' p v sl s xs :=
  ⟨h.ers.later hb, h.wr.later hb, h.src.below hb, h.away, h.far⟩
theorem WS.put_nil (s : WS) : s.put 0 [] = s := by
  unfold WS.put
  by_cases h : s.c = 0
  · cases s; simp at h; simp [h]
  · simp [h]
abbrev opV (k n width most : Int) (sl : Value) : Value := .agg #[.int .i64 k, .int .i64 n, .int .i64 width, .int .i64 most, sl]
abbrev opB (k n width most : Int) (sl : Value) : Obj := .cells #[.int .i64 k, .int .i64 n, .int .i64 width, .int .i64 most, sl] 55

set_option maxHeartbeats 1000000 in
set_option maxRecDepth 100000 in
theorem write_any (A : List Addr) (w : World) (p : Nat) (v sl : Value) (s : WS) (k n width most : Int) (xs : List Int) (hP : Pen A w p v sl s xs) (hO : Old A w) (h8 : ∀ x ∈ xs, 0 ≤ x ∧ x < 256) (hlen : s.bs.length + xs.length + 16 ≤ 140737488355328) :
    Calls Tryd.prog 30 #[.pointer (some ⟨p, 0, none⟩), opV k n width most sl] w fun r w' => r = .returned (.tuple #[]) ∧ ∃ v', Wr w' p (errV A (s.op ⟨k, n, width, most, sl, xs⟩).c) v' (s.op ⟨k, n, width, most, sl, xs⟩).bs ∧ Upd p w v w' v' := by
  have hb := belowN w (opB k n width most sl)
  have hP1 := hP.later hb
  have HU := Lib.hid (Upd.of_below (p := p) (v := v) hb)
  have HP := Lib.hid hP1
  have HL := Lib.hid hlen
  have H8 := Lib.hid h8
  have HO := Lib.hid (hO.later hb)
  clear hP hO h8 hb hP1
  by_cases h1 : k = 1
  · subst h1
    obtain ⟨c, hc⟩ : ∃ c : Nat, (if BadN n width then 1 else 0) = c := ⟨_, rfl⟩
    have HN := Lib.hid (num_put A _ HP.out.ers p v s HP.out.wr (by omega) n width hc rfl)
    rw [show s.op ⟨1, n, width, most, sl, xs⟩ = s.put c (be n width) by simp [WS.op, Op5.code, Op5.out, ← hc]]
    clear hlen hc
    go_enter Tryd.func30, Tryd.ntmps30
    go_wp2_with fail
    refine HN.out.mono ?_
    rintro r w1 ⟨rfl, v1, hW1, hU1⟩
    have HK := Lib.hid (And.intro hW1 (HU.out.trans hU1))
    clear hW1 hU1
    go_wp2_with fail
    go_end0
    exact ⟨rfl, v1, HK.out⟩
  by_cases h2 : k = 2
  · subst h2
    have HN := Lib.hid (flag_any A _ HP.out.ers p v s HP.out.wr (by omega) n)
    rw [show s.op ⟨2, n, width, most, sl, xs⟩ = s.put 0 [n % 2] by simp [WS.op, Op5.code, Op5.out]]
    clear hlen
    go_enter Tryd.func30, Tryd.ntmps30
    go_wp2_with fail
    rw [and_one]
    refine HN.out.mono ?_
    rintro r w1 ⟨rfl, v1, hW1, hU1⟩
    have HK := Lib.hid (And.intro hW1 (HU.out.trans hU1))
    clear hW1 hU1
    go_wp2_with fail
    go_end0
    exact ⟨rfl, v1, HK.out⟩
  by_cases h3 : k = 3
  · subst h3
    have hn := fixed_any A _ p v sl s xs HP.out.wr HP.out.src (by omega)
    rw [WS.fixed_put] at hn
    have HN := Lib.hid hn
    rw [show s.op ⟨3, n, width, most, sl, xs⟩ = s.put 0 xs by simp [WS.op, Op5.code, Op5.out]]
    clear hlen hn
    go_enter Tryd.func30, Tryd.ntmps30
    go_wp2_with fail
    refine HN.out.mono ?_
    rintro r w1 ⟨rfl, v1, hW1, hU1⟩
    have HK := Lib.hid (And.intro hW1 (HU.out.trans hU1))
    clear hW1 hU1
    go_wp2_with fail
    go_end0
    exact ⟨rfl, v1, HK.out⟩
  by_cases h4 : k = 4
  · subst h4
    obtain ⟨c, hc⟩ : ∃ c : Nat, (if most < xs.length ∨ 65535 < (xs.length : Int) then 1 else 0) = c := ⟨_, rfl⟩
    have HN := Lib.hid (bytes_put A _ HP.out.ers p v sl s xs most HP.out.wr HP.out.src HP.out.away (by omega) hc)
    rw [show s.op ⟨4, n, width, most, sl, xs⟩ = s.put c (be xs.length 2 ++ xs) by simp [WS.op, Op5.code, Op5.out, ← hc]]
    clear hlen hc
    go_enter Tryd.func30, Tryd.ntmps30
    go_wp2_with fail
    refine HN.out.mono ?_
    rintro r w1 ⟨rfl, v1, hW1, hU1⟩
    have HK := Lib.hid (And.intro hW1 (HU.out.trans hU1))
    clear hW1 hU1
    go_wp2_with fail
    go_end0
    exact ⟨rfl, v1, HK.out⟩
  by_cases h5 : k = 5
  · subst h5
    obtain ⟨c, hc⟩ : ∃ c : Nat, (if most < xs.length ∨ 255 < (xs.length : Int) then 1 else 0) = c := ⟨_, rfl⟩
    have HN := Lib.hid (put_bytes 66 (.inl rfl) A _ p v sl s xs most HP.out H8.out (by omega) hc)
    rw [show s.op ⟨5, n, width, most, sl, xs⟩ = s.put c ((xs.length : Int) :: xs) by simp [WS.op, Op5.code, Op5.out, ← hc]]
    clear hlen hc
    go_enter Tryd.func30, Tryd.ntmps30
    go_wp2_with fail
    refine HN.out.mono ?_
    rintro r w1 ⟨rfl, v1, hW1, hU1⟩
    have HK := Lib.hid (And.intro hW1 (HU.out.trans hU1))
    clear hW1 hU1
    go_wp2_with fail
    go_end0
    exact ⟨rfl, v1, HK.out⟩
  by_cases h6 : k = 6
  · subst h6
    obtain ⟨a1, ha1, hg⟩ := HO.out
    have hF : Hid (∀ w2 : World, w2 = (w.alloc (opB 6 n width most sl)).drew → Calls Tryd.prog 55 #[.pointer (some ⟨p, 0, none⟩), .iface 132 (.pointer (some a1))] w2 fun r w' => r = .returned (.tuple #[]) ∧ Wr w' p (errV A (s.fail 10).c) v (s.fail 10).bs ∧ Upd p w v w' v) := fun w2 e => by
      subst e
      have := fail_any A (w.alloc (opB 6 n width most sl)).drew p v s 10 (by decide) ⟨HP.out.wr.blk, HP.out.wr.own⟩
      rw [errV_at ha1] at this
      exact this.mono fun r w' hr => ⟨hr.1, hr.2.1, HU.out.trans hr.2.2.of_drew⟩
    rw [show s.op ⟨6, n, width, most, sl, xs⟩ = s.fail 10 by rw [s.fail_put (by decide) []]; simp [WS.op, Op5.code, Op5.out]]
    clear hlen HP
    go_enter Tryd.func30, Tryd.ntmps30
    go_wp2_with fail
    go_region_with (first
      | (go_at_call 55; refine (hF.out _ rfl).mono ?_; rintro r w4 ⟨rfl, b4⟩))
    all_goals go_wp2_with fail
    all_goals go_end0
    all_goals exact ⟨rfl, v, b4⟩
  · rw [show s.op ⟨k, n, width, most, sl, xs⟩ = s by simp [WS.op, Op5.code, Op5.out, h1, h2, h3, h4, h5, h6, WS.put_nil]]
    clear hlen
    go_enter Tryd.func30, Tryd.ntmps30
    go_wp2_with fail
    go_end0
    exact ⟨rfl, v, HP.out.wr, HU.out⟩

end Go.Proofs.YtadonpfpneanhaaDoor
