/- The writer's numbers. -/
import Derived.Test.YtadonpfpneanhaaDoorW2
namespace Go.Proofs.YtadonpfpneanhaaDoor
open Go.RowKit

/-- The two errors that a writer and a reader note: ErrRange, ErrShort. -/
structure Ers (A : List Addr) (w : World) : Prop where
  e0 : ∃ a, A[0]? = some a ∧ w.cell? ⟨2, 0, none⟩ = some (.iface 132 (.pointer (some a)))
  e1 : ∃ a, A[1]? = some a ∧ w.cell? ⟨3, 0, none⟩ = some (.iface 132 (.pointer (some a)))
theorem Ers.later {A : List Addr} {w w' : World} (h : Ers A w) (hb : Below w.heap.size w w') : Ers A w' := by
  obtain ⟨⟨a, h1, h2⟩, ⟨b, h3, h4⟩⟩ := h
  exact ⟨⟨a, h1, (hb.cell (World.block_lt_of_cell? w _ h2)).trans h2⟩, ⟨b, h3, (hb.cell (World.block_lt_of_cell? w _ h4)).trans h4⟩⟩
theorem Sents.ers {A : List Addr} {w : World} (h : Sents G18 132 A w) : Ers A w := by
  obtain ⟨a, ha⟩ := sent_at h 0 (by omega)
  obtain ⟨b, hb⟩ := sent_at h 1 (by omega)
  exact ⟨⟨a, ha, h.cell 0 _ _ rfl ha⟩, ⟨b, hb, h.cell 1 _ _ rfl hb⟩⟩

/-- A writer's error and bytes. -/
structure WS where
  (c : Nat) (bs : List Int)
def WS.fail (s : WS) (k : Nat) : WS := if s.c = 0 then ⟨k, s.bs⟩ else s
def WS.fixed (s : WS) (xs : List Int) : WS := if s.c = 0 then ⟨0, s.bs ++ xs⟩ else s
def BadN (n width : Int) : Prop := width < 1 ∨ 8 < width ∨ n < 0 ∨ (width < 8 ∧ 256 ^ width.toNat ≤ n)
instance (n width : Int) : Decidable (BadN n width) := by unfold BadN; infer_instance
/-- Byte number k of a number, from the left. -/
def beF (n width : Int) (k : Nat) : Int := n / 2 ^ (8 * (width - 1 - k)).toNat % 256
def be (n width : Int) : List Int := (List.range width.toNat).map (beF n width)
theorem be_length (n width : Int) : (be n width).length = width.toNat := by simp [be]
def WS.number (s : WS) (n width : Int) : WS := if BadN n width then s.fail 1 else s.fixed (be n width)

theorem shl_width {width : Int} (h1 : 1 ≤ width) (h8 : width < 8) : wrap64 (2 ^ (8 * width).toNat) = 256 ^ width.toNat := by
  have : width = 1 ∨ width = 2 ∨ width = 3 ∨ width = 4 ∨ width = 5 ∨ width = 6 ∨ width = 7 := by omega
  rcases this with rfl | rfl | rfl | rfl | rfl | rfl | rfl <;> simp [wrap64]

theorem Upd.of_drew {p : Nat} {w w' : World} {v v' : Value} (h : Upd p w.drew v w' v') : Upd p w v w' v' := ⟨h.os, h.tape, h.output, h.size, h.same, h.own⟩

theorem errV_pos (A : List Addr) {c : Nat} (h : c ≠ 0) : ∃ u, errV A c = .iface 132 u := ⟨_, if_neg h⟩

theorem fail_any (A : List Addr) (w : World) (p : Nat) (v : Value) (s : WS) (k : Nat) (hk : k ≠ 0) (h : Wr w p (errV A s.c) v s.bs) :
    Calls Tryd.prog 55 #[.pointer (some ⟨p, 0, none⟩), errV A k] w fun r w' => r = .returned (.tuple #[]) ∧ Wr w' p (errV A (s.fail k).c) v (s.fail k).bs ∧ Upd p w v w' v := by
  obtain ⟨c, bs⟩ := s
  obtain ⟨u, hu⟩ := errV_pos A hk
  unfold WS.fail
  by_cases hc : c = 0
  · subst hc
    rw [if_pos rfl, hu]
    refine (fail_nil w p 132 u h.c0 h.f0).mono ?_
    rintro r w' ⟨rfl, rfl⟩
    exact ⟨rfl, h.fail _⟩
  · rw [if_neg hc]
    obtain ⟨u2, hu2⟩ := errV_pos A hc
    have h0 := h.c0
    rw [hu2] at h0
    refine (fail_has w p _ h0).mono ?_
    rintro r w' ⟨rfl, rfl⟩
    exact ⟨rfl, h, Upd.refl _ _ _⟩

theorem fixed_any (A : List Addr) (w : World) (p : Nat) (v s : Value) (S : WS) (xs : List Int) (h : Wr w p (errV A S.c) v S.bs) (hs : Src w s xs) (hlen : S.bs.length + xs.length ≤ 140737488355328) :
    Calls Tryd.prog 63 #[.pointer (some ⟨p, 0, none⟩), s] w fun r w' => r = .returned (.tuple #[]) ∧ ∃ v', Wr w' p (errV A (S.fixed xs).c) v' (S.fixed xs).bs ∧ Upd p w v w' v' := by
  obtain ⟨c, bs⟩ := S
  unfold WS.fixed
  by_cases hc : c = 0
  · subst hc
    rw [if_pos rfl]
    exact fixed_nil w p v s bs xs h hs hlen
  · rw [if_neg hc]
    obtain ⟨u2, hu2⟩ := errV_pos A hc
    have h0 := h.c0
    rw [hu2] at h0
    refine (fixed_has w p _ h0).mono ?_
    rintro r w' ⟨rfl, rfl⟩
    exact ⟨rfl, v, h, Upd.refl _ _ _⟩

set_option maxHeartbeats 1000000 in
set_option maxRecDepth 100000 in
theorem number_bad (A : List Addr) (w : World) (h : Ers A w) (p : Nat) (v : Value) (s : WS) (hW : Wr w p (errV A s.c) v s.bs) (n width : Int) (hb : BadN n width) :
    Calls Tryd.prog 22 #[.pointer (some ⟨p, 0, none⟩), .int .i64 n, .int .i64 width] w fun r w' => r = .returned (.tuple #[]) ∧ Wr w' p (errV A (s.fail 1).c) v (s.fail 1).bs ∧ Upd p w v w' v := by
  obtain ⟨a1, ha1, hg⟩ := h.e0
  have hF : Hid (∀ w2 : World, w2 = w.drew → Calls Tryd.prog 55 #[.pointer (some ⟨p, 0, none⟩), .iface 132 (.pointer (some a1))] w2 fun r w' => r = .returned (.tuple #[]) ∧ Wr w' p (errV A (s.fail 1).c) v (s.fail 1).bs ∧ Upd p w v w' v) := fun w2 e => by
    subst e
    have := fail_any A w.drew p v s 1 (by decide) ⟨hW.blk, hW.own⟩
    rw [errV_at ha1] at this
    exact this.mono fun r w' hr => ⟨hr.1, hr.2.1, hr.2.2.of_drew⟩
  clear h hW
  by_cases h1 : width < 1
  · clear hb
    go_enter Tryd.func22, Tryd.ntmps22
    go_wp2_with fail
    go_region_with (first
      | (go_at_call 55; refine (hF.out _ rfl).mono ?_; rintro r w4 ⟨rfl, b4⟩))
    all_goals go_wp2_with fail
    all_goals exact bodyPost_ret (results_none rfl _ _ _) rfl ⟨rfl, b4⟩
  have h1' : ¬ width < 1 := h1
  by_cases h8 : 8 < width
  · clear hb
    go_enter Tryd.func22, Tryd.ntmps22
    go_wp2_with fail
    go_region_with (first
      | (go_at_call 55; refine (hF.out _ rfl).mono ?_; rintro r w4 ⟨rfl, b4⟩))
    all_goals go_wp2_with fail
    all_goals exact bodyPost_ret (results_none rfl _ _ _) rfl ⟨rfl, b4⟩
  by_cases hn : n < 0
  · clear hb
    go_enter Tryd.func22, Tryd.ntmps22
    go_wp2_with fail
    go_region_with (first
      | (go_at_call 55; refine (hF.out _ rfl).mono ?_; rintro r w4 ⟨rfl, b4⟩))
    all_goals go_wp2_with fail
    all_goals exact bodyPost_ret (results_none rfl _ _ _) rfl ⟨rfl, b4⟩
  have hb2 : width < 8 ∧ 256 ^ width.toNat ≤ n := by
    rcases hb with h | h | h | h
    · exact absurd h h1
    · exact absurd h h8
    · exact absurd h hn
    · exact h
  obtain ⟨hx, hb3⟩ := hb2
  have hs := shl_width (by omega) hx
  · rw [← hs] at hb3
    clear hb hs
    go_enter Tryd.func22, Tryd.ntmps22
    go_wp2_with fail
    go_region_with (first
      | (go_at_call 55; refine (hF.out _ rfl).mono ?_; rintro r w4 ⟨rfl, b4⟩))
    all_goals go_wp2_with fail
    all_goals exact bodyPost_ret (results_none rfl _ _ _) rfl ⟨rfl, b4⟩

set_option maxHeartbeats 1000000 in
set_option maxRecDepth 100000 in
theorem number_good (A : List Addr) (w : World) (p : Nat) (v : Value) (s : WS) (hW : Wr w p (errV A s.c) v s.bs) (hlen : s.bs.length + 8 ≤ 140737488355328) (n width : Int) (hw1 : 1 ≤ width) (hw8 : width ≤ 8) (hn : 0 ≤ n) (hn2 : width < 8 → n < 256 ^ width.toNat) :
    Calls Tryd.prog 22 #[.pointer (some ⟨p, 0, none⟩), .int .i64 n, .int .i64 width] w fun r w' => r = .returned (.tuple #[]) ∧ ∃ v', Wr w' p (errV A (s.fixed (be n width)).c) v' (s.fixed (be n width)).bs ∧ Upd p w v w' v' := by
  obtain ⟨i0, hi, hz0, hz1, hz2⟩ := info_parts Tryd.info5
  have HW := Lib.hid hW
  have HN := Lib.hid hlen
  clear hW hlen
  by_cases hx : width < 8
  · have hs := shl_width hw1 hx
    have hn3 := hn2 hx
    generalize h256 : (256 : Int) ^ width.toNat = M at *
    have H256 := Lib.hid h256
    clear hn2 h256
    go_enter Tryd.func22, Tryd.ntmps22
    go_wp2_with fail
    go_loopw [6, 7] (fun bv i wr => ∃ j : Nat, (j : Int) ≤ width ∧ i = .int .i64 (width - 1 - j) ∧ wr.ownsRow w.heap.size 5 1 bv j ((List.range j).map fun k => .int .u8 (beF n width k)) ∧ Below w.heap.size w wr) (fun _ i _ => (intOf i + 1).toNat)
    case atStart => exact ⟨0, by omega, by simp, World.ownsRow_nil _ _ _ _, Below.refl _ _⟩
    case round =>
      obtain ⟨j, hj, rfl, hown, hbel⟩ := hrel
      obtain ⟨a0, m0, c0, rfl⟩ := slice_of_own hown
      by_cases hlt : (j : Int) < width
      · have hc3 : j + 1 ≤ maxLen := by unfold maxLen; omega
        have hc5 : w.heap.size ≤ (wr.alloc (.cells #[.int .u8 (beF n width j)] 5)).heap.size := by have := hbel.size; simp; omega
        go_wp2_with (first
          | (at_builtin; refine wpList_append_own _ rfl (.tmp 40) (.tmp 46) 22 rfl w.heap.size 5 i0 (.int .u8 0) 1 1 Tryd.underlying22 hi hz0 hz1 hz2 rfl (by decide) _ j _ rfl (hown.alloc _) ⟨wr.heap.size, 0, none⟩ 1 1 [.int .u8 (beF n width j)] rfl rfl (cell_one_new _ _ _) (by simp [Value.oneCell']) hc3 (by omega) hc5 ?_; intro v' w1 hown' hgrow _))
        go_roundw
        case rel => exact ⟨j + 1, by omega, by congr 1; omega, by rw [List.range_succ, List.map_append]; exact hown', (hbel.alloc (by have := hbel.size; omega) _).grown hgrow hc5 (fun k e => (hown.lt k e).1)⟩
        case measure => simp [intOf]; omega
      · have hje : width.toNat = j := by omega
        have hown2 : wr.ownsRow w.heap.size 5 1 (.slice a0 m0 c0) (be n width).length (u8s (be n width)) := by
          rw [be_length, u8s, be, List.map_map, hje]
          exact hown
        have HF := Lib.hid (fixed_any A wr p v (.slice a0 m0 c0) s (be n width) (HW.out.later hbel) (Src.of_own hown2) (by have := HN.out; rw [be_length]; omega))
        go_wp2_with fail
        refine HF.out.mono ?_
        rintro r w' ⟨rfl, v', hWr, hU⟩
        have HU := Lib.hid ((Upd.of_below (p := p) (v := v) hbel).trans hU)
        clear hU
        go_wp2_with fail
        go_end0
        exact ⟨rfl, v', hWr, HU.out⟩
  · have hx8 : 8 ≤ width := by omega
    clear hn2 hx
    go_enter Tryd.func22, Tryd.ntmps22
    go_wp2_with fail
    go_loopw [6, 7] (fun bv i wr => ∃ j : Nat, (j : Int) ≤ width ∧ i = .int .i64 (width - 1 - j) ∧ wr.ownsRow w.heap.size 5 1 bv j ((List.range j).map fun k => .int .u8 (beF n width k)) ∧ Below w.heap.size w wr) (fun _ i _ => (intOf i + 1).toNat)
    case atStart => exact ⟨0, by omega, by simp, World.ownsRow_nil _ _ _ _, Below.refl _ _⟩
    case round =>
      obtain ⟨j, hj, rfl, hown, hbel⟩ := hrel
      obtain ⟨a0, m0, c0, rfl⟩ := slice_of_own hown
      by_cases hlt : (j : Int) < width
      · have hc3 : j + 1 ≤ maxLen := by unfold maxLen; omega
        have hc5 : w.heap.size ≤ (wr.alloc (.cells #[.int .u8 (beF n width j)] 5)).heap.size := by have := hbel.size; simp; omega
        go_wp2_with (first
          | (at_builtin; refine wpList_append_own _ rfl (.tmp 40) (.tmp 46) 22 rfl w.heap.size 5 i0 (.int .u8 0) 1 1 Tryd.underlying22 hi hz0 hz1 hz2 rfl (by decide) _ j _ rfl (hown.alloc _) ⟨wr.heap.size, 0, none⟩ 1 1 [.int .u8 (beF n width j)] rfl rfl (cell_one_new _ _ _) (by simp [Value.oneCell']) hc3 (by omega) hc5 ?_; intro v' w1 hown' hgrow _))
        go_roundw
        case rel => exact ⟨j + 1, by omega, by congr 1; omega, by rw [List.range_succ, List.map_append]; exact hown', (hbel.alloc (by have := hbel.size; omega) _).grown hgrow hc5 (fun k e => (hown.lt k e).1)⟩
        case measure => simp [intOf]; omega
      · have hje : width.toNat = j := by omega
        have hown2 : wr.ownsRow w.heap.size 5 1 (.slice a0 m0 c0) (be n width).length (u8s (be n width)) := by
          rw [be_length, u8s, be, List.map_map, hje]
          exact hown
        have HF := Lib.hid (fixed_any A wr p v (.slice a0 m0 c0) s (be n width) (HW.out.later hbel) (Src.of_own hown2) (by have := HN.out; rw [be_length]; omega))
        go_wp2_with fail
        refine HF.out.mono ?_
        rintro r w' ⟨rfl, v', hWr, hU⟩
        have HU := Lib.hid ((Upd.of_below (p := p) (v := v) hbel).trans hU)
        clear hU
        go_wp2_with fail
        go_end0
        exact ⟨rfl, v', hWr, HU.out⟩

/-- A number is written, or the error is noted. -/
theorem number_any (A : List Addr) (w : World) (h : Ers A w) (p : Nat) (v : Value) (s : WS) (hW : Wr w p (errV A s.c) v s.bs) (hlen : s.bs.length + 8 ≤ 140737488355328) (n width : Int) :
    Calls Tryd.prog 22 #[.pointer (some ⟨p, 0, none⟩), .int .i64 n, .int .i64 width] w fun r w' => r = .returned (.tuple #[]) ∧ ∃ v', Wr w' p (errV A (s.number n width).c) v' (s.number n width).bs ∧ Upd p w v w' v' := by
  unfold WS.number
  by_cases hb : BadN n width
  · rw [if_pos hb]
    exact (number_bad A w h p v s hW n width hb).mono fun r w' hr => ⟨hr.1, v, hr.2⟩
  · rw [if_neg hb]
    unfold BadN at hb
    exact number_good A w p v s hW hlen n width (by omega) (by omega) (by omega) (fun hx => by omega)

end Go.Proofs.YtadonpfpneanhaaDoor
