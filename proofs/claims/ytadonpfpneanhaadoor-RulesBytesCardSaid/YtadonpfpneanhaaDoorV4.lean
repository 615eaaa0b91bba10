/- A state's bytes, by the document. -/
import Derived.Test.YtadonpfpneanhaaDoorV3
namespace Go.Proofs.YtadonpfpneanhaaDoor
open Go.RowKit

/-- The document's bytes' memory: the box, the list of three, the row of one's own. -/
structure Rf (w W : World) (L : Nat) (ob lo : Obj) (v : Value) (bs : List Int) : Prop where
  own : W.ownsRow (w.heap.size + 1) 5 1 v bs.length (u8s bs)
  box : W.heap[w.heap.size]? = some ob
  lst : W.heap[L]? = some lo
  apart : v.ownBlock ≠ some L
  lt : w.heap.size < L
  bel : Below w.heap.size w W
theorem Rf.later {w W W' : World} {L : Nat} {ob lo : Obj} {v : Value} {bs : List Int} (h : Rf w W L ob lo v bs) (hb : Below W.heap.size W W') : Rf w W' L ob lo v bs :=
  ⟨own_keep h.own (fun g hg => hb.block g (h.own.lt g hg).2), (hb.block _ (Array.getElem?_eq_some_iff.1 h.box).1).trans h.box, (hb.block _ (Array.getElem?_eq_some_iff.1 h.lst).1).trans h.lst, h.apart, h.lt, belowT h.bel hb (Nat.le_refl _)⟩
theorem Rf.grow {w W W' : World} {L : Nat} {ob lo : Obj} {v v' : Value} {bs ys : List Int} (h : Rf w W L ob lo v bs) (ho : W'.ownsRow (w.heap.size + 1) 5 1 v' (bs.length + ys.length) (u8s bs ++ u8s ys)) (hg : W.grownBy W' v.ownBlock) (hat : v'.ownBlock = v.ownBlock ∨ v'.ownBlock = some W.heap.size) : Rf w W' L ob lo v' (bs ++ ys) := by
  have hl := (Array.getElem?_eq_some_iff.1 h.lst).1
  refine ⟨by rw [List.length_append, u8s, List.map_append]; exact ho, (hg.block _ (Array.getElem?_eq_some_iff.1 h.box).1 (fun e => ?_)).trans h.box, (hg.block _ hl (fun e => h.apart e.symm)).trans h.lst, ?_, h.lt, h.bel.grown hg h.bel.size (fun g e => by have := (h.own.lt g e).1; omega)⟩
  · have := (h.own.lt _ e.symm).1
    omega
  · rcases hat with h1 | h1
    · rw [h1]; exact h.apart
    · rw [h1]; intro e; have := Option.some.inj e; omega
abbrev list3 (a b c : Int) : Obj := .cells #[.int .i64 a, .int .i64 b, .int .i64 c] 3

set_option maxHeartbeats 2000000 in
set_option maxRecDepth 100000 in
theorem refbytes_any (w : World) (e v l p f : Int) (hr : RightP e v l p f) :
    Calls Tryd.prog 58 #[st5 e v l p f] w fun r w' => ∃ x, r = .returned x ∧ w'.ownsRow (w.heap.size + 1) 5 1 x (sbytes e v l p f).length (u8s (sbytes e v l p f)) ∧ Below w.heap.size w w' := by
  obtain ⟨i0, hi, hz0, hz1, hz2⟩ := info_parts Tryd.info5
  obtain ⟨l1, l2, l3, l4, l5⟩ := sb_len e v l p f
  have HL := Lib.hid (And.intro l1 (And.intro l2 (And.intro l3 l4)))
  have HR := Lib.hid hr
  have hb0 := belowN w (boxT e v l p f)
  have hk0 : (w.alloc (boxT e v l p f)).heap[w.heap.size]? = some (boxT e v l p f) := heap_alloc_new w _
  have hn0 : Calls Tryd.prog 68 #[.int .i64 e, .int .i64 4] (w.alloc (boxT e v l p f)) fun r w' => ∃ x, r = .returned x ∧ w'.ownsRow (w.heap.size + 1) 5 1 x (sb1 e).length (u8s (sb1 e)) ∧ Below (w.alloc (boxT e v l p f)).heap.size (w.alloc (boxT e v l p f)) w' := by
    have := refnum_any (w.alloc (boxT e v l p f)) e 4 hr.1.1 (by have := hr.1.2; omega) (by omega)
    unfold sb1
    simpa using this
  have HN := Lib.hid hn0
  have HB0 := Lib.hid (And.intro hb0 hk0)
  clear hr l1 l2 l3 l4 l5 hb0 hk0 hn0
  have hf8 : IntKind.u8.wrap f = f := by
    have := HR.out.2.2.2.2
    simp [IntKind.wrap, IntKind.signed, IntKind.bits]
    omega
  go_enter Tryd.func58, Tryd.ntmps58
  go_wp2_with fail
  refine HN.out.mono ?_
  rintro r w1 ⟨x1, rfl, ho1, b1⟩
  have hk1 := (b1.block w.heap.size (by simp)).trans HB0.out.2
  have hlt : w.heap.size < w1.heap.size := (Array.getElem?_eq_some_iff.1 hk1).1
  have HF0 : Hid (Rf w (w1.alloc (list3 v l p)) w1.heap.size (boxT e v l p f) (list3 v l p) x1 (sbk e v l p 0)) :=
    ⟨ho1.alloc _, ((belowN w1 _).block _ hlt).trans hk1, heap_alloc_new w1 _, fun e => by have := (ho1.lt _ e).2; omega, hlt, belowT (belowT HB0.out.1 b1 (Nat.le_refl _)) (belowN _ _) (Nat.le_refl _)⟩
  have c1 := cell_of_blk hk1 1
  have c2 := cell_of_blk hk1 2
  have c3 := cell_of_blk hk1 3
  replace c1 : w1.cell? ⟨w.heap.size, 1, none⟩ = some (.int .i64 v) := c1
  replace c2 : w1.cell? ⟨w.heap.size, 2, none⟩ = some (.int .i64 l) := c2
  replace c3 : w1.cell? ⟨w.heap.size, 3, none⟩ = some (.int .i64 p) := c3
  clear hk1 ho1 b1 HN HB0 hlt
  go_wp2_with fail
  clear c1 c2 c3
  generalize w1.alloc (list3 v l p) = w2 at *
  generalize w1.heap.size = L at *
  go_loopw [3, 17] (fun x i wr => ∃ k : Nat, k ≤ 3 ∧ i = .int .i64 k ∧ Rf w wr L (boxT e v l p f) (list3 v l p) x (sbk e v l p k)) (fun _ i _ => 3 - (intOf i).toNat)
  case atStart => exact ⟨0, Nat.zero_le _, rfl, HF0.out⟩
  case round =>
    clear HF0
    obtain ⟨k, hk, rfl, hP⟩ := hrel
    obtain ⟨xa, xl, xc, rfl⟩ := slice_of_own hP.own
    have HP := Lib.hid hP
    clear hP
    rcases (show k = 0 ∨ k = 1 ∨ k = 2 ∨ k = 3 by omega) with rfl | rfl | rfl | rfl
    · have y0 : wr.cell? ⟨L, 0, none⟩ = some (.int .i64 v) := cell_of_blk HP.out.lst 0
      have HN : Hid (Calls Tryd.prog 68 #[.int .i64 v, .int .i64 6] wr fun r w' => ∃ x, r = .returned x ∧ w'.ownsRow wr.heap.size 5 1 x (be v 6).length (u8s (be v 6)) ∧ Below wr.heap.size wr w') := by
        have := refnum_any wr v 6 HR.out.2.1.1 (by have := HR.out.2.1.2; omega) (by omega)
        exact this
      go_wp2_with fail
      refine HN.out.mono ?_
      rintro r w4 ⟨x4, rfl, ho4, b4⟩
      have hP4 := HP.out.later b4
      have hown := hP4.own
      have hl6 : (be v 6).length = 6 := be_length _ _
      have hlen : (sbk e v l p 0).length = 4 := HL.out.1
      have hn1 : (sbk e v l p 0).length + 6 ≤ maxLen := by rw [hlen]; decide
      have hn2 : ((sbk e v l p 0).length + 6) * 1 ≤ 140737488355328 := by rw [hlen]; decide
      have hsz : w.heap.size + 1 ≤ w4.heap.size := by have h1 := (Array.getElem?_eq_some_iff.1 hP4.lst).1; have h2 := hP4.lt; omega
      obtain ⟨ad, c, rfl, hcs⟩ : ∃ ad c, x4 = .slice (some ad) 6 c ∧ ∀ j u, (u8s (be v 6))[j]? = some u → w4.cell? (ad.add j) = some u := by
        rcases Src.of_own ho4 with ⟨_, h⟩ | ⟨ad, c, h, _, _, h3⟩
        · rw [h] at hl6; simp at hl6
        · exact ⟨ad, c, by rw [h, hl6], h3⟩
      have hnw : (u8s (be v 6)).length = 6 * 1 := by simp [hl6]
      have hoc := u8s_oneCell (be v 6)
      have HP4 := Lib.hid hP4
      have HL6 := Lib.hid hl6
      clear b4 ho4 hP4 y0 HN hlen hl6
      go_wp2_with (first
        | (at_builtin; refine wpList_append_own_at _ rfl (.tmp 21) (.tmp 23) 22 rfl (w.heap.size + 1) 5 i0 (.int .u8 0) 1 1 Tryd.underlying22 hi hz0 hz1 hz2 rfl (by decide) _ (sbk e v l p 0).length (u8s (sbk e v l p 0)) rfl hown ad 6 c (u8s (be v 6)) rfl hnw hcs hoc hn1 hn2 hsz ?_; intro v' w5 hown' hgrow _ hat))
      have HX : Hid (Rf w w5 L (boxT e v l p f) (list3 v l p) v' (sbk e v l p 1)) := HP4.out.grow (by rw [HL6.out]; exact hown') hgrow hat
      clear hown' hgrow hat hown hn1 hn2 hsz hcs hnw hoc
      go_roundw
      case rel => exact ⟨1, by omega, rfl, HX.out⟩
      case measure => simp [intOf]
    · have y0 : wr.cell? ⟨L, 1, none⟩ = some (.int .i64 l) := cell_of_blk HP.out.lst 1
      have HN : Hid (Calls Tryd.prog 68 #[.int .i64 l, .int .i64 6] wr fun r w' => ∃ x, r = .returned x ∧ w'.ownsRow wr.heap.size 5 1 x (be l 6).length (u8s (be l 6)) ∧ Below wr.heap.size wr w') := by
        have := refnum_any wr l 6 HR.out.2.2.1.1 (by have := HR.out.2.2.1.2; omega) (by omega)
        exact this
      go_wp2_with fail
      refine HN.out.mono ?_
      rintro r w4 ⟨x4, rfl, ho4, b4⟩
      have hP4 := HP.out.later b4
      have hown := hP4.own
      have hl6 : (be l 6).length = 6 := be_length _ _
      have hlen : (sbk e v l p 1).length = 10 := HL.out.2.1
      have hn1 : (sbk e v l p 1).length + 6 ≤ maxLen := by rw [hlen]; decide
      have hn2 : ((sbk e v l p 1).length + 6) * 1 ≤ 140737488355328 := by rw [hlen]; decide
      have hsz : w.heap.size + 1 ≤ w4.heap.size := by have h1 := (Array.getElem?_eq_some_iff.1 hP4.lst).1; have h2 := hP4.lt; omega
      obtain ⟨ad, c, rfl, hcs⟩ : ∃ ad c, x4 = .slice (some ad) 6 c ∧ ∀ j u, (u8s (be l 6))[j]? = some u → w4.cell? (ad.add j) = some u := by
        rcases Src.of_own ho4 with ⟨_, h⟩ | ⟨ad, c, h, _, _, h3⟩
        · rw [h] at hl6; simp at hl6
        · exact ⟨ad, c, by rw [h, hl6], h3⟩
      have hnw : (u8s (be l 6)).length = 6 * 1 := by simp [hl6]
      have hoc := u8s_oneCell (be l 6)
      have HP4 := Lib.hid hP4
      have HL6 := Lib.hid hl6
      clear b4 ho4 hP4 y0 HN hlen hl6
      go_wp2_with (first
        | (at_builtin; refine wpList_append_own_at _ rfl (.tmp 21) (.tmp 23) 22 rfl (w.heap.size + 1) 5 i0 (.int .u8 0) 1 1 Tryd.underlying22 hi hz0 hz1 hz2 rfl (by decide) _ (sbk e v l p 1).length (u8s (sbk e v l p 1)) rfl hown ad 6 c (u8s (be l 6)) rfl hnw hcs hoc hn1 hn2 hsz ?_; intro v' w5 hown' hgrow _ hat))
      have HX : Hid (Rf w w5 L (boxT e v l p f) (list3 v l p) v' (sbk e v l p 2)) := HP4.out.grow (by rw [HL6.out]; exact hown') hgrow hat
      clear hown' hgrow hat hown hn1 hn2 hsz hcs hnw hoc
      go_roundw
      case rel => exact ⟨2, by omega, rfl, HX.out⟩
      case measure => simp [intOf]
    · have y0 : wr.cell? ⟨L, 2, none⟩ = some (.int .i64 p) := cell_of_blk HP.out.lst 2
      have HN : Hid (Calls Tryd.prog 68 #[.int .i64 p, .int .i64 6] wr fun r w' => ∃ x, r = .returned x ∧ w'.ownsRow wr.heap.size 5 1 x (be p 6).length (u8s (be p 6)) ∧ Below wr.heap.size wr w') := by
        have := refnum_any wr p 6 HR.out.2.2.2.1.1 (by have := HR.out.2.2.2.1.2; omega) (by omega)
        exact this
      go_wp2_with fail
      refine HN.out.mono ?_
      rintro r w4 ⟨x4, rfl, ho4, b4⟩
      have hP4 := HP.out.later b4
      have hown := hP4.own
      have hl6 : (be p 6).length = 6 := be_length _ _
      have hlen : (sbk e v l p 2).length = 16 := HL.out.2.2.1
      have hn1 : (sbk e v l p 2).length + 6 ≤ maxLen := by rw [hlen]; decide
      have hn2 : ((sbk e v l p 2).length + 6) * 1 ≤ 140737488355328 := by rw [hlen]; decide
      have hsz : w.heap.size + 1 ≤ w4.heap.size := by have h1 := (Array.getElem?_eq_some_iff.1 hP4.lst).1; have h2 := hP4.lt; omega
      obtain ⟨ad, c, rfl, hcs⟩ : ∃ ad c, x4 = .slice (some ad) 6 c ∧ ∀ j u, (u8s (be p 6))[j]? = some u → w4.cell? (ad.add j) = some u := by
        rcases Src.of_own ho4 with ⟨_, h⟩ | ⟨ad, c, h, _, _, h3⟩
        · rw [h] at hl6; simp at hl6
        · exact ⟨ad, c, by rw [h, hl6], h3⟩
      have hnw : (u8s (be p 6)).length = 6 * 1 := by simp [hl6]
      have hoc := u8s_oneCell (be p 6)
      have HP4 := Lib.hid hP4
      have HL6 := Lib.hid hl6
      clear b4 ho4 hP4 y0 HN hlen hl6
      go_wp2_with (first
        | (at_builtin; refine wpList_append_own_at _ rfl (.tmp 21) (.tmp 23) 22 rfl (w.heap.size + 1) 5 i0 (.int .u8 0) 1 1 Tryd.underlying22 hi hz0 hz1 hz2 rfl (by decide) _ (sbk e v l p 2).length (u8s (sbk e v l p 2)) rfl hown ad 6 c (u8s (be p 6)) rfl hnw hcs hoc hn1 hn2 hsz ?_; intro v' w5 hown' hgrow _ hat))
      have HX : Hid (Rf w w5 L (boxT e v l p f) (list3 v l p) v' (sbk e v l p 3)) := HP4.out.grow (by rw [HL6.out]; exact hown') hgrow hat
      clear hown' hgrow hat hown hn1 hn2 hsz hcs hnw hoc
      go_roundw
      case rel => exact ⟨3, by omega, rfl, HX.out⟩
      case measure => simp [intOf]
    · have y0 : wr.cell? ⟨w.heap.size, 4, none⟩ = some (.int .i64 f) := cell_of_blk HP.out.box 4
      have hown := HP.out.own.alloc (.cells #[.int .u8 f] 5)
      have hP4 := HP.out.later (belowN wr (.cells #[.int .u8 f] 5))
      have hlen : (sbk e v l p 3).length = 22 := HL.out.2.2.2
      have hn1 : (sbk e v l p 3).length + 1 ≤ maxLen := by rw [hlen]; decide
      have hn2 : ((sbk e v l p 3).length + 1) * 1 ≤ 140737488355328 := by rw [hlen]; decide
      have hsz : w.heap.size + 1 ≤ (wr.alloc (.cells #[.int .u8 f] 5)).heap.size := by have h1 := (Array.getElem?_eq_some_iff.1 hP4.lst).1; have h2 := hP4.lt; omega
      have HP4 := Lib.hid hP4
      clear hP4 hlen
      go_wp2_with (first
        | (at_builtin; refine wpList_append_own_at _ rfl (.tmp 26) (.tmp 30) 22 rfl (w.heap.size + 1) 5 i0 (.int .u8 0) 1 1 Tryd.underlying22 hi hz0 hz1 hz2 rfl (by decide) _ (sbk e v l p 3).length (u8s (sbk e v l p 3)) rfl hown ⟨wr.heap.size, 0, none⟩ 1 1 [.int .u8 f] rfl rfl (cell_one_new _ _ _) (by simp [Value.oneCell']) hn1 hn2 hsz ?_; intro v' w5 hown' hgrow _ hat))
      have HX : Hid (Rf w w5 L (boxT e v l p f) (list3 v l p) v' (sbytes e v l p f)) := by
        have := HP4.out.grow (ys := [f]) hown' hgrow hat
        rw [show sbytes e v l p f = sbk e v l p 3 ++ [f] by unfold sbytes; rw [be_one HR.out.2.2.2.2.1 (by have := HR.out.2.2.2.2.2; omega)]; rfl]
        exact this
      clear hown' hgrow hat hown hn1 hn2 hsz y0
      go_ret
      exact ⟨_, rfl, HX.out.own, HX.out.bel⟩

end Go.Proofs.YtadonpfpneanhaaDoor

