/- Bytes' state: what the program reads. -/
import Derived.Test.YtadonpfpneanhaaDoorV1
import Derived.Test.YtadonpfpneanhaaDoorM9
import Derived.Test.YtadonpfpneanhaaDoorN1
namespace Go.Proofs.YtadonpfpneanhaaDoor
open Go.RowKit

def wd (k : Nat) : Int := if k = 0 then 4 else if k < 4 then 6 else 1
/-- The reader behind so many numbers of a state; the numbers. -/
def rdS (xs : List Int) : Nat → RS
  | 0 => ⟨0, xs⟩
  | k + 1 => (rdS xs k).number (wd k)
def rdV (xs : List Int) (k : Nat) : Int := (rdS xs k).numV (wd k)
def rdRight (xs : List Int) : Prop := RightP (rdV xs 0) (rdV xs 1) (rdV xs 2) (rdV xs 3) (rdV xs 4)
instance (xs : List Int) : Decidable (rdRight xs) := by unfold rdRight; infer_instance
def rdCode (xs : List Int) : Nat := if (rdS xs 5).fin = 0 then (if rdRight xs then 0 else 4) else (rdS xs 5).fin
def rdSt (xs : List Int) : Value := if (rdS xs 5).fin = 0 ∧ rdRight xs then st5 (rdV xs 0) (rdV xs 1) (rdV xs 2) (rdV xs 3) (rdV xs 4) else st5 0 0 0 0 0

/-- The reading's memory: the result's block, the reader, the state's block. -/
structure Rb (A : List Addr) (w W : World) (q S : Nat) (sl : Value) (s : RS) (ob : Obj) : Prop where
  eye : Eye A W q sl s
  res : W.heap[w.heap.size]? = some (boxS 0 0 0 0 0)
  box : W.heap[S]? = some ob
  rq : w.heap.size < q
  qs : q < S
  bel : Below w.heap.size w W

section
variable {A : List Addr} {w W : World} {q S : Nat} {sl : Value} {s : RS} {ob : Obj}
theorem Rb.num (h : Rb A w W q S sl s ob) (width : Int) : Calls Tryd.prog 20 #[.pointer (some ⟨q, 0, none⟩), .int .i64 width] W fun r W' => r = .returned (.int .i64 (s.numV width)) ∧ ∃ sl', Rb A w W' q S sl' (s.number width) ob :=
  (rnum_eye A W q sl s h.eye width).mono fun _ W' ⟨e1, sl', e2, e3⟩ => by
    have h1 := h.rq
    have h2 := h.qs
    have hr := (Array.getElem?_eq_some_iff.1 h.res).1
    have hs := (Array.getElem?_eq_some_iff.1 h.box).1
    exact ⟨e1, sl', e2, (e3.same _ hr (by omega) (noV_own _)).trans h.res, (e3.same _ hs (by omega) (noV_own _)).trans h.box, h1, h2, h.bel.trans (e3.below (B := w.heap.size) (Nat.le_of_lt h1) h.bel.size (fun g hg => by simp [Value.ownBlock] at hg)).1⟩
theorem Rb.set {cs : Array Value} {ty : TypeId} {fz : Nat × Nat} (h : Rb A w W q S sl s (.cells cs ty fz)) (j : Nat) (u : Value) : Rb A w (W.setCell ⟨S, j, none⟩ u) q S sl s (.cells (cs.setIfInBounds j u) ty fz) := by
  have h1 := h.rq
  have h2 := h.qs
  have hb : Below S W (W.setCell ⟨S, j, none⟩ u) := (Below.refl _ _).setCell (p := ⟨S, j, none⟩) (Nat.le_refl _) _
  exact ⟨h.eye.low hb h2, (hb.block _ (by omega)).trans h.res, heap_setCell_block h.box u, h1, h2, h.bel.setCell (p := ⟨S, j, none⟩) (by show w.heap.size ≤ S; omega) _⟩
theorem Rb.cell {cs : Array Value} {ty : TypeId} {fz : Nat × Nat} (h : Rb A w W q S sl s (.cells cs ty fz)) (j : Nat) : W.cell? ⟨S, j, none⟩ = cs[j]? := cell_of_blk h.box j
theorem Rb.frz {cs : Array Value} {ty : TypeId} (h : Rb A w W q S sl s (.cells cs ty (0, 0))) (j : Nat) : W.frozen? ⟨S, j, none⟩ = false := by simp [World.frozen?, h.box]
theorem Rb.later {W' : World} (h : Rb A w W q S sl s ob) (hb : Below W.heap.size W W') : Rb A w W' q S sl s ob :=
  ⟨h.eye.later hb, (hb.block _ (Array.getElem?_eq_some_iff.1 h.res).1).trans h.res, (hb.block _ (Array.getElem?_eq_some_iff.1 h.box).1).trans h.box, h.rq, h.qs, belowT h.bel hb (Nat.le_refl _)⟩
end
theorem Rb.facts {A : List Addr} {w W : World} {q S : Nat} {sl : Value} {s : RS} {ob : Obj} (h : Rb A w W q S sl s ob) :
    W.cell? ⟨w.heap.size, 0, none⟩ = some (.int .i64 0) ∧ W.cell? ⟨w.heap.size, 1, none⟩ = some (.int .i64 0) ∧ W.cell? ⟨w.heap.size, 2, none⟩ = some (.int .i64 0) ∧ W.cell? ⟨w.heap.size, 3, none⟩ = some (.int .i64 0) ∧ W.cell? ⟨w.heap.size, 4, none⟩ = some (.int .i64 0) ∧ ∀ j, W.frozen? ⟨w.heap.size, j, none⟩ = false :=
  ⟨cell_of_blk h.res 0, cell_of_blk h.res 1, cell_of_blk h.res 2, cell_of_blk h.res 3, cell_of_blk h.res 4, fun j => by simp [World.frozen?, h.res]⟩
theorem Rb.parts {A : List Addr} {w W : World} {q S : Nat} {sl : Value} {s : RS} {a b c d e : Int} (h : Rb A w W q S sl s (boxS a b c d e)) :
    W.cell? ⟨S, 0, none⟩ = some (.int .i64 a) ∧ W.cell? ⟨S, 1, none⟩ = some (.int .i64 b) ∧ W.cell? ⟨S, 2, none⟩ = some (.int .i64 c) ∧ W.cell? ⟨S, 3, none⟩ = some (.int .i64 d) ∧ W.cell? ⟨S, 4, none⟩ = some (.int .i64 e) :=
  ⟨cell_of_blk h.box 0, cell_of_blk h.box 1, cell_of_blk h.box 2, cell_of_blk h.box 3, cell_of_blk h.box 4⟩
theorem Rb.stored {A : List Addr} {w W : World} {q S : Nat} {sl : Value} {s : RS} {ob : Obj} (h : Rb A w W q S sl s ob) :
    ∀ u0 u1 u2 u3 u4, Below w.heap.size w (((((W.setCell ⟨w.heap.size, 0, none⟩ u0).setCell ⟨w.heap.size, 1, none⟩ u1).setCell ⟨w.heap.size, 2, none⟩ u2).setCell ⟨w.heap.size, 3, none⟩ u3).setCell ⟨w.heap.size, 4, none⟩ u4) :=
  fun _ _ _ _ _ => ((((h.bel.setCell (p := ⟨w.heap.size, 0, none⟩) (Nat.le_refl _) _).setCell (p := ⟨w.heap.size, 1, none⟩) (Nat.le_refl _) _).setCell (p := ⟨w.heap.size, 2, none⟩) (Nat.le_refl _) _).setCell (p := ⟨w.heap.size, 3, none⟩) (Nat.le_refl _) _).setCell (p := ⟨w.heap.size, 4, none⟩) (Nat.le_refl _) _
theorem index118_0 (a b c : Value) (w : World) : (Instr.index 118 (.agg #[a, b, c]) (.int .i64 0)).run Tryd.prog w = .ok a w := by
  simp [Instr.index, run_underlying Tryd.und118, asIntOf, go_sem]
theorem index118_1 (a b c : Value) (w : World) : (Instr.index 118 (.agg #[a, b, c]) (.int .i64 1)).run Tryd.prog w = .ok b w := by
  simp [Instr.index, run_underlying Tryd.und118, asIntOf, go_sem]
theorem index118_2 (a b c : Value) (w : World) : (Instr.index 118 (.agg #[a, b, c]) (.int .i64 2)).run Tryd.prog w = .ok c w := by
  simp [Instr.index, run_underlying Tryd.und118, asIntOf, go_sem]
def rdB (e v l p : Int) : Nat → Obj
  | 0 => boxS e 0 0 0 0
  | 1 => boxS e v 0 0 0
  | 2 => boxS e v l 0 0
  | _ => boxS e v l p 0

set_option maxHeartbeats 2000000 in
set_option maxRecDepth 100000 in
theorem read_any (A : List Addr) (w : World) (h : Sents G18 132 A w) (sl : Value) (xs : List Int) (hs : Src w sl xs) (h8 : ∀ x ∈ xs, 0 ≤ x ∧ x < 256) (hl : xs.length ≤ 1000) :
    Calls Tryd.prog 57 #[sl] w fun r w' => r = .returned (.tuple #[rdSt xs, errV A (rdCode xs)]) ∧ Below w.heap.size w w' := by
  have HB : Hid (∀ W', Below w.heap.size w W' → Sents G18 132 A W') := fun W' hW => h.later hW
  have H18 := Lib.hid h.size
  have hb0 := belowN w (boxS 0 0 0 0 0)
  have hr0 : (w.alloc (boxS 0 0 0 0 0)).heap[w.heap.size]? = some (boxS 0 0 0 0 0) := heap_alloc_new w _
  have HNR := Lib.hid (new_reader _ sl xs (hs.below hb0) h8 (by omega))
  have HR0 := Lib.hid (And.intro hb0 hr0)
  clear h hs hb0 hr0 h8
  generalize hres : rdSt xs = resV at *
  generalize hcode : rdCode xs = code at *
  have HRES := Lib.hid (And.intro hres hcode)
  clear hres hcode
  go_enter Tryd.func57, Tryd.ntmps57
  go_wp2_with fail
  refine HNR.out.mono ?_
  rintro r w1 ⟨q, sl1, rfl, hq, hR, hb1⟩
  obtain ⟨hb0, hr0⟩ := HR0.out
  have hB1 := belowT hb0 hb1 (Nat.le_refl _)
  have hE1 : Eye A w1 q sl1 (rdS xs 0) := ⟨(HB.out _ hB1).ers, hR, by show xs.length ≤ _; omega, by have := H18.out; simp at hq; omega⟩
  have HN1 := Lib.hid (rnum_eye A w1 q sl1 _ hE1 4)
  have HR1 : Hid (w1.heap[w.heap.size]? = some (boxS 0 0 0 0 0) ∧ w.heap.size < q ∧ Below w.heap.size w w1 ∧ q < w1.heap.size) := ⟨(hb1.block _ (by simp)).trans hr0, by simp at hq; omega, hB1, hR.lt⟩
  clear hq hR hb1 hb0 hr0 hB1 hE1 HNR HR0
  go_wp2_with fail
  refine HN1.out.mono ?_
  rintro r w2 ⟨rfl, sl2, hE2, hU2⟩
  have hRb : Rb A w (w2.alloc (boxS (rdV xs 0) 0 0 0 0)) q w2.heap.size sl2 (rdS xs 1) (rdB (rdV xs 0) (rdV xs 1) (rdV xs 2) (rdV xs 3) 0) := by
    obtain ⟨h1, h2, h3, h4⟩ := HR1.out
    have h5 := hU2.size
    have hb := belowN w2 (boxS (rdV xs 0) 0 0 0 0)
    have hlt := (Array.getElem?_eq_some_iff.1 h1).1
    have hB2 := h3.trans (hU2.below (B := w.heap.size) (Nat.le_of_lt h2) h3.size (fun g hg => by simp [Value.ownBlock] at hg)).1
    exact ⟨hE2.later hb, (hb.block _ (by omega)).trans ((hU2.same _ hlt (by omega) (noV_own _)).trans h1), heap_alloc_new w2 _, h2, by omega, belowT hB2 hb (Nat.le_refl _)⟩
  have HRB := Lib.hid hRb
  have HV0 : Hid ((rdS xs 0).numV 4 = rdV xs 0) := rfl
  rw [HV0.out]
  clear hRb hE2 hU2 HR1 HN1
  -- LOOP
  go_wp2_with fail
  generalize w2.alloc (boxS (rdV xs 0) 0 0 0 0) = W3 at *
  generalize w2.heap.size = S at *
  go_loopw [18] (fun i wr => ∃ (k : Nat) (sl' : Value), k ≤ 3 ∧ i = .int .i64 k ∧ Rb A w wr q S sl' (rdS xs (k + 1)) (rdB (rdV xs 0) (rdV xs 1) (rdV xs 2) (rdV xs 3) k)) (fun i _ => 3 - (intOf i).toNat)
  case atStart => exact ⟨0, sl2, Nat.zero_le _, rfl, HRB.out⟩
  case round =>
    clear HRB
    obtain ⟨k, sl', hk, rfl, hP⟩ := hrel
    have HP := Lib.hid hP
    clear hP
    rcases (show k = 0 ∨ k = 1 ∨ k = 2 ∨ k = 3 by omega) with rfl | rfl | rfl | rfl
    · have hix := index118_0 (.pointer (some ⟨S, 1, none⟩)) (.pointer (some ⟨S, 2, none⟩)) (.pointer (some ⟨S, 3, none⟩)) wr
      have HN : Hid (Calls Tryd.prog 20 #[.pointer (some ⟨q, 0, none⟩), .int .i64 6] wr fun r W' => r = .returned (.int .i64 (rdV xs 1)) ∧ ∃ sl', Rb A w W' q S sl' (rdS xs 2) (rdB (rdV xs 0) (rdV xs 1) (rdV xs 2) (rdV xs 3) 0)) := HP.out.num 6
      go_wp2_with fail
      refine HN.out.mono ?_
      rintro r w4 ⟨rfl, sl4, hP4⟩
      have f4 := hP4.frz 1
      obtain ⟨o4, x4⟩ : ∃ o, w4.cell? ⟨S, 1, none⟩ = some o := ⟨_, hP4.cell 1⟩
      have HP4 : Hid (Rb A w (w4.setCell ⟨S, 1, none⟩ (.int .i64 (rdV xs 1))) q S sl4 (rdS xs 2) (rdB (rdV xs 0) (rdV xs 1) (rdV xs 2) (rdV xs 3) 1)) := hP4.set 1 _
      clear hP4 HN hix
      go_wp2_with fail
      go_roundw
      case rel => first | exact ⟨1, sl4, by omega, rfl, HP4.out⟩ | ((repeat apply Exists.intro); exact ⟨⟨1, sl4, by omega, rfl, HP4.out⟩, rfl⟩)
      case measure => simp [intOf]
    · have hix := index118_1 (.pointer (some ⟨S, 1, none⟩)) (.pointer (some ⟨S, 2, none⟩)) (.pointer (some ⟨S, 3, none⟩)) wr
      have HN : Hid (Calls Tryd.prog 20 #[.pointer (some ⟨q, 0, none⟩), .int .i64 6] wr fun r W' => r = .returned (.int .i64 (rdV xs 2)) ∧ ∃ sl', Rb A w W' q S sl' (rdS xs 3) (rdB (rdV xs 0) (rdV xs 1) (rdV xs 2) (rdV xs 3) 1)) := HP.out.num 6
      go_wp2_with fail
      refine HN.out.mono ?_
      rintro r w4 ⟨rfl, sl4, hP4⟩
      have f4 := hP4.frz 2
      obtain ⟨o4, x4⟩ : ∃ o, w4.cell? ⟨S, 2, none⟩ = some o := ⟨_, hP4.cell 2⟩
      have HP4 : Hid (Rb A w (w4.setCell ⟨S, 2, none⟩ (.int .i64 (rdV xs 2))) q S sl4 (rdS xs 3) (rdB (rdV xs 0) (rdV xs 1) (rdV xs 2) (rdV xs 3) 2)) := hP4.set 2 _
      clear hP4 HN hix
      go_wp2_with fail
      go_roundw
      case rel => first | exact ⟨2, sl4, by omega, rfl, HP4.out⟩ | ((repeat apply Exists.intro); exact ⟨⟨2, sl4, by omega, rfl, HP4.out⟩, rfl⟩)
      case measure => simp [intOf]
    · have hix := index118_2 (.pointer (some ⟨S, 1, none⟩)) (.pointer (some ⟨S, 2, none⟩)) (.pointer (some ⟨S, 3, none⟩)) wr
      have HN : Hid (Calls Tryd.prog 20 #[.pointer (some ⟨q, 0, none⟩), .int .i64 6] wr fun r W' => r = .returned (.int .i64 (rdV xs 3)) ∧ ∃ sl', Rb A w W' q S sl' (rdS xs 4) (rdB (rdV xs 0) (rdV xs 1) (rdV xs 2) (rdV xs 3) 2)) := HP.out.num 6
      go_wp2_with fail
      refine HN.out.mono ?_
      rintro r w4 ⟨rfl, sl4, hP4⟩
      have f4 := hP4.frz 3
      obtain ⟨o4, x4⟩ : ∃ o, w4.cell? ⟨S, 3, none⟩ = some o := ⟨_, hP4.cell 3⟩
      have HP4 : Hid (Rb A w (w4.setCell ⟨S, 3, none⟩ (.int .i64 (rdV xs 3))) q S sl4 (rdS xs 4) (rdB (rdV xs 0) (rdV xs 1) (rdV xs 2) (rdV xs 3) 3)) := hP4.set 3 _
      clear hP4 HN hix
      go_wp2_with fail
      go_roundw
      case rel => first | exact ⟨3, sl4, by omega, rfl, HP4.out⟩ | ((repeat apply Exists.intro); exact ⟨⟨3, sl4, by omega, rfl, HP4.out⟩, rfl⟩)
      case measure => simp [intOf]
    · have HN : Hid (Calls Tryd.prog 20 #[.pointer (some ⟨q, 0, none⟩), .int .i64 1] wr fun r W' => r = .returned (.int .i64 (rdV xs 4)) ∧ ∃ sl', Rb A w W' q S sl' (rdS xs 5) (rdB (rdV xs 0) (rdV xs 1) (rdV xs 2) (rdV xs 3) 3)) := HP.out.num 1
      go_wp2_with fail
      refine HN.out.mono ?_
      rintro r w4 ⟨rfl, sl4, hP4⟩
      have f4 := hP4.frz 4
      have x4 := hP4.cell 4
      replace x4 : w4.cell? ⟨S, 4, none⟩ = some (.int .i64 0) := x4
      have HP4 : Hid (Rb A w (w4.setCell ⟨S, 4, none⟩ (.int .i64 (rdV xs 4))) q S sl4 (rdS xs 5) (boxS (rdV xs 0) (rdV xs 1) (rdV xs 2) (rdV xs 3) (rdV xs 4))) := hP4.set 4 _
      clear hP4 HN
      go_wp2_with fail
      clear f4 x4
      generalize w4.setCell ⟨S, 4, none⟩ (.int .i64 (rdV xs 4)) = w5 at *
      have HD := Lib.hid (rdone_any A w5 (HB.out _ HP4.out.bel).long q sl4 (rdS xs 5) HP4.out.eye.rd)
      refine HD.out.mono ?_
      rintro r w6 ⟨rfl, rfl⟩
      obtain ⟨hres, hcode⟩ := HRES.out
      unfold rdSt at hres
      unfold rdCode at hcode
      by_cases hF : (rdS xs 5).fin = 0
      · rw [hF, errV_zero]
        by_cases hR : rdRight xs
        · rw [if_pos ⟨hF, hR⟩] at hres
          rw [if_pos hF, if_pos hR] at hcode
          subst hres hcode
          have hrt := right_any (rdV xs 0) (rdV xs 1) (rdV xs 2) (rdV xs 3) (rdV xs 4) w6
          rw [show decide (RightP (rdV xs 0) (rdV xs 1) (rdV xs 2) (rdV xs 3) (rdV xs 4)) = true from decide_eq_true hR] at hrt
          have HRT := Lib.hid hrt
          obtain ⟨s0, s1, s2, s3, s4⟩ := HP4.out.parts
          clear hrt hR hF HD
          go_wp2_with fail
          refine HRT.out.mono ?_
          rintro r w7 ⟨rfl, b7⟩
          have HP7 := Lib.hid (HP4.out.later b7)
          obtain ⟨s0', s1', s2', s3', s4'⟩ := HP7.out.parts
          obtain ⟨r0, r1, r2, r3, r4, q0⟩ := HP7.out.facts
          have HW5 := Lib.hid HP7.out.stored
          clear b7 s0 s1 s2 s3 s4
          go_wp2_with fail
          exact bodyPost_ret (v := .tuple #[st5 (rdV xs 0) (rdV xs 1) (rdV xs 2) (rdV xs 3) (rdV xs 4), .nilIface]) (by simp [results, Tryd.f57, go_sem, r0, r1, r2, r3, r4]) rfl ⟨rfl, HW5.out _ _ _ _ _⟩
        · rw [if_neg (fun x => hR x.2)] at hres
          rw [if_pos hF, if_neg hR] at hcode
          subst hres hcode
          have hrt := right_any (rdV xs 0) (rdV xs 1) (rdV xs 2) (rdV xs 3) (rdV xs 4) w6
          rw [show decide (RightP (rdV xs 0) (rdV xs 1) (rdV xs 2) (rdV xs 3) (rdV xs 4)) = false from decide_eq_false hR] at hrt
          have HRT := Lib.hid hrt
          obtain ⟨s0, s1, s2, s3, s4⟩ := HP4.out.parts
          obtain ⟨a, ha, hg⟩ := (HB.out _ HP4.out.bel).form
          have HG := Lib.hid hg
          have HA : Hid (errV A 4 = .iface 132 (.pointer (some a))) := errV_at ha
          clear hrt hR hF HD hg ha
          go_wp2_with fail
          refine HRT.out.mono ?_
          rintro r w7 ⟨rfl, b7⟩
          have hg7 := (b7.cell (World.block_lt_of_cell? _ _ HG.out)).trans HG.out
          have HP7 := Lib.hid (HP4.out.later b7)
          obtain ⟨r0, r1, r2, r3, r4, q0⟩ := HP7.out.facts
          have HW5' := Lib.hid (HP7.out.later ((Below.refl _ w7).drew)).stored
          clear b7 s0 s1 s2 s3 s4
          go_wp2_with fail
          have hg8 : (w7.setCell ⟨w.heap.size, 0, none⟩ (.int .i64 0)).cell? ⟨5, 0, none⟩ = some (.iface 132 (.pointer (some a))) := (World.cell?_of_block (Below.heap_setCell _ _ _ _ (by have := H18.out; show 5 ≠ w.heap.size; omega))).trans hg7
          go_region
          all_goals go_wp2_with fail
          all_goals exact bodyPost_ret (v := .tuple #[st5 0 0 0 0 0, .iface 132 (.pointer (some a))]) (by simp [results, Tryd.f57, go_sem, r0, r1, r2, r3, r4]) rfl ⟨by rw [HA.out], HW5'.out _ _ _ _ _⟩
      · obtain ⟨u, hu⟩ := errV_pos A hF
        rw [if_neg (fun x => hF x.1)] at hres
        rw [if_neg hF] at hcode
        subst hres hcode
        rw [hu]
        obtain ⟨r0, r1, r2, r3, r4, q0⟩ := HP4.out.facts
        have HW5 := Lib.hid HP4.out.stored
        have HU := Lib.hid hu
        clear hu hF HD
        go_wp2_with fail
        exact bodyPost_ret (v := .tuple #[st5 0 0 0 0 0, .iface 132 u]) (by simp [results, Tryd.f57, go_sem, r0, r1, r2, r3, r4]) rfl ⟨by rw [HU.out], HW5.out _ _ _ _ _⟩

end Go.Proofs.YtadonpfpneanhaaDoor
