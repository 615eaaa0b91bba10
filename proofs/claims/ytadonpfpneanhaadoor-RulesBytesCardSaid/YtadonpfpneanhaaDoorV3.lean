/- Bytes' state: what the document's reading answers. -/
import Derived.Test.YtadonpfpneanhaaDoorV2
namespace Go.Proofs.YtadonpfpneanhaaDoor
open Go.RowKit

theorem Src.lt_size {w : World} {v : Value} {xs : List Int} (h : Src w v xs) (hx : xs ≠ []) : ∀ ad l c, v = .slice (some ad) l c → ad.block < w.heap.size := by
  intro ad l c e
  rcases h with ⟨_, h⟩ | ⟨ad', c', e', _, _, h3⟩
  · exact absurd h hx
  · rw [e'] at e
    cases e
    cases xs with
    | nil => exact absurd rfl hx
    | cons x t =>
      have := World.block_lt_of_cell? w _ (h3 0 (.int .u8 x) rfl)
      rwa [add_block] at this
abbrev boxT (e v l p f : Int) : Obj := .cells #[.int .i64 e, .int .i64 v, .int .i64 l, .int .i64 p, .int .i64 f] 49
/-- The document's reading's memory: the result's block, the reader, the state's block. -/
structure Rc (w W : World) (m S : Nat) (b : Value) (B : List Int) (s : RS) (ob : Obj) : Prop where
  mr : Mr W m b B s
  res : W.heap[w.heap.size]? = some (boxT 0 0 0 0 0)
  box : W.heap[S]? = some ob
  rm : w.heap.size < m
  ms : m < S
  bq : B ≠ [] → ∀ ad l c, b = .slice (some ad) l c → ad.block < w.heap.size
  bel : Below w.heap.size w W

section
variable {w W : World} {m S : Nat} {b : Value} {B : List Int} {s : RS} {ob : Obj}
theorem Rc.num (h : Rc w W m S b B s ob) (width : Int) : Calls Tryd.prog 79 #[.pointer (some ⟨m, 0, none⟩), .int .i64 width] W fun r W' => r = .returned (.int .i64 (s.numV width)) ∧ Rc w W' m S b B (s.number width) ob :=
  (mnum_any W m b B s h.mr width).mono fun _ W' ⟨e1, e2, e3⟩ => by
    have h1 := h.rm
    have h2 := h.ms
    have hr := (Array.getElem?_eq_some_iff.1 h.res).1
    have hs := (Array.getElem?_eq_some_iff.1 h.box).1
    exact ⟨e1, e2, (e3.same _ hr (by omega) (noV_own _)).trans h.res, (e3.same _ hs (by omega) (noV_own _)).trans h.box, h1, h2, h.bq, h.bel.trans (e3.below (B := w.heap.size) (Nat.le_of_lt h1) h.bel.size (fun g hg => by simp [Value.ownBlock] at hg)).1⟩
theorem Rc.set {cs : Array Value} {ty : TypeId} {fz : Nat × Nat} (h : Rc w W m S b B s (.cells cs ty fz)) (j : Nat) (u : Value) : Rc w (W.setCell ⟨S, j, none⟩ u) m S b B s (.cells (cs.setIfInBounds j u) ty fz) := by
  have h1 := h.rm
  have h2 := h.ms
  have hb : Below S W (W.setCell ⟨S, j, none⟩ u) := (Below.refl _ _).setCell (p := ⟨S, j, none⟩) (Nat.le_refl _) _
  obtain ⟨at', e1, e2⟩ := h.mr.blk
  exact ⟨⟨⟨at', (hb.block m h2).trans e1, e2⟩, h.mr.src.lowm hb (fun hB ad l c e => by have := h.bq hB ad l c e; omega), h.mr.ap, h.mr.by8, h.mr.big⟩, (hb.block _ (by omega)).trans h.res, heap_setCell_block h.box u, h1, h2, h.bq, h.bel.setCell (p := ⟨S, j, none⟩) (by show w.heap.size ≤ S; omega) _⟩
theorem Rc.later {W' : World} (h : Rc w W m S b B s ob) (hb : Below W.heap.size W W') : Rc w W' m S b B s ob :=
  ⟨h.mr.later hb, (hb.block _ (Array.getElem?_eq_some_iff.1 h.res).1).trans h.res, (hb.block _ (Array.getElem?_eq_some_iff.1 h.box).1).trans h.box, h.rm, h.ms, h.bq, belowT h.bel hb (Nat.le_refl _)⟩
theorem Rc.frz {cs : Array Value} {ty : TypeId} (h : Rc w W m S b B s (.cells cs ty (0, 0))) (j : Nat) : W.frozen? ⟨S, j, none⟩ = false := by simp [World.frozen?, h.box]
theorem Rc.cell {cs : Array Value} {ty : TypeId} {fz : Nat × Nat} (h : Rc w W m S b B s (.cells cs ty fz)) (j : Nat) : W.cell? ⟨S, j, none⟩ = cs[j]? := cell_of_blk h.box j
theorem Rc.facts (h : Rc w W m S b B s ob) :
    W.cell? ⟨w.heap.size, 0, none⟩ = some (.int .i64 0) ∧ W.cell? ⟨w.heap.size, 1, none⟩ = some (.int .i64 0) ∧ W.cell? ⟨w.heap.size, 2, none⟩ = some (.int .i64 0) ∧ W.cell? ⟨w.heap.size, 3, none⟩ = some (.int .i64 0) ∧ W.cell? ⟨w.heap.size, 4, none⟩ = some (.int .i64 0) ∧ ∀ j, W.frozen? ⟨w.heap.size, j, none⟩ = false :=
  ⟨cell_of_blk h.res 0, cell_of_blk h.res 1, cell_of_blk h.res 2, cell_of_blk h.res 3, cell_of_blk h.res 4, fun j => by simp [World.frozen?, h.res]⟩
theorem Rc.parts {a b' c d e : Int} (h : Rc w W m S b B s (boxT a b' c d e)) :
    W.cell? ⟨S, 0, none⟩ = some (.int .i64 a) ∧ W.cell? ⟨S, 1, none⟩ = some (.int .i64 b') ∧ W.cell? ⟨S, 2, none⟩ = some (.int .i64 c) ∧ W.cell? ⟨S, 3, none⟩ = some (.int .i64 d) ∧ W.cell? ⟨S, 4, none⟩ = some (.int .i64 e) :=
  ⟨cell_of_blk h.box 0, cell_of_blk h.box 1, cell_of_blk h.box 2, cell_of_blk h.box 3, cell_of_blk h.box 4⟩
theorem Rc.stored (h : Rc w W m S b B s ob) :
    ∀ u0 u1 u2 u3 u4, Below w.heap.size w (((((W.setCell ⟨w.heap.size, 0, none⟩ u0).setCell ⟨w.heap.size, 1, none⟩ u1).setCell ⟨w.heap.size, 2, none⟩ u2).setCell ⟨w.heap.size, 3, none⟩ u3).setCell ⟨w.heap.size, 4, none⟩ u4) :=
  fun _ _ _ _ _ => ((((h.bel.setCell (p := ⟨w.heap.size, 0, none⟩) (Nat.le_refl _) _).setCell (p := ⟨w.heap.size, 1, none⟩) (Nat.le_refl _) _).setCell (p := ⟨w.heap.size, 2, none⟩) (Nat.le_refl _) _).setCell (p := ⟨w.heap.size, 3, none⟩) (Nat.le_refl _) _).setCell (p := ⟨w.heap.size, 4, none⟩) (Nat.le_refl _) _
end

set_option maxHeartbeats 2000000 in
set_option maxRecDepth 100000 in
theorem refread_any (w : World) (sl : Value) (xs : List Int) (hs : Src w sl xs) (h8 : ∀ x ∈ xs, 0 ≤ x ∧ x < 256) (hl : xs.length ≤ 1000) :
    Calls Tryd.prog 59 #[sl] w fun r w' => r = .returned (.tuple #[rdSt xs, .int .i64 (rdCode xs : Int)]) ∧ Below w.heap.size w w' := by
  have hb0 := belowN w (boxT 0 0 0 0 0)
  have hb1 := belowN (w.alloc (boxT 0 0 0 0 0)) (.cells #[sl, .int .i64 0, .int .i64 0] 86)
  have hb2 := belowN ((w.alloc (boxT 0 0 0 0 0)).alloc (.cells #[sl, .int .i64 0, .int .i64 0] 86)) (boxT 0 0 0 0 0)
  have hR0 : Rc w (((w.alloc (boxT 0 0 0 0 0)).alloc (.cells #[sl, .int .i64 0, .int .i64 0] 86)).alloc (boxT 0 0 0 0 0)) (w.heap.size + 1) (w.heap.size + 2) sl xs (rdS xs 0) (boxT 0 0 0 0 0) := by
    have hbel := belowT (belowT hb0 hb1 (Nat.le_refl _)) hb2 (Nat.le_refl _)
    have hm : ((w.alloc (boxT 0 0 0 0 0)).alloc (.cells #[sl, .int .i64 0, .int .i64 0] 86)).heap[w.heap.size + 1]? = some (.cells #[sl, .int .i64 0, .int .i64 0] 86 (0, 0)) := by
      have := heap_alloc_new (w.alloc (boxT 0 0 0 0 0)) (.cells #[sl, .int .i64 0, .int .i64 0] 86)
      simpa using this
    have hS : (((w.alloc (boxT 0 0 0 0 0)).alloc (.cells #[sl, .int .i64 0, .int .i64 0] 86)).alloc (boxT 0 0 0 0 0)).heap[w.heap.size + 2]? = some (boxT 0 0 0 0 0) := by
      have := heap_alloc_new ((w.alloc (boxT 0 0 0 0 0)).alloc (.cells #[sl, .int .i64 0, .int .i64 0] 86)) (boxT 0 0 0 0 0)
      simpa using this
    refine ⟨⟨⟨0, (hb2.block _ (by simp)).trans hm, fun _ => ⟨0, rfl, Nat.zero_le _, rfl⟩⟩, hs.below hbel, fun hB ad l c e => by have := hs.lt_size hB ad l c e; omega, h8, by omega⟩, ?_, hS, by omega, by omega, fun hB => hs.lt_size hB, hbel⟩
    exact (hb2.block _ (by simp; omega)).trans ((hb1.block _ (by simp)).trans (heap_alloc_new w _))
  have HR0 := Lib.hid hR0
  obtain ⟨a0, c0, rfl⟩ := hs.len
  clear hs h8 hb0 hb1 hb2 hR0
  obtain ⟨resV, hres⟩ : ∃ v, rdSt xs = v := ⟨_, rfl⟩
  obtain ⟨code, hcode⟩ : ∃ v, rdCode xs = v := ⟨_, rfl⟩
  rw [hres, hcode]
  have HRES := Lib.hid (And.intro hres hcode)
  clear hres hcode
  go_enter Tryd.func59, Tryd.ntmps59
  go_wp2_with fail
  generalize ((w.alloc (boxT 0 0 0 0 0)).alloc (.cells #[.slice a0 xs.length c0, .int .i64 0, .int .i64 0] 86)).alloc (boxT 0 0 0 0 0) = v0 at *
  have HN0 : Hid (Calls Tryd.prog 79 #[.pointer (some ⟨w.heap.size + 1, 0, none⟩), .int .i64 4] v0 fun r W' => r = .returned (.int .i64 (rdV xs 0)) ∧ Rc w W' (w.heap.size + 1) (w.heap.size + 2) (.slice a0 xs.length c0) xs (rdS xs 1) (boxT 0 0 0 0 0)) := HR0.out.num 4
  refine HN0.out.mono ?_
  rintro r u0 ⟨rfl, hP⟩
  have fz := hP.frz 0
  have xz := hP.cell 0
  replace xz : u0.cell? ⟨w.heap.size + 2, 0, none⟩ = some (.int .i64 0) := xz
  have HR1 : Hid (Rc w (u0.setCell ⟨w.heap.size + 2, 0, none⟩ (.int .i64 (rdV xs 0))) (w.heap.size + 1) (w.heap.size + 2) (.slice a0 xs.length c0) xs (rdS xs 1) (boxT (rdV xs 0) 0 0 0 0)) := hP.set 0 _
  clear hP HN0 HR0
  go_wp2_with fail
  clear fz xz
  generalize u0.setCell ⟨w.heap.size + 2, 0, none⟩ (.int .i64 (rdV xs 0)) = v1 at *
  have HN1 : Hid (Calls Tryd.prog 79 #[.pointer (some ⟨w.heap.size + 1, 0, none⟩), .int .i64 6] v1 fun r W' => r = .returned (.int .i64 (rdV xs 1)) ∧ Rc w W' (w.heap.size + 1) (w.heap.size + 2) (.slice a0 xs.length c0) xs (rdS xs 2) (boxT (rdV xs 0) 0 0 0 0)) := HR1.out.num 6
  refine HN1.out.mono ?_
  rintro r u1 ⟨rfl, hP⟩
  have fz := hP.frz 1
  have xz := hP.cell 1
  replace xz : u1.cell? ⟨w.heap.size + 2, 1, none⟩ = some (.int .i64 0) := xz
  have HR2 : Hid (Rc w (u1.setCell ⟨w.heap.size + 2, 1, none⟩ (.int .i64 (rdV xs 1))) (w.heap.size + 1) (w.heap.size + 2) (.slice a0 xs.length c0) xs (rdS xs 2) (boxT (rdV xs 0) (rdV xs 1) 0 0 0)) := hP.set 1 _
  clear hP HN1 HR1
  go_wp2_with fail
  clear fz xz
  generalize u1.setCell ⟨w.heap.size + 2, 1, none⟩ (.int .i64 (rdV xs 1)) = v2 at *
  have HN2 : Hid (Calls Tryd.prog 79 #[.pointer (some ⟨w.heap.size + 1, 0, none⟩), .int .i64 6] v2 fun r W' => r = .returned (.int .i64 (rdV xs 2)) ∧ Rc w W' (w.heap.size + 1) (w.heap.size + 2) (.slice a0 xs.length c0) xs (rdS xs 3) (boxT (rdV xs 0) (rdV xs 1) 0 0 0)) := HR2.out.num 6
  refine HN2.out.mono ?_
  rintro r u2 ⟨rfl, hP⟩
  have fz := hP.frz 2
  have xz := hP.cell 2
  replace xz : u2.cell? ⟨w.heap.size + 2, 2, none⟩ = some (.int .i64 0) := xz
  have HR3 : Hid (Rc w (u2.setCell ⟨w.heap.size + 2, 2, none⟩ (.int .i64 (rdV xs 2))) (w.heap.size + 1) (w.heap.size + 2) (.slice a0 xs.length c0) xs (rdS xs 3) (boxT (rdV xs 0) (rdV xs 1) (rdV xs 2) 0 0)) := hP.set 2 _
  clear hP HN2 HR2
  go_wp2_with fail
  clear fz xz
  generalize u2.setCell ⟨w.heap.size + 2, 2, none⟩ (.int .i64 (rdV xs 2)) = v3 at *
  have HN3 : Hid (Calls Tryd.prog 79 #[.pointer (some ⟨w.heap.size + 1, 0, none⟩), .int .i64 6] v3 fun r W' => r = .returned (.int .i64 (rdV xs 3)) ∧ Rc w W' (w.heap.size + 1) (w.heap.size + 2) (.slice a0 xs.length c0) xs (rdS xs 4) (boxT (rdV xs 0) (rdV xs 1) (rdV xs 2) 0 0)) := HR3.out.num 6
  refine HN3.out.mono ?_
  rintro r u3 ⟨rfl, hP⟩
  have fz := hP.frz 3
  have xz := hP.cell 3
  replace xz : u3.cell? ⟨w.heap.size + 2, 3, none⟩ = some (.int .i64 0) := xz
  have HR4 : Hid (Rc w (u3.setCell ⟨w.heap.size + 2, 3, none⟩ (.int .i64 (rdV xs 3))) (w.heap.size + 1) (w.heap.size + 2) (.slice a0 xs.length c0) xs (rdS xs 4) (boxT (rdV xs 0) (rdV xs 1) (rdV xs 2) (rdV xs 3) 0)) := hP.set 3 _
  clear hP HN3 HR3
  go_wp2_with fail
  clear fz xz
  generalize u3.setCell ⟨w.heap.size + 2, 3, none⟩ (.int .i64 (rdV xs 3)) = v4 at *
  have HN4 : Hid (Calls Tryd.prog 79 #[.pointer (some ⟨w.heap.size + 1, 0, none⟩), .int .i64 1] v4 fun r W' => r = .returned (.int .i64 (rdV xs 4)) ∧ Rc w W' (w.heap.size + 1) (w.heap.size + 2) (.slice a0 xs.length c0) xs (rdS xs 5) (boxT (rdV xs 0) (rdV xs 1) (rdV xs 2) (rdV xs 3) 0)) := HR4.out.num 1
  refine HN4.out.mono ?_
  rintro r u4 ⟨rfl, hP⟩
  have fz := hP.frz 4
  have xz := hP.cell 4
  replace xz : u4.cell? ⟨w.heap.size + 2, 4, none⟩ = some (.int .i64 0) := xz
  have HR5 : Hid (Rc w (u4.setCell ⟨w.heap.size + 2, 4, none⟩ (.int .i64 (rdV xs 4))) (w.heap.size + 1) (w.heap.size + 2) (.slice a0 xs.length c0) xs (rdS xs 5) (boxT (rdV xs 0) (rdV xs 1) (rdV xs 2) (rdV xs 3) (rdV xs 4))) := hP.set 4 _
  clear hP HN4 HR4
  go_wp2_with fail
  clear fz xz
  generalize u4.setCell ⟨w.heap.size + 2, 4, none⟩ (.int .i64 (rdV xs 4)) = v5 at *
  have hmd := mdone_any v5 (w.heap.size + 1) (.slice a0 xs.length c0) xs _ HR5.out.mr
  have HD := Lib.hid hmd
  obtain ⟨hres, hcode⟩ := HRES.out
  unfold rdSt at hres
  unfold rdCode at hcode
  clear hmd
  by_cases hF : (rdS xs 5).fin = 0
  · rw [hF] at HD
    by_cases hR : rdRight xs
    · rw [if_pos ⟨hF, hR⟩] at hres
      rw [if_pos hF, if_pos hR] at hcode
      subst hres hcode
      refine HD.out.mono ?_
      rintro r w6 ⟨rfl, n6, rfl⟩
      have HP6 := Lib.hid (HR5.out.later (below_drewN_self _ v5 n6))
      have hrt := ref_right (rdV xs 0) (rdV xs 1) (rdV xs 2) (rdV xs 3) (rdV xs 4) (v5.drewN n6)
      rw [show decide (RightP (rdV xs 0) (rdV xs 1) (rdV xs 2) (rdV xs 3) (rdV xs 4)) = true from decide_eq_true hR] at hrt
      have HRT := Lib.hid hrt
      obtain ⟨s0, s1, s2, s3, s4⟩ := HR5.out.parts
      clear hrt hR hF HD
      go_wp2_with fail
      refine HRT.out.mono ?_
      rintro r w7 ⟨rfl, b7⟩
      have HP7 := Lib.hid (HP6.out.later b7)
      obtain ⟨s0', s1', s2', s3', s4'⟩ := HP7.out.parts
      obtain ⟨r0, r1, r2, r3, r4, q0⟩ := HP7.out.facts
      have HW5 := Lib.hid HP7.out.stored
      clear b7 s0 s1 s2 s3 s4
      go_wp2_with fail
      exact bodyPost_ret (v := .tuple #[st5 (rdV xs 0) (rdV xs 1) (rdV xs 2) (rdV xs 3) (rdV xs 4), .int .i64 0]) (by simp [results, Tryd.f59, go_sem, r0, r1, r2, r3, r4]) rfl ⟨rfl, HW5.out _ _ _ _ _⟩
    · rw [if_neg (fun x => hR x.2)] at hres
      rw [if_pos hF, if_neg hR] at hcode
      subst hres hcode
      refine HD.out.mono ?_
      rintro r w6 ⟨rfl, n6, rfl⟩
      have HP6 := Lib.hid (HR5.out.later (below_drewN_self _ v5 n6))
      have hrt := ref_right (rdV xs 0) (rdV xs 1) (rdV xs 2) (rdV xs 3) (rdV xs 4) (v5.drewN n6)
      rw [show decide (RightP (rdV xs 0) (rdV xs 1) (rdV xs 2) (rdV xs 3) (rdV xs 4)) = false from decide_eq_false hR] at hrt
      have HRT := Lib.hid hrt
      obtain ⟨s0, s1, s2, s3, s4⟩ := HR5.out.parts
      clear hrt hR hF HD
      go_wp2_with fail
      refine HRT.out.mono ?_
      rintro r w7 ⟨rfl, b7⟩
      have HP7 := Lib.hid (HP6.out.later b7)
      obtain ⟨r0, r1, r2, r3, r4, q0⟩ := HP7.out.facts
      have HW5 := Lib.hid HP7.out.stored
      clear b7 s0 s1 s2 s3 s4
      go_wp2_with fail
      exact bodyPost_ret (v := .tuple #[st5 0 0 0 0 0, .int .i64 4]) (by simp [results, Tryd.f59, go_sem, r0, r1, r2, r3, r4]) rfl ⟨rfl, HW5.out _ _ _ _ _⟩
  · rw [if_neg (fun x => hF x.1)] at hres
    rw [if_neg hF] at hcode
    subst hres hcode
    have hne : ¬ (((rdS xs 5).fin : Nat) : Int) = 0 := by omega
    obtain ⟨cv, hcv⟩ : ∃ cv, (((rdS xs 5).fin : Nat) : Int) = cv := ⟨_, rfl⟩
    rw [hcv] at hne HD
    have HCV := Lib.hid hcv
    clear hcv
    have hq : (cv == 0) = false := by simpa using hne
    refine HD.out.mono ?_
    rintro r w6 ⟨rfl, n6, rfl⟩
    have HP6 := Lib.hid (HR5.out.later (below_drewN_self _ v5 n6))
    obtain ⟨r0, r1, r2, r3, r4, q0⟩ := HP6.out.facts
    have HW5 := Lib.hid HP6.out.stored
    clear hF HD
    go_wp2_with fail
    exact bodyPost_ret (v := .tuple #[st5 0 0 0 0 0, .int .i64 cv]) (by simp [results, Tryd.f59, go_sem, r0, r1, r2, r3, r4]) rfl ⟨by rw [HCV.out], HW5.out _ _ _ _ _⟩

end Go.Proofs.YtadonpfpneanhaaDoor

