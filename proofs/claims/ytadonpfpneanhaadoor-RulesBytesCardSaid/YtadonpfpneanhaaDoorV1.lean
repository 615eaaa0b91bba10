/- A state's bytes. -/
import Derived.Test.YtadonpfpneanhaaDoorM6
import Derived.Test.YtadonpfpneanhaaDoorR12
namespace Go.Proofs.YtadonpfpneanhaaDoor
open Go.RowKit

theorem Tryd.und116 : Tryd.prog.underlying 116 = some (.array 3 3) := by kernel_rfl
theorem Tryd.und118 : Tryd.prog.underlying 118 = some (.array 3 117) := by kernel_rfl
theorem index116_0 (a b c : Value) (w : World) : (Instr.index 116 (.agg #[a, b, c]) (.int .i64 0)).run Tryd.prog w = .ok a w := by
  simp [Instr.index, run_underlying Tryd.und116, asIntOf, go_sem]
theorem index116_1 (a b c : Value) (w : World) : (Instr.index 116 (.agg #[a, b, c]) (.int .i64 1)).run Tryd.prog w = .ok b w := by
  simp [Instr.index, run_underlying Tryd.und116, asIntOf, go_sem]
theorem index116_2 (a b c : Value) (w : World) : (Instr.index 116 (.agg #[a, b, c]) (.int .i64 2)).run Tryd.prog w = .ok c w := by
  simp [Instr.index, run_underlying Tryd.und116, asIntOf, go_sem]

/-- A state's bytes, part by part. -/
def sb1 (e : Int) : List Int := be e 4
def sb2 (e v : Int) : List Int := sb1 e ++ be v 6
def sb3 (e v l : Int) : List Int := sb2 e v ++ be l 6
def sb4 (e v l p : Int) : List Int := sb3 e v l ++ be p 6
def sbytes (e v l p f : Int) : List Int := sb4 e v l p ++ be f 1
theorem sb_len (e v l p f : Int) : (sb1 e).length = 4 ∧ (sb2 e v).length = 10 ∧ (sb3 e v l).length = 16 ∧ (sb4 e v l p).length = 22 ∧ (sbytes e v l p f).length = 23 := by
  simp [sb1, sb2, sb3, sb4, sbytes, be_length]
theorem good4 {x : Int} (h : 0 ≤ x ∧ x ≤ 1073741824) : ¬ BadN x 4 := by unfold BadN; simp; omega
theorem good6 {x : Int} (h : 0 ≤ x ∧ x ≤ 1099511627776) : ¬ BadN x 6 := by unfold BadN; simp; omega
theorem good1 {x : Int} (h : 0 ≤ x ∧ x ≤ 32) : ¬ BadN x 1 := good_one h.1 (by omega)

/-- A number that fits is written. -/
theorem num_fit (A : List Addr) (w : World) (h : Ers A w) (p : Nat) (v : Value) (bs : List Int) (hW : Wr w p .nilIface v bs) (hlen : bs.length ≤ 1000) (n width : Int) (hn : ¬ BadN n width) :
    Calls Tryd.prog 22 #[.pointer (some ⟨p, 0, none⟩), .int .i64 n, .int .i64 width] w fun r w' => r = .returned (.tuple #[]) ∧ ∃ v', Wr w' p .nilIface v' (bs ++ be n width) ∧ Upd p w v w' v' := by
  have := number_any A w h p v ⟨0, bs⟩ hW (by simp only; omega) n width
  rw [show WS.number ⟨0, bs⟩ n width = ⟨0, bs ++ be n width⟩ by unfold WS.number; rw [if_neg hn]; rfl] at this
  exact this

/-- The writer's memory ahead of a call: the state's box, the writer behind it. -/
structure Pn (A : List Addr) (w W : World) (ob : Obj) (p : Nat) (v : Value) (bs : List Int) : Prop where
  wr : Wr W p .nilIface v bs
  box : W.heap[w.heap.size]? = some ob
  bel : Below w.heap.size w W
  own : ∀ g, v.ownBlock = some g → p ≤ g
  lt : w.heap.size < p
  ers : Ers A w
theorem Pn.next {A : List Addr} {w W : World} {ob : Obj} {p : Nat} {v : Value} {bs : List Int} (h : Pn A w W ob p v bs) (hl : bs.length ≤ 1000) {n width : Int} (hn : ¬ BadN n width) :
    Calls Tryd.prog 22 #[.pointer (some ⟨p, 0, none⟩), .int .i64 n, .int .i64 width] W fun r W' => r = .returned (.tuple #[]) ∧ ∃ v', Pn A w W' ob p v' (bs ++ be n width) :=
  (num_fit A W (h.ers.later h.bel) p v bs h.wr hl n width hn).mono fun r W' ⟨e1, v', e2, e3⟩ => by
    have h1 := h.lt
    obtain ⟨hb, ho⟩ := e3.below (B := p) (Nat.le_refl _) (Nat.le_of_lt h.wr.lt) h.own
    exact ⟨e1, v', e2, (hb.block _ h1).trans h.box, h.bel.trans (hb.mono (Nat.le_of_lt h1)), ho, h1, h.ers⟩
abbrev boxS (e v l p f : Int) : Obj := .cells #[.int .i64 e, .int .i64 v, .int .i64 l, .int .i64 p, .int .i64 f] 47
theorem Pn.cell {A : List Addr} {w W : World} {cs : Array Value} {ty : TypeId} {fz : Nat × Nat} {p : Nat} {v : Value} {bs : List Int} (h : Pn A w W (.cells cs ty fz) p v bs) (j : Nat) : W.cell? ⟨w.heap.size, j, none⟩ = cs[j]? := cell_of_blk h.box j
def sbk (e v l p : Int) : Nat → List Int
  | 0 => sb1 e
  | 1 => sb2 e v
  | 2 => sb3 e v l
  | _ => sb4 e v l p

set_option maxHeartbeats 2000000 in
set_option maxRecDepth 100000 in
theorem sbytes_yes (A : List Addr) (w : World) (h : Ers A w) (e v l p f : Int) (hr : RightP e v l p f) :
    Calls Tryd.prog 56 #[st5 e v l p f] w fun r w' => ∃ x, r = .returned (.tuple #[x, .nilIface]) ∧ w'.ownsRow w.heap.size 5 1 x (sbytes e v l p f).length (u8s (sbytes e v l p f)) ∧ Below w.heap.size w w' := by
  obtain ⟨l1, l2, l3, l4, l5⟩ := sb_len e v l p f
  have hrt := right_any e v l p f (w.alloc (boxS e v l p f))
  rw [show decide (RightP e v l p f) = true from decide_eq_true hr] at hrt
  have HRT := Lib.hid hrt
  have HR := Lib.hid hr
  have HE := Lib.hid h
  have HL := Lib.hid (And.intro l1 (And.intro l2 (And.intro l3 (And.intro l4 l5))))
  have hb0 := belowN w (boxS e v l p f)
  have hk0 : (w.alloc (boxS e v l p f)).heap[w.heap.size]? = some (boxS e v l p f) := heap_alloc_new w _
  have HB0 := Lib.hid hb0
  have HK0 := Lib.hid hk0
  clear hr h l1 l2 l3 l4 l5 hrt hb0 hk0
  go_enter Tryd.func56, Tryd.ntmps56
  go_wp2_with fail
  refine HRT.out.mono ?_
  rintro r w1 ⟨rfl, b1⟩
  have hk1 := (b1.block w.heap.size (by simp)).trans HK0.out
  have hb1 := belowT HB0.out b1 (Nat.le_refl _)
  have hlt : w.heap.size < w1.heap.size := (Array.getElem?_eq_some_iff.1 hk1).1
  have hP0 : Pn A w (w1.alloc (.cells #[.nilIface, .slice none 0 0] 92)) (boxS e v l p f) w1.heap.size noV [] :=
    ⟨Wr.new w1, ((belowN w1 _).block _ hlt).trans hk1, belowT hb1 (belowN _ _) (Nat.le_refl _), fun g hg => by simp [Value.ownBlock] at hg, hlt, HE.out⟩
  have HP0 := Lib.hid hP0
  clear b1 hk1 hb1 hP0
  go_wp2_with fail
  refine (new_writer _).mono ?_
  rintro r w2 ⟨rfl, rfl⟩
  have c0 := HP0.out.cell 0
  replace c0 : (w1.alloc (.cells #[.nilIface, .slice none 0 0] 92)).cell? ⟨w.heap.size, 0, none⟩ = some (.int .i64 e) := c0
  have HN := Lib.hid (HP0.out.next (by simp) (good4 HR.out.1))
  generalize w1.alloc (.cells #[.nilIface, .slice none 0 0] 92) = w2 at *
  generalize w1.heap.size = q at *
  clear hlt HP0
  go_wp2_with fail
  refine HN.out.mono ?_
  rintro r w3 ⟨rfl, v3, hP3⟩
  have HP3 : Hid (Pn A w w3 (boxS e v l p f) q v3 (sbk e v l p 0)) := hP3
  have c1 := hP3.cell 1
  have c2 := hP3.cell 2
  have c3 := hP3.cell 3
  replace c1 : w3.cell? ⟨w.heap.size, 1, none⟩ = some (.int .i64 v) := c1
  replace c2 : w3.cell? ⟨w.heap.size, 2, none⟩ = some (.int .i64 l) := c2
  replace c3 : w3.cell? ⟨w.heap.size, 3, none⟩ = some (.int .i64 p) := c3
  clear c0 HN hP3
  go_wp2_with fail
  clear c1 c2 c3
  go_loopw [23] (fun i wr => ∃ (k : Nat) (v' : Value), k ≤ 3 ∧ i = .int .i64 k ∧ Pn A w wr (boxS e v l p f) q v' (sbk e v l p k)) (fun i _ => 3 - (intOf i).toNat)
  case atStart => exact ⟨0, v3, Nat.zero_le _, rfl, HP3.out⟩
  case round =>
    clear HP3
    obtain ⟨k, v', hk, rfl, hP⟩ := hrel
    have HP := Lib.hid hP
    clear hP
    rcases (show k = 0 ∨ k = 1 ∨ k = 2 ∨ k = 3 by omega) with rfl | rfl | rfl | rfl
    · have hix := index116_0 (.int .i64 v) (.int .i64 l) (.int .i64 p) wr
      have HN : Hid (Calls Tryd.prog 22 #[.pointer (some ⟨q, 0, none⟩), .int .i64 v, .int .i64 6] wr fun r W' => r = .returned (.tuple #[]) ∧ ∃ v', Pn A w W' (boxS e v l p f) q v' (sbk e v l p 1)) := HP.out.next (by show (sb1 e).length ≤ 1000; rw [HL.out.1]; decide) (good6 HR.out.2.1)
      go_wp2_with fail
      refine HN.out.mono ?_
      rintro r w4 ⟨rfl, v4, hP4⟩
      have HP4 := Lib.hid hP4
      clear hP4
      go_wp2_with fail
      go_roundw
      case rel => exact ⟨1, v4, by omega, rfl, HP4.out⟩
      case measure => simp [intOf]
    · have hix := index116_1 (.int .i64 v) (.int .i64 l) (.int .i64 p) wr
      have HN : Hid (Calls Tryd.prog 22 #[.pointer (some ⟨q, 0, none⟩), .int .i64 l, .int .i64 6] wr fun r W' => r = .returned (.tuple #[]) ∧ ∃ v', Pn A w W' (boxS e v l p f) q v' (sbk e v l p 2)) := HP.out.next (by show (sb2 e v).length ≤ 1000; rw [HL.out.2.1]; decide) (good6 HR.out.2.2.1)
      go_wp2_with fail
      refine HN.out.mono ?_
      rintro r w4 ⟨rfl, v4, hP4⟩
      have HP4 := Lib.hid hP4
      clear hP4
      go_wp2_with fail
      go_roundw
      case rel => exact ⟨2, v4, by omega, rfl, HP4.out⟩
      case measure => simp [intOf]
    · have hix := index116_2 (.int .i64 v) (.int .i64 l) (.int .i64 p) wr
      have HN : Hid (Calls Tryd.prog 22 #[.pointer (some ⟨q, 0, none⟩), .int .i64 p, .int .i64 6] wr fun r W' => r = .returned (.tuple #[]) ∧ ∃ v', Pn A w W' (boxS e v l p f) q v' (sbk e v l p 3)) := HP.out.next (by show (sb3 e v l).length ≤ 1000; rw [HL.out.2.2.1]; decide) (good6 HR.out.2.2.2.1)
      go_wp2_with fail
      refine HN.out.mono ?_
      rintro r w4 ⟨rfl, v4, hP4⟩
      have HP4 := Lib.hid hP4
      clear hP4
      go_wp2_with fail
      go_roundw
      case rel => exact ⟨3, v4, by omega, rfl, HP4.out⟩
      case measure => simp [intOf]
    · have HN : Hid (Calls Tryd.prog 22 #[.pointer (some ⟨q, 0, none⟩), .int .i64 f, .int .i64 1] wr fun r W' => r = .returned (.tuple #[]) ∧ ∃ v', Pn A w W' (boxS e v l p f) q v' (sbytes e v l p f)) := HP.out.next (by show (sb4 e v l p).length ≤ 1000; rw [HL.out.2.2.2.1]; decide) (good1 HR.out.2.2.2.2)
      have c4 := HP.out.cell 4
      replace c4 : wr.cell? ⟨w.heap.size, 4, none⟩ = some (.int .i64 f) := c4
      go_wp2_with fail
      refine HN.out.mono ?_
      rintro r w4 ⟨rfl, v4, hP4⟩
      have HD := Lib.hid (done_ok w4 q v4 _ hP4.wr (by rw [HL.out.2.2.2.2]; decide))
      have HP4 := Lib.hid hP4
      clear hP4 c4 HN
      go_wp2_with fail
      refine HD.out.mono ?_
      rintro r w5 ⟨x, rfl, ho, hb5⟩
      have HK : Hid (w5.ownsRow w.heap.size 5 1 x (sbytes e v l p f).length (u8s (sbytes e v l p f)) ∧ Below w.heap.size w w5) := ⟨own_base ho HP4.out.bel.size, belowT HP4.out.bel hb5 (Nat.le_refl _)⟩
      clear ho hb5
      go_wp2_with fail
      exact bodyPost_ret (v := .tuple #[x, .nilIface]) (by simp [results, Tryd.f56, go_sem]) rfl ⟨x, rfl, HK.out⟩

set_option maxHeartbeats 2000000 in
set_option maxRecDepth 100000 in
theorem sbytes_no (A : List Addr) (w : World) (h : Form A w) (e v l p f : Int) (hr : ¬ RightP e v l p f) :
    Calls Tryd.prog 56 #[st5 e v l p f] w fun r w' => r = .returned (.tuple #[.slice none 0 0, errV A 4]) ∧ Below w.heap.size w w' := by
  have hrt := right_any e v l p f (w.alloc (boxS e v l p f))
  rw [show decide (RightP e v l p f) = false from decide_eq_false hr] at hrt
  have HRT := Lib.hid hrt
  have hb0 := belowN w (boxS e v l p f)
  have HB0 := Lib.hid hb0
  obtain ⟨a, ha, hg⟩ := h.later hb0
  rw [show errV A 4 = .iface 132 (.pointer (some a)) from errV_at ha]
  have HG := Lib.hid hg
  clear hr h hrt hb0 ha hg
  go_enter Tryd.func56, Tryd.ntmps56
  go_wp2_with fail
  refine HRT.out.mono ?_
  rintro r w1 ⟨rfl, b1⟩
  have hg1 := (b1.cell (World.block_lt_of_cell? _ _ HG.out)).trans HG.out
  have HB1 := Lib.hid (belowT HB0.out b1 (Nat.le_refl _))
  clear b1
  go_wp2_with fail
  go_quiet (fail)
  go_wp2_with fail
  exact bodyPost_ret (v := .tuple #[.slice none 0 0, .iface 132 (.pointer (some a))]) (by simp [results, Tryd.f56, go_sem]) rfl ⟨rfl, HB1.out.trans (below_drewN_self _ _ _)⟩

end Go.Proofs.YtadonpfpneanhaaDoor
