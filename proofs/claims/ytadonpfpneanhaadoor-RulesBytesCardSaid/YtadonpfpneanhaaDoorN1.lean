/- The walk of WireStops: behind an error nothing is written nor read, and the first error stays. -/
import Derived.Test.YtadonpfpneanhaaDoorO6
import Derived.Deep.DeepCutAuto
namespace Go.Proofs.YtadonpfpneanhaaDoor
open Go.RowKit

theorem Sents.long {A : List Addr} {w : World} (h : Sents G18 132 A w) : ∃ a, A[2]? = some a ∧ w.cell? ⟨4, 0, none⟩ = some (.iface 132 (.pointer (some a))) := by
  obtain ⟨a, ha⟩ := sent_at h 2 (by omega)
  exact ⟨a, ha, h.cell 2 _ _ rfl ha⟩
theorem Sents.round {A : List Addr} {w : World} (h : Sents G18 132 A w) : ∃ a, A[13]? = some a ∧ w.cell? ⟨1, 0, none⟩ = some (.iface 132 (.pointer (some a))) := by
  obtain ⟨a, ha⟩ := sent_at h 13 (by omega)
  exact ⟨a, ha, h.cell 13 _ _ rfl ha⟩

/-- The loop's memory: a writer and a reader that have failed. -/
structure Stops (A : List Addr) (w wr : World) (p q : Nat) (v sl : Value) (xs : List Int) : Prop where
  wr' : Wr wr p (errV A 10) v []
  rd : Rd wr q (errV A 10) sl xs
  own : ∀ g, v.ownBlock = some g → q < g
  bb : Below w.heap.size w wr

theorem WS.op_ten (bs : List Int) (o : Op5) : WS.op ⟨10, bs⟩ o = ⟨10, bs⟩ := rfl
theorem RS.number_ten (xs : List Int) : RS.number ⟨10, xs⟩ 1 = ⟨10, xs⟩ := by simp [RS.number, RS.pre, RS.take]
theorem RS.numV_ten (xs : List Int) (x : Int) : RS.numV ⟨10, xs⟩ x = 0 := by simp [RS.numV, RS.pre, RS.took, beVal]
theorem RS.number2_ten (xs : List Int) : RS.number ⟨10, xs⟩ 2 = ⟨10, xs⟩ := by simp [RS.number, RS.pre, RS.take]
theorem RS.flag_ten (xs : List Int) : RS.flag ⟨10, xs⟩ = ⟨10, xs⟩ ∧ RS.flagV ⟨10, xs⟩ = false := by
  simp [RS.flag, RS.flagV, RS.flagP, RS.number_ten, RS.numV_ten]
theorem RS.bytes_ten (xs : List Int) (most : Int) : RS.bytes ⟨10, xs⟩ most = ⟨10, xs⟩ ∧ RS.bytesV ⟨10, xs⟩ most = [] := by
  simp [RS.bytes, RS.bytesV, RS.number2_ten, RS.numV_ten, RS.most, RS.fixed, RS.fixedV, RS.take, RS.took]

set_option maxHeartbeats 1000000 in
set_option maxRecDepth 100000 in
theorem stops_far (A : List Addr) (w : World) (h : Sents G18 132 A w) (a b : Option Addr) (n c n2 c2 : Nat) (hn : (n : Int) ≤ 9223372036854775807) (hl : 500 < n) :
    Calls Tryd.prog 15 #[.slice a n c, .slice b n2 c2] w fun e w' => e = .returned (.bool true) ∧ Below w.heap.size w w' := by
  go_enter Tryd.func15, Tryd.ntmps15
  go_wp2_with fail
  refine (alive01 A w h.ers).mono ?_
  rintro e w1 ⟨rfl, b1⟩
  go_wp2_with fail
  go_ret
  exact ⟨rfl, b1⟩

set_option maxHeartbeats 4000000 in
set_option maxRecDepth 100000 in
theorem stops_near (A : List Addr) (w : World) (h : Sents G18 132 A w) (a b : Option Addr) (c n2 c2 : Nat) (xs : List Int) (hx : RowAt .u8 w a xs.length c xs) (z : Nat → Op5) (hz : OpsAt w b n2 c2 z) (hl : ¬ 500 < xs.length) :
    Calls Tryd.prog 15 #[.slice a xs.length c, .slice b n2 c2] w fun e w' => e = .returned (.bool true) ∧ Below w.heap.size w w' := by
  have HB : Hid (∀ W', Below w.heap.size w W' → Sents G18 132 A W') := fun W' hW => h.later hW
  have HX := Lib.hid hx
  have HZ := Lib.hid hz
  have H18 := Lib.hid h.size
  have hxl : (xs.length : Int) ≤ 9223372036854775807 := by omega
  have hl2 : ¬ (500 : Int) < xs.length := by omega
  have hn2 : (n2 : Int) ≤ 9223372036854775807 := by
    have := Nat.le_trans hz.1 hz.2.1
    unfold maxLen at this
    omega
  have HAL := Lib.hid (alive01 A w h.ers)
  clear hx hz h
  go_enter Tryd.func15, Tryd.ntmps15
  go_wp2_with fail
  refine HAL.out.mono ?_
  rintro e w1 ⟨rfl, b1⟩
  have HLG := Lib.hid (long_any w1 b n2 c2 z (HZ.out.below b1))
  have B1 := Lib.hid b1
  clear b1 HAL
  go_wp2_with fail
  refine HLG.out.mono ?_
  rintro e w2 ⟨lb, rfl, hlb, b2⟩
  have B2 := Lib.hid (belowT B1.out b2 (Nat.le_refl _))
  have HLB := Lib.hid hlb
  clear b2 HLG hlb
  cases lb with
  | true =>
    go_wp2_with fail
    go_ret
    exact ⟨rfl, B2.out⟩
  | false =>
  go_wp2_with fail
  refine (new_writer _).mono ?_
  rintro e w3 ⟨rfl, rfl⟩
  have hwr := Wr.new w2
  have hb3 := belowN w2 (.cells #[.nilIface, .slice none 0 0] 92)
  have B3 := Lib.hid (belowT B2.out hb3 (Nat.le_refl _))
  have hpB : w.heap.size ≤ w2.heap.size := B2.out.size
  generalize w2.alloc (.cells #[.nilIface, .slice none 0 0] 92) = W3 at *
  generalize w2.heap.size = p at *
  have HNR := Lib.hid (new_reader W3 (.slice a xs.length c) xs (HX.out.src.below B3.out) HX.out.by8 (by omega))
  have HW3 := Lib.hid hwr
  clear hwr hb3
  go_wp2_with fail
  refine HNR.out.mono ?_
  rintro e w4 ⟨q, sl, rfl, hq, hR, hb4⟩
  have B4 := Lib.hid (belowT B3.out hb4 (Nat.le_refl _))
  have HW4 := Lib.hid (HW3.out.later hb4)
  have HR4 := Lib.hid hR
  have hpq : p < q := Nat.lt_of_lt_of_le HW3.out.lt hq
  clear hb4 hR HNR HW3 hq
  -- the writer's first error
  have HO4 := Lib.hid (HB.out _ B4.out).old
  obtain ⟨a9, ha9, hg9⟩ := HO4.out
  have hF6 : Hid (∀ w2 : World, w2 = w4.drew → Calls Tryd.prog 55 #[.pointer (some ⟨p, 0, none⟩), .iface 132 (.pointer (some a9))] w2 fun r w' => r = .returned (.tuple #[]) ∧ Wr w' p (errV A 10) noV [] ∧ Upd p w4 noV w' noV) := fun w2 e => by
    subst e
    have := fail_any A w4.drew p noV ⟨0, []⟩ 10 (by decide) ⟨HW4.out.blk, HW4.out.own⟩
    rw [errV_at ha9] at this
    exact this.mono fun _ _ hr => ⟨hr.1, hr.2.1, hr.2.2.of_drew⟩
  go_upto_region 6 with fail
  go_cut [] (fun wx => Wr wx p (errV A 10) noV [] ∧ Upd p w4 noV wx noV)
  case first =>
    go_region_with (first
      | (go_at_call 55; refine (hF6.out _ rfl).mono ?_; rintro r w5 ⟨rfl, b5⟩))
    all_goals (go_wp2_with fail; go_meet; exact b5)
  case rest =>
  obtain ⟨hW5, hU5⟩ := hcut
  have hR5 := HR4.out.beside HW4.out (errV_ne A 0) hU5 (Nat.ne_of_lt hpq) (fun g hg => by simp [Value.ownBlock] at hg)
  obtain ⟨hb5, -⟩ := hU5.below (B := w.heap.size) hpB B4.out.size (fun g hg => by simp [Value.ownBlock] at hg)
  have B5 := Lib.hid (B4.out.trans hb5)
  have HE5 : Hid (Eye A wc q sl ⟨0, xs⟩) := ⟨(HB.out _ B5.out).ers, hR5, by simp only; omega, by have := H18.out; omega⟩
  have HW5 := Lib.hid hW5
  clear hW5 hU5 hR5 hb5 HO4 ha9 hg9 hF6 HR4 HW4 a9
  -- the reader's first error
  obtain ⟨a9, ha9, hg9⟩ := (HB.out _ B5.out).old
  have hF7 := Lib.hid (rfail_drew HE5.out ha9)
  go_upto_region 7 with fail
  go_cut [] (fun wx => Eye A wx q sl ⟨10, xs⟩ ∧ Upd q wc noV wx noV)
  case first =>
    go_region_with (first
      | (go_at_call 55; refine (hF7.out _ rfl).mono ?_; rintro r w6 ⟨rfl, b6⟩))
    all_goals (go_wp2_with fail; go_meet; exact b6)
  case rest =>
  obtain ⟨hE6, hU6⟩ := hcut
  have hqB : w.heap.size ≤ q := by omega
  obtain ⟨hb6, -⟩ := hU6.below (B := w.heap.size) hqB B5.out.size (fun g hg => by simp [Value.ownBlock] at hg)
  have HS6 : Hid (Stops A w wc p q noV sl xs) := ⟨HW5.out.far hU6 (Nat.ne_of_lt hpq) (fun g hg => by simp [Value.ownBlock] at hg), hE6.rd, fun g hg => by simp [Value.ownBlock] at hg, B5.out.trans hb6⟩
  clear hE6 hU6 hb6 HW5 HE5 B5 hF7 ha9 hg9 a9
  go_wp2_with fail
  go_loopw [35] (fun i wr => ∃ (k : Nat) (v sl : Value), k ≤ n2 ∧ i = .int .i64 k ∧ Stops A w wr p q v sl xs) (fun i _ => n2 - (intOf i).toNat)
  case atStart => exact ⟨0, noV, sl, Nat.zero_le _, rfl, HS6.out⟩
  case round =>
    clear HS6
    obtain ⟨k, v, sl', hk, rfl, hS⟩ := hrel
    have HS := Lib.hid hS
    by_cases hlt : k < n2
    · obtain ⟨bs, off, rfl, k0, k1, k2, k3, k4⟩ := HZ.out.at hS.bb hlt
      have hb1 := belowN wr (opB (z k).k (z k).n (z k).width (z k).most (z k).sl)
      have hbw := belowT hS.bb hb1 (Nat.le_refl _)
      have hown : ∀ g, v.ownBlock = some g → w.heap.size ≤ g := fun g hg => by have := hS.own g hg; omega
      have hP : Pen A (wr.alloc (opB (z k).k (z k).n (z k).width (z k).most (z k).sl)) p v (z k).sl ⟨10, []⟩ (z k).xs :=
        ⟨(HB.out _ hbw).ers, hS.wr'.later hb1, (HZ.out.2.2.1 k hlt).1.below hbw, (HZ.out.2.2.1 k hlt).1.away hpB hown, ⟨by have := H18.out; omega, fun g hg => by have := H18.out; have := hown g hg; omega⟩⟩
      have hwa := write_any A _ p v (z k).sl ⟨10, []⟩ (z k).k (z k).n (z k).width (z k).most (z k).xs hP (HB.out _ hbw).old (HZ.out.2.2.1 k hlt).2.1 (by have := (HLB.out trivial).2 k hlt; simp only [List.length_nil]; omega)
      rw [WS.op_ten] at hwa
      have HWA := Lib.hid hwa
      have HBX : Hid ((wr.alloc (opB (z k).k (z k).n (z k).width (z k).most (z k).sl)).heap[wr.heap.size]? = some (opB (z k).k (z k).n (z k).width (z k).most (z k).sl)) := heap_alloc_new wr _
      have HWB := Lib.hid (And.intro hP.wr (And.intro (hS.rd.later hb1) hbw))
      have HOG : Hid (∀ g, v.ownBlock = some g → q < g ∧ g < wr.heap.size) := fun g hg => ⟨hS.own g hg, (hS.wr'.own.lt g hg).2⟩
      have HPW : Hid (p < wr.heap.size ∧ q < wr.heap.size) := ⟨hS.wr'.lt, hS.rd.lt⟩
      generalize (z k).k = x0 at *
      generalize (z k).n = x1 at *
      generalize (z k).width = x2 at *
      generalize (z k).most = x3 at *
      clear hS hb1 hbw hP hwa hown
      obtain ⟨a4, c4, h4⟩ := (HZ.out.2.2.1 k hlt).1.len
      rw [h4] at HWA HBX k4
      rw [h4] at HWB
      clear h4
      generalize (z k).xs.length = L at *
      go_wp2_with fail
      generalize wr.heap.size = bx at *
      generalize wr.alloc (opB x0 x1 x2 x3 (.slice a4 L c4)) = W1 at *
      clear k0 k1 k2 k3 k4
      refine HWA.out.mono ?_
      rintro r w2 ⟨rfl, v2, hW2, hU2⟩
      have hpx : bx ≠ p := by have := HPW.out; omega
      have hqx : bx ≠ q := by have := HPW.out; omega
      have hbx2 := (hU2.same bx (Array.getElem?_eq_some_iff.1 HBX.out).1 hpx (fun e => by have := (HOG.out bx e.symm).2; omega)).trans HBX.out
      obtain ⟨hWW, hRW, hbw⟩ := HWB.out
      have hR2 := hRW.beside hWW (errV_ne A 10) hU2 (Nat.ne_of_lt hpq) (fun g hg => (HOG.out g hg).1)
      obtain ⟨hb2, -⟩ := hU2.below (B := w.heap.size) hpB hbw.size (fun g hg => by have := (HOG.out g hg).1; omega)
      have hqW : q < W1.heap.size := hRW.lt
      have HO2 : Hid (∀ g, v2.ownBlock = some g → q < g) := fun g hg => by
        rcases hU2.own g hg with h1 | h1
        · exact (HOG.out g h1).1
        · omega
      have B2 := Lib.hid (hbw.trans hb2)
      have hE2 : Eye A w2 q sl' ⟨10, xs⟩ := ⟨(HB.out _ B2.out).ers, hR2, by simp only; omega, by have := H18.out; omega⟩
      have hn2 := rnum_eye A w2 q sl' ⟨10, xs⟩ hE2 1
      rw [RS.numV_ten, RS.number_ten] at hn2
      have HN2 := Lib.hid hn2
      have HW2 := Lib.hid (And.intro hW2 hbx2)
      clear hW2 hU2 hbx2 hWW hRW hbw hR2 hb2 hqW hE2 hn2 HWA HBX HWB HOG HPW
      go_wp2_with fail
      refine HN2.out.mono ?_
      rintro r w3 ⟨rfl, sl3, hE3, hU3⟩
      have hno : ∀ k : Nat, some k ≠ noV.ownBlock := fun k => by simp [Value.ownBlock]
      obtain ⟨hb3, -⟩ := hU3.below (B := w.heap.size) hqB B2.out.size (fun g hg => by simp [Value.ownBlock] at hg)
      have B3 := Lib.hid (B2.out.trans hb3)
      have HW3 := Lib.hid (And.intro (HW2.out.1.far hU3 (Nat.ne_of_lt hpq) (fun g hg => by have := HO2.out g hg; omega)) ((hU3.same bx (Array.getElem?_eq_some_iff.1 HW2.out.2).1 hqx (hno bx)).trans HW2.out.2))
      have hf3 := rflag_any A w3 (HB.out _ B3.out).form q sl3 ⟨10, xs⟩ hE3
      rw [(RS.flag_ten xs).1, (RS.flag_ten xs).2] at hf3
      have HF3 := Lib.hid hf3
      clear hE3 hU3 hb3 hf3 HW2 HN2 B2
      go_wp2_with fail
      refine HF3.out.mono ?_
      rintro r w4 ⟨rfl, sl4, hE4, hU4⟩
      obtain ⟨hb4, -⟩ := hU4.below (B := w.heap.size) hqB B3.out.size (fun g hg => by simp [Value.ownBlock] at hg)
      have B4 := Lib.hid (B3.out.trans hb4)
      have HW4 := Lib.hid (And.intro (HW3.out.1.far hU4 (Nat.ne_of_lt hpq) (fun g hg => by have := HO2.out g hg; omega)) ((hU4.same bx (Array.getElem?_eq_some_iff.1 HW3.out.2).1 hqx (hno bx)).trans HW3.out.2))
      have k3 := cell_of_blk HW4.out.2 3
      replace k3 : w4.cell? ⟨bx, 3, none⟩ = some (.int .i64 x3) := k3
      have hf4 := rbytes_any A w4 q sl4 ⟨10, xs⟩ hE4 x3
      rw [(RS.bytes_ten xs x3).1, (RS.bytes_ten xs x3).2] at hf4
      have HF4 := Lib.hid hf4
      clear hE4 hU4 hb4 hf4 HW3 HF3 B3
      go_wp2_with fail
      refine HF4.out.mono ?_
      rintro r w5 ⟨out, sl5, rfl, hs5, hE5, hU5⟩
      obtain ⟨a5, c5, rfl⟩ := hs5.len
      obtain ⟨hb5, -⟩ := hU5.below (B := w.heap.size) hqB B4.out.size (fun g hg => by simp [Value.ownBlock] at hg)
      have B5 := Lib.hid (B4.out.trans hb5)
      have HW5 := Lib.hid (HW4.out.1.far hU5 (Nat.ne_of_lt hpq) (fun g hg => by have := HO2.out g hg; omega))
      have HE5 := Lib.hid hE5
      obtain ⟨eu, hu10⟩ := errV_pos A (show 10 ≠ 0 by decide)
      obtain ⟨a13, ha13, hg13⟩ := (HB.out _ B5.out).round
      have kp := HW5.out.c0
      have kq := hE5.rd.c0
      simp only at kq
      rw [hu10] at kp kq
      have HF14 : Hid (∀ w2 : World, w2 = w5.drew → Calls Tryd.prog 55 #[.pointer (some ⟨p, 0, none⟩), .iface 132 (.pointer (some a13))] w2 fun r w' => r = .returned (.tuple #[]) ∧ w' = w2) := fun w2 e => fail_has w2 p _ (by subst e; exact kp)
      have HF15 : Hid (∀ w2 : World, w2 = w5.drew.drew → Calls Tryd.prog 55 #[.pointer (some ⟨q, 0, none⟩), .iface 132 (.pointer (some a13))] w2 fun r w' => r = .returned (.tuple #[]) ∧ w' = w2) := fun w2 e => fail_has w2 q _ (by subst e; exact kq)
      clear hs5 hE5 hU5 hb5 HW4 HF4 B4 ha13 hu10 kp kq k3
      go_upto_region 14 with fail
      go_cut [] (fun wx => wx = w5.drew)
      case first =>
        go_region_with (first
          | (go_at_call 55; refine (HF14.out _ rfl).mono ?_; rintro r w6 ⟨rfl, rfl⟩))
        all_goals (go_wp2_with fail; go_meet; rfl)
      case rest =>
      obtain rfl := hcut
      have HST : Hid (Stops A w w5.drew.drew p q v2 sl5 xs) := ⟨HW5.out.later ((Below.refl _ _).drew.drew), HE5.out.rd.later ((Below.refl _ _).drew.drew), HO2.out, B5.out.drew.drew⟩
      go_wp2_with fail
      go_region_with (first
        | (go_at_call 55; refine (HF15.out _ rfl).mono ?_; rintro r w6 ⟨rfl, rfl⟩))
      all_goals go_wp2_with fail
      all_goals go_roundw
      all_goals first
        | (show _ < _; simp [intOf]; omega)
        | exact ⟨k + 1, v2, sl5, by omega, by go_num, HST.out⟩
        | ((repeat apply Exists.intro); exact ⟨⟨k + 1, v2, sl5, by omega, by go_num, HST.out⟩, rfl⟩)
    · have hke : k = n2 := by omega
      subst hke
      obtain ⟨eu, hu10⟩ := errV_pos A (show 10 ≠ 0 by decide)
      have kp := hS.wr'.c0
      have kq := hS.rd.c0
      rw [hu10] at kp kq
      have HNm : Hid (∀ W, Below w.heap.size w W → Calls Tryd.prog 25 #[.iface 132 eu] W fun e w' => e = .returned (.int .i64 10) ∧ Below W.heap.size W w') := fun W hW => by
        have := num_code A W (HB.out _ hW) 10 (by decide)
        rw [hu10] at this
        exact this
      have HD := Lib.hid (done_err wr p 132 eu kp)
      have HRD := Lib.hid hS.rd
      have HBB := Lib.hid hS.bb
      clear hS kp kq
      go_wp2_with fail
      refine HD.out.mono ?_
      rintro r w2 ⟨rfl, hb2⟩
      have B2 := Lib.hid (belowT HBB.out hb2 (Nat.le_refl _))
      have HR2 := Lib.hid (HRD.out.later hb2)
      clear hb2
      go_wp2_with fail
      refine (HNm.out _ B2.out).mono ?_
      rintro r w3 ⟨rfl, hb3⟩
      have B3 := Lib.hid (belowT B2.out hb3 (Nat.le_refl _))
      have HR3 := Lib.hid (HR2.out.later hb3)
      clear hb3
      have kq3 := HR3.out.c0
      rw [hu10] at kq3
      have HER := Lib.hid (err_any w3 q _ kq3 (.inr ⟨_, rfl⟩))
      clear kq3
      go_wp2_with fail
      refine HER.out.mono ?_
      rintro r w4 ⟨rfl, rfl⟩
      go_wp2_with fail
      refine (HNm.out _ B3.out).mono ?_
      rintro r w5 ⟨rfl, hb5⟩
      have B5 := Lib.hid (belowT B3.out hb5 (Nat.le_refl _))
      have hd := rdone_any A w5 (HB.out _ B5.out).long q sl' ⟨10, xs⟩ (HR3.out.later hb5)
      rw [show RS.fin ⟨10, xs⟩ = 10 from rfl, hu10] at hd
      have HD5 := Lib.hid hd
      clear hb5 hd
      go_wp2_with fail
      refine HD5.out.mono ?_
      rintro r w6 ⟨rfl, rfl⟩
      go_wp2_with fail
      refine (HNm.out _ B5.out).mono ?_
      rintro r w7 ⟨rfl, hb7⟩
      have B7 := Lib.hid (belowT B5.out hb7 (Nat.le_refl _))
      clear hb7
      go_wp2_with fail
      go_ret
      exact ⟨rfl, B7.out⟩

theorem wireStops_walk (A : List Addr) (w : World) (h : Sents G18 132 A w) (a : Option Addr) (n c : Nat) (xs : List Int) (hx : RowAt .u8 w a n c xs) (b : Option Addr) (n2 c2 : Nat) (z : Nat → Op5) (hz : OpsAt w b n2 c2 z) :
    Calls Tryd.prog 15 #[.slice a n c, .slice b n2 c2] w fun e w' => e = .returned (.bool true) ∧ Below w.heap.size w w' := by
  by_cases hl : 500 < n
  · exact stops_far A w h a b n c n2 c2 (by
      have := Nat.le_trans hx.1 hx.2.1
      unfold maxLen at this
      omega) hl
  · obtain rfl : n = xs.length := hx.2.2.1.symm
    exact stops_near A w h a b c n2 c2 xs hx z hz hl

end Go.Proofs.YtadonpfpneanhaaDoor
