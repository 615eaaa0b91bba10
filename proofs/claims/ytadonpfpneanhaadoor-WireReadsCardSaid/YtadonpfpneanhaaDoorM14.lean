/- The walk of WireReads: what every row of reads answers of all bytes, and its first error. -/
import Derived.Test.YtadonpfpneanhaaDoorM13
import Derived.Test.YtadonpfpneanhaaDoorN1
namespace Go.Proofs.YtadonpfpneanhaaDoor
open Go.RowKit

theorem Src.block_lt {w : World} {v : Value} {xs : List Int} (h : Src w v xs) (hx : xs ≠ []) : ∀ ad l c, v = .slice (some ad) l c → ad.block < w.heap.size := by
  intro ad l c e
  rcases h with ⟨_, h⟩ | ⟨ad', c', e', _, _, h3⟩
  · exact absurd h hx
  · rw [e'] at e
    cases e
    cases xs with
    | nil => exact absurd rfl hx
    | cons x t =>
      have := World.block_lt_of_cell? w _ (h3 0 (.int .u8 x) rfl)
      rwa [add_block] at this
theorem Marked.low {w w' : World} {v : Value} {xs : List Int} {g N : Nat} (h : Marked w v xs g) (hb : Below N w w') (hg : g < N) : Marked w' v xs g := by
  obtain ⟨cap, rfl, h1, h2, h3⟩ := h
  exact ⟨cap, rfl, h1, h2, fun j u hj => (hb.cell (p := ⟨g, j, none⟩) hg).trans (h3 j u hj)⟩

/-- The loop's memory. -/
structure Reads (A : List Addr) (w wr : World) (q m g : Nat) (b v : Value) (B : List Int) (sl : Value) (s : RS) : Prop where
  eye : Eye A wr q sl s
  mr : Mr wr m b B s
  qm : q < m
  gq : g < q
  wq : w.heap.size ≤ q
  bq : B ≠ [] → ∀ ad l c, b = .slice (some ad) l c → ad.block < w.heap.size
  mrk : Marked wr v B g
  bel : Below w.heap.size w wr
  few : s.c ≤ 18
theorem Reads.st {A : List Addr} {w wr : World} {q m g : Nat} {b v : Value} {B : List Int} {sl : Value} {s : RS} (h : Reads A w wr q m g b v B sl s) (ob : Obj) : St A wr q m wr.heap.size b B ob (wr.alloc ob) sl s s [] :=
  ⟨h.eye.later (belowN _ _), h.mr.later (belowN _ _), h.qm, h.mr.lt, fun hB ad l c e => Nat.lt_of_lt_of_le (h.bq hB ad l c e) h.wq, heap_alloc_new wr _, (belowN wr ob).mono (Nat.le_of_lt h.eye.rd.lt), fun p hp => by cases hp⟩
theorem Reads.next {A : List Addr} {w wr w' : World} {q m g bx : Nat} {b v : Value} {B : List Int} {ob : Obj} {sl sl' : Value} {s s' : RS} {K : List (Value × List Int)} (h : Reads A w wr q m g b v B sl s) (h' : St A wr q m bx b B ob w' sl' s' s' K) (hc : s'.c ≤ 18) : Reads A w w' q m g b v B sl' s' :=
  ⟨h'.eye, h'.mr, h.qm, h.gq, h.wq, h.bq, h.mrk.low h'.bel h.gq, h.bel.trans (h'.bel.mono h.wq), hc⟩
theorem Reads.later {A : List Addr} {w wr w' : World} {q m g : Nat} {b v : Value} {B : List Int} {sl : Value} {s : RS} (h : Reads A w wr q m g b v B sl s) (hb : Below wr.heap.size wr w') : Reads A w w' q m g b v B sl s :=
  ⟨h.eye.later hb, h.mr.later hb, h.qm, h.gq, h.wq, h.bq, h.mrk.below hb, belowT h.bel hb (Nat.le_refl _), h.few⟩

set_option maxHeartbeats 1000000 in
set_option maxRecDepth 100000 in
theorem wireReads_far (A : List Addr) (w : World) (h : Sents G18 132 A w) (a b : Option Addr) (n c n2 c2 : Nat) (hn : (n : Int) ≤ 9223372036854775807) (hl : 1000 < n) :
    Calls Tryd.prog 14 #[.slice a n c, .slice b n2 c2] w fun e w' => e = .returned (.bool true) ∧ Below w.heap.size w w' := by
  go_enter Tryd.func14, Tryd.ntmps14
  go_wp2_with fail
  refine (alive01 A w h.ers).mono ?_
  rintro e w1 ⟨rfl, b1⟩
  go_wp2_with fail
  go_ret
  exact ⟨rfl, b1⟩

set_option maxHeartbeats 4000000 in
set_option maxRecDepth 100000 in
theorem wireReads_near (A : List Addr) (w : World) (h : Sents G18 132 A w) (a b : Option Addr) (c n2 c2 : Nat) (xs : List Int) (hx : RowAt .u8 w a xs.length c xs) (z : Nat → Op5) (hz : OpsAt w b n2 c2 z) (hl : ¬ 1000 < xs.length) :
    Calls Tryd.prog 14 #[.slice a xs.length c, .slice b n2 c2] w fun e w' => e = .returned (.bool true) ∧ Below w.heap.size w w' := by
  have HB : Hid (∀ W', Below w.heap.size w W' → Sents G18 132 A W') := fun W' hW => h.later hW
  have HX := Lib.hid hx
  have HZ := Lib.hid hz
  have H18 := Lib.hid h.size
  have hl2 : ¬ (1000 : Int) < xs.length := by omega
  have hn2 : (n2 : Int) ≤ 9223372036854775807 := by
    have := Nat.le_trans hz.1 hz.2.1
    unfold maxLen at this
    omega
  have HAL := Lib.hid (alive01 A w h.ers)
  clear hx hz h
  go_enter Tryd.func14, Tryd.ntmps14
  go_wp2_with fail
  refine HAL.out.mono ?_
  rintro e w1 ⟨rfl, b1⟩
  have HLG := Lib.hid (long_any w1 b n2 c2 z (HZ.out.below b1))
  have B1 := Lib.hid b1
  clear b1 HAL
  go_wp2_with fail
  refine HLG.out.mono ?_
  rintro e w2 ⟨lb, rfl, hlb, b2⟩
  have B2 := Lib.hid (belowT B1.out b2 (Nat.le_refl _))
  have HLB := Lib.hid hlb
  clear b2 HLG hlb
  cases lb with
  | true =>
    go_wp2_with fail
    go_ret
    exact ⟨rfl, B2.out⟩
  | false =>
  have HMK := Lib.hid (marked_any w2 (.slice a xs.length c) xs (HX.out.src.below B2.out) (by omega))
  go_wp2_with fail
  refine HMK.out.mono ?_
  rintro e w3 ⟨v, g, rfl, hM3, hg1, hg2, b3⟩
  have B3 := Lib.hid (belowT B2.out b3 (Nat.le_refl _))
  have hsv : Src w3 v xs := by
    obtain ⟨cap, rfl, hh⟩ := hM3
    exact Marked.src ⟨cap, rfl, hh⟩
  have HNR := Lib.hid (new_reader w3 v xs hsv HX.out.by8 (by omega))
  have HM3 := Lib.hid (And.intro hM3 (And.intro hg1 hg2))
  clear b3 hM3 hg1 hg2 hsv HMK
  go_wp2_with fail
  refine HNR.out.mono ?_
  rintro e w4 ⟨q, sl, rfl, hq, hR, hb4⟩
  have HR0 : Hid (Reads A w (w4.alloc (.cells #[.slice a xs.length c, .int .i64 0, .int .i64 0] 86)) q w4.heap.size g (.slice a xs.length c) v xs sl ⟨0, xs⟩) := by
    have hb4' := belowT B3.out hb4 (Nat.le_refl _)
    have hbn := belowN w4 (.cells #[.slice a xs.length c, .int .i64 0, .int .i64 0] 86)
    have hbb := belowT hb4' hbn (Nat.le_refl _)
    have h18 := H18.out
    have hs3 := B3.out.size
    refine ⟨⟨(HB.out _ hbb).ers, hR.later hbn, by show xs.length ≤ _; omega, by omega⟩, ⟨⟨0, heap_alloc_new w4 _, fun _ => ⟨0, rfl, Nat.zero_le _, rfl⟩⟩, HX.out.src.below hbb, fun hB ad l c' e => ?_, HX.out.by8, by omega⟩, hR.lt, by have := HM3.out.2.2; omega, by omega, fun hB => HX.out.src.block_lt hB, (HM3.out.1.below hb4).below hbn, hbb, Nat.zero_le _⟩
    have h1 := HX.out.src.block_lt hB ad l c' e
    have h2 := hb4'.size
    omega
  clear hb4 hR HNR hq HM3 B3
  go_wp2_with fail
  generalize w4.alloc (.cells #[.slice a xs.length c, .int .i64 0, .int .i64 0] 86) = W5 at *
  generalize w4.heap.size = m at *
  go_loopw [28] (fun i wr => ∃ (k : Nat) (sl : Value) (s : RS), k ≤ n2 ∧ i = .int .i64 k ∧ Reads A w wr q m g (.slice a xs.length c) v xs sl s) (fun i _ => n2 - (intOf i).toNat)
  case atStart => exact ⟨0, sl, _, Nat.zero_le _, rfl, HR0.out⟩
  case round =>
    clear HR0
    obtain ⟨k, sl', s, hk, rfl, hS⟩ := hrel
    have HS := Lib.hid hS
    by_cases hlt : k < n2
    · obtain ⟨bs, off, rfl, k0, k1, k2, k3, k4⟩ := HZ.out.at hS.bel hlt
      have hb1 := (belowN wr (opB (z k).k (z k).n (z k).width (z k).most (z k).sl)).drew
      have hS1 := hS.later hb1
      have hst := hS1.st (opB (z k).k (z k).n (z k).width (z k).most (z k).sl)
      have hse := HB.out _ (belowT hS1.bel (belowN _ (opB (z k).k (z k).n (z k).width (z k).most (z k).sl)) (Nat.le_refl _))
      have hrd := reads_any A _ _ q m sl' (.slice a xs.length c) (z k).sl xs s (z k).k (z k).n (z k).width (z k).most hse.form hse.old hS1.eye.rd.by8 hst
      have hrc : (s.rop (z k).k (z k).n (z k).width (z k).most).c ≤ 18 := rop_c hS1.few _ _ _ _
      have hfin : ∀ W, W = (wr.alloc (opB (z k).k (z k).n (z k).width (z k).most (z k).sl)).drew → Calls Tryd.prog 52 #[.pointer (some ⟨q, 0, none⟩), .pointer (some ⟨m, 0, none⟩), opV (z k).k (z k).n (z k).width (z k).most (z k).sl] W fun r W' => r = .returned (.bool true) ∧ ∃ sl2 s2, Reads A w W' q m g (.slice a xs.length c) v xs sl2 s2 := fun W e => by
        subst e
        exact hrd.mono fun r W' ⟨e1, sl2, K, e2⟩ => ⟨e1, sl2, _, hS1.next e2 hrc⟩
      have HRD := Lib.hid hfin
      have HKD : Hid ((wr.alloc (opB (z k).k (z k).n (z k).width (z k).most (z k).sl)).heap[wr.heap.size]? = some (opB (z k).k (z k).n (z k).width (z k).most (z k).sl)) := heap_alloc_new wr _
      obtain ⟨a4, c4, h4⟩ := (HZ.out.2.2.1 k hlt).1.len
      clear hS hb1 hS1 hst hse hrd hrc hfin
      rw [h4] at HRD HKD k4
      clear h4
      generalize (z k).xs.length = L at *
      generalize (z k).k = x0 at *
      generalize (z k).n = x1 at *
      generalize (z k).width = x2 at *
      generalize (z k).most = x3 at *
      go_upto_region 10 with fail
      go_cut [48] (fun s wx => s = .bool false ∧ ∃ sl2 s2, Reads A w wx q m g (.slice a xs.length c) v xs sl2 s2)
      case first =>
        go_region_with (first
          | (go_at_call 52; refine (HRD.out _ rfl).mono ?_; rintro r w7 ⟨rfl, sl2, s2, P7⟩; have x7 := P7.mr.c2)
          | (go_at_call 21; refine (err_any _ q _ P7.eye.rd.c0 (errV_form _ _)).mono ?_; rintro r w8 ⟨rfl, rfl⟩)
          | (go_at_call 25; refine (num_code A _ (HB.out _ P7.bel) _ P7.few).mono ?_; rintro r w9 ⟨rfl, b9⟩; have P9 := P7.later b9; have x9 := P9.mr.c2))
        all_goals
          have HP : Hid (∃ sl2 s2, Reads A w w9 q m g (.slice a xs.length c) v xs sl2 s2) := ⟨_, _, P9⟩
          clear P7 x7 x9 P9
          go_wp2_with fail
          go_meet
          exact ⟨by first | rfl | simp [Act.put], HP.out⟩
      case rest =>
      obtain ⟨rfl, sl2, s2, hS2⟩ := hcut
      have HP := Lib.hid hS2
      clear hS2 HRD HKD k0 k1 k2 k3 k4
      go_wp2_with fail
      go_roundw
      case rel => first | exact ⟨k + 1, _, _, by omega, by go_num, HP.out⟩ | ((repeat apply Exists.intro); exact ⟨⟨by omega, by go_num, HP.out⟩, rfl⟩)
      case measure => simp [intOf]; omega
    · have hke : k = n2 := by omega
      subst hke
      have hfn : s.fin ≤ 18 := by
        unfold RS.fin
        split
        · omega
        · exact hS.few
      have HD := Lib.hid (rdone_any A wr (HB.out _ hS.bel).long q sl' s hS.eye.rd)
      have HN := Lib.hid (num_code A wr (HB.out _ hS.bel) s.fin hfn)
      clear hS hfn
      generalize hfv : s.fin = fv at *
      have HFV := Lib.hid hfv
      clear hfv
      go_wp2_with fail
      refine HD.out.mono ?_
      rintro r w7 ⟨rfl, rfl⟩
      go_wp2_with fail
      refine HN.out.mono ?_
      rintro r w8 ⟨rfl, b8⟩
      have hS8 := HS.out.later b8
      have hmd := mdone_any w8 m (.slice a xs.length c) xs s hS8.mr
      rw [HFV.out] at hmd
      have HMD := Lib.hid hmd
      have HS8 := Lib.hid hS8
      clear b8 hS8 hmd HN HD
      go_wp2_with fail
      refine HMD.out.mono ?_
      rintro r w9 ⟨rfl, n9, rfl⟩
      have hS9 := HS8.out.later (below_drewN_self _ w8 n9)
      have HKP := Lib.hid (kept_any _ v (.slice a xs.length c) xs g hS9.mrk hS9.mr.src (by omega))
      have HS9 := Lib.hid HS8.out.bel
      clear hS9
      go_wp2_with fail
      refine HKP.out.mono ?_
      rintro r w10 ⟨rfl, n10, rfl⟩
      go_wp2_with fail
      go_ret
      exact ⟨by first | rfl | simp, HS9.out.trans (below_drewN_self _ _ _)⟩

theorem wireReads_walk (A : List Addr) (w : World) (h : Sents G18 132 A w) (a : Option Addr) (n c : Nat) (xs : List Int) (hx : RowAt .u8 w a n c xs) (b : Option Addr) (n2 c2 : Nat) (z : Nat → Op5) (hz : OpsAt w b n2 c2 z) :
    Calls Tryd.prog 14 #[.slice a n c, .slice b n2 c2] w fun e w' => e = .returned (.bool true) ∧ Below w.heap.size w w' := by
  by_cases hl : 1000 < n
  · exact wireReads_far A w h a b n c n2 c2 (by have := Nat.le_trans hx.1 hx.2.1; unfold maxLen at this; omega) hl
  · obtain rfl : xs.length = n := hx.2.2.1
    exact wireReads_near A w h a b c n2 c2 xs hx z hz hl

end Go.Proofs.YtadonpfpneanhaaDoor
