/- The walk of WireWrites: which bytes every row of writes makes, and its first error. -/
import Derived.Test.YtadonpfpneanhaaDoorO8
namespace Go.Proofs.YtadonpfpneanhaaDoor
open Go.RowKit

/-- The writer, the wanted bytes and the first error behind so many ops. -/
def wsAt (z : Nat → Op5) : Nat → WS
  | 0 => ⟨0, []⟩
  | k + 1 => (wsAt z k).op (z k)
def wantAt (z : Nat → Op5) : Nat → List Int
  | 0 => []
  | k + 1 => wantAt z k ++ (z k).bytes
def errAt (z : Nat → Op5) : Nat → Nat
  | 0 => 0
  | k + 1 => if errAt z k = 0 then (z k).code else errAt z k
theorem ws_law (z : Nat → Op5) (k : Nat) : (wsAt z k).c = errAt z k ∧ (errAt z k = 0 → (wsAt z k).bs = wantAt z k) := by
  induction k with
  | zero => exact ⟨rfl, fun _ => rfl⟩
  | succ k ih =>
    obtain ⟨h1, h2⟩ := ih
    unfold wsAt errAt wantAt WS.op WS.put Op5.bytes
    rw [h1]
    by_cases h0 : errAt z k = 0
    · by_cases hc : (z k).code = 0
      · simp [h0, hc, h2 h0]
      · simp [h0, hc]
    · simp [h0, h1]
theorem code_le (o : Op5) : o.code ≤ 18 := by
  unfold Op5.code
  split
  · split <;> omega
  · split
    · split <;> omega
    · split
      · split <;> omega
      · split <;> omega
theorem err_le (z : Nat → Op5) (k : Nat) : errAt z k ≤ 18 := by
  induction k with
  | zero => exact Nat.zero_le _
  | succ k ih =>
    unfold errAt
    split
    · exact code_le _
    · exact ih
theorem bytes_le (o : Op5) (h : o.xs.length ≤ 400) : o.bytes.length ≤ 402 := by
  unfold Op5.bytes
  split
  · rename_i hc
    unfold Op5.code at hc
    unfold Op5.out
    by_cases h1 : o.k = 1
    · rw [if_pos h1] at hc ⊢
      have hb : ¬ BadN o.n o.width := fun h => by rw [if_pos h] at hc; omega
      unfold BadN at hb
      rw [be_length]
      omega
    · rw [if_neg h1]
      split
      · simp
      · split
        · omega
        · split
          · simp [be_length]; omega
          · split
            · simp; omega
            · simp
  · simp
theorem want_le (z : Nat → Op5) (n : Nat) (h : ∀ i, i < n → (z i).xs.length ≤ 400) (k : Nat) (hk : k ≤ n) : (wantAt z k).length ≤ 402 * k := by
  induction k with
  | zero => simp [wantAt]
  | succ k ih =>
    have h1 := ih (by omega)
    have h2 := bytes_le (z k) (h k (by omega))
    unfold wantAt
    rw [List.length_append]
    omega
theorem ws_le (z : Nat → Op5) (n : Nat) (h : ∀ i, i < n → (z i).xs.length ≤ 400) (k : Nat) (hk : k ≤ n) : (wsAt z k).bs.length ≤ 402 * k := by
  induction k with
  | zero => simp [wsAt]
  | succ k ih =>
    have h1 := ih (by omega)
    have h2 := bytes_le (z k) (h k (by omega))
    unfold wsAt WS.op WS.put
    unfold Op5.bytes at h2
    split
    · omega
    · split
      · show (wsAt z k).bs.length ≤ _; omega
      · rename_i hc
        rw [if_pos (by omega)] at h2
        simp
        omega

theorem own_same {w w' : World} {B n size : Nat} {e : TypeId} {v : Value} {xs : List Value} (h : w.ownsRow B e size v n xs) (hs : ∀ g, v.ownBlock = some g → w'.heap[g]? = w.heap[g]?) : w'.ownsRow B e size v n xs := by
  refine ⟨h.1, ?_⟩
  rcases h.2 with hh | ⟨g, cap, cur, rfl, hb0, hgb, rest⟩
  · exact .inl hh
  · exact .inr ⟨g, cap, cur, rfl, hb0, (hs g rfl).trans hgb, rest⟩
theorem Wr.grow {w w' : World} {p : Nat} {e v : Value} {bs : List Int} {r : Option Nat} (h : Wr w p e v bs) (hg : w.grownBy w' r) (hp : r ≠ some p) (hv : ∀ g, v.ownBlock = some g → r ≠ some g) : Wr w' p e v bs :=
  ⟨(hg.block p h.lt (fun x => hp x.symm)).trans h.blk, own_same h.own (fun g hg' => hg.block g (h.own.lt g hg').2 (fun x => hv g hg' x.symm))⟩

/-- The loop's memory. -/
structure Writes (A : List Addr) (w wr : World) (p : Nat) (v wv : Value) (z : Nat → Op5) (k : Nat) : Prop where
  wr' : Wr wr p (errV A (wsAt z k).c) v (wsAt z k).bs
  want : wr.ownsRow 0 5 1 wv (wantAt z k).length (u8s (wantAt z k))
  vp : ∀ g, wv.ownBlock = some g → w.heap.size ≤ g ∧ g ≠ p
  vv : ∀ g, v.ownBlock = some g → w.heap.size ≤ g ∧ wv.ownBlock ≠ some g
  bb : Below w.heap.size w wr

set_option maxHeartbeats 4000000 in
set_option maxRecDepth 100000 in
theorem wireWrites_walk (A : List Addr) (w : World) (h : Sents G18 132 A w) (b : Option Addr) (n2 c2 : Nat) (z : Nat → Op5) (hz : OpsAt w b n2 c2 z) :
    Calls Tryd.prog 6 #[.slice b n2 c2] w fun e w' => e = .returned (.bool true) ∧ Below w.heap.size w w' := by
  obtain ⟨i0, hi, hz0, hz1, hz2⟩ := info_parts Tryd.info5
  have HB : Hid (∀ W', Below w.heap.size w W' → Sents G18 132 A W') := fun W' hW => h.later hW
  have HZ := Lib.hid hz
  have H18 := Lib.hid h.size
  have hn2 : (n2 : Int) ≤ 9223372036854775807 := by
    have := Nat.le_trans hz.1 hz.2.1
    unfold maxLen at this
    omega
  have HAL := Lib.hid (alive01 A w h.ers)
  clear hz h
  go_enter Tryd.func6, Tryd.ntmps6
  go_wp2_with fail
  refine HAL.out.mono ?_
  rintro e w1 ⟨rfl, b1⟩
  have HLG := Lib.hid (long_any w1 b n2 c2 z (HZ.out.below b1))
  have B1 := Lib.hid b1
  clear b1 HAL
  go_wp2_with fail
  refine HLG.out.mono ?_
  rintro e w2 ⟨lb, rfl, hlb, b2⟩
  have B2 := Lib.hid (belowT B1.out b2 (Nat.le_refl _))
  have HLB := Lib.hid hlb
  clear b2 HLG hlb
  cases lb with
  | true =>
    go_wp2_with fail
    go_ret
    exact ⟨rfl, B2.out⟩
  | false =>
  go_wp2_with fail
  refine (new_writer _).mono ?_
  rintro e w3 ⟨rfl, rfl⟩
  have hwr := Wr.new w2
  have hb3 := belowN w2 (.cells #[.nilIface, .slice none 0 0] 92)
  have B3 := Lib.hid (belowT B2.out hb3 (Nat.le_refl _))
  have hpB : w.heap.size ≤ w2.heap.size := B2.out.size
  generalize w2.alloc (.cells #[.nilIface, .slice none 0 0] 92) = W3 at *
  generalize w2.heap.size = p at *
  have hwl := hwr.lt
  have HF0 : Hid (Writes A w (W3.alloc (.cells #[] 5)) p noV (.slice (some ⟨W3.heap.size, 0, none⟩) 0 0) z 0) :=
    ⟨hwr.later (belowN _ _), World.ownsRow_lit W3 #[] 0 (Nat.zero_le _) (Nat.zero_le _) rfl, fun g hg => by
      obtain rfl : W3.heap.size = g := by simpa [Value.ownBlock] using hg
      exact ⟨B3.out.size, by omega⟩, fun g hg => by simp [Value.ownBlock] at hg, belowT B3.out (belowN _ _) (Nat.le_refl _)⟩
  clear hwr hb3 hwl
  go_wp2_with fail
  generalize W3.alloc (.cells #[] 5) = W4 at *
  generalize W3.heap.size = q at *
  go_loopw [4, 5, 20] (fun wv e i wr => ∃ (k : Nat) (v : Value), k ≤ n2 ∧ i = .int .i64 k ∧ e = .int .i64 (errAt z k : Nat) ∧ Writes A w wr p v wv z k) (fun _ _ i _ => n2 - (intOf i).toNat)
  case atStart => exact ⟨0, noV, Nat.zero_le _, rfl, rfl, HF0.out⟩
  case round =>
    clear HF0
    obtain ⟨k, v, hk, rfl, rfl, hS⟩ := hrel
    have HS := Lib.hid hS
    obtain ⟨wa, wl, wc, rfl⟩ := slice_of_own hS.want
    by_cases hlt : k < n2
    · obtain ⟨bs, off, rfl, k0, k1, k2, k3, k4⟩ := HZ.out.at hS.bb hlt
      have hb1 := belowN wr (opB (z k).k (z k).n (z k).width (z k).most (z k).sl)
      have hbw := belowT hS.bb hb1 (Nat.le_refl _)
      have hP : Pen A (wr.alloc (opB (z k).k (z k).n (z k).width (z k).most (z k).sl)) p v (z k).sl (wsAt z k) (z k).xs :=
        ⟨(HB.out _ hbw).ers, hS.wr'.later hb1, (HZ.out.2.2.1 k hlt).1.below hbw, (HZ.out.2.2.1 k hlt).1.away hpB (fun g hg => (hS.vv g hg).1), ⟨by have := H18.out; omega, fun g hg => by have := H18.out; have := (hS.vv g hg).1; omega⟩⟩
      have hwa := write_any A _ p v (z k).sl (wsAt z k) (z k).k (z k).n (z k).width (z k).most (z k).xs hP (HB.out _ hbw).old (HZ.out.2.2.1 k hlt).2.1 (by
        have h1 := (HLB.out trivial).2 k hlt
        have h2 := ws_le z n2 (HLB.out trivial).2 k hk
        have h3 := (HLB.out trivial).1
        omega)
      rw [show (wsAt z k).op ⟨(z k).k, (z k).n, (z k).width, (z k).most, (z k).sl, (z k).xs⟩ = wsAt z (k + 1) from rfl] at hwa
      have hwt : ∀ W, Below w.heap.size w W → Calls Tryd.prog 31 #[opV (z k).k (z k).n (z k).width (z k).most (z k).sl] W fun r w' => ∃ v, r = .returned (.tuple #[v, .int .i64 ((z k).code : Int)]) ∧ Src w' v (z k).bytes ∧ Below W.heap.size W w' := fun W hW => written_any W (z k).k (z k).n (z k).width (z k).most (z k).sl (z k).xs ((HZ.out.2.2.1 k hlt).below hW) ((HLB.out trivial).2 k hlt)
      have HWT := Lib.hid hwt
      have HWA := Lib.hid hwa
      have HBX : Hid ((wr.alloc (opB (z k).k (z k).n (z k).width (z k).most (z k).sl)).heap[wr.heap.size]? = some (opB (z k).k (z k).n (z k).width (z k).most (z k).sl)) := heap_alloc_new wr _
      have HWB := Lib.hid (And.intro hP.wr (And.intro (hS.want.alloc (opB (z k).k (z k).n (z k).width (z k).most (z k).sl)) hbw))
      have HOG : Hid (∀ g, v.ownBlock = some g → g < wr.heap.size) := fun g hg => (hS.wr'.own.lt g hg).2
      have HPW : Hid (p < wr.heap.size) := hS.wr'.lt
      obtain ⟨a4, c4, h4⟩ := (HZ.out.2.2.1 k hlt).1.len
      clear hS hb1 hbw hP hwa hwt
      rw [h4] at HWA HBX k4
      rw [h4] at HWB HWT
      clear h4
      generalize (z k).xs.length = L at *
      generalize hx0 : (z k).k = x0 at *
      generalize hx1 : (z k).n = x1 at *
      generalize hx2 : (z k).width = x2 at *
      generalize hx3 : (z k).most = x3 at *
      clear hx0 hx1 hx2 hx3
      go_wp2_with fail
      generalize wr.heap.size = bx at *
      generalize wr.alloc (opB x0 x1 x2 x3 (.slice a4 L c4)) = W1 at *
      clear k0 k1 k2 k3 k4
      refine HWA.out.mono ?_
      rintro r w5 ⟨rfl, v5, hW5, hU5⟩
      obtain ⟨hWW, hWnt, hbw⟩ := HWB.out
      have hpx : bx ≠ p := by have := HPW.out; omega
      have hbx5 := (hU5.same bx (Array.getElem?_eq_some_iff.1 HBX.out).1 hpx (fun e => by have := HOG.out bx e.symm; omega)).trans HBX.out
      obtain ⟨hb5, -⟩ := hU5.below (B := w.heap.size) hpB hbw.size (fun g hg => (HS.out.vv g hg).1)
      have hwant5 := own_same hWnt (fun g hg => hU5.same g (hWnt.lt g hg).2 (HS.out.vp g hg).2 (fun e => (HS.out.vv g e.symm).2 hg))
      have HV5 : Hid (∀ g, v5.ownBlock = some g → w.heap.size ≤ g ∧ Value.ownBlock (.slice wa wl wc) ≠ some g) := fun g hg => by
        rcases hU5.own g hg with h1 | h1
        · exact HS.out.vv g h1
        · exact ⟨Nat.le_trans hbw.size h1, fun e => by have := (hWnt.lt g e).2; omega⟩
      have B5 := Lib.hid (hbw.trans hb5)
      have HW5 := Lib.hid (And.intro hW5 hwant5)
      have c0 := cell_of_blk hbx5 0
      have c1 := cell_of_blk hbx5 1
      have c2 := cell_of_blk hbx5 2
      have c3 := cell_of_blk hbx5 3
      have c4' := cell_of_blk hbx5 4
      replace c0 : w5.cell? ⟨bx, 0, none⟩ = some (.int .i64 x0) := c0
      replace c1 : w5.cell? ⟨bx, 1, none⟩ = some (.int .i64 x1) := c1
      replace c2 : w5.cell? ⟨bx, 2, none⟩ = some (.int .i64 x2) := c2
      replace c3 : w5.cell? ⟨bx, 3, none⟩ = some (.int .i64 x3) := c3
      replace c4' : w5.cell? ⟨bx, 4, none⟩ = some (.slice a4 L c4) := c4'
      clear hW5 hU5 hWW hWnt hbw hbx5 hb5 hwant5 HWA HBX HWB HOG
      go_wp2_with fail
      refine (HWT.out w5 B5.out).mono ?_
      rintro r w6 ⟨bv, rfl, hsv, hb6⟩
      obtain ⟨a6, c6, rfl⟩ := hsv.len
      have B6 := Lib.hid (belowT B5.out hb6 (Nat.le_refl _))
      have HW6 := Lib.hid (HW5.out.1.later hb6)
      have hwant6 := own_same HW5.out.2 (fun g hg => hb6.block g (HW5.out.2.lt g hg).2)
      have hble := bytes_le (z k) ((HLB.out trivial).2 k hlt)
      have hwle := want_le z n2 (HLB.out trivial).2 k hk
      have hn40 := (HLB.out trivial).1
      have hn1 : (wantAt z k).length + (z k).bytes.length ≤ maxLen := by unfold maxLen; omega
      have hn2' : ((wantAt z k).length + (z k).bytes.length) * 1 ≤ 140737488355328 := by omega
      have hnews : (u8s (z k).bytes).length = (z k).bytes.length * 1 := by simp
      have hone := u8s_oneCell (z k).bytes
      have herr : errAt z (k + 1) = if errAt z k = 0 then (z k).code else errAt z k := rfl
      clear hb6 c0 c1 c2 c3 c4' HW5 B5 hble hwle hn40
      have hfin : ∀ (wv' : Value) (w7 : World), w7.ownsRow 0 5 1 wv' (wantAt z (k + 1)).length (u8s (wantAt z (k + 1))) → w6.grownBy w7 (Value.ownBlock (.slice wa wl wc)) → (wv'.ownBlock = Value.ownBlock (.slice wa wl wc) ∨ wv'.ownBlock = some w6.heap.size) → Writes A w w7 p v5 wv' z (k + 1) := by
        intro wv' w7 ho hg hat
        have hp6 := HW6.out.lt
        refine ⟨HW6.out.grow hg (fun e => (HS.out.vp p e).2 rfl) (fun g hg' e => (HV5.out g hg').2 e), ho, fun g hg' => ?_, fun g hg' => ⟨(HV5.out g hg').1, fun e => ?_⟩, B6.out.grown hg B6.out.size (fun g e => (HS.out.vp g e).1)⟩
        · rcases hat with h1 | h1
          · exact HS.out.vp g (h1 ▸ hg')
          · rw [h1] at hg'
            obtain rfl := Option.some.inj hg'
            exact ⟨B6.out.size, by omega⟩
        · rcases hat with h1 | h1
          · exact (HV5.out g hg').2 (h1 ▸ e)
          · rw [h1] at e
            obtain rfl := Option.some.inj e
            exact absurd (HW6.out.own.lt _ hg').2 (Nat.lt_irrefl _)
      have HFIN := Lib.hid hfin
      clear hfin
      rcases hsv with ⟨he, hx⟩ | ⟨ad, c', he, hc1, hc2, hcs⟩
      · obtain ⟨rfl, h0, rfl⟩ : a6 = none ∧ (z k).bytes.length = 0 ∧ c6 = 0 := by injection he with e1 e2 e3; exact ⟨e1, e2, e3⟩
        have HNX : Hid (Writes A w w6 p v5 (.slice wa wl wc) z (k + 1)) := HFIN.out _ _ (by
          show w6.ownsRow 0 5 1 _ (wantAt z k ++ (z k).bytes).length (u8s (wantAt z k ++ (z k).bytes))
          rw [hx, List.append_nil]
          exact hwant6) (grown_self _ _) (.inl rfl)
        rw [h0]
        clear he h0 hx hn1 hn2' hnews hone HFIN
        by_cases h0 : errAt z k = 0
        · rw [if_pos h0] at herr
          rw [h0]
          go_wp2_with (first
            | (at_builtin; refine wpList_append_own_none rfl (.tmp 35) (.tmp 36) 22 rfl 0 5 i0 1 Tryd.underlying22 hi _ (wantAt z k).length (u8s (wantAt z k)) rfl hwant6 rfl ?_))
          go_roundw
          case rel => exact ⟨k + 1, v5, by omega, by go_num, by rw [herr], HNX.out⟩
          case measure => simp [intOf]; omega
        · rw [if_neg h0] at herr
          have hne : ¬ ((errAt z k : Nat) : Int) = 0 := by omega
          go_wp2_with (first
            | (at_builtin; refine wpList_append_own_none rfl (.tmp 35) (.tmp 36) 22 rfl 0 5 i0 1 Tryd.underlying22 hi _ (wantAt z k).length (u8s (wantAt z k)) rfl hwant6 rfl ?_))
          go_roundw
          case rel => exact ⟨k + 1, v5, by omega, by go_num, by rw [herr], HNX.out⟩
          case measure => simp [intOf]; omega
      · obtain rfl : a6 = some ad := by injection he
        clear he hc1 hc2
        by_cases h0 : errAt z k = 0
        · rw [if_pos h0] at herr
          rw [h0]
          go_wp2_with (first
            | (at_builtin; refine wpList_append_own_at _ rfl (.tmp 35) (.tmp 36) 22 rfl 0 5 i0 (.int .u8 0) 1 1 Tryd.underlying22 hi hz0 hz1 hz2 rfl (by decide) _ (wantAt z k).length (u8s (wantAt z k)) rfl hwant6 ad (z k).bytes.length c6 (u8s (z k).bytes) rfl hnews hcs hone hn1 hn2' (Nat.zero_le _) ?_; intro wv' w7 hown hgrow _ hat))
          go_roundw
          case rel => exact ⟨k + 1, v5, by omega, by go_num, by rw [herr], HFIN.out wv' w7 (own_join hown) hgrow hat⟩
          case measure => simp [intOf]; omega
        · rw [if_neg h0] at herr
          have hne : ¬ ((errAt z k : Nat) : Int) = 0 := by omega
          go_wp2_with (first
            | (at_builtin; refine wpList_append_own_at _ rfl (.tmp 35) (.tmp 36) 22 rfl 0 5 i0 (.int .u8 0) 1 1 Tryd.underlying22 hi hz0 hz1 hz2 rfl (by decide) _ (wantAt z k).length (u8s (wantAt z k)) rfl hwant6 ad (z k).bytes.length c6 (u8s (z k).bytes) rfl hnews hcs hone hn1 hn2' (Nat.zero_le _) ?_; intro wv' w7 hown hgrow _ hat))
          go_roundw
          case rel => exact ⟨k + 1, v5, by omega, by go_num, by rw [herr], HFIN.out wv' w7 (own_join hown) hgrow hat⟩
          case measure => simp [intOf]; omega
    · have hke : k = n2 := by omega
      subst hke
      obtain ⟨l1, l2⟩ := ws_law z k
      have hwr := hS.wr'
      rw [l1] at hwr
      have hle := ws_le z k (HLB.out trivial).2 k (Nat.le_refl _)
      have hn40 := (HLB.out trivial).1
      clear hS
      by_cases h0 : errAt z k = 0
      · rw [h0, errV_zero, l2 h0] at hwr
        rw [l2 h0] at hle
        rw [h0]
        have HD := Lib.hid (done_ok wr p v _ hwr (by omega))
        clear hwr hle
        go_wp2_with fail
        refine HD.out.mono ?_
        rintro r w5 ⟨v5, rfl, ho, hb5⟩
        have B5 := Lib.hid (belowT HS.out.bb hb5 (Nat.le_refl _))
        have hs1 := str_src (Src.of_own ho)
        have hs2 := str_src (Src.of_own (own_same HS.out.want (fun g hg => hb5.block g (HS.out.want.lt g hg).2)))
        clear ho hb5
        go_wp2_with fail
        go_ret
        exact ⟨by simp, B5.out⟩
      · obtain ⟨eu, heu⟩ := errV_pos A h0
        have hnm : ∀ W, Below w.heap.size w W → Calls Tryd.prog 25 #[errV A (errAt z k)] W fun e w' => e = .returned (.int .i64 (errAt z k : Nat)) ∧ Below W.heap.size W w' := fun W hW => num_code A W (HB.out _ hW) _ (err_le z k)
        rw [heu] at hnm hwr
        have HNm := Lib.hid hnm
        have HD := Lib.hid (done_err wr p 132 eu hwr.c0)
        have hne : ¬ ((errAt z k : Nat) : Int) = 0 := by omega
        clear hwr hle hnm
        go_wp2_with fail
        refine HD.out.mono ?_
        rintro r w5 ⟨rfl, hb5⟩
        have B5 := Lib.hid (belowT HS.out.bb hb5 (Nat.le_refl _))
        clear hb5
        go_wp2_with fail
        refine (HNm.out _ B5.out).mono ?_
        rintro r w6 ⟨rfl, hb6⟩
        have B6 := Lib.hid (belowT B5.out hb6 (Nat.le_refl _))
        clear hb6
        go_wp2_with fail
        go_ret
        exact ⟨by simp, B6.out⟩

end Go.Proofs.YtadonpfpneanhaaDoor
