/- The walk of WireBack: what is written is read by the same calls, to the end. -/
import Derived.Test.YtadonpfpneanhaaDoorN2
import Derived.Test.YtadonpfpneanhaaDoorO9
import Derived.Test.YtadonpfpneanhaaDoorS3
namespace Go.Proofs.YtadonpfpneanhaaDoor
open Go.RowKit

theorem bytes_in (o : Op5) (h8 : ∀ x ∈ o.xs, 0 ≤ x ∧ x < 256) : ∀ x ∈ o.bytes, 0 ≤ x ∧ x < 256 := by
  intro x hx
  unfold Op5.bytes at hx
  split at hx
  · rename_i hc
    unfold Op5.out at hx
    split at hx
    · exact be_in _ _ x hx
    · split at hx
      · rw [List.mem_singleton] at hx; omega
      · split at hx
        · exact h8 x hx
        · split at hx
          · rcases List.mem_append.1 hx with h | h
            · exact be_in _ _ x h
            · exact h8 x h
          · split at hx
            · rename_i h1 _ _ h4 h5
              unfold Op5.code at hc
              rw [if_neg h1, if_neg h4, if_pos h5] at hc
              rcases List.mem_cons.1 hx with h | h
              · split at hc
                · omega
                · omega
              · exact h8 x h
            · simp at hx
  · simp at hx
theorem want_in (z : Nat → Op5) (n : Nat) (h : ∀ i, i < n → ∀ x ∈ (z i).xs, 0 ≤ x ∧ x < 256) (k : Nat) (hk : k ≤ n) : ∀ x ∈ wantAt z k, 0 ≤ x ∧ x < 256 := by
  induction k with
  | zero => intro x hx; simp [wantAt] at hx
  | succ k ih =>
    intro x hx
    unfold wantAt at hx
    rcases List.mem_append.1 hx with h1 | h1
    · exact ih (by omega) x h1
    · exact bytes_in _ (h k (by omega)) x h1
theorem want_more (z : Nat → Op5) (n : Nat) : ∀ k, k ≤ n → ∃ t, wantAt z n = wantAt z k ++ t := by
  induction n with
  | zero =>
    intro k hk
    obtain rfl : k = 0 := by omega
    exact ⟨[], by simp⟩
  | succ n ih =>
    intro k hk
    by_cases hx : k = n + 1
    · subst hx
      exact ⟨[], by simp⟩
    · obtain ⟨t, ht⟩ := ih k (by omega)
      exact ⟨t ++ (z n).bytes, by
        show wantAt z n ++ (z n).bytes = _
        rw [ht, List.append_assoc]⟩
theorem want_next {z : Nat → Op5} {n k : Nat} {t : List Int} (hk : k < n) (h : wantAt z n = wantAt z k ++ t) : ∃ t', t = (z k).bytes ++ t' ∧ wantAt z n = wantAt z (k + 1) ++ t' := by
  obtain ⟨t', ht⟩ := want_more z n (k + 1) (by omega)
  refine ⟨t', ?_, ht⟩
  have h2 : wantAt z k ++ t = wantAt z k ++ ((z k).bytes ++ t') := by
    rw [← h, ht]
    show wantAt z k ++ (z k).bytes ++ t' = _
    rw [List.append_assoc]
  exact List.append_cancel_left h2
theorem err_zero {z : Nat → Op5} {n : Nat} (h : errAt z n = 0) : ∀ k, k < n → (z k).code = 0 := by
  induction n with
  | zero => intro k hk; omega
  | succ n ih =>
    intro k hk
    unfold errAt at h
    by_cases h0 : errAt z n = 0
    · rw [if_pos h0] at h
      by_cases hx : k = n
      · subst hx; exact h
      · exact ih h0 k (by omega)
    · rw [if_neg h0] at h
      exact absurd h h0

set_option maxHeartbeats 4000000 in
set_option maxRecDepth 100000 in
theorem wireBack_walk (A : List Addr) (w : World) (h : Ers5 A w) (b : Option Addr) (n2 c2 : Nat) (z : Nat → Op5) (hz : OpsAt w b n2 c2 z) :
    Calls Tryd.prog 13 #[.slice b n2 c2] w fun e w' => e = .returned (.bool true) ∧ Below w.heap.size w w' := by
  have HB : Hid (∀ W', Below w.heap.size w W' → Ers5 A W') := fun W' hW => h.later hW
  have HZ := Lib.hid hz
  have H4 := Lib.hid h.three.size
  have hn2 : (n2 : Int) ≤ 9223372036854775807 := by
    have := Nat.le_trans hz.1 hz.2.1
    unfold maxLen at this
    omega
  have HAL := Lib.hid (alive01 A w h.three.ers)
  clear hz h
  go_enter Tryd.func13, Tryd.ntmps13
  go_wp2_with fail
  refine HAL.out.mono ?_
  rintro e w1 ⟨rfl, b1⟩
  have HLG := Lib.hid (long_any w1 b n2 c2 z (HZ.out.below b1))
  have B1 := Lib.hid b1
  clear b1 HAL
  go_wp2_with fail
  refine HLG.out.mono ?_
  rintro e w2 ⟨lb, rfl, hlb, b2⟩
  have B2 := Lib.hid (belowT B1.out b2 (Nat.le_refl _))
  have HLB := Lib.hid hlb
  clear b2 HLG hlb
  cases lb with
  | true =>
    go_wp2_with fail
    go_ret
    exact ⟨rfl, B2.out⟩
  | false =>
  go_wp2_with fail
  refine (new_writer _).mono ?_
  rintro e w3 ⟨rfl, rfl⟩
  have hwr := Wr.new w2
  have hb3 := belowN w2 (.cells #[.nilIface, .slice none 0 0] 92)
  have B3 := Lib.hid (belowT B2.out hb3 (Nat.le_refl _))
  have hpB : w.heap.size ≤ w2.heap.size := B2.out.size
  generalize w2.alloc (.cells #[.nilIface, .slice none 0 0] 92) = W3 at *
  generalize w2.heap.size = p at *
  have HW3 := Lib.hid hwr
  clear hwr hb3
  go_wp2_with fail
  go_loopw [19] (fun i wr => ∃ (k : Nat) (v : Value), k ≤ n2 ∧ i = .int .i64 k ∧ Wr wr p (errV A (wsAt z k).c) v (wsAt z k).bs ∧ (∀ g, v.ownBlock = some g → w.heap.size ≤ g) ∧ Below w.heap.size w wr) (fun i _ => n2 - (intOf i).toNat)
  case atStart => exact ⟨0, noV, Nat.zero_le _, rfl, HW3.out, fun g hg => by simp [Value.ownBlock] at hg, B3.out⟩
  case round =>
    clear HW3 B3
    obtain ⟨k, v, hk, rfl, hW, hown, hbb⟩ := hrel
    have HW := Lib.hid hW
    have HBB := Lib.hid hbb
    by_cases hlt : k < n2
    · obtain ⟨bs, off, rfl, k0, k1, k2, k3, k4⟩ := HZ.out.at hbb hlt
      have hb1 := belowN wr (opB (z k).k (z k).n (z k).width (z k).most (z k).sl)
      have hbw := belowT hbb hb1 (Nat.le_refl _)
      have hP : Pen A (wr.alloc (opB (z k).k (z k).n (z k).width (z k).most (z k).sl)) p v (z k).sl (wsAt z k) (z k).xs :=
        ⟨(HB.out _ hbw).three.ers, hW.later hb1, (HZ.out.2.2.1 k hlt).1.below hbw, (HZ.out.2.2.1 k hlt).1.away hpB hown, ⟨by have := H4.out; omega, fun g hg => by have := H4.out; have := hown g hg; omega⟩⟩
      have hwa := write_any A _ p v (z k).sl (wsAt z k) (z k).k (z k).n (z k).width (z k).most (z k).xs hP (HB.out _ hbw).old (HZ.out.2.2.1 k hlt).2.1 (by
        have h1 := (HLB.out trivial).2 k hlt
        have h2 := ws_le z n2 (HLB.out trivial).2 k hk
        have h3 := (HLB.out trivial).1
        omega)
      rw [show (wsAt z k).op ⟨(z k).k, (z k).n, (z k).width, (z k).most, (z k).sl, (z k).xs⟩ = wsAt z (k + 1) from rfl] at hwa
      have HWA := Lib.hid hwa
      have HWB := Lib.hid (And.intro hown hbw)
      obtain ⟨a4, c4, h4⟩ := (HZ.out.2.2.1 k hlt).1.len
      clear hW hbb hb1 hbw hP hwa hown HW HBB
      rw [h4] at HWA k4
      rw [h4] at HWB
      clear h4
      generalize (z k).xs.length = L at *
      generalize (z k).k = x0 at *
      generalize (z k).n = x1 at *
      generalize (z k).width = x2 at *
      generalize (z k).most = x3 at *
      go_wp2_with fail
      clear k0 k1 k2 k3 k4
      refine HWA.out.mono ?_
      rintro r w5 ⟨rfl, v5, hW5, hU5⟩
      obtain ⟨hown, hbw⟩ := HWB.out
      obtain ⟨hb5, ho5⟩ := hU5.below (B := w.heap.size) hpB hbw.size hown
      have HN : Hid (Wr w5 p (errV A (wsAt z (k + 1)).c) v5 (wsAt z (k + 1)).bs ∧ (∀ g, v5.ownBlock = some g → w.heap.size ≤ g) ∧ Below w.heap.size w w5) := ⟨hW5, ho5, hbw.trans hb5⟩
      clear hW5 hU5 hown hbw hb5 ho5 HWA HWB
      go_wp2_with fail
      go_roundw
      case rel => exact ⟨k + 1, v5, by omega, by go_num, HN.out⟩
      case measure => simp [intOf]; omega
    · have hke : k = n2 := by omega
      subst hke
      obtain ⟨l1, l2⟩ := ws_law z k
      rw [l1] at hW
      have hle := ws_le z k (HLB.out trivial).2 k (Nat.le_refl _)
      have hn40 := (HLB.out trivial).1
      clear HW hown hbb
      by_cases h0 : errAt z k = 0
      · rw [h0, errV_zero, l2 h0] at hW
        rw [l2 h0] at hle
        have HD := Lib.hid (done_ok wr p v _ hW (by omega))
        have HLE := Lib.hid hle
        have HZ0 := Lib.hid (err_zero h0)
        clear hW hle l1 l2 h0
        go_wp2_with fail
        refine HD.out.mono ?_
        rintro r w5 ⟨v5, rfl, ho, hb5⟩
        have B5 := Lib.hid (belowT HBB.out hb5 (Nat.le_refl _))
        have HNR := Lib.hid (new_reader w5 v5 _ (Src.of_own ho) (want_in z k (fun i hi => (HZ.out.2.2.1 i hi).2.1) k (Nat.le_refl _)) (by have := HLE.out; omega))
        clear ho hb5
        go_wp2_with fail
        refine HNR.out.mono ?_
        rintro e w6 ⟨q, sl, rfl, hq, hR, hb6⟩
        have B6 := Lib.hid (belowT B5.out hb6 (Nat.le_refl _))
        have hqB : w.heap.size ≤ q := Nat.le_trans B5.out.size hq
        have HE6 : Hid (Eye A w6 q sl ⟨0, wantAt z k⟩) := ⟨(HB.out _ B6.out).three.ers, hR, by have := HLE.out; simp only; omega, by have := H4.out; omega⟩
        clear hR hb6 HNR hq
        go_wp2_with fail
        go_loopw [41] (fun i wr => ∃ (j : Nat) (t : List Int) (sl' : Value), j ≤ k ∧ i = .int .i64 j ∧ wantAt z k = wantAt z j ++ t ∧ Eye A wr q sl' ⟨0, t⟩ ∧ Below w.heap.size w wr) (fun i _ => k - (intOf i).toNat)
        case atStart => exact ⟨0, wantAt z k, sl, Nat.zero_le _, rfl, rfl, HE6.out, B6.out⟩
        case round =>
          clear HE6 B6
          obtain ⟨j, t, sl', hj, rfl, hsplit, hE, hbb⟩ := hrel
          have HE := Lib.hid hE
          have HBB := Lib.hid hbb
          by_cases hlt : j < k
          · obtain ⟨t', ht, hsplit'⟩ := want_next hlt hsplit
            obtain ⟨bs, off, rfl, k0, k1, k2, k3, k4⟩ := HZ.out.at hbb hlt
            have hb1 := belowN wr (opB (z j).k (z j).n (z j).width (z j).most (z j).sl)
            have hbw := belowT hbb hb1 (Nat.le_refl _)
            have hE1 := hE.later hb1
            have hkd : (wr.alloc (opB (z j).k (z j).n (z j).width (z j).most (z j).sl)).heap[wr.heap.size]? = some (opB (z j).k (z j).n (z j).width (z j).most (z j).sl) := heap_alloc_new wr _
            have hsr := (HZ.out.2.2.1 j hlt).1.below hbw
            have hcd := HZ0.out j hlt
            have hok := (HZ.out.2.2.1 j hlt).2
            have hl4 := (HLB.out trivial).2 j hlt
            have haw := (HZ.out.2.2.1 j hlt).1.away (p := q) (v := noV) hqB (fun g hg => by simp [Value.ownBlock] at hg)
            subst ht
            have hqx : q < wr.heap.size := hE.rd.lt
            clear hE hbb hb1 hsplit HE
            generalize hzj : z j = o at *
            obtain ⟨x0, x1, x2, x3, x4, xs⟩ := o
            simp only at k0 k1 k2 k3 k4 hbw hE1 hkd hsr hok hl4 haw
            obtain ⟨a4, c4, rfl⟩ := hsr.len
            go_upto_region 18 with fail
            generalize wr.heap.size = bx at *
            generalize wr.alloc (opB x0 x1 x2 x3 (.slice a4 xs.length c4)) = W1 at *
            clear k0 k1 k2 k3 k4
            have c0 := cell_of_blk hkd 0
            have c1 := cell_of_blk hkd 1
            have c2' := cell_of_blk hkd 2
            have c3 := cell_of_blk hkd 3
            have c4' := cell_of_blk hkd 4
            replace c0 : W1.cell? ⟨bx, 0, none⟩ = some (.int .i64 x0) := c0
            replace c1 : W1.cell? ⟨bx, 1, none⟩ = some (.int .i64 x1) := c1
            replace c2' : W1.cell? ⟨bx, 2, none⟩ = some (.int .i64 x2) := c2'
            replace c3 : W1.cell? ⟨bx, 3, none⟩ = some (.int .i64 x3) := c3
            replace c4' : W1.cell? ⟨bx, 4, none⟩ = some (.slice a4 xs.length c4) := c4'
            have HCELL : Hid (∀ w', Upd q W1 noV w' noV → ∀ i u, W1.cell? ⟨bx, i, none⟩ = some u → w'.cell? ⟨bx, i, none⟩ = some u) := fun w' hu i u hc => (hu.cell (World.block_lt_of_cell? W1 _ hc) (Nat.ne_of_gt hqx) (fun e => by simp [Value.ownBlock] at e)).trans hc
            have HSRC : Hid (∀ w', Upd q W1 noV w' noV → Src w' (.slice a4 xs.length c4) xs) := fun w' hu => hsr.keep haw hu
            have hsd := str_src (hsr.below ((Below.refl _ W1).drew))
            have HDONE : Hid (∀ w' sl2, Eye A w' q sl2 ⟨0, t'⟩ → Upd q W1 noV w' noV → ∃ (j' : Nat) (t : List Int) (sl' : Value), j' ≤ k ∧ Value.int .i64 ((j : Int) + 1) = .int .i64 j' ∧ wantAt z k = wantAt z j' ++ t ∧ Eye A w' q sl' ⟨0, t⟩ ∧ Below w.heap.size w w') := fun w' sl2 he hu =>
              ⟨j + 1, t', sl2, by omega, by go_num, hsplit', he, hbw.trans (hu.below (B := w.heap.size) hqB hbw.size (fun g hg => by simp [Value.ownBlock] at hg)).1⟩
            clear hkd hsplit' hzj haw hsr
            by_cases h1 : x0 = 1
            · subst h1
              have hbad : ¬ BadN x1 x2 := fun hb => by simp [Op5.code, hb] at hcd
              have hby : (⟨1, x1, x2, x3, .slice a4 xs.length c4, xs⟩ : Op5).bytes = be x1 x2 := by simp [Op5.bytes, hcd, Op5.out]
              rw [hby] at hE1
              have hn := rnum_eye A W1.drew q sl' _ (hE1.later ((Below.refl _ _).drew)) x2
              rw [(RS.number_back hbad hok.2.1.2 t').1, (RS.number_back hbad hok.2.1.2 t').2] at hn
              have HN : Hid (∀ W, W = W1.drew → Calls Tryd.prog 20 #[.pointer (some ⟨q, 0, none⟩), .int .i64 x2] W fun r w' => r = .returned (.int .i64 x1) ∧ w'.cell? ⟨bx, 1, none⟩ = some (.int .i64 x1) ∧ ∃ sl2, Eye A w' q sl2 ⟨0, t'⟩ ∧ Upd q W1 noV w' noV) := fun W e => by
                subst e
                exact hn.mono fun _ _ ⟨e1, sl2, e2, e3⟩ => ⟨e1, HCELL.out _ e3.of_drew _ _ c1, sl2, e2, e3.of_drew⟩
              clear hn hE1 hbad hby hcd hok
              go_upto_region 20 with fail
              go_cut [55] (fun s wx => s = .bool false ∧ ∃ sl2, Eye A wx q sl2 ⟨0, t'⟩ ∧ Upd q W1 noV wx noV)
              case first =>
                go_region_with (first
                  | (go_at_call 20; refine (HN.out _ rfl).mono ?_; rintro r w7 ⟨rfl, hk1, b7⟩))
                all_goals (go_wp2_with fail; go_meet; exact ⟨by simp, b7⟩)
              case rest =>
              obtain ⟨rfl, sl2, hE2, hU2⟩ := hcut
              have HD2 := Lib.hid (HDONE.out _ sl2 hE2 hU2)
              clear hE2 hU2 HN
              go_wp2_with fail
              go_roundw
              case rel => first | exact HD2.out | ((repeat apply Exists.intro); exact ⟨HD2.out, rfl⟩)
              case measure => simp [intOf]; omega
            by_cases h2 : x0 = 2
            · subst h2
              have hby : (⟨2, x1, x2, x3, .slice a4 xs.length c4, xs⟩ : Op5).bytes = [x1 % 2] := by simp [Op5.bytes, hcd, Op5.out]
              rw [hby] at hE1
              have hn := rflag_any A W1.drew (HB.out _ hbw.drew).form q sl' _ (hE1.later ((Below.refl _ _).drew))
              rw [show [x1 % 2] ++ t' = x1 % 2 :: t' from rfl, (RS.flag_back x1 t').1, (RS.flag_back x1 t').2] at hn
              have HN : Hid (∀ W, W = W1.drew → Calls Tryd.prog 47 #[.pointer (some ⟨q, 0, none⟩)] W fun r w' => r = .returned (.bool (decide (x1 % 2 = 1))) ∧ w'.cell? ⟨bx, 1, none⟩ = some (.int .i64 x1) ∧ ∃ sl2, Eye A w' q sl2 ⟨0, t'⟩ ∧ Upd q W1 noV w' noV) := fun W e => by
                subst e
                exact hn.mono fun _ _ ⟨e1, sl2, e2, e3⟩ => ⟨e1, HCELL.out _ e3.of_drew _ _ c1, sl2, e2, e3.of_drew⟩
              have hand := and_one x1
              clear hn hE1 hby hcd hok hsd
              go_upto_region 23 with fail
              go_cut [64] (fun s wx => s = .bool false ∧ ∃ sl2, Eye A wx q sl2 ⟨0, t'⟩ ∧ Upd q W1 noV wx noV)
              case first =>
                go_region_with (first
                  | (go_at_call 47; refine (HN.out _ rfl).mono ?_; rintro r w7 ⟨rfl, hk1, b7⟩))
                all_goals (go_wp2_with fail; go_meet; exact ⟨by simp; rfl, b7⟩)
              case rest =>
              obtain ⟨rfl, sl2, hE2, hU2⟩ := hcut
              have HD2 := Lib.hid (HDONE.out _ sl2 hE2 hU2)
              clear hE2 hU2 HN
              go_wp2_with fail
              go_roundw
              case rel => first | exact HD2.out | ((repeat apply Exists.intro); exact ⟨HD2.out, rfl⟩)
              case measure => simp [intOf]; omega
            by_cases h3 : x0 = 3
            · subst h3
              have hby : (⟨3, x1, x2, x3, .slice a4 xs.length c4, xs⟩ : Op5).bytes = xs := by simp [Op5.bytes, hcd, Op5.out]
              rw [hby] at hE1
              have hn := rfixed_any A W1.drew q sl' _ (hE1.later ((Below.refl _ _).drew)) xs.length
              rw [(RS.fixed_back xs t').1, (RS.fixed_back xs t').2] at hn
              have HN : Hid (∀ W, W = W1.drew → Calls Tryd.prog 48 #[.pointer (some ⟨q, 0, none⟩), .int .i64 xs.length] W fun r w' => ∃ ao co, r = .returned (.slice ao xs.length co) ∧ w'.cell? ⟨bx, 4, none⟩ = some (.slice a4 xs.length c4) ∧ (convert 22 9 (.slice ao xs.length co)).run Tryd.prog w' = .ok (.string (strOfNums xs)) w' ∧ (convert 22 9 (.slice a4 xs.length c4)).run Tryd.prog w' = .ok (.string (strOfNums xs)) w' ∧ ∃ sl2, Eye A w' q sl2 ⟨0, t'⟩ ∧ Upd q W1 noV w' noV) := fun W e => by
                subst e
                refine hn.mono ?_
                rintro _ w7 ⟨out, sl2, rfl, e1, e2, e3⟩
                obtain ⟨ao, co, rfl⟩ := e1.len
                exact ⟨ao, co, rfl, HCELL.out _ e3.of_drew _ _ c4', str_src e1, str_src (HSRC.out _ e3.of_drew), sl2, e2, e3.of_drew⟩
              clear hn hE1 hby hcd hok
              go_upto_region 26 with fail
              go_cut [76] (fun s wx => s = .bool false ∧ ∃ sl2, Eye A wx q sl2 ⟨0, t'⟩ ∧ Upd q W1 noV wx noV)
              case first =>
                go_region_with (first
                  | (go_at_call 48; refine (HN.out _ rfl).mono ?_; rintro r w7 ⟨ao, co, rfl, hk1, hk2, hk3, b7⟩))
                all_goals (go_wp2_with fail; go_meet; exact ⟨by simp, b7⟩)
              case rest =>
              obtain ⟨rfl, sl2, hE2, hU2⟩ := hcut
              have HD2 := Lib.hid (HDONE.out _ sl2 hE2 hU2)
              clear hE2 hU2 HN
              go_wp2_with fail
              go_roundw
              case rel => first | exact HD2.out | ((repeat apply Exists.intro); exact ⟨HD2.out, rfl⟩)
              case measure => simp [intOf]; omega
            by_cases h4 : x0 = 4
            · subst h4
              have hms : (xs.length : Int) ≤ x3 ∧ xs.length ≤ 65535 := by
                by_cases hb : x3 < (xs.length : Int) ∨ 65535 < (xs.length : Int)
                · simp [Op5.code, hb] at hcd
                · omega
              have hby : (⟨4, x1, x2, x3, .slice a4 xs.length c4, xs⟩ : Op5).bytes = be xs.length 2 ++ xs := by simp [Op5.bytes, hcd, Op5.out]
              rw [hby] at hE1
              have hn := rbytes_any A W1.drew q sl' _ (hE1.later ((Below.refl _ _).drew)) x3
              rw [(RS.bytes_back hms.1 hms.2 t').1, (RS.bytes_back hms.1 hms.2 t').2] at hn
              have HN : Hid (∀ W, W = W1.drew → Calls Tryd.prog 49 #[.pointer (some ⟨q, 0, none⟩), .int .i64 x3] W fun r w' => ∃ ao co, r = .returned (.slice ao xs.length co) ∧ w'.cell? ⟨bx, 4, none⟩ = some (.slice a4 xs.length c4) ∧ (convert 22 9 (.slice ao xs.length co)).run Tryd.prog w' = .ok (.string (strOfNums xs)) w' ∧ (convert 22 9 (.slice a4 xs.length c4)).run Tryd.prog w' = .ok (.string (strOfNums xs)) w' ∧ ∃ sl2, Eye A w' q sl2 ⟨0, t'⟩ ∧ Upd q W1 noV w' noV) := fun W e => by
                subst e
                refine hn.mono ?_
                rintro _ w7 ⟨out, sl2, rfl, e1, e2, e3⟩
                obtain ⟨ao, co, rfl⟩ := e1.len
                exact ⟨ao, co, rfl, HCELL.out _ e3.of_drew _ _ c4', str_src e1, str_src (HSRC.out _ e3.of_drew), sl2, e2, e3.of_drew⟩
              clear hn hE1 hby hcd hok hms
              go_upto_region 29 with fail
              go_cut [87] (fun s wx => s = .bool false ∧ ∃ sl2, Eye A wx q sl2 ⟨0, t'⟩ ∧ Upd q W1 noV wx noV)
              case first =>
                go_region_with (first
                  | (go_at_call 49; refine (HN.out _ rfl).mono ?_; rintro r w7 ⟨ao, co, rfl, hk1, hk2, hk3, b7⟩))
                all_goals (go_wp2_with fail; go_meet; exact ⟨by simp, b7⟩)
              case rest =>
              obtain ⟨rfl, sl2, hE2, hU2⟩ := hcut
              have HD2 := Lib.hid (HDONE.out _ sl2 hE2 hU2)
              clear hE2 hU2 HN
              go_wp2_with fail
              go_roundw
              case rel => first | exact HD2.out | ((repeat apply Exists.intro); exact ⟨HD2.out, rfl⟩)
              case measure => simp [intOf]; omega
            by_cases h5 : x0 = 5
            · subst h5
              have hms : (xs.length : Int) ≤ x3 ∧ xs.length ≤ 255 := by
                by_cases hb : x3 < (xs.length : Int) ∨ 255 < (xs.length : Int)
                · simp [Op5.code, hb] at hcd
                · omega
              have hby : (⟨5, x1, x2, x3, .slice a4 xs.length c4, xs⟩ : Op5).bytes = (xs.length : Int) :: xs := by simp [Op5.bytes, hcd, Op5.out]
              rw [hby] at hE1
              have HN := Lib.hid (take_bytes 50 (.inl rfl) A W1 q sl' xs t' x3 hE1 hok.1 hms.2 hms.1)
              clear hE1 hby hcd hok hms hsd
              go_wp2_with fail
              refine HN.out.mono ?_
              rintro r w7 ⟨v7, sl2, rfl, e1, e2, e3⟩
              obtain ⟨ao, lo, co, rfl⟩ := slice_of_own e1
              have hk1 := HCELL.out _ e3 _ _ c4'
              have hk2 := str_src (Src.of_own e1)
              have hk3 := str_src (HSRC.out _ e3)
              have HD2 := Lib.hid (HDONE.out _ sl2 e2 e3)
              clear e1 e2 e3 c0 c1 c2' c3 c4' HN
              go_wp2_with fail
              go_roundw
              case rel => first | exact HD2.out | ((repeat apply Exists.intro); exact ⟨HD2.out, rfl⟩)
              case measure => simp [intOf]; omega
            by_cases h6 : x0 = 6
            · subst h6
              simp [Op5.code] at hcd
            · have hby : (⟨x0, x1, x2, x3, .slice a4 xs.length c4, xs⟩ : Op5).bytes = [] := by simp [Op5.bytes, hcd, Op5.out, h1, h2, h3, h4, h5]
              rw [hby] at hE1
              have HD2 := Lib.hid (HDONE.out _ sl' hE1 (Upd.refl _ _ _))
              clear hE1 hby hcd hok hsd
              go_wp2_with fail
              go_roundw
              case rel => first | exact HD2.out | ((repeat apply Exists.intro); exact ⟨HD2.out, rfl⟩)
              case measure => simp [intOf]; omega
          · obtain rfl : j = k := by omega
            have ht : t = [] := by simpa using hsplit
            subst ht
            have hd := rdone_any A wr (HB.out _ hbb).three.long q sl' ⟨0, []⟩ hE.rd
            rw [show RS.fin ⟨0, []⟩ = 0 from rfl, errV_zero] at hd
            have HD0 := Lib.hid hd
            clear hd hE hbb
            go_wp2_with fail
            refine HD0.out.mono ?_
            rintro r w7 ⟨rfl, rfl⟩
            go_wp2_with fail
            go_ret
            exact ⟨rfl, HBB.out⟩
      · obtain ⟨eu, heu⟩ := errV_pos A h0
        rw [heu] at hW
        have HD := Lib.hid (done_err wr p 132 eu hW.c0)
        clear hW hle l1 l2 h0 heu
        go_wp2_with fail
        refine HD.out.mono ?_
        rintro r w5 ⟨rfl, hb5⟩
        have B5 := Lib.hid (belowT HBB.out hb5 (Nat.le_refl _))
        clear hb5
        go_wp2_with fail
        go_ret
        exact ⟨rfl, B5.out⟩

end Go.Proofs.YtadonpfpneanhaaDoor
