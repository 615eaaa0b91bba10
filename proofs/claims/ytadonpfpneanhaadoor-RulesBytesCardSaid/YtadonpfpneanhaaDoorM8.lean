/- Lists of numbers side by side; bytes that are new. -/
import Derived.Test.YtadonpfpneanhaaDoorM7
namespace Go.Proofs.YtadonpfpneanhaaDoor
open Go.RowKit

/-- A slice of whole numbers that reads as xs. -/
def ISrc (w : World) (s : Value) (xs : List Int) : Prop :=
  (s = .slice none 0 0 ∧ xs = []) ∨ ∃ ad c, s = .slice (some ad) xs.length c ∧ xs.length ≤ c ∧ ∀ j u, (i64s xs)[j]? = some u → w.cell? (ad.add j) = some u
theorem ISrc.of_own {w : World} {v : Value} {bs : List Int} {B : Nat} (h : w.ownsRow B 3 1 v bs.length (i64s bs)) : ISrc w v bs := by
  rcases h.2 with ⟨rfl, h0⟩ | ⟨g, cap, cur, rfl, hb, hg, hnc, hcm, hcs, htake⟩
  · exact .inl ⟨rfl, List.eq_nil_of_length_eq_zero h0⟩
  · exact .inr ⟨⟨g, 0, none⟩, cap, rfl, hnc, h.cells rfl⟩
theorem ISrc.len {w : World} {s : Value} {xs : List Int} (h : ISrc w s xs) : ∃ a c, s = .slice a xs.length c := by
  rcases h with ⟨rfl, rfl⟩ | ⟨ad, c, rfl, _⟩
  · exact ⟨none, 0, rfl⟩
  · exact ⟨some ad, c, rfl⟩
theorem ISrc.at {w : World} {a : Option Addr} {n c k : Nat} {ys : List Int} (h : ISrc w (.slice a n c) ys) (hk : k < ys.length) : ∃ ad, a = some ad ∧ w.cell? (ad.add k) = some (.int .i64 ys[k]) := by
  rcases h with ⟨_, rfl⟩ | ⟨ad, c', he, _, h3⟩
  · cases hk
  · cases he
    refine ⟨ad, rfl, h3 k _ ?_⟩
    simp [i64s, hk]

set_option maxHeartbeats 1000000 in
set_option maxRecDepth 100000 in
theorem same_ints (w : World) (v v' : Value) (xs : List Int) (h : ISrc w v xs) (h' : ISrc w v' xs) (hl : xs.length ≤ 9223372036854775807) :
    Calls Tryd.prog 86 #[v, v'] w fun r w' => r = .returned (.bool true) ∧ ∃ n, w' = w.drewN n := by
  obtain ⟨a, c, rfl⟩ := h.len
  obtain ⟨a', c', rfl⟩ := h'.len
  have H := Lib.hid h
  have H' := Lib.hid h'
  clear h h'
  go_enter Tryd.func86, Tryd.ntmps86
  go_wp2_with fail
  go_loopw [13] (fun i wr => ∃ (k n : Nat), k ≤ xs.length ∧ i = .int .i64 k ∧ wr = w.drewN n) (fun i _ => xs.length - (intOf i).toNat)
  case atStart => exact ⟨0, 0, Nat.zero_le _, rfl, rfl⟩
  case round =>
    obtain ⟨k, n, hk, rfl, rfl⟩ := hrel
    by_cases hlt : k < xs.length
    · obtain ⟨ad, rfl, hc⟩ := H.out.at hlt
      obtain ⟨ad', rfl, hc'⟩ := H'.out.at hlt
      generalize xs[k] = x at *
      go_wp2_with fail
      go_quiet (fail)
      go_wp2_with fail
      go_roundw
      case rel => exact ⟨k + 1, _, by omega, by go_num, rfl⟩
      case measure => simp [intOf]; omega
    · have hke : k = xs.length := by omega
      go_wp2_with fail
      go_ret
      exact ⟨rfl, _, rfl⟩

set_option maxHeartbeats 1000000 in
set_option maxRecDepth 100000 in
theorem rfixed_own (A : List Addr) (w : World) (q : Nat) (sl : Value) (s : RS) (hE : Eye A w q sl s) (n : Int) :
    Calls Tryd.prog 48 #[.pointer (some ⟨q, 0, none⟩), .int .i64 n] w fun r w' => ∃ out sl', r = .returned out ∧ w'.ownsRow w.heap.size 5 1 out (s.fixedV n).length (u8s (s.fixedV n)) ∧ Eye A w' q sl' (s.fixed n) ∧ Upd q w noV w' noV := by
  unfold RS.fixedV RS.fixed
  by_cases hn : n < 0
  · rw [if_pos hn, if_pos hn]
    obtain ⟨a1, ha1, hg⟩ := hE.ers.e0
    have hF := Lib.hid (rfail_drew hE ha1)
    clear hE
    go_enter Tryd.func48, Tryd.ntmps48
    go_wp2_with fail
    go_region_with (first
      | (go_at_call 55; refine (hF.out _ rfl).mono ?_; rintro r w4 ⟨rfl, b4⟩))
    all_goals go_wp2_with fail
    all_goals exact bodyPost_ret (v := .slice none 0 0) (by simp [results, Tryd.f48, go_sem]) rfl ⟨_, sl, rfl, World.ownsRow_nil _ _ _ _, b4⟩
  · rw [if_neg hn, if_neg hn]
    have HT := Lib.hid (take_eye A w q sl s hE n.toNat)
    rw [Int.toNat_of_nonneg (by omega)] at HT
    have HL : Hid ((s.took n.toNat).length ≤ 140737488355328) := by
      show (s.took n.toNat).length ≤ 140737488355328
      unfold RS.took
      have := hE.big
      split
      · rw [List.length_take]; omega
      · simp
    clear hE
    go_enter Tryd.func48, Tryd.ntmps48
    go_wp2_with fail
    refine HT.out.mono ?_
    rintro r w1 ⟨out, sl', rfl, hs, hE1, hU1⟩
    have HC := Lib.hid (clone_any w1 out _ hs HL.out)
    have HK := Lib.hid (And.intro hE1 hU1)
    clear hs hE1 hU1
    go_wp2_with fail
    refine HC.out.mono ?_
    rintro r w2 ⟨v2, rfl, ho, hb⟩
    have HO := Lib.hid (own_base ho HK.out.2.size)
    have HE := Lib.hid (HK.out.1.later hb)
    have HU := Lib.hid (HK.out.2.trans (Upd.of_below hb))
    clear ho hb
    go_wp2_with fail
    go_ret
    exact ⟨_, sl', rfl, HO.out, HE.out, HU.out⟩

set_option maxHeartbeats 1000000 in
set_option maxRecDepth 100000 in
theorem rbytes_own (A : List Addr) (w : World) (q : Nat) (sl : Value) (s : RS) (hE : Eye A w q sl s) (most : Int) :
    Calls Tryd.prog 49 #[.pointer (some ⟨q, 0, none⟩), .int .i64 most] w fun r w' => ∃ out sl', r = .returned out ∧ w'.ownsRow w.heap.size 5 1 out (s.bytesV most).length (u8s (s.bytesV most)) ∧ Eye A w' q sl' (s.bytes most) ∧ Upd q w noV w' noV := by
  unfold RS.bytesV RS.bytes
  have HN := Lib.hid (rnum_eye A w q sl s hE 2)
  generalize s.number 2 = s1 at *
  generalize s.numV 2 = V at *
  clear hE
  unfold RS.most
  by_cases hb : s1.c = 0 ∧ most < V
  · rw [if_pos hb]
    obtain ⟨hc, hm⟩ := hb
    obtain ⟨s4, h4⟩ : ∃ s4, s1.fail 1 = s4 := ⟨_, rfl⟩
    rw [h4]
    go_enter Tryd.func49, Tryd.ntmps49
    go_wp2_with fail
    refine HN.out.mono ?_
    rintro r w1 ⟨rfl, sl1, hE1, hU1⟩
    obtain ⟨a1, ha1, hg⟩ := hE1.ers.e0
    have hf := rfail_drew hE1 ha1
    rw [show 0 + 1 = 1 from rfl, h4] at hf
    have hF := Lib.hid hf
    clear hf
    have k0 := hE1.rd.c0
    rw [hc, errV_zero] at k0
    have HU1 := Lib.hid hU1
    clear hE1 hU1
    go_wp2_with fail
    go_region_with (first
      | (go_at_call 55; refine (hF.out _ rfl).mono ?_; rintro r w4 ⟨rfl, b4⟩))
    all_goals
      have HX := Lib.hid (rfixed_own A w4 q _ s4 b4.1 V)
      have HU := Lib.hid (HU1.out.trans b4.2)
      clear b4
      go_wp2_with fail
      refine HX.out.mono ?_
      rintro r w5 ⟨out, sl', rfl, h1, h2, h3⟩
      have HK := Lib.hid (And.intro (own_base h1 HU.out.size) (And.intro h2 (HU.out.trans h3)))
      clear h1 h2 h3
      go_wp2_with fail
      go_ret
      exact ⟨_, sl', rfl, HK.out⟩
  · rw [if_neg hb]
    go_enter Tryd.func49, Tryd.ntmps49
    go_wp2_with fail
    refine HN.out.mono ?_
    rintro r w1 ⟨rfl, sl1, hE1, hU1⟩
    have k0 := hE1.rd.c0
    have HX := Lib.hid (rfixed_own A w1 q _ s1 hE1 V)
    have HU := Lib.hid hU1
    clear hE1 hU1
    by_cases hc : s1.c = 0
    · have hm : ¬ most < V := fun h => hb ⟨hc, h⟩
      rw [hc, errV_zero] at k0
      clear hb hc
      go_wp2_with fail
      refine HX.out.mono ?_
      rintro r w5 ⟨out, sl', rfl, h1, h2, h3⟩
      have HK := Lib.hid (And.intro (own_base h1 HU.out.size) (And.intro h2 (HU.out.trans h3)))
      clear h1 h2 h3
      go_wp2_with fail
      go_ret
      exact ⟨_, sl', rfl, HK.out⟩
    · obtain ⟨u, hu⟩ := errV_pos A hc
      rw [hu] at k0
      clear hb hc hu
      go_wp2_with fail
      refine HX.out.mono ?_
      rintro r w5 ⟨out, sl', rfl, h1, h2, h3⟩
      have HK := Lib.hid (And.intro (own_base h1 HU.out.size) (And.intro h2 (HU.out.trans h3)))
      clear h1 h2 h3
      go_wp2_with fail
      go_ret
      exact ⟨_, sl', rfl, HK.out⟩

end Go.Proofs.YtadonpfpneanhaaDoor
