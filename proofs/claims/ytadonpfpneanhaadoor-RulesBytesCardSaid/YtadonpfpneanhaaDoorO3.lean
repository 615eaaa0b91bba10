/- What an op writes: a list of bytes, and every op. -/
import Derived.Test.YtadonpfpneanhaaDoorO2
namespace Go.Proofs.YtadonpfpneanhaaDoor
open Go.RowKit

theorem WS.put_take (s : WS) (b : Int) (xs : List Int) {k : Nat} (hk : k < xs.length) : (s.put 0 (b :: xs.take k)).put 0 [xs[k]] = s.put 0 (b :: xs.take (k + 1)) := by
  rw [WS.put_put, List.take_succ_eq_append_getElem hk]
  rfl
/-- A byte of a slice, at a round. -/
theorem Src.byte {w : World} {a : Option Addr} {c k : Nat} {xs : List Int} (h : Src w (.slice a xs.length c) xs) (hk : k < xs.length) : ∃ ad, a = some ad ∧ w.cell? (ad.add k) = some (.int .u8 xs[k]) := by
  rcases h with ⟨he, h0⟩ | ⟨ad, c', he, _, _, hc⟩
  · subst h0
    exact absurd hk (by simp)
  · injection he with e1 e2 e3
    exact ⟨ad, e1, hc k _ (by simp [u8s, List.getElem?_eq_getElem hk])⟩
/-- A writer whose blocks lie behind the sentinels. -/
structure Far (p : Nat) (v : Value) : Prop where
  at' : 4 ≤ p
  own : ∀ g, v.ownBlock = some g → 4 ≤ g
theorem Far.next {w w' : World} {p : Nat} {v v' : Value} (h : Far p v) (hp : p < w.heap.size) (hu : Upd p w v w' v') : Far p v' :=
  ⟨h.at', fun g hg => by
    rcases hu.own g hg with h1 | h1
    · exact h.own g h1
    · have := h.at'; omega⟩
theorem Far.cell {w w' : World} {p b : Nat} {v v' u : Value} (h : Far p v) (hu : Upd p w v w' v') (hb : b < 4) (hc : w.cell? ⟨b, 0, none⟩ = some u) : w'.cell? ⟨b, 0, none⟩ = some u :=
  (hu.cell (World.block_lt_of_cell? w _ hc) (show b ≠ p by have := h.at'; omega) (fun e => by have := h.own b e.symm; omega)).trans hc
theorem Ers.upd {A : List Addr} {w w' : World} {p : Nat} {v v' : Value} (h : Ers A w) (f : Far p v) (hu : Upd p w v w' v') : Ers A w' := by
  obtain ⟨⟨a, h1, h2⟩, ⟨b, h3, h4⟩⟩ := h
  exact ⟨⟨a, h1, f.cell hu (by omega) h2⟩, ⟨b, h3, f.cell hu (by omega) h4⟩⟩

/-- What holds of a writer at a round: all that a next call wants. -/
structure Pen (A : List Addr) (w : World) (p : Nat) (v sl : Value) (s : WS) (xs : List Int) : Prop where
  ers : Ers A w
  wr : Wr w p (errV A s.c) v s.bs
  src : Src w sl xs
  away : Away sl xs p v
  far : Far p v
theorem Pen.next {A : List Addr} {w w' : World} {p : Nat} {v v' sl : Value} {s s' : WS} {xs : List Int} (h : Pen A w p v sl s xs) (hW : Wr w' p (errV A s'.c) v' s'.bs) (hu : Upd p w v w' v') : Pen A w' p v' sl s' xs :=
  ⟨h.ers.upd h.far hu, hW, h.src.keep h.away hu, h.away.next h.src hu, h.far.next h.wr.lt hu⟩

set_option maxHeartbeats 1000000 in
set_option maxRecDepth 100000 in
/-- A list of bytes, each written by the law's closure. -/
theorem put_bytes (f : FuncId) (hf : f = 66 ∨ f = 35) (A : List Addr) (w : World) (p : Nat) (v sl : Value) (s : WS) (xs : List Int) (most : Int) (hP : Pen A w p v sl s xs) (h8 : ∀ x ∈ xs, 0 ≤ x ∧ x < 256)
    (hlen : s.bs.length + xs.length + 16 ≤ 140737488355328) {c : Nat} (hc : (if most < xs.length ∨ 255 < (xs.length : Int) then 1 else 0) = c) :
    Calls Tryd.prog 34 #[.pointer (some ⟨p, 0, none⟩), sl, .int .i64 most, .func (.func f) #[] #[]] w fun r w' => r = .returned (.tuple #[]) ∧ ∃ v', Wr w' p (errV A (s.put c ((xs.length : Int) :: xs)).c) v' (s.put c ((xs.length : Int) :: xs)).bs ∧ Upd p w v w' v' := by
  obtain ⟨a, m, rfl⟩ := hP.src.len
  have hm1 : (xs.length : Int) ≤ 9223372036854775807 := by omega
  subst hc
  by_cases hb : most < xs.length ∨ 255 < (xs.length : Int)
  · rw [if_pos hb, ← s.fail_put (by decide)]
    obtain ⟨a1, ha1, hg⟩ := hP.ers.e0
    have hW := hP.wr
    have hF : Hid (∀ w2 : World, w2 = w.drew → Calls Tryd.prog 55 #[.pointer (some ⟨p, 0, none⟩), .iface 132 (.pointer (some a1))] w2 fun r w' => r = .returned (.tuple #[]) ∧ Wr w' p (errV A (s.fail 1).c) v (s.fail 1).bs ∧ Upd p w v w' v) := fun w2 e => by
      subst e
      have := fail_any A w.drew p v s 1 (by decide) ⟨hW.blk, hW.own⟩
      rw [errV_at ha1] at this
      exact this.mono fun r w' hr => ⟨hr.1, hr.2.1, hr.2.2.of_drew⟩
    clear hP hW hlen h8 hf
    rcases (show most < xs.length ∨ (¬ most < xs.length ∧ 255 < (xs.length : Int)) by omega) with h1 | ⟨h1, h2⟩
    all_goals
      clear hb
      go_enter Tryd.func34, Tryd.ntmps34
      go_wp2_with fail
      go_region_with (first
        | (go_at_call 55; refine (hF.out _ rfl).mono ?_; rintro r w4 ⟨rfl, b4⟩))
      all_goals go_wp2_with fail
      all_goals exact bodyPost_ret (results_none rfl _ _ _) rfl ⟨rfl, v, b4⟩
  · rw [if_neg hb]
    have h1 : ¬ most < xs.length := fun x => hb (.inl x)
    have h2 : ¬ 255 < (xs.length : Int) := fun x => hb (.inr x)
    have HNum := Lib.hid (num_put A w hP.ers p v s hP.wr (by omega) xs.length 1 (if_neg (good_one (by omega) (by omega))) (be_one (by omega) (by omega)))
    have HP := Lib.hid hP
    have HL := Lib.hid hlen
    have H8 := Lib.hid h8
    have HF := Lib.hid hf
    clear hP h8 hlen hb hf
    go_enter Tryd.func34, Tryd.ntmps34
    go_wp2_with fail
    refine HNum.out.mono ?_
    rintro r w1 ⟨rfl, v1, hW1, hU1⟩
    have HU1 := Lib.hid hU1
    have hP1 := HP.out.next hW1 hU1
    clear hW1 hU1
    go_wp2_with fail
    go_loopw [30] (fun i wr => ∃ (k : Nat) (v' : Value), k ≤ xs.length ∧ i = .int .i64 k ∧ Pen A wr p v' (.slice a xs.length m) (s.put 0 ((xs.length : Int) :: xs.take k)) xs ∧ Upd p w v wr v') (fun i _ => xs.length - (intOf i).toNat)
    case atStart => exact ⟨0, v1, Nat.zero_le _, rfl, hP1, HU1.out⟩
    case round =>
      obtain ⟨k, v', hk, rfl, hPk, hUk⟩ := hrel
      have HPk := Lib.hid hPk
      have HUk := Lib.hid hUk
      clear hPk hUk
      by_cases hlt : k < xs.length
      · obtain ⟨ad, rfl, hcell⟩ := HPk.out.src.byte hlt
        have hx := H8.out _ (List.getElem_mem hlt)
        have hone := one_any f HF.out A wr HPk.out.ers p v' (s.put 0 ((xs.length : Int) :: xs.take k)) HPk.out.wr (by
          have := s.put_le 0 ((xs.length : Int) :: xs.take k)
          have := HL.out
          simp at *
          omega) xs[k] hx.1 hx.2
        rw [WS.put_take _ _ _ hlt] at hone
        have HO := Lib.hid hone
        generalize xs[k] = x at *
        clear hone hx
        rcases HF.out with rfl | rfl
        all_goals
          go_wp2_with fail
          refine HO.out.mono ?_
          rintro r w4 ⟨rfl, v4, hW4, hU4⟩
          have HN4 := Lib.hid (HPk.out.next hW4 hU4)
          have HU4 := Lib.hid (HUk.out.trans hU4)
          clear hW4 hU4
          go_wp2_with fail
          go_roundw
          case rel => exact ⟨k + 1, v4, by omega, by go_num, HN4.out, HU4.out⟩
          case measure => simp [intOf]; omega
      · have hke : k = xs.length := by omega
        subst hke
        have hW := HPk.out.wr
        rw [List.take_length] at hW
        have HW := Lib.hid hW
        clear hW
        go_wp2_with fail
        go_end0
        exact ⟨rfl, v', HW.out, HUk.out⟩

end Go.Proofs.YtadonpfpneanhaaDoor
