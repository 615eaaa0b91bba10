/- What an op writes: the calls of the writer. -/
import Derived.Test.YtadonpfpneanhaaDoorO1
import Derived.Lib.QuoteBits
namespace Go.Proofs.YtadonpfpneanhaaDoor
open Go.RowKit

/-- A slice of bytes that keeps reading as it did while a writer writes. -/
def Away (sl : Value) (xs : List Int) (p : Nat) (v : Value) : Prop := xs ≠ [] → ∀ ad l c, sl = .slice (some ad) l c → ad.block ≠ p ∧ some ad.block ≠ v.ownBlock
theorem Src.keep {w w' : World} {s : Value} {xs : List Int} {p : Nat} {v v' : Value} (h : Src w s xs) (ha : Away s xs p v) (hu : Upd p w v w' v') : Src w' s xs := by
  by_cases hx : xs = []
  · subst hx
    rcases h with h | ⟨ad, c, rfl, h1, h2, h3⟩
    · exact .inl h
    · exact .inr ⟨ad, c, rfl, h1, h2, fun j u hj => by simp [u8s] at hj⟩
  · exact h.upd hu (ha hx)
theorem Away.next {w w' : World} {s : Value} {xs : List Int} {p : Nat} {v v' : Value} (ha : Away s xs p v) (h : Src w s xs) (hu : Upd p w v w' v') : Away s xs p v' := by
  intro hx ad l c he
  obtain ⟨h1, h2⟩ := ha hx ad l c he
  refine ⟨h1, fun e => ?_⟩
  rcases hu.own _ e.symm with h3 | h3
  · exact h2 h3.symm
  · rcases h with ⟨_, h⟩ | ⟨ad', c', he', _, _, hc⟩
    · exact hx h
    · rw [he'] at he
      cases he
      cases xs with
      | nil => exact hx rfl
      | cons x t =>
        have := World.block_lt_of_cell? w _ (hc 0 (.int .u8 x) rfl)
        rw [add_block] at this
        omega

def Op5.code (o : Op5) : Nat :=
  if o.k = 1 then (if BadN o.n o.width then 1 else 0)
  else if o.k = 4 then (if o.most < o.xs.length ∨ 65535 < (o.xs.length : Int) then 1 else 0)
  else if o.k = 5 then (if o.most < o.xs.length ∨ 255 < (o.xs.length : Int) then 1 else 0)
  else if o.k = 6 then 10 else 0
def Op5.out (o : Op5) : List Int :=
  if o.k = 1 then be o.n o.width else if o.k = 2 then [o.n % 2] else if o.k = 3 then o.xs else if o.k = 4 then be o.xs.length 2 ++ o.xs else if o.k = 5 then (o.xs.length : Int) :: o.xs else []
def WS.put (s : WS) (c : Nat) (ys : List Int) : WS := if s.c ≠ 0 then s else if c ≠ 0 then ⟨c, s.bs⟩ else ⟨0, s.bs ++ ys⟩
def WS.op (s : WS) (o : Op5) : WS := s.put o.code o.out

theorem WS.fixed_put (s : WS) (xs : List Int) : s.fixed xs = s.put 0 xs := by
  unfold WS.fixed WS.put
  by_cases h : s.c = 0 <;> simp [h]
theorem WS.fail_put (s : WS) {k : Nat} (hk : k ≠ 0) (xs : List Int) : s.fail k = s.put k xs := by
  unfold WS.fail WS.put
  by_cases h : s.c = 0 <;> simp [h, hk]
theorem WS.put_put (s : WS) (xs ys : List Int) : (s.put 0 xs).put 0 ys = s.put 0 (xs ++ ys) := by
  unfold WS.put
  by_cases h : s.c = 0 <;> simp [h]
theorem WS.put_le (s : WS) (c : Nat) (xs : List Int) : (s.put c xs).bs.length ≤ s.bs.length + xs.length := by
  unfold WS.put
  split
  · omega
  · split
    · show s.bs.length ≤ _; omega
    · simp
theorem WS.number_put (s : WS) (n width : Int) : s.number n width = s.put (if BadN n width then 1 else 0) (be n width) := by
  unfold WS.number
  split
  · exact s.fail_put (by decide) _
  · exact s.fixed_put _
theorem be_one {x : Int} (h0 : 0 ≤ x) (h : x < 256) : be x 1 = [x] := by
  simp [be, beF]
  omega
theorem good_one {x : Int} (h0 : 0 ≤ x) (h : x < 256) : ¬ BadN x 1 := by
  unfold BadN
  simp
  omega

/-- A number written, as a put. -/
theorem num_put (A : List Addr) (w : World) (h : Ers A w) (p : Nat) (v : Value) (s : WS) (hW : Wr w p (errV A s.c) v s.bs) (hlen : s.bs.length + 8 ≤ 140737488355328) (n width : Int) {c : Nat} {ys : List Int} (hc : (if BadN n width then 1 else 0) = c) (hy : be n width = ys) :
    Calls Tryd.prog 22 #[.pointer (some ⟨p, 0, none⟩), .int .i64 n, .int .i64 width] w fun r w' => r = .returned (.tuple #[]) ∧ ∃ v', Wr w' p (errV A (s.put c ys).c) v' (s.put c ys).bs ∧ Upd p w v w' v' := by
  subst hc hy
  rw [← WS.number_put]
  exact number_any A w h p v s hW hlen n width

theorem and_one (n : Int) : bits .and .i64 n 1 = n % 2 := by
  show IntKind.i64.wrap ((BitVec.ofInt 64 n &&& BitVec.ofInt 64 1).toNat : Int) = _
  rw [BitVec.toNat_and, show (BitVec.ofInt 64 1).toNat = 2 ^ 1 - 1 from rfl, Nat.and_two_pow_sub_one_eq_mod, BitVec.toNat_ofInt]
  have h1 : ((((n % ((2 ^ 64 : Nat) : Int)).toNat % 2 ^ 1 : Nat)) : Int) = n % 2 := by
    have : 0 ≤ n % ((2 ^ 64 : Nat) : Int) := Int.emod_nonneg _ (by decide)
    simp
    omega
  exact (Lib.wrap_i64_small _ (by omega)).trans h1

set_option maxHeartbeats 1000000 in
set_option maxRecDepth 100000 in
/-- A flag. -/
theorem flag_any (A : List Addr) (w : World) (h : Ers A w) (p : Nat) (v : Value) (s : WS) (hW : Wr w p (errV A s.c) v s.bs) (hlen : s.bs.length + 8 ≤ 140737488355328) (n : Int) :
    Calls Tryd.prog 65 #[.pointer (some ⟨p, 0, none⟩), .bool (decide (n % 2 = 1))] w fun r w' => r = .returned (.tuple #[]) ∧ ∃ v', Wr w' p (errV A (s.put 0 [n % 2]).c) v' (s.put 0 [n % 2]).bs ∧ Upd p w v w' v' := by
  have HN := Lib.hid (num_put A w h p v s hW hlen (n % 2) 1 (if_neg (good_one (by omega) (by omega))) (be_one (by omega) (by omega)))
  clear h hW
  by_cases hb : n % 2 = 1
  · rw [hb] at HN ⊢
    go_enter Tryd.func65, Tryd.ntmps65
    go_wp2_with fail
    refine HN.out.mono ?_
    rintro r w1 ⟨rfl, k⟩
    have HK := Lib.hid k
    clear k
    go_wp2_with fail
    go_end0
    exact ⟨rfl, HK.out⟩
  · have hb0 : n % 2 = 0 := by omega
    rw [hb0] at HN ⊢
    go_enter Tryd.func65, Tryd.ntmps65
    go_wp2_with fail
    refine HN.out.mono ?_
    rintro r w1 ⟨rfl, k⟩
    have HK := Lib.hid k
    clear k
    go_wp2_with fail
    go_end0
    exact ⟨rfl, HK.out⟩

set_option maxHeartbeats 1000000 in
set_option maxRecDepth 100000 in
/-- One byte of a list, by the law's closures. -/
theorem one_any (f : FuncId) (hf : f = 66 ∨ f = 35) (A : List Addr) (w : World) (h : Ers A w) (p : Nat) (v : Value) (s : WS) (hW : Wr w p (errV A s.c) v s.bs) (hlen : s.bs.length + 8 ≤ 140737488355328) (x : Int) (h0 : 0 ≤ x) (h8 : x < 256) :
    Calls Tryd.prog f #[.pointer (some ⟨p, 0, none⟩), .int .u8 x] w fun r w' => r = .returned (.tuple #[]) ∧ ∃ v', Wr w' p (errV A (s.put 0 [x]).c) v' (s.put 0 [x]).bs ∧ Upd p w v w' v' := by
  have HN := Lib.hid (num_put A w h p v s hW hlen x 1 (if_neg (good_one h0 h8)) (be_one h0 h8))
  clear h hW
  rcases hf with rfl | rfl
  · go_enter Tryd.func66, Tryd.ntmps66
    go_wp2_with fail
    refine HN.out.mono ?_
    rintro r w1 ⟨rfl, k⟩
    have HK := Lib.hid k
    clear k
    go_wp2_with fail
    go_end0
    exact ⟨rfl, HK.out⟩
  · go_enter Tryd.func35, Tryd.ntmps35
    go_wp2_with fail
    refine HN.out.mono ?_
    rintro r w1 ⟨rfl, k⟩
    have HK := Lib.hid k
    clear k
    go_wp2_with fail
    go_end0
    exact ⟨rfl, HK.out⟩

set_option maxHeartbeats 1000000 in
set_option maxRecDepth 100000 in
/-- Bytes with their number, as a put. -/
theorem bytes_put (A : List Addr) (w : World) (h : Ers A w) (p : Nat) (v sl : Value) (s : WS) (xs : List Int) (most : Int) (hW : Wr w p (errV A s.c) v s.bs) (hs : Src w sl xs) (hap : Away sl xs p v) (hlen : s.bs.length + xs.length + 16 ≤ 140737488355328) {c : Nat} (hc : (if most < xs.length ∨ 65535 < (xs.length : Int) then 1 else 0) = c) :
    Calls Tryd.prog 60 #[.pointer (some ⟨p, 0, none⟩), sl, .int .i64 most] w fun r w' => r = .returned (.tuple #[]) ∧ ∃ v', Wr w' p (errV A (s.put c (be xs.length 2 ++ xs)).c) v' (s.put c (be xs.length 2 ++ xs)).bs ∧ Upd p w v w' v' := by
  obtain ⟨a, m, rfl⟩ := hs.len
  have hm1 : (xs.length : Int) ≤ 9223372036854775807 := by omega
  subst hc
  by_cases hb : most < xs.length ∨ 65535 < (xs.length : Int)
  · rw [if_pos hb, ← s.fail_put (by decide)]
    obtain ⟨a1, ha1, hg⟩ := h.e0
    have hF : Hid (∀ w2 : World, w2 = w.drew → Calls Tryd.prog 55 #[.pointer (some ⟨p, 0, none⟩), .iface 132 (.pointer (some a1))] w2 fun r w' => r = .returned (.tuple #[]) ∧ Wr w' p (errV A (s.fail 1).c) v (s.fail 1).bs ∧ Upd p w v w' v) := fun w2 e => by
      subst e
      have := fail_any A w.drew p v s 1 (by decide) ⟨hW.blk, hW.own⟩
      rw [errV_at ha1] at this
      exact this.mono fun r w' hr => ⟨hr.1, hr.2.1, hr.2.2.of_drew⟩
    clear h hW hs hap hlen
    rcases (show most < xs.length ∨ (¬ most < xs.length ∧ 65535 < (xs.length : Int)) by omega) with h1 | ⟨h1, h2⟩
    all_goals
      clear hb
      go_enter Tryd.func60, Tryd.ntmps60
      go_wp2_with fail
      go_region_with (first
        | (go_at_call 55; refine (hF.out _ rfl).mono ?_; rintro r w4 ⟨rfl, b4⟩))
      all_goals go_wp2_with fail
      all_goals exact bodyPost_ret (results_none rfl _ _ _) rfl ⟨rfl, v, b4⟩
  · rw [if_neg hb]
    have h1 : ¬ most < xs.length := fun x => hb (.inl x)
    have h2 : ¬ 65535 < (xs.length : Int) := fun x => hb (.inr x)
    have HNum := Lib.hid (num_put A w h p v s hW (by omega) xs.length 2 (if_neg (by unfold BadN; simp; omega)) rfl)
    have HS := Lib.hid hs
    have HA := Lib.hid hap
    have HL := Lib.hid hlen
    clear h hW hs hap hlen hb
    go_enter Tryd.func60, Tryd.ntmps60
    go_wp2_with fail
    refine HNum.out.mono ?_
    rintro r w1 ⟨rfl, v1, hW1, hU1⟩
    have hF := fixed_any A w1 p v1 _ (s.put 0 (be xs.length 2)) xs hW1 (HS.out.keep HA.out hU1) (by
      have := s.put_le 0 (be xs.length 2)
      rw [be_length] at this
      have := HL.out
      simp at *
      omega)
    rw [WS.fixed_put, WS.put_put] at hF
    have HF := Lib.hid hF
    have HU := Lib.hid hU1
    clear hW1 hU1 hF
    go_wp2_with fail
    refine HF.out.mono ?_
    rintro r w2 ⟨rfl, v2, hW2, hU2⟩
    have HW2 := Lib.hid hW2
    have HU2 := Lib.hid (HU.out.trans hU2)
    clear hW2 hU2
    go_wp2_with fail
    go_end0
    exact ⟨rfl, v2, HW2.out, HU2.out⟩

end Go.Proofs.YtadonpfpneanhaaDoor
