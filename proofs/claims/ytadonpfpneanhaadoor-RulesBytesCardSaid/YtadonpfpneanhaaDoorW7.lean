/- The reader's numbers, its end and its making. -/
import Derived.Test.YtadonpfpneanhaaDoorW6
import Derived.Lib.QuoteBits
namespace Go.Proofs.YtadonpfpneanhaaDoor
open Go.RowKit

def beVal (xs : List Int) : Int := xs.foldl (fun n c => n * 256 + c) 0
def RS.pre (s : RS) (width : Int) : RS := if s.c = 0 ∧ width = 8 ∧ 8 ≤ s.xs.length ∧ 127 < s.xs.headD 0 then s.fail 1 else s
def RS.number (s : RS) (width : Int) : RS := if width < 1 ∨ 8 < width then s.fail 1 else (s.pre width).take width.toNat
def RS.numV (s : RS) (width : Int) : Int := if width < 1 ∨ 8 < width then 0 else beVal ((s.pre width).took width.toNat)

theorem beVal_snoc (xs : List Int) (x : Int) : beVal (xs ++ [x]) = beVal xs * 256 + x := by simp [beVal]
theorem or_byte {y x : Int} (hy : 0 ≤ y) (hx0 : 0 ≤ x) (hx : x < 256) (h : y * 256 + x < 9223372036854775808) : bits .or .i64 (y * 256) x = y * 256 + x := by
  obtain ⟨y, rfl⟩ := Int.eq_ofNat_of_zero_le hy
  obtain ⟨x, rfl⟩ := Int.eq_ofNat_of_zero_le hx0
  have hj : y * 256 ||| x = y * 256 + x := by
    have := Nat.shiftLeft_add_eq_or_of_lt (a := y) (b := x) (i := 8) (by omega)
    rw [Nat.shiftLeft_eq, show (2 : Nat) ^ 8 = 256 from rfl] at this
    omega
  show IntKind.i64.wrap ((BitVec.ofInt 64 (((y * 256 : Nat)) : Int) ||| BitVec.ofInt 64 ((x : Nat) : Int)).toNat : Int) = _
  rw [BitVec.toNat_or, ofInt_u64 (y * 256) (by omega), ofInt_u64 x (by omega), hj]
  exact (Lib.wrap_i64_small _ (by omega)).trans (by simp)

theorem fold_in (xs : List Int) : ∀ (acc : Int) (m : Nat), 0 ≤ acc → acc < 256 ^ m → (∀ x ∈ xs, 0 ≤ x ∧ x < 256) → 0 ≤ xs.foldl (fun n c => n * 256 + c) acc ∧ xs.foldl (fun n c => n * 256 + c) acc < 256 ^ (m + xs.length) := by
  induction xs with
  | nil => intro acc m h0 h1 _; exact ⟨h0, h1⟩
  | cons x xs ih =>
    intro acc m h0 h1 hx
    have h2 := hx x (List.mem_cons_self ..)
    have := ih (acc * 256 + x) (m + 1) (by omega) (by rw [Int.pow_succ]; omega) (fun y hy => hx y (List.mem_cons_of_mem _ hy))
    rw [List.foldl_cons, List.length_cons, show m + (xs.length + 1) = m + 1 + xs.length by omega]
    exact this
theorem beVal_in (xs : List Int) (h : ∀ x ∈ xs, 0 ≤ x ∧ x < 256) : 0 ≤ beVal xs ∧ beVal xs < 256 ^ xs.length := by
  have := fold_in xs 0 0 (Int.le_refl _) (by decide) h
  rwa [Nat.zero_add] at this
theorem fold_lt (xs : List Int) : ∀ (acc : Int), 0 ≤ acc → (∀ x ∈ xs, 0 ≤ x ∧ x < 256) → 0 ≤ xs.foldl (fun n c => n * 256 + c) acc ∧ xs.foldl (fun n c => n * 256 + c) acc < (acc + 1) * 256 ^ xs.length := by
  induction xs with
  | nil => intro acc h0 _; exact ⟨h0, by simp; omega⟩
  | cons x xs ih =>
    intro acc h0 hx
    have h2 := hx x (List.mem_cons_self ..)
    have h3 := ih (acc * 256 + x) (by omega) (fun y hy => hx y (List.mem_cons_of_mem _ hy))
    rw [List.foldl_cons, List.length_cons, Int.pow_succ]
    refine ⟨h3.1, Int.lt_of_lt_of_le h3.2 ?_⟩
    have h4 : (0 : Int) ≤ 256 ^ xs.length := Int.pow_nonneg (by omega)
    have h5 : (acc * 256 + x + 1) * 256 ^ xs.length ≤ ((acc + 1) * 256) * 256 ^ xs.length := Int.mul_le_mul_of_nonneg_right (by omega) h4
    rw [show (acc + 1) * (256 ^ xs.length * 256) = ((acc + 1) * 256) * 256 ^ xs.length by rw [Int.mul_comm (256 ^ xs.length) 256, ← Int.mul_assoc]]
    exact h5
theorem val_small {ys : List Int} (h : ∀ x ∈ ys, 0 ≤ x ∧ x < 256) (hl : ys.length ≤ 7 ∨ (ys.length ≤ 8 ∧ ys.headD 0 ≤ 127)) (k : Nat) : 0 ≤ beVal (ys.take k) ∧ beVal (ys.take k) < 9223372036854775808 := by
  cases ys with
  | nil => simp [beVal]
  | cons y t =>
    cases k with
    | zero => simp [beVal]
    | succ k =>
      have hy := h y (List.mem_cons_self ..)
      have hf := fold_lt (t.take k) y hy.1 (fun x hx => h x (List.mem_cons_of_mem _ (List.mem_of_mem_take hx)))
      rw [List.take_succ_cons]
      unfold beVal
      rw [List.foldl_cons, show (0 : Int) * 256 + y = y by omega]
      simp only [List.length_cons, List.headD_cons] at hl
      have hlen : (t.take k).length ≤ t.length := by rw [List.length_take]; omega
      generalize (t.take k).length = m at *
      have hm : m = 0 ∨ m = 1 ∨ m = 2 ∨ m = 3 ∨ m = 4 ∨ m = 5 ∨ m = 6 ∨ m = 7 := by omega
      rcases hm with rfl | rfl | rfl | rfl | rfl | rfl | rfl | rfl <;> omega
theorem took_in {A : List Addr} {w : World} {q : Nat} {sl : Value} {s : RS} (hR : Rd w q (errV A s.c) sl s.xs) (n : Nat) : (s.took n).length ≤ n ∧ ∀ x ∈ s.took n, 0 ≤ x ∧ x < 256 := by
  unfold RS.took
  split
  · exact ⟨by rw [List.length_take]; omega, fun x hx => hR.by8 x (List.mem_of_mem_take hx)⟩
  · exact ⟨Nat.zero_le _, fun x hx => by cases hx⟩

set_option maxHeartbeats 1000000 in
set_option maxRecDepth 100000 in
theorem rnum_bad (A : List Addr) (w : World) (h : Ers A w) (q : Nat) (sl : Value) (s : RS) (hR : Rd w q (errV A s.c) sl s.xs) (width : Int) (hb : width < 1 ∨ 8 < width) :
    Calls Tryd.prog 20 #[.pointer (some ⟨q, 0, none⟩), .int .i64 width] w fun r w' => r = .returned (.int .i64 0) ∧ Rd w' q (errV A (s.fail 1).c) sl (s.fail 1).xs ∧ Upd q w noV w' noV := by
  obtain ⟨a1, ha1, hg⟩ := h.e0
  have hF : Hid (∀ w2 : World, w2 = w.drew → Calls Tryd.prog 55 #[.pointer (some ⟨q, 0, none⟩), .iface 132 (.pointer (some a1))] w2 fun r w' => r = .returned (.tuple #[]) ∧ Rd w' q (errV A (s.fail 1).c) sl (s.fail 1).xs ∧ Upd q w noV w' noV) := fun w2 e => by
    subst e
    have := rfail_any A w.drew q sl s 1 (by decide) (hR.later ((Below.refl _ _).drew))
    rw [errV_at ha1] at this
    exact this.mono fun r w' hr => ⟨hr.1, hr.2.1, hr.2.2.of_drew⟩
  clear h hR
  rcases (show width < 1 ∨ (1 ≤ width ∧ 8 < width) by omega) with h1 | ⟨h1, h2⟩
  all_goals
    clear hb
    go_enter Tryd.func20, Tryd.ntmps20
    go_wp2_with fail
    go_region_with (first
      | (go_at_call 55; refine (hF.out _ rfl).mono ?_; rintro r w4 ⟨rfl, b4⟩))
    all_goals go_wp2_with fail
    all_goals exact bodyPost_ret (v := .int .i64 0) (by simp [results, Tryd.f20, go_sem]) rfl ⟨rfl, b4⟩

theorem Src.at {w : World} {a : Option Addr} {n c k : Nat} {ys : List Int} (h : Src w (.slice a n c) ys) (hk : k < ys.length) : ∃ ad, a = some ad ∧ w.cell? (ad.add k) = some (.int .u8 ys[k]) := by
  rcases h with ⟨_, rfl⟩ | ⟨ad, c', he, _, _, h3⟩
  · simp at hk
  · cases he
    exact ⟨ad, rfl, h3 k _ (by simp [u8s, List.getElem?_eq_getElem hk])⟩

set_option maxHeartbeats 2000000 in
set_option maxRecDepth 100000 in
theorem rnum_calm (A : List Addr) (w : World) (h : Ers A w) (q : Nat) (sl : Value) (s : RS) (hR : Rd w q (errV A s.c) sl s.xs) (hbig : s.xs.length ≤ 140737488355328) (width : Int) (h1 : 1 ≤ width) (h8 : width ≤ 8)
    (hc : s.c ≠ 0 ∨ (s.c = 0 ∧ width < 8)) :
    Calls Tryd.prog 20 #[.pointer (some ⟨q, 0, none⟩), .int .i64 width] w fun r w' => r = .returned (.int .i64 (beVal (s.took width.toNat))) ∧ ∃ sl', Rd w' q (errV A (s.take width.toNat).c) sl' (s.take width.toNat).xs ∧ Upd q w noV w' noV := by
  have k0 := hR.c0
  have k1 := hR.c1
  have HT := Lib.hid (take_any A w h q sl s hR width.toNat hbig)
  rw [Int.toNat_of_nonneg (by omega)] at HT
  obtain ⟨hl, hx⟩ := took_in hR width.toNat
  have HL : Hid ((s.took width.toNat).length ≤ 8) := by show (s.took width.toNat).length ≤ 8; omega
  have H8 := Lib.hid hx
  have HV : Hid (∀ k, 0 ≤ beVal ((s.took width.toNat).take k) ∧ beVal ((s.took width.toNat).take k) < 9223372036854775808) := fun k => val_small hx (by
    rcases hc with hc | ⟨hc, hw⟩
    · left; unfold RS.took; rw [if_neg (fun x => hc x.1)]; exact Nat.zero_le _
    · left; omega) k
  generalize s.took width.toNat = ys at *
  clear h hR hbig hl hx
  rcases hc with hc | ⟨hc, hw⟩
  · obtain ⟨u, hu⟩ := errV_pos A hc
    rw [hu] at k0
    clear hc hu
    go_enter Tryd.func20, Tryd.ntmps20
    go_wp2_with fail
    refine HT.out.mono ?_
    rintro r w1 ⟨out, sl', rfl, hs, hR1, hU1⟩
    obtain ⟨a0, c0, rfl⟩ := hs.len
    have HS := Lib.hid hs
    have HR1 := Lib.hid (And.intro hR1 hU1)
    clear hs hR1 hU1
    go_wp2_with fail
    go_loop [5, 55] (fun v i => ∃ k : Nat, k ≤ ys.length ∧ i = .int .i64 k ∧ v = .int .i64 (beVal (ys.take k))) (fun _ i => ys.length - (intOf i).toNat)
    case atStart => exact ⟨0, Nat.zero_le _, rfl, rfl⟩
    case round =>
      obtain ⟨k, hk, rfl, rfl⟩ := hrel
      have hlen := HL.out
      by_cases hlt : k < ys.length
      · obtain ⟨ad, rfl, hcell⟩ := HS.out.at hlt
        have hv := HV.out k
        have hv2 := HV.out (k + 1)
        rw [List.take_succ_eq_append_getElem hlt, beVal_snoc] at hv2
        have hx := H8.out _ (List.getElem_mem hlt)
        generalize hX : ys[k] = x at *
        generalize hY : beVal (ys.take k) = y at *
        go_wp2_with fail
        go_round
        case rel => exact ⟨k + 1, by omega, by go_num, by rw [List.take_succ_eq_append_getElem hlt, beVal_snoc, hX, hY]; exact congrArg _ (or_byte hv.1 hx.1 hx.2 hv2.2)⟩
        case measure => simp [intOf]; omega
      · have hke : k = ys.length := by omega
        subst hke
        rw [List.take_length]
        go_wp2_with fail
        exact bodyPost_ret (v := .int .i64 (beVal ys)) (by simp [results, Tryd.f20, go_sem]) rfl (by first | exact ⟨rfl, sl', HR1.out⟩ | exact ⟨rfl, ⟨sl', HR1.out.1⟩, HR1.out.2⟩)
  · rw [hc] at k0
    replace k0 : w.cell? ⟨q, 0, none⟩ = some .nilIface := k0
    have hw8 : (width == 8) = false := by simp; omega
    clear hc
    go_enter Tryd.func20, Tryd.ntmps20
    go_wp2_with fail
    refine HT.out.mono ?_
    rintro r w1 ⟨out, sl', rfl, hs, hR1, hU1⟩
    obtain ⟨a0, c0, rfl⟩ := hs.len
    have HS := Lib.hid hs
    have HR1 := Lib.hid (And.intro hR1 hU1)
    clear hs hR1 hU1
    go_wp2_with fail
    go_loop [5, 55] (fun v i => ∃ k : Nat, k ≤ ys.length ∧ i = .int .i64 k ∧ v = .int .i64 (beVal (ys.take k))) (fun _ i => ys.length - (intOf i).toNat)
    case atStart => exact ⟨0, Nat.zero_le _, rfl, rfl⟩
    case round =>
      obtain ⟨k, hk, rfl, rfl⟩ := hrel
      have hlen := HL.out
      by_cases hlt : k < ys.length
      · obtain ⟨ad, rfl, hcell⟩ := HS.out.at hlt
        have hv := HV.out k
        have hv2 := HV.out (k + 1)
        rw [List.take_succ_eq_append_getElem hlt, beVal_snoc] at hv2
        have hx := H8.out _ (List.getElem_mem hlt)
        generalize hX : ys[k] = x at *
        generalize hY : beVal (ys.take k) = y at *
        go_wp2_with fail
        go_round
        case rel => exact ⟨k + 1, by omega, by go_num, by rw [List.take_succ_eq_append_getElem hlt, beVal_snoc, hX, hY]; exact congrArg _ (or_byte hv.1 hx.1 hx.2 hv2.2)⟩
        case measure => simp [intOf]; omega
      · have hke : k = ys.length := by omega
        subst hke
        rw [List.take_length]
        go_wp2_with fail
        exact bodyPost_ret (v := .int .i64 (beVal ys)) (by simp [results, Tryd.f20, go_sem]) rfl (by first | exact ⟨rfl, sl', HR1.out⟩ | exact ⟨rfl, ⟨sl', HR1.out.1⟩, HR1.out.2⟩)

set_option maxHeartbeats 2000000 in
set_option maxRecDepth 100000 in
theorem rnum_eight (A : List Addr) (w : World) (h : Ers A w) (q : Nat) (sl : Value) (xs : List Int) (hR : Rd w q .nilIface sl xs) (hbig : xs.length ≤ 140737488355328) (hc : xs.length < 8 ∨ (8 ≤ xs.length ∧ xs.headD 0 ≤ 127)) :
    Calls Tryd.prog 20 #[.pointer (some ⟨q, 0, none⟩), .int .i64 8] w fun r w' => r = .returned (.int .i64 (beVal (RS.took ⟨0, xs⟩ 8))) ∧ ∃ sl', Rd w' q (errV A (RS.take ⟨0, xs⟩ 8).c) sl' (RS.take ⟨0, xs⟩ 8).xs ∧ Upd q w noV w' noV := by
  have k0 := hR.c0
  have k1 := hR.c1
  have HT := Lib.hid (take_any A w h q sl ⟨0, xs⟩ hR 8 hbig)
  obtain ⟨hl, hx⟩ := took_in (A := A) (s := ⟨0, xs⟩) hR 8
  have HL : Hid ((RS.took ⟨0, xs⟩ 8).length ≤ 8) := hl
  have H8 := Lib.hid hx
  have HV : Hid (∀ k, 0 ≤ beVal ((RS.took ⟨0, xs⟩ 8).take k) ∧ beVal ((RS.took ⟨0, xs⟩ 8).take k) < 9223372036854775808) := fun k => val_small hx (by
    unfold RS.took
    rcases hc with hc | ⟨hc, hw⟩
    · left; rw [if_neg (fun x => by have := x.2; simp only at this; omega)]; exact Nat.zero_le _
    · right
      rw [if_pos ⟨rfl, hc⟩]
      refine ⟨by rw [List.length_take]; omega, ?_⟩
      cases xs with
      | nil => simp at hc
      | cons x t => exact hw) k
  generalize RS.took ⟨0, xs⟩ 8 = ys at *
  rcases hc with hc | ⟨hc, hw⟩
  · obtain ⟨a, c, rfl⟩ := hR.src.len
    have hlt : ¬ (8 : Int) ≤ xs.length := by omega
    clear h hR hbig hl hx hc
    go_enter Tryd.func20, Tryd.ntmps20
    go_wp2_with fail
    refine HT.out.mono ?_
    rintro r w1 ⟨out, sl', rfl, hs, hR1, hU1⟩
    obtain ⟨a0, c0, rfl⟩ := hs.len
    have HS := Lib.hid hs
    have HR1 := Lib.hid (And.intro hR1 hU1)
    clear hs hR1 hU1
    go_wp2_with fail
    go_loop [5, 55] (fun v i => ∃ k : Nat, k ≤ ys.length ∧ i = .int .i64 k ∧ v = .int .i64 (beVal (ys.take k))) (fun _ i => ys.length - (intOf i).toNat)
    case atStart => exact ⟨0, Nat.zero_le _, rfl, rfl⟩
    case round =>
      obtain ⟨k, hk, rfl, rfl⟩ := hrel
      have hlen := HL.out
      by_cases hlt : k < ys.length
      · obtain ⟨ad, rfl, hcell⟩ := HS.out.at hlt
        have hv := HV.out k
        have hv2 := HV.out (k + 1)
        rw [List.take_succ_eq_append_getElem hlt, beVal_snoc] at hv2
        have hx := H8.out _ (List.getElem_mem hlt)
        generalize hX : ys[k] = x at *
        generalize hY : beVal (ys.take k) = y at *
        go_wp2_with fail
        go_round
        case rel => exact ⟨k + 1, by omega, by go_num, by rw [List.take_succ_eq_append_getElem hlt, beVal_snoc, hX, hY]; exact congrArg _ (or_byte hv.1 hx.1 hx.2 hv2.2)⟩
        case measure => simp [intOf]; omega
      · have hke : k = ys.length := by omega
        subst hke
        rw [List.take_length]
        go_wp2_with fail
        exact bodyPost_ret (v := .int .i64 (beVal ys)) (by simp [results, Tryd.f20, go_sem]) rfl (by first | exact ⟨rfl, sl', HR1.out⟩ | exact ⟨rfl, ⟨sl', HR1.out.1⟩, HR1.out.2⟩)
  · obtain ⟨a, c, rfl⟩ := hR.src.len
    obtain ⟨ad, rfl, hc0⟩ := hR.src.at (k := 0) (by omega)
    have hge : (8 : Int) ≤ xs.length := by omega
    have hx0 : xs[0] ≤ 127 := by
      cases xs with
      | nil => simp at hc
      | cons x t => exact hw
    have hxb : ¬ 127 < xs[0] := by omega
    rw [show ad.add 0 = ad from if_pos rfl] at hc0
    generalize xs[0] = x0 at *
    clear h hR hbig hl hx hw hx0 hc
    go_enter Tryd.func20, Tryd.ntmps20
    go_wp2_with fail
    refine HT.out.mono ?_
    rintro r w1 ⟨out, sl', rfl, hs, hR1, hU1⟩
    obtain ⟨a0, c0, rfl⟩ := hs.len
    have HS := Lib.hid hs
    have HR1 := Lib.hid (And.intro hR1 hU1)
    clear hs hR1 hU1
    go_wp2_with fail
    go_loop [5, 55] (fun v i => ∃ k : Nat, k ≤ ys.length ∧ i = .int .i64 k ∧ v = .int .i64 (beVal (ys.take k))) (fun _ i => ys.length - (intOf i).toNat)
    case atStart => exact ⟨0, Nat.zero_le _, rfl, rfl⟩
    case round =>
      obtain ⟨k, hk, rfl, rfl⟩ := hrel
      have hlen := HL.out
      by_cases hlt : k < ys.length
      · obtain ⟨ad, rfl, hcell⟩ := HS.out.at hlt
        have hv := HV.out k
        have hv2 := HV.out (k + 1)
        rw [List.take_succ_eq_append_getElem hlt, beVal_snoc] at hv2
        have hx := H8.out _ (List.getElem_mem hlt)
        generalize hX : ys[k] = x at *
        generalize hY : beVal (ys.take k) = y at *
        go_wp2_with fail
        go_round
        case rel => exact ⟨k + 1, by omega, by go_num, by rw [List.take_succ_eq_append_getElem hlt, beVal_snoc, hX, hY]; exact congrArg _ (or_byte hv.1 hx.1 hx.2 hv2.2)⟩
        case measure => simp [intOf]; omega
      · have hke : k = ys.length := by omega
        subst hke
        rw [List.take_length]
        go_wp2_with fail
        exact bodyPost_ret (v := .int .i64 (beVal ys)) (by simp [results, Tryd.f20, go_sem]) rfl (by first | exact ⟨rfl, sl', HR1.out⟩ | exact ⟨rfl, ⟨sl', HR1.out.1⟩, HR1.out.2⟩)

end Go.Proofs.YtadonpfpneanhaaDoor
