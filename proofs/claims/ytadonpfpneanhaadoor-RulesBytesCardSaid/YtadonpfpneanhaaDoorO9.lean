/- What was written is read: numbers, flags, bytes; a list of bytes is taken. -/
import Derived.Test.YtadonpfpneanhaaDoorO6
import Derived.Deep.DeepCutAuto
namespace Go.Proofs.YtadonpfpneanhaaDoor
open Go.RowKit

theorem be_in (n width : Int) : ∀ x ∈ be n width, 0 ≤ x ∧ x < 256 := by
  intro x hx
  obtain ⟨k, _, rfl⟩ := List.mem_map.1 hx
  unfold beF
  omega
theorem emod_two (y : Int) {P : Int} (hP : 0 < P) : y / 256 % P * 256 + y % 256 = y % (256 * P) := by
  have h1 := Int.emod_add_mul_ediv (y / 256) P
  have h2 := Int.emod_nonneg (y / 256) (Int.ne_of_gt hP)
  have h3 := Int.emod_lt_of_pos (y / 256) hP
  have h4 : y = (y / 256 % P * 256 + y % 256) + 256 * P * (y / 256 / P) := by
    rw [Int.mul_assoc]
    omega
  have h5 : (y / 256 % P * 256 + y % 256) % (256 * P) = y / 256 % P * 256 + y % 256 := Int.emod_eq_of_lt (by omega) (by omega)
  calc y / 256 % P * 256 + y % 256 = (y / 256 % P * 256 + y % 256) % (256 * P) := h5.symm
    _ = ((y / 256 % P * 256 + y % 256) + 256 * P * (y / 256 / P)) % (256 * P) := (Int.add_mul_emod_self_left _ _ _).symm
    _ = y % (256 * P) := by rw [← h4]
/-- The first m bytes of a number's bytes. -/
theorem be_prefix (n : Int) (W : Nat) : ∀ m, m ≤ W → beVal ((List.range m).map (beF n W)) = n / 2 ^ (8 * (W - m)) % 256 ^ m := by
  intro m
  induction m with
  | zero => intro _; simp [beVal]
  | succ m ih =>
    intro hm
    rw [List.range_succ, List.map_append, List.map_singleton, beVal_snoc, ih (by omega)]
    unfold beF
    rw [show (8 * ((W : Int) - 1 - m)).toNat = 8 * (W - (m + 1)) by omega]
    have hd : n / 2 ^ (8 * (W - m)) = n / 2 ^ (8 * (W - (m + 1))) / 256 := by
      rw [Int.ediv_ediv_of_nonneg (Int.pow_nonneg (by omega)), show (256 : Int) = 2 ^ 8 from rfl, ← Int.pow_add, show 8 * (W - (m + 1)) + 8 = 8 * (W - m) by omega]
    rw [hd]
    generalize n / 2 ^ (8 * (W - (m + 1))) = y
    rw [Int.pow_succ, Int.mul_comm (256 ^ m) 256, emod_two y (Int.pow_pos (by omega))]
theorem be_val {n width : Int} (h : ¬ BadN n width) (hn : n ≤ 9223372036854775807) : beVal (be n width) = n := by
  unfold BadN at h
  have hw : ((width.toNat : Nat) : Int) = width := Int.toNat_of_nonneg (by omega)
  have := be_prefix n width.toNat width.toNat (Nat.le_refl _)
  rw [hw] at this
  unfold be
  rw [this, Nat.sub_self, Nat.mul_zero, Int.pow_zero, Int.ediv_one]
  apply Int.emod_eq_of_lt (by omega)
  by_cases hx : width < 8
  · omega
  · obtain rfl : width = 8 := by omega
    show n < 256 ^ 8
    omega

theorem RS.number_back {n width : Int} (h : ¬ BadN n width) (hn : n ≤ 9223372036854775807) (t : List Int) : RS.number ⟨0, be n width ++ t⟩ width = ⟨0, t⟩ ∧ RS.numV ⟨0, be n width ++ t⟩ width = n := by
  have h' := h
  unfold BadN at h'
  have hl := be_length n width
  have hpre : RS.pre ⟨0, be n width ++ t⟩ width = ⟨0, be n width ++ t⟩ := by
    unfold RS.pre
    rw [if_neg]
    rintro ⟨-, rfl, -, hx⟩
    have : (be n 8 ++ t).headD 0 = n / 2 ^ 56 % 256 := rfl
    rw [this] at hx
    omega
  have hnot : ¬ (width < 1 ∨ 8 < width) := by omega
  constructor
  · unfold RS.number
    rw [if_neg hnot, hpre]
    simp [RS.take, hl]
    omega
  · unfold RS.numV
    rw [if_neg hnot, hpre]
    simp [RS.took, hl, be_val h hn]
theorem RS.one_back {x : Int} (h0 : 0 ≤ x) (h : x < 256) (t : List Int) : RS.number ⟨0, x :: t⟩ 1 = ⟨0, t⟩ ∧ RS.numV ⟨0, x :: t⟩ 1 = x := by
  have := RS.number_back (good_one h0 h) (by omega) t
  rwa [be_one h0 h] at this
theorem RS.flag_back (n : Int) (t : List Int) : RS.flag ⟨0, n % 2 :: t⟩ = ⟨0, t⟩ ∧ RS.flagV ⟨0, n % 2 :: t⟩ = decide (n % 2 = 1) := by
  have hp : RS.flagP ⟨0, n % 2 :: t⟩ = ⟨0, n % 2 :: t⟩ := by
    unfold RS.flagP
    rw [if_neg]
    rintro ⟨-, hx⟩
    simp at hx
    omega
  have h1 := RS.one_back (x := n % 2) (by omega) (by omega) t
  unfold RS.flag RS.flagV
  rw [hp, h1.1, h1.2]
  exact ⟨rfl, rfl⟩
theorem RS.fixed_back (xs t : List Int) : RS.fixed ⟨0, xs ++ t⟩ xs.length = ⟨0, t⟩ ∧ RS.fixedV ⟨0, xs ++ t⟩ xs.length = xs := by
  have hn : ¬ (xs.length : Int) < 0 := by omega
  constructor
  · unfold RS.fixed
    rw [if_neg hn]
    simp [RS.take]
  · unfold RS.fixedV
    rw [if_neg hn]
    simp [RS.took]
theorem RS.bytes_back {xs : List Int} {most : Int} (hm : (xs.length : Int) ≤ most) (hl : xs.length ≤ 65535) (t : List Int) : RS.bytes ⟨0, be xs.length 2 ++ xs ++ t⟩ most = ⟨0, t⟩ ∧ RS.bytesV ⟨0, be xs.length 2 ++ xs ++ t⟩ most = xs := by
  have hb : ¬ BadN xs.length 2 := by unfold BadN; simp; omega
  have h1 := RS.number_back hb (by omega) (xs ++ t)
  have h2 : RS.most ⟨0, xs ++ t⟩ xs.length most = ⟨0, xs ++ t⟩ := by
    unfold RS.most
    rw [if_neg (by simp; omega)]
  have h3 := RS.fixed_back xs t
  unfold RS.bytes RS.bytesV
  rw [List.append_assoc, h1.1, h1.2, h2]
  exact h3

theorem own_joinB {w : World} {B : Nat} {v : Value} {bs : List Int} {x : Int} (h : w.ownsRow B 5 1 v (bs.length + 1) (u8s bs ++ [.int .u8 x])) : w.ownsRow B 5 1 v (bs ++ [x]).length (u8s (bs ++ [x])) := by
  rw [List.length_append, u8s, List.map_append]
  exact h
theorem own_keep {w w' : World} {B n size : Nat} {e : TypeId} {v : Value} {xs : List Value} (h : w.ownsRow B e size v n xs) (hs : ∀ g, v.ownBlock = some g → w'.heap[g]? = w.heap[g]?) : w'.ownsRow B e size v n xs := by
  refine ⟨h.1, ?_⟩
  rcases h.2 with hh | ⟨g, cap, cur, rfl, hb0, hgb, rest⟩
  · exact .inl hh
  · exact .inr ⟨g, cap, cur, rfl, hb0, (hs g rfl).trans hgb, rest⟩
theorem Upd.grown {q : Nat} {w wr w' : World} {r : Option Nat} (h : Upd q w noV wr noV) (hg : wr.grownBy w' r) (hr : ∀ g, r = some g → w.heap.size ≤ g) : Upd q w noV w' noV :=
  ⟨hg.os.trans h.os, hg.tape.trans h.tape, hg.output.trans h.output, Nat.le_trans h.size hg.size, fun k hk hq hn => (hg.block k (Nat.lt_of_lt_of_le hk h.size) (fun e => by have := hr k e.symm; omega)).trans (h.same k hk hq hn), fun _ hg => .inl hg⟩
theorem Rd.grown {w w' : World} {q : Nat} {e sl : Value} {xs : List Int} {r : Option Nat} (h : Rd w q e sl xs) (hg : w.grownBy w' r) (hr : ∀ g, r = some g → q < g) : Rd w' q e sl xs := by
  refine ⟨(hg.block q h.lt (fun e => by have := hr q e.symm; omega)).trans h.blk, ?_, h.ap, h.by8⟩
  rcases h.src with h1 | ⟨ad, c, rfl, h1, h2, h3⟩
  · exact .inl h1
  · refine .inr ⟨ad, c, rfl, h1, h2, fun j u hj => (World.cell?_of_block (hg.block _ (World.block_lt_of_cell? w _ (h3 j u hj)) ?_)).trans (h3 j u hj)⟩
    intro e
    have h4 := (h.ap ad _ c rfl).1
    have h5 := hr _ e.symm
    rw [add_block] at h5
    omega
theorem Eye.grown {A : List Addr} {w w' : World} {q : Nat} {sl : Value} {s : RS} {r : Option Nat} (h : Eye A w q sl s) (hg : w.grownBy w' r) (hr : ∀ g, r = some g → q < g) : Eye A w' q sl s := by
  have key : ∀ (b : Nat) (u : Value), b < 4 → w.cell? ⟨b, 0, none⟩ = some u → w'.cell? ⟨b, 0, none⟩ = some u := fun b u hb hc =>
    (World.cell?_of_block (hg.block _ (World.block_lt_of_cell? w _ hc) (fun e => by have h1 := hr _ e.symm; have h2 := h.far; simp only at h1; omega))).trans hc
  obtain ⟨⟨a, h1, h2⟩, ⟨b, h3, h4⟩⟩ := h.ers
  exact ⟨⟨⟨a, h1, key _ _ (by omega) h2⟩, ⟨b, h3, key _ _ (by omega) h4⟩⟩, h.rd.grown hg hr, h.big, h.far⟩

set_option maxHeartbeats 1000000 in
set_option maxRecDepth 100000 in
/-- One byte of a list, by the law's closures. -/
theorem rone_any (f : FuncId) (hf : f = 50 ∨ f = 39) (A : List Addr) (w : World) (q : Nat) (sl : Value) (x : Int) (t : List Int) (hE : Eye A w q sl ⟨0, x :: t⟩) (h0 : 0 ≤ x) (h8 : x < 256) :
    Calls Tryd.prog f #[.pointer (some ⟨q, 0, none⟩)] w fun r w' => r = .returned (.int .u8 x) ∧ ∃ sl', Eye A w' q sl' ⟨0, t⟩ ∧ Upd q w noV w' noV := by
  have hn := rnum_eye A w q sl ⟨0, x :: t⟩ hE 1
  rw [(RS.one_back h0 h8 t).1, (RS.one_back h0 h8 t).2] at hn
  have HN := Lib.hid hn
  have hwr : IntKind.u8.wrap x = x := by
    simp [IntKind.wrap, IntKind.signed, IntKind.bits]
    omega
  clear hE hn
  rcases hf with rfl | rfl
  · go_enter Tryd.func50, Tryd.ntmps50
    go_wp2_with fail
    refine HN.out.mono ?_
    rintro r w1 ⟨rfl, k⟩
    have HK := Lib.hid k
    clear k
    go_wp2_with fail
    go_ret
    exact ⟨rfl, HK.out⟩
  · go_enter Tryd.func39, Tryd.ntmps39
    go_wp2_with fail
    refine HN.out.mono ?_
    rintro r w1 ⟨rfl, k⟩
    have HK := Lib.hid k
    clear k
    go_wp2_with fail
    go_ret
    exact ⟨rfl, HK.out⟩

set_option maxHeartbeats 2000000 in
set_option maxRecDepth 100000 in
/-- A list of bytes that was written is taken. -/
theorem take_bytes (f : FuncId) (hf : f = 50 ∨ f = 39) (A : List Addr) (w : World) (q : Nat) (sl : Value) (ys t : List Int) (most : Int) (hE : Eye A w q sl ⟨0, (ys.length : Int) :: (ys ++ t)⟩) (h8 : ∀ x ∈ ys, 0 ≤ x ∧ x < 256) (hl : ys.length ≤ 255) (hm : (ys.length : Int) ≤ most) :
    Calls Tryd.prog 38 #[.pointer (some ⟨q, 0, none⟩), .int .i64 most, .func (.func f) #[] #[]] w fun r w' => ∃ v sl', r = .returned v ∧ w'.ownsRow w.heap.size 5 1 v ys.length (u8s ys) ∧ Eye A w' q sl' ⟨0, t⟩ ∧ Upd q w noV w' noV := by
  obtain ⟨i0, hi, hz0, hz1, hz2⟩ := info_parts Tryd.info5
  have hn := rnum_eye A w q sl _ hE 1
  rw [(RS.one_back (x := ys.length) (by omega) (by omega) (ys ++ t)).1, (RS.one_back (x := ys.length) (by omega) (by omega) (ys ++ t)).2] at hn
  have HN := Lib.hid hn
  have H8 := Lib.hid h8
  have HQ := Lib.hid hE.rd.lt
  have HF := Lib.hid hf
  clear hE hn h8 hf
  go_enter Tryd.func38, Tryd.ntmps38
  go_wp2_with fail
  refine HN.out.mono ?_
  rintro r w1 ⟨rfl, sl1, hE1, hU1⟩
  have k0 := hE1.rd.c0
  simp only [errV_zero] at k0
  have HE1 := Lib.hid hE1
  have HU1 := Lib.hid hU1
  clear hE1 hU1
  go_wp2_with fail
  clear k0
  go_loopw [8, 9] (fun v i wr => ∃ (k : Nat) (sl' : Value), k ≤ ys.length ∧ i = .int .i64 k ∧ wr.ownsRow w.heap.size 5 1 v (ys.take k).length (u8s (ys.take k)) ∧ Eye A wr q sl' ⟨0, ys.drop k ++ t⟩ ∧ Upd q w noV wr noV) (fun _ i _ => ys.length - (intOf i).toNat)
  case atStart => exact ⟨0, sl1, Nat.zero_le _, rfl, World.ownsRow_nil _ _ _ _, HE1.out, HU1.out⟩
  case round =>
    obtain ⟨k, sl', hk, rfl, hown, hE, hU⟩ := hrel
    obtain ⟨va, vl, vc, rfl⟩ := slice_of_own hown
    have k0 := hE.rd.c0
    simp only [errV_zero] at k0
    have HE := Lib.hid hE
    have HU := Lib.hid hU
    have HO := Lib.hid hown
    clear hE hU hown
    by_cases hlt : k < ys.length
    · have hx := H8.out _ (List.getElem_mem hlt)
      have hE2 := HE.out
      rw [List.drop_eq_getElem_cons hlt, List.cons_append] at hE2
      have hone := rone_any f HF.out A wr q sl' ys[k] (ys.drop (k + 1) ++ t) hE2 hx.1 hx.2
      have htk := List.take_succ_eq_append_getElem hlt
      generalize ys[k] = x at *
      have HONE := Lib.hid hone
      clear hE2 hone
      rcases HF.out with rfl | rfl
      all_goals
        go_wp2_with fail
        refine HONE.out.mono ?_
        rintro r w2 ⟨rfl, sl2, hE2, hU2⟩
        have hown2 := own_keep HO.out (fun g hg => hU2.same g (HO.out.lt g hg).2 (fun e => by have := (HO.out.lt g hg).1; have := HQ.out; omega) (fun e => by simp [Value.ownBlock] at e))
        have HO2 := Lib.hid hown2
        have HU2 := Lib.hid (HU.out.trans hU2)
        have HE2 := Lib.hid hE2
        have hown3 := hown2.alloc (.cells #[.int .u8 x] 5)
        have hl1 : (ys.take k).length + 1 ≤ maxLen := by rw [List.length_take]; unfold maxLen; omega
        have hl2 : ((ys.take k).length + 1) * 1 ≤ 140737488355328 := by rw [List.length_take]; omega
        have hsz : w.heap.size ≤ (w2.alloc (.cells #[.int .u8 x] 5)).heap.size := by have := HU2.out.size; simp; omega
        clear hE2 hU2 hown2 k0
        go_wp2_with (first
          | (at_builtin; refine wpList_append_own _ rfl (.tmp 41) (.tmp 45) 22 rfl w.heap.size 5 i0 (.int .u8 0) 1 1 Tryd.underlying22 hi hz0 hz1 hz2 rfl (by decide) _ (ys.take k).length (u8s (ys.take k)) rfl hown3 ⟨w2.heap.size, 0, none⟩ 1 1 [.int .u8 x] rfl rfl (cell_one_new _ _ _) (by simp [Value.oneCell']) hl1 hl2 hsz ?_; intro v' w3 hown' hgrow _))
        have HR : Hid (w3.ownsRow w.heap.size 5 1 v' (ys.take (k + 1)).length (u8s (ys.take (k + 1)))) := by
          rw [htk]
          exact own_joinB hown'
        have HR2 : Hid (Eye A w3 q sl2 ⟨0, ys.drop (k + 1) ++ t⟩ ∧ Upd q w noV w3 noV) := ⟨(HE2.out.later (belowN _ _)).grown hgrow (fun g hg => by have := (HO.out.lt g hg).1; have := HQ.out; omega), (HU2.out.trans (Upd.of_below (belowN _ _))).grown hgrow (fun g hg => (HO.out.lt g hg).1)⟩
        clear hown' hgrow hown3
        go_roundw
        case rel => exact ⟨k + 1, sl2, by omega, by go_num, HR.out, HR2.out⟩
        case measure => simp [intOf]; omega
    · have hke : k = ys.length := by omega
      subst hke
      have hE2 := HE.out
      have hO2 := HO.out
      rw [List.drop_length, List.nil_append] at hE2
      rw [List.take_length] at hO2
      have HE3 := Lib.hid hE2
      have HO3 := Lib.hid hO2
      clear hE2 hO2
      go_wp2_with fail
      go_ret
      exact ⟨_, sl', rfl, HO3.out, HE3.out, HU.out⟩

end Go.Proofs.YtadonpfpneanhaaDoor
