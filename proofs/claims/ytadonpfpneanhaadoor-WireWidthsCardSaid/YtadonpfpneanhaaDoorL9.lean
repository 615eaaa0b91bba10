/- The walk of WireWidths: a number is written in as many bytes as its width. -/
import Derived.Test.YtadonpfpneanhaaDoorW7
namespace Go.Proofs.YtadonpfpneanhaaDoor
open Go.RowKit

theorem fold_ge (xs : List Int) : ∀ (acc : Int), (∀ x ∈ xs, 0 ≤ x ∧ x < 256) → acc * 256 ^ xs.length ≤ xs.foldl (fun n c => n * 256 + c) acc := by
  induction xs with
  | nil => intro acc _; simp
  | cons x xs ih =>
    intro acc hx
    have h2 := hx x (List.mem_cons_self ..)
    have h3 := ih (acc * 256 + x) (fun y hy => hx y (List.mem_cons_of_mem _ hy))
    rw [List.foldl_cons, List.length_cons, Int.pow_succ]
    refine Int.le_trans ?_ h3
    have h4 : (0 : Int) ≤ 256 ^ xs.length := Int.pow_nonneg (by omega)
    have h5 : (acc * 256) * 256 ^ xs.length ≤ (acc * 256 + x) * 256 ^ xs.length := Int.mul_le_mul_of_nonneg_right (by omega) h4
    rw [show acc * (256 ^ xs.length * 256) = (acc * 256) * 256 ^ xs.length by rw [Int.mul_comm (256 ^ xs.length) 256, ← Int.mul_assoc]]
    exact h5
theorem fold_step {xs ys : List Int} {a b : Int} (hl : xs.length = ys.length) (ha : 0 ≤ a) (hx : ∀ x ∈ xs, 0 ≤ x ∧ x < 256) (hy : ∀ x ∈ ys, 0 ≤ x ∧ x < 256) (hab : a < b) :
    xs.foldl (fun n c => n * 256 + c) a < ys.foldl (fun n c => n * 256 + c) b := by
  have h1 := (fold_lt xs a ha hx).2
  have h2 := fold_ge ys b hy
  rw [hl] at h1
  have h4 : (0 : Int) ≤ 256 ^ ys.length := Int.pow_nonneg (by omega)
  have h5 : (a + 1) * 256 ^ ys.length ≤ b * 256 ^ ys.length := Int.mul_le_mul_of_nonneg_right (by omega) h4
  omega
theorem less_val : ∀ (xs ys : List Int) (acc : Int), 0 ≤ acc → xs.length = ys.length → (∀ x ∈ xs, 0 ≤ x ∧ x < 256) → (∀ x ∈ ys, 0 ≤ x ∧ x < 256) →
    Op.bytesLess (xs.map fun n => UInt8.ofNat n.toNat) (ys.map fun n => UInt8.ofNat n.toNat) = decide (xs.foldl (fun n c => n * 256 + c) acc < ys.foldl (fun n c => n * 256 + c) acc)
  | [], [], acc, _, _, _, _ => by simp [Op.bytesLess]
  | [], y :: ys, _, _, hl, _, _ => by simp at hl
  | x :: xs, [], _, _, hl, _, _ => by simp at hl
  | x :: xs, y :: ys, acc, h0, hl, hx, hy => by
    have hx1 := hx x (List.mem_cons_self ..)
    have hy1 := hy y (List.mem_cons_self ..)
    have hl1 : xs.length = ys.length := by simpa using hl
    have hx2 : ∀ z ∈ xs, 0 ≤ z ∧ z < 256 := fun z hz => hx z (List.mem_cons_of_mem _ hz)
    have hy2 : ∀ z ∈ ys, 0 ≤ z ∧ z < 256 := fun z hz => hy z (List.mem_cons_of_mem _ hz)
    rw [List.map_cons, List.map_cons, List.foldl_cons, List.foldl_cons, Op.bytesLess]
    have hlt : (UInt8.ofNat x.toNat < UInt8.ofNat y.toNat) ↔ x < y := by
      rw [UInt8.lt_iff_toNat_lt, UInt8.toNat_ofNat', UInt8.toNat_ofNat']
      omega
    have heq : (UInt8.ofNat x.toNat = UInt8.ofNat y.toNat) ↔ x = y := by
      rw [← UInt8.toNat_inj, UInt8.toNat_ofNat', UInt8.toNat_ofNat']
      omega
    rcases Int.lt_trichotomy x y with h | h | h
    · have := fold_step (a := acc * 256 + x) (b := acc * 256 + y) hl1 (by omega) hx2 hy2 (by omega)
      simp [hlt.2 h, this]
    · subst h
      have ih := less_val xs ys (acc * 256 + x) (by omega) hl1 hx2 hy2
      rw [ih]
      simp
    · have := fold_step (a := acc * 256 + y) (b := acc * 256 + x) hl1.symm (by omega) hy2 hx2 (by omega)
      have h1 : ¬ UInt8.ofNat x.toNat < UInt8.ofNat y.toNat := fun hh => by have := hlt.1 hh; omega
      have h2 : ¬ UInt8.ofNat x.toNat = UInt8.ofNat y.toNat := fun hh => by have := heq.1 hh; omega
      have hd : decide (xs.foldl (fun n c => n * 256 + c) (acc * 256 + x) < ys.foldl (fun n c => n * 256 + c) (acc * 256 + y)) = false := decide_eq_false (by omega)
      rw [hd]
      show (decide (UInt8.ofNat x.toNat < UInt8.ofNat y.toNat) || (UInt8.ofNat x.toNat == UInt8.ofNat y.toNat && _)) = false
      rw [decide_eq_false h1, beq_eq_false_iff_ne.2 h2]
      rfl
theorem val_be : ∀ (k : Nat) (n : Int), 0 ≤ n → n < 256 ^ k → beVal ((List.range k).map fun j => n / 2 ^ (8 * (k - 1 - j)) % 256) = n
  | 0, n, h0, h1 => by simp at h1; simp [beVal]; omega
  | k + 1, n, h0, h1 => by
    rw [Int.pow_succ] at h1
    have ih := val_be k (n / 256) (by omega) (by omega)
    have he : ((List.range (k + 1)).map fun j => n / 2 ^ (8 * (k + 1 - 1 - j)) % 256) = ((List.range k).map fun j => (n / 256) / 2 ^ (8 * (k - 1 - j)) % 256) ++ [n % 256] := by
      rw [List.range_succ, List.map_append]
      congr 1
      · apply List.map_congr_left
        intro j hj
        have hjk := List.mem_range.1 hj
        rw [show 8 * (k + 1 - 1 - j) = 8 + 8 * (k - 1 - j) by omega, Int.pow_add, ← Int.ediv_ediv_of_nonneg (by decide)]
        rfl
      · simp
    rw [he, beVal_snoc, ih]
    omega
theorem be_val {n width : Int} (h1 : 1 ≤ width) (h8 : width ≤ 8) (h0 : 0 ≤ n) (hn : n < 9223372036854775808) (hb : ¬ BadN n width) : beVal (be n width) = n := by
  have hlt : n < 256 ^ width.toNat := by
    unfold BadN at hb
    by_cases h : width < 8
    · omega
    · obtain rfl : width = 8 := by omega
      show n < 18446744073709551616
      omega
  have := val_be width.toNat n h0 hlt
  rw [← this]
  congr 1
  unfold be
  apply List.map_congr_left
  intro j hj
  have hjk := List.mem_range.1 hj
  unfold beF
  rw [this, show (8 * (width - 1 - (j : Int))).toNat = 8 * (width.toNat - 1 - j) by omega]
theorem be_range (n width : Int) : ∀ x ∈ be n width, 0 ≤ x ∧ x < 256 := by
  intro x hx
  obtain ⟨j, _, rfl⟩ := List.mem_map.1 hx
  unfold beF
  omega
theorem be_less {a b width : Int} (h1 : 1 ≤ width) (h8 : width ≤ 8) (ha0 : 0 ≤ a) (hb0 : 0 ≤ b) (ha1 : a < 9223372036854775808) (hb1 : b < 9223372036854775808) (ha : ¬ BadN a width) (hb : ¬ BadN b width) :
    Op.bytesLess (strOfNums (be a width)).toList (strOfNums (be b width)).toList = decide (a < b) := by
  rw [strOfNums_list, strOfNums_list, less_val _ _ 0 (Int.le_refl _) (by rw [be_length, be_length]) (be_range _ _) (be_range _ _)]
  have h3 := be_val h1 h8 ha0 ha1 ha
  have h4 := be_val h1 h8 hb0 hb1 hb
  unfold beVal at h3 h4
  rw [h3, h4]

def widthBytes (n width : Int) : List Int := if BadN n width then [] else be n width

set_option maxHeartbeats 1000000 in
set_option maxRecDepth 100000 in
/-- The closure: a number's bytes as a string, and the error. -/
theorem bytesOf_any (A : List Addr) (w : World) (h : Ers A w) (b : Nat) (width n : Int) (hc : w.cell? ⟨b, 0, none⟩ = some (.int .i64 width)) (hw : 1 ≤ width ∧ width ≤ 8) :
    Calls Tryd.prog 24 #[.int .i64 n, .pointer (some ⟨b, 0, none⟩)] w fun r w' => r = .returned (.tuple #[.string (strOfNums (widthBytes n width)), errV A (if BadN n width then 1 else 0)]) ∧ Below w.heap.size w w' := by
  obtain ⟨S, hS⟩ : ∃ S, S = widthBytes n width := ⟨_, rfl⟩
  obtain ⟨E, hE⟩ : ∃ E, E = errV A (if BadN n width then 1 else 0) := ⟨_, rfl⟩
  rw [← hS, ← hE]
  unfold widthBytes at hS
  have HSe := Lib.hid hS
  have HEe := Lib.hid hE
  clear hS hE
  have HS := Lib.hid h
  have hb := World.block_lt_of_cell? w _ hc
  clear h
  go_enter Tryd.func24, Tryd.ntmps24
  go_wp2_with fail
  refine (new_writer _).mono ?_
  rintro r w1 ⟨rfl, rfl⟩
  have hW := Wr.new w
  have hB := belowN w (.cells #[.nilIface, .slice none 0 0] 92)
  have hc1 := (hB.cell (p := ⟨b, 0, none⟩) hb).trans hc
  have HB := Lib.hid hB
  have hn := number_any A _ (HS.out.later hB) w.heap.size (.slice none 0 0) ⟨0, []⟩ hW (by simp) n width
  generalize w.alloc (.cells #[.nilIface, .slice none 0 0] 92) = w1 at *
  have HN := Lib.hid hn
  have HL := Lib.hid hW.lt
  clear hW hB hc hn
  go_wp2_with fail
  refine HN.out.mono ?_
  rintro r w2 ⟨rfl, v2, hW2, hU2⟩
  obtain ⟨b12, -⟩ := hU2.below (B := w.heap.size) (Nat.le_refl _) (by have := HL.out; omega) (fun g hg => by simp [Value.ownBlock] at hg)
  have HB2 := Lib.hid (HB.out.trans b12)
  clear hU2 b12 hc1
  by_cases hbad : BadN n width
  · have hw2 : Wr w2 w.heap.size (errV A 1) v2 [] := by
      have := hW2
      unfold WS.number at this
      rw [if_pos hbad] at this
      exact this
    obtain rfl : S = [] := HSe.out.trans (if_pos hbad)
    obtain rfl : E = errV A 1 := HEe.out.trans (by rw [if_pos hbad])
    obtain ⟨u, hu⟩ := errV_pos A (show (1 : Nat) ≠ 0 by decide)
    have h0 := hw2.c0
    rw [hu] at h0
    have HU := Lib.hid hu
    have HD := Lib.hid (done_err w2 w.heap.size _ _ h0)
    have hst : ∀ W, (convert 22 9 (.slice none 0 0)).run Tryd.prog W = .ok (.string (strOfNums [])) W := fun W => str_src (.inl ⟨rfl, rfl⟩)
    clear hW2 hw2 hbad h0 hu
    go_wp2_with fail
    refine HD.out.mono ?_
    rintro r w3 ⟨rfl, hb3⟩
    have HB3 := Lib.hid (belowT HB2.out hb3 (Nat.le_refl _))
    clear hb3
    go_wp2_with fail
    exact bodyPost_ret (v := .tuple #[.string (strOfNums []), .iface 132 u]) (by simp [results, Tryd.f24, go_sem]) rfl ⟨by rw [HU.out], HB3.out⟩
  · have hw2 : Wr w2 w.heap.size .nilIface v2 (be n width) := by
      have := hW2
      unfold WS.number at this
      rw [if_neg hbad] at this
      simpa [WS.fixed, errV_zero] using this
    obtain rfl : S = be n width := HSe.out.trans (if_neg hbad)
    obtain rfl : E = .nilIface := HEe.out.trans (by rw [if_neg hbad]; rfl)
    have HD := Lib.hid (done_ok w2 w.heap.size _ _ hw2 (by rw [be_length]; omega))
    clear hW2 hw2 hbad
    go_wp2_with fail
    refine HD.out.mono ?_
    rintro r w3 ⟨v3, rfl, ho3, hb3⟩
    have HB3 := Lib.hid (belowT HB2.out hb3 (Nat.le_refl _))
    have hst := str_src (Src.of_own ho3)
    clear hb3 ho3
    go_wp2_with fail
    exact bodyPost_ret (v := .tuple #[.string (strOfNums (be n width)), .nilIface]) (by simp [results, Tryd.f24, go_sem]) rfl ⟨rfl, HB3.out⟩

theorem u64_rem (n : Int) : 0 ≤ (IntKind.u64.wrap n).tmod 8 ∧ (IntKind.u64.wrap n).tmod 8 < 8 := by
  have h : 0 ≤ IntKind.u64.wrap n := by
    simp only [IntKind.wrap, IntKind.signed, IntKind.bits, Bool.false_and, Bool.false_eq_true, if_false]
    exact Int.emod_nonneg _ (by decide)
  rw [Int.tmod_eq_emod_of_nonneg h]
  omega
theorem fits_iff {n width : Int} (h1 : 1 ≤ width) (h8 : width < 8) : n / 2 ^ (8 * width).toNat = 0 ↔ 0 ≤ n ∧ n < 256 ^ width.toNat := by
  have : width = 1 ∨ width = 2 ∨ width = 3 ∨ width = 4 ∨ width = 5 ∨ width = 6 ∨ width = 7 := by omega
  rcases this with rfl | rfl | rfl | rfl | rfl | rfl | rfl <;> simp <;> omega

set_option maxHeartbeats 2000000 in
set_option maxRecDepth 100000 in
theorem wireWidths_walk (A : List Addr) (w : World) (h : Sents G18 132 A w) (a : Int) (ha1 : a < 9223372036854775808) (b : Int) (hb1 : b < 9223372036854775808) (width : Int) :
    Calls Tryd.prog 4 #[.int .i64 a, .int .i64 b, .int .i64 width] w fun e w' => e = .returned (.bool true) ∧ Below w.heap.size w w' := by
  have HB : Hid (∀ W', Below w.heap.size w W' → Sents G18 132 A W') := fun W' hW => h.later hW
  have hT := u64_rem width
  clear h
  go_enter Tryd.func4, Tryd.ntmps4
  go_wp2_with fail
  have hbox := belowN w (.cells #[.int .i64 width] 3)
  have hk : (w.alloc (.cells #[.int .i64 width] 3)).heap[w.heap.size]? = some (.cells #[.int .i64 width] 3 (0, 0)) := heap_alloc_new w _
  generalize w.alloc (.cells #[.int .i64 width] 3) = w0 at *
  refine (alive01 A w0 (HB.out _ hbox).ers).mono ?_
  rintro e w1 ⟨rfl, b1⟩
  have B1 := Lib.hid (belowT hbox b1 (Nat.le_refl _))
  have hk1 := (b1.block w.heap.size (Array.getElem?_eq_some_iff.1 hk).1).trans hk
  have c1 := cell_of_blk hk1 0
  have f1 : w1.frozen? ⟨w.heap.size, 0, none⟩ = false := by simp [World.frozen?, hk1]
  clear hbox b1 hk
  generalize hU : IntKind.u64.wrap width = U at *
  go_wp2_with fail
  have hM1 : 1 ≤ 1 + U.tmod 8 := by omega
  have hM8 : 1 + U.tmod 8 ≤ 8 := by omega
  generalize 1 + U.tmod 8 = M at *
  have hk2 : (w1.setCell ⟨w.heap.size, 0, none⟩ (.int .i64 M)).cell? ⟨w.heap.size, 0, none⟩ = some (.int .i64 M) := cell_of_blk (heap_setCell_block (o := 0) hk1 (.int .i64 M)) 0
  have B2 := Lib.hid (B1.out.setCell (p := ⟨w.heap.size, 0, none⟩) (Nat.le_refl _) (.int .i64 M))
  generalize w1.setCell ⟨w.heap.size, 0, none⟩ (.int .i64 M) = w2 at *
  clear c1 f1 hk1 B1 hT hU
  have hc1 := bytesOf_any A w2 (HB.out _ B2.out).ers w.heap.size M a hk2 ⟨hM1, hM8⟩
  have hc2 : ∀ W, Below w.heap.size w W → W.cell? ⟨w.heap.size, 0, none⟩ = some (.int .i64 M) → Calls Tryd.prog 24 #[.int .i64 b, .pointer (some ⟨w.heap.size, 0, none⟩)] W _ := fun W hW hc => bytesOf_any A W (HB.out _ hW).ers w.heap.size M b hc ⟨hM1, hM8⟩
  have HLT := Lib.hid (World.block_lt_of_cell? w2 _ hk2)
  by_cases hbad : BadN a M
  · obtain ⟨u, hu⟩ := errV_pos A (show (1 : Nat) ≠ 0 by decide)
    rw [if_pos hbad, hu] at hc1
    have hN : ∀ W, Below w.heap.size w W → Calls Tryd.prog 25 #[errV A 1] W _ := fun W hW => num_code A W (HB.out _ hW) 1 (by decide)
    rw [hu] at hN
    have HNm := Lib.hid hN
    generalize widthBytes a M = S1 at *
    generalize widthBytes b M = S2 at *
    generalize errV A (if BadN b M then 1 else 0) = E2 at *
    have HC1 := Lib.hid hc1
    have HC2a := Lib.hid hc2
    clear hc1 hc2 hN hu
    rcases (show a < 0 ∨ (0 ≤ a ∧ M < 8 ∧ ¬ a / 2 ^ (8 * M).toNat = 0) by
      by_cases h0 : a < 0
      · exact .inl h0
      · right
        unfold BadN at hbad
        have h8 : M < 8 := by omega
        refine ⟨by omega, h8, fun hq => ?_⟩
        have := (fits_iff hM1 h8).1 hq
        omega) with h0 | ⟨h0, h8, hq⟩
    · clear hbad
      go_wp2_with fail
      refine HC1.out.mono ?_
      rintro r w3 ⟨rfl, hb3⟩
      have c3 := (hb3.cell (p := ⟨w.heap.size, 0, none⟩) HLT.out).trans hk2
      have HB3 := Lib.hid (belowT B2.out hb3 (Nat.le_refl _))
      have HC2 := Lib.hid (HC2a.out w3 HB3.out c3)
      have HLT3 := Lib.hid (World.block_lt_of_cell? w3 _ c3)
      clear hb3
      go_wp2_with fail
      refine HC2.out.mono ?_
      rintro r w4 ⟨rfl, hb4⟩
      have c4 := (hb4.cell (p := ⟨w.heap.size, 0, none⟩) HLT3.out).trans c3
      have HB4 := Lib.hid (belowT HB3.out hb4 (Nat.le_refl _))
      clear hb4 c3
      go_wp2_with fail
      refine (HNm.out _ HB4.out).mono ?_
      rintro r w5 ⟨rfl, hb5⟩
      have HB5 := Lib.hid (belowT HB4.out hb5 (Nat.le_refl _))
      clear hb5
      go_wp2_with fail
      go_ret
      exact ⟨rfl, HB5.out⟩
    · have hqb : (a / 2 ^ (8 * M).toNat == 0) = false := by simpa using hq
      have h8b : (M == 8) = false := by simp; omega
      clear hbad hq
      go_wp2_with fail
      refine HC1.out.mono ?_
      rintro r w3 ⟨rfl, hb3⟩
      have c3 := (hb3.cell (p := ⟨w.heap.size, 0, none⟩) HLT.out).trans hk2
      have HB3 := Lib.hid (belowT B2.out hb3 (Nat.le_refl _))
      have HC2 := Lib.hid (HC2a.out w3 HB3.out c3)
      have HLT3 := Lib.hid (World.block_lt_of_cell? w3 _ c3)
      clear hb3
      go_wp2_with fail
      refine HC2.out.mono ?_
      rintro r w4 ⟨rfl, hb4⟩
      have c4 := (hb4.cell (p := ⟨w.heap.size, 0, none⟩) HLT3.out).trans c3
      have HB4 := Lib.hid (belowT HB3.out hb4 (Nat.le_refl _))
      clear hb4 c3
      go_wp2_with fail
      refine (HNm.out _ HB4.out).mono ?_
      rintro r w5 ⟨rfl, hb5⟩
      have HB5 := Lib.hid (belowT HB4.out hb5 (Nat.le_refl _))
      clear hb5
      go_wp2_with fail
      go_ret
      exact ⟨rfl, HB5.out⟩
  · rw [if_neg hbad, errV_zero] at hc1
    have h0 : 0 ≤ a := by unfold BadN at hbad; omega
    have h0' : ¬ a < 0 := by omega
    have hfit : M = 8 ∨ (M < 8 ∧ a / 2 ^ (8 * M).toNat = 0) := by
      unfold BadN at hbad
      by_cases h8 : M < 8
      · exact .inr ⟨h8, (fits_iff hM1 h8).2 (by omega)⟩
      · exact .inl (by omega)
    have HC1 := Lib.hid hc1
    have hlen : ((strOfNums (widthBytes a M)).size : Int) = M := by
      rw [strOfNums_size, widthBytes, if_neg hbad, be_length]; omega
    have hfb : (M == 8) = true ∧ True ∨ (M == 8) = false ∧ (a / 2 ^ (8 * M).toNat == 0) = true := by
      rcases hfit with h8 | ⟨h8, hq⟩
      · left; exact ⟨by simpa using h8, trivial⟩
      · right; exact ⟨by simp; omega, by simpa using hq⟩
    clear hc1
    by_cases hbb : BadN b M
    · obtain ⟨u, hu⟩ := errV_pos A (show (1 : Nat) ≠ 0 by decide)
      rw [if_pos hbb, hu] at hc2
      generalize widthBytes a M = S1 at *
      generalize widthBytes b M = S2 at *
      have HC2a := Lib.hid hc2
      clear hc2 hu hbad hbb hfit hlen
      rcases hfb with ⟨hm8, -⟩ | ⟨hm8, hq⟩
      all_goals
        go_wp2_with fail
        refine HC1.out.mono ?_
        rintro r w3 ⟨rfl, hb3⟩
        have c3 := (hb3.cell (p := ⟨w.heap.size, 0, none⟩) HLT.out).trans hk2
        have HB3 := Lib.hid (belowT B2.out hb3 (Nat.le_refl _))
        have HC2 := Lib.hid (HC2a.out w3 HB3.out c3)
        have HLT3 := Lib.hid (World.block_lt_of_cell? w3 _ c3)
        clear hb3
        go_wp2_with fail
        refine HC2.out.mono ?_
        rintro r w4 ⟨rfl, hb4⟩
        have c4 := (hb4.cell (p := ⟨w.heap.size, 0, none⟩) HLT3.out).trans c3
        have HB4 := Lib.hid (belowT HB3.out hb4 (Nat.le_refl _))
        clear hb4 c3
        go_wp2_with fail
        go_ret
        exact ⟨rfl, HB4.out⟩
    · rw [if_neg hbb, errV_zero] at hc2
      have hlenb : ((strOfNums (widthBytes b M)).size : Int) = M := by
        rw [strOfNums_size, widthBytes, if_neg hbb, be_length]; omega
      have hb0 : 0 ≤ b := by unfold BadN at hbb; omega
      have hless : Op.bytesLess (strOfNums (widthBytes a M)).toList (strOfNums (widthBytes b M)).toList = decide (a < b) := by
        unfold widthBytes
        rw [if_neg hbad, if_neg hbb]
        exact be_less hM1 hM8 h0 hb0 ha1 hb1 hbad hbb
      generalize strOfNums (widthBytes a M) = S1 at *
      generalize strOfNums (widthBytes b M) = S2 at *
      have HC2a := Lib.hid hc2
      clear hc2 hbad hbb hfit
      rcases hfb with ⟨hm8, -⟩ | ⟨hm8, hq⟩
      all_goals
        go_wp2_with fail
        refine HC1.out.mono ?_
        rintro r w3 ⟨rfl, hb3⟩
        have c3 := (hb3.cell (p := ⟨w.heap.size, 0, none⟩) HLT.out).trans hk2
        have HB3 := Lib.hid (belowT B2.out hb3 (Nat.le_refl _))
        have HC2 := Lib.hid (HC2a.out w3 HB3.out c3)
        have HLT3 := Lib.hid (World.block_lt_of_cell? w3 _ c3)
        clear hb3
        go_wp2_with fail
        refine HC2.out.mono ?_
        rintro r w4 ⟨rfl, hb4⟩
        have c4 := (hb4.cell (p := ⟨w.heap.size, 0, none⟩) HLT3.out).trans c3
        have HB4 := Lib.hid (belowT HB3.out hb4 (Nat.le_refl _))
        clear hb4 c3
        go_wp2_with fail
        go_ret
        exact ⟨by simp, HB4.out⟩

theorem wireWidths_law (A : List Addr) (w : World) (h : Sents G18 132 A w) (a : Int) (ha : (Lit.int .i64 a).wf = true) (b : Int) (hb : (Lit.int .i64 b).wf = true) (width : Int) (_ : (Lit.int .i64 width).wf = true) :
    Calls Tryd.prog 4 #[.int .i64 a, .int .i64 b, .int .i64 width] w fun e w' => e = .returned (.bool true) ∧ Below w.heap.size w w' :=
  wireWidths_walk A w h a (by have := bounds_i64 ha; omega) b (by have := bounds_i64 hb; omega) width

end Go.Proofs.YtadonpfpneanhaaDoor
