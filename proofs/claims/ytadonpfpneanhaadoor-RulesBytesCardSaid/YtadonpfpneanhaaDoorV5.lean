/- The walk of RulesBytes: every state's bytes, and which bytes are a state. -/
import Derived.Test.YtadonpfpneanhaaDoorV4
import Derived.Test.YtadonpfpneanhaaDoorL1
namespace Go.Proofs.YtadonpfpneanhaaDoor
open Go.RowKit

theorem cfail {s : RS} (h : s.c ≤ 18) {k : Nat} (hk : k ≤ 18) : (s.fail k).c ≤ 18 := by
  unfold RS.fail
  split
  · exact hk
  · exact h
theorem cnumber {s : RS} (h : s.c ≤ 18) (x : Int) : (s.number x).c ≤ 18 := by
  have htake : ∀ (s : RS) (n : Nat), s.c ≤ 18 → (s.take n).c ≤ 18 := by
    intro s n h
    unfold RS.take
    split
    · split
      · exact of_decide_eq_true rfl
      · exact Nat.zero_le _
    · exact h
  unfold RS.number
  split
  · exact cfail h (by omega)
  · refine htake _ _ ?_
    unfold RS.pre
    split
    · exact cfail h (by omega)
    · exact h
theorem code_few (xs : List Int) : rdCode xs ≤ 18 := by
  have h : (rdS xs 5).c ≤ 18 := cnumber (cnumber (cnumber (cnumber (cnumber (Nat.zero_le 18) _) _) _) _) _
  unfold rdCode
  split
  · split <;> omega
  · unfold RS.fin
    split
    · omega
    · exact h
theorem rdSt_form (xs : List Int) : ∃ a b c d e, rdSt xs = st5 a b c d e := by
  unfold rdSt
  split
  · exact ⟨_, _, _, _, _, rfl⟩
  · exact ⟨_, _, _, _, _, rfl⟩
/-- A state's bytes are read as the state. -/
theorem rd_back {e v l p f : Int} (h : RightP e v l p f) : rdSt (sbytes e v l p f) = st5 e v l p f ∧ rdCode (sbytes e v l p f) = 0 := by
  obtain ⟨h1, h2, h3, h4, h5⟩ := h
  have e0 : sbytes e v l p f = be e 4 ++ (be v 6 ++ (be l 6 ++ (be p 6 ++ (be f 1 ++ [])))) := by
    unfold sbytes sb4 sb3 sb2 sb1
    simp
  have n1 := RS.number_back (good4 h1) (by omega) (be v 6 ++ (be l 6 ++ (be p 6 ++ (be f 1 ++ []))))
  have n2 := RS.number_back (good6 h2) (by omega) (be l 6 ++ (be p 6 ++ (be f 1 ++ [])))
  have n3 := RS.number_back (good6 h3) (by omega) (be p 6 ++ (be f 1 ++ []))
  have n4 := RS.number_back (good6 h4) (by omega) (be f 1 ++ [])
  have n5 := RS.number_back (good1 h5) (by omega) []
  have s0 : rdS (sbytes e v l p f) 0 = ⟨0, be e 4 ++ (be v 6 ++ (be l 6 ++ (be p 6 ++ (be f 1 ++ []))))⟩ := by rw [e0]; rfl
  have s1 : rdS (sbytes e v l p f) 1 = ⟨0, be v 6 ++ (be l 6 ++ (be p 6 ++ (be f 1 ++ [])))⟩ := by
    show (rdS (sbytes e v l p f) 0).number 4 = _
    rw [s0, n1.1]
  have s2 : rdS (sbytes e v l p f) 2 = ⟨0, be l 6 ++ (be p 6 ++ (be f 1 ++ []))⟩ := by
    show (rdS (sbytes e v l p f) 1).number 6 = _
    rw [s1, n2.1]
  have s3 : rdS (sbytes e v l p f) 3 = ⟨0, be p 6 ++ (be f 1 ++ [])⟩ := by
    show (rdS (sbytes e v l p f) 2).number 6 = _
    rw [s2, n3.1]
  have s4 : rdS (sbytes e v l p f) 4 = ⟨0, be f 1 ++ []⟩ := by
    show (rdS (sbytes e v l p f) 3).number 6 = _
    rw [s3, n4.1]
  have s5 : rdS (sbytes e v l p f) 5 = ⟨0, []⟩ := by
    show (rdS (sbytes e v l p f) 4).number 1 = _
    rw [s4, n5.1]
  have v0 : rdV (sbytes e v l p f) 0 = e := by
    show (rdS (sbytes e v l p f) 0).numV 4 = _
    rw [s0, n1.2]
  have v1 : rdV (sbytes e v l p f) 1 = v := by
    show (rdS (sbytes e v l p f) 1).numV 6 = _
    rw [s1, n2.2]
  have v2 : rdV (sbytes e v l p f) 2 = l := by
    show (rdS (sbytes e v l p f) 2).numV 6 = _
    rw [s2, n3.2]
  have v3 : rdV (sbytes e v l p f) 3 = p := by
    show (rdS (sbytes e v l p f) 3).numV 6 = _
    rw [s3, n4.2]
  have v4 : rdV (sbytes e v l p f) 4 = f := by
    show (rdS (sbytes e v l p f) 4).numV 1 = _
    rw [s4, n5.2]
  have hr : rdRight (sbytes e v l p f) := by
    unfold rdRight
    rw [v0, v1, v2, v3, v4]
    exact ⟨h1, h2, h3, h4, h5⟩
  have hf : (rdS (sbytes e v l p f) 5).fin = 0 := by rw [s5]; rfl
  constructor
  · unfold rdSt
    rw [if_pos ⟨hf, hr⟩, v0, v1, v2, v3, v4]
  · unfold rdCode
    rw [if_pos hf, if_pos hr]
theorem sb_in (e v l p f : Int) : ∀ x ∈ sbytes e v l p f, 0 ≤ x ∧ x < 256 := by
  intro x hx
  unfold sbytes sb4 sb3 sb2 sb1 at hx
  simp only [List.mem_append] at hx
  rcases hx with (((h | h) | h) | h) | h
  all_goals exact be_in _ _ x h

set_option maxHeartbeats 1000000 in
set_option maxRecDepth 100000 in
theorem rulesBytes_far (A : List Addr) (w : World) (h : Sents G18 132 A w) (e v l p f : Int) (a : Option Addr) (n c : Nat) (hn : (n : Int) ≤ 9223372036854775807) (hl : 200 < n) :
    Calls Tryd.prog 16 #[st5 e v l p f, .slice a n c] w fun r w' => r = .returned (.bool true) ∧ Below w.heap.size w w' := by
  have HAL := Lib.hid (alive13 A _ (h.later (below_new w (box e v l p f 47))))
  have HB0 := Lib.hid (below_new w (box e v l p f 47))
  clear h
  go_enter Tryd.func16, Tryd.ntmps16
  go_wp2_with fail
  refine HAL.out.mono ?_
  rintro r w1 ⟨rfl, b1⟩
  have HB1 := Lib.hid (below_then HB0.out b1 (Nat.le_refl _))
  clear b1
  go_wp2_with fail
  go_ret
  exact ⟨rfl, HB1.out⟩

set_option maxHeartbeats 8000000 in
set_option maxRecDepth 100000 in
theorem rulesBytes_no (A : List Addr) (w : World) (h : Sents G18 132 A w) (e v l p f : Int) (hr : ¬ RightP e v l p f) (a : Option Addr) (c : Nat) (xs : List Int) (hx : RowAt .u8 w a xs.length c xs) (hl : ¬ 200 < xs.length) :
    Calls Tryd.prog 16 #[st5 e v l p f, .slice a xs.length c] w fun r w' => r = .returned (.bool true) ∧ Below w.heap.size w w' := by
  have HB : Hid (∀ W', Below w.heap.size w W' → Sents G18 132 A W') := fun W' hW => h.later hW
  have HX := Lib.hid hx
  have hl2 : ¬ (200 : Int) < xs.length := by omega
  have hln : xs.length ≤ 1000 := by omega
  have HLN := Lib.hid hln
  clear hln
  have HAL := Lib.hid (alive13 A _ (h.later (below_new w (box e v l p f 47))))
  have HB0 := Lib.hid (below_new w (box e v l p f 47))
  have HRN := Lib.hid hr
  clear h hx hr
  go_enter Tryd.func16, Tryd.ntmps16
  go_wp2_with fail
  refine HAL.out.mono ?_
  rintro r w1 ⟨rfl, b1⟩
  have hb1 := below_then HB0.out b1 (Nat.le_refl _)
  have x2 : Box w1 w.heap.size e v l p f := (Box.new w e v l p f 47).later b1
  have X2 := Lib.hid x2
  have HB1 := Lib.hid hb1
  have HSN := Lib.hid (sbytes_no A w1 (HB.out _ hb1).form e v l p f HRN.out)
  obtain ⟨k0, k1, k2, k3, k4, -, -, -, -, -⟩ := x2
  clear b1 hb1
  go_wp2_with fail
  refine HSN.out.mono ?_
  rintro r w2 ⟨rfl, b2⟩
  have hb2 := below_then HB1.out b2 (Nat.le_refl _)
  have X22 := Lib.hid (X2.out.later b2)
  obtain ⟨q0, q1, q2, q3, q4, -, -, -, -, -⟩ := X22.out
  have HB2 := Lib.hid hb2
  obtain ⟨eu, hu4⟩ : ∃ u, errV A 4 = .iface 132 u := errV_pos A (by decide)
  have HU4 := Lib.hid hu4
  rw [hu4]
  have n7 := Box.new w2 e v l p f 49
  have N7 := Lib.hid n7
  have hb3 := below_then HB2.out (below_new w2 (box e v l p f 49)) (Nat.le_refl _)
  have HB3 := Lib.hid hb3
  have hrf := ref_right e v l p f (w2.alloc (box e v l p f 49))
  rw [show decide (RightP e v l p f) = false from decide_eq_false HRN.out] at hrf
  have HRF := Lib.hid hrf
  clear b2 hb2 hu4 n7 hb3 hrf k0 k1 k2 k3 k4 X2
  go_wp2_with fail
  refine HRF.out.mono ?_
  rintro r w3 ⟨rfl, b3⟩
  have hb4 := below_then HB3.out b3 (Nat.le_refl _)
  have hnm := num_code A w3 (HB.out _ hb4) 4 (by decide)
  rw [HU4.out] at hnm
  have HNM := Lib.hid hnm
  have HB4 := Lib.hid hb4
  clear b3 hb4 hnm q0 q1 q2 q3 q4
  go_wp2_with fail
  refine HNM.out.mono ?_
  rintro r wT ⟨rfl, b5⟩
  have HT := Lib.hid (below_then HB4.out b5 (Nat.le_refl _))
  obtain ⟨a1, b1', c1', d1', e1', hst⟩ := rdSt_form xs
  have HST := Lib.hid hst
  clear hst hl hl2
  have hra := read_any A wT (HB.out _ HT.out) (.slice a xs.length c) xs (HX.out.src.below HT.out) HX.out.by8 HLN.out
  rw [HST.out] at hra
  have HRA := Lib.hid hra
  clear b5 hra
  go_wp2_with fail
  -- TAIL
  refine HRA.out.mono ?_
  rintro r w6 ⟨rfl, b6⟩
  have hb6 := below_then HT.out b6 (Nat.le_refl _)
  have t10 := Box.new w6 a1 b1' c1' d1' e1' 47
  have hb7 := below_then hb6 (below_new w6 (box a1 b1' c1' d1' e1' 47)) (Nat.le_refl _)
  have hrr := refread_any (w6.alloc (box a1 b1' c1' d1' e1' 47)) (.slice a xs.length c) xs (HX.out.src.below hb7) HX.out.by8 HLN.out
  rw [HST.out] at hrr
  have HRR := Lib.hid hrr
  have T10 := Lib.hid t10
  have HB7 := Lib.hid hb7
  obtain ⟨ev, hev⟩ : ∃ ev, errV A (rdCode xs) = ev := ⟨_, rfl⟩
  rw [hev]
  have HEV := Lib.hid hev
  obtain ⟨cv, hcv⟩ : ∃ cv, ((rdCode xs : Nat) : Int) = cv := ⟨_, rfl⟩
  rw [hcv] at HRR
  have HCV := Lib.hid hcv
  clear b6 hb6 hb7 hrr t10 hev hcv
  go_wp2_with fail
  refine HRR.out.mono ?_
  rintro r w8 ⟨rfl, b8⟩
  have hb8 := below_then HB7.out b8 (Nat.le_refl _)
  have y10 := T10.out.later b8
  have z10 := y10.later (below_new w8 (box a1 b1' c1' d1' e1' 49))
  have z11 := Box.new w8 a1 b1' c1' d1' e1' 49
  have hb9 := below_then hb8 (below_new w8 (box a1 b1' c1' d1' e1' 49)) (Nat.le_refl _)
  have hnm := num_code A (w8.alloc (box a1 b1' c1' d1' e1' 49)) (HB.out _ hb9) (rdCode xs) (code_few xs)
  rw [HEV.out, HCV.out] at hnm
  have HNM2 := Lib.hid hnm
  have HB9 := Lib.hid hb9
  obtain ⟨m0, m1, m2, m3, m4, -, -, -, -, -⟩ := z10
  obtain ⟨j0, j1, j2, j3, j4, -, -, -, -, -⟩ := z11
  clear b8 hb8 y10 hb9 hnm
  go_wp2_with fail
  refine HNM2.out.mono ?_
  rintro r w9 ⟨rfl, b9⟩
  have HB10 := Lib.hid (below_then HB9.out b9 (Nat.le_refl _))
  clear b9
  go_wp2_with fail
  go_ret
  exact ⟨by first | rfl | simp, HB10.out⟩

end Go.Proofs.YtadonpfpneanhaaDoor
