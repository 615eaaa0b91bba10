/- The walk of RulesBytes at a right state. -/
import Derived.Test.YtadonpfpneanhaaDoorV5
import Derived.Deep.RegionHeld
namespace Go.Proofs.YtadonpfpneanhaaDoor
open Go.RowKit

set_option maxHeartbeats 8000000 in
set_option maxRecDepth 100000 in
theorem rulesBytes_yes (A : List Addr) (w : World) (h : Sents G18 132 A w) (e v l p f : Int) (hr : RightP e v l p f) (a : Option Addr) (c : Nat) (xs : List Int) (hx : RowAt .u8 w a xs.length c xs) (hl : ¬ 200 < xs.length) :
    Calls Tryd.prog 16 #[st5 e v l p f, .slice a xs.length c] w fun r w' => r = .returned (.bool true) ∧ Below w.heap.size w w' := by
  have HB : Hid (∀ W', Below w.heap.size w W' → Sents G18 132 A W') := fun W' hW => h.later hW
  have HX := Lib.hid hx
  have hl2 : ¬ (200 : Int) < xs.length := by omega
  have hln : xs.length ≤ 1000 := by omega
  have HLN := Lib.hid hln
  clear hln
  have HAL := Lib.hid (alive13 A _ (h.later (below_new w (box e v l p f 47))))
  have HB0 := Lib.hid (below_new w (box e v l p f 47))
  have HRN := Lib.hid hr
  clear h hx hr
  go_enter Tryd.func16, Tryd.ntmps16
  go_wp2_with fail
  refine HAL.out.mono ?_
  rintro r w1 ⟨rfl, b1⟩
  have hb1 := below_then HB0.out b1 (Nat.le_refl _)
  have x2 : Box w1 w.heap.size e v l p f := (Box.new w e v l p f 47).later b1
  have X2 := Lib.hid x2
  have HB1 := Lib.hid hb1
  have HSN := Lib.hid (sbytes_yes A w1 (HB.out _ hb1).ers e v l p f HRN.out)
  obtain ⟨k0, k1, k2, k3, k4, -, -, -, -, -⟩ := x2
  clear b1 hb1
  go_wp2_with fail
  refine HSN.out.mono ?_
  rintro r w2 ⟨bv, rfl, ho2, b2⟩
  have hb2 := below_then HB1.out b2 (Nat.le_refl _)
  have X22 := Lib.hid (X2.out.later b2)
  obtain ⟨q0, q1, q2, q3, q4, -, -, -, -, -⟩ := X22.out
  have HB2 := Lib.hid hb2
  have n7 := Box.new w2 e v l p f 49
  have N7 := Lib.hid n7
  have hb3 := below_then HB2.out (below_new w2 (box e v l p f 49)) (Nat.le_refl _)
  have HB3 := Lib.hid hb3
  have hrf := ref_right e v l p f (w2.alloc (box e v l p f 49))
  rw [show decide (RightP e v l p f) = true from decide_eq_true HRN.out] at hrf
  have HRF := Lib.hid hrf
  have HO3 := Lib.hid ((Src.of_own ho2).below (below_new w2 (box e v l p f 49)))
  have hl23 : (sbytes e v l p f).length = 23 := (sb_len e v l p f).2.2.2.2
  have HL23 := Lib.hid hl23
  obtain ⟨ba, bc, hbv⟩ : ∃ a c, bv = .slice a 23 c := by
    obtain ⟨a, c, h⟩ := (Src.of_own ho2).len
    exact ⟨a, c, by rw [h, hl23]⟩
  subst hbv
  clear b2 hb2 n7 hb3 hrf k0 k1 k2 k3 k4 ho2 hl23 HSN
  go_wp2_with fail
  refine HRF.out.mono ?_
  rintro r w3 ⟨rfl, b3⟩
  have hb4 := below_then HB3.out b3 (Nat.le_refl _)
  have HO4 := Lib.hid (HO3.out.below b3)
  have hrb := read_any A w3 (HB.out _ hb4) (.slice ba 23 bc) (sbytes e v l p f) HO4.out (sb_in e v l p f) (by rw [HL23.out]; decide)
  rw [(rd_back HRN.out).1, (rd_back HRN.out).2, errV_zero] at hrb
  have HRB := Lib.hid hrb
  have HB4 := Lib.hid hb4
  have N74 := Lib.hid (N7.out.later b3)
  have X24 := Lib.hid ((X22.out.later (below_new w2 (box e v l p f 49))).later b3)
  clear b3 hb4 hrb q0 q1 q2 q3 q4
  go_wp2_with fail
  refine HRB.out.mono ?_
  rintro r w4 ⟨rfl, b4⟩
  have hb5 := below_then HB4.out b4 (Nat.le_refl _)
  have n8 := Box.new w4 e v l p f 47
  have N8 := Lib.hid n8
  have hb6 := below_then hb5 (below_new w4 (box e v l p f 47)) (Nat.le_refl _)
  have HB6 := Lib.hid hb6
  have N76 := Lib.hid ((N74.out.later b4).later (below_new w4 (box e v l p f 47)))
  have X26 := Lib.hid ((X24.out.later b4).later (below_new w4 (box e v l p f 47)))
  have HO6 := Lib.hid ((HO4.out.below b4).below (below_new w4 (box e v l p f 47)))
  clear b4 hb5 n8 hb6
  go_upto_region 11 with fail
  generalize w4.alloc (box e v l p f 47) = W6 at *
  generalize w4.heap.size = p8 at *
  generalize w2.heap.size = p7 at *
  obtain ⟨q0, q1, q2, q3, q4, -, -, -, -, -⟩ := N76.out
  have hs6 := str_src (HO6.out.below ((Below.refl _ W6).drew))
  have HCALL : Hid (∀ W, W = W6.drew → Calls Tryd.prog 58 #[st5 e v l p f] W fun r w' => ∃ x, r = .returned x ∧ (convert 22 9 x).run Tryd.prog w' = .ok (.string (strOfNums (sbytes e v l p f))) w' ∧ (convert 22 9 (.slice ba 23 bc)).run Tryd.prog w' = .ok (.string (strOfNums (sbytes e v l p f))) w' ∧ Box w' p8 e v l p f ∧ Box w' w.heap.size e v l p f ∧ Box w' p7 e v l p f ∧ Below w.heap.size w w') := fun W hW => by
    subst hW
    refine (refbytes_any W6.drew e v l p f HRN.out).mono ?_
    rintro r w' ⟨x, rfl, ho, hb⟩
    have hbd : Below W6.heap.size W6 w' := ((Below.refl _ W6).drew).trans hb
    exact ⟨x, rfl, str_src (Src.of_own ho), str_src (HO6.out.below hbd), N8.out.later hbd, X26.out.later hbd, N76.out.later hbd, below_then HB6.out hbd (Nat.le_refl _)⟩
  obtain ⟨str, hstr⟩ : ∃ s, strOfNums (sbytes e v l p f) = s := ⟨_, rfl⟩
  rw [hstr] at HCALL hs6
  obtain ⟨m0, m1, m2, m3, m4, -, -, -, -, -⟩ := (N8.out.later ((Below.refl _ W6).drew))
  obtain ⟨j0, j1, j2, j3, j4, -, -, -, -, -⟩ := (X26.out.later ((Below.refl _ W6).drew))
  obtain ⟨q0, q1, q2, q3, q4, -, -, -, -, -⟩ := (N76.out.later ((Below.refl _ W6).drew))
  clear hstr HO6 N76 X26 HL23 HRN HO3 HO4 HRB HRF N7 N74 N8 X22 X24 X2 HAL HB0 HB1 HB2 HB3 HB4 HB6
  go_cut [63] (fun s wx => s = .bool false ∧ Below w.heap.size w wx)
  case first =>
    refine wp_region_held_drew (S := (fun w' => w'.cell? ⟨p7, 0, none⟩ = some (.int .i64 e) ∧ w'.cell? ⟨p7, 1, none⟩ = some (.int .i64 v) ∧ w'.cell? ⟨p7, 2, none⟩ = some (.int .i64 l) ∧ w'.cell? ⟨p7, 3, none⟩ = some (.int .i64 p) ∧ w'.cell? ⟨p7, 4, none⟩ = some (.int .i64 f) ∧
        w'.cell? ⟨p8, 0, none⟩ = some (.int .i64 e) ∧ w'.cell? ⟨p8, 1, none⟩ = some (.int .i64 v) ∧ w'.cell? ⟨p8, 2, none⟩ = some (.int .i64 l) ∧ w'.cell? ⟨p8, 3, none⟩ = some (.int .i64 p) ∧ w'.cell? ⟨p8, 4, none⟩ = some (.int .i64 f) ∧
        w'.cell? ⟨w.heap.size, 0, none⟩ = some (.int .i64 e) ∧ w'.cell? ⟨w.heap.size, 1, none⟩ = some (.int .i64 v) ∧ w'.cell? ⟨w.heap.size, 2, none⟩ = some (.int .i64 l) ∧ w'.cell? ⟨w.heap.size, 3, none⟩ = some (.int .i64 p) ∧ w'.cell? ⟨w.heap.size, 4, none⟩ = some (.int .i64 f) ∧
        (convert 22 9 (.slice ba 23 bc)).run Tryd.prog w' = .ok (.string str) w')) rfl ⟨q0, q1, q2, q3, q4, m0, m1, m2, m3, m4, j0, j1, j2, j3, j4, hs6⟩ (fun hS0 => ?_)
    refine wpAnyH_take (i := 0) (v := ?_) rfl (by kernel_rfl) (by kernel_rfl) (by kernel_rfl) (fun _ _ _ h => h) (Or.inl ⟨by rfl, ?_⟩) (by assumption) ?_
    rotate_left 1
    · intro w' hSw
      try dsimp only at hSw
      go_simp
      first | done | with_reducible rfl
    simp only [Act.put, List.getElem_toArray, List.getElem_cons_zero, List.setIfInBounds_toArray, List.set_cons_zero, List.set_cons_succ]
    refine wpAnyH_take (i := 1) (v := ?_) rfl (by kernel_rfl) (by kernel_rfl) (by kernel_rfl) (fun _ _ _ h => h) (Or.inl ⟨by rfl, ?_⟩) (by assumption) ?_
    rotate_left 1
    · intro w' hSw
      try dsimp only at hSw
      go_simp
      first | done | with_reducible rfl
    simp only [Act.put, List.getElem_toArray, List.getElem_cons_zero, List.getElem_cons_succ, List.setIfInBounds_toArray, List.set_cons_zero, List.set_cons_succ]
    refine wpAnyH_take (i := 2) (v := ?_) rfl (by kernel_rfl) (by kernel_rfl) (by kernel_rfl) (fun _ _ _ h => h) (Or.inl ⟨by rfl, ?_⟩) (by assumption) ?_
    rotate_left 1
    · intro w' hSw
      try dsimp only at hSw
      go_simp
      first | done | with_reducible rfl
    simp only [Act.put, List.getElem_toArray, List.getElem_cons_zero, List.getElem_cons_succ, List.setIfInBounds_toArray, List.set_cons_zero, List.set_cons_succ]
    refine wpAnyH_take (i := 3) (v := ?_) rfl (by kernel_rfl) (by kernel_rfl) (by kernel_rfl) (fun _ _ _ h => h) (Or.inl ⟨by rfl, ?_⟩) (by assumption) ?_
    rotate_left 1
    · intro w' hSw
      try dsimp only at hSw
      go_simp
      first | done | with_reducible rfl
    simp only [Act.put, List.getElem_toArray, List.getElem_cons_zero, List.getElem_cons_succ, List.setIfInBounds_toArray, List.set_cons_zero, List.set_cons_succ]
    refine wpAnyH_take (i := 4) (v := ?_) rfl (by kernel_rfl) (by kernel_rfl) (by kernel_rfl) (fun _ _ _ h => h) (Or.inl ⟨by rfl, ?_⟩) (by assumption) ?_
    rotate_left 1
    · intro w' hSw
      try dsimp only at hSw
      go_simp
      first | done | with_reducible rfl
    simp only [Act.put, List.getElem_toArray, List.getElem_cons_zero, List.getElem_cons_succ, List.setIfInBounds_toArray, List.set_cons_zero, List.set_cons_succ]
    refine wpAnyH_take (i := 5) (v := ?_) rfl (by kernel_rfl) (by kernel_rfl) (by kernel_rfl) (fun _ _ _ h => h) (Or.inl ⟨by rfl, ?_⟩) (by assumption) ?_
    rotate_left 1
    · intro w' hSw
      try dsimp only at hSw
      go_simp
      first | done | with_reducible rfl
    simp only [Act.put, List.getElem_toArray, List.getElem_cons_zero, List.getElem_cons_succ, List.setIfInBounds_toArray, List.set_cons_zero, List.set_cons_succ]
    refine wpAnyH_ready (rs := [6]) (by kernel_rfl) (by simp) ?_
    refine AllReadyH.cons rfl (fun K hK => ?_) AllReadyH.nil
    simp only [List.getElem_toArray, List.getElem_cons_zero, List.getElem_cons_succ]
    go_simp
    go_at_call 58
    refine (HCALL.out _ rfl).mono ?_
    rintro r w7 ⟨x7, rfl, y1, y2, n8, n2, n7, b7⟩
    obtain ⟨s0, s1, s2, s3, s4, -, -, -, -, -⟩ := n8
    obtain ⟨t0, t1, t2, t3, t4, -, -, -, -, -⟩ := n2
    obtain ⟨z0, z1, z2, z3, z4, -, -, -, -, -⟩ := n7
    refine hK.out _ _ ⟨z0, z1, z2, z3, z4, s0, s1, s2, s3, s4, t0, t1, t2, t3, t4, y2⟩ (fun hS7 => ?_)
    try simp only [Act.put, List.getElem_toArray, List.getElem_cons_zero, List.getElem_cons_succ, List.setIfInBounds_toArray, List.set_cons_zero, List.set_cons_succ]
    refine wpAnyH_ready (rs := [7]) (by kernel_rfl) (by simp) ?_
    refine AllReadyH.cons rfl (fun K2 hK2 => ?_) AllReadyH.nil
    try simp only [List.getElem_toArray, List.getElem_cons_zero, List.getElem_cons_succ]
    go_simp
    refine hK2.out _ _ hS7 (fun _ => ?_)
    try simp only [Act.put, List.getElem_toArray, List.getElem_cons_zero, List.getElem_cons_succ, List.setIfInBounds_toArray, List.set_cons_zero, List.set_cons_succ]
    refine wpAnyH_take (i := 8) (v := ?_) rfl (by kernel_rfl) (by kernel_rfl) (by kernel_rfl) (fun _ _ _ h => h) (Or.inl ⟨by rfl, ?_⟩) (by assumption) ?_
    rotate_left 1
    · intro w' hSw
      try dsimp only at hSw
      go_simp
      first | done | with_reducible rfl
    try simp only [Act.put, List.getElem_toArray, List.getElem_cons_zero, List.getElem_cons_succ, List.setIfInBounds_toArray, List.set_cons_zero, List.set_cons_succ]
    refine wpAnyH_take (i := 9) (v := ?_) rfl (by kernel_rfl) (by kernel_rfl) (by kernel_rfl) (fun _ _ _ h => h) (Or.inl ⟨by rfl, ?_⟩) (by assumption) ?_
    rotate_left 1
    · intro w' hSw
      try dsimp only at hSw
      go_simp
      first | done | with_reducible rfl
    try simp only [Act.put, List.getElem_toArray, List.getElem_cons_zero, List.getElem_cons_succ, List.setIfInBounds_toArray, List.set_cons_zero, List.set_cons_succ]
    refine wpAnyH_take (i := 10) (v := ?_) rfl (by kernel_rfl) (by kernel_rfl) (by kernel_rfl) (fun _ _ _ h => h) (Or.inl ⟨by rfl, ?_⟩) (by assumption) ?_
    rotate_left 1
    · intro w' hSw
      try dsimp only at hSw
      go_simp
      first | done | with_reducible rfl
    simp only [Act.put, List.getElem_toArray, List.getElem_cons_zero, List.getElem_cons_succ, List.setIfInBounds_toArray, List.set_cons_zero, List.set_cons_succ]
    refine wpAnyH_take (i := 11) (v := ?_) rfl (by kernel_rfl) (by kernel_rfl) (by kernel_rfl) (fun _ _ _ h => h) (Or.inl ⟨by rfl, ?_⟩) (by assumption) ?_
    rotate_left 1
    · intro w' hSw
      try dsimp only at hSw
      go_simp
      first | done | with_reducible rfl
    simp only [Act.put, List.getElem_toArray, List.getElem_cons_zero, List.getElem_cons_succ, List.setIfInBounds_toArray, List.set_cons_zero, List.set_cons_succ]
    refine wpAnyH_take (i := 12) (v := ?_) rfl (by kernel_rfl) (by kernel_rfl) (by kernel_rfl) (fun _ _ _ h => h) (Or.inl ⟨by rfl, ?_⟩) (by assumption) ?_
    rotate_left 1
    · intro w' hSw
      try dsimp only at hSw
      go_simp
      first | done | with_reducible rfl
    simp only [Act.put, List.getElem_toArray, List.getElem_cons_zero, List.getElem_cons_succ, List.setIfInBounds_toArray, List.set_cons_zero, List.set_cons_succ]
    refine wpAnyH_take (i := 13) (v := ?_) rfl (by kernel_rfl) (by kernel_rfl) (by kernel_rfl) (fun _ _ _ h => h) (Or.inl ⟨by rfl, ?_⟩) (by assumption) ?_
    rotate_left 1
    · intro w' hSw
      try dsimp only at hSw
      go_simp
      first | done | with_reducible rfl
    simp only [Act.put, List.getElem_toArray, List.getElem_cons_zero, List.getElem_cons_succ, List.setIfInBounds_toArray, List.set_cons_zero, List.set_cons_succ]
    refine wpAnyH_take (i := 14) (v := ?_) rfl (by kernel_rfl) (by kernel_rfl) (by kernel_rfl) (fun _ _ _ h => h) (Or.inl ⟨by rfl, ?_⟩) (by assumption) ?_
    rotate_left 1
    · intro w' hSw
      try dsimp only at hSw
      go_simp
      first | done | with_reducible rfl
    simp only [Act.put, List.getElem_toArray, List.getElem_cons_zero, List.getElem_cons_succ, List.setIfInBounds_toArray, List.set_cons_zero, List.set_cons_succ]
    refine wpAnyH_take (i := 15) (v := ?_) rfl (by kernel_rfl) (by kernel_rfl) (by kernel_rfl) (fun _ _ _ h => h) (Or.inl ⟨by rfl, ?_⟩) (by assumption) ?_
    rotate_left 1
    · intro w' hSw
      try dsimp only at hSw
      go_simp
      first | done | with_reducible rfl
    simp only [Act.put, List.getElem_toArray, List.getElem_cons_zero, List.getElem_cons_succ, List.setIfInBounds_toArray, List.set_cons_zero, List.set_cons_succ]
    refine wpAnyH_take (i := 16) (v := ?_) rfl (by kernel_rfl) (by kernel_rfl) (by kernel_rfl) (fun _ _ _ h => h) (Or.inl ⟨by rfl, ?_⟩) (by assumption) ?_
    rotate_left 1
    · intro w' hSw
      try dsimp only at hSw
      go_simp
      first | done | with_reducible rfl
    simp only [Act.put, List.getElem_toArray, List.getElem_cons_zero, List.getElem_cons_succ, List.setIfInBounds_toArray, List.set_cons_zero, List.set_cons_succ]
    refine wpAnyH_take (i := 17) (v := ?_) rfl (by kernel_rfl) (by kernel_rfl) (by kernel_rfl) (fun _ _ _ h => h) (Or.inl ⟨by rfl, ?_⟩) (by assumption) ?_
    rotate_left 1
    · intro w' hSw
      try dsimp only at hSw
      go_simp
      first | done | with_reducible rfl
    simp only [Act.put, List.getElem_toArray, List.getElem_cons_zero, List.getElem_cons_succ, List.setIfInBounds_toArray, List.set_cons_zero, List.set_cons_succ]
    refine wpAnyH_take (i := 18) (v := ?_) rfl (by kernel_rfl) (by kernel_rfl) (by kernel_rfl) (fun _ _ _ h => h) (Or.inl ⟨by rfl, ?_⟩) (by assumption) ?_
    rotate_left 1
    · intro w' hSw
      try dsimp only at hSw
      go_simp
      first | done | with_reducible rfl
    simp only [Act.put, List.getElem_toArray, List.getElem_cons_zero, List.getElem_cons_succ, List.setIfInBounds_toArray, List.set_cons_zero, List.set_cons_succ]
    refine wpAnyH_take (i := 19) (v := ?_) rfl (by kernel_rfl) (by kernel_rfl) (by kernel_rfl) (fun _ _ _ h => h) (Or.inl ⟨by rfl, ?_⟩) (by assumption) ?_
    rotate_left 1
    · intro w' hSw
      try dsimp only at hSw
      go_simp
      first | done | with_reducible rfl
    simp only [Act.put, List.getElem_toArray, List.getElem_cons_zero, List.getElem_cons_succ, List.setIfInBounds_toArray, List.set_cons_zero, List.set_cons_succ]
    refine wpAnyH_take (i := 20) (v := ?_) rfl (by kernel_rfl) (by kernel_rfl) (by kernel_rfl) (fun _ _ _ h => h) (Or.inl ⟨by rfl, ?_⟩) (by assumption) ?_
    rotate_left 1
    · intro w' hSw
      try dsimp only at hSw
      go_simp
      first | done | with_reducible rfl
    simp only [Act.put, List.getElem_toArray, List.getElem_cons_zero, List.getElem_cons_succ, List.setIfInBounds_toArray, List.set_cons_zero, List.set_cons_succ]
    refine wpAnyH_take (i := 21) (v := ?_) rfl (by kernel_rfl) (by kernel_rfl) (by kernel_rfl) (fun _ _ _ h => h) (Or.inl ⟨by rfl, ?_⟩) (by assumption) ?_
    rotate_left 1
    · intro w' hSw
      try dsimp only at hSw
      go_simp
      first | done | with_reducible rfl
    simp only [Act.put, List.getElem_toArray, List.getElem_cons_zero, List.getElem_cons_succ, List.setIfInBounds_toArray, List.set_cons_zero, List.set_cons_succ]
    refine wpAnyH_take (i := 22) (v := ?_) rfl (by kernel_rfl) (by kernel_rfl) (by kernel_rfl) (fun _ _ _ h => h) (Or.inl ⟨by rfl, ?_⟩) (by assumption) ?_
    rotate_left 1
    · intro w' hSw
      try dsimp only at hSw
      go_simp
      first | done | with_reducible rfl
    simp only [Act.put, List.getElem_toArray, List.getElem_cons_zero, List.getElem_cons_succ, List.setIfInBounds_toArray, List.set_cons_zero, List.set_cons_succ]
    refine wpAnyH_take (i := 23) (v := ?_) rfl (by kernel_rfl) (by kernel_rfl) (by kernel_rfl) (fun _ _ _ h => h) (Or.inl ⟨by rfl, ?_⟩) (by assumption) ?_
    rotate_left 1
    · intro w' hSw
      try dsimp only at hSw
      go_simp
      first | done | with_reducible rfl
    simp only [Act.put, List.getElem_toArray, List.getElem_cons_zero, List.getElem_cons_succ, List.setIfInBounds_toArray, List.set_cons_zero, List.set_cons_succ]
    refine wpAnyH_done (by kernel_rfl) ?_ _
    have HK7 := Lib.hid b7
    clear b7 y1 y2 s0 s1 s2 s3 s4 t0 t1 t2 t3 t4 z0 z1 z2 z3 z4 hS7 hS0
    go_wp2_with fail
    go_meet
    exact ⟨by first | rfl | simp [Act.put], HK7.out⟩
  case rest =>
  obtain ⟨rfl, hbT⟩ := hcut
  have HT := Lib.hid hbT
  clear hbT hs6 HCALL q0 q1 q2 q3 q4
  obtain ⟨a1, b1', c1', d1', e1', hst⟩ := rdSt_form xs
  have HST := Lib.hid hst
  clear hst hl hl2
  have hra := read_any A wc (HB.out _ HT.out) (.slice a xs.length c) xs (HX.out.src.below HT.out) HX.out.by8 HLN.out
  rw [HST.out] at hra
  have HRA := Lib.hid hra
  clear hra
  go_wp2_with fail
  refine HRA.out.mono ?_
  rintro r w6 ⟨rfl, b6⟩
  have hb6 := below_then HT.out b6 (Nat.le_refl _)
  have t10 := Box.new w6 a1 b1' c1' d1' e1' 47
  have hb7 := below_then hb6 (below_new w6 (box a1 b1' c1' d1' e1' 47)) (Nat.le_refl _)
  have hrr := refread_any (w6.alloc (box a1 b1' c1' d1' e1' 47)) (.slice a xs.length c) xs (HX.out.src.below hb7) HX.out.by8 HLN.out
  rw [HST.out] at hrr
  have HRR := Lib.hid hrr
  have T10 := Lib.hid t10
  have HB7 := Lib.hid hb7
  obtain ⟨ev, hev⟩ : ∃ ev, errV A (rdCode xs) = ev := ⟨_, rfl⟩
  rw [hev]
  have HEV := Lib.hid hev
  obtain ⟨cv, hcv⟩ : ∃ cv, ((rdCode xs : Nat) : Int) = cv := ⟨_, rfl⟩
  rw [hcv] at HRR
  have HCV := Lib.hid hcv
  clear b6 hb6 hb7 hrr t10 hev hcv
  go_wp2_with fail
  refine HRR.out.mono ?_
  rintro r w8 ⟨rfl, b8⟩
  have hb8 := below_then HB7.out b8 (Nat.le_refl _)
  have y10 := T10.out.later b8
  have z10 := y10.later (below_new w8 (box a1 b1' c1' d1' e1' 49))
  have z11 := Box.new w8 a1 b1' c1' d1' e1' 49
  have hb9 := below_then hb8 (below_new w8 (box a1 b1' c1' d1' e1' 49)) (Nat.le_refl _)
  have hnm := num_code A (w8.alloc (box a1 b1' c1' d1' e1' 49)) (HB.out _ hb9) (rdCode xs) (code_few xs)
  rw [HEV.out, HCV.out] at hnm
  have HNM2 := Lib.hid hnm
  have HB9 := Lib.hid hb9
  obtain ⟨m0, m1, m2, m3, m4, -, -, -, -, -⟩ := z10
  obtain ⟨j0, j1, j2, j3, j4, -, -, -, -, -⟩ := z11
  clear b8 hb8 y10 hb9 hnm
  go_wp2_with fail
  refine HNM2.out.mono ?_
  rintro r w9 ⟨rfl, b9⟩
  have HB10 := Lib.hid (below_then HB9.out b9 (Nat.le_refl _))
  clear b9
  go_wp2_with fail
  go_ret
  exact ⟨by first | rfl | simp, HB10.out⟩

theorem rulesBytes_walk (A : List Addr) (w : World) (h : Sents G18 132 A w) (e v l p f : Int) (a : Option Addr) (n c : Nat) (xs : List Int) (hx : RowAt .u8 w a n c xs) :
    Calls Tryd.prog 16 #[st5 e v l p f, .slice a n c] w fun r w' => r = .returned (.bool true) ∧ Below w.heap.size w w' := by
  by_cases hl : 200 < n
  · exact rulesBytes_far A w h e v l p f a n c (by have := Nat.le_trans hx.1 hx.2.1; unfold maxLen at this; omega) hl
  · obtain rfl : xs.length = n := hx.2.2.1
    by_cases hr : RightP e v l p f
    · exact rulesBytes_yes A w h e v l p f hr a c xs hx hl
    · exact rulesBytes_no A w h e v l p f hr a c xs hx hl

end Go.Proofs.YtadonpfpneanhaaDoor
