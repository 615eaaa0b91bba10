/- The document's reader: a number that is there; numbers at every width. -/
import Derived.Test.YtadonpfpneanhaaDoorM2
namespace Go.Proofs.YtadonpfpneanhaaDoor
open Go.RowKit

/-- The document's reader at a place. -/
structure MrAt (w : World) (m : Nat) (b : Value) (B : List Int) (k : Nat) : Prop where
  blk : w.heap[m]? = some (.cells #[b, .int .i64 (k : Int), .int .i64 0] 86 (0, 0))
  src : Src w b B
  ap : B ≠ [] → ∀ ad l c, b = .slice (some ad) l c → ad.block ≠ m
theorem MrAt.mr {w : World} {m : Nat} {b : Value} {B : List Int} {k : Nat} (h : MrAt w m b B k) (hk : k ≤ B.length) (h8 : ∀ x ∈ B, 0 ≤ x ∧ x < 256) (hb : B.length ≤ 140737488355328) : Mr w m b B ⟨0, B.drop k⟩ :=
  ⟨⟨k, h.blk, fun _ => ⟨k, rfl, hk, rfl⟩⟩, h.src, h.ap, h8, hb⟩
theorem MrAt.drewN {w : World} {m : Nat} {b : Value} {B : List Int} {k : Nat} (h : MrAt w m b B k) (n : Nat) : MrAt (w.drewN n) m b B k :=
  ⟨h.blk, h.src.below (below_drewN_self _ _ _), h.ap⟩
theorem MrAt.step {w : World} {m : Nat} {b : Value} {B : List Int} {k : Nat} (h : MrAt w m b B k) (k' : Nat) : MrAt (w.setCell ⟨m, 1, none⟩ (.int .i64 (k' : Int))) m b B k' :=
  ⟨by rw [heap_setCell_block h.blk]; rfl, h.src.setm h.ap 1 _, h.ap⟩

set_option maxHeartbeats 2000000 in
set_option maxRecDepth 100000 in
theorem mnum_good (w : World) (m : Nat) (b : Value) (B xs : List Int) (h : Mr w m b B ⟨0, xs⟩) (W : Nat) (h1 : 1 ≤ W) (h8 : W ≤ 8) (hl : W ≤ xs.length) (hx : W < 8 ∨ xs.headD 0 ≤ 127) :
    Calls Tryd.prog 79 #[.pointer (some ⟨m, 0, none⟩), .int .i64 (W : Int)] w fun r w' => r = .returned (.int .i64 (beVal (xs.take W))) ∧ Mr w' m b B ⟨0, xs.drop W⟩ ∧ Upd m w noV w' noV := by
  have HL := Lib.hid (mleft_any w m b B ⟨0, xs⟩ h rfl)
  have hsr := h.src
  have hbig := h.big
  have hby := h.by8
  obtain ⟨at', e1, e2⟩ := h.blk
  obtain ⟨k, rfl, hk, hxs⟩ := e2 rfl
  simp only at hxs
  subst hxs
  rw [List.length_drop] at hl
  have hkl : k < B.length := by omega
  rw [headD_drop hkl] at hx
  have HA : Hid (MrAt w m b B k) := ⟨e1, hsr, h.ap⟩
  have HV : Hid (∀ j, 0 ≤ beVal (((B.drop k).take W).take j) ∧ beVal (((B.drop k).take W).take j) < 9223372036854775808) := fun j => val_small (fun x hx => hby x (List.mem_of_mem_drop (List.mem_of_mem_take hx))) (by
    rw [List.length_take, List.length_drop]
    rcases hx with hx | hx
    · left; omega
    · right
      refine ⟨by omega, ?_⟩
      rw [List.drop_eq_getElem_cons hkl, show W = (W - 1) + 1 by omega, List.take_succ_cons]
      exact hx) j
  have HBY := Lib.hid hby
  have hyl : ((B.drop k).take W).length = W := by rw [List.length_take, List.length_drop]; omega
  have HG : Hid (∀ j (_ : j < W) (hkj : k + j < B.length), ((B.drop k).take W).take (j + 1) = ((B.drop k).take W).take j ++ [B[k + j]]) := fun j hj _ => by
    rw [List.take_succ_eq_append_getElem (by omega)]
    congr 1
    simp
  have HE : Hid (((B.drop k).take W).take W = (B.drop k).take W) := by show _ = _; rw [List.take_of_length_le (by omega)]
  have HDD : Hid (B.drop (k + W) = (B.drop k).drop W) := by show _ = _; rw [List.drop_drop]
  obtain ⟨a, c, rfl⟩ := hsr.len
  obtain ⟨ad, rfl, hc⟩ := hsr.at hkl
  have k0 := cell_of_blk e1 0
  have k1 := cell_of_blk e1 1
  have k2 := cell_of_blk e1 2
  replace k0 : w.cell? ⟨m, 0, none⟩ = some (.slice (some ad) B.length c) := k0
  replace k1 : w.cell? ⟨m, 1, none⟩ = some (.int .i64 (k : Int)) := k1
  replace k2 : w.cell? ⟨m, 2, none⟩ = some (.int .i64 0) := k2
  have hl2 : ¬ ((B.drop k).length : Int) < W := by rw [List.length_drop]; omega
  have hdl : (B.drop k).length = B.length - k := List.length_drop
  have HDL := Lib.hid hdl
  generalize B[k] = x at *
  have hki : (k : Int) < B.length := by omega
  clear h e1 e2 hsr hby hyl hdl
  rcases (show W < 8 ∨ (W = 8 ∧ x ≤ 127) by omega) with hw | ⟨hw, hx2⟩
  all_goals
    first
      | have hq : ((W : Int) == 8) = false := by simp; omega
      | (have hq : ((W : Int) == 8) = true := by simp; omega
         have hx3 : ¬ (128 : Int) ≤ x := by omega)
    clear hx
    have h1' : ¬ (W : Int) < 1 := by omega
    have h8' : ¬ (8 : Int) < W := by omega
    go_enter Tryd.func79, Tryd.ntmps79
    go_wp2_with fail
    refine HL.out.mono ?_
    rintro r w1 ⟨rfl, n, rfl⟩
    go_wp2_with fail
    go_quiet (fail)
    go_wp2_with fail
    go_loopw [5, 6] (fun v i wr => ∃ j : Nat, j ≤ W ∧ i = .int .i64 j ∧ v = .int .i64 (beVal (((B.drop k).take W).take j)) ∧ MrAt wr m (.slice (some ad) B.length c) B (k + j) ∧ Upd m w noV wr noV) (fun _ i _ => W - (intOf i).toNat)
  all_goals try (case atStart => exact ⟨0, Nat.zero_le _, rfl, rfl, HA.out.drewN _, (Upd.refl _ _ _).drewN _⟩)
  all_goals
    obtain ⟨j, hj, rfl, rfl, hM, hU⟩ := hrel
    have HMU := Lib.hid (And.intro hM hU)
    by_cases hlt : j < W
    · have hv := HV.out j
      have hv2 := HV.out (j + 1)
      have hkj : k + j < B.length := by omega
      have hg := HG.out j hlt hkj
      have HG2 := Lib.hid hg
      rw [hg, beVal_snoc] at hv2
      obtain ⟨ad', he, hcj⟩ := hM.src.at hkj
      obtain rfl : ad = ad' := by injection he
      have hb2 := HBY.out _ (List.getElem_mem hkj)
      have j0 := cell_of_blk hM.blk 0
      have j1 := cell_of_blk hM.blk 1
      replace j0 : wr.cell? ⟨m, 0, none⟩ = some (.slice (some ad) B.length c) := j0
      replace j1 : wr.cell? ⟨m, 1, none⟩ = some (.int .i64 ((k + j : Nat) : Int)) := j1
      have jf : wr.frozen? ⟨m, 1, none⟩ = false := by simp [World.frozen?, hM.blk]
      generalize hX : B[k + j] = y at *
      generalize hY : beVal (((B.drop k).take W).take j) = v at *
      have HYX := Lib.hid (And.intro hX hY)
      obtain ⟨p, hp⟩ : ∃ p, k + j = p := ⟨_, rfl⟩
      have HP := Lib.hid hp
      rw [hp] at j1 hcj hkj
      clear hM hU hg hX hY hp k0 k1 k2 hc he
      go_wp2_with fail
      go_quiet (fail)
      go_wp2_with fail
      go_roundw
      case rel =>
        obtain ⟨hM, hU⟩ := HMU.out
        refine ⟨j + 1, by omega, by go_num, ?_, ?_, ?_⟩
        · rw [HG2.out, beVal_snoc, HYX.out.2, Int.mul_comm]
        · have h3 : ∀ n, MrAt ((wr.drewN n).setCell ⟨m, 1, none⟩ (.int .i64 ((p : Int) + 1))) m (.slice (some ad) B.length c) B (k + (j + 1)) := fun n => by
            have := (hM.drewN n).step (k + (j + 1))
            rw [show ((k + (j + 1) : Nat) : Int) = (p : Int) + 1 by have := HP.out; omega] at this
            exact this
          exact h3 _
        · exact (hU.drewN _).trans (Upd.setm _ _ _ _)
      case measure => simp [intOf]; omega
    · have hke : j = W := by omega
      obtain ⟨hM, hU⟩ := HMU.out
      subst hke
      rw [HE.out]
      have HF : Hid (Mr wr m (.slice (some ad) B.length c) B ⟨0, (B.drop k).drop j⟩ ∧ Upd m w noV wr noV) := by
        have := hM.mr (by have := HDL.out; omega) HBY.out hbig
        rw [HDD.out] at this
        exact ⟨this, hU⟩
      clear hM hU
      go_wp2_with fail
      go_ret
      exact ⟨rfl, HF.out⟩

end Go.Proofs.YtadonpfpneanhaaDoor
