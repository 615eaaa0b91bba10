/- An op is read alike: lists, errors, every op. -/
import Derived.Test.YtadonpfpneanhaaDoorM10
namespace Go.Proofs.YtadonpfpneanhaaDoor
open Go.RowKit

theorem list_many (s : RS) (most : Int) : (s.many most).list (s.manyV most).toNat = (s.many most).list (s.numV 1).toNat := by
  unfold RS.manyV
  split
  · rename_i h
    have hc : (s.many most).c ≠ 0 := by
      unfold RS.many RS.most
      rw [if_pos h]
      unfold RS.fail
      rw [if_pos h.1]
      exact Nat.one_ne_zero
    rw [RS.list_has hc, RS.list_has hc]
  · rfl
theorem manyV_in (s : RS) (most : Int) (h : ∀ x ∈ s.xs, 0 ≤ x ∧ x < 256) : 0 ≤ s.manyV most ∧ s.manyV most < 256 := by
  unfold RS.manyV
  split
  · decide
  · exact num1_in s h

/-- The loop's memory: the document's list beside the other one. -/
structure Lists (A : List Addr) (w0 wr : World) (q m bx : Nat) (sl b : Value) (B : List Int) (ob : Obj) (s : RS) (n : Nat) (F : RS) (L res : List Int) (k : Nat) (v v7 : Value) (cur : RS) (acc : List Int) : Prop where
  own : wr.ownsRow (bx + 1) 3 1 v acc.length (i64s acc)
  own7 : wr.ownsRow (bx + 1) 3 1 v7 res.length (i64s res)
  apart : ∀ g, v.ownBlock = some g → v7.ownBlock ≠ some g
  st : St A w0 q m bx b B ob wr sl s cur []
  len : acc.length = k
  fin : (cur.list (n - k)).1 = F ∧ acc ++ (cur.list (n - k)).2 = L

set_option maxHeartbeats 4000000 in
set_option maxRecDepth 100000 in
theorem reads_list (A : List Addr) (w0 w : World) (q m : Nat) (sl b slo : Value) (B : List Int) (s : RS) (n width most : Int) (h8 : ∀ x ∈ s.xs, 0 ≤ x ∧ x < 256)
    (h : St A w0 q m w.heap.size b B (opB 5 n width most slo) (w.alloc (opB 5 n width most slo)) sl s s []) :
    Calls Tryd.prog 52 #[.pointer (some ⟨q, 0, none⟩), .pointer (some ⟨m, 0, none⟩), opV 5 n width most slo] w fun r w' => r = .returned (.bool true) ∧ ∃ sl' K, St A w0 q m w.heap.size b B (opB 5 n width most slo) w' sl' (s.listS most) (s.listS most) K := by
  obtain ⟨i0, hi, hz0, hz1, hz2⟩ := info_parts Tryd.info3
  have HT := Lib.hid (take_ints A _ q sl s most h.eye)
  have H0 := Lib.hid h
  have hN := manyV_in s most h8
  have hfin := list_many s most
  obtain ⟨res, hres⟩ : ∃ res, s.listV most = res := ⟨_, rfl⟩
  obtain ⟨F, hF⟩ : ∃ F, s.listS most = F := ⟨_, rfl⟩
  rw [hF, hres] at HT
  rw [hF]
  unfold RS.listV at hres
  rw [hF] at hres
  unfold RS.listS at hF
  rw [← hfin] at hF hres
  have hnv : ∃ nn : Nat, s.manyV most = nn := ⟨(s.manyV most).toNat, by omega⟩
  obtain ⟨nn, hnn⟩ := hnv
  rw [hnn, Int.toNat_natCast] at hF hres
  rw [hnn] at hN
  obtain ⟨L, hL⟩ : ∃ L, ((s.many most).list nn).2 = L := ⟨_, rfl⟩
  rw [hL] at hres
  have HFL : Hid (((s.many most).list (nn - 0)).1 = F ∧ [] ++ ((s.many most).list (nn - 0)).2 = L) := by rw [Nat.sub_zero]; exact ⟨hF, hL⟩
  have HRES := Lib.hid hres
  have HNN := Lib.hid hnn
  clear h hfin hF hres hnn hL h8
  go_enter Tryd.func52, Tryd.ntmps52
  go_wp2_with fail
  refine HT.out.mono ?_
  rintro r w1 ⟨v7, sl1, rfl, ho7, hE1, hU1⟩
  have hS1 := H0.out.left hE1 hU1
  have c3 := hS1.cell 3
  replace c3 : w1.cell? ⟨w.heap.size, 3, none⟩ = some (.int .i64 most) := c3
  have hm := mmany_any w1 m b B s hS1.mr most
  rw [HNN.out] at hm
  have HM := Lib.hid hm
  have HS1 := Lib.hid hS1
  have HO7 : Hid (w1.ownsRow (w.heap.size + 1) 3 1 v7 res.length (i64s res)) := own_base ho7 (by simp)
  clear hE1 hU1 hS1 hm ho7
  go_wp2_with fail
  refine HM.out.mono ?_
  rintro r w2 ⟨rfl, hM2, hU2⟩
  have hS2 := HS1.out.right hM2 hU2
  have ho2 := own_keep HO7.out (fun g hg => hU2.same g (HO7.out.lt g hg).2 (by have := (HO7.out.lt g hg).1; have := HS1.out.mx; omega) (noV_own _))
  have HS2 := Lib.hid hS2
  have HO2 := Lib.hid ho2
  clear hM2 hU2 hS2 ho2 c3
  have HL0 : Hid (Lists A w0 (w2.alloc (.cells #[] 3)) q m w.heap.size sl1 b B (opB 5 n width most slo) F nn F L res 0 (.slice (some ⟨w2.heap.size, 0, none⟩) 0 0) v7 (s.many most) []) := by
    refine ⟨World.ownsRow_lit w2 #[] 0 (by have := HS2.out.bxl; omega) (Nat.zero_le _) rfl, HO2.out.alloc _, fun g hg e => ?_, HS2.out.later (belowN _ _), rfl, HFL.out⟩
    obtain rfl : w2.heap.size = g := by simpa [Value.ownBlock] using hg
    exact absurd (HO2.out.lt _ e).2 (Nat.lt_irrefl _)
  obtain ⟨a7, m7, cc7, rfl⟩ := slice_of_own HO2.out
  go_wp2_with fail
  generalize w2.alloc (.cells #[] 3) = W4 at *
  generalize w2.heap.size = bq at *
  clear HS2 HO2
  go_loopw [9, 10] (fun v i wr => ∃ (k : Nat) (cur : RS) (acc : List Int), k ≤ nn ∧ i = .int .i64 k ∧ Lists A w0 wr q m w.heap.size sl1 b B (opB 5 n width most slo) F nn F L res k v (.slice a7 m7 cc7) cur acc) (fun _ i _ => nn - (intOf i).toNat)
  case atStart => exact ⟨0, s.many most, [], Nat.zero_le _, rfl, HL0.out⟩
  case round =>
    clear HL0
    obtain ⟨k, cur, acc, hk, rfl, hT⟩ := hrel
    obtain ⟨va, vl, vc, rfl⟩ := slice_of_own hT.own
    have k2 := hT.st.mr.c2
    have HT := Lib.hid hT
    clear hT
    have hend : cur = F ∧ acc = L → (cur.c ≠ 0 → res = []) ∧ (cur.c = 0 → res = acc) := by
      rintro ⟨rfl, rfl⟩
      have := HRES.out
      exact ⟨fun h => by rw [if_neg h] at this; exact this.symm, fun h => by rw [if_pos h] at this; exact this.symm⟩
    have HEND := Lib.hid hend
    clear hend
    by_cases hlt : k < nn
    · by_cases hcc : cur.c = 0
      · rw [hcc] at k2
        replace k2 : wr.cell? ⟨m, 2, none⟩ = some (.int .i64 0) := k2
        have hone := mnum_any wr m b B cur HT.out.st.mr 1
        have hfin := HT.out.fin
        rw [show nn - k = (nn - (k + 1)) + 1 by omega, RS.list_next hcc] at hfin
        have hlen := HT.out.len
        generalize cur.numV 1 = x at *
        generalize cur.number 1 = nxt at *
        have HONE := Lib.hid hone
        have HF2 := Lib.hid hfin
        have HLN := Lib.hid hlen
        clear hone hcc hfin hlen HEND
        go_wp2_with fail
        refine HONE.out.mono ?_
        rintro r w5 ⟨rfl, hM5, hU5⟩
        have hS5 := HT.out.st.right hM5 hU5
        have hmx := HT.out.st.mx
        have hown5 := own_keep HT.out.own (fun g hg => hU5.same g (HT.out.own.lt g hg).2 (by have := (HT.out.own.lt g hg).1; omega) (noV_own _))
        have hown7 := own_keep HT.out.own7 (fun g hg => hU5.same g (HT.out.own7.lt g hg).2 (by have := (HT.out.own7.lt g hg).1; omega) (noV_own _))
        have HS5 := Lib.hid hS5
        have HO5 := Lib.hid hown5
        have HO7' := Lib.hid hown7
        have hown3 := hown5.alloc (.cells #[.int .i64 x] 3)
        have hl1 : acc.length + 1 ≤ maxLen := by have := HLN.out; unfold maxLen; omega
        have hl2 : (acc.length + 1) * 8 ≤ 140737488355328 := by have := HLN.out; omega
        have hsz : w.heap.size + 1 ≤ (w5.alloc (.cells #[.int .i64 x] 3)).heap.size := by have := HS5.out.bxl; simp; omega
        clear hM5 hU5 hS5 hown5 hown7 k2 hmx
        go_wp2_with (first
          | (at_builtin; refine wpList_append_own_at _ rfl (.tmp 80) (.tmp 83) 23 rfl (w.heap.size + 1) 3 i0 (.int .i64 0) 1 8 Tryd.underlying23 hi hz0 hz1 hz2 rfl (by decide) _ acc.length (i64s acc) rfl hown3 ⟨w5.heap.size, 0, none⟩ 1 1 [.int .i64 x] rfl rfl (cell_one_new _ _ _) (by simp [Value.oneCell']) hl1 hl2 hsz ?_; intro v' w6 hown' hgrow _ hat))
        have HX : Hid (Lists A w0 w6 q m w.heap.size sl1 b B (opB 5 n width most slo) F nn F L res (k + 1) v' (.slice a7 m7 cc7) nxt (acc ++ [x])) := by
          have hlt1 := fun g hg => HO5.out.lt g hg
          have h7a := HO7'.out.alloc (.cells #[.int .i64 x] 3)
          refine ⟨own_joinI hown', own_keep h7a (fun g hg => hgrow.block g (h7a.lt g hg).2 (fun e => HT.out.apart g e.symm hg)), fun g hg e => ?_, ?_, by have := HLN.out; simp; omega, HF2.out.1, by rw [List.append_assoc]; exact HF2.out.2⟩
          · rcases hat with h1 | h1
            · exact HT.out.apart g (h1 ▸ hg) e
            · rw [h1] at hg
              obtain rfl := Option.some.inj hg
              exact absurd (h7a.lt _ e).2 (Nat.lt_irrefl _)
          · have hS6 := HS5.out.later (belowN _ (.cells #[.int .i64 x] 3))
            have hb : Below (w.heap.size + 1) (w5.alloc (.cells #[.int .i64 x] 3)) w6 := (Below.refl _ _).grown hgrow hsz (fun g hg => (hown3.lt g hg).1)
            exact hS6.low hb
        clear hown' hgrow hown3 hl1 hl2 hsz
        go_roundw
        case rel => exact ⟨k + 1, nxt, acc ++ [x], by omega, by go_num, HX.out⟩
        case measure => simp [intOf]; omega
      · have hfin := HT.out.fin
        rw [RS.list_has hcc] at hfin
        simp only [List.append_nil] at hfin
        have hr := (HEND.out hfin).1 hcc
        have hne : ¬ ((cur.c : Nat) : Int) = 0 := by omega
        have HCF := Lib.hid hfin.1
        generalize ((cur.c : Nat) : Int) = cv at *
        have hq : (cv == 0) = false := by simpa using hne
        have HSI := Lib.hid (same_ints wr (.slice a7 m7 cc7) (.slice none 0 0) [] (by have := ISrc.of_own HT.out.own7; rwa [hr] at this) (.inl ⟨rfl, rfl⟩) (by simp))
        clear hcc hfin hr HEND
        go_wp2_with fail
        refine HSI.out.mono ?_
        rintro r w5 ⟨rfl, nd, rfl⟩
        have HK : Hid (St A w0 q m w.heap.size b B (opB 5 n width most slo) (wr.drewN nd) sl1 F F []) := by
          have := HT.out.st.later (below_drewN_self _ _ nd)
          rwa [HCF.out] at this
        go_wp2_with fail
        go_ret
        exact ⟨rfl, _, _, HK.out⟩
    · have hke : nn - k = 0 := by omega
      have hfin := HT.out.fin
      rw [hke] at hfin
      simp only [RS.list, List.append_nil] at hfin
      have HCF := Lib.hid hfin.1
      by_cases hcc : cur.c = 0
      · rw [hcc] at k2
        replace k2 : wr.cell? ⟨m, 2, none⟩ = some (.int .i64 0) := k2
        have hr := (HEND.out hfin).2 hcc
        have HSI := Lib.hid (same_ints wr (.slice a7 m7 cc7) (.slice va vl vc) acc (by have := ISrc.of_own HT.out.own7; rwa [hr] at this) (ISrc.of_own HT.out.own) (by have := HT.out.len; omega))
        clear hcc hfin hr HEND hke
        go_wp2_with fail
        refine HSI.out.mono ?_
        rintro r w5 ⟨rfl, nd, rfl⟩
        have HK : Hid (St A w0 q m w.heap.size b B (opB 5 n width most slo) (wr.drewN nd) sl1 F F []) := by
          have := HT.out.st.later (below_drewN_self _ _ nd)
          rwa [HCF.out] at this
        go_wp2_with fail
        go_ret
        exact ⟨rfl, _, _, HK.out⟩
      · have hr := (HEND.out hfin).1 hcc
        have hne : ¬ ((cur.c : Nat) : Int) = 0 := by omega
        generalize ((cur.c : Nat) : Int) = cv at *
        have hq : (cv == 0) = false := by simpa using hne
        have HSI := Lib.hid (same_ints wr (.slice a7 m7 cc7) (.slice none 0 0) [] (by have := ISrc.of_own HT.out.own7; rwa [hr] at this) (.inl ⟨rfl, rfl⟩) (by simp))
        clear hcc hfin hr HEND hke
        go_wp2_with fail
        refine HSI.out.mono ?_
        rintro r w5 ⟨rfl, nd, rfl⟩
        have HK : Hid (St A w0 q m w.heap.size b B (opB 5 n width most slo) (wr.drewN nd) sl1 F F []) := by
          have := HT.out.st.later (below_drewN_self _ _ nd)
          rwa [HCF.out] at this
        go_wp2_with fail
        go_ret
        exact ⟨rfl, _, _, HK.out⟩

end Go.Proofs.YtadonpfpneanhaaDoor
