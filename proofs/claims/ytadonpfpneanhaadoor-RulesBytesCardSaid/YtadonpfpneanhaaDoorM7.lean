/- A list of numbers is taken: by the reader, by the document's. -/
import Derived.Test.YtadonpfpneanhaaDoorM6
namespace Go.Proofs.YtadonpfpneanhaaDoor
open Go.RowKit

abbrev i64s (xs : List Int) : List Value := xs.map (Value.int .i64)
theorem Tryd.info3 : (Tryd.prog.info? 3).map (fun i => (i.zero, i.size, i.bytes)) = some (some (.int .i64 0), 1, 8) := by kernel_rfl

/-- So many numbers of width 1, as long as there is no error. -/
def RS.list (s : RS) : Nat → RS × List Int
  | 0 => (s, [])
  | n + 1 => if s.c ≠ 0 then (s, []) else (((s.number 1).list n).1, s.numV 1 :: ((s.number 1).list n).2)
theorem RS.list_has {s : RS} (h : s.c ≠ 0) (n : Nat) : s.list n = (s, []) := by
  cases n with
  | zero => rfl
  | succ n => unfold RS.list; rw [if_pos h]
theorem RS.list_next {s : RS} (h : s.c = 0) (n : Nat) : s.list (n + 1) = (((s.number 1).list n).1, s.numV 1 :: ((s.number 1).list n).2) := by
  rw [RS.list, if_neg (fun x => x h)]
def RS.listS (s : RS) (most : Int) : RS := ((s.many most).list (s.numV 1).toNat).1
def RS.listV (s : RS) (most : Int) : List Int := if (s.listS most).c = 0 then ((s.many most).list (s.numV 1).toNat).2 else []

theorem own_joinI {w : World} {B : Nat} {v : Value} {bs : List Int} {x : Int} (h : w.ownsRow B 3 1 v (bs.length + 1) (i64s bs ++ [.int .i64 x])) : w.ownsRow B 3 1 v (bs ++ [x]).length (i64s (bs ++ [x])) := by
  rw [List.length_append, i64s, List.map_append]
  exact h
theorem num1_in (s : RS) (h : ∀ x ∈ s.xs, 0 ≤ x ∧ x < 256) : 0 ≤ s.numV 1 ∧ s.numV 1 < 256 := by
  obtain ⟨c, xs⟩ := s
  by_cases hc : c = 0
  · subst hc
    cases xs with
    | nil => exact ⟨Int.le_refl _, by decide⟩
    | cons x xs => rw [one_num.2]; exact h x (List.mem_cons_self ..)
  · have h2 : RS.numV ⟨c, xs⟩ 1 = 0 := by
      unfold RS.numV RS.pre
      rw [if_neg (by omega), if_neg (fun x => hc x.1)]
      unfold RS.took
      rw [if_neg (fun x => hc x.1)]
      rfl
    rw [h2]
    decide

set_option maxHeartbeats 1000000 in
set_option maxRecDepth 100000 in
theorem rone_int (A : List Addr) (w : World) (q : Nat) (sl : Value) (s : RS) (hE : Eye A w q sl s) :
    Calls Tryd.prog 84 #[.pointer (some ⟨q, 0, none⟩)] w fun r w' => r = .returned (.int .i64 (s.numV 1)) ∧ ∃ sl', Eye A w' q sl' (s.number 1) ∧ Upd q w noV w' noV := by
  have HN := Lib.hid (rnum_eye A w q sl s hE 1)
  clear hE
  go_enter Tryd.func84, Tryd.ntmps84
  go_wp2_with fail
  refine HN.out.mono ?_
  rintro r w1 ⟨rfl, k⟩
  have HK := Lib.hid k
  clear k
  go_wp2_with fail
  go_ret
  exact ⟨rfl, HK.out⟩

/-- The loop's memory. -/
structure Takes (A : List Addr) (w wr : World) (q : Nat) (n : Nat) (F : RS) (L : List Int) (k : Nat) (v sl : Value) (cur : RS) (acc : List Int) : Prop where
  own : wr.ownsRow w.heap.size 3 1 v acc.length (i64s acc)
  eye : Eye A wr q sl cur
  upd : Upd q w noV wr noV
  len : acc.length = k
  fin : (cur.list (n - k)).1 = F ∧ acc ++ (cur.list (n - k)).2 = L

set_option maxHeartbeats 2000000 in
set_option maxRecDepth 100000 in
theorem take_ints (A : List Addr) (w : World) (q : Nat) (sl : Value) (s : RS) (most : Int) (hE : Eye A w q sl s) :
    Calls Tryd.prog 83 #[.pointer (some ⟨q, 0, none⟩), .int .i64 most, .func (.func 84) #[] #[]] w fun r w' => ∃ v sl', r = .returned v ∧ w'.ownsRow w.heap.size 3 1 v (s.listV most).length (i64s (s.listV most)) ∧ Eye A w' q sl' (s.listS most) ∧ Upd q w noV w' noV := by
  obtain ⟨i0, hi, hz0, hz1, hz2⟩ := info_parts Tryd.info3
  have hN0 := num1_in s hE.rd.by8
  have HN := Lib.hid (rnum_eye A w q sl s hE 1)
  have HQ := Lib.hid hE.rd.lt
  clear hE
  unfold RS.listV RS.listS RS.many
  generalize s.numV 1 = V at *
  generalize s.number 1 = s1 at *
  obtain ⟨n, rfl⟩ : ∃ n : Nat, V = n := ⟨V.toNat, by omega⟩
  rw [Int.toNat_natCast]
  obtain ⟨s2, hs2⟩ : ∃ s2, s1.most n most = s2 := ⟨_, rfl⟩
  rw [hs2]
  obtain ⟨⟨F, L⟩, hR⟩ : ∃ R, s2.list n = R := ⟨_, rfl⟩
  rw [hR]
  have HR : Hid ((s2.list (n - 0)).1 = F ∧ [] ++ (s2.list (n - 0)).2 = L) := by rw [Nat.sub_zero, hR]; exact ⟨rfl, rfl⟩
  clear hR
  simp only
  obtain ⟨res, hres⟩ : ∃ res, (if F.c = 0 then L else []) = res := ⟨_, rfl⟩
  rw [hres]
  have HRES := Lib.hid hres
  clear hres
  rcases (show (s1.c = 0 ∧ most < (n : Int)) ∨ (s1.c = 0 ∧ ¬ most < (n : Int)) ∨ s1.c ≠ 0 by omega) with ⟨hc, hv⟩ | ⟨hc, hv⟩ | hc
  · have HS : Hid (s1.fail 1 = s2) := by show _ = _; rw [← hs2]; unfold RS.most; rw [if_pos ⟨hc, hv⟩]
    have HC := Lib.hid hc
    clear hc hs2
    go_enter Tryd.func83, Tryd.ntmps83
    go_wp2_with fail
    refine HN.out.mono ?_
    rintro r w1 ⟨rfl, sl1, hE1, hU1⟩
    have k0 := hE1.rd.c0
    rw [HC.out, errV_zero] at k0
    obtain ⟨a1, ha1, hg⟩ := hE1.ers.e0
    have HF := Lib.hid (rfail_drew hE1 ha1)
    have HU1 := Lib.hid hU1
    clear hE1 hU1 ha1
    go_upto_region 3 with fail
    go_cut [7] (fun v wx => v = .int .i64 n ∧ Eye A wx q sl1 (s1.fail 1) ∧ Upd q w1 noV wx noV)
    case first =>
      go_region_with (first
        | (go_at_call 55; refine (HF.out _ rfl).mono ?_; rintro r w4 ⟨rfl, b4⟩))
      all_goals (go_wp2_with fail; go_meet; exact ⟨rfl, b4⟩)
    case rest =>
    obtain ⟨rfl, hE2, hU2⟩ := hcut
    rw [HS.out] at hE2
    have HE := Lib.hid hE2
    have HU := Lib.hid (HU1.out.trans hU2)
    clear hE2 hU2 HF hg k0 HU1
    have HE0 := Lib.hid HE.out
    go_wp2_with fail
    go_loopw [8, 9] (fun v i wr => ∃ (k : Nat) (sl' : Value) (cur : RS) (acc : List Int), k ≤ n ∧ i = .int .i64 k ∧ Takes A w wr q n F L k v sl' cur acc) (fun _ i _ => n - (intOf i).toNat)
    case atStart => exact ⟨0, _, s2, [], Nat.zero_le _, rfl, World.ownsRow_nil _ _ _ _, HE0.out, HU.out, rfl, HR.out⟩
    case round =>
      clear HE0 HE HU
      obtain ⟨k, sl', cur, acc, hk, rfl, hT⟩ := hrel
      obtain ⟨va, vl, vc, rfl⟩ := slice_of_own hT.own
      have k0 := hT.eye.rd.c0
      have HT := Lib.hid hT
      clear hT
      by_cases hlt : k < n
      · by_cases hcc : cur.c = 0
        · rw [hcc, errV_zero] at k0
          have hone := rone_int A wr q sl' cur HT.out.eye
          have hin := num1_in cur HT.out.eye.rd.by8
          have hfin := HT.out.fin
          rw [show n - k = (n - (k + 1)) + 1 by omega, RS.list_next hcc] at hfin
          have hlen := HT.out.len
          generalize cur.numV 1 = x at *
          generalize cur.number 1 = nxt at *
          have HONE := Lib.hid hone
          have HF2 := Lib.hid hfin
          have HLN := Lib.hid hlen
          clear hone hcc hfin hlen
          go_wp2_with fail
          refine HONE.out.mono ?_
          rintro r w2 ⟨rfl, sl2, hE2, hU2⟩
          have hown2 := own_keep HT.out.own (fun g hg => hU2.same g (HT.out.own.lt g hg).2 (fun e => by have := (HT.out.own.lt g hg).1; have := HQ.out; omega) (fun e => by simp [Value.ownBlock] at e))
          have HU2 := Lib.hid (HT.out.upd.trans hU2)
          have HE2 := Lib.hid hE2
          have hown3 := hown2.alloc (.cells #[.int .i64 x] 3)
          have hl1 : acc.length + 1 ≤ maxLen := by have := HLN.out; unfold maxLen; omega
          have hl2 : (acc.length + 1) * 8 ≤ 140737488355328 := by have := HLN.out; omega
          have hsz : w.heap.size ≤ (w2.alloc (.cells #[.int .i64 x] 3)).heap.size := by have := HU2.out.size; simp; omega
          clear hE2 hU2 hown2 k0
          go_wp2_with (first
            | (at_builtin; refine wpList_append_own _ rfl (.tmp 41) (.tmp 45) 23 rfl w.heap.size 3 i0 (.int .i64 0) 1 8 Tryd.underlying23 hi hz0 hz1 hz2 rfl (by decide) _ acc.length (i64s acc) rfl hown3 ⟨w2.heap.size, 0, none⟩ 1 1 [.int .i64 x] rfl rfl (cell_one_new _ _ _) (by simp [Value.oneCell']) hl1 hl2 hsz ?_; intro v' w3 hown' hgrow _))
          have HX : Hid (Takes A w w3 q n F L (k + 1) v' sl2 nxt (acc ++ [x])) := ⟨own_joinI hown', (HE2.out.later (belowN _ _)).grown hgrow (fun g hg => by have := (HT.out.own.lt g hg).1; have := HQ.out; omega), (HU2.out.trans (Upd.of_below (belowN _ _))).grown hgrow (fun g hg => (HT.out.own.lt g hg).1), by have := HLN.out; simp; omega, HF2.out.1, by rw [List.append_assoc]; exact HF2.out.2⟩
          clear hown' hgrow hown3 hl1 hl2 hsz
          go_roundw
          case rel => exact ⟨k + 1, sl2, nxt, acc ++ [x], by omega, by go_num, HX.out⟩
          case measure => simp [intOf]; omega
        · have hfin := HT.out.fin
          rw [RS.list_has hcc] at hfin
          obtain ⟨he, -⟩ := hfin
          simp only at he
          subst he
          obtain ⟨u, hu⟩ := errV_pos A hcc
          rw [hu] at k0
          have HCC := Lib.hid hcc
          clear hcc hu
          go_wp2_with fail
          go_ret
          have hres := HRES.out
          rw [if_neg HCC.out] at hres
          subst hres
          exact ⟨_, sl', rfl, World.ownsRow_nil _ _ _ _, HT.out.eye, HT.out.upd⟩
      · have hke : k = n := by omega
        have hfin := HT.out.fin
        rw [hke, Nat.sub_self] at hfin
        simp only [RS.list, List.append_nil] at hfin
        obtain ⟨rfl, rfl⟩ := hfin
        by_cases hcc : cur.c = 0
        · rw [hcc, errV_zero] at k0
          have HCC := Lib.hid hcc
          clear hcc
          go_wp2_with fail
          go_ret
          have hres := HRES.out
          rw [if_pos HCC.out] at hres
          subst hres
          exact ⟨_, sl', rfl, HT.out.own, HT.out.eye, HT.out.upd⟩
        · obtain ⟨u, hu⟩ := errV_pos A hcc
          rw [hu] at k0
          have HCC := Lib.hid hcc
          clear hcc hu
          go_wp2_with fail
          go_ret
          have hres := HRES.out
          rw [if_neg HCC.out] at hres
          subst hres
          exact ⟨_, sl', rfl, World.ownsRow_nil _ _ _ _, HT.out.eye, HT.out.upd⟩
  · have HS : Hid (s1 = s2) := by show _ = _; rw [← hs2]; unfold RS.most; rw [if_neg (fun x => hv x.2)]
    have HC := Lib.hid hc
    clear hc hs2
    go_enter Tryd.func83, Tryd.ntmps83
    go_wp2_with fail
    refine HN.out.mono ?_
    rintro r w1 ⟨rfl, sl1, hE1, hU1⟩
    have k0 := hE1.rd.c0
    rw [HC.out, errV_zero] at k0
    rw [HS.out] at hE1
    have HE := Lib.hid hE1
    have HU := Lib.hid hU1
    clear hE1 hU1
    have HE0 := Lib.hid HE.out
    go_wp2_with fail
    go_loopw [8, 9] (fun v i wr => ∃ (k : Nat) (sl' : Value) (cur : RS) (acc : List Int), k ≤ n ∧ i = .int .i64 k ∧ Takes A w wr q n F L k v sl' cur acc) (fun _ i _ => n - (intOf i).toNat)
    case atStart => exact ⟨0, _, s2, [], Nat.zero_le _, rfl, World.ownsRow_nil _ _ _ _, HE0.out, HU.out, rfl, HR.out⟩
    case round =>
      clear HE0 HE HU
      obtain ⟨k, sl', cur, acc, hk, rfl, hT⟩ := hrel
      obtain ⟨va, vl, vc, rfl⟩ := slice_of_own hT.own
      have k0 := hT.eye.rd.c0
      have HT := Lib.hid hT
      clear hT
      by_cases hlt : k < n
      · by_cases hcc : cur.c = 0
        · rw [hcc, errV_zero] at k0
          have hone := rone_int A wr q sl' cur HT.out.eye
          have hin := num1_in cur HT.out.eye.rd.by8
          have hfin := HT.out.fin
          rw [show n - k = (n - (k + 1)) + 1 by omega, RS.list_next hcc] at hfin
          have hlen := HT.out.len
          generalize cur.numV 1 = x at *
          generalize cur.number 1 = nxt at *
          have HONE := Lib.hid hone
          have HF2 := Lib.hid hfin
          have HLN := Lib.hid hlen
          clear hone hcc hfin hlen
          go_wp2_with fail
          refine HONE.out.mono ?_
          rintro r w2 ⟨rfl, sl2, hE2, hU2⟩
          have hown2 := own_keep HT.out.own (fun g hg => hU2.same g (HT.out.own.lt g hg).2 (fun e => by have := (HT.out.own.lt g hg).1; have := HQ.out; omega) (fun e => by simp [Value.ownBlock] at e))
          have HU2 := Lib.hid (HT.out.upd.trans hU2)
          have HE2 := Lib.hid hE2
          have hown3 := hown2.alloc (.cells #[.int .i64 x] 3)
          have hl1 : acc.length + 1 ≤ maxLen := by have := HLN.out; unfold maxLen; omega
          have hl2 : (acc.length + 1) * 8 ≤ 140737488355328 := by have := HLN.out; omega
          have hsz : w.heap.size ≤ (w2.alloc (.cells #[.int .i64 x] 3)).heap.size := by have := HU2.out.size; simp; omega
          clear hE2 hU2 hown2 k0
          go_wp2_with (first
            | (at_builtin; refine wpList_append_own _ rfl (.tmp 41) (.tmp 45) 23 rfl w.heap.size 3 i0 (.int .i64 0) 1 8 Tryd.underlying23 hi hz0 hz1 hz2 rfl (by decide) _ acc.length (i64s acc) rfl hown3 ⟨w2.heap.size, 0, none⟩ 1 1 [.int .i64 x] rfl rfl (cell_one_new _ _ _) (by simp [Value.oneCell']) hl1 hl2 hsz ?_; intro v' w3 hown' hgrow _))
          have HX : Hid (Takes A w w3 q n F L (k + 1) v' sl2 nxt (acc ++ [x])) := ⟨own_joinI hown', (HE2.out.later (belowN _ _)).grown hgrow (fun g hg => by have := (HT.out.own.lt g hg).1; have := HQ.out; omega), (HU2.out.trans (Upd.of_below (belowN _ _))).grown hgrow (fun g hg => (HT.out.own.lt g hg).1), by have := HLN.out; simp; omega, HF2.out.1, by rw [List.append_assoc]; exact HF2.out.2⟩
          clear hown' hgrow hown3 hl1 hl2 hsz
          go_roundw
          case rel => exact ⟨k + 1, sl2, nxt, acc ++ [x], by omega, by go_num, HX.out⟩
          case measure => simp [intOf]; omega
        · have hfin := HT.out.fin
          rw [RS.list_has hcc] at hfin
          obtain ⟨he, -⟩ := hfin
          simp only at he
          subst he
          obtain ⟨u, hu⟩ := errV_pos A hcc
          rw [hu] at k0
          have HCC := Lib.hid hcc
          clear hcc hu
          go_wp2_with fail
          go_ret
          have hres := HRES.out
          rw [if_neg HCC.out] at hres
          subst hres
          exact ⟨_, sl', rfl, World.ownsRow_nil _ _ _ _, HT.out.eye, HT.out.upd⟩
      · have hke : k = n := by omega
        have hfin := HT.out.fin
        rw [hke, Nat.sub_self] at hfin
        simp only [RS.list, List.append_nil] at hfin
        obtain ⟨rfl, rfl⟩ := hfin
        by_cases hcc : cur.c = 0
        · rw [hcc, errV_zero] at k0
          have HCC := Lib.hid hcc
          clear hcc
          go_wp2_with fail
          go_ret
          have hres := HRES.out
          rw [if_pos HCC.out] at hres
          subst hres
          exact ⟨_, sl', rfl, HT.out.own, HT.out.eye, HT.out.upd⟩
        · obtain ⟨u, hu⟩ := errV_pos A hcc
          rw [hu] at k0
          have HCC := Lib.hid hcc
          clear hcc hu
          go_wp2_with fail
          go_ret
          have hres := HRES.out
          rw [if_neg HCC.out] at hres
          subst hres
          exact ⟨_, sl', rfl, World.ownsRow_nil _ _ _ _, HT.out.eye, HT.out.upd⟩
  · have HS : Hid (s1 = s2) := by show _ = _; rw [← hs2]; unfold RS.most; rw [if_neg (fun x => hc x.1)]
    obtain ⟨u0, hu0⟩ := errV_pos A hc
    have HC := Lib.hid hu0
    clear hc hs2 hu0
    go_enter Tryd.func83, Tryd.ntmps83
    go_wp2_with fail
    refine HN.out.mono ?_
    rintro r w1 ⟨rfl, sl1, hE1, hU1⟩
    have k0 := hE1.rd.c0
    rw [HC.out] at k0
    rw [HS.out] at hE1
    have HE := Lib.hid hE1
    have HU := Lib.hid hU1
    clear hE1 hU1
    have HE0 := Lib.hid HE.out
    go_wp2_with fail
    go_loopw [8, 9] (fun v i wr => ∃ (k : Nat) (sl' : Value) (cur : RS) (acc : List Int), k ≤ n ∧ i = .int .i64 k ∧ Takes A w wr q n F L k v sl' cur acc) (fun _ i _ => n - (intOf i).toNat)
    case atStart => exact ⟨0, _, s2, [], Nat.zero_le _, rfl, World.ownsRow_nil _ _ _ _, HE0.out, HU.out, rfl, HR.out⟩
    case round =>
      clear HE0 HE HU
      obtain ⟨k, sl', cur, acc, hk, rfl, hT⟩ := hrel
      obtain ⟨va, vl, vc, rfl⟩ := slice_of_own hT.own
      have k0 := hT.eye.rd.c0
      have HT := Lib.hid hT
      clear hT
      by_cases hlt : k < n
      · by_cases hcc : cur.c = 0
        · rw [hcc, errV_zero] at k0
          have hone := rone_int A wr q sl' cur HT.out.eye
          have hin := num1_in cur HT.out.eye.rd.by8
          have hfin := HT.out.fin
          rw [show n - k = (n - (k + 1)) + 1 by omega, RS.list_next hcc] at hfin
          have hlen := HT.out.len
          generalize cur.numV 1 = x at *
          generalize cur.number 1 = nxt at *
          have HONE := Lib.hid hone
          have HF2 := Lib.hid hfin
          have HLN := Lib.hid hlen
          clear hone hcc hfin hlen
          go_wp2_with fail
          refine HONE.out.mono ?_
          rintro r w2 ⟨rfl, sl2, hE2, hU2⟩
          have hown2 := own_keep HT.out.own (fun g hg => hU2.same g (HT.out.own.lt g hg).2 (fun e => by have := (HT.out.own.lt g hg).1; have := HQ.out; omega) (fun e => by simp [Value.ownBlock] at e))
          have HU2 := Lib.hid (HT.out.upd.trans hU2)
          have HE2 := Lib.hid hE2
          have hown3 := hown2.alloc (.cells #[.int .i64 x] 3)
          have hl1 : acc.length + 1 ≤ maxLen := by have := HLN.out; unfold maxLen; omega
          have hl2 : (acc.length + 1) * 8 ≤ 140737488355328 := by have := HLN.out; omega
          have hsz : w.heap.size ≤ (w2.alloc (.cells #[.int .i64 x] 3)).heap.size := by have := HU2.out.size; simp; omega
          clear hE2 hU2 hown2 k0
          go_wp2_with (first
            | (at_builtin; refine wpList_append_own _ rfl (.tmp 41) (.tmp 45) 23 rfl w.heap.size 3 i0 (.int .i64 0) 1 8 Tryd.underlying23 hi hz0 hz1 hz2 rfl (by decide) _ acc.length (i64s acc) rfl hown3 ⟨w2.heap.size, 0, none⟩ 1 1 [.int .i64 x] rfl rfl (cell_one_new _ _ _) (by simp [Value.oneCell']) hl1 hl2 hsz ?_; intro v' w3 hown' hgrow _))
          have HX : Hid (Takes A w w3 q n F L (k + 1) v' sl2 nxt (acc ++ [x])) := ⟨own_joinI hown', (HE2.out.later (belowN _ _)).grown hgrow (fun g hg => by have := (HT.out.own.lt g hg).1; have := HQ.out; omega), (HU2.out.trans (Upd.of_below (belowN _ _))).grown hgrow (fun g hg => (HT.out.own.lt g hg).1), by have := HLN.out; simp; omega, HF2.out.1, by rw [List.append_assoc]; exact HF2.out.2⟩
          clear hown' hgrow hown3 hl1 hl2 hsz
          go_roundw
          case rel => exact ⟨k + 1, sl2, nxt, acc ++ [x], by omega, by go_num, HX.out⟩
          case measure => simp [intOf]; omega
        · have hfin := HT.out.fin
          rw [RS.list_has hcc] at hfin
          obtain ⟨he, -⟩ := hfin
          simp only at he
          subst he
          obtain ⟨u, hu⟩ := errV_pos A hcc
          rw [hu] at k0
          have HCC := Lib.hid hcc
          clear hcc hu
          go_wp2_with fail
          go_ret
          have hres := HRES.out
          rw [if_neg HCC.out] at hres
          subst hres
          exact ⟨_, sl', rfl, World.ownsRow_nil _ _ _ _, HT.out.eye, HT.out.upd⟩
      · have hke : k = n := by omega
        have hfin := HT.out.fin
        rw [hke, Nat.sub_self] at hfin
        simp only [RS.list, List.append_nil] at hfin
        obtain ⟨rfl, rfl⟩ := hfin
        by_cases hcc : cur.c = 0
        · rw [hcc, errV_zero] at k0
          have HCC := Lib.hid hcc
          clear hcc
          go_wp2_with fail
          go_ret
          have hres := HRES.out
          rw [if_pos HCC.out] at hres
          subst hres
          exact ⟨_, sl', rfl, HT.out.own, HT.out.eye, HT.out.upd⟩
        · obtain ⟨u, hu⟩ := errV_pos A hcc
          rw [hu] at k0
          have HCC := Lib.hid hcc
          clear hcc hu
          go_wp2_with fail
          go_ret
          have hres := HRES.out
          rw [if_neg HCC.out] at hres
          subst hres
          exact ⟨_, sl', rfl, World.ownsRow_nil _ _ _ _, HT.out.eye, HT.out.upd⟩

end Go.Proofs.YtadonpfpneanhaaDoor
