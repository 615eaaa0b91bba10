/- What an op's bytes are, by the document. -/
import Derived.Test.YtadonpfpneanhaaDoorO7
import Derived.Deep.RegionLaw
namespace Go.Proofs.YtadonpfpneanhaaDoor
open Go.RowKit

/-- Append to a row of one's own, as one step of a region that draws. -/
theorem step_own {P : Program} {ops : Array Oper} {o : Oper} {a : Act} {w : World} {K : Act → World → Prop} {Q : Exit → Act → World → Prop} {E : Prop}
    (hg : o.guard = none) (s x : Operand) (t : TypeId) (hop : o.op = Op.call { callee := Callee.builtin Builtin.append, args := #[s, x], argTypes := #[t, t] })
    (base : Nat) (e : TypeId) (i : TypeInfo) (z : Value) (size bytes : Nat) (h1 : P.underlying t = some (.slice e)) (h2 : P.info? e = some i) (h3 : i.zero = some z) (h4 : i.size = size) (h5 : i.bytes = bytes) (h6 : z.cells.size = size) (h7 : 0 < size)
    (v : Value) (n : Nat) (olds : List Value) (hs : a.eval s = v) (hown : w.ownsRow base e size v n olds)
    (ad : Addr) (m c : Nat) (news : List Value) (hx : a.eval x = .slice (some ad) m c) (hn : news.length = m * size) (hc : ∀ j u, news[j]? = some u → w.cell? (ad.add j) = some u) (h1c : ∀ u ∈ news, u.oneCell' = true)
    (b1 : n + m ≤ maxLen) (b2 : (n + m) * bytes ≤ 140737488355328) (hb : base ≤ w.heap.size)
    (hK : ∀ v' w', w'.ownsRow base e size v' (n + m) (olds ++ news) → w.grownBy w' v.ownBlock → K (a.put o.dst v') w') :
    if Region.wanted o (yielded ops a.tmps) = true then Oper.wp P o a w K Q else E := by
  have hw : Region.wanted o (yielded ops a.tmps) = true := by simp [Region.wanted, hg]
  rw [if_pos hw]
  obtain ⟨v', w', hrun, r1, r2, _⟩ := run_append_own (P := P) w base t o.type e i z size bytes h1 h2 h3 h4 h5 h6 h7 v n olds hown ad m c news hn hc h1c b1 b2 hb
  unfold Oper.wp
  simp [execOp, hop, resolve, invoke, builtin, hs, hx, hrun, Result.andThen]
  exact hK v' w' r1 r2

theorem step_own_none {P : Program} {ops : Array Oper} {o : Oper} {a : Act} {w : World} {K : Act → World → Prop} {Q : Exit → Act → World → Prop} {E : Prop}
    (hg : o.guard = none) (s x : Operand) (t : TypeId) (hop : o.op = Op.call { callee := Callee.builtin Builtin.append, args := #[s, x], argTypes := #[t, t] })
    (base : Nat) (e : TypeId) (i : TypeInfo) (size : Nat) (h1 : P.underlying t = some (.slice e)) (h2 : P.info? e = some i)
    (v : Value) (n : Nat) (olds : List Value) (hs : a.eval s = v) (hown : w.ownsRow base e size v n olds) (hx : a.eval x = .slice none 0 0) (hK : K (a.put o.dst v) w) :
    if Region.wanted o (yielded ops a.tmps) = true then Oper.wp P o a w K Q else E := by
  have hw : Region.wanted o (yielded ops a.tmps) = true := by simp [Region.wanted, hg]
  rw [if_pos hw]
  have hrun := run_append_owned_none (P := P) (w := w) base t o.type e i size h1 h2 v n olds hown
  unfold Oper.wp
  simp [execOp, hop, resolve, invoke, builtin, hs, hx, hrun, Result.andThen]
  exact hK

def Op5.bytes (o : Op5) : List Int := if o.code = 0 then o.out else []

theorem Src.one (w : World) (x : Int) : Src (w.alloc (.cells #[.int .u8 x] 5)) (.slice (some ⟨w.heap.size, 0, none⟩) 1 1) [x] := by
  refine .inr ⟨⟨w.heap.size, 0, none⟩, 1, rfl, Nat.le_refl 1, by decide, fun j u hj => ?_⟩
  cases j with
  | zero =>
    obtain rfl := Option.some.inj hj
    exact cell_of_blk (heap_alloc_new w _) 0
  | succ j => simp [u8s] at hj

set_option maxHeartbeats 1000000 in
set_option maxRecDepth 100000 in
theorem written_any (w : World) (k n width most : Int) (sl : Value) (xs : List Int) (hok : (⟨k, n, width, most, sl, xs⟩ : Op5).ok w) (hlen : xs.length ≤ 400) :
    Calls Tryd.prog 31 #[opV k n width most sl] w fun r w' => ∃ v, r = .returned (.tuple #[v, .int .i64 ((⟨k, n, width, most, sl, xs⟩ : Op5).code : Int)]) ∧ Src w' v (⟨k, n, width, most, sl, xs⟩ : Op5).bytes ∧ Below w.heap.size w w' := by
  obtain ⟨hs, h8, ⟨hn1, hn2⟩, -⟩ := hok
  simp only at hs h8 hn1 hn2
  have hb := belowN w (opB k n width most sl)
  have HB := Lib.hid hb
  have HS := Lib.hid (hs.below hb)
  obtain ⟨a, c, rfl⟩ := hs.len
  clear hs hb
  unfold Op5.bytes Op5.code Op5.out
  simp only
  by_cases h1 : k = 1
  · subst h1
    have HF := Lib.hid (fits_any (w.alloc (opB 1 n width most (.slice a xs.length c))) n width hn2)
    simp only [if_true]
    by_cases hbad : BadN n width
    · rw [show decide (¬ BadN n width) = false by simp [hbad]] at HF
      simp only [hbad, if_true]
      clear hbad
      go_enter Tryd.func31, Tryd.ntmps31
      go_wp2_with fail
      refine HF.out.mono ?_
      rintro r w1 ⟨rfl, rfl⟩
      go_wp2_with fail
      exact bodyPost_ret (v := .tuple #[.slice none 0 0, .int .i64 1]) (by simp [results, Tryd.f31, go_sem]) rfl ⟨_, rfl, .inl ⟨rfl, rfl⟩, HB.out⟩
    · rw [show decide (¬ BadN n width) = true by simp [hbad]] at HF
      simp only [hbad, if_false]
      have hw : 0 ≤ width ∧ width ≤ 8 ∧ 0 ≤ n := by unfold BadN at hbad; omega
      have hr := refnum_any (w.alloc (opB 1 n width most (.slice a xs.length c))) n width.toNat hw.2.2 hn2 (by omega)
      rw [Int.toNat_of_nonneg hw.1] at hr
      have HR := Lib.hid hr
      clear hbad hr hw
      go_enter Tryd.func31, Tryd.ntmps31
      go_wp2_with fail
      refine HF.out.mono ?_
      rintro r w1 ⟨rfl, rfl⟩
      go_wp2_with fail
      refine HR.out.mono ?_
      rintro r w2 ⟨v, rfl, ho, hb2⟩
      have HO := Lib.hid (Src.of_own ho)
      have HB2 := Lib.hid (HB.out.trans (hb2.mono (by simp)))
      clear ho hb2
      go_wp2_with fail
      exact bodyPost_ret (v := .tuple #[v, .int .i64 0]) (by simp [results, Tryd.f31, go_sem]) rfl ⟨_, rfl, HO.out, HB2.out⟩
  by_cases h2 : k = 2
  · subst h2
    simp only [show ((2 : Int) = 1) = False by simp, show ((2 : Int) = 4) = False by simp, show ((2 : Int) = 5) = False by simp, show ((2 : Int) = 6) = False by simp, if_false, if_true]
    have hwr : IntKind.u8.wrap (n % 2) = n % 2 := by
      rcases Int.emod_two_eq n with h | h <;> rw [h] <;> rfl
    have hand := and_one n
    have hone := Src.one (w.alloc (opB 2 n width most (.slice a xs.length c))) (n % 2)
    have hb1 := HB.out.alloc HB.out.size (.cells #[.int .u8 (n % 2)] 5)
    simp only [World.size_alloc] at hone
    have HK := Lib.hid (And.intro hone hb1)
    clear hone hb1
    go_enter Tryd.func31, Tryd.ntmps31
    go_wp2_with fail
    exact bodyPost_ret (v := .tuple #[.slice (some ⟨w.heap.size + 1, 0, none⟩) 1 1, .int .i64 0]) (by simp [results, Tryd.f31, go_sem]) rfl ⟨_, rfl, HK.out⟩
  by_cases h3 : k = 3
  · subst h3
    simp only [show ((3 : Int) = 1) = False by simp, show ((3 : Int) = 2) = False by simp, show ((3 : Int) = 4) = False by simp, show ((3 : Int) = 5) = False by simp, show ((3 : Int) = 6) = False by simp, if_false, if_true]
    go_enter Tryd.func31, Tryd.ntmps31
    go_wp2_with fail
    exact bodyPost_ret (v := .tuple #[.slice a xs.length c, .int .i64 0]) (by simp [results, Tryd.f31, go_sem]) rfl ⟨_, rfl, HS.out, HB.out⟩
  by_cases h4 : k = 4
  · subst h4
    simp only [show ((4 : Int) = 1) = False by simp, show ((4 : Int) = 2) = False by simp, show ((4 : Int) = 3) = False by simp, if_false, if_true]
    have hl2 : ¬ 65535 < (xs.length : Int) := by omega
    by_cases hm : most < xs.length
    · simp only [hm, true_or, if_true]
      go_enter Tryd.func31, Tryd.ntmps31
      go_wp2_with fail
      exact bodyPost_ret (v := .tuple #[.slice none 0 0, .int .i64 1]) (by simp [results, Tryd.f31, go_sem]) rfl ⟨_, rfl, .inl ⟨rfl, rfl⟩, HB.out⟩
    · simp only [hm, hl2, or_self, if_false, if_true]
      obtain ⟨i0, hi, hz0, hz1, hz2⟩ := info_parts Tryd.info5
      have hn1 : 2 + xs.length ≤ maxLen := by unfold maxLen; omega
      rcases HS.out with ⟨he, hx⟩ | ⟨ad, c', he, hc1, hc2, hcs⟩
      · obtain ⟨rfl, h0, rfl⟩ : a = none ∧ xs.length = 0 ∧ c = 0 := by injection he with e1 e2 e3; exact ⟨e1, e2, e3⟩
        subst hx
        have HN : Hid (∀ W : World, W = (w.alloc (opB 4 n width most (.slice none 0 0))).drew → Calls Tryd.prog 68 #[.int .i64 0, .int .i64 2] W fun r w2 => ∃ v, r = .returned v ∧ w2.ownsRow (w.heap.size + 1) 5 1 v 2 (u8s (be 0 2)) ∧
            w2.cell? ⟨w.heap.size, 4, none⟩ = some (.slice none 0 0) ∧ Below w.heap.size w w2) := fun W e => by
          subst e
          refine (refnum_any _ 0 2 (by omega) (by omega) (by omega)).mono ?_
          rintro r w2 ⟨v, rfl, ho, hb2⟩
          rw [be_length] at ho
          have hb2' : Below (w.heap.size + 1) (w.alloc (opB 4 n width most (.slice none 0 0))) w2 := by
            have := ((Below.refl _ (w.alloc (opB 4 n width most (.slice none 0 0)))).drew).trans hb2
            simpa using this
          exact ⟨v, rfl, by simpa using ho, (hb2'.cell (p := ⟨w.heap.size, 4, none⟩) (Nat.lt_succ_self _)).trans (cell_of_blk (heap_alloc_new w _) 4), HB.out.trans (hb2'.mono (by omega))⟩
        simp only [List.length_nil] at hm hl2 HB HS ⊢
        clear he
        go_enter Tryd.func31, Tryd.ntmps31
        go_wp2_with fail
        go_region_law (first
          | (refine step_own_none rfl (.tmp 47) (.tmp 49) 22 rfl (w.heap.size + 1) 5 i0 1 Tryd.underlying22 hi v 2 (u8s (be 0 2)) (by simp [Act.eval]) ho (by simp [Act.eval]) ?_)
          | (go_simp; go_at_call 68; refine (HN.out _ rfl).mono ?_; rintro r w2 ⟨v, rfl, ho, hk4, hbw⟩))
        all_goals
          have HK : Hid (Src w2 v (be (0 : Nat) 2 ++ []) ∧ Below w.heap.size w w2) := ⟨by rw [List.append_nil]; exact Src.of_own (B := w.heap.size + 1) (by rw [be_length]; exact ho), hbw⟩
          clear ho hk4 hbw
          go_wp2_with fail
          exact bodyPost_ret (v := .tuple #[v, .int .i64 0]) (by simp [results, Tryd.f31, go_sem]) rfl ⟨_, rfl, HK.out⟩
      · obtain rfl : a = some ad := by injection he
        have HN : Hid (∀ W : World, W = (w.alloc (opB 4 n width most (.slice (some ad) xs.length c))).drew → Calls Tryd.prog 68 #[.int .i64 (xs.length : Int), .int .i64 2] W fun r w2 => ∃ v, r = .returned v ∧ w2.ownsRow (w.heap.size + 1) 5 1 v 2 (u8s (be xs.length 2)) ∧
            w2.cell? ⟨w.heap.size, 4, none⟩ = some (.slice (some ad) xs.length c) ∧ (∀ j u, (u8s xs)[j]? = some u → w2.cell? (ad.add j) = some u) ∧ Below w.heap.size w w2 ∧ w.heap.size + 1 ≤ w2.heap.size) := fun W e => by
          subst e
          refine (refnum_any _ xs.length 2 (by omega) (by omega) (by omega)).mono ?_
          rintro r w2 ⟨v, rfl, ho, hb2⟩
          rw [be_length] at ho
          have hb2' : Below (w.heap.size + 1) (w.alloc (opB 4 n width most (.slice (some ad) xs.length c))) w2 := by
            have := ((Below.refl _ (w.alloc (opB 4 n width most (.slice (some ad) xs.length c)))).drew).trans hb2
            simpa using this
          refine ⟨v, rfl, by simpa using ho, ?_, fun j u hj => ?_, HB.out.trans (hb2'.mono (by omega)), by have := hb2'.size; simpa using this⟩
          · exact (hb2'.cell (p := ⟨w.heap.size, 4, none⟩) (Nat.lt_succ_self _)).trans (cell_of_blk (heap_alloc_new w _) 4)
          · have := hcs j u hj
            have hlt := World.block_lt_of_cell? _ _ this
            exact (hb2'.cell (by simpa using hlt)).trans this
        have hz : (u8s xs).length = xs.length * 1 := by simp
        have hp := u8s_oneCell xs
        have hn2' : (2 + xs.length) * 1 ≤ 140737488355328 := by omega
        clear hc1 hc2 he hcs
        go_enter Tryd.func31, Tryd.ntmps31
        go_wp2_with fail
        go_region_law (first
          | (refine step_own rfl (.tmp 47) (.tmp 49) 22 rfl (w.heap.size + 1) 5 i0 (.int .u8 0) 1 1 Tryd.underlying22 hi hz0 hz1 hz2 rfl (by decide) v 2 (u8s (be xs.length 2)) (by simp [Act.eval]) ho ad xs.length c (u8s xs) (by simp [Act.eval]) hz hs2 hp hn1 hn2' hsz ?_; intro v' w' ho' hg')
          | (go_simp; go_at_call 68; refine (HN.out _ rfl).mono ?_; rintro r w2 ⟨v, rfl, ho, hk4, hs2, hbw, hsz⟩))
        all_goals
          have HK : Hid (Src w' v' (be xs.length 2 ++ xs) ∧ Below w.heap.size w w') := ⟨Src.of_own (B := w.heap.size + 1) (by rw [List.length_append, be_length, u8s, List.map_append]; exact ho'), hbw.grown hg' (by omega) (fun g hg => Nat.le_of_succ_le (ho.lt g hg).1)⟩
          clear ho ho' hg' hk4 hs2 hbw hsz
          go_wp2_with fail
          exact bodyPost_ret (v := .tuple #[v', .int .i64 0]) (by simp [results, Tryd.f31, go_sem]) rfl ⟨_, rfl, HK.out⟩
  by_cases h5 : k = 5
  · subst h5
    simp only [show ((5 : Int) = 1) = False by simp, show ((5 : Int) = 2) = False by simp, show ((5 : Int) = 3) = False by simp, show ((5 : Int) = 4) = False by simp, if_false, if_true]
    by_cases hm : most < xs.length ∨ 255 < (xs.length : Int)
    · simp only [hm, if_true]
      rcases (show most < xs.length ∨ (¬ most < xs.length ∧ 255 < (xs.length : Int)) by omega) with h1 | ⟨h1, h2⟩
      all_goals
        clear hm
        go_enter Tryd.func31, Tryd.ntmps31
        go_wp2_with fail
        exact bodyPost_ret (v := .tuple #[.slice none 0 0, .int .i64 1]) (by simp [results, Tryd.f31, go_sem]) rfl ⟨_, rfl, .inl ⟨rfl, rfl⟩, HB.out⟩
    · simp only [hm, if_false, if_true]
      have hm1 : ¬ most < xs.length := fun h => hm (.inl h)
      have hm2 : ¬ 255 < (xs.length : Int) := fun h => hm (.inr h)
      have hwr : IntKind.u8.wrap (xs.length : Int) = xs.length := by
        simp [IntKind.wrap, IntKind.signed, IntKind.bits]
        omega
      have hln : ((w.alloc (opB 5 n width most (.slice a xs.length c))).alloc (.cells #[.int .u8 xs.length] 5)).ownsRow (w.heap.size + 1) 5 1 (.slice (some ⟨w.heap.size + 1, 0, none⟩) 1 1) 1 [.int .u8 xs.length] := by
        have := World.ownsRow_lit (base := w.heap.size + 1) (e := 5) (size := 1) (w.alloc (opB 5 n width most (.slice a xs.length c))) #[.int .u8 xs.length] 1 (by simp) (by decide) rfl
        simpa using this
      have hbb : Below w.heap.size w ((w.alloc (opB 5 n width most (.slice a xs.length c))).alloc (.cells #[.int .u8 xs.length] 5)) := HB.out.alloc HB.out.size _
      have hsr : Src ((w.alloc (opB 5 n width most (.slice a xs.length c))).alloc (.cells #[.int .u8 xs.length] 5)) (.slice a xs.length c) xs := HS.out.below (belowN _ _)
      obtain ⟨i0, hi, hz0, hz1, hz2⟩ := info_parts Tryd.info5
      clear hm
      rcases hsr with ⟨he, hx⟩ | ⟨ad, c', he, hc1, hc2, hcs⟩
      · obtain ⟨rfl, h0, rfl⟩ : a = none ∧ xs.length = 0 ∧ c = 0 := by injection he with e1 e2 e3; exact ⟨e1, e2, e3⟩
        subst hx
        simp only [List.length_nil] at hm1 hm2 HB HS hln hbb hwr ⊢
        have HK : Hid (Src _ _ [0] ∧ Below w.heap.size w _) := ⟨Src.of_own (bs := [0]) hln, hbb⟩
        clear he hbb
        go_enter Tryd.func31, Tryd.ntmps31
        go_wp2_with (first
          | (at_builtin; refine wpList_append_own_none rfl (.tmp 69) (.tmp 71) 22 rfl (w.heap.size + 1) 5 i0 1 Tryd.underlying22 hi _ 1 _ rfl hln rfl ?_))
        exact bodyPost_ret (v := .tuple #[.slice (some ⟨w.heap.size + 1, 0, none⟩) 1 1, .int .i64 0]) (by simp [results, Tryd.f31, go_sem]) rfl ⟨_, rfl, HK.out⟩
      · obtain rfl : a = some ad := by injection he
        have hz : (u8s xs).length = xs.length * 1 := by simp
        have hp := u8s_oneCell xs
        have hn1 : 1 + xs.length ≤ maxLen := by unfold maxLen; omega
        have hn2' : (1 + xs.length) * 1 ≤ 140737488355328 := by omega
        have hsz : w.heap.size + 1 ≤ ((w.alloc (opB 5 n width most (.slice (some ad) xs.length c))).alloc (.cells #[.int .u8 xs.length] 5)).heap.size := by simp
        have HBB := Lib.hid hbb
        clear he hc1 hc2 hbb
        go_enter Tryd.func31, Tryd.ntmps31
        go_wp2_with (first
          | (at_builtin; refine wpList_append_own _ rfl (.tmp 69) (.tmp 71) 22 rfl (w.heap.size + 1) 5 i0 (.int .u8 0) 1 1 Tryd.underlying22 hi hz0 hz1 hz2 rfl (by decide) _ 1 _ rfl hln ad xs.length c (u8s xs) rfl hz hcs hp hn1 hn2' hsz ?_; intro v' w' ho' hg' _))
        have HK : Hid (Src w' v' ((xs.length : Int) :: xs) ∧ Below w.heap.size w w') := ⟨Src.of_own (B := w.heap.size + 1) (by rw [List.length_cons, Nat.add_comm xs.length 1]; exact ho'), HBB.out.grown hg' (by simp; omega) (fun g hg => Nat.le_of_succ_le (hln.lt g hg).1)⟩
        exact bodyPost_ret (v := .tuple #[v', .int .i64 0]) (by simp [results, Tryd.f31, go_sem]) rfl ⟨_, rfl, HK.out⟩
  by_cases h6 : k = 6
  · subst h6
    simp only [show ((6 : Int) = 1) = False by simp, show ((6 : Int) = 2) = False by simp, show ((6 : Int) = 3) = False by simp, show ((6 : Int) = 4) = False by simp, show ((6 : Int) = 5) = False by simp, if_false, if_true]
    go_enter Tryd.func31, Tryd.ntmps31
    go_wp2_with fail
    exact bodyPost_ret (v := .tuple #[.slice none 0 0, .int .i64 10]) (by simp [results, Tryd.f31, go_sem]) rfl ⟨_, rfl, .inl ⟨rfl, rfl⟩, HB.out⟩
  · simp only [h1, h2, h3, h4, h5, h6, if_false, if_true]
    go_enter Tryd.func31, Tryd.ntmps31
    go_wp2_with fail
    exact bodyPost_ret (v := .tuple #[.slice none 0 0, .int .i64 0]) (by simp [results, Tryd.f31, go_sem]) rfl ⟨_, rfl, .inl ⟨rfl, rfl⟩, HB.out⟩

end Go.Proofs.YtadonpfpneanhaaDoor
