/- The walk of WireForth: numbers that are read are written as the same bytes. -/
import Derived.Test.YtadonpfpneanhaaDoorL7
import Derived.Deep.Quiet
namespace Go.Proofs.YtadonpfpneanhaaDoor
open Go.RowKit

/-- A region that draws, walked once over a class of worlds; its operations written out. -/
theorem regionC {P : Program} {id : Nat} {Q : Exit → Act → World → Prop} {a : Act} {w : World} {l : List Oper} (C : World → Prop) (hm : P.follows .mixedOrders = true) (hB : Region.lexB .any l.toArray = true) (hC : C w.drew)
    (h : wpQuiet P l.toArray C (fun a' => ∀ w', C w' → Q .normal a' w') l a) : (Code.region id l.toArray true).wp P Q a w :=
  wp_region_quiet (C := C) hm hB hC (by simpa using h)

set_option maxHeartbeats 1000000 in
set_option maxRecDepth 100000 in
theorem wireForth_long (A : List Addr) (w : World) (h : Ers A w) (a b : Option Addr) (n c n2 c2 : Nat) (hn : (n : Int) ≤ 9223372036854775807) (hn2 : (n2 : Int) ≤ 9223372036854775807) (hl : 500 < n ∨ (n ≤ 500 ∧ 60 < n2)) :
    Calls Tryd.prog 3 #[.slice a n c, .slice b n2 c2] w fun e w' => e = .returned (.bool true) ∧ Below w.heap.size w w' := by
  rcases hl with hl | ⟨hl, hl2⟩
  all_goals
    go_enter Tryd.func3, Tryd.ntmps3
    go_wp2_with fail
    refine (alive01 A w h).mono ?_
    rintro e w1 ⟨rfl, b1⟩
    go_wp2_with fail
    go_ret
    exact ⟨rfl, b1⟩

/-- The loop's memory: so many bytes read and written. -/
structure Forth (A : List Addr) (w wr : World) (p q B : Nat) (xs : List Int) (m : Nat) (v sl : Value) : Prop where
  hwr : Wr wr p .nilIface v (xs.take m)
  hrd : Rd wr q .nilIface sl (xs.drop m)
  own : ∀ g, v.ownBlock = some g → B ≤ g
  bb : Below w.heap.size w wr
  le : m ≤ xs.length

set_option maxHeartbeats 4000000 in
set_option maxRecDepth 100000 in
theorem wireForth_good (A : List Addr) (w : World) (h : Ers A w) (a b : Option Addr) (c n2 c2 : Nat) (xs zs : List Int) (hx : RowAt .u8 w a xs.length c xs) (hz : RowAt .i64 w b n2 c2 zs) (hl : xs.length ≤ 500) (hl2 : n2 ≤ 60) :
    Calls Tryd.prog 3 #[.slice a xs.length c, .slice b n2 c2] w fun e w' => e = .returned (.bool true) ∧ Below w.heap.size w w' := by
  have HB : Hid (∀ W', Below w.heap.size w W' → Ers A W') := fun W' hW => h.later hW
  have HX := Lib.hid hx
  have HZ := Lib.hid hz
  have hzl : zs.length = n2 := hz.2.2.1
  clear hx hz
  go_enter Tryd.func3, Tryd.ntmps3
  go_wp2_with fail
  refine (alive01 A w h).mono ?_
  rintro e w1 ⟨rfl, b1⟩
  clear h
  have hnr := new_reader w1 (.slice a xs.length c) xs (HX.out.src.below b1) HX.out.by8 (by omega)
  have HNR := Lib.hid hnr
  have B1 := Lib.hid b1
  clear hnr b1
  go_wp2_with fail
  refine HNR.out.mono ?_
  rintro e w2 ⟨q, sl, rfl, hq, hR, hb2⟩
  have B2 := Lib.hid (belowT B1.out hb2 (Nat.le_refl _))
  have hwr := Wr.new w2
  have hb3 := belowN w2 (.cells #[.nilIface, .slice none 0 0] 92)
  have hR3 := hR.later hb3
  have hqB := hR.lt
  clear hb2
  go_wp2_with fail
  refine (new_writer _).mono ?_
  rintro e w3 ⟨rfl, rfl⟩
  have hF0 : Forth A w (w2.alloc (.cells #[.nilIface, .slice none 0 0] 92)) w2.heap.size q w2.heap.size xs 0 noV sl :=
    ⟨hwr, hR3, fun g hg => by simp [Value.ownBlock] at hg, belowT B2.out hb3 (Nat.le_refl _), Nat.zero_le _⟩
  have hpB : w.heap.size ≤ w2.heap.size := B2.out.size
  have hqW : w.heap.size ≤ q := Nat.le_trans B1.out.size hq
  generalize w2.alloc (.cells #[.nilIface, .slice none 0 0] 92) = W3 at hF0 ⊢
  generalize w2.heap.size = p at *
  clear hwr hb3 hR3 hR B2 B1 HNR hq
  go_wp2_with fail
  go_loopw [7, 28] (fun nv i wr => ∃ (k m : Nat) (v sl : Value), k ≤ n2 ∧ i = .int .i64 k ∧ nv = .int .i64 m ∧ Forth A w wr p q p xs m v sl) (fun _ i _ => n2 - (intOf i).toNat)
  case atStart => exact ⟨0, 0, noV, sl, Nat.zero_le _, rfl, rfl, hF0⟩
  case round =>
    obtain ⟨k, m, v, sl', hk, rfl, rfl, hF⟩ := hrel
    have hm := hF.le
    have HF := Lib.hid hF
    have HS := Lib.hid (HB.out _ hF.bb)
    clear hF
    by_cases hlt : k < n2
    · obtain ⟨ad, rfl, hc⟩ := HZ.out.at (j := k) (by omega)
      have hc2 := (HF.out.bb.cell (World.block_lt_of_cell? w _ hc)).trans hc
      generalize zs[k] = x at *
      clear hc
      have HN := Lib.hid (rnum_any A wr HS.out q sl' ⟨0, xs.drop m⟩ HF.out.hrd (by rw [List.length_drop]; omega) x)
      go_wp2_with fail
      refine HN.out.mono ?_
      rintro r w4 ⟨rfl, sl2, hR2, hU2⟩
      have hvq : ∀ g, v.ownBlock = some g → g ≠ q := fun g hg => by have := HF.out.own g hg; omega
      have hW4 := HF.out.hwr.far hU2 (by omega) hvq
      obtain ⟨hb4, -⟩ := hU2.below (B := w.heap.size) hqW HF.out.bb.size (fun g hg => by simp [Value.ownBlock] at hg)
      have HER := Lib.hid (err_any w4 q _ hR2.c0 (errV_form A _))
      have HU2 := Lib.hid hU2
      have HR2 := Lib.hid hR2
      have HW := Lib.hid hW4
      have HBW := Lib.hid (HF.out.bb.trans hb4)
      clear hU2 hR2 hW4 hb4 hc2 HN
      go_wp2_with fail
      refine HER.out.mono ?_
      rintro r w5 ⟨rfl, rfl⟩
      by_cases hsc : (RS.number ⟨0, xs.drop m⟩ x).c = 0
      · obtain ⟨o1, o2, o3, o4, o5⟩ := number_ok hsc
        have HR4 := HR2.out
        rw [hsc, o4] at HR4
        rw [o5, hsc, errV_zero]
        rw [List.length_drop] at o3
        have hyl : ((xs.drop m).take x.toNat).length = x.toNat := by rw [List.length_take, List.length_drop]; omega
        have hyb : ∀ y ∈ (xs.drop m).take x.toNat, 0 ≤ y ∧ y < 256 := fun y hy => HX.out.by8 y (List.mem_of_mem_drop (List.mem_of_mem_take hy))
        have hnb := not_bad_back hyb (by omega) (by omega)
        have hbk := be_back _ hyb
        rw [hyl, Int.toNat_of_nonneg (by omega)] at hnb hbk
        have hnum := number_any A w5 (HB.out _ HBW.out) p v ⟨0, xs.take m⟩ HW.out (by simp only [List.length_take]; omega) (beVal ((xs.drop m).take x.toNat)) x
        rw [show WS.number ⟨0, xs.take m⟩ (beVal ((xs.drop m).take x.toNat)) x = ⟨0, xs.take (m + x.toNat)⟩ by
          unfold WS.number
          rw [if_neg hnb, hbk]
          unfold WS.fixed
          rw [if_pos rfl, List.take_add]] at hnum
        have HNUM := Lib.hid hnum
        have HR5 := Lib.hid HR4
        generalize beVal ((xs.drop m).take x.toNat) = V at *
        have HO := Lib.hid (And.intro o1 (And.intro o2 o3))
        clear hnum HR4 hnb hbk hyb hyl o1 o2 o3 o4 o5 hsc HER HR2
        go_wp2_with fail
        refine HNUM.out.mono ?_
        rintro r w6 ⟨rfl, v', hW6, hU6⟩
        obtain ⟨hb6, ho6⟩ := hU6.below (B := p) (Nat.le_refl _) (by have := HW.out.lt; omega) HF.out.own
        have hR6 := HR5.out.far hU6 hqB (Nat.le_refl _) HF.out.own
        obtain ⟨q1, q2, q3⟩ := HO.out
        have HFN : Hid (Forth A w w6 p q p xs (m + x.toNat) v' sl2) := ⟨hW6, by rw [← List.drop_drop]; exact hR6, ho6, HBW.out.trans (hb6.mono hpB), by omega⟩
        clear hW6 hU6 hb6 ho6 hR6 hvq
        have hxw : (m : Int) + x ≤ 1000 := by omega
        go_wp2_with fail
        go_roundw
        case rel => first
          | exact ⟨k + 1, m + x.toNat, v', sl2, by omega, by go_num, by congr 1; omega, HFN.out⟩
          | ((repeat apply Exists.intro); exact ⟨⟨k + 1, m + x.toNat, v', sl2, by omega, by go_num, by congr 1; omega, HFN.out⟩, rfl⟩)
        case measure => simp [intOf]; omega
      · obtain ⟨u, hu⟩ := errV_pos A hsc
        rw [hu]
        clear hsc hu HER HR2 HU2 hvq
        generalize hWW : w5 = W at *
        clear hWW
        have HD := Lib.hid (done_ok W p v (xs.take m) HW.out (by rw [List.length_take]; omega))
        have HmL := Lib.hid hm
        go_wp2_with fail
        refine HD.out.mono ?_
        rintro r w6 ⟨v2, rfl, ho, hb6⟩
        have HE := Lib.hid (belowT HBW.out hb6 (Nat.le_refl _))
        have hs1 := str_src ((Src.of_own ho).below ((Below.refl _ w6).drew))
        have hxs := HX.out.src.below (HE.out.drew)
        have hmle : (m : Int) ≤ xs.length := by have := HmL.out; omega
        have hmn : 0 ≤ (m : Int) := Int.natCast_nonneg m
        clear ho hb6
        rcases hxs with ⟨he, hnil⟩ | ⟨ad2, c3, he, hc1, hc2, hcs⟩
        · obtain ⟨rfl, hlen0, rfl⟩ : a = none ∧ xs.length = 0 ∧ c = 0 := by injection he with e1 e2 e3; exact ⟨e1, e2, e3⟩
          obtain rfl : m = 0 := by have := HmL.out; omega
          have hs2 : (convert 22 9 (.slice none 0 0)).run Tryd.prog w6.drew = .ok (.string (strOfNums (xs.take 0))) w6.drew := str_src (.inl ⟨rfl, rfl⟩)
          clear hmle hmn hm
          go_wp2_with fail
          refine regionC (fun w' => w' = w6.drew) (by kernel_rfl) (by kernel_rfl) rfl ?_
          iterate 18 (
            refine wpQuiet_step (fun K hK => ?_)
            first
              | (rw [if_pos (by rfl)]
                 apply Exists.intro
                 refine ⟨fun w hw => ?_, hK _ ?_⟩
                 case refine_1 =>
                   subst hw
                   unfold Oper.quietAt
                   go_simp
                   first | done | exact (⟨rfl, rfl⟩ : _ ∧ _) | (with_reducible rfl))
              | (rw [if_neg (by exact ne_true_of_eq_false rfl)]
                 refine hK _ ?_)
            clear hK K
            simp only [Act.put, List.setIfInBounds_toArray, List.set_cons_zero, List.set_cons_succ])
          refine wpQuiet_nil ?_
          rintro w' rfl
          go_wp2_with fail
          go_ret
          exact ⟨by simp, HE.out.drew⟩
        · obtain rfl : a = some ad2 := by injection he
          obtain rfl : c = c3 := by injection he
          have hs2 := str_src (Src.take (n := m) (.inr ⟨ad2, c, rfl, hc1, hc2, hcs⟩) HmL.out)
          have hmc : m ≤ c := by have := HmL.out; omega
          have hmc2 : (m : Int) ≤ c := by omega
          clear hcs he hm
          go_wp2_with fail
          refine regionC (fun w' => w' = w6.drew) (by kernel_rfl) (by kernel_rfl) rfl ?_
          iterate 18 (
            refine wpQuiet_step (fun K hK => ?_)
            first
              | (rw [if_pos (by rfl)]
                 apply Exists.intro
                 refine ⟨fun w hw => ?_, hK _ ?_⟩
                 case refine_1 =>
                   subst hw
                   unfold Oper.quietAt
                   go_simp
                   first | done | exact (⟨rfl, rfl⟩ : _ ∧ _) | (with_reducible rfl))
              | (rw [if_neg (by exact ne_true_of_eq_false rfl)]
                 refine hK _ ?_)
            clear hK K
            simp only [Act.put, List.setIfInBounds_toArray, List.set_cons_zero, List.set_cons_succ])
          refine wpQuiet_nil ?_
          rintro w' rfl
          go_wp2_with fail
          go_ret
          exact ⟨by simp, HE.out.drew⟩
    · have HW := Lib.hid HF.out.hwr
      have HBW := Lib.hid HF.out.bb
      have hkn : k = n2 := by omega
      subst hkn
      generalize hWW : wr = W at *
      clear hWW
      have HD := Lib.hid (done_ok W p v (xs.take m) HW.out (by rw [List.length_take]; omega))
      have HmL := Lib.hid hm
      go_wp2_with fail
      refine HD.out.mono ?_
      rintro r w6 ⟨v2, rfl, ho, hb6⟩
      have HE := Lib.hid (belowT HBW.out hb6 (Nat.le_refl _))
      have hs1 := str_src ((Src.of_own ho).below ((Below.refl _ w6).drew))
      have hxs := HX.out.src.below (HE.out.drew)
      have hmle : (m : Int) ≤ xs.length := by have := HmL.out; omega
      have hmn : 0 ≤ (m : Int) := Int.natCast_nonneg m
      clear ho hb6
      rcases hxs with ⟨he, hnil⟩ | ⟨ad2, c3, he, hc1, hc2, hcs⟩
      · obtain ⟨rfl, hlen0, rfl⟩ : a = none ∧ xs.length = 0 ∧ c = 0 := by injection he with e1 e2 e3; exact ⟨e1, e2, e3⟩
        obtain rfl : m = 0 := by have := HmL.out; omega
        have hs2 : (convert 22 9 (.slice none 0 0)).run Tryd.prog w6.drew = .ok (.string (strOfNums (xs.take 0))) w6.drew := str_src (.inl ⟨rfl, rfl⟩)
        clear hmle hmn hm
        go_wp2_with fail
        refine regionC (fun w' => w' = w6.drew) (by kernel_rfl) (by kernel_rfl) rfl ?_
        iterate 18 (
          refine wpQuiet_step (fun K hK => ?_)
          first
            | (rw [if_pos (by rfl)]
               apply Exists.intro
               refine ⟨fun w hw => ?_, hK _ ?_⟩
               case refine_1 =>
                 subst hw
                 unfold Oper.quietAt
                 go_simp
                 first | done | exact (⟨rfl, rfl⟩ : _ ∧ _) | (with_reducible rfl))
            | (rw [if_neg (by exact ne_true_of_eq_false rfl)]
               refine hK _ ?_)
          clear hK K
          simp only [Act.put, List.setIfInBounds_toArray, List.set_cons_zero, List.set_cons_succ])
        refine wpQuiet_nil ?_
        rintro w' rfl
        go_wp2_with fail
        go_ret
        exact ⟨by simp, HE.out.drew⟩
      · obtain rfl : a = some ad2 := by injection he
        obtain rfl : c = c3 := by injection he
        have hs2 := str_src (Src.take (n := m) (.inr ⟨ad2, c, rfl, hc1, hc2, hcs⟩) HmL.out)
        have hmc : m ≤ c := by have := HmL.out; omega
        have hmc2 : (m : Int) ≤ c := by omega
        clear hcs he hm
        go_wp2_with fail
        refine regionC (fun w' => w' = w6.drew) (by kernel_rfl) (by kernel_rfl) rfl ?_
        iterate 18 (
          refine wpQuiet_step (fun K hK => ?_)
          first
            | (rw [if_pos (by rfl)]
               apply Exists.intro
               refine ⟨fun w hw => ?_, hK _ ?_⟩
               case refine_1 =>
                 subst hw
                 unfold Oper.quietAt
                 go_simp
                 first | done | exact (⟨rfl, rfl⟩ : _ ∧ _) | (with_reducible rfl))
            | (rw [if_neg (by exact ne_true_of_eq_false rfl)]
               refine hK _ ?_)
          clear hK K
          simp only [Act.put, List.setIfInBounds_toArray, List.set_cons_zero, List.set_cons_succ])
        refine wpQuiet_nil ?_
        rintro w' rfl
        go_wp2_with fail
        go_ret
        exact ⟨by simp, HE.out.drew⟩

theorem wireForth_law (A : List Addr) (w : World) (h : Ers A w) (a : Option Addr) (n c : Nat) (xs : List Int) (hx : RowAt .u8 w a n c xs) (b : Option Addr) (n2 c2 : Nat) (zs : List Int) (hz : RowAt .i64 w b n2 c2 zs) :
    Calls Tryd.prog 3 #[.slice a n c, .slice b n2 c2] w fun e w' => e = .returned (.bool true) ∧ Below w.heap.size w w' := by
  have h1 := hx.1
  have h2 := hx.2.1
  have h3 := hz.1
  have h4 := hz.2.1
  unfold maxLen at h2 h4
  by_cases hl : n ≤ 500 ∧ n2 ≤ 60
  · obtain rfl := hx.2.2.1
    exact wireForth_good A w h a b c n2 c2 xs zs hx hz hl.1 hl.2
  · exact wireForth_long A w h a b n c n2 c2 (by omega) (by omega) (by omega)

end Go.Proofs.YtadonpfpneanhaaDoor
