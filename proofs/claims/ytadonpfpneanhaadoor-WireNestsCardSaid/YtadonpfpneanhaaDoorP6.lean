/- Lists of lists: reading. -/
import Derived.Test.YtadonpfpneanhaaDoorP5
import Derived.Test.YtadonpfpneanhaaDoorL8
namespace Go.Proofs.YtadonpfpneanhaaDoor
open Go.RowKit

theorem Tryd.info22 : (Tryd.prog.info? 22).map (fun i => (i.zero, i.size, i.bytes)) = some (some (.slice none 0 0), 1, 24) := by kernel_rfl
theorem own_base {w : World} {B B' n size : Nat} {e : TypeId} {v : Value} {xs : List Value} (h : w.ownsRow B e size v n xs) (hB : B' ≤ B) : w.ownsRow B' e size v n xs := by
  refine ⟨h.1, ?_⟩
  rcases h.2 with hh | ⟨g, cap, cur, rfl, hb0, rest⟩
  · exact .inl hh
  · exact .inr ⟨g, cap, cur, rfl, Nat.le_trans hB hb0, rest⟩

set_option maxHeartbeats 1000000 in
set_option maxRecDepth 100000 in
theorem rlist_any (A : List Addr) (w : World) (q : Nat) (sl : Value) (ys t : List Int) (hE : Eye A w q sl ⟨0, (ys.length : Int) :: (ys ++ t)⟩) (h8 : ∀ x ∈ ys, 0 ≤ x ∧ x < 256) (hl : ys.length ≤ 255) :
    Calls Tryd.prog 37 #[.pointer (some ⟨q, 0, none⟩)] w fun r w' => ∃ v sl', r = .returned v ∧ w'.ownsRow w.heap.size 5 1 v ys.length (u8s ys) ∧ Eye A w' q sl' ⟨0, t⟩ ∧ Upd q w noV w' noV := by
  have HN := Lib.hid (take_bytes 39 (.inr rfl) A w q sl ys t 255 hE h8 hl (by omega))
  clear hE h8
  go_enter Tryd.func37, Tryd.ntmps37
  go_wp2_with fail
  refine HN.out.mono ?_
  rintro r w1 ⟨v1, sl1, rfl, h1, h2, h3⟩
  have HK := Lib.hid (And.intro h1 (And.intro h2 h3))
  clear h1 h2 h3
  go_wp2_with fail
  go_ret
  exact ⟨_, sl1, rfl, HK.out⟩

/-- The lists that were taken. -/
structure Taken (w wr : World) (v : Value) (vals : List Value) (k : Nat) (x : Nat → List Int) : Prop where
  own : wr.ownsRow w.heap.size 22 1 v k vals
  each : ∀ i u, vals[i]? = some u → wr.ownsRow w.heap.size 5 1 u (x i).length (u8s (x i)) ∧ ∀ g, u.ownBlock = some g → v.ownBlock ≠ some g
theorem Taken.len {w wr : World} {v : Value} {vals : List Value} {k : Nat} {x : Nat → List Int} (h : Taken w wr v vals k x) : vals.length = k := by simpa using h.own.1

set_option maxHeartbeats 2000000 in
set_option maxRecDepth 100000 in
theorem take_lists (A : List Addr) (w : World) (q : Nat) (sl : Value) (n : Nat) (x : Nat → List Int) (hE : Eye A w q sl ⟨0, (n : Int) :: nestB x n⟩) (hn : n ≤ 40) (hx : ∀ i, i < n → (x i).length ≤ 200 ∧ ∀ y ∈ x i, 0 ≤ y ∧ y < 256) :
    Calls Tryd.prog 36 #[.pointer (some ⟨q, 0, none⟩), .int .i64 255, .func (.func 37) #[] #[]] w fun r w' => ∃ v vals sl', r = .returned v ∧ Taken w w' v vals n x ∧ Eye A w' q sl' ⟨0, []⟩ ∧ Upd q w noV w' noV := by
  obtain ⟨i0, hi, hz0, hz1, hz2⟩ := info_parts Tryd.info22
  have hn1 := rnum_eye A w q sl _ hE 1
  rw [(RS.one_back (x := n) (by omega) (by omega) (nestB x n)).1, (RS.one_back (x := n) (by omega) (by omega) (nestB x n)).2] at hn1
  have HN := Lib.hid hn1
  have HX := Lib.hid hx
  have HQ := Lib.hid hE.rd.lt
  clear hE hn1 hx
  go_enter Tryd.func36, Tryd.ntmps36
  go_wp2_with fail
  refine HN.out.mono ?_
  rintro r w1 ⟨rfl, sl1, hE1, hU1⟩
  have k0 := hE1.rd.c0
  simp only [errV_zero] at k0
  have HE1 := Lib.hid hE1
  have HU1 := Lib.hid hU1
  clear hE1 hU1
  go_wp2_with fail
  clear k0
  go_loopw [8, 9] (fun v i wr => ∃ (k : Nat) (t : List Int) (sl' : Value) (vals : List Value), k ≤ n ∧ i = .int .i64 k ∧ nestB x n = nestB x k ++ t ∧ Taken w wr v vals k x ∧ Eye A wr q sl' ⟨0, t⟩ ∧ Upd q w noV wr noV) (fun _ i _ => n - (intOf i).toNat)
  case atStart => exact ⟨0, nestB x n, sl1, [], Nat.zero_le _, rfl, rfl, ⟨World.ownsRow_nil _ _ _ _, fun i u h => by simp at h⟩, HE1.out, HU1.out⟩
  case round =>
    obtain ⟨k, t, sl', vals, hk, rfl, hsplit, hT, hE, hU⟩ := hrel
    obtain ⟨va, vl, vc, rfl⟩ := slice_of_own hT.own
    have k0 := hE.rd.c0
    simp only [errV_zero] at k0
    have HE := Lib.hid hE
    have HU := Lib.hid hU
    have HT := Lib.hid hT
    clear hE hU hT
    by_cases hlt : k < n
    · obtain ⟨t', rfl, hsplit'⟩ := nestB_next hlt hsplit
      have HONE := Lib.hid (rlist_any A wr q sl' (x k) t' HE.out (HX.out k hlt).2 (by have := (HX.out k hlt).1; omega))
      clear hsplit
      go_wp2_with fail
      refine HONE.out.mono ?_
      rintro r w2 ⟨v2, sl2, rfl, ho2, hE2, hU2⟩
      obtain ⟨ua, ul, uc, rfl⟩ := slice_of_own ho2
      have hno : ∀ k : Nat, some k ≠ noV.ownBlock := fun k => by simp [Value.ownBlock]
      have hwr := HU.out.size
      have hT2 : w2.ownsRow w.heap.size 22 1 (.slice va vl vc) k vals := own_keep HT.out.own (fun g hg => hU2.same g (HT.out.own.lt g hg).2 (by have := (HT.out.own.lt g hg).1; have := HQ.out; omega) (hno g))
      have hold : ∀ i u, vals[i]? = some u → w2.ownsRow w.heap.size 5 1 u (x i).length (u8s (x i)) := fun i u hu => own_keep (HT.out.each i u hu).1 (fun g hg => hU2.same g ((HT.out.each i u hu).1.lt g hg).2 (by have := ((HT.out.each i u hu).1.lt g hg).1; have := HQ.out; omega) (hno g))
      have HT2 := Lib.hid (And.intro hT2 (And.intro hold (own_base ho2 hwr)))
      have HNW : Hid (∀ g, Value.ownBlock (.slice ua ul uc) = some g → wr.heap.size ≤ g) := fun g hg => (ho2.lt g hg).1
      have HU2 := Lib.hid (HU.out.trans hU2)
      have HE2 := Lib.hid hE2
      have hown3 := hT2.alloc (.cells #[.slice ua ul uc] 22)
      have hl1 : k + 1 ≤ maxLen := by unfold maxLen; omega
      have hl2 : (k + 1) * 24 ≤ 140737488355328 := by omega
      clear hE2 hU2 hT2 hold ho2 k0
      go_wp2_with (first
        | (at_builtin; refine wpList_append_own_at _ rfl (.tmp 41) (.tmp 45) 59 rfl w.heap.size 22 i0 (.slice none 0 0) 1 24 Tryd.underlying59 hi hz0 hz1 hz2 rfl (by decide) _ k vals rfl hown3 ⟨w2.heap.size, 0, none⟩ 1 1 [.slice ua ul uc] rfl rfl (cell_one_new _ _ _) (by simp [Value.oneCell']) hl1 hl2 (by have := HU2.out.size; simp; omega) ?_; intro v' w3 hown' hgrow _ hat))
      have HR : Hid (Taken w w3 v' (vals ++ [.slice ua ul uc]) (k + 1) x) := by
        refine ⟨hown', fun i u hu => ?_⟩
        have hlen := HT.out.len
        by_cases hik : i < k
        · rw [List.getElem?_append_left (by omega)] at hu
          have h1 := HT2.out.2.1 i u hu
          have h2 := (HT.out.each i u hu).2
          refine ⟨own_keep h1 (fun g hg => (hgrow.block g (by have := (h1.lt g hg).2; simp; omega) (fun e => h2 g hg e.symm)).trans ((belowN w2 _).block g (h1.lt g hg).2)), fun g hg => ?_⟩
          rcases hat with h3 | h3
          · rw [h3]; exact h2 g hg
          · rw [h3]
            intro e
            have := Option.some.inj e
            have := (h1.lt g hg).2
            simp at *
            omega
        · have hie : i = k := by
            have := (List.getElem?_eq_some_iff.1 hu).1
            simp at this
            omega
          subst hie
          rw [List.getElem?_append_right (by omega), hlen, Nat.sub_self] at hu
          obtain rfl := Option.some.inj hu
          have h1 := HT2.out.2.2
          have h2 : ∀ g, Value.ownBlock (.slice ua ul uc) = some g → Value.ownBlock (.slice va vl vc) ≠ some g := fun g hg e => by
            have := HNW.out g hg
            have := (HT.out.own.lt g e).2
            omega
          refine ⟨own_keep h1 (fun g hg => (hgrow.block g (by have := (h1.lt g hg).2; simp; omega) (fun e => h2 g hg e.symm)).trans ((belowN w2 _).block g (h1.lt g hg).2)), fun g hg => ?_⟩
          rcases hat with h3 | h3
          · rw [h3]; exact h2 g hg
          · rw [h3]
            intro e
            have := Option.some.inj e
            have := (h1.lt g hg).2
            simp at *
            omega
      have HR2 : Hid (Eye A w3 q sl2 ⟨0, t'⟩ ∧ Upd q w noV w3 noV) := ⟨(HE2.out.later (belowN _ _)).grown hgrow (fun g hg => by have := (HT.out.own.lt g hg).1; have := HQ.out; omega), (HU2.out.trans (Upd.of_below (belowN _ _))).grown hgrow (fun g hg => (HT.out.own.lt g hg).1)⟩
      clear hown' hgrow hown3 hat
      go_roundw
      case rel => exact ⟨k + 1, t', sl2, _, by omega, by go_num, hsplit', HR.out, HR2.out⟩
      case measure => simp [intOf]; omega
    · have hke : k = n := by omega
      subst hke
      obtain rfl : t = [] := by simpa using hsplit
      go_wp2_with fail
      go_ret
      exact ⟨_, vals, sl', rfl, HT.out, HE.out, HU.out⟩

set_option maxHeartbeats 2000000 in
set_option maxRecDepth 100000 in
/-- Two slices of the same lists are the same. -/
theorem same_lists (w : World) (a1 a2 : Option Addr) (n c1 c2 : Nat) (s1 s2 : Nat → Value) (x : Nat → List Int) (hn : n ≤ 40)
    (h1 : ∀ i, i < n → ∃ ad, a1 = some ad ∧ w.cell? (ad.add i) = some (s1 i) ∧ Src w (s1 i) (x i)) (h2 : ∀ i, i < n → ∃ ad, a2 = some ad ∧ w.cell? (ad.add i) = some (s2 i) ∧ Src w (s2 i) (x i)) :
    Calls Tryd.prog 41 #[.slice a1 n c1, .slice a2 n c2] w fun r w' => r = .returned (.bool true) ∧ Below w.heap.size w w' := by
  have H1 := Lib.hid h1
  have H2 := Lib.hid h2
  have hn' : (n : Int) ≤ 40 := by omega
  clear h1 h2
  go_enter Tryd.func41, Tryd.ntmps41
  go_wp2_with fail
  go_loopw [13] (fun i wr => ∃ k : Nat, k ≤ n ∧ i = .int .i64 k ∧ Below w.heap.size w wr) (fun i _ => n - (intOf i).toNat)
  case atStart => exact ⟨0, Nat.zero_le _, rfl, Below.refl _ _⟩
  case round =>
    obtain ⟨k, hk, rfl, hbb⟩ := hrel
    have HBB := Lib.hid hbb
    by_cases hlt : k < n
    · obtain ⟨ad1, rfl, k1, hs1⟩ := H1.out k hlt
      obtain ⟨ad2, rfl, k2, hs2⟩ := H2.out k hlt
      have e1 := ((hbb.drew).cell (World.block_lt_of_cell? w _ k1)).trans k1
      have e2 := ((hbb.drew).cell (World.block_lt_of_cell? w _ k2)).trans k2
      have hs1' := hs1.below hbb.drew
      have hs2' := hs2.below hbb.drew
      obtain ⟨b1, d1, hq1⟩ := hs1.len
      obtain ⟨b2, d2, hq2⟩ := hs2.len
      rw [hq1] at e1 hs1'
      rw [hq2] at e2 hs2'
      have f1 := str_src hs1'
      have f2 := str_src hs2'
      generalize (x k).length = L at *
      generalize strOfNums (x k) = S at *
      clear k1 k2 hs1 hs2 hs1' hs2' hq1 hq2 hbb
      go_wp2_with fail
      refine regionC (fun w' => w' = wr.drew) (by kernel_rfl) (by kernel_rfl) rfl ?_
      iterate 11 (
        refine wpQuiet_step (fun K hK => ?_)
        rw [if_pos (by rfl)]
        apply Exists.intro
        refine ⟨fun w hw => ?_, hK _ ?_⟩
        case refine_1 =>
          subst hw
          unfold Oper.quietAt
          go_simp
          first | done | exact (⟨rfl, rfl⟩ : _ ∧ _) | (with_reducible rfl)
        clear hK K
        simp only [Act.put, List.setIfInBounds_toArray, List.set_cons_zero, List.set_cons_succ])
      refine wpQuiet_nil ?_
      rintro w' rfl
      go_wp2_with fail
      go_roundw
      case rel => exact ⟨k + 1, by omega, by go_num, HBB.out.drew⟩
      case measure => simp [intOf]; omega
    · go_wp2_with fail
      go_ret
      exact ⟨rfl, HBB.out⟩

end Go.Proofs.YtadonpfpneanhaaDoor
