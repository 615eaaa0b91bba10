/- The document's reader: bytes, and bytes with their number. -/
import Derived.Test.YtadonpfpneanhaaDoorM4
import Derived.Test.YtadonpfpneanhaaDoorO8
import Derived.IntWalk
namespace Go.Proofs.YtadonpfpneanhaaDoor
open Go.RowKit

theorem MrAt.below {w w' : World} {m : Nat} {b : Value} {B : List Int} {k : Nat} (h : MrAt w m b B k) (hb : Below w.heap.size w w') : MrAt w' m b B k :=
  ⟨(hb.block m (Array.getElem?_eq_some_iff.1 h.blk).1).trans h.blk, h.src.below hb, h.ap⟩
theorem MrAt.lt {w : World} {m : Nat} {b : Value} {B : List Int} {k : Nat} (h : MrAt w m b B k) : m < w.heap.size := (Array.getElem?_eq_some_iff.1 h.blk).1
theorem MrAt.c1 {w : World} {m : Nat} {b : Value} {B : List Int} {k : Nat} (h : MrAt w m b B k) : w.cell? ⟨m, 1, none⟩ = some (.int .i64 (k : Int)) := cell_of_blk h.blk 1
theorem MrAt.f1 {w : World} {m : Nat} {b : Value} {B : List Int} {k : Nat} (h : MrAt w m b B k) : w.frozen? ⟨m, 1, none⟩ = false := by simp [World.frozen?, h.blk]
/-- The bytes from a place on, at a later world. -/
theorem MrAt.part {w w' : World} {m : Nat} {ad : Addr} {c : Nat} {B : List Int} {k : Nat} (h : MrAt w m (.slice (some ad) B.length c) B k) (hb : Below w.heap.size w w') (n : Nat) :
    ∀ j u, (u8s ((B.drop k).take n))[j]? = some u → w'.cell? ((ad.add k).add j) = some u := by
  intro j u hj
  obtain ⟨_, _, _⟩ := h
  rename_i _ hsr _
  have hsr := hsr.below hb
  rcases hsr with ⟨hx, _⟩ | ⟨ad', c', he, h1, h2, h3⟩
  · cases hx
  · cases he
    have hj2 : j < n ∧ (u8s B)[k + j]? = some u := by
      unfold u8s at hj ⊢
      rw [List.map_take, List.map_drop, List.getElem?_take] at hj
      split at hj
      · rw [List.getElem?_drop] at hj
        exact ⟨by assumption, hj⟩
      · cases hj
    have h0 : ∃ u0, (u8s B)[0]? = some u0 := by
      have hl := (List.getElem?_eq_some_iff.1 hj2.2).1
      exact ⟨_, List.getElem?_eq_getElem (by omega)⟩
    obtain ⟨u0, hu0⟩ := h0
    have hc0 := h3 0 u0 hu0
    rw [show ad.add 0 = ad from if_pos rfl] at hc0
    rw [add_add _ (World.cell?_spot hc0)]
    exact h3 _ _ hj2.2
theorem fixed_after {w w2 w' : World} {m : Nat} {b v' : Value} {B ys : List Int} {k n : Nat} {r : Option Nat} (hA : MrAt w m b B k) (h2 : Below w.heap.size w w2) (hg : w2.grownBy w' r) (hr : ∀ g, r = some g → w.heap.size ≤ g) (ho : w'.ownsRow w.heap.size 5 1 v' ys.length (u8s ys)) (hk : k + n ≤ B.length) (h8 : ∀ x ∈ B, 0 ≤ x ∧ x < 256) (hb : B.length ≤ 140737488355328) :
    (MrAt w' m b B k) ∧ ((w'.setCell ⟨m, 1, none⟩ (.int .i64 ((k : Int) + n))).ownsRow w.heap.size 5 1 v' ys.length (u8s ys) ∧ Mr (w'.setCell ⟨m, 1, none⟩ (.int .i64 ((k : Int) + n))) m b B ⟨0, B.drop (k + n)⟩ ∧ Upd m w noV (w'.setCell ⟨m, 1, none⟩ (.int .i64 ((k : Int) + n))) noV) := by
  have hB : Below w.heap.size w w' := h2.grown hg h2.size hr
  have hA' := hA.below hB
  refine ⟨hA', ?_, ?_, (Upd.of_below hB).trans (Upd.setm _ _ _ _)⟩
  · refine own_keep ho (fun g hg => Below.heap_setCell _ _ _ _ (fun e => ?_))
    have h1 := (ho.lt g hg).1
    have h3 := hA.lt
    simp only at e
    omega
  · have := (hA'.step (k + n)).mr hk h8 hb
    rwa [show (((k + n : Nat)) : Int) = (k : Int) + n by omega] at this

set_option maxHeartbeats 4000000 in
set_option maxRecDepth 100000 in
theorem mfixed_some (w : World) (m : Nat) (ad : Addr) (c : Nat) (B : List Int) (k n : Nat) (h : MrAt w m (.slice (some ad) B.length c) B k) (hkn : k + n ≤ B.length) (h8 : ∀ x ∈ B, 0 ≤ x ∧ x < 256) (hb : B.length ≤ 140737488355328) (hlc : B.length ≤ c) (hcm : c ≤ 9223372036854775807) (hck : ¬ c = k) :
    Calls Tryd.prog 81 #[.pointer (some ⟨m, 0, none⟩), .int .i64 (n : Int)] w fun r w' => ∃ out, r = .returned out ∧ w'.ownsRow w.heap.size 5 1 out ((B.drop k).take n).length (u8s ((B.drop k).take n)) ∧ Mr w' m (.slice (some ad) B.length c) B ⟨0, B.drop (k + n)⟩ ∧ Upd m w noV w' noV := by
  obtain ⟨i0, hi, hz0, hz1, hz2⟩ := info_parts Tryd.info5
  have HL := Lib.hid (mleft_any w m _ B ⟨0, B.drop k⟩ (h.mr (by omega) h8 hb) rfl)
  have H8 := Lib.hid h8
  have HA := Lib.hid h
  have k0 := cell_of_blk h.blk 0
  have k1 := cell_of_blk h.blk 1
  have k2 := cell_of_blk h.blk 2
  replace k0 : w.cell? ⟨m, 0, none⟩ = some (.slice (some ad) B.length c) := k0
  replace k1 : w.cell? ⟨m, 1, none⟩ = some (.int .i64 (k : Int)) := k1
  replace k2 : w.cell? ⟨m, 2, none⟩ = some (.int .i64 0) := k2
  have hnl : ¬ ((B.drop k).length : Int) < n := by rw [List.length_drop]; omega
  have hlt := (Array.getElem?_eq_some_iff.1 h.blk).1
  have hckl : k < c := by omega
  clear h h8
  go_enter Tryd.func81, Tryd.ntmps81
  go_wp2_with fail
  refine HL.out.mono ?_
  rintro r w1 ⟨rfl, n1, rfl⟩
  go_wp2_with fail
  have q0 : ((w.drewN (n1 + 1)).alloc (.cells #[] 5)).cell? ⟨m, 0, none⟩ = some (.slice (some ad) B.length c) := by rw [← k0]; exact (belowN (w.drewN (n1 + 1)) _).cell (p := ⟨m, 0, none⟩) hlt
  have q1 : ((w.drewN (n1 + 1)).alloc (.cells #[] 5)).cell? ⟨m, 1, none⟩ = some (.int .i64 (k : Int)) := by rw [← k1]; exact (belowN (w.drewN (n1 + 1)) _).cell (p := ⟨m, 1, none⟩) hlt
  have hu : ((w.drewN (n1 + 1)).alloc (.cells #[] 5)).ownsRow w.heap.size 5 1 (.slice (some ⟨w.heap.size, 0, none⟩) 0 0) 0 [] := World.ownsRow_lit (w.drewN (n1 + 1)) #[] 0 (Nat.le_refl _) (Nat.zero_le _) rfl
  have HBL : Hid (Below w.heap.size w ((w.drewN (n1 + 1)).alloc (.cells #[] 5))) := (below_drewN_self w.heap.size w (n1 + 1)).trans (belowN (w.drewN (n1 + 1)) _)
  have hcs := HA.out.part HBL.out n
  have hnw : (u8s ((B.drop k).take n)).length = n * 1 := by simp; omega
  have HNW : Hid (((B.drop k).take n).length = 0 + n) := by show _ = _; rw [List.length_take, List.length_drop]; omega
  have hone := u8s_oneCell ((B.drop k).take n)
  have b1 : 0 + n ≤ maxLen := by unfold maxLen; omega
  have b2 : (0 + n) * 1 ≤ 140737488355328 := by omega
  have b3 : w.heap.size ≤ ((w.drewN (n1 + 1)).alloc (.cells #[] 5)).heap.size := by simp
  have s1 : IntKind.i64.wrap ((k : Int) + n) = (k : Int) + n := IntWalk.i64_in _ (by omega)
  have s2 : 0 ≤ (k : Int) + n := by omega
  have s3 : (k : Int) + n ≤ c := by omega
  have s4 : ((k : Int) + n).toNat = k + n := by omega
  have s5 : k ≤ k + n := by omega
  go_region_law (first
    | (refine step_own rfl (.tmp 28) (.tmp 43) 22 rfl w.heap.size 5 i0 (.int .u8 0) 1 1 Tryd.underlying22 hi hz0 hz1 hz2 rfl (by decide) _ 0 [] (by simp [Act.eval, Act.put]) hu (ad.add k) n (c - k) (u8s ((B.drop k).take n)) (by simp [Act.eval, Act.put]) hnw hcs hone b1 b2 b3 ?_; intro v' w' ho' hg'))
  all_goals
    rw [← HNW.out, List.nil_append] at ho'
    have HO := Lib.hid ho'
    clear ho' hcs hnw hone b1 b2 b3 s1 s2 s4 s5
  all_goals
    have HF := Lib.hid (fixed_after (n := n) HA.out HBL.out hg' (fun g hg => Nat.le_of_eq (Option.some.inj hg)) HO.out hkn H8.out hb)
    have j1 := HF.out.1.c1
    have jf := HF.out.1.f1
    clear hg' hu q0 q1 k0 k1 k2
    go_wp2_with fail
    exact bodyPost_ret (v := v') (by simp [results, Tryd.f81, go_sem]) rfl ⟨_, rfl, HF.out.2⟩

set_option maxHeartbeats 4000000 in
set_option maxRecDepth 100000 in
theorem mfixed_full (w : World) (m : Nat) (ad : Addr) (B : List Int) (k : Nat) (h : MrAt w m (.slice (some ad) B.length k) B k) (h8 : ∀ x ∈ B, 0 ≤ x ∧ x < 256) (hb : B.length ≤ 140737488355328) (hlc : B.length = k) :
    Calls Tryd.prog 81 #[.pointer (some ⟨m, 0, none⟩), .int .i64 0] w fun r w' => ∃ out, r = .returned out ∧ w'.ownsRow w.heap.size 5 1 out ([] : List Int).length (u8s ([] : List Int)) ∧ Mr w' m (.slice (some ad) B.length k) B ⟨0, B.drop (k + 0)⟩ ∧ Upd m w noV w' noV := by
  obtain ⟨i0, hi, hz0, hz1, hz2⟩ := info_parts Tryd.info5
  have HL := Lib.hid (mleft_any w m _ B ⟨0, B.drop k⟩ (h.mr (by omega) h8 hb) rfl)
  have H8 := Lib.hid h8
  have HA := Lib.hid h
  have k0 := cell_of_blk h.blk 0
  have k1 := cell_of_blk h.blk 1
  have k2 := cell_of_blk h.blk 2
  replace k0 : w.cell? ⟨m, 0, none⟩ = some (.slice (some ad) B.length k) := k0
  replace k1 : w.cell? ⟨m, 1, none⟩ = some (.int .i64 (k : Int)) := k1
  replace k2 : w.cell? ⟨m, 2, none⟩ = some (.int .i64 0) := k2
  have hnl : ¬ ((B.drop k).length : Int) < 0 := by rw [List.length_drop]; omega
  have hlt := (Array.getElem?_eq_some_iff.1 h.blk).1
  clear h h8
  go_enter Tryd.func81, Tryd.ntmps81
  go_wp2_with fail
  refine HL.out.mono ?_
  rintro r w1 ⟨rfl, n1, rfl⟩
  go_wp2_with fail
  have q0 : ((w.drewN (n1 + 1)).alloc (.cells #[] 5)).cell? ⟨m, 0, none⟩ = some (.slice (some ad) B.length k) := by rw [← k0]; exact (belowN (w.drewN (n1 + 1)) _).cell (p := ⟨m, 0, none⟩) hlt
  have q1 : ((w.drewN (n1 + 1)).alloc (.cells #[] 5)).cell? ⟨m, 1, none⟩ = some (.int .i64 (k : Int)) := by rw [← k1]; exact (belowN (w.drewN (n1 + 1)) _).cell (p := ⟨m, 1, none⟩) hlt
  have hu : ((w.drewN (n1 + 1)).alloc (.cells #[] 5)).ownsRow w.heap.size 5 1 (.slice (some ⟨w.heap.size, 0, none⟩) 0 0) 0 [] := World.ownsRow_lit (w.drewN (n1 + 1)) #[] 0 (Nat.le_refl _) (Nat.zero_le _) rfl
  have HBL : Hid (Below w.heap.size w ((w.drewN (n1 + 1)).alloc (.cells #[] 5))) := (below_drewN_self w.heap.size w (n1 + 1)).trans (belowN (w.drewN (n1 + 1)) _)
  have b1 : 0 + 0 ≤ maxLen := by unfold maxLen; omega
  have b2 : (0 + 0) * 1 ≤ 140737488355328 := by omega
  have b3 : w.heap.size ≤ ((w.drewN (n1 + 1)).alloc (.cells #[] 5)).heap.size := by simp
  have s1 : IntKind.i64.wrap (k : Int) = (k : Int) := IntWalk.i64_in _ (by omega)
  go_region_law (first
    | (refine step_own rfl (.tmp 28) (.tmp 43) 22 rfl w.heap.size 5 i0 (.int .u8 0) 1 1 Tryd.underlying22 hi hz0 hz1 hz2 rfl (by decide) _ 0 [] (by simp [Act.eval, Act.put]) hu ad 0 0 [] (by simp [Act.eval, Act.put]) rfl (fun j u hj => by simp at hj) (fun u hu => by simp at hu) b1 b2 b3 ?_; intro v' w' ho' hg'))
  all_goals
    have HO : Hid (w'.ownsRow w.heap.size 5 1 v' ([] : List Int).length (u8s [])) := ho'
    clear ho' b1 b2 b3 s1
  all_goals
    have HF := Lib.hid (fixed_after (n := 0) HA.out HBL.out hg' (fun g hg => Nat.le_of_eq (Option.some.inj hg)) HO.out (by omega) H8.out hb)
    have j1 := HF.out.1.c1
    have jf := HF.out.1.f1
    clear hg' hu q0 q1 k0 k1 k2
    go_wp2_with fail
    exact bodyPost_ret (v := v') (by simp [results, Tryd.f81, go_sem]) rfl ⟨_, rfl, HF.out.2⟩

set_option maxHeartbeats 4000000 in
set_option maxRecDepth 100000 in
theorem mfixed_none (w : World) (m : Nat) (h : MrAt w m (.slice none 0 0) [] 0) :
    Calls Tryd.prog 81 #[.pointer (some ⟨m, 0, none⟩), .int .i64 0] w fun r w' => ∃ out, r = .returned out ∧ w'.ownsRow w.heap.size 5 1 out ([] : List Int).length (u8s ([] : List Int)) ∧ Mr w' m (.slice none 0 0) [] ⟨0, []⟩ ∧ Upd m w noV w' noV := by
  obtain ⟨i0, hi, hz0, hz1, hz2⟩ := info_parts Tryd.info5
  have HL := Lib.hid (mleft_any w m _ [] ⟨0, []⟩ (h.mr (Nat.le_refl _) (fun x hx => by cases hx) (Nat.zero_le _)) rfl)
  have HA := Lib.hid h
  have k0 := cell_of_blk h.blk 0
  have k1 := cell_of_blk h.blk 1
  have k2 := cell_of_blk h.blk 2
  replace k0 : w.cell? ⟨m, 0, none⟩ = some (.slice none 0 0) := k0
  replace k1 : w.cell? ⟨m, 1, none⟩ = some (.int .i64 0) := k1
  replace k2 : w.cell? ⟨m, 2, none⟩ = some (.int .i64 0) := k2
  have hnl : ¬ (([] : List Int).length : Int) < 0 := by simp
  have hlt := (Array.getElem?_eq_some_iff.1 h.blk).1
  clear h
  go_enter Tryd.func81, Tryd.ntmps81
  go_wp2_with fail
  refine HL.out.mono ?_
  rintro r w1 ⟨rfl, n1, rfl⟩
  go_wp2_with fail
  have q0 : ((w.drewN (n1 + 1)).alloc (.cells #[] 5)).cell? ⟨m, 0, none⟩ = some (.slice none 0 0) := by rw [← k0]; exact (belowN (w.drewN (n1 + 1)) _).cell (p := ⟨m, 0, none⟩) hlt
  have q1 : ((w.drewN (n1 + 1)).alloc (.cells #[] 5)).cell? ⟨m, 1, none⟩ = some (.int .i64 0) := by rw [← k1]; exact (belowN (w.drewN (n1 + 1)) _).cell (p := ⟨m, 1, none⟩) hlt
  have hu : ((w.drewN (n1 + 1)).alloc (.cells #[] 5)).ownsRow w.heap.size 5 1 (.slice (some ⟨w.heap.size, 0, none⟩) 0 0) 0 [] := World.ownsRow_lit (w.drewN (n1 + 1)) #[] 0 (Nat.le_refl _) (Nat.zero_le _) rfl
  have HBL : Hid (Below w.heap.size w ((w.drewN (n1 + 1)).alloc (.cells #[] 5))) := (below_drewN_self w.heap.size w (n1 + 1)).trans (belowN (w.drewN (n1 + 1)) _)
  have s1 : IntKind.i64.wrap 0 = 0 := rfl
  go_region_law (first
    | (refine step_own_none rfl (.tmp 28) (.tmp 43) 22 rfl w.heap.size 5 i0 1 Tryd.underlying22 hi _ 0 [] (by simp [Act.eval, Act.put]) hu (by simp [Act.eval, Act.put]) ?_))
  all_goals
    have HO : Hid (((w.drewN (n1 + 1)).alloc (.cells #[] 5)).ownsRow w.heap.size 5 1 (.slice (some ⟨w.heap.size, 0, none⟩) 0 0) ([] : List Int).length (u8s [])) := hu
    have HF := Lib.hid (fixed_after (n := 0) HA.out HBL.out (r := none) ⟨rfl, rfl, rfl, Nat.le_refl _, fun _ _ _ => rfl⟩ (fun g hg => by cases hg) HO.out (Nat.le_refl _) (fun x hx => by cases hx) (Nat.zero_le _))
    have j1 := HF.out.1.c1
    have jf := HF.out.1.f1
    clear hu q0 q1 k0 k1 k2
    go_wp2_with fail
    exact bodyPost_ret (v := .slice (some ⟨w.heap.size, 0, none⟩) 0 0) (by simp [results, Tryd.f81, go_sem]) rfl ⟨_, rfl, HF.out.2⟩

end Go.Proofs.YtadonpfpneanhaaDoor
