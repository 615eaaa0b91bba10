/- The number of an error: nil's is 0, the i-th sentinel's is i. -/
import Derived.Test.YtadonpfpneanhaaDoorE1
import Derived.Test.YtadonpfpneanhaaDoorS
import Derived.Lib.Hide
namespace Go.Proofs.YtadonpfpneanhaaDoor
open Go.RowKit

theorem num_nil (w : World) : Calls Tryd.prog 25 #[.nilIface] w fun e w' => e = .returned (.int .i64 0) ∧ w = w' := by
  go_enter Tryd.func25, Tryd.ntmps25
  go_wp2
  go_ret
  exact ⟨rfl, rfl⟩

theorem cell_new_at (w : World) (cs : Array Value) (t : TypeId) (k : Nat) : (w.alloc (.cells cs t)).cell? ⟨w.heap.size, k, none⟩ = cs[k]? := by
  have h : (w.alloc (.cells cs t)).heap[w.heap.size]? = some (.cells cs t (0, 0)) := Array.getElem?_push_size
  generalize w.alloc (.cells cs t) = w2 at h ⊢
  simp [World.cell?, h]

set_option maxHeartbeats 1000000 in
set_option maxRecDepth 100000 in
theorem num_at (A : List Addr) (w : World) (h : Sents G18 132 A w) (i : Nat) (a : Addr) (ha : A[i]? = some a) :
    Calls Tryd.prog 25 #[.iface 132 (.pointer (some a))] w fun e w' => e = .returned (.int .i64 ((i + 1 : Nat) : Int)) ∧ Below w.heap.size w w' := by
  have hl := h.len
  match A, hl with
  | [a0, a1, a2, a3, a4, a5, a6, a7, a8, a9, a10, a11, a12, a13, a14, a15, a16, a17], _ =>
    have c0 := h.cell 0 _ _ rfl rfl
    have c1 := h.cell 1 _ _ rfl rfl
    have c2 := h.cell 2 _ _ rfl rfl
    have c3 := h.cell 3 _ _ rfl rfl
    have c4 := h.cell 4 _ _ rfl rfl
    have c5 := h.cell 5 _ _ rfl rfl
    have c6 := h.cell 6 _ _ rfl rfl
    have c7 := h.cell 7 _ _ rfl rfl
    have c8 := h.cell 8 _ _ rfl rfl
    have c9 := h.cell 9 _ _ rfl rfl
    have c10 := h.cell 10 _ _ rfl rfl
    have c11 := h.cell 11 _ _ rfl rfl
    have c12 := h.cell 12 _ _ rfl rfl
    have c13 := h.cell 13 _ _ rfl rfl
    have c14 := h.cell 14 _ _ rfl rfl
    have c15 := h.cell 15 _ _ rfl rfl
    have c16 := h.cell 16 _ _ rfl rfl
    have c17 := h.cell 17 _ _ rfl rfl
    have HA := Lib.hid ha
    have HS := Lib.hid h
    clear ha h
    go_enter Tryd.func25, Tryd.ntmps25
    go_wp2_with fail
    obtain ⟨L, hL⟩ : ∃ L : List Addr, L = [a0, a1, a2, a3, a4, a5, a6, a7, a8, a9, a10, a11, a12, a13, a14, a15, a16, a17] := ⟨_, rfl⟩
    have e1 : #[Value.iface 132 (Value.pointer (some a0)), Value.iface 132 (Value.pointer (some a1)), Value.iface 132 (Value.pointer (some a2)), Value.iface 132 (Value.pointer (some a3)), Value.iface 132 (Value.pointer (some a4)), Value.iface 132 (Value.pointer (some a5)), Value.iface 132 (Value.pointer (some a6)), Value.iface 132 (Value.pointer (some a7)), Value.iface 132 (Value.pointer (some a8)), Value.iface 132 (Value.pointer (some a9)), Value.iface 132 (Value.pointer (some a10)), Value.iface 132 (Value.pointer (some a11)), Value.iface 132 (Value.pointer (some a12)), Value.iface 132 (Value.pointer (some a13)), Value.iface 132 (Value.pointer (some a14)), Value.iface 132 (Value.pointer (some a15)), Value.iface 132 (Value.pointer (some a16)), Value.iface 132 (Value.pointer (some a17))] = (L.map fun x => Value.iface 132 (Value.pointer (some x))).toArray := by rw [hL]; rfl
    rw [e1]
    clear e1 c0 c1 c2 c3 c4 c5 c6 c7 c8 c9 c10 c11 c12 c13 c14 c15 c16 c17
    have HS2 : Hid (Sents G18 132 L w) := by rw [hL]; exact HS.out
    have HA2 : Hid (L[i]? = some a) := by rw [hL]; exact HA.out
    have HN : Hid (L.length = 18) := by rw [hL]; rfl
    clear hL HS HA
    have hcell : ∀ k x, L[k]? = some x → (w.alloc (.cells (L.map fun x => Value.iface 132 (Value.pointer (some x))).toArray 31)).cell? ⟨w.heap.size, k, none⟩ = some (.iface 132 (.pointer (some x))) := fun k x hk => by
      rw [cell_new_at]
      simp [hk]
    have hb : Below w.heap.size w (w.alloc (.cells (L.map fun x => Value.iface 132 (Value.pointer (some x))).toArray 31)) := (Below.refl _ _).alloc (Nat.le_refl _) _
    have hi18 : i < 18 := by
      have := HA2.out
      rw [← HN.out]
      exact (List.getElem?_eq_some_iff.1 this).1
    have HC := Lib.hid hcell
    clear hcell
    obtain ⟨W1, hW1⟩ : ∃ W1, W1 = w.alloc (.cells (L.map fun x => Value.iface 132 (Value.pointer (some x))).toArray 31) := ⟨_, rfl⟩
    rw [← hW1] at HC hb ⊢
    clear hW1
    go_loop [29] (fun j => ∃ k : Nat, k ≤ i ∧ j = .int .i64 k) (fun j => 18 - (intOf j).toNat)
    case atStart => exact ⟨0, by omega, rfl⟩
    case round =>
      obtain ⟨k, hk, rfl⟩ := hrel
      have hk18 : k < 18 := by omega
      obtain ⟨x, hx⟩ : ∃ x, L[k]? = some x := ⟨L[k]'(by rw [HN.out]; exact hk18), by simp [HN.out, hk18]⟩
      have hc := HC.out k x hx
      have HX := Lib.hid hx
      clear hx
      by_cases e : k = i
      · subst e
        have exa : x = a := Option.some.inj (HX.out.symm.trans HA2.out)
        subst exa
        go_wp2_with fail
        refine (is_same x _).mono ?_
        rintro e w2 ⟨rfl, rfl⟩
        go_wp2_with fail
        go_ret
        exact ⟨rfl, hb⟩
      · have hne : a ≠ x := by
          rintro rfl
          have hnd := HS2.out.nodup
          have h1 := List.getElem?_eq_some_iff.1 HX.out
          have h2 := List.getElem?_eq_some_iff.1 HA2.out
          exact e ((List.getElem_inj hnd).1 (h1.2.trans h2.2.symm))
        obtain ⟨ca, ta, ra⟩ := HS2.out.row a (List.mem_of_getElem? HA2.out)
        obtain ⟨cx, tx, rx⟩ := HS2.out.row x (List.mem_of_getElem? HX.out)
        have hlt : ∀ {b : Nat} {o : Obj}, w.heap[b]? = some o → b < w.heap.size := fun h => (Array.getElem?_eq_some_iff.1 h).1
        have ra' := (hb.block a.block (hlt ra)).trans ra
        have rx' := (hb.block x.block (hlt rx)).trans rx
        have RA := Lib.hid ra'
        have RX := Lib.hid rx'
        clear ra rx ra' rx' hlt
        go_wp2_with fail
        refine (is_other a x ca cx ta tx _ hne RA.out RX.out).mono ?_
        rintro e w2 ⟨rfl, rfl⟩
        go_wp2_with fail
        go_round
        case rel => exact ⟨k + 1, by omega, by go_num⟩
        case measure => simp [intOf]; omega

end Go.Proofs.YtadonpfpneanhaaDoor
