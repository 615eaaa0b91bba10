/- The chapter's examples of the writer. -/
import Derived.Test.YtadonpfpneanhaaDoorW4
import Derived.Laws.BytesArg
import Derived.Lib.SlBytesConst
import Derived.Lib.Strings
namespace Go.Proofs.YtadonpfpneanhaaDoor
open Go.RowKit

/-- What a slice of bytes is as a string. -/
theorem str_src {w : World} {s : Value} {xs : List Int} (h : Src w s xs) : (convert 22 9 s).run Tryd.prog w = .ok (.string (strOfNums xs)) w := by
  rcases h with ⟨rfl, rfl⟩ | ⟨ad, c, rfl, hc1, hc2, hcs⟩
  · exact run_convert_bytes_nil w 22 5 Tryd.underlying22 Tryd.underlying5 0 0 9 Tryd.underlying9
  · have hl : (loadCells ad xs.length).run Tryd.prog w = .ok (xs.map (Value.int .u8)).toArray w := by
      have := run_loadCells_list (P := Tryd.prog) w ad (xs.map (Value.int .u8)) (fun j v hj => hcs j v hj)
      simpa using this
    rw [run_convert_bytes_string w 22 9 5 _ xs.length c Tryd.underlying22 Tryd.underlying5 Tryd.underlying9, run_bytesToString w _ xs.length c xs hl, foldl_push_bytes]
    simp [strOfNums, ByteArray.empty, ByteArray.emptyWithCapacity]
    rfl

theorem cell_of_blk {w : World} {p : Nat} {cs : Array Value} {t : TypeId} {fz : Nat × Nat} (h : w.heap[p]? = some (.cells cs t fz)) (j : Nat) : w.cell? ⟨p, j, none⟩ = cs[j]? := by simp [World.cell?, h]
theorem strOfNums_list (xs : List Int) : (strOfNums xs).toList = xs.map fun n => UInt8.ofNat n.toNat := by rw [Lib.toList_data]; exact strOfNums_data xs
theorem belowN (w : World) (o : Obj) : Below w.heap.size w (w.alloc o) := (Below.refl _ _).alloc (Nat.le_refl _) _
theorem belowT {B : Nat} {u v w : World} (h : Below B u v) (k : Below v.heap.size v w) (hB : B ≤ u.heap.size) : Below B u w := h.trans (k.mono (Nat.le_trans hB h.size))

set_option maxHeartbeats 1000000 in
set_option maxRecDepth 100000 in
theorem alive01 (A : List Addr) (w : World) (h : Ers A w) :
    Calls Tryd.prog 17 #[] w fun r w' => r = .returned (.bool true) ∧ Below w.heap.size w w' := by
  have HS := Lib.hid h
  clear h
  go_enter Tryd.func17, Tryd.ntmps17
  go_wp2_with fail
  refine (new_writer _).mono ?_
  rintro r w1 ⟨rfl, rfl⟩
  have hW := Wr.new w
  have hB := belowN w (.cells #[.nilIface, .slice none 0 0] 92)
  have H1 := Lib.hid (HS.out.later hB)
  generalize w.alloc (.cells #[.nilIface, .slice none 0 0] 92) = w1 at *
  have hn := number_any A w1 H1.out w.heap.size (.slice none 0 0) ⟨0, []⟩ hW (by simp) 258 2
  rw [show WS.number ⟨0, []⟩ 258 2 = ⟨0, [1, 2]⟩ by simp [WS.number, WS.fixed, BadN, be]; decide] at hn
  have HN := Lib.hid hn
  have HB := Lib.hid hB
  have HL1 := Lib.hid hW.lt
  clear hB hW hn
  go_wp2_with fail
  refine HN.out.mono ?_
  rintro r w2 ⟨rfl, v2, hW2, hU2⟩
  obtain ⟨b12, o2⟩ := hU2.below (B := w.heap.size) (Nat.le_refl _) (by have := HB.out.size; omega) (fun g hg => by simp [Value.ownBlock] at hg)
  have HB2 := Lib.hid (HB.out.trans b12)
  have HO2 := Lib.hid o2
  have HW2 := Lib.hid hW2
  have hcc := Lib.run_convert_bytes_const (P := Tryd.prog) w2 22 5 #[.int .u8 97, .int .u8 98] 2 2 Tryd.underlying22 Tryd.underlying5
  have hb3 := belowN w2 (.cells #[.int .u8 97, .int .u8 98] 5 (2, 3))
  have hk3 : (w2.alloc (.cells #[.int .u8 97, .int .u8 98] 5 (2, 3))).heap[w2.heap.size]? = some (.cells #[.int .u8 97, .int .u8 98] 5 (2, 3)) := heap_alloc_new w2 _
  have hs3 : Src (w2.alloc (.cells #[.int .u8 97, .int .u8 98] 5 (2, 3))) (.slice (some ⟨w2.heap.size, 0, none⟩) 2 2) [97, 98] := by
    refine .inr ⟨⟨w2.heap.size, 0, none⟩, 2, rfl, by decide, by decide, fun j u hj => ?_⟩
    match j, hj with
    | 0, hj =>
      obtain rfl := Option.some.inj hj
      exact cell_of_blk hk3 0
    | 1, hj =>
      obtain rfl := Option.some.inj hj
      exact cell_of_blk hk3 1
    | j + 2, hj => simp [u8s] at hj
  clear hk3
  have hw3 := hW2.later hb3
  have hnn := bytes_any A _ ((HS.out.later HB2.out).later hb3) w.heap.size v2 _ ⟨0, [1, 2]⟩ [97, 98] 9 hw3 hs3 (by
    intro ad l c he
    cases he
    have h1 := hW2.lt
    refine ⟨show w2.heap.size ≠ w.heap.size by omega, fun hx => ?_⟩
    have := (hW2.own.lt _ hx.symm).2
    exact absurd this (Nat.lt_irrefl _)) (by simp)
  rw [show WS.bytes ⟨0, [1, 2]⟩ [97, 98] 9 = ⟨0, [1, 2, 0, 2, 97, 98]⟩ by simp [WS.bytes, WS.number, WS.fixed, BadN, be]; decide] at hnn
  have HNN := Lib.hid hnn
  have HB3 := Lib.hid hb3
  clear hnn hb3 hs3 hw3 hW2 hU2 b12 o2
  go_wp2_with fail
  refine HNN.out.mono ?_
  rintro r w4 ⟨rfl, v4, hW4, hU4⟩
  obtain ⟨b34, o4⟩ := hU4.below (B := w.heap.size) (Nat.le_refl _) (by have := HB2.out.size; simp; omega) HO2.out
  have HB4 := Lib.hid ((HB2.out.trans (HB3.out.mono HB2.out.size)).trans b34)
  have HD := Lib.hid (done_ok w4 _ _ _ hW4 (by simp))
  clear hW4 hU4 b34 o4
  go_wp2_with fail
  refine HD.out.mono ?_
  rintro r w5 ⟨v5, rfl, ho5, hb5⟩
  have hstr := str_src (Src.of_own ho5)
  have HB5 := Lib.hid (belowT HB4.out hb5 (Nat.le_refl _))
  clear ho5 hb5
  go_wp2_with fail
  go_ret
  exact ⟨by simp [show (strOfNums [1, 2, 0, 2, 97, 98]).toList = [1, 2, 0, 2, 97, 98] from strOfNums_list _], HB5.out⟩

end Go.Proofs.YtadonpfpneanhaaDoor
