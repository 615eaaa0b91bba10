/- The writer of bytes: its memory, and what its calls answer. -/
import Derived.Test.YtadonpfpneanhaaDoorR1
import Derived.WalkKit
import Derived.Maps.AppendAt
import Derived.Laws.AppendOwnNone
namespace Go.Proofs.YtadonpfpneanhaaDoor
open Go.RowKit

abbrev u8s (xs : List Int) : List Value := xs.map (Value.int .u8)

/-- A slice of bytes that reads as xs. -/
def Src (w : World) (s : Value) (xs : List Int) : Prop :=
  (s = .slice none 0 0 ∧ xs = []) ∨ ∃ ad c, s = .slice (some ad) xs.length c ∧ xs.length ≤ c ∧ c ≤ maxLen ∧ ∀ j u, (u8s xs)[j]? = some u → w.cell? (ad.add j) = some u

/-- A writer at block p: its error, its slice, the bytes that are its own. -/
structure Wr (w : World) (p : Nat) (e v : Value) (bs : List Int) : Prop where
  blk : w.heap[p]? = some (.cells #[e, v] 92 (0, 0))
  own : w.ownsRow 0 5 1 v bs.length (u8s bs)

/-- What a writer's call may turn: its own block, its own bytes; its bytes lie where they lay or in a block that is new. -/
structure Upd (p : Nat) (w : World) (v : Value) (w' : World) (v' : Value) : Prop where
  os : w'.os = w.os
  tape : w'.tape = w.tape
  output : w'.output = w.output
  size : w.heap.size ≤ w'.heap.size
  same : ∀ k, k < w.heap.size → k ≠ p → some k ≠ v.ownBlock → w'.heap[k]? = w.heap[k]?
  own : ∀ g, v'.ownBlock = some g → v.ownBlock = some g ∨ w.heap.size ≤ g

theorem Upd.refl (p : Nat) (w : World) (v : Value) : Upd p w v w v := ⟨rfl, rfl, rfl, Nat.le_refl _, fun _ _ _ _ => rfl, fun _ h => .inl h⟩
theorem Upd.trans {p : Nat} {w w' w'' : World} {v v' v'' : Value} (h : Upd p w v w' v') (k : Upd p w' v' w'' v'') : Upd p w v w'' v'' :=
  ⟨k.os.trans h.os, k.tape.trans h.tape, k.output.trans h.output, Nat.le_trans h.size k.size,
   fun i hi hp hv => (k.same i (Nat.lt_of_lt_of_le hi h.size) hp (fun e => by
      rcases h.own i e.symm with h1 | h1
      · exact hv h1.symm
      · omega)).trans (h.same i hi hp hv),
   fun g hg => by
      rcases k.own g hg with h1 | h1
      · exact h.own g h1
      · have := h.size; omega⟩
theorem Upd.of_below {p : Nat} {w w' : World} {v : Value} (h : Below w.heap.size w w') : Upd p w v w' v :=
  ⟨h.os, h.tape, h.output, h.size, fun k hk _ _ => h.block k hk, fun _ h => .inl h⟩
/-- What a writer away from the old blocks turns none of them. -/
theorem Upd.below {p B : Nat} {w w' : World} {v v' : Value} (h : Upd p w v w' v') (hp : B ≤ p) (hB : B ≤ w.heap.size) (hv : ∀ g, v.ownBlock = some g → B ≤ g) : Below B w w' ∧ ∀ g, v'.ownBlock = some g → B ≤ g :=
  ⟨⟨h.os, h.tape, h.output, h.size, fun k hk => h.same k (by omega) (by omega) (fun e => by have := hv k e.symm; omega)⟩,
   fun g hg => by rcases h.own g hg with h1 | h1
                  · exact hv g h1
                  · omega⟩
theorem Upd.cell {p : Nat} {w w' : World} {v v' : Value} (h : Upd p w v w' v') {a : Addr} (ha : a.block < w.heap.size) (hp : a.block ≠ p) (hv : some a.block ≠ v.ownBlock) : w'.cell? a = w.cell? a :=
  World.cell?_of_block (h.same _ ha hp hv)

section
variable {w w' : World} {p : Nat} {e v : Value} {bs : List Int}
theorem Wr.lt (h : Wr w p e v bs) : p < w.heap.size := (Array.getElem?_eq_some_iff.1 h.blk).1
theorem Wr.c0 (h : Wr w p e v bs) : w.cell? ⟨p, 0, none⟩ = some e := by simp [World.cell?, h.blk]
theorem Wr.c1 (h : Wr w p e v bs) : w.cell? ⟨p, 1, none⟩ = some v := by simp [World.cell?, h.blk]
theorem Wr.f0 (h : Wr w p e v bs) : w.frozen? ⟨p, 0, none⟩ = false := by simp [World.frozen?, h.blk]
theorem Wr.f1 (h : Wr w p e v bs) : w.frozen? ⟨p, 1, none⟩ = false := by simp [World.frozen?, h.blk]
theorem Wr.apart (h : Wr w p e v bs) : v.ownBlock ≠ some p := by
  intro hg
  rcases h.own.2 with ⟨rfl, _⟩ | ⟨g, cap, cur, rfl, _, hgb, _⟩
  · simp [Value.ownBlock] at hg
  · obtain rfl : g = p := by simpa [Value.ownBlock] using hg
    have := h.blk.symm.trans hgb
    simp at this
theorem Wr.later (h : Wr w p e v bs) (hb : Below w.heap.size w w') : Wr w' p e v bs := by
  refine ⟨(hb.block p h.lt).trans h.blk, h.own.1, ?_⟩
  rcases h.own.2 with hn | ⟨g, cap, cur, rfl, hb0, hgb, rest⟩
  · exact .inl hn
  · exact .inr ⟨g, cap, cur, rfl, hb0, (hb.block g (Array.getElem?_eq_some_iff.1 hgb).1).trans hgb, rest⟩
theorem Wr.new (w : World) : Wr (w.alloc (.cells #[.nilIface, .slice none 0 0] 92)) w.heap.size .nilIface (.slice none 0 0) [] :=
  ⟨heap_alloc_new w _, World.ownsRow_nil _ _ _ _⟩
theorem heap_setCell_block {w : World} {p o : Nat} {cs : Array Value} {t : TypeId} {fz : Nat × Nat} (h : w.heap[p]? = some (.cells cs t fz)) (u : Value) : (w.setCell ⟨p, o, none⟩ u).heap[p]? = some (.cells (cs.setIfInBounds o u) t fz) := by
  obtain ⟨hlt, hk⟩ := Array.getElem?_eq_some_iff.1 h
  show (w.heap.modify p _)[p]? = _
  rw [Array.getElem?_eq_getElem (by rw [Array.size_modify]; exact hlt), Array.getElem_modify_self, hk]
  rfl
/-- The error is noted. -/
theorem Wr.fail (h : Wr w p e v bs) (e' : Value) : Wr (w.setCell ⟨p, 0, none⟩ e') p e' v bs ∧ Upd p w v (w.setCell ⟨p, 0, none⟩ e') v := by
  refine ⟨⟨by rw [heap_setCell_block h.blk]; rfl, h.own.1, ?_⟩, ⟨rfl, rfl, rfl, by simp, fun k _ hk _ => Below.heap_setCell _ _ _ _ hk, fun _ hg => .inl hg⟩⟩
  rcases h.own.2 with hn | ⟨g, cap, cur, rfl, hb0, hgb, rest⟩
  · exact .inl hn
  · refine .inr ⟨g, cap, cur, rfl, hb0, (Below.heap_setCell _ _ _ _ (fun hg => ?_)).trans hgb, rest⟩
    exact h.apart (by simp [Value.ownBlock, hg])
/-- The new slice is stored. -/
theorem Wr.stored {w1 : World} {v' : Value} {bs' : List Int} (h : Wr w p e v bs) (hg : w.grownBy w1 v.ownBlock) (hown : w1.ownsRow 0 5 1 v' bs'.length (u8s bs')) (hat : v'.ownBlock = v.ownBlock ∨ v'.ownBlock = some w.heap.size) :
    w1.cell? ⟨p, 1, none⟩ = some v ∧ w1.frozen? ⟨p, 1, none⟩ = false ∧ Wr (w1.setCell ⟨p, 1, none⟩ v') p e v' bs' ∧ Upd p w v (w1.setCell ⟨p, 1, none⟩ v') v' := by
  have hb := (hg.block p h.lt (fun x => h.apart x.symm)).trans h.blk
  have hne : v'.ownBlock ≠ some p := by
    rcases hat with h1 | h1
    · rw [h1]; exact h.apart
    · rw [h1]; intro hx; have := h.lt; have := Option.some.inj hx; omega
  refine ⟨by simp [World.cell?, hb], by simp [World.frozen?, hb], ⟨by rw [heap_setCell_block hb]; rfl, hown.1, ?_⟩, ⟨hg.os, hg.tape, hg.output, by simpa using hg.size, fun k hk hkp hkv => (Below.heap_setCell _ _ _ _ hkp).trans (hg.block k hk hkv), fun g hgg => ?_⟩⟩
  · rcases hown.2 with hn | ⟨g, cap, cur, rfl, hb0, hgb, rest⟩
    · exact .inl hn
    · refine .inr ⟨g, cap, cur, rfl, hb0, (Below.heap_setCell _ _ _ _ (fun hx => ?_)).trans hgb, rest⟩
      exact hne (by simp [Value.ownBlock, hx])
  · rcases hat with h1 | h1
    · exact .inl (h1 ▸ hgg)
    · rw [h1] at hgg; exact .inr (Nat.le_of_eq (Option.some.inj hgg))
end

theorem add_block (a : Addr) (i : Nat) : (a.add i).block = a.block := by unfold Addr.add; split <;> rfl
theorem Src.later {w w' : World} {s : Value} {xs : List Int} (h : Src w s xs) (hc : ∀ a u, w.cell? a = some u → (∀ ad l c, s = .slice (some ad) l c → a.block = ad.block) → w'.cell? a = some u) : Src w' s xs := by
  rcases h with h | ⟨ad, c, rfl, h1, h2, h3⟩
  · exact .inl h
  · exact .inr ⟨ad, c, rfl, h1, h2, fun j u hj => hc _ _ (h3 j u hj) (fun ad' l c' hs => by cases hs; exact add_block _ _)⟩
theorem Src.below {w w' : World} {s : Value} {xs : List Int} (h : Src w s xs) (hb : Below w.heap.size w w') : Src w' s xs :=
  h.later fun a _ ha _ => (hb.cell (World.block_lt_of_cell? w a ha)).trans ha
theorem Src.upd {w w' : World} {s : Value} {xs : List Int} {p : Nat} {v v' : Value} (h : Src w s xs) (hu : Upd p w v w' v') (hp : ∀ ad l c, s = .slice (some ad) l c → ad.block ≠ p ∧ some ad.block ≠ v.ownBlock) : Src w' s xs := by
  rcases h with h | ⟨ad, c, rfl, h1, h2, h3⟩
  · exact .inl h
  · exact .inr ⟨ad, c, rfl, h1, h2, fun j u hj => (hu.cell (World.block_lt_of_cell? w _ (h3 j u hj)) (by rw [add_block]; exact (hp ad _ c rfl).1) (by rw [add_block]; exact (hp ad _ c rfl).2)).trans (h3 j u hj)⟩
theorem u8s_oneCell (xs : List Int) : ∀ u ∈ u8s xs, u.oneCell' = true := by
  intro u hu
  obtain ⟨x, _, rfl⟩ := List.mem_map.1 hu
  rfl
/-- What a row of one's own reads as. -/
theorem Src.of_own {w : World} {v : Value} {bs : List Int} {B : Nat} (h : w.ownsRow B 5 1 v bs.length (u8s bs)) : Src w v bs := by
  rcases h.2 with ⟨rfl, h0⟩ | ⟨g, cap, cur, rfl, hb, hg, hnc, hcm, hcs, htake⟩
  · exact .inl ⟨rfl, List.eq_nil_of_length_eq_zero h0⟩
  · exact .inr ⟨⟨g, 0, none⟩, cap, rfl, hnc, hcm, h.cells rfl⟩

theorem Tryd.info5 : (Tryd.prog.info? 5).map (fun i => (i.zero, i.size, i.bytes)) = some (some (.int .u8 0), 1, 1) := by kernel_rfl

end Go.Proofs.YtadonpfpneanhaaDoor
