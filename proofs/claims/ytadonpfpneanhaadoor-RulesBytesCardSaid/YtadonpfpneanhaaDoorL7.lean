/- The walk of WireForth: numbers that are read are written as the same bytes. -/
import Derived.Test.YtadonpfpneanhaaDoorW8
import Derived.Test.YtadonpfpneanhaaDoorX2
namespace Go.Proofs.YtadonpfpneanhaaDoor
open Go.RowKit

theorem Wr.far {w w' : World} {p q : Nat} {e v : Value} {bs : List Int} (h : Wr w p e v bs) (hu : Upd q w noV w' noV) (hpq : p ≠ q) (hvq : ∀ g, v.ownBlock = some g → g ≠ q) : Wr w' p e v bs := by
  have hn : ∀ k : Nat, some k ≠ noV.ownBlock := fun k => by simp [Value.ownBlock]
  refine ⟨(hu.same p h.lt hpq (hn p)).trans h.blk, h.own.1, ?_⟩
  rcases h.own.2 with hh | ⟨g, cap, cur, rfl, hb0, hgb, rest⟩
  · exact .inl hh
  · exact .inr ⟨g, cap, cur, rfl, hb0, (hu.same g (Array.getElem?_eq_some_iff.1 hgb).1 (hvq g rfl) (hn g)).trans hgb, rest⟩
theorem Rd.far {w w' : World} {p q B : Nat} {e sl v v' : Value} {xs : List Int} (h : Rd w q e sl xs) (hu : Upd p w v w' v') (hq : q < B) (hp : B ≤ p) (hv : ∀ g, v.ownBlock = some g → B ≤ g) : Rd w' q e sl xs := by
  refine ⟨(hu.same q h.lt (by omega) (fun e => by have := hv q e.symm; omega)).trans h.blk, h.src.upd hu (fun ad l c hh => ?_), h.ap, h.by8⟩
  have h1 := (h.ap ad l c hh).1
  exact ⟨by omega, fun e => by have := hv _ e.symm; omega⟩

/-- What is read of a width is written as the same bytes. -/
theorem beVal_div (ys : List Int) (h : ∀ x ∈ ys, 0 ≤ x ∧ x < 256) (j : Nat) (hj : j < ys.length) : beVal ys / 2 ^ (8 * (ys.length - 1 - j)) % 256 = ys[j] := by
  have key : ∀ (m : Nat) (zs : List Int), zs.length = m → (∀ x ∈ zs, 0 ≤ x ∧ x < 256) → ∀ j (hj : j < zs.length), beVal zs / 2 ^ (8 * (zs.length - 1 - j)) % 256 = zs[j] := by
    intro m
    induction m with
    | zero => intro zs hz _ j hj; omega
    | succ m ih =>
      intro zs hz hx j hj
      obtain ⟨ts, t, rfl⟩ : ∃ ts t, zs = ts ++ [t] := ⟨zs.dropLast, zs.getLast (by intro e; rw [e] at hz; simp at hz), (List.dropLast_concat_getLast _).symm⟩
      have ht := hx t (by simp)
      have hts : ts.length = m := by simpa using hz
      rw [beVal_snoc]
      by_cases hjm : j < ts.length
      · have h1 := ih ts hts (fun x hx' => hx x (List.mem_append_left _ hx')) j hjm
        rw [List.getElem_append_left hjm, ← h1]
        have he : 8 * ((ts ++ [t]).length - 1 - j) = 8 + 8 * (ts.length - 1 - j) := by rw [List.length_append, List.length_singleton]; omega
        rw [he, Int.pow_add, ← Int.ediv_ediv_of_nonneg (by decide), show (2 : Int) ^ 8 = 256 from rfl, show (beVal ts * 256 + t) / 256 = beVal ts by omega]
      · have hje : j = ts.length := by rw [List.length_append, List.length_singleton] at hj; omega
        subst hje
        have he : 8 * ((ts ++ [t]).length - 1 - ts.length) = 0 := by simp
        rw [he]
        simp
        omega
  exact key _ ys rfl h j hj
theorem be_back (ys : List Int) (h : ∀ x ∈ ys, 0 ≤ x ∧ x < 256) : be (beVal ys) ys.length = ys := by
  unfold be
  rw [Int.toNat_natCast]
  apply List.ext_getElem
  · simp
  · intro j h1 h2
    simp only [List.getElem_map, List.getElem_range]
    unfold beF
    rw [show (8 * ((ys.length : Int) - 1 - j)).toNat = 8 * (ys.length - 1 - j) by omega]
    exact beVal_div ys h j h2
theorem not_bad_back {ys : List Int} (h : ∀ x ∈ ys, 0 ≤ x ∧ x < 256) (h1 : 1 ≤ ys.length) (h8 : ys.length ≤ 8) : ¬ BadN (beVal ys) ys.length := by
  have := beVal_in ys h
  unfold BadN
  rw [Int.toNat_natCast]
  omega

/-- A reader that goes on had as many bytes as the width. -/
theorem number_ok {xs : List Int} {x : Int} (h : (RS.number ⟨0, xs⟩ x).c = 0) : 1 ≤ x ∧ x ≤ 8 ∧ x.toNat ≤ xs.length ∧ RS.number ⟨0, xs⟩ x = ⟨0, xs.drop x.toNat⟩ ∧ RS.numV ⟨0, xs⟩ x = beVal (xs.take x.toNat) := by
  unfold RS.number at h ⊢
  unfold RS.numV
  by_cases hb : x < 1 ∨ 8 < x
  · rw [if_pos hb] at h; simp [RS.fail] at h
  · rw [if_neg hb] at h ⊢
    rw [if_neg hb]
    by_cases hp : RS.pre ⟨0, xs⟩ x = ⟨0, xs⟩
    · rw [hp] at h ⊢
      by_cases hl : xs.length < x.toNat
      · simp [RS.take, hl] at h
      · refine ⟨by omega, by omega, by omega, by simp [RS.take, hl], ?_⟩
        simp [RS.took]
        rw [if_pos (by omega)]
    · have hp2 : RS.pre ⟨0, xs⟩ x = ⟨1, xs⟩ := by
        unfold RS.pre at hp ⊢
        split
        · rfl
        · rename_i hh; rw [if_neg hh] at hp; exact absurd rfl hp
      rw [hp2] at h
      simp [RS.take] at h

end Go.Proofs.YtadonpfpneanhaaDoor
