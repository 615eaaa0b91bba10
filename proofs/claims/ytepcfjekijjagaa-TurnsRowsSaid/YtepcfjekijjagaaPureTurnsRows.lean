/- Whether so many good places stand one behind the other is told as the reference tells it: for every number of validators and every length, and of every list of bad places of at most 100 (a longer one is not asked). -/
import Derived.Test.YtepcfjekijjagaaPTurnsRowsx2
namespace Go.Proofs.Ytepcfjekijjagaa.Pure
open Go.RowKit Go.Proofs.Ytepcfjekijjagaa.PTurnsRows Go.Proofs.YtepcfjekijjagaaW.PrintWords Go.Proofs.YtepcfjekijjagaaW.PrintLast

/-! ### The plain circle -/
def runOf (g : Nat → Bool) (n run p : Nat) : Nat := if g (p % n) then 0 else run + 1
def rowA (g : Nat → Bool) (n : Nat) (L : Int) : Nat → Nat → Nat → Bool
  | 0, run, _ => run == 2 * n
  | d + 1, run, p => if L ≤ (runOf g n run p : Int) then true else rowA g n L d (runOf g n run p) (p + 1)
def maxA (g : Nat → Bool) (n : Nat) : Nat → Nat → Nat → Nat
  | 0, _, _ => 0
  | d + 1, run, p => max (runOf g n run p) (maxA g n d (runOf g n run p) (p + 1))
def endA (g : Nat → Bool) (n : Nat) : Nat → Nat → Nat → Nat
  | 0, run, _ => run
  | d + 1, run, p => endA g n d (runOf g n run p) (p + 1)
def lead (g : Nat → Bool) (n s : Nat) : Nat → Nat → Nat
  | 0, k => k
  | d + 1, k => if g ((s + k) % n) then k else lead g n s d (k + 1)
def maxB (g : Nat → Bool) (n : Nat) : Nat → Nat → Nat
  | 0, _ => 0
  | d + 1, s => max (lead g n s n 0) (maxB g n d (s + 1))
def cnt (g : Nat → Bool) : Nat → Nat → Nat
  | 0, _ => 0
  | d + 1, i => (if g i then 0 else 1) + cnt g d (i + 1)

theorem runOf_congr {g h : Nat → Bool} {n : Nat} (hn : 0 < n) (e : ∀ i, i < n → g i = h i) (run p : Nat) : runOf g n run p = runOf h n run p := by
  unfold runOf; rw [e _ (Nat.mod_lt _ hn)]
theorem maxA_congr {g h : Nat → Bool} {n : Nat} (hn : 0 < n) (e : ∀ i, i < n → g i = h i) : ∀ d run p, maxA g n d run p = maxA h n d run p
  | 0, _, _ => rfl
  | d + 1, run, p => by simp only [maxA]; rw [runOf_congr hn e, maxA_congr hn e d]
theorem endA_congr {g h : Nat → Bool} {n : Nat} (hn : 0 < n) (e : ∀ i, i < n → g i = h i) : ∀ d run p, endA g n d run p = endA h n d run p
  | 0, _, _ => rfl
  | d + 1, run, p => by simp only [endA]; rw [runOf_congr hn e, endA_congr hn e d]
theorem lead_congr {g h : Nat → Bool} {n : Nat} (hn : 0 < n) (e : ∀ i, i < n → g i = h i) (s : Nat) : ∀ d k, lead g n s d k = lead h n s d k
  | 0, _ => rfl
  | d + 1, k => by simp only [lead]; rw [e _ (Nat.mod_lt _ hn), lead_congr hn e s d]
theorem maxB_congr {g h : Nat → Bool} {n : Nat} (hn : 0 < n) (e : ∀ i, i < n → g i = h i) : ∀ d s, maxB g n d s = maxB h n d s
  | 0, _ => rfl
  | d + 1, s => by simp only [maxB]; rw [lead_congr hn e, maxB_congr hn e d]
theorem cnt_congr {g h : Nat → Bool} {n : Nat} (e : ∀ i, i < n → g i = h i) : ∀ d i, i + d ≤ n → cnt g d i = cnt h d i
  | 0, _, _ => rfl
  | d + 1, i, hd => by simp only [cnt]; rw [e i (by omega), cnt_congr e d (i + 1) (by omega)]

def bitsOf (l : List Bool) (i : Nat) : Bool := l.getD i false
def allLists : Nat → List (List Bool)
  | 0 => [[]]
  | n + 1 => (allLists n).flatMap fun l => [true :: l, false :: l]
theorem mem_allLists : ∀ l : List Bool, l ∈ allLists l.length
  | [] => by simp [allLists]
  | b :: l => by
    simp only [List.length_cons, allLists, List.mem_flatMap]
    exact ⟨l, mem_allLists l, by cases b <;> simp⟩
def okAt (n : Nat) (l : List Bool) : Bool :=
  if cnt (bitsOf l) n 0 == n then endA (bitsOf l) n (2 * n) 0 0 == 2 * n else endA (bitsOf l) n (2 * n) 0 0 != 2 * n && maxA (bitsOf l) n (2 * n) 0 0 == maxB (bitsOf l) n n 0
theorem ok1 : (allLists 1).all (okAt 1) = true := by decide +kernel
theorem ok2 : (allLists 2).all (okAt 2) = true := by decide +kernel
theorem ok3 : (allLists 3).all (okAt 3) = true := by decide +kernel
theorem ok4 : (allLists 4).all (okAt 4) = true := by decide +kernel
theorem ok5 : (allLists 5).all (okAt 5) = true := by decide +kernel
theorem ok6 : (allLists 6).all (okAt 6) = true := by decide +kernel
theorem ok7 : (allLists 7).all (okAt 7) = true := by decide +kernel
theorem ok_any (n : Nat) (h1 : 1 ≤ n) (h7 : n ≤ 7) (l : List Bool) (hl : l.length = n) : okAt n l = true := by
  have hm := mem_allLists l
  rw [hl] at hm
  rcases (show n = 1 ∨ n = 2 ∨ n = 3 ∨ n = 4 ∨ n = 5 ∨ n = 6 ∨ n = 7 by omega) with rfl | rfl | rfl | rfl | rfl | rfl | rfl
  · exact List.all_eq_true.1 ok1 _ hm
  · exact List.all_eq_true.1 ok2 _ hm
  · exact List.all_eq_true.1 ok3 _ hm
  · exact List.all_eq_true.1 ok4 _ hm
  · exact List.all_eq_true.1 ok5 _ hm
  · exact List.all_eq_true.1 ok6 _ hm
  · exact List.all_eq_true.1 ok7 _ hm
theorem circle (g : Nat → Bool) (n : Nat) (h1 : 1 ≤ n) (h7 : n ≤ 7) :
    (cnt g n 0 = n → endA g n (2 * n) 0 0 = 2 * n) ∧ (cnt g n 0 ≠ n → endA g n (2 * n) 0 0 ≠ 2 * n ∧ maxA g n (2 * n) 0 0 = maxB g n n 0) := by
  have e : ∀ i, i < n → g i = bitsOf ((List.range n).map g) i := fun i hi => by simp [bitsOf, hi]
  have h := ok_any n h1 h7 ((List.range n).map g) (by simp)
  unfold okAt at h
  rw [← cnt_congr e n 0 (by omega), ← endA_congr h1 e, ← maxA_congr h1 e, ← maxB_congr h1 e] at h
  refine ⟨fun hc => ?_, fun hc => ?_⟩
  · simpa [hc] using h
  · simpa [hc] using h
theorem rowA_iff (g : Nat → Bool) (n : Nat) (L : Int) (hL : 1 ≤ L) : ∀ d run p, rowA g n L d run p = true ↔ (L ≤ (maxA g n d run p : Int) ∨ endA g n d run p = 2 * n)
  | 0, run, p => by
    unfold rowA maxA endA
    rw [beq_iff_eq]
    omega
  | d + 1, run, p => by
    unfold rowA maxA endA
    by_cases h : L ≤ (runOf g n run p : Int)
    · rw [if_pos h]
      simp only [true_iff]
      omega
    · rw [if_neg h, rowA_iff g n L hL d]
      omega

/-! ### The printed functions -/
theorem wait_ok : quoratelaw12_alive.f 10 = some true := by decide +kernel
theorem cast_wrap (i : Nat) (h : i ≤ 1000) : wrap64 ((i : Int) + 1) = ((i + 1 : Nat) : Int) := by unfold wrap64; omega
theorem rd_at (l : List Int) (i : Nat) (h : i < l.length) : rd l (i : Int) = l[i] := by simp [rd, h]

theorem index_val (l : List Int) (v : Int) (hl : l.length ≤ 100) : ∀ d k i : Nat, i + d = l.length → d < k → ∃ r : Int, slices_Index_int_int.l0 k l v (l.length : Int) (i : Int) = some r ∧ (0 ≤ r ↔ v ∈ l.drop i) := by
  intro d
  induction d with
  | zero =>
    intro k i hd hk
    obtain ⟨k, rfl⟩ : ∃ m, k = m + 1 := ⟨k - 1, by omega⟩
    refine ⟨-1, by rw [slices_Index_int_int.l0, if_neg (by omega)], ?_⟩
    rw [List.drop_of_length_le (by omega)]
    simp
  | succ d ih =>
    intro k i hd hk
    obtain ⟨k, rfl⟩ : ∃ m, k = m + 1 := ⟨k - 1, by omega⟩
    have hi : i < l.length := by omega
    rw [slices_Index_int_int.l0, if_pos (by omega), if_pos (by omega), if_pos (by omega), rd_at l i hi, List.drop_eq_getElem_cons hi]
    by_cases e : v = l[i]
    · exact ⟨i, by rw [if_pos e], iff_of_true (by omega) (List.mem_cons.2 (.inl e))⟩
    · obtain ⟨r, hr, h⟩ := ih k (i + 1) (by omega) (by omega)
      refine ⟨r, by rw [if_neg e, cast_wrap i (by omega)]; exact hr, ?_⟩
      rw [h, List.mem_cons]
      exact ⟨.inr, fun x => x.resolve_left e⟩
theorem contains_val (l : List Int) (v : Int) (hl : l.length ≤ 100) (k : Nat) (hk : 200 ≤ k) : slices_Contains_int_int.f k l v = some (decide (v ∈ l)) := by
  obtain ⟨r, hr, h⟩ := index_val l v hl l.length k 0 (by omega) (by omega)
  unfold slices_Contains_int_int.f slices_Index_int_int.f
  rw [show (0 : Int) = ((0 : Nat) : Int) from rfl, hr]
  simp only [Option.bind_some, List.drop_zero] at h ⊢
  congr 1
  rw [Bool.eq_iff_iff]
  simpa using h
theorem in_val (l : List Int) (v : Int) (hl : l.length ≤ 100) : ∀ d k i : Nat, i + d = l.length → d < k → quoratenum_In.l0 k v l (l.length : Int) (i : Int) = some (decide (v ∈ l.drop i)) := by
  intro d
  induction d with
  | zero =>
    intro k i hd hk
    obtain ⟨k, rfl⟩ : ∃ m, k = m + 1 := ⟨k - 1, by omega⟩
    rw [quoratenum_In.l0, if_neg (by omega), List.drop_of_length_le (by omega)]
    simp
  | succ d ih =>
    intro k i hd hk
    obtain ⟨k, rfl⟩ : ∃ m, k = m + 1 := ⟨k - 1, by omega⟩
    have hi : i < l.length := by omega
    rw [quoratenum_In.l0, if_pos (by omega), if_pos (by omega), if_pos (by omega), rd_at l i hi, List.drop_eq_getElem_cons hi]
    by_cases e : l[i] = v
    · rw [if_pos e, decide_eq_true (List.mem_cons.2 (.inl e.symm))]
    · rw [if_neg e, cast_wrap i (by omega), ih k (i + 1) (by omega) (by omega)]
      congr 1
      rw [decide_eq_decide, List.mem_cons]
      exact ⟨.inr, fun x => x.resolve_left (fun y => e y.symm)⟩
theorem num_in_val (l : List Int) (v : Int) (hl : l.length ≤ 100) (k : Nat) (hk : 200 ≤ k) : quoratenum_In.f k l v = some (decide (v ∈ l)) := by
  unfold quoratenum_In.f
  have := in_val l v hl l.length k 0 (by omega) (by omega)
  rw [show (0 : Int) = ((0 : Nat) : Int) from rfl, this, List.drop_zero]

def badOf (l : List Int) (i : Nat) : Bool := decide ((i : Int) ∈ l)
theorem tmod_cast (p n : Nat) : Int.tmod (p : Int) (n : Int) = ((p % n : Nat) : Int) := by
  rw [Int.tmod_eq_emod_of_nonneg (by omega)]; rfl
theorem contains_at (l : List Int) (hl : l.length ≤ 100) (k p n : Nat) (hk : 200 ≤ k) : slices_Contains_int_int.f k l (Int.tmod (p : Int) (n : Int)) = some (badOf l (p % n)) := by
  rw [contains_val l _ hl k hk, tmod_cast]; rfl

theorem row_val (l : List Int) (hl : l.length ≤ 100) (n : Nat) (h1 : 1 ≤ n) (h7 : n ≤ 7) (L : Int) (hL : 1 ≤ L) : ∀ d k run p : Nat, p + d = 2 * n → run ≤ p → 200 + d < k →
    turns_Row.l0 k (n : Int) L l (run : Int) ((2 * n : Nat) : Int) (p : Int) = some (rowA (badOf l) n L d run p) := by
  intro d
  induction d with
  | zero =>
    intro k run p hp hr hk
    obtain ⟨k, rfl⟩ : ∃ m, k = m + 1 := ⟨k - 1, by omega⟩
    rw [turns_Row.l0, if_neg (by omega), if_neg (by omega), show wrap64 (2 * (n : Int)) = ((2 * n : Nat) : Int) by unfold wrap64; omega]
    simp only [rowA]
    congr 1
    rw [Bool.eq_iff_iff]
    simp only [beq_iff_eq]
    omega
  | succ d ih =>
    intro k run p hp hr hk
    obtain ⟨k, rfl⟩ : ∃ m, k = m + 1 := ⟨k - 1, by omega⟩
    rw [turns_Row.l0, if_pos (by omega), if_neg (by omega), contains_at l hl k p n (by omega)]
    simp only [Option.bind_some]
    by_cases hg : badOf l (p % n) = true
    · have er : runOf (badOf l) n run p = 0 := if_pos hg
      rw [rowA, er, if_pos hg, if_neg (by omega), if_neg (by omega), cast_wrap p (by omega)]
      exact ih k 0 (p + 1) (by omega) (by omega) (by omega)
    · have er : runOf (badOf l) n run p = run + 1 := if_neg hg
      rw [rowA, er, if_neg hg, cast_wrap run (by omega), cast_wrap p (by omega)]
      by_cases hge : L ≤ ((run + 1 : Nat) : Int)
      · rw [if_pos hge, if_pos hge]
      · rw [if_neg hge, if_neg hge]
        exact ih k (run + 1) (p + 1) (by omega) (by omega) (by omega)
theorem row_low (l : List Int) (hl : l.length ≤ 100) (n : Nat) (h1 : 1 ≤ n) (h7 : n ≤ 7) (L : Int) (hL : L < 1) (k : Nat) (hk : 300 < k) :
    turns_Row.l0 k (n : Int) L l 0 ((2 * n : Nat) : Int) 0 = some true := by
  obtain ⟨k, rfl⟩ : ∃ m, k = m + 1 := ⟨k - 1, by omega⟩
  have hc := contains_at l hl k 0 n (by omega)
  rw [turns_Row.l0, if_pos (by omega), if_neg (by omega)]
  rw [show ((0 : Nat) : Int) = 0 from rfl] at hc
  rw [hc]
  simp only [Option.bind_some]
  by_cases hg : badOf l (0 % n) = true
  · rw [if_pos hg, if_pos (by omega)]
  · rw [if_neg hg, show wrap64 (0 + 1) = 1 by unfold wrap64; omega, if_pos (by omega)]

theorem l2_val (l : List Int) (hl : l.length ≤ 100) (n : Nat) (h1 : 1 ≤ n) (h7 : n ≤ 7) (L : Int) (s : Nat) (hs : s < n) (K : Nat) (r : Bool)
    (h : ∀ k, K ≤ k → quorateref12_Row.l1 k (n : Int) L l ((s + 1 : Nat) : Int) = some r) : ∀ d k c : Nat, c + d = n → K + d < k → 200 + d < k →
    quorateref12_Row.l2 k (n : Int) L l (s : Int) (c : Int) = some (decide (L ≤ (lead (badOf l) n s d c : Int)) || r) := by
  intro d
  induction d with
  | zero =>
    intro k c hc hk hk2
    obtain ⟨k, rfl⟩ : ∃ m, k = m + 1 := ⟨k - 1, by omega⟩
    rw [quorateref12_Row.l2, if_neg (by omega), show lead (badOf l) n s 0 c = c from rfl]
    by_cases hge : L ≤ (c : Int)
    · rw [if_pos hge]
      simp [hge]
    · rw [if_neg hge, cast_wrap s (by omega), h k (by omega)]
      simp [hge]
  | succ d ih =>
    intro k c hc hk hk2
    obtain ⟨k, rfl⟩ : ∃ m, k = m + 1 := ⟨k - 1, by omega⟩
    have he : wrap64 ((s : Int) + (c : Int)) = ((s + c : Nat) : Int) := by unfold wrap64; omega
    rw [quorateref12_Row.l2, if_pos (by omega), if_neg (by omega), he, num_in_val l _ hl k (by omega), tmod_cast]
    simp only [Option.bind_some]
    by_cases hg : badOf l ((s + c) % n) = true
    · rw [show lead (badOf l) n s (d + 1) c = c from if_pos hg, if_pos (show decide ((((s + c) % n : Nat) : Int) ∈ l) = true from hg)]
      by_cases hge : L ≤ (c : Int)
      · rw [if_pos hge]
        simp [hge]
      · rw [if_neg hge, cast_wrap s (by omega), h k (by omega)]
        simp [hge]
    · rw [show lead (badOf l) n s (d + 1) c = lead (badOf l) n s d (c + 1) from if_neg hg, if_neg (show ¬ decide ((((s + c) % n : Nat) : Int) ∈ l) = true from hg), cast_wrap c (by omega)]
      exact ih k (c + 1) (by omega) (by omega) (by omega)
theorem l1_val (l : List Int) (hl : l.length ≤ 100) (n : Nat) (h1 : 1 ≤ n) (h7 : n ≤ 7) (L : Int) (hL : 1 ≤ L) : ∀ d k s : Nat, s + d = n → 300 + 20 * d < k →
    quorateref12_Row.l1 k (n : Int) L l (s : Int) = some (decide (L ≤ (maxB (badOf l) n d s : Int))) := by
  intro d
  induction d with
  | zero =>
    intro k s hs hk
    obtain ⟨k, rfl⟩ : ∃ m, k = m + 1 := ⟨k - 1, by omega⟩
    rw [quorateref12_Row.l1, if_neg (by omega), show maxB (badOf l) n 0 s = 0 from rfl, decide_eq_false (by omega)]
  | succ d ih =>
    intro k s hs hk
    obtain ⟨k, rfl⟩ : ∃ m, k = m + 1 := ⟨k - 1, by omega⟩
    rw [quorateref12_Row.l1, if_pos (by omega)]
    have := l2_val l hl n h1 h7 L s (by omega) (300 + 20 * d + 1) _ (fun k' hk' => ih k' (s + 1) (by omega) (by omega)) n k 0 (by omega) (by omega) (by omega)
    rw [show (0 : Int) = ((0 : Nat) : Int) from rfl, this, show maxB (badOf l) n (d + 1) s = max (lead (badOf l) n s n 0) (maxB (badOf l) n d (s + 1)) from rfl]
    congr 1
    rw [Bool.eq_iff_iff]
    simp only [Bool.or_eq_true, decide_eq_true_eq]
    omega
theorem l0_val (l : List Int) (hl : l.length ≤ 100) (n : Nat) (h1 : 1 ≤ n) (h7 : n ≤ 7) (L : Int) (hL : 1 ≤ L) : ∀ d k c i : Nat, i + d = n → c ≤ i → 600 + d < k →
    quorateref12_Row.l0 k (n : Int) L l (c : Int) (i : Int) = some (if c + cnt (badOf l) d i = n then true else decide (L ≤ (maxB (badOf l) n n 0 : Int))) := by
  intro d
  induction d with
  | zero =>
    intro k c i hi hc hk
    obtain ⟨k, rfl⟩ : ∃ m, k = m + 1 := ⟨k - 1, by omega⟩
    rw [quorateref12_Row.l0, if_neg (by omega), show c + cnt (badOf l) 0 i = c from rfl]
    by_cases e : c = n
    · rw [if_pos (by omega), if_pos e]
    · rw [if_neg (by omega), if_neg e]
      exact l1_val l hl n h1 h7 L hL n k 0 (by omega) (by omega)
  | succ d ih =>
    intro k c i hi hc hk
    obtain ⟨k, rfl⟩ : ∃ m, k = m + 1 := ⟨k - 1, by omega⟩
    rw [quorateref12_Row.l0, if_pos (by omega), num_in_val l _ hl k (by omega)]
    simp only [Option.bind_some]
    by_cases hg : badOf l i = true
    · rw [if_pos (show decide ((i : Int) ∈ l) = true from hg), show cnt (badOf l) (d + 1) i = 0 + cnt (badOf l) d (i + 1) from by rw [cnt, if_pos hg], cast_wrap i (by omega), Nat.zero_add]
      exact ih k c (i + 1) (by omega) (by omega) (by omega)
    · rw [if_neg (show ¬ decide ((i : Int) ∈ l) = true from hg), show cnt (badOf l) (d + 1) i = 1 + cnt (badOf l) d (i + 1) from by rw [cnt, if_neg hg], cast_wrap i (by omega), cast_wrap c (by omega), ← Nat.add_assoc]
      exact ih k (c + 1) (i + 1) (by omega) (by omega) (by omega)

theorem TurnsRows : quoratelaw12_TurnsRows.Pure := by
  intro a L l _ _ _ _ _
  refine ⟨1000, ?_⟩
  unfold quoratelaw12_TurnsRows.f
  rw [at_rounds (g := fun k => quoratelaw12_alive.f k) quoratelaw12_alive.mono (show 10 ≤ 1000 by omega) wait_ok]
  simp only [Option.bind_some, if_true]
  by_cases hl : (l.length : Int) > 100
  · rw [if_pos hl]
  rw [if_neg hl]
  have hl' : l.length ≤ 100 := by omega
  suffices h : ∃ b, turns_Row.f 1000 a L l = some b ∧ quorateref12_Row.f 1000 a L l = some b by
    obtain ⟨b, e1, e2⟩ := h
    rw [e1, e2]
    simp
  unfold turns_Row.f turns_few.f quorateref12_Row.f
  by_cases ha : a < 1
  · rw [if_neg (by omega), if_pos ha]
    exact ⟨false, rfl, rfl⟩
  rw [if_pos (by omega), if_neg ha]
  simp only [Option.bind_some]
  by_cases ha7 : a > 7
  · rw [show decide (a ≤ 7) = false by simp; omega, show decide (a > 7) = true by simpa using ha7]
    exact ⟨false, rfl, rfl⟩
  rw [show decide (a ≤ 7) = true by simp; omega, show decide (a > 7) = false by simp; omega]
  obtain ⟨n, rfl⟩ : ∃ n : Nat, a = (n : Int) := ⟨a.toNat, by omega⟩
  have h1 : 1 ≤ n := by omega
  have h7 : n ≤ 7 := by omega
  rw [show wrap64 (2 * (n : Int)) = ((2 * n : Nat) : Int) by unfold wrap64; omega]
  by_cases hL : L < 1
  · refine ⟨true, ?_, ?_⟩
    · rw [if_pos rfl]
      exact row_low l hl' n h1 h7 L hL 1000 (by omega)
    · rw [show (1000 : Nat) = 999 + 1 from rfl, quorateref12_Row.j0, if_neg (by decide), if_pos hL]
  · refine ⟨rowA (badOf l) n L (2 * n) 0 0, ?_, ?_⟩
    · rw [if_pos rfl]
      exact row_val l hl' n h1 h7 L (by omega) (2 * n) 1000 0 0 (by omega) (by omega) (by omega)
    · rw [show (1000 : Nat) = 999 + 1 from rfl, quorateref12_Row.j0, if_neg (by decide), if_neg hL]
      have e := l0_val l hl' n h1 h7 L (by omega) n 999 0 0 (by omega) (by omega) (by omega)
      rw [show ((0 : Nat) : Int) = 0 from rfl, Nat.zero_add] at e
      rw [e]
      obtain ⟨c1, c2⟩ := circle (badOf l) n h1 h7
      have hr := rowA_iff (badOf l) n L (by omega) (2 * n) 0 0
      congr 1
      rw [Bool.eq_iff_iff, hr]
      by_cases hc : cnt (badOf l) n 0 = n
      · rw [if_pos hc, c1 hc]
        simp
      · rw [if_neg hc, ← (c2 hc).2]
        simp [(c2 hc).1]

end Go.Proofs.Ytepcfjekijjagaa.Pure
