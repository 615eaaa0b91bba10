/- Lists of lists: opening, writing. -/
import Derived.Test.YtadonpfpneanhaaDoorO9
import Derived.Test.YtadonpfpneanhaaDoorS3
namespace Go.Proofs.YtadonpfpneanhaaDoor
open Go.RowKit Go.ChangeShapes Go.WideShapes Go.Deep Go.Joins

/-- A slice of slices of bytes: element i is the value s i, which reads as x i. -/
def ListsAt (w : World) (a : Option Addr) (len cap : Nat) (s : Nat → Value) (x : Nat → List Int) : Prop :=
  len ≤ cap ∧ cap ≤ maxLen ∧ (∀ i, i < len → Src w (s i) (x i) ∧ ∀ y ∈ x i, 0 ≤ y ∧ y < 256) ∧
    (0 < len → ∃ b off, a = some ⟨b, off, none⟩ ∧ b < w.heap.size ∧ ∀ i, i < len → w.cell? ⟨b, off + i, none⟩ = some (s i))
theorem ListsAt.below {w w' : World} {a : Option Addr} {len cap : Nat} {s : Nat → Value} {x : Nat → List Int} (h : ListsAt w a len cap s x) (hb : Below w.heap.size w w') : ListsAt w' a len cap s x := by
  obtain ⟨h1, h2, h3, h4⟩ := h
  refine ⟨h1, h2, fun i hi => ⟨(h3 i hi).1.below hb, (h3 i hi).2⟩, fun h0 => ?_⟩
  obtain ⟨b, off, rfl, hlt, hc⟩ := h4 h0
  exact ⟨b, off, rfl, Nat.lt_of_lt_of_le hlt hb.size, fun i hi => (hb.cell (p := ⟨b, off + i, none⟩) hlt).trans (hc i hi)⟩

theorem lists_open {H : Type} {enc : TypeId × Value → H} {W : World} {base : Nat} {held : Bool} {a : Option Addr} {len cap : Nat} {d : DataW H} {ps : List MemPlace}
    (h : DataW.Trod enc Tryd.prog W base (fun _ => true) held 59 (.slice a len cap) d ps) : ∃ sx : (Nat → Value) × (Nat → List Int), ListsAt W a len cap sx.1 sx.2 := by
  obtain ⟨fuel, hf⟩ := h
  rcases open_slice Tryd.underlying59 hf with ⟨hcs, _⟩ | ⟨y, l, c, m, n, D, Pl, hcs, _, hl, hm, hmm, _, hi⟩
  · simp [Value.cells] at hcs
    obtain ⟨rfl, rfl, rfl⟩ := hcs
    exact ⟨(fun _ => .slice none 0 0, fun _ => []), Nat.le_refl _, Nat.zero_le _, fun i hi => absurd hi (by omega), fun h => absurd h (by omega)⟩
  · simp [Value.cells] at hcs
    obtain ⟨rfl, rfl, rfl⟩ := hcs
    have hmm' : m = cap := by simpa using hmm
    subst hmm'
    have hC : Tryd.prog.cellsOf 22 = 1 := by kernel_rfl
    have key : ∀ i, ∃ o : Value × List Int, i < len → (Src W o.1 o.2 ∧ ∀ y ∈ o.2, 0 ≤ y ∧ y < 256) ∧ W.cell? (y.add i) = some o.1 := by
      intro i
      by_cases hil : i < len
      · obtain ⟨cs', hc, ht'⟩ := hi i (by omega)
        rw [hC, Nat.mul_one] at hc
        obtain ⟨_, hcl, hat⟩ := World.cells?_some hc
        match cs', hcl, ht', hat with
        | [v], _, ht', hat =>
          obtain ⟨xs, h1, h2⟩ := src_of_trod ht'
          have hcell := hat 0 (by omega)
          rw [Go.Deep.add_add] at hcell
          exact ⟨(v, xs), fun _ => ⟨⟨h1, h2⟩, hcell⟩⟩
      · exact ⟨(.slice none 0 0, []), fun h => absurd h hil⟩
    obtain ⟨z, hz⟩ := Classical.axiomOfChoice key
    refine ⟨(fun i => (z i).1, fun i => (z i).2), hl, hm, fun i hil => (hz i hil).1, fun h0 => ?_⟩
    obtain ⟨b, off, spot⟩ := y
    have e0 := (hz 0 h0).2
    have hspot : spot = none := by simpa [Addr.add] using World.cell?_spot e0
    subst hspot
    have hlt := lt_of_cell e0
    rw [add_plain] at hlt
    refine ⟨b, off, rfl, hlt, fun i hil => ?_⟩
    have e1 := (hz i hil).2
    rw [add_plain] at e1
    exact e1

/-- The bytes of the first k lists. -/
def nestB (x : Nat → List Int) : Nat → List Int
  | 0 => []
  | k + 1 => nestB x k ++ (((x k).length : Int) :: x k)
theorem nestB_le (x : Nat → List Int) (n : Nat) (h : ∀ i, i < n → (x i).length ≤ 200) (k : Nat) (hk : k ≤ n) : (nestB x k).length ≤ 201 * k := by
  induction k with
  | zero => simp [nestB]
  | succ k ih =>
    have h1 := ih (by omega)
    have h2 := h k (by omega)
    unfold nestB
    rw [List.length_append, List.length_cons]
    omega
theorem nestB_in (x : Nat → List Int) (n : Nat) (h : ∀ i, i < n → (x i).length ≤ 200 ∧ ∀ y ∈ x i, 0 ≤ y ∧ y < 256) (k : Nat) (hk : k ≤ n) : ∀ y ∈ nestB x k, 0 ≤ y ∧ y < 256 := by
  induction k with
  | zero => intro y hy; simp [nestB] at hy
  | succ k ih =>
    intro y hy
    unfold nestB at hy
    rcases List.mem_append.1 hy with h1 | h1
    · exact ih (by omega) y h1
    · rcases List.mem_cons.1 h1 with h2 | h2
      · have := (h k (by omega)).1; omega
      · exact (h k (by omega)).2 y h2
theorem nestB_more (x : Nat → List Int) (n : Nat) : ∀ k, k ≤ n → ∃ t, nestB x n = nestB x k ++ t := by
  induction n with
  | zero =>
    intro k hk
    obtain rfl : k = 0 := by omega
    exact ⟨[], by simp⟩
  | succ n ih =>
    intro k hk
    by_cases hx : k = n + 1
    · subst hx
      exact ⟨[], by simp⟩
    · obtain ⟨t, ht⟩ := ih k (by omega)
      exact ⟨t ++ (((x n).length : Int) :: x n), by
        show nestB x n ++ _ = _
        rw [ht, List.append_assoc]⟩
theorem nestB_next {x : Nat → List Int} {n k : Nat} {t : List Int} (hk : k < n) (h : nestB x n = nestB x k ++ t) : ∃ t', t = ((x k).length : Int) :: (x k ++ t') ∧ nestB x n = nestB x (k + 1) ++ t' := by
  obtain ⟨t', ht⟩ := nestB_more x n (k + 1) (by omega)
  refine ⟨t', ?_, ht⟩
  have h2 : nestB x k ++ t = nestB x k ++ (((x k).length : Int) :: (x k ++ t')) := by
    rw [← h, ht]
    show nestB x k ++ (((x k).length : Int) :: x k) ++ t' = _
    rw [List.append_assoc]
    rfl
  exact List.append_cancel_left h2

set_option maxHeartbeats 1000000 in
set_option maxRecDepth 100000 in
/-- One list of bytes, by the law's closure. -/
theorem one_list (A : List Addr) (w : World) (p : Nat) (v sl : Value) (s : WS) (xs : List Int) (hP : Pen A w p v sl s xs) (h8 : ∀ x ∈ xs, 0 ≤ x ∧ x < 256) (hl : xs.length ≤ 200)
    (hlen : s.bs.length + xs.length + 16 ≤ 140737488355328) :
    Calls Tryd.prog 33 #[.pointer (some ⟨p, 0, none⟩), sl] w fun r w' => r = .returned (.tuple #[]) ∧ ∃ v', Wr w' p (errV A (s.put 0 ((xs.length : Int) :: xs)).c) v' (s.put 0 ((xs.length : Int) :: xs)).bs ∧ Upd p w v w' v' := by
  have HN := Lib.hid (put_bytes 35 (.inr rfl) A w p v sl s xs 255 hP h8 hlen (c := 0) (if_neg (by omega)))
  clear hP h8 hlen
  go_enter Tryd.func33, Tryd.ntmps33
  go_wp2_with fail
  refine HN.out.mono ?_
  rintro r w1 ⟨rfl, k⟩
  have HK := Lib.hid k
  clear k
  go_wp2_with fail
  go_end0
  exact ⟨rfl, HK.out⟩

set_option maxHeartbeats 2000000 in
set_option maxRecDepth 100000 in
/-- A list of lists is written. -/
theorem put_lists (A : List Addr) (w : World) (p : Nat) (v : Value) (bs : List Int) (a : Option Addr) (n c : Nat) (s : Nat → Value) (x : Nat → List Int) (hE : Ers A w) (hW : Wr w p .nilIface v bs) (hF : Far p v) (hb : bs.length ≤ 400) (hZ : ListsAt w a n c s x) (hn : n ≤ 40) (hx : ∀ i, i < n → (x i).length ≤ 200)
    (haw : ∀ i, i < n → Away (s i) (x i) p v) (hab : 0 < n → ∀ b off, a = some ⟨b, off, none⟩ → b ≠ p ∧ some b ≠ v.ownBlock) :
    Calls Tryd.prog 32 #[.pointer (some ⟨p, 0, none⟩), .slice a n c, .int .i64 255, .func (.func 33) #[] #[]] w fun r w' => r = .returned (.tuple #[]) ∧ ∃ v', Wr w' p .nilIface v' (bs ++ ((n : Int) :: nestB x n)) ∧ Upd p w v w' v' := by
  have hnn := num_put A w hE p v ⟨0, bs⟩ hW (by simp only; omega) n 1 (c := 0) (if_neg (good_one (by omega) (by omega))) (be_one (by omega) (by omega))
  have HN := Lib.hid hnn
  have HE := Lib.hid hE
  have HW := Lib.hid hW
  have HF := Lib.hid hF
  have HZ := Lib.hid hZ
  have HAW := Lib.hid haw
  have HAB := Lib.hid hab
  have HX := Lib.hid hx
  clear hnn hE hW hF hZ haw hab hx
  go_enter Tryd.func32, Tryd.ntmps32
  go_wp2_with fail
  refine HN.out.mono ?_
  rintro r w1 ⟨rfl, v1, hW1, hU1⟩
  have HW1 := Lib.hid (And.intro hW1 hU1)
  clear hW1 hU1
  go_wp2_with fail
  go_loopw [30] (fun i wr => ∃ (k : Nat) (v' : Value), k ≤ n ∧ i = .int .i64 k ∧ Wr wr p .nilIface v' (bs ++ ((n : Int) :: nestB x k)) ∧ Upd p w v wr v') (fun i _ => n - (intOf i).toNat)
  case atStart => exact ⟨0, v1, Nat.zero_le _, rfl, HW1.out.1, HW1.out.2⟩
  case round =>
    obtain ⟨k, v', hk, rfl, hW, hU⟩ := hrel
    have HWk := Lib.hid hW
    have HU := Lib.hid hU
    by_cases hlt : k < n
    · obtain ⟨_, _, hsr, hcs⟩ := HZ.out
      obtain ⟨b, off, rfl, hbl, hcell⟩ := hcs (by omega)
      have k0 := (hU.cell (a := ⟨b, off + k, none⟩) hbl (HAB.out (by omega) b off rfl).1 (HAB.out (by omega) b off rfl).2).trans (hcell k hlt)
      obtain ⟨hs, h8⟩ := hsr k hlt
      have hP : Pen A wr p v' (s k) ⟨0, bs ++ ((n : Int) :: nestB x k)⟩ (x k) := ⟨HE.out.upd HF.out hU, hW, hs.keep (HAW.out k hlt) hU, (HAW.out k hlt).next hs hU, HF.out.next HW.out.lt hU⟩
      have hone := one_list A wr p v' (s k) ⟨0, bs ++ ((n : Int) :: nestB x k)⟩ (x k) hP h8 (HX.out k hlt) (by
        have := nestB_le x n HX.out k hk
        have := HX.out k hlt
        simp only [List.length_append, List.length_cons]
        omega)
      rw [show WS.put ⟨0, bs ++ ((n : Int) :: nestB x k)⟩ 0 (((x k).length : Int) :: x k) = ⟨0, bs ++ ((n : Int) :: nestB x (k + 1))⟩ by
        show (⟨0, bs ++ ((n : Int) :: nestB x k) ++ (((x k).length : Int) :: x k)⟩ : WS) = _
        rw [List.append_assoc]
        rfl] at hone
      have HONE := Lib.hid hone
      obtain ⟨a4, c4, h4⟩ := hs.len
      rw [h4] at k0 HONE
      clear hsr hcs hcell hs h8 hP hone hW hU h4
      go_wp2_with fail
      refine HONE.out.mono ?_
      rintro r w4 ⟨rfl, v4, hW4, hU4⟩
      have HN4 := Lib.hid (And.intro hW4 (HU.out.trans hU4))
      clear hW4 hU4 k0
      go_wp2_with fail
      go_roundw
      case rel => exact ⟨k + 1, v4, by omega, by go_num, HN4.out⟩
      case measure => simp [intOf]; omega
    · have hke : k = n := by omega
      subst hke
      clear hW hU
      go_wp2_with fail
      go_end0
      exact ⟨rfl, v', HWk.out, HU.out⟩

end Go.Proofs.YtadonpfpneanhaaDoor
