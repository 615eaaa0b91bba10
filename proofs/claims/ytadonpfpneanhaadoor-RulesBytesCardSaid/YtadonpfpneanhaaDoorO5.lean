/- The reader's flags, bytes and bytes with their number. -/
import Derived.Test.YtadonpfpneanhaaDoorW8
namespace Go.Proofs.YtadonpfpneanhaaDoor
open Go.RowKit

/-- The error of a wrong form. -/
def Form (A : List Addr) (w : World) : Prop := ∃ a, A[3]? = some a ∧ w.cell? ⟨5, 0, none⟩ = some (.iface 132 (.pointer (some a)))
theorem Form.later {A : List Addr} {w w' : World} (h : Form A w) (hb : Below w.heap.size w w') : Form A w' := by
  obtain ⟨a, h1, h2⟩ := h
  exact ⟨a, h1, (hb.cell (World.block_lt_of_cell? w _ h2)).trans h2⟩
theorem Sents.form {A : List Addr} {w : World} (h : Sents G18 132 A w) : Form A w := by
  obtain ⟨a, ha⟩ := sent_at h 3 (by omega)
  exact ⟨a, ha, h.cell 3 _ _ rfl ha⟩

/-- What holds of a reader ahead of each call. -/
structure Eye (A : List Addr) (w : World) (q : Nat) (sl : Value) (s : RS) : Prop where
  ers : Ers A w
  rd : Rd w q (errV A s.c) sl s.xs
  big : s.xs.length ≤ 140737488355328
  far : 4 ≤ q
theorem Ers.updq {A : List Addr} {w w' : World} {q : Nat} (h : Ers A w) (hq : 4 ≤ q) (hu : Upd q w noV w' noV) : Ers A w' := by
  have key : ∀ (b : Nat) (u : Value), b < 4 → w.cell? ⟨b, 0, none⟩ = some u → w'.cell? ⟨b, 0, none⟩ = some u := fun b u hb hc =>
    (hu.cell (World.block_lt_of_cell? w _ hc) (show b ≠ q by omega) (fun e => by simp [Value.ownBlock] at e)).trans hc
  obtain ⟨⟨a, h1, h2⟩, ⟨b, h3, h4⟩⟩ := h
  exact ⟨⟨a, h1, key _ _ (by omega) h2⟩, ⟨b, h3, key _ _ (by omega) h4⟩⟩
theorem Eye.next {A : List Addr} {w w' : World} {q : Nat} {sl sl' : Value} {s s' : RS} (h : Eye A w q sl s) (hR : Rd w' q (errV A s'.c) sl' s'.xs) (hu : Upd q w noV w' noV) (hl : s'.xs.length ≤ s.xs.length) : Eye A w' q sl' s' :=
  ⟨h.ers.updq h.far hu, hR, Nat.le_trans hl h.big, h.far⟩
theorem Eye.later {A : List Addr} {w w' : World} {q : Nat} {sl : Value} {s : RS} (h : Eye A w q sl s) (hb : Below w.heap.size w w') : Eye A w' q sl s :=
  ⟨h.ers.later hb, h.rd.later hb, h.big, h.far⟩

theorem RS.fail_le (s : RS) (k : Nat) : (s.fail k).xs.length ≤ s.xs.length := by unfold RS.fail; split <;> exact Nat.le_refl _
theorem RS.take_le (s : RS) (n : Nat) : (s.take n).xs.length ≤ s.xs.length := by
  unfold RS.take
  split
  · split
    · exact Nat.le_refl _
    · simp
  · exact Nat.le_refl _
theorem RS.pre_le (s : RS) (x : Int) : (s.pre x).xs.length ≤ s.xs.length := by
  unfold RS.pre
  split
  · exact s.fail_le _
  · exact Nat.le_refl _
theorem RS.number_le (s : RS) (x : Int) : (s.number x).xs.length ≤ s.xs.length := by
  unfold RS.number
  split
  · exact s.fail_le _
  · exact Nat.le_trans (RS.take_le _ _) (s.pre_le _)

/-- An error noted in a region that draws. -/
theorem rfail_drew {A : List Addr} {w : World} {q : Nat} {sl : Value} {s : RS} {k : Nat} {a : Addr} (h : Eye A w q sl s) (ha : A[k]? = some a) :
    ∀ w2 : World, w2 = w.drew → Calls Tryd.prog 55 #[.pointer (some ⟨q, 0, none⟩), .iface 132 (.pointer (some a))] w2 fun r w' => r = .returned (.tuple #[]) ∧ Eye A w' q sl (s.fail (k + 1)) ∧ Upd q w noV w' noV := fun w2 e => by
  subst e
  have := rfail_any A w.drew q sl s (k + 1) (by omega) (h.rd.later ((Below.refl _ _).drew))
  rw [errV_at ha] at this
  exact this.mono fun r w' hr => ⟨hr.1, h.next hr.2.1 hr.2.2.of_drew (s.fail_le _), hr.2.2.of_drew⟩

def RS.flagP (s : RS) : RS := if s.c = 0 ∧ 1 < s.xs.headD 0 then s.fail 4 else s
def RS.flag (s : RS) : RS := s.flagP.number 1
def RS.flagV (s : RS) : Bool := decide (s.flagP.numV 1 = 1)
def RS.fixed (s : RS) (n : Int) : RS := if n < 0 then s.fail 1 else s.take n.toNat
def RS.fixedV (s : RS) (n : Int) : List Int := if n < 0 then [] else s.took n.toNat
def RS.most (s : RS) (n most : Int) : RS := if s.c = 0 ∧ most < n then s.fail 1 else s
def RS.bytes (s : RS) (most : Int) : RS := ((s.number 2).most (s.numV 2) most).fixed (s.numV 2)
def RS.bytesV (s : RS) (most : Int) : List Int := ((s.number 2).most (s.numV 2) most).fixedV (s.numV 2)
theorem RS.flagP_le (s : RS) : s.flagP.xs.length ≤ s.xs.length := by
  unfold RS.flagP
  split
  · exact s.fail_le _
  · exact Nat.le_refl _
theorem RS.flag_le (s : RS) : s.flag.xs.length ≤ s.xs.length := Nat.le_trans (RS.number_le _ _) s.flagP_le
theorem RS.fixed_le (s : RS) (n : Int) : (s.fixed n).xs.length ≤ s.xs.length := by
  unfold RS.fixed
  split
  · exact s.fail_le _
  · exact s.take_le _
theorem RS.most_le (s : RS) (n most : Int) : (s.most n most).xs.length ≤ s.xs.length := by
  unfold RS.most
  split
  · exact s.fail_le _
  · exact Nat.le_refl _

theorem rnum_eye (A : List Addr) (w : World) (q : Nat) (sl : Value) (s : RS) (hE : Eye A w q sl s) (width : Int) :
    Calls Tryd.prog 20 #[.pointer (some ⟨q, 0, none⟩), .int .i64 width] w fun r w' => r = .returned (.int .i64 (s.numV width)) ∧ ∃ sl', Eye A w' q sl' (s.number width) ∧ Upd q w noV w' noV :=
  (rnum_any A w hE.ers q sl s hE.rd hE.big width).mono fun _ _ ⟨h1, sl', h2, h3⟩ => ⟨h1, sl', hE.next h2 h3 (s.number_le _), h3⟩
theorem take_eye (A : List Addr) (w : World) (q : Nat) (sl : Value) (s : RS) (hE : Eye A w q sl s) (n : Nat) :
    Calls Tryd.prog 62 #[.pointer (some ⟨q, 0, none⟩), .int .i64 n] w fun r w' => ∃ out sl', r = .returned out ∧ Src w' out (s.took n) ∧ Eye A w' q sl' (s.take n) ∧ Upd q w noV w' noV :=
  (take_any A w hE.ers q sl s hE.rd n hE.big).mono fun _ _ ⟨out, sl', h1, h2, h3, h4⟩ => ⟨out, sl', h1, h2, hE.next h3 h4 (s.take_le _), h4⟩

set_option maxHeartbeats 1000000 in
set_option maxRecDepth 100000 in
theorem rfixed_any (A : List Addr) (w : World) (q : Nat) (sl : Value) (s : RS) (hE : Eye A w q sl s) (n : Int) :
    Calls Tryd.prog 48 #[.pointer (some ⟨q, 0, none⟩), .int .i64 n] w fun r w' => ∃ out sl', r = .returned out ∧ Src w' out (s.fixedV n) ∧ Eye A w' q sl' (s.fixed n) ∧ Upd q w noV w' noV := by
  unfold RS.fixedV RS.fixed
  by_cases hn : n < 0
  · rw [if_pos hn, if_pos hn]
    obtain ⟨a1, ha1, hg⟩ := hE.ers.e0
    have hF := Lib.hid (rfail_drew hE ha1)
    clear hE
    go_enter Tryd.func48, Tryd.ntmps48
    go_wp2_with fail
    go_region_with (first
      | (go_at_call 55; refine (hF.out _ rfl).mono ?_; rintro r w4 ⟨rfl, b4⟩))
    all_goals go_wp2_with fail
    all_goals exact bodyPost_ret (v := .slice none 0 0) (by simp [results, Tryd.f48, go_sem]) rfl ⟨_, sl, rfl, .inl ⟨rfl, rfl⟩, b4⟩
  · rw [if_neg hn, if_neg hn]
    have HT := Lib.hid (take_eye A w q sl s hE n.toNat)
    rw [Int.toNat_of_nonneg (by omega)] at HT
    have HL : Hid ((s.took n.toNat).length ≤ 140737488355328) := by
      show (s.took n.toNat).length ≤ 140737488355328
      unfold RS.took
      have := hE.big
      split
      · rw [List.length_take]; omega
      · simp
    clear hE
    go_enter Tryd.func48, Tryd.ntmps48
    go_wp2_with fail
    refine HT.out.mono ?_
    rintro r w1 ⟨out, sl', rfl, hs, hE1, hU1⟩
    have HC := Lib.hid (clone_any w1 out _ hs HL.out)
    have HK := Lib.hid (And.intro hE1 hU1)
    clear hs hE1 hU1
    go_wp2_with fail
    refine HC.out.mono ?_
    rintro r w2 ⟨v2, rfl, ho, hb⟩
    have HO := Lib.hid (Src.of_own ho)
    have HE := Lib.hid (HK.out.1.later hb)
    have HU := Lib.hid (HK.out.2.trans (Upd.of_below hb))
    clear ho hb
    go_wp2_with fail
    go_ret
    exact ⟨_, sl', rfl, HO.out, HE.out, HU.out⟩

set_option maxHeartbeats 1000000 in
set_option maxRecDepth 100000 in
theorem rflag_any (A : List Addr) (w : World) (hFo : Form A w) (q : Nat) (sl : Value) (s : RS) (hE : Eye A w q sl s) :
    Calls Tryd.prog 47 #[.pointer (some ⟨q, 0, none⟩)] w fun r w' => r = .returned (.bool s.flagV) ∧ ∃ sl', Eye A w' q sl' s.flag ∧ Upd q w noV w' noV := by
  obtain ⟨k, xs⟩ := s
  have k0 := hE.rd.c0
  have k1 := hE.rd.c1
  unfold RS.flagV RS.flag
  by_cases hk : k = 0
  · subst hk
    replace k0 : w.cell? ⟨q, 0, none⟩ = some .nilIface := k0
    cases xs with
    | nil =>
      rw [show RS.flagP ⟨0, []⟩ = ⟨0, []⟩ from rfl]
      have HN := Lib.hid (rnum_eye A w q sl ⟨0, []⟩ hE 1)
      obtain ⟨a, c, rfl⟩ := hE.rd.src.len
      generalize RS.numV ⟨0, []⟩ 1 = V at *
      clear hE hFo
      go_enter Tryd.func47, Tryd.ntmps47
      go_wp2_with fail
      refine HN.out.mono ?_
      rintro r w1 ⟨rfl, h1⟩
      have HK := Lib.hid h1
      clear h1
      go_wp2_with fail
      go_ret
      exact ⟨rfl, HK.out⟩
    | cons x t =>
      obtain ⟨a, c, rfl⟩ := hE.rd.src.len
      obtain ⟨ad, rfl, hc0⟩ := hE.rd.src.at (k := 0) (by simp)
      rw [show ad.add 0 = ad from if_pos rfl] at hc0
      replace hc0 : w.cell? ad = some (.int .u8 x) := hc0
      have hlp : (0 : Int) < ((x :: t).length : Nat) := by simp
      have hlp2 : 0 < (x :: t).length := by simp
      by_cases hx : 1 < x
      · rw [show RS.flagP ⟨0, x :: t⟩ = RS.fail ⟨0, x :: t⟩ 4 from if_pos ⟨rfl, hx⟩]
        obtain ⟨a1, ha1, hg⟩ := hFo
        have hF := Lib.hid (rfail_drew hE ha1)
        generalize RS.fail ⟨0, x :: t⟩ 4 = s4 at *
        obtain ⟨V, hV⟩ : ∃ V, s4.numV 1 = V := ⟨_, rfl⟩
        rw [hV]
        generalize (x :: t).length = L at *
        clear hE
        go_enter Tryd.func47, Tryd.ntmps47
        go_wp2_with fail
        go_region_with (first
          | (go_at_call 55; refine (hF.out _ rfl).mono ?_; rintro r w4 ⟨rfl, b4⟩))
        all_goals
          have hn := rnum_eye A w4 q _ s4 b4.1 1
          rw [hV] at hn
          have HN := Lib.hid hn
          have HU := Lib.hid b4.2
          clear b4 hn
          go_wp2_with fail
          refine HN.out.mono ?_
          rintro r w1 ⟨rfl, sl', h1, h2⟩
          have HK := Lib.hid (And.intro h1 (HU.out.trans h2))
          clear h1 h2
          go_wp2_with fail
          go_ret
          exact ⟨rfl, sl', HK.out⟩
      · rw [show RS.flagP ⟨0, x :: t⟩ = ⟨0, x :: t⟩ from if_neg (fun h => hx h.2)]
        have HN := Lib.hid (rnum_eye A w q _ ⟨0, x :: t⟩ hE 1)
        generalize RS.numV ⟨0, x :: t⟩ 1 = V at *
        generalize (x :: t).length = L at *
        clear hE hFo
        go_enter Tryd.func47, Tryd.ntmps47
        go_wp2_with fail
        refine HN.out.mono ?_
        rintro r w1 ⟨rfl, h1⟩
        have HK := Lib.hid h1
        clear h1
        go_wp2_with fail
        go_ret
        exact ⟨rfl, HK.out⟩
  · rw [show RS.flagP ⟨k, xs⟩ = ⟨k, xs⟩ from if_neg (fun h => hk h.1)]
    have HN := Lib.hid (rnum_eye A w q sl ⟨k, xs⟩ hE 1)
    obtain ⟨u, hu⟩ := errV_pos A hk
    simp only at k0
    rw [hu] at k0
    generalize RS.numV ⟨k, xs⟩ 1 = V at *
    clear hE hFo hu
    go_enter Tryd.func47, Tryd.ntmps47
    go_wp2_with fail
    refine HN.out.mono ?_
    rintro r w1 ⟨rfl, h1⟩
    have HK := Lib.hid h1
    clear h1
    go_wp2_with fail
    go_ret
    exact ⟨rfl, HK.out⟩

set_option maxHeartbeats 1000000 in
set_option maxRecDepth 100000 in
theorem rbytes_any (A : List Addr) (w : World) (q : Nat) (sl : Value) (s : RS) (hE : Eye A w q sl s) (most : Int) :
    Calls Tryd.prog 49 #[.pointer (some ⟨q, 0, none⟩), .int .i64 most] w fun r w' => ∃ out sl', r = .returned out ∧ Src w' out (s.bytesV most) ∧ Eye A w' q sl' (s.bytes most) ∧ Upd q w noV w' noV := by
  unfold RS.bytesV RS.bytes
  have HN := Lib.hid (rnum_eye A w q sl s hE 2)
  generalize s.number 2 = s1 at *
  generalize s.numV 2 = V at *
  clear hE
  unfold RS.most
  by_cases hb : s1.c = 0 ∧ most < V
  · rw [if_pos hb]
    obtain ⟨hc, hm⟩ := hb
    obtain ⟨s4, h4⟩ : ∃ s4, s1.fail 1 = s4 := ⟨_, rfl⟩
    rw [h4]
    go_enter Tryd.func49, Tryd.ntmps49
    go_wp2_with fail
    refine HN.out.mono ?_
    rintro r w1 ⟨rfl, sl1, hE1, hU1⟩
    obtain ⟨a1, ha1, hg⟩ := hE1.ers.e0
    have hf := rfail_drew hE1 ha1
    rw [show 0 + 1 = 1 from rfl, h4] at hf
    have hF := Lib.hid hf
    clear hf
    have k0 := hE1.rd.c0
    rw [hc, errV_zero] at k0
    have HU1 := Lib.hid hU1
    clear hE1 hU1
    go_wp2_with fail
    go_region_with (first
      | (go_at_call 55; refine (hF.out _ rfl).mono ?_; rintro r w4 ⟨rfl, b4⟩))
    all_goals
      have HX := Lib.hid (rfixed_any A w4 q _ s4 b4.1 V)
      have HU := Lib.hid (HU1.out.trans b4.2)
      clear b4
      go_wp2_with fail
      refine HX.out.mono ?_
      rintro r w5 ⟨out, sl', rfl, h1, h2, h3⟩
      have HK := Lib.hid (And.intro h1 (And.intro h2 (HU.out.trans h3)))
      clear h1 h2 h3
      go_wp2_with fail
      go_ret
      exact ⟨_, sl', rfl, HK.out⟩
  · rw [if_neg hb]
    go_enter Tryd.func49, Tryd.ntmps49
    go_wp2_with fail
    refine HN.out.mono ?_
    rintro r w1 ⟨rfl, sl1, hE1, hU1⟩
    have k0 := hE1.rd.c0
    have HX := Lib.hid (rfixed_any A w1 q _ s1 hE1 V)
    have HU := Lib.hid hU1
    clear hE1 hU1
    by_cases hc : s1.c = 0
    · have hm : ¬ most < V := fun h => hb ⟨hc, h⟩
      rw [hc, errV_zero] at k0
      clear hb hc
      go_wp2_with fail
      refine HX.out.mono ?_
      rintro r w5 ⟨out, sl', rfl, h1, h2, h3⟩
      have HK := Lib.hid (And.intro h1 (And.intro h2 (HU.out.trans h3)))
      clear h1 h2 h3
      go_wp2_with fail
      go_ret
      exact ⟨_, sl', rfl, HK.out⟩
    · obtain ⟨u, hu⟩ := errV_pos A hc
      rw [hu] at k0
      clear hb hc hu
      go_wp2_with fail
      refine HX.out.mono ?_
      rintro r w5 ⟨out, sl', rfl, h1, h2, h3⟩
      have HK := Lib.hid (And.intro h1 (And.intro h2 (HU.out.trans h3)))
      clear h1 h2 h3
      go_wp2_with fail
      go_ret
      exact ⟨_, sl', rfl, HK.out⟩

end Go.Proofs.YtadonpfpneanhaaDoor
