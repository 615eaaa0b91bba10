/- A reader and the document's reader side by side. -/
import Derived.Test.YtadonpfpneanhaaDoorM8
import Derived.Test.YtadonpfpneanhaaDoorL7
namespace Go.Proofs.YtadonpfpneanhaaDoor
open Go.RowKit

/-- A reader at q, the document's at m, a box at bx, bytes that were made and are kept. -/
structure St (A : List Addr) (w0 : World) (q m bx : Nat) (b : Value) (B : List Int) (ob : Obj) (W : World) (sl : Value) (s t : RS) (K : List (Value × List Int)) : Prop where
  eye : Eye A W q sl s
  mr : Mr W m b B t
  qm : q < m
  mx : m < bx
  bq : B ≠ [] → ∀ ad l c, b = .slice (some ad) l c → ad.block < q
  box : W.heap[bx]? = some ob
  bel : Below q w0 W
  keep : ∀ p ∈ K, W.ownsRow (bx + 1) 5 1 p.1 p.2.length (u8s p.2)

section
variable {A : List Addr} {w0 W W' : World} {q m bx : Nat} {b : Value} {B : List Int} {ob : Obj} {sl sl' : Value} {s s' t t' : RS} {K : List (Value × List Int)}
theorem noV_own (g : Nat) : some g ≠ noV.ownBlock := fun e => by simp [Value.ownBlock] at e
theorem Mr.upd (h : Mr W m b B t) (hu : Upd q W noV W' noV) (hm : m ≠ q) (hb : B ≠ [] → ∀ ad l c, b = .slice (some ad) l c → ad.block ≠ q) : Mr W' m b B t := by
  obtain ⟨at', h1, h2⟩ := h.blk
  exact ⟨⟨at', (hu.same m h.lt hm (noV_own _)).trans h1, h2⟩, h.src.updm hu (fun hB ad l c e => ⟨hb hB ad l c e, noV_own _⟩), h.ap, h.by8, h.big⟩
theorem Eye.upd (h : Eye A W q sl s) (hu : Upd m W noV W' noV) (hm : q < m) : Eye A W' q sl s :=
  ⟨h.ers.updq (by have := h.far; omega) hu, h.rd.far hu hm (Nat.le_refl _) (fun g hg => by simp [Value.ownBlock] at hg), h.big, h.far⟩
theorem Upd.under (hu : Upd m W noV W' noV) (hq : q ≤ m) (hs : m < W.heap.size) : Below q W W' := (hu.below (B := q) hq (by omega) (fun g hg => by simp [Value.ownBlock] at hg)).1
theorem St.bxl (h : St A w0 q m bx b B ob W sl s t K) : bx < W.heap.size := (Array.getElem?_eq_some_iff.1 h.box).1
theorem St.left (h : St A w0 q m bx b B ob W sl s t K) (hE : Eye A W' q sl' s') (hu : Upd q W noV W' noV) : St A w0 q m bx b B ob W' sl' s' t K := by
  have h1 := h.qm
  have h2 := h.mx
  exact ⟨hE, h.mr.upd hu (by omega) (fun hB ad l c e => Nat.ne_of_lt (h.bq hB ad l c e)), h1, h2, h.bq, (hu.same bx h.bxl (by omega) (noV_own _)).trans h.box, h.bel.trans (hu.under (Nat.le_refl _) h.eye.rd.lt),
    fun p hp => own_keep (h.keep p hp) (fun g hg => hu.same g ((h.keep p hp).lt g hg).2 (by have := ((h.keep p hp).lt g hg).1; omega) (noV_own _))⟩
theorem St.right (h : St A w0 q m bx b B ob W sl s t K) (hM : Mr W' m b B t') (hu : Upd m W noV W' noV) : St A w0 q m bx b B ob W' sl s t' K := by
  have h1 := h.qm
  have h2 := h.mx
  exact ⟨h.eye.upd hu h1, hM, h1, h2, h.bq, (hu.same bx h.bxl (by omega) (noV_own _)).trans h.box, h.bel.trans (hu.under (Nat.le_of_lt h1) h.mr.lt),
    fun p hp => own_keep (h.keep p hp) (fun g hg => hu.same g ((h.keep p hp).lt g hg).2 (by have := ((h.keep p hp).lt g hg).1; omega) (noV_own _))⟩
theorem St.later (h : St A w0 q m bx b B ob W sl s t K) (hb : Below W.heap.size W W') : St A w0 q m bx b B ob W' sl s t K := by
  have h1 := h.eye.rd.lt
  exact ⟨h.eye.later hb, h.mr.later hb, h.qm, h.mx, h.bq, (hb.block bx h.bxl).trans h.box, h.bel.trans (hb.mono (Nat.le_of_lt h1)), fun p hp => own_keep (h.keep p hp) (fun g hg => hb.block g ((h.keep p hp).lt g hg).2)⟩
theorem St.add (h : St A w0 q m bx b B ob W sl s t K) {v : Value} {xs : List Int} (ho : W.ownsRow (bx + 1) 5 1 v xs.length (u8s xs)) : St A w0 q m bx b B ob W sl s t ((v, xs) :: K) :=
  ⟨h.eye, h.mr, h.qm, h.mx, h.bq, h.box, h.bel, fun p hp => by
    rcases List.mem_cons.1 hp with rfl | hp
    · exact ho
    · exact h.keep p hp⟩
theorem St.conv1 {v : Value} {xs : List Int} (h : St A w0 q m bx b B ob W sl s t ((v, xs) :: K)) : (convert 22 9 v).run Tryd.prog W = .ok (.string (strOfNums xs)) W :=
  str_src (Src.of_own (h.keep _ (List.mem_cons_self ..)))
theorem St.conv2 {v v2 : Value} {xs ys : List Int} (h : St A w0 q m bx b B ob W sl s t ((v, xs) :: (v2, ys) :: K)) : (convert 22 9 v2).run Tryd.prog W = .ok (.string (strOfNums ys)) W :=
  str_src (Src.of_own (h.keep _ (List.mem_cons_of_mem _ (List.mem_cons_self ..))))
theorem St.cell {cs : Array Value} {ty : TypeId} {fz : Nat × Nat} (h : St A w0 q m bx b B (.cells cs ty fz) W sl s t K) (j : Nat) : W.cell? ⟨bx, j, none⟩ = cs[j]? := cell_of_blk h.box j
theorem St.like (h : St A w0 q m bx b B ob W sl s t K) (hl : RS.like t t') : St A w0 q m bx b B ob W sl s t' K :=
  ⟨h.eye, h.mr.like hl, h.qm, h.mx, h.bq, h.box, h.bel, h.keep⟩

theorem Eye.low {N : Nat} (h : Eye A W q sl s) (hb : Below N W W') (hq : q < N) : Eye A W' q sl s := by
  have key : ∀ (k : Nat) (u : Value), k < 4 → W.cell? ⟨k, 0, none⟩ = some u → W'.cell? ⟨k, 0, none⟩ = some u := fun k u hk hc => (hb.cell (p := ⟨k, 0, none⟩) (show k < N by have := h.far; omega)).trans hc
  obtain ⟨⟨a, h1, h2⟩, ⟨c, h3, h4⟩⟩ := h.ers
  exact ⟨⟨⟨a, h1, key _ _ (by omega) h2⟩, ⟨c, h3, key _ _ (by omega) h4⟩⟩, ⟨(hb.block q hq).trans h.rd.blk, h.rd.src.lowm hb (fun _ ad l c e => Nat.lt_trans (h.rd.ap ad l c e).1 hq), h.rd.ap, h.rd.by8⟩, h.big, h.far⟩
theorem St.low (h : St A w0 q m bx b B ob W sl s t []) (hb : Below (bx + 1) W W') : St A w0 q m bx b B ob W' sl s t [] := by
  have h1 := h.qm
  have h2 := h.mx
  obtain ⟨at', e1, e2⟩ := h.mr.blk
  exact ⟨h.eye.low hb (by omega), ⟨⟨at', (hb.block m (by omega)).trans e1, e2⟩, h.mr.src.lowm hb (fun hB ad l c e => by have := h.bq hB ad l c e; omega), h.mr.ap, h.mr.by8, h.mr.big⟩, h1, h2, h.bq, (hb.block bx (by omega)).trans h.box, h.bel.trans (hb.mono (by omega)), fun p hp => by cases hp⟩

theorem st_num (h : St A w0 q m bx b B ob W sl s t K) (width : Int) : Calls Tryd.prog 20 #[.pointer (some ⟨q, 0, none⟩), .int .i64 width] W fun r W' => r = .returned (.int .i64 (s.numV width)) ∧ ∃ sl', St A w0 q m bx b B ob W' sl' (s.number width) t K :=
  (rnum_eye A W q sl s h.eye width).mono fun _ _ ⟨e1, sl', e2, e3⟩ => ⟨e1, sl', h.left e2 e3⟩
theorem st_mnum (h : St A w0 q m bx b B ob W sl s t K) (width : Int) : Calls Tryd.prog 79 #[.pointer (some ⟨m, 0, none⟩), .int .i64 width] W fun r W' => r = .returned (.int .i64 (t.numV width)) ∧ St A w0 q m bx b B ob W' sl s (t.number width) K :=
  (mnum_any W m b B t h.mr width).mono fun _ _ ⟨e1, e2, e3⟩ => ⟨e1, h.right e2 e3⟩
theorem st_fixed (h : St A w0 q m bx b B ob W sl s t K) (n : Int) : Calls Tryd.prog 48 #[.pointer (some ⟨q, 0, none⟩), .int .i64 n] W fun r W' => ∃ out sl', r = .returned out ∧ St A w0 q m bx b B ob W' sl' (s.fixed n) t ((out, s.fixedV n) :: K) :=
  (rfixed_own A W q sl s h.eye n).mono fun _ _ ⟨out, sl', e1, e2, e3, e4⟩ => ⟨out, sl', e1, (h.left e3 e4).add (own_base e2 h.bxl)⟩
theorem st_mfixed (h : St A w0 q m bx b B ob W sl s t K) (n : Int) : Calls Tryd.prog 81 #[.pointer (some ⟨m, 0, none⟩), .int .i64 n] W fun r W' => ∃ out, r = .returned out ∧ St A w0 q m bx b B ob W' sl s (t.fixed n) ((out, t.fixedV n) :: K) :=
  (mfixed_any W m b B t h.mr n).mono fun _ _ ⟨out, e1, e2, e3, e4⟩ => ⟨out, e1, (h.right e3 e4).add (own_base e2 h.bxl)⟩
theorem st_bytes (h : St A w0 q m bx b B ob W sl s t K) (n : Int) : Calls Tryd.prog 49 #[.pointer (some ⟨q, 0, none⟩), .int .i64 n] W fun r W' => ∃ out sl', r = .returned out ∧ St A w0 q m bx b B ob W' sl' (s.bytes n) t ((out, s.bytesV n) :: K) :=
  (rbytes_own A W q sl s h.eye n).mono fun _ _ ⟨out, sl', e1, e2, e3, e4⟩ => ⟨out, sl', e1, (h.left e3 e4).add (own_base e2 h.bxl)⟩
theorem st_mbytes (h : St A w0 q m bx b B ob W sl s t K) (n : Int) : Calls Tryd.prog 82 #[.pointer (some ⟨m, 0, none⟩), .int .i64 n] W fun r W' => ∃ out, r = .returned out ∧ St A w0 q m bx b B ob W' sl s (t.bytes n) ((out, t.bytesV n) :: K) :=
  (mbytes_any W m b B t h.mr n).mono fun _ _ ⟨out, e1, e2, e3, e4⟩ => ⟨out, e1, (h.right e3 e4).add (own_base e2 h.bxl)⟩
end

/-- What an op reads. -/
def RS.op (s : RS) (o : Op5) : RS :=
  if o.k = 1 then s.number o.width else if o.k = 2 then s.flag else if o.k = 3 then s.fixed o.n else if o.k = 4 then s.bytes o.most else if o.k = 5 then s.listS o.most else if o.k = 6 then s.fail 10 else s

end Go.Proofs.YtadonpfpneanhaaDoor
