/- Each step of the rules by one contract: the state behind it and the error's number, as plain functions tell them. -/
import Derived.Test.YtadonpfpneanhaaDoorR4
namespace Go.Proofs.YtadonpfpneanhaaDoor
open Go.RowKit

theorem begin_right {a b c d e epoch round : Int} (h : beginC a b c d e epoch round = 0) : RightP a b c d e := (begin_zero h).1

theorem vote_any (A : List Addr) (s : S5) (epoch round q g : Int) (w : World) (h : Sents G18 132 A w) :
    Calls Tryd.prog 46 #[s.v, .int .i64 epoch, .int .i64 round, .int .i64 q, .int .i64 g] w fun r w' => r = .returned (.tuple #[(voteS s epoch round q g).v, errV A (voteC s epoch round q)]) ∧ Below w.heap.size w w' := by
  obtain ⟨a, b, c, d, e⟩ := s
  unfold voteS voteC
  by_cases hB : beginC a b c d e epoch round = 0
  · rw [if_neg (show ¬ (S5.begin ⟨a, b, c, d, e⟩ epoch round ≠ 0) from fun x => x hB)]
    by_cases hq : q < 0 ∨ round ≤ q
    · rw [if_pos hq, if_neg (by decide)]
      exact vote_q A a b c d e epoch round q g w h hB hq
    · rw [if_neg hq]
      by_cases hb : round ≤ b
      · rw [if_pos hb, if_neg (by decide)]
        exact vote_old A a b c d e epoch round q g w h hB (by omega) (by omega) hb
      · rw [if_neg hb]
        by_cases hc : q < c
        · rw [if_pos hc, if_neg (by decide)]
          exact vote_unsafe A a b c d e epoch round q g w h hB (by omega) (by omega) (by omega) hc
        · rw [if_neg hc]
          by_cases he : 32 ≤ e
          · rw [if_pos he, if_neg (by decide)]
            exact vote_spent A a b c d e epoch round q g w h hB (by omega) (by omega) (by omega) (by omega) he
          · rw [if_neg he, if_pos rfl]
            by_cases hg : g ≤ q
            · rw [if_pos hg]
              by_cases hgc : g ≤ c
              · rw [Int.max_eq_left hgc]
                exact vote_ok1a A a b c d e epoch round q g w h hB (by omega) (by omega) (by omega) (by omega) (by omega) hg hgc
              · rw [Int.max_eq_right (show c ≤ g by omega)]
                exact vote_ok1b A a b c d e epoch round q g w h hB (by omega) (by omega) (by omega) (by omega) (by omega) hg (by omega)
            · rw [if_neg hg]
              exact vote_ok2 A a b c d e epoch round q g w h hB (by omega) (by omega) (by omega) (by omega) (by omega) (by omega)
  · rw [if_pos (show S5.begin ⟨a, b, c, d, e⟩ epoch round ≠ 0 from hB), if_neg hB]
    exact vote_begin A a b c d e epoch round q g w h hB
theorem late_any (A : List Addr) (s : S5) (epoch round : Int) (w : World) (h : Sents G18 132 A w) :
    Calls Tryd.prog 69 #[s.v, .int .i64 epoch, .int .i64 round] w fun r w' => r = .returned (.tuple #[(lateS s epoch round).v, errV A (lateC s epoch round)]) ∧ Below w.heap.size w w' := by
  obtain ⟨a, b, c, d, e⟩ := s
  unfold lateS lateC
  by_cases hB : beginC a b c d e epoch round = 0
  · rw [if_neg (show ¬ (S5.begin ⟨a, b, c, d, e⟩ epoch round ≠ 0) from fun x => x hB)]
    by_cases he : 32 ≤ e
    · rw [if_pos he, if_neg (by decide)]
      exact late_spent A a b c d e epoch round w h hB he
    · rw [if_neg he, if_pos rfl]
      by_cases hr : round ≤ b
      · rw [Int.max_eq_left hr]
        exact late_oka A a b c d e epoch round w h hB (by omega) hr
      · rw [Int.max_eq_right (show b ≤ round by omega)]
        exact late_okb A a b c d e epoch round w h hB (by omega) (by omega)
  · rw [if_pos (show S5.begin ⟨a, b, c, d, e⟩ epoch round ≠ 0 from hB), if_neg hB]
    exact late_begin A a b c d e epoch round w h hB
theorem propose_any (A : List Addr) (s : S5) (epoch round : Int) (w : World) (h : Sents G18 132 A w) :
    Calls Tryd.prog 70 #[s.v, .int .i64 epoch, .int .i64 round] w fun r w' => r = .returned (.tuple #[(proposeS s epoch round).v, errV A (proposeC s epoch round)]) ∧ Below w.heap.size w w' := by
  obtain ⟨a, b, c, d, e⟩ := s
  unfold proposeS proposeC
  by_cases hB : beginC a b c d e epoch round = 0
  · rw [if_neg (show ¬ (S5.begin ⟨a, b, c, d, e⟩ epoch round ≠ 0) from fun x => x hB)]
    by_cases hd : round ≤ d
    · rw [if_pos hd, if_neg (by decide)]
      exact propose_old A a b c d e epoch round w h hB hd
    · rw [if_neg hd]
      by_cases he : 32 ≤ e
      · rw [if_pos he, if_neg (by decide)]
        exact propose_spent A a b c d e epoch round w h hB (by omega) he
      · rw [if_neg he, if_pos rfl]
        exact propose_ok A a b c d e epoch round w h hB (by omega) (by omega)
  · rw [if_pos (show S5.begin ⟨a, b, c, d, e⟩ epoch round ≠ 0 from hB), if_neg hB]
    exact propose_begin A a b c d e epoch round w h hB
theorem enter_any (A : List Addr) (s : S5) (epoch : Int) (w : World) (h : Sents G18 132 A w) :
    Calls Tryd.prog 71 #[s.v, .int .i64 epoch] w fun r w' => r = .returned (.tuple #[(enterS s epoch).v, errV A (enterC s epoch)]) ∧ Below w.heap.size w w' := by
  obtain ⟨a, b, c, d, e⟩ := s
  unfold enterS enterC
  by_cases hR : RightP a b c d e
  · rw [if_neg (show ¬ ¬ S5.right ⟨a, b, c, d, e⟩ from fun x => x hR)]
    by_cases hE : epoch ≤ a ∨ 1073741824 < epoch
    · rw [if_pos hE, if_neg (by decide)]
      exact enter_epoch A a b c d e epoch w h hR hE
    · rw [if_neg hE, if_pos rfl]
      exact enter_ok A a b c d e epoch w h hR (by omega) (by omega)
  · rw [if_pos (show ¬ S5.right ⟨a, b, c, d, e⟩ from hR), if_neg (by decide)]
    exact enter_form A a b c d e epoch w h hR
theorem beginC_le (a b c d e epoch round : Int) : beginC a b c d e epoch round ≤ 18 := by unfold beginC; repeat' split <;> try omega
theorem voteC_le (s : S5) (epoch round q : Int) : voteC s epoch round q ≤ 18 := by
  have := beginC_le s.a s.b s.c s.d s.e epoch round
  unfold voteC S5.begin
  repeat' split
  all_goals first | assumption | omega
theorem lateC_le (s : S5) (epoch round : Int) : lateC s epoch round ≤ 18 := by
  have := beginC_le s.a s.b s.c s.d s.e epoch round
  unfold lateC S5.begin
  repeat' split
  all_goals first | assumption | omega
theorem proposeC_le (s : S5) (epoch round : Int) : proposeC s epoch round ≤ 18 := by
  have := beginC_le s.a s.b s.c s.d s.e epoch round
  unfold proposeC S5.begin
  repeat' split
  all_goals first | assumption | omega
theorem enterC_le (s : S5) (epoch : Int) : enterC s epoch ≤ 18 := by
  unfold enterC; repeat' split <;> try omega

end Go.Proofs.YtadonpfpneanhaaDoor
