/- The document's Right. -/
import Derived.Test.YtlbdpnlmdcajbaaZC
namespace Go.Proofs.Ytlbdpnlmdcajbaa
open Go.RowKit
open Nat renaming reduceEqDiff → nA, reduceLT → nB, reduceLeDiff → nC, reduceAdd → nD, reduceMul → nE, reduceSub → nF, reduceBEq → nG
open Int renaming reduceToNat → iA, reduceLT → iB, reduceLE → iC, reduceEq → iD
open Bool renaming and_eq_true → bA, or_eq_true → bB, or_eq_false_iff → bC, and_eq_false_iff → bD, not_eq_true' → bE, not_eq_false' → bF, not_true → bG, not_false → bH
set_option linter.all false
set_option maxHeartbeats 4000000
attribute [local irreducible] AW Does ACall tE tS tB tZ
set_option maxRecDepth 5000

theorem refRight_no (c : Cd) (hB : headOk c = false) : Pure Try.prog 11 [.g (Cd.av c)] (.c (.bool false)) := by
  intro H
  have w1 := refTasks_p c.tasks
  have w2 := refAttempt_p c.attempt
  have hH : headOk c = ((decide (1 ≤ c.epoch) && decide (c.epoch ≤ 2147483647)) && decide (c.counter ≤ 2147483647) && (decide (1 ≤ c.tasks) && decide (c.tasks ≤ 16)) && (decide (1 ≤ c.attempt) && decide (c.attempt ≤ 1048576)) && (decide (1 ≤ c.span) && decide (c.span ≤ 100)) && decide ((c.pend.length : Int) ≤ 2)) := by
    unfold headOk
    have : decide (c.pend.length ≤ 2) = decide ((c.pend.length : Int) ≤ 2) := by rw [decide_eq_decide]; omega
    rw [this]
  rw [hB] at hH
  clear hB
  obtain ⟨ep, ct, ts, at_, sp, pd⟩ := c
  simp only [Cd.av] at *
  have hd : ep < 1 ∨ (¬ ep < 1 ∧ 2147483647 < ep) ∨ (¬ ep < 1 ∧ ¬ 2147483647 < ep ∧ 2147483647 < ct) ∨ (¬ ep < 1 ∧ ¬ 2147483647 < ep ∧ ¬ 2147483647 < ct ∧ (decide (1 ≤ ts) && decide (ts ≤ 16)) = false) ∨ (¬ ep < 1 ∧ ¬ 2147483647 < ep ∧ ¬ 2147483647 < ct ∧ (decide (1 ≤ ts) && decide (ts ≤ 16)) = true ∧ (decide (1 ≤ at_) && decide (at_ ≤ 1048576)) = false) ∨
      (¬ ep < 1 ∧ ¬ 2147483647 < ep ∧ ¬ 2147483647 < ct ∧ (decide (1 ≤ ts) && decide (ts ≤ 16)) = true ∧ (decide (1 ≤ at_) && decide (at_ ≤ 1048576)) = true ∧ sp < 1) ∨ (¬ ep < 1 ∧ ¬ 2147483647 < ep ∧ ¬ 2147483647 < ct ∧ (decide (1 ≤ ts) && decide (ts ≤ 16)) = true ∧ (decide (1 ≤ at_) && decide (at_ ≤ 1048576)) = true ∧ ¬ sp < 1 ∧ 100 < sp) ∨
      (¬ ep < 1 ∧ ¬ 2147483647 < ep ∧ ¬ 2147483647 < ct ∧ (decide (1 ≤ ts) && decide (ts ≤ 16)) = true ∧ (decide (1 ≤ at_) && decide (at_ ≤ 1048576)) = true ∧ ¬ sp < 1 ∧ ¬ 100 < sp ∧ (2 : Int) < pd.length) := by
    by_cases q1 : ep < 1
    · exact .inl q1
    by_cases q2 : 2147483647 < ep
    · exact .inr (.inl ⟨q1, q2⟩)
    by_cases q3 : 2147483647 < ct
    · exact .inr (.inr (.inl ⟨q1, q2, q3⟩))
    cases q4 : (decide (1 ≤ ts) && decide (ts ≤ 16))
    · exact .inr (.inr (.inr (.inl ⟨q1, q2, q3, rfl⟩)))
    cases q5 : (decide (1 ≤ at_) && decide (at_ ≤ 1048576))
    · exact .inr (.inr (.inr (.inr (.inl ⟨q1, q2, q3, rfl, rfl⟩))))
    by_cases q6 : sp < 1
    · exact .inr (.inr (.inr (.inr (.inr (.inl ⟨q1, q2, q3, rfl, rfl, q6⟩)))))
    by_cases q7 : 100 < sp
    · exact .inr (.inr (.inr (.inr (.inr (.inr (.inl ⟨q1, q2, q3, rfl, rfl, q6, q7⟩))))))
    refine .inr (.inr (.inr (.inr (.inr (.inr (.inr ⟨q1, q2, q3, rfl, rfl, q6, q7, ?_⟩))))))
    rw [q4, q5] at hH
    simp only [Bool.and_true, Bool.true_and] at hH
    rcases Int.lt_or_le 2 pd.length with h | h
    · exact h
    · exfalso
      have e : ((decide (1 ≤ ep) && decide (ep ≤ 2147483647)) && decide (ct ≤ 2147483647) && (decide (1 ≤ sp) && decide (sp ≤ 100)) && decide ((pd.length : Int) ≤ 2)) = true := by simp; omega
      rw [e] at hH; cases hH
  clear hH
  rcases hd with h | ⟨g1, h⟩ | ⟨g1, g2, h⟩ | ⟨g1, g2, g3, h⟩ | ⟨g1, g2, g3, g4, h⟩ | ⟨g1, g2, g3, g4, g5, h⟩ | ⟨g1, g2, g3, g4, g5, g6, h⟩ | ⟨g1, g2, g3, g4, g5, g6, g7, h⟩
  all_goals
    refine ACall_of' Try.func11 rfl (Ent_of Try.func11 (by kernel_rfl) rfl) (by simp [Try.ntmps11]) ?_; simp only [Try.ntmps11, Try.results11]
    repeat' (first
    | refine AW_seq_kn fun K hK => ?_
    | refine AW_block ?_
    | (refine does_call rfl rfl ?_; simp only [push_cast, seval, *]; refine ACall.monoP (w1 _) ?_; (try simp only [push_cast, seval, *]))
    | (refine does_call rfl rfl ?_; simp only [push_cast, seval, *]; refine ACall.monoP (w2 _) ?_; (try simp only [push_cast, seval, *]))
    | ((first
      | refine AW_region_draw (id := 9) E0 (fun f => [].contains f) [(0, false, []), (1, false, []), (2, false, []), (3, false, []), (4, false, []), (5, false, []), (6, false, []), (7, false, []), (8, false, []), (9, false, []), (10, false, []), (11, false, []), (12, false, []), (13, false, []), (14, false, []), (15, false, []), (16, false, []), (17, false, []), (18, false, []), (19, false, []), (20, false, []), (21, false, []), (22, false, []), (23, false, []), (24, false, []), (25, false, [])] [[], [0], [0, 1], [0, 1, 2], [0, 1, 2, 3], [0, 1, 2], [0, 1, 2, 5], [0, 1, 2, 3, 4, 5, 6], [0, 1, 2, 3, 4, 5, 6, 7], [0, 1, 2, 3, 4, 5, 6, 7, 8], [0, 1, 2], [0, 1, 2, 10], [0, 1, 2, 3, 4, 5, 6, 7, 8, 9, 10, 11], [0, 1, 2, 3, 4, 5, 6, 7, 8, 9, 10, 11, 12], [0, 1, 2, 3, 4, 5, 6, 7, 8, 9, 10, 11, 12, 13], [0, 1, 2, 3, 4, 5, 6, 7, 8, 9, 10, 11, 12, 13, 14], [0, 1, 2, 3, 4, 5, 6, 7, 8, 9, 10, 11, 12, 13], [0, 1, 2, 3, 4, 5, 6, 7, 8, 9, 10, 11, 12, 13, 16], [0, 1, 2, 3, 4, 5, 6, 7, 8, 9, 10, 11, 12, 13, 14, 15, 16, 17], [0, 1, 2, 3, 4, 5, 6, 7, 8, 9, 10, 11, 12, 13, 14, 15, 16, 17, 18], [0, 1, 2, 3, 4, 5, 6, 7, 8, 9, 10, 11, 12, 13, 14, 15, 16, 17, 18, 19], [0, 1, 2, 3, 4, 5, 6, 7, 8, 9, 10, 11, 12, 13], [0, 1, 2, 3, 4, 5, 6, 7, 8, 9, 10, 11, 12, 13, 21], [0, 1, 2, 3, 4, 5, 6, 7, 8, 9, 10, 11, 12, 13, 14, 15, 16, 17, 18, 19, 20, 21, 22], [0, 1, 2, 3, 4, 5, 6, 7, 8, 9, 10, 11, 12, 13, 14, 15, 16, 17, 18, 19, 20, 21, 22, 23], [0, 1, 2, 3, 4, 5, 6, 7, 8, 9, 10, 11, 12, 13, 14, 15, 16, 17, 18, 19, 20, 21, 22, 23, 24]] mixed (by kernel_rfl) ?_
      | refine AW_region E0 ?_ | refine AW_ret ?_ | refine AW_exit ?_ | refine AW_skip ?_ | unfold retQ); try simp only [push_cast, seval, *])
    | ((first | (apply AW_cond; (case hc => (simp only [push_cast, seval]; rfl))) | (apply ER_guard; (case hb => (simp only [push_cast, seval]; rfl)))); all_goals ((intro hc; first | (exfalso; simp only [push_cast, seval, *] at hc; done) | (exact absurd hc (by decide)) | ((try first | rw [Bool.not_true] at hc | rw [Bool.not_false] at hc); first | (with_reducible replace hc := tTT hc); clear hc | (with_reducible replace hc := tFF hc); clear hc | (have hp := hc; try simp only [decide_eq_true_eq, decide_eq_false_iff_not, bA, bB, bC, bD, bE, bF, bG, bH] at hp))) <;> try simp only [push_cast, seval, *]))
    | (refine Kn.go hK ?_; clear hK K)
    | refine Kn.go (by assumption) ?_
    | (intro n hn; (try simp only [upd_none2, join_none_iff, ite_none, ne_eq] at hn); (try simp only [push_cast, seval, *]))
    | (intro hc)
    | (apply ER_blk; (case hp => rfl); (case hb => (simp only [push_cast, seval]; rfl)); (case hd => (simp only [push_cast, seval]; done)); (case h => (intro hc; simp only [push_cast, seval, *]; rfl)); simp only [push_cast, seval, *])
    | fail)
    exact ⟨_, _, Weak.less (by (simp only [push_cast, seval, *])), rfl, rfl⟩
end Go.Proofs.Ytlbdpnlmdcajbaa
