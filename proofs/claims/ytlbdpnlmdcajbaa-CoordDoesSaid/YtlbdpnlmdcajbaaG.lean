/- Walks: the document's small tests. -/
import Derived.Test.YtlbdpnlmdcajbaaB
namespace Go.Proofs.Ytlbdpnlmdcajbaa
open Go.RowKit
open Nat renaming reduceEqDiff → nA, reduceLT → nB, reduceLeDiff → nC, reduceAdd → nD, reduceMul → nE, reduceSub → nF, reduceBEq → nG
open Int renaming reduceToNat → iA, reduceLT → iB, reduceLE → iC, reduceEq → iD
open Bool renaming and_eq_true → bA, or_eq_true → bB, or_eq_false_iff → bC, and_eq_false_iff → bD, not_eq_true' → bE, not_eq_false' → bF, not_true → bG, not_false → bH
set_option linter.all false
set_option maxHeartbeats 4000000
attribute [local irreducible] AW Does ACall tE tS tB tZ

theorem refTasks_p (n : Int) : Pure Try.prog 34 [.c (.int .i64 n)] (.c (.bool (decide (1 ≤ n) && decide (n ≤ 16)))) := by
  intro H
  refine ACall_of' Try.func34 rfl (Ent_of Try.func34 (by kernel_rfl) rfl) (by simp [Try.ntmps34]) ?_; simp only [Try.ntmps34, Try.results34]
  repeat' (first
    | refine AW_seq_kn fun K hK => ?_
    | refine AW_block ?_
    | ((first
      | refine AW_region E0 ?_ | refine AW_ret ?_ | refine AW_exit ?_ | refine AW_skip ?_ | unfold retQ); try simp only [push_cast, seval, *])
    | ((first | (apply AW_cond; (case hc => (simp only [push_cast, seval]; rfl))) | (apply ER_guard; (case hb => (simp only [push_cast, seval]; rfl)))); all_goals ((intro hc; first | (exfalso; simp only [push_cast, seval, *] at hc; done) | (exact absurd hc (by decide)) | ((try first | rw [Bool.not_true] at hc | rw [Bool.not_false] at hc); first | (with_reducible replace hc := tTT hc); clear hc | (with_reducible replace hc := tFF hc); clear hc | (have hp := hc; try simp only [decide_eq_true_eq, decide_eq_false_iff_not, bA, bB, bC, bD, bE, bF, bG, bH] at hp))) <;> try simp only [push_cast, seval, *]))
    | (refine Kn.go hK ?_; clear hK K)
    | refine Kn.go (by assumption) ?_
    | (intro n hn; (try simp only [upd_none2, join_none_iff, ite_none, ne_eq] at hn); (try simp only [push_cast, seval, *]))
    | (intro hc)
    | (apply ER_blk; (case hp => rfl); (case hb => (simp only [push_cast, seval]; rfl)); (case hd => (simp only [push_cast, seval]; done)); (case h => (intro hc; simp only [push_cast, seval, *]; rfl)); simp only [push_cast, seval, *])
    | fail)
  all_goals (refine ⟨_, _, Weak.less (by (simp only [push_cast, seval, *])), ?_, rfl⟩; first | (with_reducible rfl) | (simp [decide_eq_true_eq]; done) | (simp [*, decide_eq_true_eq]; done) | (congr 2; rw [Bool.eq_iff_iff]; simp [decide_eq_true_eq]; omega; done) | (congr 2; simp [decide_eq_true_eq]; omega; done) | (simp_all [decide_eq_true_eq]; done) | (split <;> simp_all [decide_eq_true_eq]; done) | (simp_all [decide_eq_true_eq] <;> omega))
theorem refAttempt_p (n : Int) : Pure Try.prog 35 [.c (.int .i64 n)] (.c (.bool (decide (1 ≤ n) && decide (n ≤ 1048576)))) := by
  intro H
  refine ACall_of' Try.func35 rfl (Ent_of Try.func35 (by kernel_rfl) rfl) (by simp [Try.ntmps35]) ?_; simp only [Try.ntmps35, Try.results35]
  repeat' (first
    | refine AW_seq_kn fun K hK => ?_
    | refine AW_block ?_
    | ((first
      | refine AW_region E0 ?_ | refine AW_ret ?_ | refine AW_exit ?_ | refine AW_skip ?_ | unfold retQ); try simp only [push_cast, seval, *])
    | ((first | (apply AW_cond; (case hc => (simp only [push_cast, seval]; rfl))) | (apply ER_guard; (case hb => (simp only [push_cast, seval]; rfl)))); all_goals ((intro hc; first | (exfalso; simp only [push_cast, seval, *] at hc; done) | (exact absurd hc (by decide)) | ((try first | rw [Bool.not_true] at hc | rw [Bool.not_false] at hc); first | (with_reducible replace hc := tTT hc); clear hc | (with_reducible replace hc := tFF hc); clear hc | (have hp := hc; try simp only [decide_eq_true_eq, decide_eq_false_iff_not, bA, bB, bC, bD, bE, bF, bG, bH] at hp))) <;> try simp only [push_cast, seval, *]))
    | (refine Kn.go hK ?_; clear hK K)
    | refine Kn.go (by assumption) ?_
    | (intro n hn; (try simp only [upd_none2, join_none_iff, ite_none, ne_eq] at hn); (try simp only [push_cast, seval, *]))
    | (intro hc)
    | (apply ER_blk; (case hp => rfl); (case hb => (simp only [push_cast, seval]; rfl)); (case hd => (simp only [push_cast, seval]; done)); (case h => (intro hc; simp only [push_cast, seval, *]; rfl)); simp only [push_cast, seval, *])
    | fail)
  all_goals (refine ⟨_, _, Weak.less (by (simp only [push_cast, seval, *])), ?_, rfl⟩; first | (with_reducible rfl) | (simp [decide_eq_true_eq]; done) | (simp [*, decide_eq_true_eq]; done) | (congr 2; rw [Bool.eq_iff_iff]; simp [decide_eq_true_eq]; omega; done) | (congr 2; simp [decide_eq_true_eq]; omega; done) | (simp_all [decide_eq_true_eq]; done) | (split <;> simp_all [decide_eq_true_eq]; done) | (simp_all [decide_eq_true_eq] <;> omega))
theorem refTick_p (n : Int) : Pure Try.prog 36 [.c (.int .i64 n)] (.c (.bool (decide (0 ≤ n) && decide (n ≤ 1099511627776)))) := by
  intro H
  refine ACall_of' Try.func36 rfl (Ent_of Try.func36 (by kernel_rfl) rfl) (by simp [Try.ntmps36]) ?_; simp only [Try.ntmps36, Try.results36]
  repeat' (first
    | refine AW_seq_kn fun K hK => ?_
    | refine AW_block ?_
    | ((first
      | refine AW_region E0 ?_ | refine AW_ret ?_ | refine AW_exit ?_ | refine AW_skip ?_ | unfold retQ); try simp only [push_cast, seval, *])
    | ((first | (apply AW_cond; (case hc => (simp only [push_cast, seval]; rfl))) | (apply ER_guard; (case hb => (simp only [push_cast, seval]; rfl)))); all_goals ((intro hc; first | (exfalso; simp only [push_cast, seval, *] at hc; done) | (exact absurd hc (by decide)) | ((try first | rw [Bool.not_true] at hc | rw [Bool.not_false] at hc); first | (with_reducible replace hc := tTT hc); clear hc | (with_reducible replace hc := tFF hc); clear hc | (have hp := hc; try simp only [decide_eq_true_eq, decide_eq_false_iff_not, bA, bB, bC, bD, bE, bF, bG, bH] at hp))) <;> try simp only [push_cast, seval, *]))
    | (refine Kn.go hK ?_; clear hK K)
    | refine Kn.go (by assumption) ?_
    | (intro n hn; (try simp only [upd_none2, join_none_iff, ite_none, ne_eq] at hn); (try simp only [push_cast, seval, *]))
    | (intro hc)
    | (apply ER_blk; (case hp => rfl); (case hb => (simp only [push_cast, seval]; rfl)); (case hd => (simp only [push_cast, seval]; done)); (case h => (intro hc; simp only [push_cast, seval, *]; rfl)); simp only [push_cast, seval, *])
    | fail)
  all_goals (refine ⟨_, _, Weak.less (by (simp only [push_cast, seval, *])), ?_, rfl⟩; first | (with_reducible rfl) | (simp [decide_eq_true_eq]; done) | (simp [*, decide_eq_true_eq]; done) | (congr 2; rw [Bool.eq_iff_iff]; simp [decide_eq_true_eq]; omega; done) | (congr 2; simp [decide_eq_true_eq]; omega; done) | (simp_all [decide_eq_true_eq]; done) | (split <;> simp_all [decide_eq_true_eq]; done) | (simp_all [decide_eq_true_eq] <;> omega))
end Go.Proofs.Ytlbdpnlmdcajbaa
