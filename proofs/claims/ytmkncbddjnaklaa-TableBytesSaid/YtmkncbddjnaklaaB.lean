/- Walks: which operators stand alone. -/
import Derived.Test.YtmkncbddjnaklaaA
namespace Go.Proofs.Ytmkncbddjnaklaa
open Go.RowKit
open Nat renaming reduceEqDiff → nA, reduceLT → nB, reduceLeDiff → nC, reduceAdd → nD, reduceMul → nE, reduceSub → nF, reduceBEq → nG
open Int renaming reduceToNat → iA, reduceLT → iB, reduceLE → iC, reduceEq → iD
open Bool renaming and_eq_true → bA, or_eq_true → bB, or_eq_false_iff → bC, and_eq_false_iff → bD, not_eq_true' → bE, not_eq_false' → bF, not_true → bG, not_false → bH
set_option linter.all false
set_option maxHeartbeats 4000000
attribute [local irreducible] AW Does ACall tE tS tB tZ

/-- what a tag asks -/
def tagS (o : OpD) : Bool :=
  if o.tag = 1 then decide (o.ins.length = 0) && decide (0 ≤ o.A) && decide (o.A < 4) && decide (o.B = 0)
   else if o.tag = 2 then decide (o.ins.length = 1)
   else if o.tag = 3 then decide (o.ins.length = 1) && decide (0 < o.A) && decide (0 ≤ o.B) && decide (o.B < o.A)
   else if o.tag = 4 ∨ o.tag = 7 then decide (o.ins.length = 1) && decide (o.A = 0) && decide (o.B = 0)
   else if o.tag = 5 then decide (o.ins.length = 1) && decide (1 ≤ o.A) && decide (o.A ≤ 8) && decide (o.B = 0)
   else if o.tag = 6 then decide (2 ≤ o.ins.length) && decide (o.A = 0) && decide (o.B = 0)
   else false
theorem aloneS_eq (o : OpD) : aloneS o = (decide (1 ≤ o.width) && decide (o.width ≤ 3) && risesS 8 (-1) o.ins && tagS o) := rfl
theorem tags (t : Int) : t = 1 ∨ t = 2 ∨ t = 3 ∨ t = 4 ∨ t = 5 ∨ t = 6 ∨ t = 7 ∨ (¬ t = 1 ∧ ¬ t = 2 ∧ ¬ t = 3 ∧ ¬ t = 4 ∧ ¬ t = 5 ∧ ¬ t = 6 ∧ ¬ t = 7) := by omega
theorem alone_p (o : OpD) (hl : o.ins.length ≤ maxLen) : Pure Try.prog 96 [.g (OpD.av o), .c (.int .i64 8)] (.c (.bool (aloneS o))) := by
  intro H
  obtain ⟨t, w, l, A, B⟩ := o
  simp only at hl
  have hE := aloneS_eq ⟨t, w, l, A, B⟩
  simp only at hE
  by_cases w1 : w < 1
  · have h1 : decide (1 ≤ w) = false := decide_eq_false (by omega)
    rw [h1] at hE
    simp only [Bool.false_and] at hE
    rw [hE]; clear hE h1
    simp only [OpD.av]
    refine ACall_of' Try.func96 rfl (Ent_of Try.func96 (by kernel_rfl) rfl) (by simp [Try.ntmps96]) ?_; simp only [Try.ntmps96, Try.results96]
    repeat' (first
    | refine AW_seq_kn fun K hK => ?_
    | refine AW_block ?_
    | (refine does_call rfl rfl ?_; simp only [push_cast, seval, *]; refine ACall.monoP (rises_p _ (by assumption) _ _) ?_; (try simp only [push_cast, seval, *]))
    | ((first
      | refine AW_region E0 ?_ | refine AW_ret ?_ | refine AW_exit ?_ | refine AW_skip ?_ | unfold retQ); try simp only [push_cast, seval, *])
    | ((first | (apply AW_cond; (case hc => (simp only [push_cast, seval]; rfl))) | (apply ER_guard; (case hb => (simp only [push_cast, seval]; rfl)))); all_goals ((intro hc; first | (exfalso; simp only [push_cast, seval, *] at hc; done) | (exact absurd hc (by decide)) | ((try first | rw [Bool.not_true] at hc | rw [Bool.not_false] at hc); first | (with_reducible replace hc := tTT hc); clear hc | (with_reducible replace hc := tFF hc); clear hc | (have hp := hc; try simp only [decide_eq_true_eq, decide_eq_false_iff_not, bA, bB, bC, bD, bE, bF, bG, bH] at hp))) <;> try simp only [push_cast, seval, *]))
    | (refine Kn.go hK ?_; clear hK K)
    | refine Kn.go (by assumption) ?_
    | (intro n hn; (try simp only [upd_none2, join_none_iff, ite_none, ne_eq] at hn); (try simp only [push_cast, seval, *]))
    | (intro hc)
    | (apply ER_blk; (case hp => rfl); (case hb => (simp only [push_cast, seval]; rfl)); (case hd => (simp only [push_cast, seval]; done)); (case h => (intro hc; simp only [push_cast, seval, *]; rfl)); simp only [push_cast, seval, *])
    | fail)
    exact ⟨_, _, Weak.less (by (simp only [push_cast, seval, *])), rfl, rfl⟩
  have h1 : decide (1 ≤ w) = true := decide_eq_true (by omega)
  by_cases w3 : 3 < w
  · have h2 : decide (w ≤ 3) = false := decide_eq_false (by omega)
    rw [h2] at hE
    simp only [Bool.false_and, Bool.and_false] at hE
    rw [hE]; clear hE h1 h2
    simp only [OpD.av]
    refine ACall_of' Try.func96 rfl (Ent_of Try.func96 (by kernel_rfl) rfl) (by simp [Try.ntmps96]) ?_; simp only [Try.ntmps96, Try.results96]
    repeat' (first
    | refine AW_seq_kn fun K hK => ?_
    | refine AW_block ?_
    | (refine does_call rfl rfl ?_; simp only [push_cast, seval, *]; refine ACall.monoP (rises_p _ (by assumption) _ _) ?_; (try simp only [push_cast, seval, *]))
    | ((first
      | refine AW_region E0 ?_ | refine AW_ret ?_ | refine AW_exit ?_ | refine AW_skip ?_ | unfold retQ); try simp only [push_cast, seval, *])
    | ((first | (apply AW_cond; (case hc => (simp only [push_cast, seval]; rfl))) | (apply ER_guard; (case hb => (simp only [push_cast, seval]; rfl)))); all_goals ((intro hc; first | (exfalso; simp only [push_cast, seval, *] at hc; done) | (exact absurd hc (by decide)) | ((try first | rw [Bool.not_true] at hc | rw [Bool.not_false] at hc); first | (with_reducible replace hc := tTT hc); clear hc | (with_reducible replace hc := tFF hc); clear hc | (have hp := hc; try simp only [decide_eq_true_eq, decide_eq_false_iff_not, bA, bB, bC, bD, bE, bF, bG, bH] at hp))) <;> try simp only [push_cast, seval, *]))
    | (refine Kn.go hK ?_; clear hK K)
    | refine Kn.go (by assumption) ?_
    | (intro n hn; (try simp only [upd_none2, join_none_iff, ite_none, ne_eq] at hn); (try simp only [push_cast, seval, *]))
    | (intro hc)
    | (apply ER_blk; (case hp => rfl); (case hb => (simp only [push_cast, seval]; rfl)); (case hd => (simp only [push_cast, seval]; done)); (case h => (intro hc; simp only [push_cast, seval, *]; rfl)); simp only [push_cast, seval, *])
    | fail)
    exact ⟨_, _, Weak.less (by (simp only [push_cast, seval, *])), rfl, rfl⟩
  have h2 : decide (w ≤ 3) = true := decide_eq_true (by omega)
  rw [h1, h2] at hE
  simp only [Bool.true_and] at hE
  have hri := rises_p l hl 8
  rw [hE]
  clear hE h1 h2
  generalize risesS 8 (-1) l = rs at *
  cases rs
  · simp only [Bool.false_and, OpD.av]
    refine ACall_of' Try.func96 rfl (Ent_of Try.func96 (by kernel_rfl) rfl) (by simp [Try.ntmps96]) ?_; simp only [Try.ntmps96, Try.results96]
    repeat' (first
    | refine AW_seq_kn fun K hK => ?_
    | refine AW_block ?_
    | (refine does_call rfl rfl ?_; simp only [push_cast, seval, *]; refine ACall.monoP (hri _) ?_; (try simp only [push_cast, seval, *]))
    | (refine does_call rfl rfl ?_; simp only [push_cast, seval, *]; refine ACall.monoP (rises_p _ (by assumption) _ _) ?_; (try simp only [push_cast, seval, *]))
    | ((first
      | refine AW_region E0 ?_ | refine AW_ret ?_ | refine AW_exit ?_ | refine AW_skip ?_ | unfold retQ); try simp only [push_cast, seval, *])
    | ((first | (apply AW_cond; (case hc => (simp only [push_cast, seval]; rfl))) | (apply ER_guard; (case hb => (simp only [push_cast, seval]; rfl)))); all_goals ((intro hc; first | (exfalso; simp only [push_cast, seval, *] at hc; done) | (exact absurd hc (by decide)) | ((try first | rw [Bool.not_true] at hc | rw [Bool.not_false] at hc); first | (with_reducible replace hc := tTT hc); clear hc | (with_reducible replace hc := tFF hc); clear hc | (have hp := hc; try simp only [decide_eq_true_eq, decide_eq_false_iff_not, bA, bB, bC, bD, bE, bF, bG, bH] at hp))) <;> try simp only [push_cast, seval, *]))
    | (refine Kn.go hK ?_; clear hK K)
    | refine Kn.go (by assumption) ?_
    | (intro n hn; (try simp only [upd_none2, join_none_iff, ite_none, ne_eq] at hn); (try simp only [push_cast, seval, *]))
    | (intro hc)
    | (apply ER_blk; (case hp => rfl); (case hb => (simp only [push_cast, seval]; rfl)); (case hd => (simp only [push_cast, seval]; done)); (case h => (intro hc; simp only [push_cast, seval, *]; rfl)); simp only [push_cast, seval, *])
    | fail)
    exact ⟨_, _, Weak.less (by (simp only [push_cast, seval, *])), rfl, rfl⟩
  have h8 := tags t
  simp only [Bool.true_and, OpD.av]
  rcases h8 with rfl | rfl | rfl | rfl | rfl | rfl | rfl | ⟨n1, n2, n3, n4, n5, n6, n7⟩
  all_goals
    refine ACall_of' Try.func96 rfl (Ent_of Try.func96 (by kernel_rfl) rfl) (by simp [Try.ntmps96]) ?_; simp only [Try.ntmps96, Try.results96]
    repeat' (first
    | refine AW_seq_kn fun K hK => ?_
    | refine AW_block ?_
    | (refine does_call rfl rfl ?_; simp only [push_cast, seval, *]; refine ACall.monoP (hri _) ?_; (try simp only [push_cast, seval, *]))
    | (refine does_call rfl rfl ?_; simp only [push_cast, seval, *]; refine ACall.monoP (rises_p _ (by assumption) _ _) ?_; (try simp only [push_cast, seval, *]))
    | ((first
      | refine AW_region E0 ?_ | refine AW_ret ?_ | refine AW_exit ?_ | refine AW_skip ?_ | unfold retQ); try simp only [push_cast, seval, *])
    | ((first | (apply AW_cond; (case hc => (simp only [push_cast, seval]; rfl))) | (apply ER_guard; (case hb => (simp only [push_cast, seval]; rfl)))); all_goals ((intro hc; first | (exfalso; simp only [push_cast, seval, *] at hc; done) | (exact absurd hc (by decide)) | ((try first | rw [Bool.not_true] at hc | rw [Bool.not_false] at hc); first | (with_reducible replace hc := tTT hc); clear hc | (with_reducible replace hc := tFF hc); clear hc | (have hp := hc; try simp only [decide_eq_true_eq, decide_eq_false_iff_not, bA, bB, bC, bD, bE, bF, bG, bH] at hp))) <;> try simp only [push_cast, seval, *]))
    | (refine Kn.go hK ?_; clear hK K)
    | refine Kn.go (by assumption) ?_
    | (intro n hn; (try simp only [upd_none2, join_none_iff, ite_none, ne_eq] at hn); (try simp only [push_cast, seval, *]))
    | (intro hc)
    | (apply ER_blk; (case hp => rfl); (case hb => (simp only [push_cast, seval]; rfl)); (case hd => (simp only [push_cast, seval]; done)); (case h => (intro hc; simp only [push_cast, seval, *]; rfl)); simp only [push_cast, seval, *])
    | fail)
    all_goals (refine ⟨_, _, Weak.less (by (simp only [push_cast, seval, *])), ?_, rfl⟩; first | (simp [tagS]; done) | (simp_all [tagS]; done) | (simp [tagS]; omega; done) | (congr 2; rw [Bool.eq_iff_iff]; simp [tagS]; omega; done) | (simp_all [tagS] <;> omega))

end Go.Proofs.Ytmkncbddjnaklaa
