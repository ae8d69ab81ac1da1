/- Walks: the document on cells that fit. -/
import Derived.Test.YtmkncbddjnaklaaC
import Derived.Test.YtmkncbddjnaklaaB2
namespace Go.Proofs.Ytmkncbddjnaklaa
open Go.RowKit
open Nat renaming reduceEqDiff → nA, reduceLT → nB, reduceLeDiff → nC, reduceAdd → nD, reduceMul → nE, reduceSub → nF, reduceBEq → nG
open Int renaming reduceToNat → iA, reduceLT → iB, reduceLE → iC, reduceEq → iD
open Bool renaming and_eq_true → bA, or_eq_true → bB, or_eq_false_iff → bC, and_eq_false_iff → bD, not_eq_true' → bE, not_eq_false' → bF, not_true → bG, not_false → bH
set_option linter.all false
set_option maxHeartbeats 4000000
attribute [local irreducible] AW Does ACall tE tS tB tZ

theorem Right_p (o : OpD) (hl : o.ins.length ≤ maxLen) : Pure Try.prog 23 [.g (OpD.av o)] (.c (.bool (aloneS o))) := by
  intro H
  have ha := ref_alone_p o hl
  generalize aloneS o = a at *
  obtain ⟨t, w, l, A, B⟩ := o
  simp only [OpD.av] at ha ⊢
  refine ACall_of' Try.func23 rfl (Ent_of Try.func23 (by kernel_rfl) rfl) (by simp [Try.ntmps23]) ?_; simp only [Try.ntmps23, Try.results23]
  repeat' (first
    | refine AW_seq_kn fun K hK => ?_
    | refine AW_block ?_
    | (refine does_call rfl rfl ?_; simp only [push_cast, seval, *]; refine ACall.monoP (ha _) ?_; (try simp only [push_cast, seval, *]))
    | (refine does_call rfl rfl ?_; simp only [push_cast, seval, *]; refine ACall.monoP (ref_alone_p ⟨_, _, _, _, _⟩ (by assumption) _) ?_; (try simp only [push_cast, seval, *]))
    | ((first
      | refine AW_region E0 ?_ | refine AW_ret ?_ | refine AW_exit ?_ | refine AW_skip ?_ | unfold retQ); try simp only [push_cast, seval, *])
    | (apply AW_cond; (case hc => (simp only [push_cast, seval]; rfl)); all_goals (intro hc; first | (exfalso; simp only [push_cast, seval, *] at hc; done) | (exact absurd hc (by decide)) | ((try first | rw [Bool.not_true] at hc | rw [Bool.not_false] at hc); first | (with_reducible replace hc := tTT hc); clear hc | (with_reducible replace hc := tFF hc); clear hc | (have hp := hc; try simp only [decide_eq_true_eq, decide_eq_false_iff_not, bA, bB, bC, bD, bE, bF, bG, bH] at hp))))
    | (refine Kn.go hK ?_; clear hK K)
    | refine Kn.go (by assumption) ?_
    | (intro n hn; (try simp only [upd_none2, join_none_iff, ite_none, ne_eq] at hn); (try simp only [push_cast, seval, *]))
    | (intro hc)
    | fail)
  exact ⟨_, _, Weak.less (by (simp only [push_cast, seval, *])), rfl, rfl⟩

theorem rfits_p (o : OpD) (c : CellD) : Pure Try.prog 24 [.g (OpD.av o), .g (CellD.av c)] (.c (.bool (fitsS o c))) := by
  intro H
  obtain ⟨t, w, l, A, B⟩ := o
  obtain ⟨n, s⟩ := c
  simp only [OpD.av, CellD.av]
  have hz := zeroC_eq n s
  have h3 : (t = 4) ∨ (t = 5 ∧ ¬ t = 4) ∨ (¬ t = 4 ∧ ¬ t = 5) := by omega
  obtain ⟨R, hR⟩ : ∃ R, R = fitsS ⟨t, w, l, A, B⟩ ⟨n, s⟩ := ⟨_, rfl⟩
  rw [← hR]
  unfold fitsS soundS at hR
  rw [hz] at hR
  clear hz
  simp only at hR
  replace hR := Lib.hid hR
  have hn : ((0 ≤ n) = False ∧ (0 < n) = False ∧ (n = 0) = False) ∨ ((0 ≤ n) = True ∧ (0 < n) = False ∧ (n = 0) = True) ∨ ((0 ≤ n) = True ∧ (0 < n) = True ∧ (n = 0) = False) := by
    simp only [eq_iff_iff, iff_true, iff_false]; omega
  have hs : ((s = 0) = True) ∨ ((s = 0) = False) := by simp only [eq_iff_iff, iff_true, iff_false]; omega
  rcases hn with ⟨g1, g2, g3⟩ | ⟨g1, g2, g3⟩ | ⟨g1, g2, g3⟩
  all_goals
    rcases hs with s0 | s0
    all_goals
      rcases h3 with h4 | ⟨h5, h4⟩ | ⟨h4, h5⟩
      all_goals
        refine ACall_of' Try.func24 rfl (Ent_of Try.func24 (by kernel_rfl) rfl) (by simp [Try.ntmps24]) ?_; simp only [Try.ntmps24, Try.results24]
        repeat' (first
    | refine AW_seq_kn fun K hK => ?_
    | refine AW_block ?_
    | ((first
      | refine AW_region E0 ?_ | refine AW_ret ?_ | refine AW_exit ?_ | refine AW_skip ?_ | unfold retQ); try simp only [push_cast, seval, *])
    | ((first | (apply AW_cond; (case hc => (simp only [push_cast, seval]; rfl))) | (apply ER_guard; (case hb => (simp only [push_cast, seval]; rfl)))); all_goals ((intro hc; first | (exfalso; simp only [push_cast, seval, *] at hc; done) | (exact absurd hc (by decide)) | ((try first | rw [Bool.not_true] at hc | rw [Bool.not_false] at hc); first | (with_reducible replace hc := tTT hc); clear hc | (with_reducible replace hc := tFF hc); clear hc | (have hp := hc; try simp only [decide_eq_true_eq, decide_eq_false_iff_not, bA, bB, bC, bD, bE, bF, bG, bH] at hp))) <;> try simp only [push_cast, seval, *]))
    | (refine Kn.go hK ?_; clear hK K)
    | refine Kn.go (by assumption) ?_
    | (intro n hn; (try simp only [upd_none2, join_none_iff, ite_none, ne_eq] at hn); (try simp only [push_cast, seval, *]))
    | (intro hc)
    | (apply ER_blk; (case hp => rfl); (case hb => (simp only [push_cast, seval]; rfl)); (case hd => (simp only [push_cast, seval]; done)); (case h => (intro hc; simp only [push_cast, seval, *]; rfl)); simp only [push_cast, seval, *])
    | fail)
        all_goals (refine ⟨_, _, Weak.less (by (simp only [push_cast, seval, *])), ?_, rfl⟩; rw [unhid hR]; first | (simp [*]; done) | (simp [*]; omega) | (congr 2; rw [Bool.eq_iff_iff]; simp [*]; omega))

end Go.Proofs.Ytmkncbddjnaklaa
