/- Walks: which cells fit an operator. -/
import Derived.Test.YtmkncbddjnaklaaB
namespace Go.Proofs.Ytmkncbddjnaklaa
open Go.RowKit
open Nat renaming reduceEqDiff → nA, reduceLT → nB, reduceLeDiff → nC, reduceAdd → nD, reduceMul → nE, reduceSub → nF, reduceBEq → nG
open Int renaming reduceToNat → iA, reduceLT → iB, reduceLE → iC, reduceEq → iD
open Bool renaming and_eq_true → bA, or_eq_true → bB, or_eq_false_iff → bC, and_eq_false_iff → bD, not_eq_true' → bE, not_eq_false' → bF, not_true → bG, not_false → bH
set_option linter.all false
set_option maxHeartbeats 4000000
attribute [local irreducible] AW Does ACall tE tS tB tZ

theorem zeroC_eq (n s : Int) : decide ((⟨n, s⟩ : CellD) = zeroC) = (decide (n = 0) && decide (s = 0)) := by
  rw [Bool.eq_iff_iff]
  simp [zeroC]
theorem Keeps_p (o : OpD) : Pure Try.prog 21 [.g (OpD.av o)] (.c (.bool (decide (o.tag = 4) || decide (o.tag = 5)))) := by
  intro H
  obtain ⟨t, w, l, A, B⟩ := o
  simp only [OpD.av]
  refine ACall_of' Try.func21 rfl (Ent_of Try.func21 (by kernel_rfl) rfl) (by simp [Try.ntmps21]) ?_; simp only [Try.ntmps21, Try.results21]
  repeat' (first
    | refine AW_seq_kn fun K hK => ?_
    | refine AW_block ?_
    | ((first
      | refine AW_region E0 ?_ | refine AW_ret ?_ | refine AW_exit ?_ | refine AW_skip ?_ | unfold retQ); try simp only [push_cast, seval, *])
    | ((first | (apply AW_cond; (case hc => (simp only [push_cast, seval]; rfl))) | (apply ER_guard; (case hb => (simp only [push_cast, seval]; rfl)))); all_goals ((intro hc; first | (exfalso; simp only [push_cast, seval, *] at hc; done) | (exact absurd hc (by decide)) | ((try first | rw [Bool.not_true] at hc | rw [Bool.not_false] at hc); first | (with_reducible replace hc := tTT hc); clear hc | (with_reducible replace hc := tFF hc); clear hc | (have hp := hc; try simp only [decide_eq_true_eq, decide_eq_false_iff_not, bA, bB, bC, bD, bE, bF, bG, bH] at hp))) <;> try simp only [push_cast, seval, *]))
    | (refine Kn.go hK ?_; clear hK K)
    | refine Kn.go (by assumption) ?_
    | (intro n hn; (try simp only [upd_none2, join_none_iff, ite_none, ne_eq] at hn); (try simp only [push_cast, seval, *]))
    | (intro hc)
    | (apply ER_blk; (case hp => rfl); (case hb => (simp only [push_cast, seval]; rfl)); (case hd => (simp only [push_cast, seval]; done)); (case h => (intro hc; simp only [push_cast, seval, *]; rfl)); simp only [push_cast, seval, *])
    | fail)
  all_goals (refine ⟨_, _, Weak.less (by (simp only [push_cast, seval, *])), ?_, rfl⟩; first | (with_reducible rfl) | (simp []; done) | (simp [*]; done) | (congr 2; rw [Bool.eq_iff_iff]; simp []; omega; done) | (congr 2; simp []; omega; done) | (simp_all []; done) | (split <;> simp_all []; done) | (simp_all [] <;> omega))

theorem fits_p (o : OpD) (c : CellD) : Pure Try.prog 107 [.g (OpD.av o), .g (CellD.av c)] (.c (.bool (fitsS o c))) := by
  intro H
  obtain ⟨t, w, l, A, B⟩ := o
  obtain ⟨n, s⟩ := c
  simp only [OpD.av, CellD.av]
  have hz := zeroC_eq n s
  have h3 : (t = 4) ∨ (t = 5 ∧ ¬ t = 4) ∨ (¬ t = 4 ∧ ¬ t = 5) := by omega
  obtain ⟨R, hR⟩ : ∃ R, R = fitsS ⟨t, w, l, A, B⟩ ⟨n, s⟩ := ⟨_, rfl⟩
  rw [← hR]
  unfold fitsS soundS at hR
  rw [hz] at hR
  clear hz
  simp only at hR
  replace hR := Lib.hid hR
  by_cases n0 : n = 0 <;> by_cases s0 : s = 0 <;> by_cases n1 : 0 < n
  all_goals first
    | (exfalso; omega)
    | skip
  all_goals
    rcases h3 with h4 | ⟨h5, h4⟩ | ⟨h4, h5⟩
    all_goals
      refine ACall_of' Try.func107 rfl (Ent_of Try.func107 (by kernel_rfl) rfl) (by simp [Try.ntmps107]) ?_; simp only [Try.ntmps107, Try.results107]
      repeat' (first
    | refine AW_seq_kn fun K hK => ?_
    | refine AW_block ?_
    | (refine does_call rfl rfl ?_; simp only [push_cast, seval, *]; refine ACall.monoP (Keeps_p ⟨_, _, _, _, _⟩ _) ?_; (try simp only [push_cast, seval, *]))
    | ((first
      | refine AW_region E0 ?_ | refine AW_ret ?_ | refine AW_exit ?_ | refine AW_skip ?_ | unfold retQ); try simp only [push_cast, seval, *])
    | ((first | (apply AW_cond; (case hc => (simp only [push_cast, seval]; rfl))) | (apply ER_guard; (case hb => (simp only [push_cast, seval]; rfl)))); all_goals ((intro hc; first | (exfalso; simp only [push_cast, seval, *] at hc; done) | (exact absurd hc (by decide)) | ((try first | rw [Bool.not_true] at hc | rw [Bool.not_false] at hc); first | (with_reducible replace hc := tTT hc); clear hc | (with_reducible replace hc := tFF hc); clear hc | (have hp := hc; try simp only [decide_eq_true_eq, decide_eq_false_iff_not, bA, bB, bC, bD, bE, bF, bG, bH] at hp))) <;> try simp only [push_cast, seval, *]))
    | (refine Kn.go hK ?_; clear hK K)
    | refine Kn.go (by assumption) ?_
    | (intro n hn; (try simp only [upd_none2, join_none_iff, ite_none, ne_eq] at hn); (try simp only [push_cast, seval, *]))
    | (intro hc)
    | (apply ER_blk; (case hp => rfl); (case hb => (simp only [push_cast, seval]; rfl)); (case hd => (simp only [push_cast, seval]; done)); (case h => (intro hc; simp only [push_cast, seval, *]; rfl)); simp only [push_cast, seval, *])
    | fail)
      all_goals (refine ⟨_, _, Weak.less (by (simp only [push_cast, seval, *])), ?_, rfl⟩; rw [unhid hR]; first | (simp [*]; done) | (simp [*]; omega))

def rightS (o : OpD) (c : CellD) : Int := if aloneS o = false then 180 else if fitsS o c = false then 181 else 0
theorem right_p (o : OpD) (c : CellD) (hl : o.ins.length ≤ maxLen) : Pure Try.prog 63 [.g (OpD.av o), .g (CellD.av c)] (.c (.int .i64 (rightS o c))) := by
  intro H
  have ha := alone_p o hl
  have hf := fits_p o c
  obtain ⟨R, hR⟩ : ∃ R, R = rightS o c := ⟨_, rfl⟩
  rw [← hR]
  unfold rightS at hR
  generalize aloneS o = a at *
  generalize fitsS o c = f at *
  obtain ⟨t, w, l, A, B⟩ := o
  obtain ⟨n, s⟩ := c
  simp only [OpD.av, CellD.av] at ha hf ⊢
  cases a <;> cases f <;> simp at hR <;> subst hR
  all_goals
    refine ACall_of' Try.func63 rfl (Ent_of Try.func63 (by kernel_rfl) rfl) (by simp [Try.ntmps63]) ?_; simp only [Try.ntmps63, Try.results63]
    repeat' (first
    | refine AW_seq_kn fun K hK => ?_
    | refine AW_block ?_
    | (refine does_call rfl rfl ?_; simp only [push_cast, seval, *]; refine ACall.monoP (ha _) ?_; (try simp only [push_cast, seval, *]))
    | (refine does_call rfl rfl ?_; simp only [push_cast, seval, *]; refine ACall.monoP (hf _) ?_; (try simp only [push_cast, seval, *]))
    | (refine does_call rfl rfl ?_; simp only [push_cast, seval, *]; refine ACall.monoP (alone_p ⟨_, _, _, _, _⟩ (by assumption) _) ?_; (try simp only [push_cast, seval, *]))
    | (refine does_call rfl rfl ?_; simp only [push_cast, seval, *]; refine ACall.monoP (fits_p ⟨_, _, _, _, _⟩ ⟨_, _⟩ _) ?_; (try simp only [push_cast, seval, *]))
    | ((first
      | refine AW_region E0 ?_ | refine AW_ret ?_ | refine AW_exit ?_ | refine AW_skip ?_ | unfold retQ); try simp only [push_cast, seval, *])
    | (apply AW_cond; (case hc => (simp only [push_cast, seval]; rfl)); all_goals (intro hc; first | (exfalso; simp only [push_cast, seval, *] at hc; done) | (exact absurd hc (by decide)) | ((try first | rw [Bool.not_true] at hc | rw [Bool.not_false] at hc); first | (with_reducible replace hc := tTT hc); clear hc | (with_reducible replace hc := tFF hc); clear hc | (have hp := hc; try simp only [decide_eq_true_eq, decide_eq_false_iff_not, bA, bB, bC, bD, bE, bF, bG, bH] at hp))))
    | (refine Kn.go hK ?_; clear hK K)
    | refine Kn.go (by assumption) ?_
    | (intro n hn; (try simp only [upd_none2, join_none_iff, ite_none, ne_eq] at hn); (try simp only [push_cast, seval, *]))
    | (intro hc)
    | fail)
    exact ⟨_, _, Weak.less (by (simp only [push_cast, seval, *])), rfl, rfl⟩

theorem Fits_p (o : OpD) (c : CellD) (hl : o.ins.length ≤ maxLen) : Pure Try.prog 22 [.g (OpD.av o), .g (CellD.av c)] (.c (.bool (aloneS o && fitsS o c))) := by
  intro H
  have ha := right_p o c hl
  have hR : rightS o c = if aloneS o = false then 180 else if fitsS o c = false then 181 else 0 := rfl
  generalize rightS o c = r at *
  generalize aloneS o = a at *
  generalize fitsS o c = f at *
  obtain ⟨t, w, l, A, B⟩ := o
  obtain ⟨n, s⟩ := c
  simp only [OpD.av, CellD.av] at ha ⊢
  cases a <;> cases f <;> simp at hR <;> subst hR
  all_goals
    refine ACall_of' Try.func22 rfl (Ent_of Try.func22 (by kernel_rfl) rfl) (by simp [Try.ntmps22]) ?_; simp only [Try.ntmps22, Try.results22]
    repeat' (first
    | refine AW_seq_kn fun K hK => ?_
    | refine AW_block ?_
    | (refine does_call rfl rfl ?_; simp only [push_cast, seval, *]; refine ACall.monoP (ha _) ?_; (try simp only [push_cast, seval, *]))
    | (refine does_call rfl rfl ?_; simp only [push_cast, seval, *]; refine ACall.monoP (right_p ⟨_, _, _, _, _⟩ ⟨_, _⟩ (by assumption) _) ?_; (try simp only [push_cast, seval, *]))
    | ((first
      | refine AW_region E0 ?_ | refine AW_ret ?_ | refine AW_exit ?_ | refine AW_skip ?_ | unfold retQ); try simp only [push_cast, seval, *])
    | (apply AW_cond; (case hc => (simp only [push_cast, seval]; rfl)); all_goals (intro hc; first | (exfalso; simp only [push_cast, seval, *] at hc; done) | (exact absurd hc (by decide)) | ((try first | rw [Bool.not_true] at hc | rw [Bool.not_false] at hc); first | (with_reducible replace hc := tTT hc); clear hc | (with_reducible replace hc := tFF hc); clear hc | (have hp := hc; try simp only [decide_eq_true_eq, decide_eq_false_iff_not, bA, bB, bC, bD, bE, bF, bG, bH] at hp))))
    | (refine Kn.go hK ?_; clear hK K)
    | refine Kn.go (by assumption) ?_
    | (intro n hn; (try simp only [upd_none2, join_none_iff, ite_none, ne_eq] at hn); (try simp only [push_cast, seval, *]))
    | (intro hc)
    | fail)
    exact ⟨_, _, Weak.less (by (simp only [push_cast, seval, *])), rfl, rfl⟩

end Go.Proofs.Ytmkncbddjnaklaa
