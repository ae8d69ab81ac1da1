/- SinkWrites. -/
import Derived.Test.YtdeckjoeggmagaaSJ
import Derived.Test.YtdeckjoeggmagaaSK
import Derived.Test.YtdeckjoeggmagaaSH
namespace Go.Proofs.Ytdeckjoeggmagaa
open Go.RowKit
open Nat renaming reduceEqDiff → nA, reduceLT → nB, reduceLeDiff → nC, reduceAdd → nD, reduceMul → nE, reduceSub → nF, reduceBEq → nG
open Int renaming reduceToNat → iA, reduceLT → iB, reduceLE → iC, reduceEq → iD
open Bool renaming and_eq_true → bA, or_eq_true → bB, or_eq_false_iff → bC, and_eq_false_iff → bD, not_eq_true' → bE, not_eq_false' → bF, not_true → bG, not_false → bH
set_option linter.all false
set_option maxHeartbeats 4000000
attribute [local irreducible] AW Does ACall tE tS tB tZ
set_option maxRecDepth 5000

theorem writeSk_len (s : Sk) (r : Rec) : (writeSk s r).1.rdy.length ≤ s.rdy.length ∧ (writeSk s r).2.1.length ≤ 2 := by
  unfold writeSk
  split
  · exact ⟨by simp [zeroSk], by simp⟩
  · split
    · exact ⟨by simp [zeroSk], by simp⟩
    · split
      · exact ⟨Nat.le_refl _, by simp⟩
      · split
        · exact ⟨by simp [zeroSk], by simp⟩
        · exact ⟨Nat.le_refl _, by simp⟩
theorem sinkWrites_a (s : Sk) (hl : s.rdy.length ≤ maxLen) (r : Rec) (H : Heap) : ACall Try.prog 4 [.g (Sk.av s), .g (Rec.av r)] H fun q _ => q = .c (.bool true) := by
  have hwk := wakes17_p
  by_cases h2 : 200 < s.rdy.length
  · obtain ⟨a, b, c, d, l⟩ := s
    obtain ⟨rs, rk, rv⟩ := r
    simp only at h2
    simp only [Sk.av, Rec.av]
    have h2I : (200 : Int) < l.length := by omega
    refine ACall_of' Try.func4 rfl (Ent_of Try.func4 (by kernel_rfl) rfl) (by simp [Try.ntmps4]) ?_; simp only [Try.ntmps4, Try.results4]
    repeat' (first
    | refine AW_seq_kn fun K hK => ?_
    | refine AW_block ?_
    | (refine does_call rfl rfl ?_; simp only [push_cast, seval, *]; refine ACall.monoP (hwk _) ?_; (try simp only [push_cast, seval, *]))
    | ((first
      | refine AW_region E0 ?_ | refine AW_ret ?_ | refine AW_exit ?_ | refine AW_skip ?_ | unfold retQ); try simp only [push_cast, seval, *])
    | ((first | (apply AW_cond; (case hc => (simp only [push_cast, seval]; rfl))) | (apply ER_guard; (case hb => (simp only [push_cast, seval]; rfl)))); all_goals ((intro hc; first | (exfalso; simp only [push_cast, seval, *] at hc; done) | (exact absurd hc (by decide)) | ((try first | rw [Bool.not_true] at hc | rw [Bool.not_false] at hc); first | (with_reducible replace hc := tTT hc); clear hc | (with_reducible replace hc := tFF hc); clear hc | (have hp := hc; try simp only [decide_eq_true_eq, decide_eq_false_iff_not, bA, bB, bC, bD, bE, bF, bG, bH] at hp))) <;> try simp only [push_cast, seval, *]))
    | (refine Kn.go hK ?_; clear hK K)
    | refine Kn.go (by assumption) ?_
    | (intro n hn; (try simp only [upd_none2, join_none_iff, ite_none, ne_eq] at hn); (try simp only [push_cast, seval, *]))
    | (intro hc)
    | (apply ER_blk; (case hp => rfl); (case hb => (simp only [push_cast, seval]; rfl)); (case hd => (simp only [push_cast, seval]; done)); (case h => (intro hc; simp only [push_cast, seval, *]; rfl)); simp only [push_cast, seval, *])
    | fail)
    exact ⟨_, _, Weak.refl _ _, rfl⟩
  have hcp := copied17_p s (by omega)
  have hw := sWrite_p s hl r
  have hrw := refWrite17_p refRight17_p s hl r
  have hs2 := refSame17_p s s hl hl
  rw [decide_eq_true (show s = s from rfl)] at hs2
  obtain ⟨l1, l2⟩ := writeSk_len s r
  generalize writeSk s r = W at *
  obtain ⟨⟨a2, b2, c2, d2, m2⟩, acts, e⟩ := W
  simp only at l1 l2
  have hs1 := refSame17_p ⟨a2, b2, c2, d2, m2⟩ ⟨a2, b2, c2, d2, m2⟩ (by simp only; omega) (by simp only; omega)
  rw [decide_eq_true rfl] at hs1
  have hsa := sameAct17_p acts acts (by unfold maxLen; omega) (by unfold maxLen; omega)
  rw [decide_eq_true rfl] at hsa
  obtain ⟨a, b, c, d, l⟩ := s
  obtain ⟨rs, rk, rv⟩ := r
  simp only at h2
  simp only [Sk.av, Rec.av] at hcp hw hrw hs1 hs2 ⊢
  have h2I : ¬ (200 : Int) < l.length := by omega
  clear l1 l2 hl
  generalize acts.map Act.av = A at *
  replace hwk := Lib.hid hwk
  replace hcp := Lib.hid hcp
  replace hw := Lib.hid hw
  replace hrw := Lib.hid hrw
  replace hs1 := Lib.hid hs1
  replace hs2 := Lib.hid hs2
  replace hsa := Lib.hid hsa
  refine ACall_of' Try.func4 rfl (Ent_of Try.func4 (by kernel_rfl) rfl) (by simp [Try.ntmps4]) ?_; simp only [Try.ntmps4, Try.results4]
  repeat' (first
    | refine AW_seq_kn fun K hK => ?_
    | refine AW_block ?_
    | (refine does_call rfl rfl ?_; simp only [push_cast, seval, *]; refine ACall.monoP (unhid hwk _) ?_; (try simp only [push_cast, seval, *]))
    | (refine does_call rfl rfl ?_; simp only [push_cast, seval, *]; refine ACall.monoP (unhid hcp _) ?_; (try simp only [push_cast, seval, *]))
    | (refine does_call rfl rfl ?_; simp only [push_cast, seval, *]; refine ACall.monoP (unhid hw _) ?_; (try simp only [push_cast, seval, *]))
    | (refine does_call rfl rfl ?_; simp only [push_cast, seval, *]; refine ACall.monoP (unhid hrw _) ?_; (try simp only [push_cast, seval, *]))
    | (refine does_call rfl rfl ?_; simp only [push_cast, seval, *]; refine ACall.monoP (unhid hs1 _) ?_; (try simp only [push_cast, seval, *]))
    | (refine does_call rfl rfl ?_; simp only [push_cast, seval, *]; refine ACall.monoP (unhid hs2 _) ?_; (try simp only [push_cast, seval, *]))
    | (refine does_call rfl rfl ?_; simp only [push_cast, seval, *]; refine ACall.monoP (unhid hsa _) ?_; (try simp only [push_cast, seval, *]))
    | ((first
      | refine AW_region E0 ?_ | refine AW_ret ?_ | refine AW_exit ?_ | refine AW_skip ?_ | unfold retQ); try simp only [push_cast, seval, *])
    | ((first | (apply AW_cond; (case hc => (simp only [push_cast, seval]; rfl))) | (apply ER_guard; (case hb => (simp only [push_cast, seval]; rfl)))); all_goals ((intro hc; first | (exfalso; simp only [push_cast, seval, *] at hc; done) | (exact absurd hc (by decide)) | ((try first | rw [Bool.not_true] at hc | rw [Bool.not_false] at hc); first | (with_reducible replace hc := tTT hc); clear hc | (with_reducible replace hc := tFF hc); clear hc | (have hp := hc; try simp only [decide_eq_true_eq, decide_eq_false_iff_not, bA, bB, bC, bD, bE, bF, bG, bH] at hp))) <;> try simp only [push_cast, seval, *]))
    | (refine Kn.go hK ?_; clear hK K)
    | refine Kn.go (by assumption) ?_
    | (intro n hn; (try simp only [upd_none2, join_none_iff, ite_none, ne_eq] at hn); (try simp only [push_cast, seval, *]))
    | (intro hc)
    | (apply ER_blk; (case hp => rfl); (case hb => (simp only [push_cast, seval]; rfl)); (case hd => (simp only [push_cast, seval]; done)); (case h => (intro hc; simp only [push_cast, seval, *]; rfl)); simp only [push_cast, seval, *])
    | fail)
  exact ⟨_, _, Weak.refl _ _, rfl⟩
end Go.Proofs.Ytdeckjoeggmagaa
