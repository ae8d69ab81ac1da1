/- wakes. -/
import Derived.Test.YtlbdpnlmdcajbaaY
namespace Go.Proofs.Ytlbdpnlmdcajbaa
open Go.RowKit
open Nat renaming reduceEqDiff → nA, reduceLT → nB, reduceLeDiff → nC, reduceAdd → nD, reduceMul → nE, reduceSub → nF, reduceBEq → nG
open Int renaming reduceToNat → iA, reduceLT → iB, reduceLE → iC, reduceEq → iD
open Bool renaming and_eq_true → bA, or_eq_true → bB, or_eq_false_iff → bC, and_eq_false_iff → bD, not_eq_true' → bE, not_eq_false' → bF, not_true → bG, not_false → bH
set_option linter.all false
set_option maxHeartbeats 4000000
attribute [local irreducible] AW Does ACall tE tS tB tZ
set_option maxRecDepth 5000

def w1C : Cd := ⟨3, 0, 2, 1, 100, []⟩
def w2C : Cd := ⟨3, 1, 2, 1, 100, [⟨6442450945, 10, false, []⟩]⟩
def w3C : Cd := ⟨3, 1, 2, 1, 100, [⟨6442450945, 10, false, [⟨1, [7]⟩]⟩]⟩
def w4C : Cd := ⟨3, 1, 2, 1, 100, [⟨6442450945, 10, false, [⟨0, []⟩, ⟨1, [7]⟩]⟩]⟩
def w5C : Cd := ⟨3, 1, 2, 1, 100, []⟩
theorem fits1 : w1C.fits := ⟨by decide, by simp [w1C]⟩
theorem fits2 : w2C.fits := ⟨by decide, by simp [w2C, Pd.fits]⟩
theorem fits3 : w3C.fits := ⟨by decide, by simp [w3C, Pd.fits, maxLen]⟩
theorem fits4 : w4C.fits := ⟨by decide, by simp [w4C, Pd.fits, maxLen]⟩
theorem wR1 : cdOk (newS 3 2 1) = true ∧ newS 3 2 1 = w1C := by decide +kernel
theorem wR2 : trigR w1C 10 false = (w2C, 6442450945, 0) := by decide +kernel
theorem wR3 : ackR w2C 6442450945 1 ⟨1, [7]⟩ = (w3C, false, 0) := by decide +kernel
theorem wR4 : compR w3C 6442450945 = (zeroC, [], [], 322) := by decide +kernel
theorem wR5 : ackR w3C 6442450945 1 ⟨0, []⟩ = (w4C, true, 0) := by decide +kernel
theorem wR6 : compR w4C 6442450945 = (w5C, [⟨0, []⟩, ⟨1, [7]⟩], [], 0) := by decide +kernel
theorem wakes22_p : Pure Try.prog 9 [] (.c (.bool true)) := by
  intro H
  have a1 := New_p 3 2 1
  rw [if_pos wR1.1, wR1.2] at a1
  have a2 := Trigger_p w1C (by simp [w1C]) fits1 10 false
  rw [wR2] at a2
  have a3 := fun z H hz => Acked_lp w2C (by simp [w2C, maxLen]) fits2 6442450945 1 ⟨1, [7]⟩ (by simp [maxLen]) z H hz
  simp only [wR3] at a3
  have a4 := Complete_p w3C (by simp [w3C, maxLen]) fits3 6442450945
  rw [wR4] at a4
  have a5 := fun z H hz => Acked_lp w3C (by simp [w3C, maxLen]) fits3 6442450945 1 ⟨0, []⟩ (by simp [maxLen]) z H hz
  simp only [wR5] at a5
  have a6 := Complete_p w4C (by simp [w4C, maxLen]) fits4 6442450945
  rw [wR6] at a6
  simp only [List.map_cons, List.map_nil, Ak.av, by1] at a6
  have s3 : ∀ (n : Nat) (G : Heap), G n = none → ACall Try.prog 32 [.g (Cd.av w2C), .c (.int .u64 6442450945), .c (.int .i64 1), .g [.c (.int .i64 1), .s n 1 0 1 1]] (upd G n (.r 5 1 1 [[.c (.int .u8 7)]])) fun r H' => r = .t [.g w3C.av, .c (.bool false), .c (.int .i64 0)] ∧ H' = upd G n (.r 5 1 1 [[.c (.int .u8 7)]]) := fun n G hn =>
    a3 _ _ (Lent.s (rows := [[.c (.int .u8 7)]]) (upd_same _ _ _))
  have s5 : ∀ G, ACall Try.prog 32 [.g (Cd.av w3C), .c (.int .u64 6442450945), .c (.int .i64 1), .g [.c (.int .i64 0), .c (.slice none 0 0)]] G fun r H' => r = .t [.g w4C.av, .c (.bool true), .c (.int .i64 0)] ∧ H' = G := fun G =>
    a5 _ _ (OwnL.nil G 0 1).lent
  clear a3 a5
  generalize w1C = c1 at *
  generalize w2C = c2 at *
  generalize w3C = c3 at *
  generalize w4C = c4 at *
  generalize w5C = c5 at *
  simp only [Cd.av, zeroC] at a1 a2 a4 a6 s3 s5
  replace s3 := Lib.hid s3
  replace s5 := Lib.hid s5
  refine ACall_of' Try.func9 rfl (Ent_of Try.func9 (by kernel_rfl) rfl) (by simp [Try.ntmps9]) ?_; simp only [Try.ntmps9, Try.results9]
  repeat' (first
    | refine AW_seq_kn fun K hK => ?_
    | refine AW_block ?_
    | (refine does_call rfl rfl ?_; simp only [push_cast, seval, *]; refine ACall.monoP (a1 _) ?_; (try simp only [push_cast, seval, *]))
    | (refine does_call rfl rfl ?_; simp only [push_cast, seval, *]; refine ACall.monoP (a2 _) ?_; (try simp only [push_cast, seval, *]))
    | (refine does_call rfl rfl ?_; simp only [push_cast, seval, *]; refine ACall.monoP (a4 _) ?_; (try simp only [push_cast, seval, *]))
    | (refine does_call rfl rfl ?_; simp only [push_cast, seval, *]; refine ACall.monoP (a6 _) ?_; (try simp only [push_cast, seval, *]))
    | (refine does_call rfl rfl ?_; simp only [push_cast, seval, *]; refine ACall.monoP (unhid s5 _) ?_; (try simp only [push_cast, seval, *]))
    | ((first
      | refine AW_region E0 ?_ | refine AW_ret ?_ | refine AW_exit ?_ | refine AW_skip ?_ | unfold retQ); try simp only [push_cast, seval, *])
    | ((first | (apply AW_cond; (case hc => (simp only [push_cast, seval]; rfl))) | (apply ER_guard; (case hb => (simp only [push_cast, seval]; rfl)))); all_goals ((intro hc; first | (exfalso; simp only [push_cast, seval, *] at hc; done) | (exact absurd hc (by decide)) | ((try first | rw [Bool.not_true] at hc | rw [Bool.not_false] at hc); first | (with_reducible replace hc := tTT hc); clear hc | (with_reducible replace hc := tFF hc); clear hc | (have hp := hc; try simp only [decide_eq_true_eq, decide_eq_false_iff_not, bA, bB, bC, bD, bE, bF, bG, bH] at hp))) <;> try simp only [push_cast, seval, *]))
    | (refine Kn.go hK ?_; clear hK K)
    | refine Kn.go (by assumption) ?_
    | (intro n hn; (try simp only [upd_none2, join_none_iff, ite_none, ne_eq] at hn); (try simp only [push_cast, seval, *]))
    | (intro hc)
    | (apply ER_blk; (case hp => rfl); (case hb => (simp only [push_cast, seval]; rfl)); (case hd => (simp only [push_cast, seval]; done)); (case h => (intro hc; simp only [push_cast, seval, *]; rfl)); simp only [push_cast, seval, *])
    | fail)
  refine does_call rfl rfl ?_
  simp only [push_cast, seval, *]
  refine ACall.mono (unhid s3 n _ (by simp only [upd_none2]; exact hn)) ?_
  (rintro _ _ ⟨rfl, e2⟩; have e3 := e2.symm; clear e2; subst e3)
  (try simp only [push_cast, seval, *])
  repeat' (first
    | refine AW_seq_kn fun K hK => ?_
    | refine AW_block ?_
    | (refine does_call rfl rfl ?_; simp only [push_cast, seval, *]; refine ACall.monoP (a1 _) ?_; (try simp only [push_cast, seval, *]))
    | (refine does_call rfl rfl ?_; simp only [push_cast, seval, *]; refine ACall.monoP (a2 _) ?_; (try simp only [push_cast, seval, *]))
    | (refine does_call rfl rfl ?_; simp only [push_cast, seval, *]; refine ACall.monoP (a4 _) ?_; (try simp only [push_cast, seval, *]))
    | (refine does_call rfl rfl ?_; simp only [push_cast, seval, *]; refine ACall.monoP (a6 _) ?_; (try simp only [push_cast, seval, *]))
    | (refine does_call rfl rfl ?_; simp only [push_cast, seval, *]; refine ACall.monoP (unhid s5 _) ?_; (try simp only [push_cast, seval, *]))
    | ((first
      | refine AW_region E0 ?_ | refine AW_ret ?_ | refine AW_exit ?_ | refine AW_skip ?_ | unfold retQ); try simp only [push_cast, seval, *])
    | ((first | (apply AW_cond; (case hc => (simp only [push_cast, seval]; rfl))) | (apply ER_guard; (case hb => (simp only [push_cast, seval]; rfl)))); all_goals ((intro hc; first | (exfalso; simp only [push_cast, seval, *] at hc; done) | (exact absurd hc (by decide)) | ((try first | rw [Bool.not_true] at hc | rw [Bool.not_false] at hc); first | (with_reducible replace hc := tTT hc); clear hc | (with_reducible replace hc := tFF hc); clear hc | (have hp := hc; try simp only [decide_eq_true_eq, decide_eq_false_iff_not, bA, bB, bC, bD, bE, bF, bG, bH] at hp))) <;> try simp only [push_cast, seval, *]))
    | (refine Kn.go hK ?_; clear hK K)
    | refine Kn.go (by assumption) ?_
    | (intro n hn; (try simp only [upd_none2, join_none_iff, ite_none, ne_eq] at hn); (try simp only [push_cast, seval, *]))
    | (intro hc)
    | (apply ER_blk; (case hp => rfl); (case hb => (simp only [push_cast, seval]; rfl)); (case hd => (simp only [push_cast, seval]; done)); (case h => (intro hc; simp only [push_cast, seval, *]; rfl)); simp only [push_cast, seval, *])
    | fail)
  exact ⟨_, _, Weak.less (by repeat' (first | exact Heap.le_refl _ | refine le_skip ?_ (by assumption) | ((repeat' (first | exact Heap.le_refl _ | refine hle_upd2 ?_ _ _ | (refine Heap.le_new ?_ ?_; rotate_left 1; focus (first | assumption | (simp only [upd_none2, upd_get, ne_eq, push_cast, seval, *]; done) | (simp [upd_get, *]; done)))))))), rfl, rfl⟩

end Go.Proofs.Ytlbdpnlmdcajbaa
