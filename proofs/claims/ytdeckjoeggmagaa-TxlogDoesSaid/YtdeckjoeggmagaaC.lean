/- Walks: which logs may be. -/
import Derived.Test.YtdeckjoeggmagaaC0
namespace Go.Proofs.Ytdeckjoeggmagaa
open Go.RowKit
open Nat renaming reduceEqDiff → nA, reduceLT → nB, reduceLeDiff → nC, reduceAdd → nD, reduceMul → nE, reduceSub → nF, reduceBEq → nG
open Int renaming reduceToNat → iA, reduceLT → iB, reduceLE → iC, reduceEq → iD
open Bool renaming and_eq_true → bA, or_eq_true → bB, or_eq_false_iff → bC, and_eq_false_iff → bD, not_eq_true' → bE, not_eq_false' → bF, not_true → bG, not_false → bH
set_option linter.all false
set_option maxHeartbeats 4000000
attribute [local irreducible] AW Does ACall tE tS tB tZ
def dLC0 : List En := [(0, false, []), (1, false, []), (2, false, []), (3, false, []), (4, false, []), (5, false, []), (6, false, []), (7, false, []), (8, false, []), (9, false, []), (10, false, []), (11, false, []), (12, false, []), (13, false, []), (14, false, []), (15, false, []), (16, false, []), (17, false, []), (18, false, []), (19, false, []), (20, false, []), (21, false, []), (22, false, []), (23, false, []), (24, false, []), (25, false, []), (26, false, []), (27, false, []), (28, false, []), (29, false, []), (30, false, [])]
def dAC0 : List (List Nat) := [[], [], [1], [0, 1, 2], [0, 1, 2, 3], [0, 1, 2, 3, 4], [0, 1, 2, 3, 4, 5], [0, 1, 2, 3, 4, 5, 6], [0, 1, 2, 3, 4, 5, 6, 7], [0, 1, 2, 3, 4, 5, 6, 7, 8], [0, 1, 2, 3, 4, 5, 6, 7, 8, 9], [0, 1, 2, 3, 4, 5, 6, 7, 8, 9, 10], [0, 1, 2, 3, 4, 5, 6, 7, 8, 9, 10, 11], [0, 1, 2, 3, 4, 5, 6, 7, 8, 9, 10, 11, 12], [0, 1, 2, 3, 4, 5, 6, 7, 8, 9, 10, 11, 12, 13], [0, 1, 2, 3, 4, 5, 6, 7, 8, 9, 10, 11, 12], [0, 1, 2, 3, 4, 5, 6, 7, 8, 9, 10, 11, 12, 15], [0, 1, 2, 3, 4, 5, 6, 7, 8, 9, 10, 11, 12, 13, 14, 15, 16], [0, 1, 2, 3, 4, 5, 6, 7, 8, 9, 10, 11, 12, 13, 14, 15, 16, 17], [0, 1, 2, 3, 4, 5, 6, 7, 8, 9, 10, 11, 12, 13, 14, 15, 16, 17, 18], [0, 1, 2, 3, 4, 5, 6, 7, 8, 9, 10, 11, 12], [0, 1, 2, 3, 4, 5, 6, 7, 8, 9, 10, 11, 12, 20], [0, 1, 2, 3, 4, 5, 6, 7, 8, 9, 10, 11, 12, 13, 14, 15, 16, 17, 18, 19, 20, 21], [0, 1, 2, 3, 4, 5, 6, 7, 8, 9, 10, 11, 12, 13, 14, 15, 16, 17, 18, 19, 20, 21, 22], [0, 1, 2, 3, 4, 5, 6, 7, 8, 9, 10, 11, 12, 13, 14, 15, 16, 17, 18, 19, 20, 21, 22, 23], [0, 1, 2, 3, 4, 5, 6, 7, 8, 9, 10, 11, 12, 13, 14, 15, 16, 17, 18, 19, 20, 21, 22, 23, 24], [0, 1, 2, 3, 4, 5, 6, 7, 8, 9, 10, 11, 12, 13, 14, 15, 16, 17, 18, 19, 20, 21, 22, 23, 24, 25], [0, 1, 2, 3, 4, 5, 6, 7, 8, 9, 10, 11, 12, 13, 14, 15, 16, 17, 18, 19, 20, 21, 22, 23, 24, 25, 26], [0, 1, 2, 3, 4, 5, 6, 7, 8, 9, 10, 11, 12, 13, 14, 15, 16, 17, 18, 19, 20, 21, 22, 23, 24, 25, 26, 27], [0, 1, 2, 3, 4, 5, 6, 7, 8, 9, 10, 11, 12, 13, 14, 15, 16, 17, 18, 19, 20, 21, 22, 23, 24, 25, 26, 27, 28], [0, 1, 2, 3, 4, 5, 6, 7, 8, 9, 10, 11, 12, 13, 14, 15, 16, 17, 18, 19, 20, 21, 22, 23, 24, 25, 26, 27, 28, 29]]
attribute [push_cast] dLC0
set_option maxRecDepth 5000

def PreT (txs : List Tx) (k : Nat) (p : Option Nm) : Prop := (k = 0 ∧ p = none) ∨ (0 < k ∧ ∃ y : Tx, p = some y.nm ∧ txs[k - 1]? = some y)
theorem Check_p (l : Lg) (hf : l.fits) : Pure Try.prog 42 [.g (Lg.av l)] (.c (.int .i64 (if lgOk l = true then 0 else 260))) := by
  intro H
  have hsz := size_p l (fits_size hf) (by have := hf.1.1; unfold maxLen; omega)
  have hwr := wrong_p l.log (by have := hf.1.2.2; unfold maxLen; omega)
  obtain ⟨⟨hf1, hf2, hf3⟩, hf4⟩ := hf
  unfold lgOk
  obtain ⟨R, hR⟩ : ∃ R, (txsOk none [] l.txs && dnOk (l.txs.map Tx.nm).reverse l.done) = R := ⟨_, rfl⟩
  rw [hR]
  generalize hSz : sizeS l = S at *
  generalize hwB : (l.log.any fun r => !recOk r) = wB at *
  obtain ⟨txs, done, log⟩ := l
  have hav : Lg.av ⟨txs, done, log⟩ = [.l 5 (txs.map Tx.av), .l 3 (done.map Nm.av), .l 3 (log.map Rec.av)] := rfl
  simp only at hf1 hf2 hf3 hf4 hR hwr ⊢
  simp only [hav] at hsz ⊢
  clear hSz hwB hav
  replace hR := Lib.hid hR
  replace hf4 := Lib.hid hf4
  by_cases h1 : txs.length ≤ 24
  rotate_left
  · have h1I : (24 : Int) < txs.length := by omega
    rw [decide_eq_false h1]
    clear hsz hwr
    refine ACall_of' Try.func42 rfl (Ent_of Try.func42 (by kernel_rfl) rfl) (by simp [Try.ntmps42]) ?_; simp only [Try.ntmps42, Try.results42]
    repeat' (first
    | refine AW_seq_kn fun K hK => ?_
    | refine AW_block ?_
    | (refine does_call rfl rfl ?_; simp only [push_cast, seval, *]; refine ACall.monoP (Compare_p ⟨_, _, _⟩ ⟨_, _, _⟩ _) ?_; (try simp only [push_cast, seval, *]))
    | ((first
      | refine AW_region_draw (id := 9) E0 (fun f => [].contains f) dLC0 dAC0 mixed (by kernel_rfl) ?_
      | refine AW_region E0 ?_ | refine AW_ret ?_ | refine AW_exit ?_ | refine AW_skip ?_ | unfold retQ); try simp only [push_cast, seval, *])
    | ((first | (apply AW_cond; (case hc => (simp only [push_cast, seval]; rfl))) | (apply ER_guard; (case hb => (simp only [push_cast, seval]; rfl)))); all_goals ((intro hc; first | (exfalso; simp only [push_cast, seval, *] at hc; done) | (exact absurd hc (by decide)) | ((try first | rw [Bool.not_true] at hc | rw [Bool.not_false] at hc); first | (with_reducible replace hc := tTT hc); clear hc | (with_reducible replace hc := tFF hc); clear hc | (have hp := hc; try simp only [decide_eq_true_eq, decide_eq_false_iff_not, bA, bB, bC, bD, bE, bF, bG, bH] at hp))) <;> try simp only [push_cast, seval, *]))
    | (refine Kn.go hK ?_; clear hK K)
    | refine Kn.go (by assumption) ?_
    | (intro n hn; (try simp only [upd_none2, join_none_iff, ite_none, ne_eq] at hn); (try simp only [push_cast, seval, *]))
    | (intro hc)
    | (apply ER_blk; (case hp => rfl); (case hb => (simp only [push_cast, seval]; rfl)); (case hd => (simp only [push_cast, seval]; done)); (case h => (intro hc; simp only [push_cast, seval, *]; rfl)); simp only [push_cast, seval, *])
    | fail)
    exact ⟨_, _, Weak.less (by (repeat' (first | exact Heap.le_refl _ | refine hle_upd2 ?_ _ _ | (refine Heap.le_new ?_ ?_; rotate_left 1; focus (first | assumption | (simp only [upd_none2, upd_get, ne_eq, push_cast, seval, *]; done) | (simp [upd_get, *]; done)))))), by simp, rfl⟩
  have h1I : ¬ (24 : Int) < txs.length := by omega
  by_cases h2 : done.length ≤ 300
  rotate_left
  · have h2I : (300 : Int) < done.length := by omega
    rw [decide_eq_false h2]
    clear hsz hwr
    refine ACall_of' Try.func42 rfl (Ent_of Try.func42 (by kernel_rfl) rfl) (by simp [Try.ntmps42]) ?_; simp only [Try.ntmps42, Try.results42]
    repeat' (first
    | refine AW_seq_kn fun K hK => ?_
    | refine AW_block ?_
    | (refine does_call rfl rfl ?_; simp only [push_cast, seval, *]; refine ACall.monoP (Compare_p ⟨_, _, _⟩ ⟨_, _, _⟩ _) ?_; (try simp only [push_cast, seval, *]))
    | ((first
      | refine AW_region_draw (id := 9) E0 (fun f => [].contains f) dLC0 dAC0 mixed (by kernel_rfl) ?_
      | refine AW_region E0 ?_ | refine AW_ret ?_ | refine AW_exit ?_ | refine AW_skip ?_ | unfold retQ); try simp only [push_cast, seval, *])
    | ((first | (apply AW_cond; (case hc => (simp only [push_cast, seval]; rfl))) | (apply ER_guard; (case hb => (simp only [push_cast, seval]; rfl)))); all_goals ((intro hc; first | (exfalso; simp only [push_cast, seval, *] at hc; done) | (exact absurd hc (by decide)) | ((try first | rw [Bool.not_true] at hc | rw [Bool.not_false] at hc); first | (with_reducible replace hc := tTT hc); clear hc | (with_reducible replace hc := tFF hc); clear hc | (have hp := hc; try simp only [decide_eq_true_eq, decide_eq_false_iff_not, bA, bB, bC, bD, bE, bF, bG, bH] at hp))) <;> try simp only [push_cast, seval, *]))
    | (refine Kn.go hK ?_; clear hK K)
    | refine Kn.go (by assumption) ?_
    | (intro n hn; (try simp only [upd_none2, join_none_iff, ite_none, ne_eq] at hn); (try simp only [push_cast, seval, *]))
    | (intro hc)
    | (apply ER_blk; (case hp => rfl); (case hb => (simp only [push_cast, seval]; rfl)); (case hd => (simp only [push_cast, seval]; done)); (case h => (intro hc; simp only [push_cast, seval, *]; rfl)); simp only [push_cast, seval, *])
    | fail)
    exact ⟨_, _, Weak.less (by (repeat' (first | exact Heap.le_refl _ | refine hle_upd2 ?_ _ _ | (refine Heap.le_new ?_ ?_; rotate_left 1; focus (first | assumption | (simp only [upd_none2, upd_get, ne_eq, push_cast, seval, *]; done) | (simp [upd_get, *]; done)))))), by simp, rfl⟩
  have h2I : ¬ (300 : Int) < done.length := by omega
  by_cases h3 : S ≤ 400
  rotate_left
  · have h3I : (400 : Int) < S := by omega
    rw [decide_eq_false h3]
    clear hwr
    refine ACall_of' Try.func42 rfl (Ent_of Try.func42 (by kernel_rfl) rfl) (by simp [Try.ntmps42]) ?_; simp only [Try.ntmps42, Try.results42]
    repeat' (first
    | refine AW_seq_kn fun K hK => ?_
    | refine AW_block ?_
    | (refine does_call rfl rfl ?_; simp only [push_cast, seval, *]; refine ACall.monoP (hsz _) ?_; (try simp only [push_cast, seval, *]))
    | (refine does_call rfl rfl ?_; simp only [push_cast, seval, *]; refine ACall.monoP (Compare_p ⟨_, _, _⟩ ⟨_, _, _⟩ _) ?_; (try simp only [push_cast, seval, *]))
    | ((first
      | refine AW_region_draw (id := 9) E0 (fun f => [].contains f) dLC0 dAC0 mixed (by kernel_rfl) ?_
      | refine AW_region E0 ?_ | refine AW_ret ?_ | refine AW_exit ?_ | refine AW_skip ?_ | unfold retQ); try simp only [push_cast, seval, *])
    | ((first | (apply AW_cond; (case hc => (simp only [push_cast, seval]; rfl))) | (apply ER_guard; (case hb => (simp only [push_cast, seval]; rfl)))); all_goals ((intro hc; first | (exfalso; simp only [push_cast, seval, *] at hc; done) | (exact absurd hc (by decide)) | ((try first | rw [Bool.not_true] at hc | rw [Bool.not_false] at hc); first | (with_reducible replace hc := tTT hc); clear hc | (with_reducible replace hc := tFF hc); clear hc | (have hp := hc; try simp only [decide_eq_true_eq, decide_eq_false_iff_not, bA, bB, bC, bD, bE, bF, bG, bH] at hp))) <;> try simp only [push_cast, seval, *]))
    | (refine Kn.go hK ?_; clear hK K)
    | refine Kn.go (by assumption) ?_
    | (intro n hn; (try simp only [upd_none2, join_none_iff, ite_none, ne_eq] at hn); (try simp only [push_cast, seval, *]))
    | (intro hc)
    | (apply ER_blk; (case hp => rfl); (case hb => (simp only [push_cast, seval]; rfl)); (case hd => (simp only [push_cast, seval]; done)); (case h => (intro hc; simp only [push_cast, seval, *]; rfl)); simp only [push_cast, seval, *])
    | fail)
    exact ⟨_, _, Weak.less (by (repeat' (first | exact Heap.le_refl _ | refine hle_upd2 ?_ _ _ | (refine Heap.le_new ?_ ?_; rotate_left 1; focus (first | assumption | (simp only [upd_none2, upd_get, ne_eq, push_cast, seval, *]; done) | (simp [upd_get, *]; done)))))), by simp, rfl⟩
  have h3I : ¬ (400 : Int) < S := by omega
  cases wB
  rotate_left
  · refine ACall_of' Try.func42 rfl (Ent_of Try.func42 (by kernel_rfl) rfl) (by simp [Try.ntmps42]) ?_; simp only [Try.ntmps42, Try.results42]
    repeat' (first
    | refine AW_seq_kn fun K hK => ?_
    | refine AW_block ?_
    | (refine does_call rfl rfl ?_; simp only [push_cast, seval, *]; refine ACall.monoP (hsz _) ?_; (try simp only [push_cast, seval, *]))
    | (refine does_call rfl rfl ?_; simp only [push_cast, seval, *]; refine ACall.monoP (hwr _) ?_; (try simp only [push_cast, seval, *]))
    | (refine does_call rfl rfl ?_; simp only [push_cast, seval, *]; refine ACall.monoP (Compare_p ⟨_, _, _⟩ ⟨_, _, _⟩ _) ?_; (try simp only [push_cast, seval, *]))
    | ((first
      | refine AW_region_draw (id := 9) E0 (fun f => [].contains f) dLC0 dAC0 mixed (by kernel_rfl) ?_
      | refine AW_region E0 ?_ | refine AW_ret ?_ | refine AW_exit ?_ | refine AW_skip ?_ | unfold retQ); try simp only [push_cast, seval, *])
    | ((first | (apply AW_cond; (case hc => (simp only [push_cast, seval]; rfl))) | (apply ER_guard; (case hb => (simp only [push_cast, seval]; rfl)))); all_goals ((intro hc; first | (exfalso; simp only [push_cast, seval, *] at hc; done) | (exact absurd hc (by decide)) | ((try first | rw [Bool.not_true] at hc | rw [Bool.not_false] at hc); first | (with_reducible replace hc := tTT hc); clear hc | (with_reducible replace hc := tFF hc); clear hc | (have hp := hc; try simp only [decide_eq_true_eq, decide_eq_false_iff_not, bA, bB, bC, bD, bE, bF, bG, bH] at hp))) <;> try simp only [push_cast, seval, *]))
    | (refine Kn.go hK ?_; clear hK K)
    | refine Kn.go (by assumption) ?_
    | (intro n hn; (try simp only [upd_none2, join_none_iff, ite_none, ne_eq] at hn); (try simp only [push_cast, seval, *]))
    | (intro hc)
    | (apply ER_blk; (case hp => rfl); (case hb => (simp only [push_cast, seval]; rfl)); (case hd => (simp only [push_cast, seval]; done)); (case h => (intro hc; simp only [push_cast, seval, *]; rfl)); simp only [push_cast, seval, *])
    | fail)
    exact ⟨_, _, Weak.less (by (repeat' (first | exact Heap.le_refl _ | refine hle_upd2 ?_ _ _ | (refine Heap.le_new ?_ ?_; rotate_left 1; focus (first | assumption | (simp only [upd_none2, upd_get, ne_eq, push_cast, seval, *]; done) | (simp [upd_get, *]; done)))))), by simp, rfl⟩
  simp only [decide_eq_true h1, decide_eq_true h2, decide_eq_true h3, Bool.true_and, Bool.not_false]
  refine ACall_of' Try.func42 rfl (Ent_of Try.func42 (by kernel_rfl) rfl) (by simp [Try.ntmps42]) ?_; simp only [Try.ntmps42, Try.results42]
  repeat' (first
    | refine AW_seq_kn fun K hK => ?_
    | refine AW_block ?_
    | (refine does_call rfl rfl ?_; simp only [push_cast, seval, *]; refine ACall.monoP (hsz _) ?_; (try simp only [push_cast, seval, *]))
    | (refine does_call rfl rfl ?_; simp only [push_cast, seval, *]; refine ACall.monoP (hwr _) ?_; (try simp only [push_cast, seval, *]))
    | (refine does_makeMap kN rfl ?_)
    | (refine does_call rfl rfl ?_; simp only [push_cast, seval, *]; refine ACall.monoP (Compare_p ⟨_, _, _⟩ ⟨_, _, _⟩ _) ?_; (try simp only [push_cast, seval, *]))
    | ((first
      | refine AW_region_draw (id := 9) E0 (fun f => [].contains f) dLC0 dAC0 mixed (by kernel_rfl) ?_
      | refine AW_region E0 ?_ | refine AW_ret ?_ | refine AW_exit ?_ | refine AW_skip ?_ | unfold retQ); try simp only [push_cast, seval, *])
    | ((first | (apply AW_cond; (case hc => (simp only [push_cast, seval]; rfl))) | (apply ER_guard; (case hb => (simp only [push_cast, seval]; rfl)))); all_goals ((intro hc; first | (exfalso; simp only [push_cast, seval, *] at hc; done) | (exact absurd hc (by decide)) | ((try first | rw [Bool.not_true] at hc | rw [Bool.not_false] at hc); first | (with_reducible replace hc := tTT hc); clear hc | (with_reducible replace hc := tFF hc); clear hc | (have hp := hc; try simp only [decide_eq_true_eq, decide_eq_false_iff_not, bA, bB, bC, bD, bE, bF, bG, bH] at hp))) <;> try simp only [push_cast, seval, *]))
    | (refine Kn.go hK ?_; clear hK K)
    | refine Kn.go (by assumption) ?_
    | (intro n hn; (try simp only [upd_none2, join_none_iff, ite_none, ne_eq] at hn); (try simp only [push_cast, seval, *]))
    | (intro hc)
    | (apply ER_blk; (case hp => rfl); (case hb => (simp only [push_cast, seval]; rfl)); (case hd => (simp only [push_cast, seval]; done)); (case h => (intro hc; simp only [push_cast, seval, *]; rfl)); simp only [push_cast, seval, *])
    | fail)
  clear hsz hwr
  rename_i n1 h1' n2 h2'
  generalize n = n3 at *
  have n32 : ¬ n3 = n2 := hn.1.1
  have n23 : ¬ n2 = n3 := hn.1.2
  have n31 : ¬ n3 = n1 := hn.2.1.1
  have n13 : ¬ n1 = n3 := hn.2.1.2
  have n21 : ¬ n2 = n1 := h2'.1.1
  have n12 : ¬ n1 = n2 := h2'.1.2
  obtain ⟨G, hG⟩ : ∃ G : Heap, G = upd (upd H n1 (.r 47 3 1 [[.l 5 (txs.map Tx.av), .l 3 (done.map Nm.av), .l 3 (log.map Rec.av)]])) n3 (.r 109 1 1 [[.c (.map (some n2))]]) := ⟨_, rfl⟩
  have g1 : G n1 = some (.r 47 3 1 [[.l 5 (txs.map Tx.av), .l 3 (done.map Nm.av), .l 3 (log.map Rec.av)]]) := by rw [hG, upd_ne n13, upd_same]
  have g3 : G n3 = some (.r 109 1 1 [[.c (.map (some n2))]]) := by rw [hG, upd_same]
  have hGH : Heap.le H G := by rw [hG]; exact le_new2 h1' hn.2.2 n31
  have e0 : upd (upd (upd H n1 (.r 47 3 1 [[.l 5 (txs.map Tx.av), .l 3 (done.map Nm.av), .l 3 (log.map Rec.av)]])) n2 (bm kN [] 0 M0)) n3 (.r 109 1 1 [[.c (.map (some n2))]]) = upd G n2 (bm kN [] 0 M0) := by
    rw [hG]; exact upd_comm n23
  have hH2 : H n2 = none := h2'.2
  rw [e0]
  clear e0
  have hGe := hG
  clear hG
  have hfin : ∀ (lo : List (ME Nm)) (ck : Nat), Heap.le H (upd G n2 (bm kN lo ck M0)) := fun lo ck q b hq => by
    have : q ≠ n2 := by rintro rfl; rw [hH2] at hq; cases hq
    rw [upd_ne this]; exact hGH q b hq
  replace hfin := Lib.hid hfin
  have hG2 : G n2 = none := by rw [hGe, upd_ne n23, upd_ne n21]; exact hH2
  clear h1' h2' hn hGe
  replace hGH := Lib.hid hGH
  replace hH2 := Lib.hid hH2
  refine AW_loopX (σ := Option Nm × List Nm × List (ME Nm) × Nat) txs.length (fun k s => SetN s.2.1 s.2.2.1 ∧ (txsOk s.1 s.2.1 (txs.drop k) && dnOk (txs.map Tx.nm).reverse done) = R ∧ s.2.1 = ((txs.take k).map Tx.nm).reverse ∧ PreT txs k s.1)
    (fun k s => [(1, .p n1 3 0 0), (4, .f (.func 85) [] [.p n3 1 0 0]), (33, .l 5 (txs.map Tx.av)), (34, ci txs.length), (35, ci k)]) (fun _ s => upd G n2 (bm kN s.2.2.1 s.2.2.2 M0)) (none, [], [], 0) ⟨SetN.nil, by rw [List.drop_zero]; exact unhid hR, by simp, .inl ⟨rfl, rfl⟩⟩ ?_ ?_ ?_ ?_
  · (first | trivial | (simp only [push_cast, seval, *]; done))
  · exact Heap.le_refl _
  · rintro k ⟨p, met, lo, ck⟩ hk ⟨hset, hinv, hmet, hpre⟩
    simp only at hset hinv hmet hpre
    have hx := List.getElem?_eq_getElem (l := txs) hk; generalize txs[k] = x at hx; have hxm := List.mem_of_getElem? hx; have hkl : (k : Int) < txs.length := (by omega); have hkw : IntKind.i64.wrap ((k : Int) + 1) = (k : Int) + 1 := wrap_i64 (by omega) (by omega)
    have hrl := unhid hf4 x hxm
    rw [drop_get hx, txsOk] at hinv
    have hmt2 : x.nm :: met = ((txs.take (k + 1)).map Tx.nm).reverse := by rw [hmet, take_snoc hx]; simp
    obtain ⟨⟨s, a, m⟩, st, rs⟩ := x
    have hav : Tx.av ⟨⟨s, a, m⟩, st, rs⟩ = [.c (.int .i64 s), .c (.int .i64 a), .c (.int .i64 m), .c (.int .i64 st), .l 3 (rs.map Rec.av)] := rfl
    have hnv : Nm.av ⟨s, a, m⟩ = [.c (.int .i64 s), .c (.int .i64 a), .c (.int .i64 m)] := rfl
    simp only at hinv hrl hmt2
    have hwr := wrong_p rs (by unfold maxLen; omega)
    obtain ⟨W, hW⟩ : ∃ W, (rs.any fun r => !recOk r) = W := ⟨_, rfl⟩
    rw [hW] at hinv hwr
    obtain ⟨A, hA⟩ : ∃ A, (nmOk ⟨s, a, m⟩ && !decide ((⟨s, a, m⟩ : Nm) ∈ met)) = A := ⟨_, rfl⟩
    rw [hA] at hinv
    have hnx : PreT txs (k + 1) (some (⟨s, a, m⟩ : Nm)) := .inr ⟨by omega, ⟨⟨s, a, m⟩, st, rs⟩, rfl, by rw [Nat.add_sub_cancel]; exact hx⟩
    replace hnx := Lib.hid hnx
    have hset2 := hset.put ⟨s, a, m⟩ ck
    have hbase : ∀ b, Heap.le (upd G n2 b) (upd (upd G n2 (bm kN lo ck M0)) n2 b) := fun b => by rw [upd_upd]; exact Heap.le_refl _
    replace hA := Lib.hid hA
    replace hset := Lib.hid hset
    replace hset2 := Lib.hid hset2
    replace hmt2 := Lib.hid hmt2
    replace hbase := Lib.hid hbase
    clear hW hxm hf4 hR hmet hrl
    have o1 := ne_old g1
    have o3 := ne_old g3
    have hon := once_a ⟨s, a, m⟩ met _ (unhid hA) lo ck (unhid hset)
    simp only [hnv] at hon
    clear hA hset
    have hst : (st = 1 ∧ (decide (st = 1) || decide (st = 2)) = true) ∨ (¬ st = 1 ∧ st = 2 ∧ (decide (st = 1) || decide (st = 2)) = true) ∨ (¬ st = 1 ∧ ¬ st = 2 ∧ (decide (st = 1) || decide (st = 2)) = false) := by
      by_cases c1 : st = 1
      · exact .inl ⟨c1, by simp [c1]⟩
      · by_cases c2 : st = 2
        · exact .inr (.inl ⟨c1, c2, by simp [c2]⟩)
        · exact .inr (.inr ⟨c1, c2, by simp [c1, c2]⟩)
    cases A
    · simp only [Bool.false_and] at hinv
      subst hinv
      clear hpre hmt2 hset2 hwr
      rcases hst with ⟨st1, -⟩ | ⟨st1, st2, -⟩ | ⟨st1, st2, -⟩
      all_goals
        repeat' (first
    | refine AW_seq_kn fun K hK => ?_
    | refine AW_block ?_
    | (refine does_call_f rfl (by simp only [push_cast, seval]; rfl) ?_; simp only [push_cast, seval, *]; refine (hon _ n3 n2 (by simp only [push_cast, seval, upd_get, *]) (by simp only [push_cast, seval, upd_get, *])).mono ?_; (rintro _ _ ⟨rfl, e2⟩; have e3 := e2.symm; clear e2; subst e3); (try simp only [push_cast, seval, *]))
    | (refine does_call rfl rfl ?_; simp only [push_cast, seval, *]; refine ACall.monoP (Compare_p ⟨_, _, _⟩ ⟨_, _, _⟩ _) ?_; (try simp only [push_cast, seval, *]))
    | ((first
      | refine AW_region_draw (id := 9) E0 (fun f => [].contains f) dLC0 dAC0 mixed (by kernel_rfl) ?_
      | refine AW_region E0 ?_ | refine AW_ret ?_ | refine AW_exit ?_ | refine AW_skip ?_ | unfold retQ); try simp only [push_cast, seval, *])
    | ((first | (apply AW_cond; (case hc => (simp only [push_cast, seval]; rfl))) | (apply ER_guard; (case hb => (simp only [push_cast, seval]; rfl)))); all_goals ((intro hc; first | (exfalso; simp only [push_cast, seval, *] at hc; done) | (exact absurd hc (by decide)) | ((try first | rw [Bool.not_true] at hc | rw [Bool.not_false] at hc); first | (with_reducible replace hc := tTT hc); clear hc | (with_reducible replace hc := tFF hc); clear hc | (have hp := hc; try simp only [decide_eq_true_eq, decide_eq_false_iff_not, bA, bB, bC, bD, bE, bF, bG, bH] at hp))) <;> try simp only [push_cast, seval, *]))
    | (refine Kn.go hK ?_; clear hK K)
    | refine Kn.go (by assumption) ?_
    | (intro n hn; (try simp only [upd_none2, join_none_iff, ite_none, ne_eq] at hn); (try simp only [push_cast, seval, *]))
    | (intro hc)
    | (apply ER_blk; (case hp => rfl); (case hb => (simp only [push_cast, seval]; rfl)); (case hd => (simp only [push_cast, seval]; done)); (case h => (intro hc; simp only [push_cast, seval, *]; rfl)); simp only [push_cast, seval, *])
    | fail)
        exact ⟨_, _, Weak.less (by repeat' (first | exact unhid hfin _ _ | refine le_skip ?_ (unhid hH2) | refine le_skip ?_ (le_no (unhid hGH) hn.2))), by simp, rfl⟩
    rcases hst with ⟨st1, hst⟩ | ⟨st1, st2, hst⟩ | ⟨st1, st2, hst⟩
    rotate_left 2
    · rw [hst] at hinv
      simp only [Bool.and_false, Bool.false_and] at hinv
      subst hinv
      clear hpre hmt2 hset2 hwr hst
      repeat' (first
    | refine AW_seq_kn fun K hK => ?_
    | refine AW_block ?_
    | (refine does_call_f rfl (by simp only [push_cast, seval]; rfl) ?_; simp only [push_cast, seval, *]; refine (hon _ n3 n2 (by simp only [push_cast, seval, upd_get, *]) (by simp only [push_cast, seval, upd_get, *])).mono ?_; (rintro _ _ ⟨rfl, e2⟩; have e3 := e2.symm; clear e2; subst e3); (try simp only [push_cast, seval, *]))
    | (refine does_call rfl rfl ?_; simp only [push_cast, seval, *]; refine ACall.monoP (Compare_p ⟨_, _, _⟩ ⟨_, _, _⟩ _) ?_; (try simp only [push_cast, seval, *]))
    | ((first
      | refine AW_region_draw (id := 9) E0 (fun f => [].contains f) dLC0 dAC0 mixed (by kernel_rfl) ?_
      | refine AW_region E0 ?_ | refine AW_ret ?_ | refine AW_exit ?_ | refine AW_skip ?_ | unfold retQ); try simp only [push_cast, seval, *])
    | ((first | (apply AW_cond; (case hc => (simp only [push_cast, seval]; rfl))) | (apply ER_guard; (case hb => (simp only [push_cast, seval]; rfl)))); all_goals ((intro hc; first | (exfalso; simp only [push_cast, seval, *] at hc; done) | (exact absurd hc (by decide)) | ((try first | rw [Bool.not_true] at hc | rw [Bool.not_false] at hc); first | (with_reducible replace hc := tTT hc); clear hc | (with_reducible replace hc := tFF hc); clear hc | (have hp := hc; try simp only [decide_eq_true_eq, decide_eq_false_iff_not, bA, bB, bC, bD, bE, bF, bG, bH] at hp))) <;> try simp only [push_cast, seval, *]))
    | (refine Kn.go hK ?_; clear hK K)
    | refine Kn.go (by assumption) ?_
    | (intro n hn; (try simp only [upd_none2, join_none_iff, ite_none, ne_eq] at hn); (try simp only [push_cast, seval, *]))
    | (intro hc)
    | (apply ER_blk; (case hp => rfl); (case hb => (simp only [push_cast, seval]; rfl)); (case hd => (simp only [push_cast, seval]; done)); (case h => (intro hc; simp only [push_cast, seval, *]; rfl)); simp only [push_cast, seval, *])
    | fail)
      exact ⟨_, _, Weak.less (by repeat' (first | exact unhid hfin _ _ | refine le_skip ?_ (unhid hH2) | refine le_skip ?_ (le_no (unhid hGH) hn.2))), by simp, rfl⟩
    all_goals
      rw [hst] at hinv
      simp only [Bool.true_and, Bool.and_true] at hinv
      clear hst
      rcases hpre with ⟨hk0, rfl⟩ | ⟨hk0, ⟨⟨ys, ya, ym⟩, yst, yrs⟩, rfl, hy⟩
      · have hk0I : ¬ (0 : Int) < k := by omega
        simp only [aftN, Bool.true_and] at hinv
        replace hk0 := Lib.hid hk0
        cases W
        · simp only [Bool.not_false, Bool.true_and] at hinv
          replace hinv := Lib.hid hinv
          repeat' (first
    | refine AW_seq_kn fun K hK => ?_
    | refine AW_block ?_
    | (refine does_call_f rfl (by simp only [push_cast, seval]; rfl) ?_; simp only [push_cast, seval, *]; refine (hon _ n3 n2 (by simp only [push_cast, seval, upd_get, *]) (by simp only [push_cast, seval, upd_get, *])).mono ?_; (rintro _ _ ⟨rfl, e2⟩; have e3 := e2.symm; clear e2; subst e3); (try simp only [push_cast, seval, *]))
    | (refine does_call rfl rfl ?_; simp only [push_cast, seval, *]; refine ACall.monoP (hwr _) ?_; (try simp only [push_cast, seval, *]))
    | (refine does_call rfl rfl ?_; simp only [push_cast, seval, *]; refine ACall.monoP (Compare_p ⟨_, _, _⟩ ⟨_, _, _⟩ _) ?_; (try simp only [push_cast, seval, *]))
    | ((first
      | refine AW_region_draw (id := 9) E0 (fun f => [].contains f) dLC0 dAC0 mixed (by kernel_rfl) ?_
      | refine AW_region E0 ?_ | refine AW_ret ?_ | refine AW_exit ?_ | refine AW_skip ?_ | unfold retQ); try simp only [push_cast, seval, *])
    | ((first | (apply AW_cond; (case hc => (simp only [push_cast, seval]; rfl))) | (apply ER_guard; (case hb => (simp only [push_cast, seval]; rfl)))); all_goals ((intro hc; first | (exfalso; simp only [push_cast, seval, *] at hc; done) | (exact absurd hc (by decide)) | ((try first | rw [Bool.not_true] at hc | rw [Bool.not_false] at hc); first | (with_reducible replace hc := tTT hc); clear hc | (with_reducible replace hc := tFF hc); clear hc | (have hp := hc; try simp only [decide_eq_true_eq, decide_eq_false_iff_not, bA, bB, bC, bD, bE, bF, bG, bH] at hp))) <;> try simp only [push_cast, seval, *]))
    | (refine Kn.go hK ?_; clear hK K)
    | refine Kn.go (by assumption) ?_
    | (intro n hn; (try simp only [upd_none2, join_none_iff, ite_none, ne_eq] at hn); (try simp only [push_cast, seval, *]))
    | (intro hc)
    | (apply ER_blk; (case hp => rfl); (case hb => (simp only [push_cast, seval]; rfl)); (case hd => (simp only [push_cast, seval]; done)); (case h => (intro hc; simp only [push_cast, seval, *]; rfl)); simp only [push_cast, seval, *])
    | fail)
          exact ⟨(some ⟨s, a, m⟩, ⟨s, a, m⟩ :: met, putN ⟨s, a, m⟩ lo ck, mclk ⟨s, a, m⟩ lo ck), ⟨unhid hset2, unhid hinv, unhid hmt2, unhid hnx⟩, by (first | trivial | (simp only [push_cast, seval, *]; done)), by
              (repeat' (first | exact Heap.le_refl _ | refine hle_upd2 ?_ _ _ | (refine Heap.le_new ?_ ?_; rotate_left 1; focus (first | assumption | (simp only [upd_none2, upd_get, ne_eq, push_cast, seval, *]; done) | (simp [upd_get, *]; done)))))
              all_goals rfl⟩
        · simp only [Bool.not_true, Bool.false_and] at hinv
          subst hinv
          repeat' (first
    | refine AW_seq_kn fun K hK => ?_
    | refine AW_block ?_
    | (refine does_call_f rfl (by simp only [push_cast, seval]; rfl) ?_; simp only [push_cast, seval, *]; refine (hon _ n3 n2 (by simp only [push_cast, seval, upd_get, *]) (by simp only [push_cast, seval, upd_get, *])).mono ?_; (rintro _ _ ⟨rfl, e2⟩; have e3 := e2.symm; clear e2; subst e3); (try simp only [push_cast, seval, *]))
    | (refine does_call rfl rfl ?_; simp only [push_cast, seval, *]; refine ACall.monoP (hwr _) ?_; (try simp only [push_cast, seval, *]))
    | (refine does_call rfl rfl ?_; simp only [push_cast, seval, *]; refine ACall.monoP (Compare_p ⟨_, _, _⟩ ⟨_, _, _⟩ _) ?_; (try simp only [push_cast, seval, *]))
    | ((first
      | refine AW_region_draw (id := 9) E0 (fun f => [].contains f) dLC0 dAC0 mixed (by kernel_rfl) ?_
      | refine AW_region E0 ?_ | refine AW_ret ?_ | refine AW_exit ?_ | refine AW_skip ?_ | unfold retQ); try simp only [push_cast, seval, *])
    | ((first | (apply AW_cond; (case hc => (simp only [push_cast, seval]; rfl))) | (apply ER_guard; (case hb => (simp only [push_cast, seval]; rfl)))); all_goals ((intro hc; first | (exfalso; simp only [push_cast, seval, *] at hc; done) | (exact absurd hc (by decide)) | ((try first | rw [Bool.not_true] at hc | rw [Bool.not_false] at hc); first | (with_reducible replace hc := tTT hc); clear hc | (with_reducible replace hc := tFF hc); clear hc | (have hp := hc; try simp only [decide_eq_true_eq, decide_eq_false_iff_not, bA, bB, bC, bD, bE, bF, bG, bH] at hp))) <;> try simp only [push_cast, seval, *]))
    | (refine Kn.go hK ?_; clear hK K)
    | refine Kn.go (by assumption) ?_
    | (intro n hn; (try simp only [upd_none2, join_none_iff, ite_none, ne_eq] at hn); (try simp only [push_cast, seval, *]))
    | (intro hc)
    | (apply ER_blk; (case hp => rfl); (case hb => (simp only [push_cast, seval]; rfl)); (case hd => (simp only [push_cast, seval]; done)); (case h => (intro hc; simp only [push_cast, seval, *]; rfl)); simp only [push_cast, seval, *])
    | fail)
          exact ⟨_, _, Weak.less (by repeat' (first | exact unhid hfin _ _ | refine le_skip ?_ (unhid hH2) | refine le_skip ?_ (le_no (unhid hGH) hn.2))), by simp, rfl⟩
      · have hk0I : (0 : Int) < k := by omega
        have hk1 : IntKind.i64.wrap ((k : Int) - 1) = ((k - 1 : Nat) : Int) := by rw [wrap_i64 (by omega) (by omega)]; omega
        have hk1I : ((k - 1 : Nat) : Int) < txs.length := by omega
        have hyv : Tx.av ⟨⟨ys, ya, ym⟩, yst, yrs⟩ = [.c (.int .i64 ys), .c (.int .i64 ya), .c (.int .i64 ym), .c (.int .i64 yst), .l 3 (yrs.map Rec.av)] := rfl
        have hcm := Compare_p ⟨ys, ya, ym⟩ ⟨s, a, m⟩
        simp only [Nm.av] at hcm
        simp only [aftN] at hinv
        generalize cmpN ⟨ys, ya, ym⟩ ⟨s, a, m⟩ = C at *
        obtain ⟨k1, hk1e⟩ : ∃ k1, k1 = k - 1 := ⟨_, rfl⟩
        rw [← hk1e] at hk1 hk1I hy
        clear hk1e
        by_cases hC : C < 0
        · have hC2 : ¬ 0 ≤ C := by omega
          rw [decide_eq_true hC] at hinv
          simp only [Bool.true_and] at hinv
          cases W
          · simp only [Bool.not_false, Bool.true_and] at hinv
            replace hinv := Lib.hid hinv
            repeat' (first
    | refine AW_seq_kn fun K hK => ?_
    | refine AW_block ?_
    | (refine does_call_f rfl (by simp only [push_cast, seval]; rfl) ?_; simp only [push_cast, seval, *]; refine (hon _ n3 n2 (by simp only [push_cast, seval, upd_get, *]) (by simp only [push_cast, seval, upd_get, *])).mono ?_; (rintro _ _ ⟨rfl, e2⟩; have e3 := e2.symm; clear e2; subst e3); (try simp only [push_cast, seval, *]))
    | (refine does_call rfl rfl ?_; simp only [push_cast, seval, *]; refine ACall.monoP (hcm _) ?_; (try simp only [push_cast, seval, *]))
    | (refine does_call rfl rfl ?_; simp only [push_cast, seval, *]; refine ACall.monoP (hwr _) ?_; (try simp only [push_cast, seval, *]))
    | (refine does_call rfl rfl ?_; simp only [push_cast, seval, *]; refine ACall.monoP (Compare_p ⟨_, _, _⟩ ⟨_, _, _⟩ _) ?_; (try simp only [push_cast, seval, *]))
    | ((first
      | refine AW_region_draw (id := 9) E0 (fun f => [].contains f) dLC0 dAC0 mixed (by kernel_rfl) ?_
      | refine AW_region E0 ?_ | refine AW_ret ?_ | refine AW_exit ?_ | refine AW_skip ?_ | unfold retQ); try simp only [push_cast, seval, *])
    | ((first | (apply AW_cond; (case hc => (simp only [push_cast, seval]; rfl))) | (apply ER_guard; (case hb => (simp only [push_cast, seval]; rfl)))); all_goals ((intro hc; first | (exfalso; simp only [push_cast, seval, *] at hc; done) | (exact absurd hc (by decide)) | ((try first | rw [Bool.not_true] at hc | rw [Bool.not_false] at hc); first | (with_reducible replace hc := tTT hc); clear hc | (with_reducible replace hc := tFF hc); clear hc | (have hp := hc; try simp only [decide_eq_true_eq, decide_eq_false_iff_not, bA, bB, bC, bD, bE, bF, bG, bH] at hp))) <;> try simp only [push_cast, seval, *]))
    | (refine Kn.go hK ?_; clear hK K)
    | refine Kn.go (by assumption) ?_
    | (intro n hn; (try simp only [upd_none2, join_none_iff, ite_none, ne_eq] at hn); (try simp only [push_cast, seval, *]))
    | (intro hc)
    | (apply ER_blk; (case hp => rfl); (case hb => (simp only [push_cast, seval]; rfl)); (case hd => (simp only [push_cast, seval]; done)); (case h => (intro hc; simp only [push_cast, seval, *]; rfl)); simp only [push_cast, seval, *])
    | fail)
            exact ⟨(some ⟨s, a, m⟩, ⟨s, a, m⟩ :: met, putN ⟨s, a, m⟩ lo ck, mclk ⟨s, a, m⟩ lo ck), ⟨unhid hset2, unhid hinv, unhid hmt2, unhid hnx⟩, by (first | trivial | (simp only [push_cast, seval, *]; done)), by
              (repeat' (first | exact Heap.le_refl _ | refine hle_upd2 ?_ _ _ | (refine Heap.le_new ?_ ?_; rotate_left 1; focus (first | assumption | (simp only [upd_none2, upd_get, ne_eq, push_cast, seval, *]; done) | (simp [upd_get, *]; done)))))
              all_goals rfl⟩
          · simp only [Bool.not_true, Bool.false_and] at hinv
            subst hinv
            repeat' (first
    | refine AW_seq_kn fun K hK => ?_
    | refine AW_block ?_
    | (refine does_call_f rfl (by simp only [push_cast, seval]; rfl) ?_; simp only [push_cast, seval, *]; refine (hon _ n3 n2 (by simp only [push_cast, seval, upd_get, *]) (by simp only [push_cast, seval, upd_get, *])).mono ?_; (rintro _ _ ⟨rfl, e2⟩; have e3 := e2.symm; clear e2; subst e3); (try simp only [push_cast, seval, *]))
    | (refine does_call rfl rfl ?_; simp only [push_cast, seval, *]; refine ACall.monoP (hcm _) ?_; (try simp only [push_cast, seval, *]))
    | (refine does_call rfl rfl ?_; simp only [push_cast, seval, *]; refine ACall.monoP (hwr _) ?_; (try simp only [push_cast, seval, *]))
    | (refine does_call rfl rfl ?_; simp only [push_cast, seval, *]; refine ACall.monoP (Compare_p ⟨_, _, _⟩ ⟨_, _, _⟩ _) ?_; (try simp only [push_cast, seval, *]))
    | ((first
      | refine AW_region_draw (id := 9) E0 (fun f => [].contains f) dLC0 dAC0 mixed (by kernel_rfl) ?_
      | refine AW_region E0 ?_ | refine AW_ret ?_ | refine AW_exit ?_ | refine AW_skip ?_ | unfold retQ); try simp only [push_cast, seval, *])
    | ((first | (apply AW_cond; (case hc => (simp only [push_cast, seval]; rfl))) | (apply ER_guard; (case hb => (simp only [push_cast, seval]; rfl)))); all_goals ((intro hc; first | (exfalso; simp only [push_cast, seval, *] at hc; done) | (exact absurd hc (by decide)) | ((try first | rw [Bool.not_true] at hc | rw [Bool.not_false] at hc); first | (with_reducible replace hc := tTT hc); clear hc | (with_reducible replace hc := tFF hc); clear hc | (have hp := hc; try simp only [decide_eq_true_eq, decide_eq_false_iff_not, bA, bB, bC, bD, bE, bF, bG, bH] at hp))) <;> try simp only [push_cast, seval, *]))
    | (refine Kn.go hK ?_; clear hK K)
    | refine Kn.go (by assumption) ?_
    | (intro n hn; (try simp only [upd_none2, join_none_iff, ite_none, ne_eq] at hn); (try simp only [push_cast, seval, *]))
    | (intro hc)
    | (apply ER_blk; (case hp => rfl); (case hb => (simp only [push_cast, seval]; rfl)); (case hd => (simp only [push_cast, seval]; done)); (case h => (intro hc; simp only [push_cast, seval, *]; rfl)); simp only [push_cast, seval, *])
    | fail)
            exact ⟨_, _, Weak.less (by repeat' (first | exact unhid hfin _ _ | refine le_skip ?_ (unhid hH2) | refine le_skip ?_ (le_no (unhid hGH) hn.2))), by simp, rfl⟩
        · have hC2 : 0 ≤ C := by omega
          rw [decide_eq_false hC] at hinv
          simp only [Bool.false_and] at hinv
          subst hinv
          repeat' (first
    | refine AW_seq_kn fun K hK => ?_
    | refine AW_block ?_
    | (refine does_call_f rfl (by simp only [push_cast, seval]; rfl) ?_; simp only [push_cast, seval, *]; refine (hon _ n3 n2 (by simp only [push_cast, seval, upd_get, *]) (by simp only [push_cast, seval, upd_get, *])).mono ?_; (rintro _ _ ⟨rfl, e2⟩; have e3 := e2.symm; clear e2; subst e3); (try simp only [push_cast, seval, *]))
    | (refine does_call rfl rfl ?_; simp only [push_cast, seval, *]; refine ACall.monoP (hcm _) ?_; (try simp only [push_cast, seval, *]))
    | (refine does_call rfl rfl ?_; simp only [push_cast, seval, *]; refine ACall.monoP (Compare_p ⟨_, _, _⟩ ⟨_, _, _⟩ _) ?_; (try simp only [push_cast, seval, *]))
    | ((first
      | refine AW_region_draw (id := 9) E0 (fun f => [].contains f) dLC0 dAC0 mixed (by kernel_rfl) ?_
      | refine AW_region E0 ?_ | refine AW_ret ?_ | refine AW_exit ?_ | refine AW_skip ?_ | unfold retQ); try simp only [push_cast, seval, *])
    | ((first | (apply AW_cond; (case hc => (simp only [push_cast, seval]; rfl))) | (apply ER_guard; (case hb => (simp only [push_cast, seval]; rfl)))); all_goals ((intro hc; first | (exfalso; simp only [push_cast, seval, *] at hc; done) | (exact absurd hc (by decide)) | ((try first | rw [Bool.not_true] at hc | rw [Bool.not_false] at hc); first | (with_reducible replace hc := tTT hc); clear hc | (with_reducible replace hc := tFF hc); clear hc | (have hp := hc; try simp only [decide_eq_true_eq, decide_eq_false_iff_not, bA, bB, bC, bD, bE, bF, bG, bH] at hp))) <;> try simp only [push_cast, seval, *]))
    | (refine Kn.go hK ?_; clear hK K)
    | refine Kn.go (by assumption) ?_
    | (intro n hn; (try simp only [upd_none2, join_none_iff, ite_none, ne_eq] at hn); (try simp only [push_cast, seval, *]))
    | (intro hc)
    | (apply ER_blk; (case hp => rfl); (case hb => (simp only [push_cast, seval]; rfl)); (case hd => (simp only [push_cast, seval]; done)); (case h => (intro hc; simp only [push_cast, seval, *]; rfl)); simp only [push_cast, seval, *])
    | fail)
          exact ⟨_, _, Weak.less (by repeat' (first | exact unhid hfin _ _ | refine le_skip ?_ (unhid hH2) | refine le_skip ?_ (le_no (unhid hGH) hn.2))), by simp, rfl⟩
  · rintro ⟨p, met, lo, ck⟩ ⟨hset, hinv, hmet, -⟩
    simp only [List.drop_length, txsOk, Bool.true_and, List.take_length] at hset hinv hmet
    rw [← hmet] at hinv
    clear hR hf4 hmet
    replace hset := Lib.hid hset
    replace hinv := Lib.hid hinv
    repeat' (first
    | refine AW_seq_kn fun K hK => ?_
    | refine AW_block ?_
    | (refine does_call rfl rfl ?_; simp only [push_cast, seval, *]; refine ACall.monoP (Compare_p ⟨_, _, _⟩ ⟨_, _, _⟩ _) ?_; (try simp only [push_cast, seval, *]))
    | ((first
      | refine AW_region_draw (id := 9) E0 (fun f => [].contains f) dLC0 dAC0 mixed (by kernel_rfl) ?_
      | refine AW_region E0 ?_ | refine AW_ret ?_ | refine AW_exit ?_ | refine AW_skip ?_ | unfold retQ); try simp only [push_cast, seval, *])
    | ((first | (apply AW_cond; (case hc => (simp only [push_cast, seval]; rfl))) | (apply ER_guard; (case hb => (simp only [push_cast, seval]; rfl)))); all_goals ((intro hc; first | (exfalso; simp only [push_cast, seval, *] at hc; done) | (exact absurd hc (by decide)) | ((try first | rw [Bool.not_true] at hc | rw [Bool.not_false] at hc); first | (with_reducible replace hc := tTT hc); clear hc | (with_reducible replace hc := tFF hc); clear hc | (have hp := hc; try simp only [decide_eq_true_eq, decide_eq_false_iff_not, bA, bB, bC, bD, bE, bF, bG, bH] at hp))) <;> try simp only [push_cast, seval, *]))
    | (refine Kn.go hK ?_; clear hK K)
    | refine Kn.go (by assumption) ?_
    | (intro n hn; (try simp only [upd_none2, join_none_iff, ite_none, ne_eq] at hn); (try simp only [push_cast, seval, *]))
    | (intro hc)
    | (apply ER_blk; (case hp => rfl); (case hb => (simp only [push_cast, seval]; rfl)); (case hd => (simp only [push_cast, seval]; done)); (case h => (intro hc; simp only [push_cast, seval, *]; rfl)); simp only [push_cast, seval, *])
    | fail)
    refine AW_loopX (σ := List Nm × List (ME Nm) × Nat) done.length (fun k s => SetN s.1 s.2.1 ∧ dnOk s.1 (done.drop k) = R)
      (fun k s => [(4, .f (.func 85) [] [.p n3 1 0 0]), (81, .l 3 (done.map Nm.av)), (82, ci done.length), (83, ci k)]) (fun _ s => upd G n2 (bm kN s.2.1 s.2.2 M0)) (met, lo, ck) ⟨unhid hset, by rw [List.drop_zero]; exact unhid hinv⟩ ?_ ?_ ?_ ?_
    · (first | trivial | (simp only [push_cast, seval, *]; done))
    · exact Heap.le_refl _
    · rintro k ⟨met, lo, ck⟩ hk ⟨hset, hinv⟩
      simp only at hset hinv
      have hx := List.getElem?_eq_getElem (l := done) hk; generalize done[k] = x at hx; have hxm := List.mem_of_getElem? hx; have hkl : (k : Int) < done.length := (by omega); have hkw : IntKind.i64.wrap ((k : Int) + 1) = (k : Int) + 1 := wrap_i64 (by omega) (by omega)
      rw [drop_get hx, dnOk] at hinv
      obtain ⟨s, a, m⟩ := x
      have hnv : Nm.av ⟨s, a, m⟩ = [.c (.int .i64 s), .c (.int .i64 a), .c (.int .i64 m)] := rfl
      obtain ⟨A, hA⟩ : ∃ A, (nmOk ⟨s, a, m⟩ && !decide ((⟨s, a, m⟩ : Nm) ∈ met)) = A := ⟨_, rfl⟩
      rw [hA] at hinv
      have hset2 := hset.put ⟨s, a, m⟩ ck
      have hon := once_a ⟨s, a, m⟩ met _ hA lo ck hset
      have hbase : ∀ b, Heap.le (upd G n2 b) (upd (upd G n2 (bm kN lo ck M0)) n2 b) := fun b => by rw [upd_upd]; exact Heap.le_refl _
      simp only [hnv] at hon
      replace hset2 := Lib.hid hset2
      replace hbase := Lib.hid hbase
      clear hset hxm hA
      have o1 := ne_old g1
      have o3 := ne_old g3
      cases A
      · simp only [Bool.false_and] at hinv
        subst hinv
        repeat' (first
    | refine AW_seq_kn fun K hK => ?_
    | refine AW_block ?_
    | (refine does_call_f rfl (by simp only [push_cast, seval]; rfl) ?_; simp only [push_cast, seval, *]; refine (hon _ n3 n2 (by simp only [push_cast, seval, upd_get, *]) (by simp only [push_cast, seval, upd_get, *])).mono ?_; (rintro _ _ ⟨rfl, e2⟩; have e3 := e2.symm; clear e2; subst e3); (try simp only [push_cast, seval, *]))
    | (refine does_call rfl rfl ?_; simp only [push_cast, seval, *]; refine ACall.monoP (Compare_p ⟨_, _, _⟩ ⟨_, _, _⟩ _) ?_; (try simp only [push_cast, seval, *]))
    | ((first
      | refine AW_region_draw (id := 9) E0 (fun f => [].contains f) dLC0 dAC0 mixed (by kernel_rfl) ?_
      | refine AW_region E0 ?_ | refine AW_ret ?_ | refine AW_exit ?_ | refine AW_skip ?_ | unfold retQ); try simp only [push_cast, seval, *])
    | ((first | (apply AW_cond; (case hc => (simp only [push_cast, seval]; rfl))) | (apply ER_guard; (case hb => (simp only [push_cast, seval]; rfl)))); all_goals ((intro hc; first | (exfalso; simp only [push_cast, seval, *] at hc; done) | (exact absurd hc (by decide)) | ((try first | rw [Bool.not_true] at hc | rw [Bool.not_false] at hc); first | (with_reducible replace hc := tTT hc); clear hc | (with_reducible replace hc := tFF hc); clear hc | (have hp := hc; try simp only [decide_eq_true_eq, decide_eq_false_iff_not, bA, bB, bC, bD, bE, bF, bG, bH] at hp))) <;> try simp only [push_cast, seval, *]))
    | (refine Kn.go hK ?_; clear hK K)
    | refine Kn.go (by assumption) ?_
    | (intro n hn; (try simp only [upd_none2, join_none_iff, ite_none, ne_eq] at hn); (try simp only [push_cast, seval, *]))
    | (intro hc)
    | (apply ER_blk; (case hp => rfl); (case hb => (simp only [push_cast, seval]; rfl)); (case hd => (simp only [push_cast, seval]; done)); (case h => (intro hc; simp only [push_cast, seval, *]; rfl)); simp only [push_cast, seval, *])
    | fail)
        exact ⟨_, _, Weak.less (by repeat' (first | exact unhid hfin _ _ | refine le_skip ?_ (unhid hH2) | refine le_skip ?_ (le_no (unhid hGH) hn.2))), by simp, rfl⟩
      · simp only [Bool.true_and] at hinv
        replace hinv := Lib.hid hinv
        repeat' (first
    | refine AW_seq_kn fun K hK => ?_
    | refine AW_block ?_
    | (refine does_call_f rfl (by simp only [push_cast, seval]; rfl) ?_; simp only [push_cast, seval, *]; refine (hon _ n3 n2 (by simp only [push_cast, seval, upd_get, *]) (by simp only [push_cast, seval, upd_get, *])).mono ?_; (rintro _ _ ⟨rfl, e2⟩; have e3 := e2.symm; clear e2; subst e3); (try simp only [push_cast, seval, *]))
    | (refine does_call rfl rfl ?_; simp only [push_cast, seval, *]; refine ACall.monoP (Compare_p ⟨_, _, _⟩ ⟨_, _, _⟩ _) ?_; (try simp only [push_cast, seval, *]))
    | ((first
      | refine AW_region_draw (id := 9) E0 (fun f => [].contains f) dLC0 dAC0 mixed (by kernel_rfl) ?_
      | refine AW_region E0 ?_ | refine AW_ret ?_ | refine AW_exit ?_ | refine AW_skip ?_ | unfold retQ); try simp only [push_cast, seval, *])
    | ((first | (apply AW_cond; (case hc => (simp only [push_cast, seval]; rfl))) | (apply ER_guard; (case hb => (simp only [push_cast, seval]; rfl)))); all_goals ((intro hc; first | (exfalso; simp only [push_cast, seval, *] at hc; done) | (exact absurd hc (by decide)) | ((try first | rw [Bool.not_true] at hc | rw [Bool.not_false] at hc); first | (with_reducible replace hc := tTT hc); clear hc | (with_reducible replace hc := tFF hc); clear hc | (have hp := hc; try simp only [decide_eq_true_eq, decide_eq_false_iff_not, bA, bB, bC, bD, bE, bF, bG, bH] at hp))) <;> try simp only [push_cast, seval, *]))
    | (refine Kn.go hK ?_; clear hK K)
    | refine Kn.go (by assumption) ?_
    | (intro n hn; (try simp only [upd_none2, join_none_iff, ite_none, ne_eq] at hn); (try simp only [push_cast, seval, *]))
    | (intro hc)
    | (apply ER_blk; (case hp => rfl); (case hb => (simp only [push_cast, seval]; rfl)); (case hd => (simp only [push_cast, seval]; done)); (case h => (intro hc; simp only [push_cast, seval, *]; rfl)); simp only [push_cast, seval, *])
    | fail)
        exact ⟨(⟨s, a, m⟩ :: met, putN ⟨s, a, m⟩ lo ck, mclk ⟨s, a, m⟩ lo ck), ⟨unhid hset2, unhid hinv⟩, by (first | trivial | (simp only [push_cast, seval, *]; done)), by
          (repeat' (first | exact Heap.le_refl _ | refine hle_upd2 ?_ _ _ | (refine Heap.le_new ?_ ?_; rotate_left 1; focus (first | assumption | (simp only [upd_none2, upd_get, ne_eq, push_cast, seval, *]; done) | (simp [upd_get, *]; done)))))
          all_goals rfl⟩
    · rintro ⟨met, lo, ck⟩ ⟨hset, hinv⟩
      simp only [List.drop_length, dnOk] at hinv
      subst hinv
      clear hset
      repeat' (first
    | refine AW_seq_kn fun K hK => ?_
    | refine AW_block ?_
    | (refine does_call rfl rfl ?_; simp only [push_cast, seval, *]; refine ACall.monoP (Compare_p ⟨_, _, _⟩ ⟨_, _, _⟩ _) ?_; (try simp only [push_cast, seval, *]))
    | ((first
      | refine AW_region_draw (id := 9) E0 (fun f => [].contains f) dLC0 dAC0 mixed (by kernel_rfl) ?_
      | refine AW_region E0 ?_ | refine AW_ret ?_ | refine AW_exit ?_ | refine AW_skip ?_ | unfold retQ); try simp only [push_cast, seval, *])
    | ((first | (apply AW_cond; (case hc => (simp only [push_cast, seval]; rfl))) | (apply ER_guard; (case hb => (simp only [push_cast, seval]; rfl)))); all_goals ((intro hc; first | (exfalso; simp only [push_cast, seval, *] at hc; done) | (exact absurd hc (by decide)) | ((try first | rw [Bool.not_true] at hc | rw [Bool.not_false] at hc); first | (with_reducible replace hc := tTT hc); clear hc | (with_reducible replace hc := tFF hc); clear hc | (have hp := hc; try simp only [decide_eq_true_eq, decide_eq_false_iff_not, bA, bB, bC, bD, bE, bF, bG, bH] at hp))) <;> try simp only [push_cast, seval, *]))
    | (refine Kn.go hK ?_; clear hK K)
    | refine Kn.go (by assumption) ?_
    | (intro n hn; (try simp only [upd_none2, join_none_iff, ite_none, ne_eq] at hn); (try simp only [push_cast, seval, *]))
    | (intro hc)
    | (apply ER_blk; (case hp => rfl); (case hb => (simp only [push_cast, seval]; rfl)); (case hd => (simp only [push_cast, seval]; done)); (case h => (intro hc; simp only [push_cast, seval, *]; rfl)); simp only [push_cast, seval, *])
    | fail)
      exact ⟨_, _, Weak.less (unhid hfin _ _), by simp, rfl⟩
end Go.Proofs.Ytdeckjoeggmagaa