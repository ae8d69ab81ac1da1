/- Walk of the document: which logs may be. -/
import Derived.Test.YtdeckjoeggmagaaDA
import Derived.Test.YtdeckjoeggmagaaR
namespace Go.Proofs.Ytdeckjoeggmagaa
open Go.RowKit
open Nat renaming reduceEqDiff → nA, reduceLT → nB, reduceLeDiff → nC, reduceAdd → nD, reduceMul → nE, reduceSub → nF, reduceBEq → nG
open Int renaming reduceToNat → iA, reduceLT → iB, reduceLE → iC, reduceEq → iD
open Bool renaming and_eq_true → bA, or_eq_true → bB, or_eq_false_iff → bC, and_eq_false_iff → bD, not_eq_true' → bE, not_eq_false' → bF, not_true → bG, not_false → bH
set_option linter.all false
set_option maxHeartbeats 4000000
attribute [local irreducible] AW Does ACall tE tS tB tZ
def dLDB0 : List En := [(0, false, []), (1, false, []), (2, false, []), (3, false, []), (4, false, []), (5, false, []), (6, false, []), (7, false, []), (8, false, []), (9, false, []), (10, false, []), (11, false, []), (12, false, []), (13, false, []), (14, false, []), (15, false, []), (16, false, []), (17, false, []), (18, false, []), (19, false, []), (20, false, []), (21, false, []), (22, false, []), (23, false, []), (24, false, []), (25, false, []), (26, false, []), (27, false, []), (28, false, []), (29, false, []), (30, false, []), (31, false, []), (32, false, []), (33, false, []), (34, false, []), (35, false, []), (36, false, []), (37, false, []), (38, false, []), (39, false, []), (40, false, []), (41, false, []), (42, false, []), (43, false, [])]
def dADB0 : List (List Nat) := [[], [0], [0, 1], [0, 1, 2], [0, 1, 2, 3], [0, 1, 2, 3, 4], [0, 1, 2, 3, 4, 5], [0, 1, 2, 3, 4, 5, 6], [0, 1, 2, 3, 4, 5, 6, 7], [0, 1, 2, 3, 4, 5, 6, 7, 8], [0, 1, 2, 3, 4, 5, 6, 7, 8, 9], [0, 1, 2, 3, 4, 5, 6, 7, 8, 9, 10], [0, 1, 2, 3, 4, 5, 6, 7, 8, 9, 10, 11], [0, 1, 2, 3, 4, 5, 6, 7, 8, 9, 10, 11, 12], [0, 1, 2, 3, 4, 5, 6, 7, 8, 9, 10, 11, 12, 13], [0, 1, 2, 3, 4, 5, 6, 7, 8, 9, 10, 11, 12, 13, 14], [0, 1, 2, 3, 4, 5, 6, 7, 8, 9, 10, 11, 12, 13, 14, 15], [0, 1, 2, 3, 4, 5, 6, 7, 8, 9, 10, 11, 12, 13, 14, 15, 16], [0, 1, 2, 3, 4, 5, 6, 7, 8, 9, 10, 11, 12, 13, 14, 15, 16, 17], [0, 1, 2, 3, 4, 5, 6, 7, 8, 9, 10, 11, 12, 13, 14, 15, 16, 17, 18], [0, 1, 2, 3, 4, 5, 6, 7, 8, 9, 10, 11, 12, 13, 14, 15, 16, 17], [0, 1, 2, 3, 4, 5, 6, 7, 8, 9, 10, 11, 12, 13, 14, 15, 16, 17, 20], [0, 1, 2, 3, 4, 5, 6, 7, 8, 9, 10, 11, 12, 13, 14, 15, 16, 17, 18, 19, 20, 21], [0, 1, 2, 3, 4, 5, 6, 7, 8, 9, 10, 11, 12, 13, 14, 15, 16, 17, 18, 19, 20, 21, 22], [0, 1, 2, 3, 4, 5, 6, 7, 8, 9, 10, 11, 12, 13, 14, 15, 16, 17, 18, 19, 20, 21, 22, 23], [0, 1, 2, 3, 4, 5, 6, 7, 8, 9, 10, 11, 12, 13, 14, 15, 16, 17], [0, 1, 2, 3, 4, 5, 6, 7, 8, 9, 10, 11, 12, 13, 14, 15, 16, 17, 25], [0, 1, 2, 3, 4, 5, 6, 7, 8, 9, 10, 11, 12, 13, 14, 15, 16, 17, 18, 19, 20, 21, 22, 23, 24, 25, 26], [0, 1, 2, 3, 4, 5, 6, 7, 8, 9, 10, 11, 12, 13, 14, 15, 16, 17, 18, 19, 20, 21, 22, 23, 24, 25, 26, 27], [0, 1, 2, 3, 4, 5, 6, 7, 8, 9, 10, 11, 12, 13, 14, 15, 16, 17, 18, 19, 20, 21, 22, 23, 24, 25, 26, 27, 28], [0, 1, 2, 3, 4, 5, 6, 7, 8, 9, 10, 11, 12, 13, 14, 15, 16, 17, 18, 19, 20, 21, 22, 23, 24, 25, 26, 27, 28, 29], [0, 1, 2, 3, 4, 5, 6, 7, 8, 9, 10, 11, 12, 13, 14, 15, 16, 17, 18, 19, 20, 21, 22, 23, 24, 25, 26, 27, 28, 29, 30], [0, 1, 2, 3, 4, 5, 6, 7, 8, 9, 10, 11, 12, 13, 14, 15, 16, 17, 18, 19, 20, 21, 22, 23, 24, 25, 26, 27, 28, 29, 30, 31], [0, 1, 2, 3, 4, 5, 6, 7, 8, 9, 10, 11, 12, 13, 14, 15, 16, 17, 18, 19, 20, 21, 22, 23, 24, 25, 26, 27, 28, 29, 30, 31, 32], [0, 1, 2, 3, 4, 5, 6, 7, 8, 9, 10, 11, 12, 13, 14, 15, 16, 17, 18, 19, 20, 21, 22, 23, 24, 25, 26, 27, 28, 29, 30, 31, 32, 33], [0, 1, 2, 3, 4, 5, 6, 7, 8, 9, 10, 11, 12, 13, 14, 15, 16, 17, 18, 19, 20, 21, 22, 23, 24, 25, 26, 27, 28, 29, 30, 31, 32, 33, 34], [0, 1, 2, 3, 4, 5, 6, 7, 8, 9, 10, 11, 12, 13, 14, 15, 16, 17, 18, 19, 20, 21, 22, 23, 24, 25, 26, 27, 28, 29, 30, 31, 32, 33, 34, 35], [0, 1, 2, 3, 4, 5, 6, 7, 8, 9, 10, 11, 12, 13, 14, 15, 16, 17, 18, 19, 20, 21, 22, 23, 24, 25, 26, 27, 28, 29, 30, 31, 32, 33, 34, 35, 36], [0, 1, 2, 3, 4, 5, 6, 7, 8, 9, 10, 11, 12, 13, 14, 15, 16, 17, 18, 19, 20, 21, 22, 23, 24, 25, 26, 27, 28, 29, 30, 31, 32, 33, 34, 35, 36, 37], [0, 1, 2, 3, 4, 5, 6, 7, 8, 9, 10, 11, 12, 13, 14, 15, 16, 17, 18, 19, 20, 21, 22, 23, 24, 25, 26, 27, 28, 29, 30, 31, 32, 33, 34, 35, 36, 37, 38], [0, 1, 2, 3, 4, 5, 6, 7, 8, 9, 10, 11, 12, 13, 14, 15, 16, 17, 18, 19, 20, 21, 22, 23, 24, 25, 26, 27, 28, 29, 30, 31, 32, 33, 34, 35, 36, 37], [0, 1, 2, 3, 4, 5, 6, 7, 8, 9, 10, 11, 12, 13, 14, 15, 16, 17, 18, 19, 20, 21, 22, 23, 24, 25, 26, 27, 28, 29, 30, 31, 32, 33, 34, 35, 36, 37, 40], [0, 1, 2, 3, 4, 5, 6, 7, 8, 9, 10, 11, 12, 13, 14, 15, 16, 17, 18, 19, 20, 21, 22, 23, 24, 25, 26, 27, 28, 29, 30, 31, 32, 33, 34, 35, 36, 37, 38, 39, 40, 41], [0, 1, 2, 3, 4, 5, 6, 7, 8, 9, 10, 11, 12, 13, 14, 15, 16, 17, 18, 19, 20, 21, 22, 23, 24, 25, 26, 27, 28, 29, 30, 31, 32, 33, 34, 35, 36, 37, 38, 39, 40, 41, 42]]
attribute [push_cast] dLDB0
def dLDB1 : List En := [(0, false, []), (1, false, []), (2, false, []), (3, false, []), (4, false, []), (5, false, []), (6, false, []), (7, false, []), (8, false, []), (9, false, []), (10, false, [])]
def dADB1 : List (List Nat) := [[], [0], [0, 1], [0, 1, 2], [0, 1, 2, 3], [0, 1, 2, 3, 4], [0, 1, 2, 3], [0, 1, 2, 3, 4, 5, 6], [0, 1, 2, 3], [0, 1, 2, 3, 4, 5, 6, 7, 8], [0, 1, 2, 3, 4, 5, 6, 7, 8, 9]]
attribute [push_cast] dLDB1
set_option maxRecDepth 5000

def rtx (done : List Nm) : Option Nm → List Tx → Bool
  | _, [] => true
  | p, x :: l => nmOk x.nm && ((decide (x.st = 1) || decide (x.st = 2)) && (aftN p x.nm && (x.rs.all recOk && (!decide (x.nm ∈ done) && rtx done (some x.nm) l))))
def rdn : List Nm → List Nm → Bool
  | _, [] => true
  | met, x :: l => nmOk x && (!decide (x ∈ met) && rdn (met ++ [x]) l)
def lgR (l : Lg) : Bool := (decide (l.txs.length ≤ 24) && (decide (l.done.length ≤ 300) && (decide (sizeS l ≤ 400) && l.log.all recOk))) && (rtx l.done none l.txs && rdn [] l.done)
theorem ltN_cmp (a b : Nm) : ltN a b = decide (cmpN a b < 0) := by
  unfold ltN; rw [decide_eq_decide, cmpN_neg]
theorem Right_r (l : Lg) (hf : l.fits) : Pure Try.prog 64 [.g (Lg.av l)] (.c (.bool (lgR l))) := by
  intro H
  have hsz := fits_size hf
  have hrc := records_p l hsz (by have := hf.1.1; unfold maxLen; omega)
  have hrl := rright_p l.log (by have := hf.1.2.2; unfold maxLen; omega)
  have hl1 := hf.1.1
  have hl2 := hf.1.2.1
  have hrs := hf.2
  unfold lgR
  obtain ⟨Z, hZ⟩ : ∃ Z, sizeS l = Z := ⟨_, rfl⟩
  rw [hZ] at hrc hsz ⊢
  obtain ⟨a, b, c⟩ := l
  simp only at hrl hl1 hl2 hrs ⊢
  have hav : Lg.av ⟨a, b, c⟩ = [.l 5 (a.map Tx.av), .l 3 (b.map Nm.av), .l 3 (c.map Rec.av)] := rfl
  rw [hav] at hrc ⊢
  clear hZ hav hf
  replace hrs := Lib.hid hrs
  by_cases h1 : a.length ≤ 24
  rotate_left
  · rw [decide_eq_false h1]
    have h1I : (24 : Int) < a.length := by omega
    clear hrc hrl
    simp only [Bool.false_and]
    refine ACall_of' Try.func64 rfl (Ent_of Try.func64 (by kernel_rfl) rfl) (by simp [Try.ntmps64]) ?_; simp only [Try.ntmps64, Try.results64]
    repeat' (first
    | refine AW_seq_kn fun K hK => ?_
    | refine AW_block ?_
    | ((first
      | refine AW_region_draw (id := 6) E0 (fun f => [].contains f) dLDB0 dADB0 mixed (by kernel_rfl) ?_
      | refine AW_region_draw (id := 12) E0 (fun f => [].contains f) dLDB1 dADB1 mixed (by kernel_rfl) ?_
      | refine AW_region E0 ?_ | refine AW_ret ?_ | refine AW_exit ?_ | refine AW_skip ?_ | unfold retQ); try simp only [push_cast, seval, *])
    | ((first | (apply AW_cond; (case hc => (simp only [push_cast, seval]; rfl))) | (apply ER_guard; (case hb => (simp only [push_cast, seval]; rfl)))); all_goals ((intro hc; first | (exfalso; simp only [push_cast, seval, *] at hc; done) | (exact absurd hc (by decide)) | ((try first | rw [Bool.not_true] at hc | rw [Bool.not_false] at hc); first | (with_reducible replace hc := tTT hc); clear hc | (with_reducible replace hc := tFF hc); clear hc | (have hp := hc; try simp only [decide_eq_true_eq, decide_eq_false_iff_not, bA, bB, bC, bD, bE, bF, bG, bH] at hp))) <;> try simp only [push_cast, seval, *]))
    | (refine Kn.go hK ?_; clear hK K)
    | refine Kn.go (by assumption) ?_
    | (intro n hn; (try simp only [upd_none2, join_none_iff, ite_none, ne_eq] at hn); (try simp only [push_cast, seval, *]))
    | (intro hc)
    | (apply ER_blk; (case hp => rfl); (case hb => (simp only [push_cast, seval]; rfl)); (case hd => (simp only [push_cast, seval]; done)); (case h => (intro hc; simp only [push_cast, seval, *]; rfl)); simp only [push_cast, seval, *])
    | fail)
    exact ⟨_, _, Weak.less (by (repeat' (first | exact Heap.le_refl _ | refine hle_upd2 ?_ _ _ | (refine Heap.le_new ?_ ?_; rotate_left 1; focus (first | assumption | (simp only [upd_none2, upd_get, ne_eq, push_cast, seval, *]; done) | (simp [upd_get, *]; done)))))), rfl, rfl⟩
  rw [decide_eq_true h1]
  have h1I : ¬ (24 : Int) < a.length := by omega
  by_cases h2 : b.length ≤ 300
  rotate_left
  · rw [decide_eq_false h2]
    have h2I : (300 : Int) < b.length := by omega
    clear hrc hrl
    simp only [Bool.false_and, Bool.true_and]
    refine ACall_of' Try.func64 rfl (Ent_of Try.func64 (by kernel_rfl) rfl) (by simp [Try.ntmps64]) ?_; simp only [Try.ntmps64, Try.results64]
    repeat' (first
    | refine AW_seq_kn fun K hK => ?_
    | refine AW_block ?_
    | ((first
      | refine AW_region_draw (id := 6) E0 (fun f => [].contains f) dLDB0 dADB0 mixed (by kernel_rfl) ?_
      | refine AW_region_draw (id := 12) E0 (fun f => [].contains f) dLDB1 dADB1 mixed (by kernel_rfl) ?_
      | refine AW_region E0 ?_ | refine AW_ret ?_ | refine AW_exit ?_ | refine AW_skip ?_ | unfold retQ); try simp only [push_cast, seval, *])
    | ((first | (apply AW_cond; (case hc => (simp only [push_cast, seval]; rfl))) | (apply ER_guard; (case hb => (simp only [push_cast, seval]; rfl)))); all_goals ((intro hc; first | (exfalso; simp only [push_cast, seval, *] at hc; done) | (exact absurd hc (by decide)) | ((try first | rw [Bool.not_true] at hc | rw [Bool.not_false] at hc); first | (with_reducible replace hc := tTT hc); clear hc | (with_reducible replace hc := tFF hc); clear hc | (have hp := hc; try simp only [decide_eq_true_eq, decide_eq_false_iff_not, bA, bB, bC, bD, bE, bF, bG, bH] at hp))) <;> try simp only [push_cast, seval, *]))
    | (refine Kn.go hK ?_; clear hK K)
    | refine Kn.go (by assumption) ?_
    | (intro n hn; (try simp only [upd_none2, join_none_iff, ite_none, ne_eq] at hn); (try simp only [push_cast, seval, *]))
    | (intro hc)
    | (apply ER_blk; (case hp => rfl); (case hb => (simp only [push_cast, seval]; rfl)); (case hd => (simp only [push_cast, seval]; done)); (case h => (intro hc; simp only [push_cast, seval, *]; rfl)); simp only [push_cast, seval, *])
    | fail)
    exact ⟨_, _, Weak.less (by (repeat' (first | exact Heap.le_refl _ | refine hle_upd2 ?_ _ _ | (refine Heap.le_new ?_ ?_; rotate_left 1; focus (first | assumption | (simp only [upd_none2, upd_get, ne_eq, push_cast, seval, *]; done) | (simp [upd_get, *]; done)))))), rfl, rfl⟩
  rw [decide_eq_true h2]
  have h2I : ¬ (300 : Int) < b.length := by omega
  by_cases h3 : Z ≤ 400
  rotate_left
  · rw [decide_eq_false h3]
    have h3I : (400 : Int) < Z := by omega
    clear hrl
    simp only [Bool.false_and, Bool.true_and]
    refine ACall_of' Try.func64 rfl (Ent_of Try.func64 (by kernel_rfl) rfl) (by simp [Try.ntmps64]) ?_; simp only [Try.ntmps64, Try.results64]
    repeat' (first
    | refine AW_seq_kn fun K hK => ?_
    | refine AW_block ?_
    | (refine does_call rfl rfl ?_; simp only [push_cast, seval, *]; refine ACall.monoP (hrc _) ?_; (try simp only [push_cast, seval, *]))
    | ((first
      | refine AW_region_draw (id := 6) E0 (fun f => [].contains f) dLDB0 dADB0 mixed (by kernel_rfl) ?_
      | refine AW_region_draw (id := 12) E0 (fun f => [].contains f) dLDB1 dADB1 mixed (by kernel_rfl) ?_
      | refine AW_region E0 ?_ | refine AW_ret ?_ | refine AW_exit ?_ | refine AW_skip ?_ | unfold retQ); try simp only [push_cast, seval, *])
    | ((first | (apply AW_cond; (case hc => (simp only [push_cast, seval]; rfl))) | (apply ER_guard; (case hb => (simp only [push_cast, seval]; rfl)))); all_goals ((intro hc; first | (exfalso; simp only [push_cast, seval, *] at hc; done) | (exact absurd hc (by decide)) | ((try first | rw [Bool.not_true] at hc | rw [Bool.not_false] at hc); first | (with_reducible replace hc := tTT hc); clear hc | (with_reducible replace hc := tFF hc); clear hc | (have hp := hc; try simp only [decide_eq_true_eq, decide_eq_false_iff_not, bA, bB, bC, bD, bE, bF, bG, bH] at hp))) <;> try simp only [push_cast, seval, *]))
    | (refine Kn.go hK ?_; clear hK K)
    | refine Kn.go (by assumption) ?_
    | (intro n hn; (try simp only [upd_none2, join_none_iff, ite_none, ne_eq] at hn); (try simp only [push_cast, seval, *]))
    | (intro hc)
    | (apply ER_blk; (case hp => rfl); (case hb => (simp only [push_cast, seval]; rfl)); (case hd => (simp only [push_cast, seval]; done)); (case h => (intro hc; simp only [push_cast, seval, *]; rfl)); simp only [push_cast, seval, *])
    | fail)
    exact ⟨_, _, Weak.less (by (repeat' (first | exact Heap.le_refl _ | refine hle_upd2 ?_ _ _ | (refine Heap.le_new ?_ ?_; rotate_left 1; focus (first | assumption | (simp only [upd_none2, upd_get, ne_eq, push_cast, seval, *]; done) | (simp [upd_get, *]; done)))))), rfl, rfl⟩
  rw [decide_eq_true h3]
  have h3I : ¬ (400 : Int) < Z := by omega
  cases h4 : c.all recOk
  · rw [h4] at hrl
    simp only [Bool.false_and, Bool.true_and]
    clear h4
    refine ACall_of' Try.func64 rfl (Ent_of Try.func64 (by kernel_rfl) rfl) (by simp [Try.ntmps64]) ?_; simp only [Try.ntmps64, Try.results64]
    repeat' (first
    | refine AW_seq_kn fun K hK => ?_
    | refine AW_block ?_
    | (refine does_call rfl rfl ?_; simp only [push_cast, seval, *]; refine ACall.monoP (hrc _) ?_; (try simp only [push_cast, seval, *]))
    | (refine does_call rfl rfl ?_; simp only [push_cast, seval, *]; refine ACall.monoP (hrl _) ?_; (try simp only [push_cast, seval, *]))
    | ((first
      | refine AW_region_draw (id := 6) E0 (fun f => [].contains f) dLDB0 dADB0 mixed (by kernel_rfl) ?_
      | refine AW_region_draw (id := 12) E0 (fun f => [].contains f) dLDB1 dADB1 mixed (by kernel_rfl) ?_
      | refine AW_region E0 ?_ | refine AW_ret ?_ | refine AW_exit ?_ | refine AW_skip ?_ | unfold retQ); try simp only [push_cast, seval, *])
    | ((first | (apply AW_cond; (case hc => (simp only [push_cast, seval]; rfl))) | (apply ER_guard; (case hb => (simp only [push_cast, seval]; rfl)))); all_goals ((intro hc; first | (exfalso; simp only [push_cast, seval, *] at hc; done) | (exact absurd hc (by decide)) | ((try first | rw [Bool.not_true] at hc | rw [Bool.not_false] at hc); first | (with_reducible replace hc := tTT hc); clear hc | (with_reducible replace hc := tFF hc); clear hc | (have hp := hc; try simp only [decide_eq_true_eq, decide_eq_false_iff_not, bA, bB, bC, bD, bE, bF, bG, bH] at hp))) <;> try simp only [push_cast, seval, *]))
    | (refine Kn.go hK ?_; clear hK K)
    | refine Kn.go (by assumption) ?_
    | (intro n hn; (try simp only [upd_none2, join_none_iff, ite_none, ne_eq] at hn); (try simp only [push_cast, seval, *]))
    | (intro hc)
    | (apply ER_blk; (case hp => rfl); (case hb => (simp only [push_cast, seval]; rfl)); (case hd => (simp only [push_cast, seval]; done)); (case h => (intro hc; simp only [push_cast, seval, *]; rfl)); simp only [push_cast, seval, *])
    | fail)
    exact ⟨_, _, Weak.less (by (repeat' (first | exact Heap.le_refl _ | refine hle_upd2 ?_ _ _ | (refine Heap.le_new ?_ ?_; rotate_left 1; focus (first | assumption | (simp only [upd_none2, upd_get, ne_eq, push_cast, seval, *]; done) | (simp [upd_get, *]; done)))))), rfl, rfl⟩
  rw [h4] at hrl
  clear h4
  simp only [Bool.true_and]
  obtain ⟨D, hD⟩ : ∃ D, D = rdn [] b := ⟨_, rfl⟩
  rw [← hD]
  obtain ⟨R, hR⟩ : ∃ R, R = (rtx b none a && D) := ⟨_, rfl⟩
  rw [← hR]
  obtain ⟨pv, hp0, hp1, hp2⟩ : ∃ pv : Nat → Option Nm, pv 0 = none ∧ (∀ k x, a[k]? = some x → pv (k + 1) = some x.nm) ∧ ∀ k, k < a.length → (k = 0 ∧ pv k = none) ∨ ∃ j y, k = j + 1 ∧ a[j]? = some y ∧ pv k = some y.nm := by
    refine ⟨fun k => match k with | 0 => none | j + 1 => (a[j]?).map Tx.nm, rfl, fun k x hx => by simp only [hx, Option.map_some], fun k hk => ?_⟩
    cases k with
    | zero => exact .inl ⟨rfl, rfl⟩
    | succ j =>
      have hj : j < a.length := by omega
      exact .inr ⟨j, a[j], rfl, List.getElem?_eq_getElem hj, by simp only [List.getElem?_eq_getElem hj, Option.map_some]⟩
  rw [← hp0] at hR
  clear hp0
  replace hR := Lib.hid hR
  replace hD := Lib.hid hD
  replace hp1 := Lib.hid hp1
  replace hp2 := Lib.hid hp2
  refine ACall_of' Try.func64 rfl (Ent_of Try.func64 (by kernel_rfl) rfl) (by simp [Try.ntmps64]) ?_; simp only [Try.ntmps64, Try.results64]
  repeat' (first
    | refine AW_seq_kn fun K hK => ?_
    | refine AW_block ?_
    | (refine does_call rfl rfl ?_; simp only [push_cast, seval, *]; refine ACall.monoP (hrc _) ?_; (try simp only [push_cast, seval, *]))
    | (refine does_call rfl rfl ?_; simp only [push_cast, seval, *]; refine ACall.monoP (hrl _) ?_; (try simp only [push_cast, seval, *]))
    | ((first
      | refine AW_region_draw (id := 6) E0 (fun f => [].contains f) dLDB0 dADB0 mixed (by kernel_rfl) ?_
      | refine AW_region_draw (id := 12) E0 (fun f => [].contains f) dLDB1 dADB1 mixed (by kernel_rfl) ?_
      | refine AW_region E0 ?_ | refine AW_ret ?_ | refine AW_exit ?_ | refine AW_skip ?_ | unfold retQ); try simp only [push_cast, seval, *])
    | ((first | (apply AW_cond; (case hc => (simp only [push_cast, seval]; rfl))) | (apply ER_guard; (case hb => (simp only [push_cast, seval]; rfl)))); all_goals ((intro hc; first | (exfalso; simp only [push_cast, seval, *] at hc; done) | (exact absurd hc (by decide)) | ((try first | rw [Bool.not_true] at hc | rw [Bool.not_false] at hc); first | (with_reducible replace hc := tTT hc); clear hc | (with_reducible replace hc := tFF hc); clear hc | (have hp := hc; try simp only [decide_eq_true_eq, decide_eq_false_iff_not, bA, bB, bC, bD, bE, bF, bG, bH] at hp))) <;> try simp only [push_cast, seval, *]))
    | (refine Kn.go hK ?_; clear hK K)
    | refine Kn.go (by assumption) ?_
    | (intro n hn; (try simp only [upd_none2, join_none_iff, ite_none, ne_eq] at hn); (try simp only [push_cast, seval, *]))
    | (intro hc)
    | (apply ER_blk; (case hp => rfl); (case hb => (simp only [push_cast, seval]; rfl)); (case hd => (simp only [push_cast, seval]; done)); (case h => (intro hc; simp only [push_cast, seval, *]; rfl)); simp only [push_cast, seval, *])
    | fail)
  generalize n = n1 at *
  obtain ⟨G, hG⟩ : ∃ G : Heap, G = upd H n1 (.r 47 3 1 [[.l 5 (a.map Tx.av), .l 3 (b.map Nm.av), .l 3 (c.map Rec.av)]]) := ⟨_, rfl⟩
  have g1 : G n1 = some (.r 47 3 1 [[.l 5 (a.map Tx.av), .l 3 (b.map Nm.av), .l 3 (c.map Rec.av)]]) := by rw [hG, upd_same]
  have hle : Heap.le H G := by rw [hG]; exact le_upd_new hn
  rw [← hG]
  have o1 := ne_old g1
  clear hG hn hrc hrl h1 h2 h3 hl1 hl2 hsz
  replace hle := Lib.hid hle
  refine AW_loopN a.length (fun k => R = (rtx b (pv k) (a.drop k) && D)) (fun k => [(1, .p n1 3 0 0), (29, .l 5 (a.map Tx.av)), (30, ci a.length), (31, ci k)]) (fun _ => G) (by rw [List.drop_zero]; exact unhid hR) ?_ ?_ ?_ ?_
  · (first | trivial | (simp only [push_cast, seval, *]; done))
  · exact Heap.le_refl _
  · intro k hk hinv
    have hx := List.getElem?_eq_getElem (l := a) hk; generalize a[k] = x at hx; have hxm := List.mem_of_getElem? hx; have hkl : (k : Int) < a.length := (by omega); have hkw : IntKind.i64.wrap ((k : Int) + 1) = (k : Int) + 1 := wrap_i64 (by omega) (by omega)
    have hpv := unhid hp2 k hk
    have hp3 := unhid hp1 k x hx
    have hrs2 := unhid hrs x hxm
    rw [drop_get hx, rtx, ← hp3] at hinv
    simp only [Bool.and_assoc] at hinv
    clear hp3 hxm
    have hn1 := RightName_p x.nm
    have hrr := rright_p x.rs (by unfold maxLen; omega)
    have hhs := rhas_p b (by unfold maxLen; omega) x.nm
    have hls := True.intro
    obtain ⟨⟨m1, n2, n3⟩, st, rs⟩ := x
    have hxv : Tx.av ⟨⟨m1, n2, n3⟩, st, rs⟩ = [.c (.int .i64 m1), .c (.int .i64 n2), .c (.int .i64 n3), .c (.int .i64 st), .l 3 (rs.map Rec.av)] := rfl
    have hnv : Nm.av ⟨m1, n2, n3⟩ = [.c (.int .i64 m1), .c (.int .i64 n2), .c (.int .i64 n3)] := rfl
    simp only [hnv] at hn1 hhs hrr hinv
    clear hrs2
    cases hB1 : nmOk (⟨m1, n2, n3⟩ : Nm)
    · have h0 : R = false := by rw [hinv, hB1]; simp
      subst h0
      rw [hB1] at hn1
      clear hinv hR hB1 hls hrr hhs
      repeat' (first
    | refine AW_seq_kn fun K hK => ?_
    | refine AW_block ?_
    | (refine does_call rfl rfl ?_; simp only [push_cast, seval, *]; refine ACall.monoP (hn1 _) ?_; (try simp only [push_cast, seval, *]))
    | ((first
      | refine AW_region_draw (id := 6) E0 (fun f => [].contains f) dLDB0 dADB0 mixed (by kernel_rfl) ?_
      | refine AW_region_draw (id := 12) E0 (fun f => [].contains f) dLDB1 dADB1 mixed (by kernel_rfl) ?_
      | refine AW_region E0 ?_ | refine AW_ret ?_ | refine AW_exit ?_ | refine AW_skip ?_ | unfold retQ); try simp only [push_cast, seval, *])
    | ((first | (apply AW_cond; (case hc => (simp only [push_cast, seval]; rfl))) | (apply ER_guard; (case hb => (simp only [push_cast, seval]; rfl)))); all_goals ((intro hc; first | (exfalso; simp only [push_cast, seval, *] at hc; done) | (exact absurd hc (by decide)) | ((try first | rw [Bool.not_true] at hc | rw [Bool.not_false] at hc); first | (with_reducible replace hc := tTT hc); clear hc | (with_reducible replace hc := tFF hc); clear hc | (have hp := hc; try simp only [decide_eq_true_eq, decide_eq_false_iff_not, bA, bB, bC, bD, bE, bF, bG, bH] at hp))) <;> try simp only [push_cast, seval, *]))
    | (refine Kn.go hK ?_; clear hK K)
    | refine Kn.go (by assumption) ?_
    | (intro n hn; (try simp only [upd_none2, join_none_iff, ite_none, ne_eq] at hn); (try simp only [push_cast, seval, *]))
    | (intro hc)
    | (apply ER_blk; (case hp => rfl); (case hb => (simp only [push_cast, seval]; rfl)); (case hd => (simp only [push_cast, seval]; done)); (case h => (intro hc; simp only [push_cast, seval, *]; rfl)); simp only [push_cast, seval, *])
    | fail)
      exact ⟨_, _, Weak.less (Heap.le_trans (unhid hle) (by (repeat' (first | exact Heap.le_refl _ | refine hle_upd2 ?_ _ _ | (refine Heap.le_new ?_ ?_; rotate_left 1; focus (first | assumption | (simp only [upd_none2, upd_get, ne_eq, push_cast, seval, *]; done) | (simp [upd_get, *]; done))))))), rfl, rfl⟩
    rw [hB1] at hn1
    by_cases hs1 : st = 1 ∨ st = 2
    rotate_left
    · have hs2 : ¬ st = 1 := fun e => hs1 (.inl e)
      have hs3 : ¬ st = 2 := fun e => hs1 (.inr e)
      have h0 : R = false := by rw [hinv]; simp [hs2, hs3]
      subst h0
      clear hinv hR hB1 hls hrr hhs hs1
      repeat' (first
    | refine AW_seq_kn fun K hK => ?_
    | refine AW_block ?_
    | (refine does_call rfl rfl ?_; simp only [push_cast, seval, *]; refine ACall.monoP (hn1 _) ?_; (try simp only [push_cast, seval, *]))
    | ((first
      | refine AW_region_draw (id := 6) E0 (fun f => [].contains f) dLDB0 dADB0 mixed (by kernel_rfl) ?_
      | refine AW_region_draw (id := 12) E0 (fun f => [].contains f) dLDB1 dADB1 mixed (by kernel_rfl) ?_
      | refine AW_region E0 ?_ | refine AW_ret ?_ | refine AW_exit ?_ | refine AW_skip ?_ | unfold retQ); try simp only [push_cast, seval, *])
    | ((first | (apply AW_cond; (case hc => (simp only [push_cast, seval]; rfl))) | (apply ER_guard; (case hb => (simp only [push_cast, seval]; rfl)))); all_goals ((intro hc; first | (exfalso; simp only [push_cast, seval, *] at hc; done) | (exact absurd hc (by decide)) | ((try first | rw [Bool.not_true] at hc | rw [Bool.not_false] at hc); first | (with_reducible replace hc := tTT hc); clear hc | (with_reducible replace hc := tFF hc); clear hc | (have hp := hc; try simp only [decide_eq_true_eq, decide_eq_false_iff_not, bA, bB, bC, bD, bE, bF, bG, bH] at hp))) <;> try simp only [push_cast, seval, *]))
    | (refine Kn.go hK ?_; clear hK K)
    | refine Kn.go (by assumption) ?_
    | (intro n hn; (try simp only [upd_none2, join_none_iff, ite_none, ne_eq] at hn); (try simp only [push_cast, seval, *]))
    | (intro hc)
    | (apply ER_blk; (case hp => rfl); (case hb => (simp only [push_cast, seval]; rfl)); (case hd => (simp only [push_cast, seval]; done)); (case h => (intro hc; simp only [push_cast, seval, *]; rfl)); simp only [push_cast, seval, *])
    | fail)
      exact ⟨_, _, Weak.less (Heap.le_trans (unhid hle) (by (repeat' (first | exact Heap.le_refl _ | refine hle_upd2 ?_ _ _ | (refine Heap.le_new ?_ ?_; rotate_left 1; focus (first | assumption | (simp only [upd_none2, upd_get, ne_eq, push_cast, seval, *]; done) | (simp [upd_get, *]; done))))))), rfl, rfl⟩
    have hst : (decide (st = 1) || decide (st = 2)) = true := by simpa using hs1
    rw [hB1, hst] at hinv
    clear hB1 hst
    simp only [Bool.true_and] at hinv
    rcases hpv with ⟨hk0, hpn⟩ | ⟨j, y, hkj, hy, hpn⟩
    · have hkI : ¬ (0 : Int) < k := by omega
      clear hk0
      rw [hpn] at hinv
      simp only [aftN, Bool.true_and] at hinv
      cases hB3 : rs.all recOk
      · have h0 : R = false := by rw [hinv, hB3]; simp
        subst h0
        rw [hB3] at hrr
        clear hinv hR hB3 hhs
        rcases hs1 with rfl | rfl
        all_goals
          repeat' (first
    | refine AW_seq_kn fun K hK => ?_
    | refine AW_block ?_
    | (refine does_call rfl rfl ?_; simp only [push_cast, seval, *]; refine ACall.monoP (hn1 _) ?_; (try simp only [push_cast, seval, *]))
    | (refine does_call rfl rfl ?_; simp only [push_cast, seval, *]; refine ACall.monoP (hrr _) ?_; (try simp only [push_cast, seval, *]))
    | ((first
      | refine AW_region_draw (id := 6) E0 (fun f => [].contains f) dLDB0 dADB0 mixed (by kernel_rfl) ?_
      | refine AW_region_draw (id := 12) E0 (fun f => [].contains f) dLDB1 dADB1 mixed (by kernel_rfl) ?_
      | refine AW_region E0 ?_ | refine AW_ret ?_ | refine AW_exit ?_ | refine AW_skip ?_ | unfold retQ); try simp only [push_cast, seval, *])
    | ((first | (apply AW_cond; (case hc => (simp only [push_cast, seval]; rfl))) | (apply ER_guard; (case hb => (simp only [push_cast, seval]; rfl)))); all_goals ((intro hc; first | (exfalso; simp only [push_cast, seval, *] at hc; done) | (exact absurd hc (by decide)) | ((try first | rw [Bool.not_true] at hc | rw [Bool.not_false] at hc); first | (with_reducible replace hc := tTT hc); clear hc | (with_reducible replace hc := tFF hc); clear hc | (have hp := hc; try simp only [decide_eq_true_eq, decide_eq_false_iff_not, bA, bB, bC, bD, bE, bF, bG, bH] at hp))) <;> try simp only [push_cast, seval, *]))
    | (refine Kn.go hK ?_; clear hK K)
    | refine Kn.go (by assumption) ?_
    | (intro n hn; (try simp only [upd_none2, join_none_iff, ite_none, ne_eq] at hn); (try simp only [push_cast, seval, *]))
    | (intro hc)
    | (apply ER_blk; (case hp => rfl); (case hb => (simp only [push_cast, seval]; rfl)); (case hd => (simp only [push_cast, seval]; done)); (case h => (intro hc; simp only [push_cast, seval, *]; rfl)); simp only [push_cast, seval, *])
    | fail)
          exact ⟨_, _, Weak.less (Heap.le_trans (unhid hle) (by (repeat' (first | exact Heap.le_refl _ | refine hle_upd2 ?_ _ _ | (refine Heap.le_new ?_ ?_; rotate_left 1; focus (first | assumption | (simp only [upd_none2, upd_get, ne_eq, push_cast, seval, *]; done) | (simp [upd_get, *]; done))))))), rfl, rfl⟩
      rw [hB3] at hrr hinv
      clear hB3
      simp only [Bool.true_and] at hinv
      by_cases hB4 : (⟨m1, n2, n3⟩ : Nm) ∈ b
      · have h0 : R = false := by rw [hinv, decide_eq_true hB4]; simp
        subst h0
        rw [decide_eq_true hB4] at hhs
        clear hinv hR hB4
        rcases hs1 with rfl | rfl
        all_goals
          repeat' (first
    | refine AW_seq_kn fun K hK => ?_
    | refine AW_block ?_
    | (refine does_call rfl rfl ?_; simp only [push_cast, seval, *]; refine ACall.monoP (hn1 _) ?_; (try simp only [push_cast, seval, *]))
    | (refine does_call rfl rfl ?_; simp only [push_cast, seval, *]; refine ACall.monoP (hrr _) ?_; (try simp only [push_cast, seval, *]))
    | (refine does_call rfl rfl ?_; simp only [push_cast, seval, *]; refine ACall.monoP (hhs _) ?_; (try simp only [push_cast, seval, *]))
    | ((first
      | refine AW_region_draw (id := 6) E0 (fun f => [].contains f) dLDB0 dADB0 mixed (by kernel_rfl) ?_
      | refine AW_region_draw (id := 12) E0 (fun f => [].contains f) dLDB1 dADB1 mixed (by kernel_rfl) ?_
      | refine AW_region E0 ?_ | refine AW_ret ?_ | refine AW_exit ?_ | refine AW_skip ?_ | unfold retQ); try simp only [push_cast, seval, *])
    | ((first | (apply AW_cond; (case hc => (simp only [push_cast, seval]; rfl))) | (apply ER_guard; (case hb => (simp only [push_cast, seval]; rfl)))); all_goals ((intro hc; first | (exfalso; simp only [push_cast, seval, *] at hc; done) | (exact absurd hc (by decide)) | ((try first | rw [Bool.not_true] at hc | rw [Bool.not_false] at hc); first | (with_reducible replace hc := tTT hc); clear hc | (with_reducible replace hc := tFF hc); clear hc | (have hp := hc; try simp only [decide_eq_true_eq, decide_eq_false_iff_not, bA, bB, bC, bD, bE, bF, bG, bH] at hp))) <;> try simp only [push_cast, seval, *]))
    | (refine Kn.go hK ?_; clear hK K)
    | refine Kn.go (by assumption) ?_
    | (intro n hn; (try simp only [upd_none2, join_none_iff, ite_none, ne_eq] at hn); (try simp only [push_cast, seval, *]))
    | (intro hc)
    | (apply ER_blk; (case hp => rfl); (case hb => (simp only [push_cast, seval]; rfl)); (case hd => (simp only [push_cast, seval]; done)); (case h => (intro hc; simp only [push_cast, seval, *]; rfl)); simp only [push_cast, seval, *])
    | fail)
          exact ⟨_, _, Weak.less (Heap.le_trans (unhid hle) (by (repeat' (first | exact Heap.le_refl _ | refine hle_upd2 ?_ _ _ | (refine Heap.le_new ?_ ?_; rotate_left 1; focus (first | assumption | (simp only [upd_none2, upd_get, ne_eq, push_cast, seval, *]; done) | (simp [upd_get, *]; done))))))), rfl, rfl⟩
      rw [decide_eq_false hB4] at hhs hinv
      clear hB4
      simp only [Bool.true_and, Bool.not_false] at hinv
      replace hinv := Lib.hid hinv
      rcases hs1 with rfl | rfl
      all_goals
        repeat' (first
    | refine AW_seq_kn fun K hK => ?_
    | refine AW_block ?_
    | (refine does_call rfl rfl ?_; simp only [push_cast, seval, *]; refine ACall.monoP (hn1 _) ?_; (try simp only [push_cast, seval, *]))
    | (refine does_call rfl rfl ?_; simp only [push_cast, seval, *]; refine ACall.monoP (hrr _) ?_; (try simp only [push_cast, seval, *]))
    | (refine does_call rfl rfl ?_; simp only [push_cast, seval, *]; refine ACall.monoP (hhs _) ?_; (try simp only [push_cast, seval, *]))
    | ((first
      | refine AW_region_draw (id := 6) E0 (fun f => [].contains f) dLDB0 dADB0 mixed (by kernel_rfl) ?_
      | refine AW_region_draw (id := 12) E0 (fun f => [].contains f) dLDB1 dADB1 mixed (by kernel_rfl) ?_
      | refine AW_region E0 ?_ | refine AW_ret ?_ | refine AW_exit ?_ | refine AW_skip ?_ | unfold retQ); try simp only [push_cast, seval, *])
    | ((first | (apply AW_cond; (case hc => (simp only [push_cast, seval]; rfl))) | (apply ER_guard; (case hb => (simp only [push_cast, seval]; rfl)))); all_goals ((intro hc; first | (exfalso; simp only [push_cast, seval, *] at hc; done) | (exact absurd hc (by decide)) | ((try first | rw [Bool.not_true] at hc | rw [Bool.not_false] at hc); first | (with_reducible replace hc := tTT hc); clear hc | (with_reducible replace hc := tFF hc); clear hc | (have hp := hc; try simp only [decide_eq_true_eq, decide_eq_false_iff_not, bA, bB, bC, bD, bE, bF, bG, bH] at hp))) <;> try simp only [push_cast, seval, *]))
    | (refine Kn.go hK ?_; clear hK K)
    | refine Kn.go (by assumption) ?_
    | (intro n hn; (try simp only [upd_none2, join_none_iff, ite_none, ne_eq] at hn); (try simp only [push_cast, seval, *]))
    | (intro hc)
    | (apply ER_blk; (case hp => rfl); (case hb => (simp only [push_cast, seval]; rfl)); (case hd => (simp only [push_cast, seval]; done)); (case h => (intro hc; simp only [push_cast, seval, *]; rfl)); simp only [push_cast, seval, *])
    | fail)
        exact ⟨unhid hinv, by (first | trivial | (simp only [push_cast, seval, *]; done)), by first | trivial | (repeat' (first | exact Heap.le_refl _ | refine hle_upd2 ?_ _ _ | (refine Heap.le_new ?_ ?_; rotate_left 1; focus (first | assumption | (simp only [upd_none2, upd_get, ne_eq, push_cast, seval, *]; done) | (simp [upd_get, *]; done)))))⟩
    · have hkI : (0 : Int) < k := by omega
      rw [hpn] at hinv
      have hw1 : IntKind.i64.wrap ((k : Int) - 1) = (j : Int) := by rw [wrap_i64 (by omega) (by omega)]; omega
      have hls := Less_p y.nm ⟨m1, n2, n3⟩
      have hya := congrArg (fun z => z.map Tx.av) hy
      obtain ⟨⟨y1, y2, y3⟩, yst, yrs⟩ := y
      have hyv : Tx.av ⟨⟨y1, y2, y3⟩, yst, yrs⟩ = [.c (.int .i64 y1), .c (.int .i64 y2), .c (.int .i64 y3), .c (.int .i64 yst), .l 3 (yrs.map Rec.av)] := rfl
      have hnv2 : Nm.av ⟨y1, y2, y3⟩ = [.c (.int .i64 y1), .c (.int .i64 y2), .c (.int .i64 y3)] := rfl
      have hlt := ltN_cmp (⟨y1, y2, y3⟩ : Nm) ⟨m1, n2, n3⟩
      simp only [aftN] at hinv
      simp only [← hlt] at hinv
      clear hkj hlt hya
      simp only [hnv2, hnv] at hls
      cases hB2 : ltN (⟨y1, y2, y3⟩ : Nm) ⟨m1, n2, n3⟩
      · have h0 : R = false := by rw [hinv, hB2]; simp
        subst h0
        rw [hB2] at hls
        clear hinv hR hB2 hrr hhs
        rcases hs1 with rfl | rfl
        all_goals
          repeat' (first
    | refine AW_seq_kn fun K hK => ?_
    | refine AW_block ?_
    | (refine does_call rfl rfl ?_; simp only [push_cast, seval, *]; refine ACall.monoP (hn1 _) ?_; (try simp only [push_cast, seval, *]))
    | (refine does_call rfl rfl ?_; simp only [push_cast, seval, *]; refine ACall.monoP (hls _) ?_; (try simp only [push_cast, seval, *]))
    | ((first
      | refine AW_region_draw (id := 6) E0 (fun f => [].contains f) dLDB0 dADB0 mixed (by kernel_rfl) ?_
      | refine AW_region_draw (id := 12) E0 (fun f => [].contains f) dLDB1 dADB1 mixed (by kernel_rfl) ?_
      | refine AW_region E0 ?_ | refine AW_ret ?_ | refine AW_exit ?_ | refine AW_skip ?_ | unfold retQ); try simp only [push_cast, seval, *])
    | ((first | (apply AW_cond; (case hc => (simp only [push_cast, seval]; rfl))) | (apply ER_guard; (case hb => (simp only [push_cast, seval]; rfl)))); all_goals ((intro hc; first | (exfalso; simp only [push_cast, seval, *] at hc; done) | (exact absurd hc (by decide)) | ((try first | rw [Bool.not_true] at hc | rw [Bool.not_false] at hc); first | (with_reducible replace hc := tTT hc); clear hc | (with_reducible replace hc := tFF hc); clear hc | (have hp := hc; try simp only [decide_eq_true_eq, decide_eq_false_iff_not, bA, bB, bC, bD, bE, bF, bG, bH] at hp))) <;> try simp only [push_cast, seval, *]))
    | (refine Kn.go hK ?_; clear hK K)
    | refine Kn.go (by assumption) ?_
    | (intro n hn; (try simp only [upd_none2, join_none_iff, ite_none, ne_eq] at hn); (try simp only [push_cast, seval, *]))
    | (intro hc)
    | (apply ER_blk; (case hp => rfl); (case hb => (simp only [push_cast, seval]; rfl)); (case hd => (simp only [push_cast, seval]; done)); (case h => (intro hc; simp only [push_cast, seval, *]; rfl)); simp only [push_cast, seval, *])
    | fail)
          exact ⟨_, _, Weak.less (Heap.le_trans (unhid hle) (by (repeat' (first | exact Heap.le_refl _ | refine hle_upd2 ?_ _ _ | (refine Heap.le_new ?_ ?_; rotate_left 1; focus (first | assumption | (simp only [upd_none2, upd_get, ne_eq, push_cast, seval, *]; done) | (simp [upd_get, *]; done))))))), rfl, rfl⟩
      rw [hB2] at hls hinv
      clear hB2
      simp only [Bool.true_and] at hinv
      cases hB3 : rs.all recOk
      · have h0 : R = false := by rw [hinv, hB3]; simp
        subst h0
        rw [hB3] at hrr
        clear hinv hR hB3 hhs
        rcases hs1 with rfl | rfl
        all_goals
          repeat' (first
    | refine AW_seq_kn fun K hK => ?_
    | refine AW_block ?_
    | (refine does_call rfl rfl ?_; simp only [push_cast, seval, *]; refine ACall.monoP (hn1 _) ?_; (try simp only [push_cast, seval, *]))
    | (refine does_call rfl rfl ?_; simp only [push_cast, seval, *]; refine ACall.monoP (hls _) ?_; (try simp only [push_cast, seval, *]))
    | (refine does_call rfl rfl ?_; simp only [push_cast, seval, *]; refine ACall.monoP (hrr _) ?_; (try simp only [push_cast, seval, *]))
    | ((first
      | refine AW_region_draw (id := 6) E0 (fun f => [].contains f) dLDB0 dADB0 mixed (by kernel_rfl) ?_
      | refine AW_region_draw (id := 12) E0 (fun f => [].contains f) dLDB1 dADB1 mixed (by kernel_rfl) ?_
      | refine AW_region E0 ?_ | refine AW_ret ?_ | refine AW_exit ?_ | refine AW_skip ?_ | unfold retQ); try simp only [push_cast, seval, *])
    | ((first | (apply AW_cond; (case hc => (simp only [push_cast, seval]; rfl))) | (apply ER_guard; (case hb => (simp only [push_cast, seval]; rfl)))); all_goals ((intro hc; first | (exfalso; simp only [push_cast, seval, *] at hc; done) | (exact absurd hc (by decide)) | ((try first | rw [Bool.not_true] at hc | rw [Bool.not_false] at hc); first | (with_reducible replace hc := tTT hc); clear hc | (with_reducible replace hc := tFF hc); clear hc | (have hp := hc; try simp only [decide_eq_true_eq, decide_eq_false_iff_not, bA, bB, bC, bD, bE, bF, bG, bH] at hp))) <;> try simp only [push_cast, seval, *]))
    | (refine Kn.go hK ?_; clear hK K)
    | refine Kn.go (by assumption) ?_
    | (intro n hn; (try simp only [upd_none2, join_none_iff, ite_none, ne_eq] at hn); (try simp only [push_cast, seval, *]))
    | (intro hc)
    | (apply ER_blk; (case hp => rfl); (case hb => (simp only [push_cast, seval]; rfl)); (case hd => (simp only [push_cast, seval]; done)); (case h => (intro hc; simp only [push_cast, seval, *]; rfl)); simp only [push_cast, seval, *])
    | fail)
          exact ⟨_, _, Weak.less (Heap.le_trans (unhid hle) (by (repeat' (first | exact Heap.le_refl _ | refine hle_upd2 ?_ _ _ | (refine Heap.le_new ?_ ?_; rotate_left 1; focus (first | assumption | (simp only [upd_none2, upd_get, ne_eq, push_cast, seval, *]; done) | (simp [upd_get, *]; done))))))), rfl, rfl⟩
      rw [hB3] at hrr hinv
      clear hB3
      simp only [Bool.true_and] at hinv
      by_cases hB4 : (⟨m1, n2, n3⟩ : Nm) ∈ b
      · have h0 : R = false := by rw [hinv, decide_eq_true hB4]; simp
        subst h0
        rw [decide_eq_true hB4] at hhs
        clear hinv hR hB4
        rcases hs1 with rfl | rfl
        all_goals
          repeat' (first
    | refine AW_seq_kn fun K hK => ?_
    | refine AW_block ?_
    | (refine does_call rfl rfl ?_; simp only [push_cast, seval, *]; refine ACall.monoP (hn1 _) ?_; (try simp only [push_cast, seval, *]))
    | (refine does_call rfl rfl ?_; simp only [push_cast, seval, *]; refine ACall.monoP (hls _) ?_; (try simp only [push_cast, seval, *]))
    | (refine does_call rfl rfl ?_; simp only [push_cast, seval, *]; refine ACall.monoP (hrr _) ?_; (try simp only [push_cast, seval, *]))
    | (refine does_call rfl rfl ?_; simp only [push_cast, seval, *]; refine ACall.monoP (hhs _) ?_; (try simp only [push_cast, seval, *]))
    | ((first
      | refine AW_region_draw (id := 6) E0 (fun f => [].contains f) dLDB0 dADB0 mixed (by kernel_rfl) ?_
      | refine AW_region_draw (id := 12) E0 (fun f => [].contains f) dLDB1 dADB1 mixed (by kernel_rfl) ?_
      | refine AW_region E0 ?_ | refine AW_ret ?_ | refine AW_exit ?_ | refine AW_skip ?_ | unfold retQ); try simp only [push_cast, seval, *])
    | ((first | (apply AW_cond; (case hc => (simp only [push_cast, seval]; rfl))) | (apply ER_guard; (case hb => (simp only [push_cast, seval]; rfl)))); all_goals ((intro hc; first | (exfalso; simp only [push_cast, seval, *] at hc; done) | (exact absurd hc (by decide)) | ((try first | rw [Bool.not_true] at hc | rw [Bool.not_false] at hc); first | (with_reducible replace hc := tTT hc); clear hc | (with_reducible replace hc := tFF hc); clear hc | (have hp := hc; try simp only [decide_eq_true_eq, decide_eq_false_iff_not, bA, bB, bC, bD, bE, bF, bG, bH] at hp))) <;> try simp only [push_cast, seval, *]))
    | (refine Kn.go hK ?_; clear hK K)
    | refine Kn.go (by assumption) ?_
    | (intro n hn; (try simp only [upd_none2, join_none_iff, ite_none, ne_eq] at hn); (try simp only [push_cast, seval, *]))
    | (intro hc)
    | (apply ER_blk; (case hp => rfl); (case hb => (simp only [push_cast, seval]; rfl)); (case hd => (simp only [push_cast, seval]; done)); (case h => (intro hc; simp only [push_cast, seval, *]; rfl)); simp only [push_cast, seval, *])
    | fail)
          exact ⟨_, _, Weak.less (Heap.le_trans (unhid hle) (by (repeat' (first | exact Heap.le_refl _ | refine hle_upd2 ?_ _ _ | (refine Heap.le_new ?_ ?_; rotate_left 1; focus (first | assumption | (simp only [upd_none2, upd_get, ne_eq, push_cast, seval, *]; done) | (simp [upd_get, *]; done))))))), rfl, rfl⟩
      rw [decide_eq_false hB4] at hhs hinv
      clear hB4
      simp only [Bool.true_and, Bool.not_false] at hinv
      replace hinv := Lib.hid hinv
      rcases hs1 with rfl | rfl
      all_goals
        repeat' (first
    | refine AW_seq_kn fun K hK => ?_
    | refine AW_block ?_
    | (refine does_call rfl rfl ?_; simp only [push_cast, seval, *]; refine ACall.monoP (hn1 _) ?_; (try simp only [push_cast, seval, *]))
    | (refine does_call rfl rfl ?_; simp only [push_cast, seval, *]; refine ACall.monoP (hls _) ?_; (try simp only [push_cast, seval, *]))
    | (refine does_call rfl rfl ?_; simp only [push_cast, seval, *]; refine ACall.monoP (hrr _) ?_; (try simp only [push_cast, seval, *]))
    | (refine does_call rfl rfl ?_; simp only [push_cast, seval, *]; refine ACall.monoP (hhs _) ?_; (try simp only [push_cast, seval, *]))
    | ((first
      | refine AW_region_draw (id := 6) E0 (fun f => [].contains f) dLDB0 dADB0 mixed (by kernel_rfl) ?_
      | refine AW_region_draw (id := 12) E0 (fun f => [].contains f) dLDB1 dADB1 mixed (by kernel_rfl) ?_
      | refine AW_region E0 ?_ | refine AW_ret ?_ | refine AW_exit ?_ | refine AW_skip ?_ | unfold retQ); try simp only [push_cast, seval, *])
    | ((first | (apply AW_cond; (case hc => (simp only [push_cast, seval]; rfl))) | (apply ER_guard; (case hb => (simp only [push_cast, seval]; rfl)))); all_goals ((intro hc; first | (exfalso; simp only [push_cast, seval, *] at hc; done) | (exact absurd hc (by decide)) | ((try first | rw [Bool.not_true] at hc | rw [Bool.not_false] at hc); first | (with_reducible replace hc := tTT hc); clear hc | (with_reducible replace hc := tFF hc); clear hc | (have hp := hc; try simp only [decide_eq_true_eq, decide_eq_false_iff_not, bA, bB, bC, bD, bE, bF, bG, bH] at hp))) <;> try simp only [push_cast, seval, *]))
    | (refine Kn.go hK ?_; clear hK K)
    | refine Kn.go (by assumption) ?_
    | (intro n hn; (try simp only [upd_none2, join_none_iff, ite_none, ne_eq] at hn); (try simp only [push_cast, seval, *]))
    | (intro hc)
    | (apply ER_blk; (case hp => rfl); (case hb => (simp only [push_cast, seval]; rfl)); (case hd => (simp only [push_cast, seval]; done)); (case h => (intro hc; simp only [push_cast, seval, *]; rfl)); simp only [push_cast, seval, *])
    | fail)
        exact ⟨unhid hinv, by (first | trivial | (simp only [push_cast, seval, *]; done)), by first | trivial | (repeat' (first | exact Heap.le_refl _ | refine hle_upd2 ?_ _ _ | (refine Heap.le_new ?_ ?_; rotate_left 1; focus (first | assumption | (simp only [upd_none2, upd_get, ne_eq, push_cast, seval, *]; done) | (simp [upd_get, *]; done)))))⟩
  · intro hinv
    rw [List.drop_length] at hinv
    have hinv2 : R = rdn [] b := by rw [hinv, unhid hD]; rfl
    clear hinv hp1 hp2 hR hrs hD
    replace hinv2 := Lib.hid hinv2
    repeat' (first
    | refine AW_seq_kn fun K hK => ?_
    | refine AW_block ?_
    | ((first
      | refine AW_region_draw (id := 6) E0 (fun f => [].contains f) dLDB0 dADB0 mixed (by kernel_rfl) ?_
      | refine AW_region_draw (id := 12) E0 (fun f => [].contains f) dLDB1 dADB1 mixed (by kernel_rfl) ?_
      | refine AW_region E0 ?_ | refine AW_ret ?_ | refine AW_exit ?_ | refine AW_skip ?_ | unfold retQ); try simp only [push_cast, seval, *])
    | ((first | (apply AW_cond; (case hc => (simp only [push_cast, seval]; rfl))) | (apply ER_guard; (case hb => (simp only [push_cast, seval]; rfl)))); all_goals ((intro hc; first | (exfalso; simp only [push_cast, seval, *] at hc; done) | (exact absurd hc (by decide)) | ((try first | rw [Bool.not_true] at hc | rw [Bool.not_false] at hc); first | (with_reducible replace hc := tTT hc); clear hc | (with_reducible replace hc := tFF hc); clear hc | (have hp := hc; try simp only [decide_eq_true_eq, decide_eq_false_iff_not, bA, bB, bC, bD, bE, bF, bG, bH] at hp))) <;> try simp only [push_cast, seval, *]))
    | (refine Kn.go hK ?_; clear hK K)
    | refine Kn.go (by assumption) ?_
    | (intro n hn; (try simp only [upd_none2, join_none_iff, ite_none, ne_eq] at hn); (try simp only [push_cast, seval, *]))
    | (intro hc)
    | (apply ER_blk; (case hp => rfl); (case hb => (simp only [push_cast, seval]; rfl)); (case hd => (simp only [push_cast, seval]; done)); (case h => (intro hc; simp only [push_cast, seval, *]; rfl)); simp only [push_cast, seval, *])
    | fail)
    refine AW_loopN b.length (fun k => R = rdn (b.take k) (b.drop k)) (fun k => [(1, .p n1 3 0 0), (82, .l 3 (b.map Nm.av)), (83, ci b.length), (84, ci k)]) (fun _ => G) (by rw [List.drop_zero]; exact unhid hinv2) ?_ ?_ ?_ ?_
    · (first | trivial | (simp only [push_cast, seval, *]; done))
    · exact Heap.le_refl _
    · intro k hk hinv
      have hx := List.getElem?_eq_getElem (l := b) hk; generalize b[k] = x at hx; have hxm := List.mem_of_getElem? hx; have hkl : (k : Int) < b.length := (by omega); have hkw : IntKind.i64.wrap ((k : Int) + 1) = (k : Int) + 1 := wrap_i64 (by omega) (by omega)
      rw [drop_get hx, rdn, ← take_snoc hx] at hinv
      have hn1 := RightName_p x
      have hhs := rhas_p (b.take k) (by rw [List.length_take]; unfold maxLen; omega) x
      have hkle : (k : Int) ≤ b.length := by omega
      have htk : (b.map Nm.av).take k = (b.take k).map Nm.av := List.map_take.symm
      obtain ⟨x1, x2, x3⟩ := x
      have hxv : Nm.av ⟨x1, x2, x3⟩ = [.c (.int .i64 x1), .c (.int .i64 x2), .c (.int .i64 x3)] := rfl
      simp only [hxv] at hn1 hhs
      clear hxm
      cases hB1 : nmOk ⟨x1, x2, x3⟩
      · have h0 : R = false := by rw [hinv, hB1]; simp
        subst h0
        rw [hB1] at hn1
        clear hinv hinv2 hB1 hhs
        repeat' (first
    | refine AW_seq_kn fun K hK => ?_
    | refine AW_block ?_
    | (refine does_call rfl rfl ?_; simp only [push_cast, seval, *]; refine ACall.monoP (hn1 _) ?_; (try simp only [push_cast, seval, *]))
    | ((first
      | refine AW_region_draw (id := 6) E0 (fun f => [].contains f) dLDB0 dADB0 mixed (by kernel_rfl) ?_
      | refine AW_region_draw (id := 12) E0 (fun f => [].contains f) dLDB1 dADB1 mixed (by kernel_rfl) ?_
      | refine AW_region E0 ?_ | refine AW_ret ?_ | refine AW_exit ?_ | refine AW_skip ?_ | unfold retQ); try simp only [push_cast, seval, *])
    | ((first | (apply AW_cond; (case hc => (simp only [push_cast, seval]; rfl))) | (apply ER_guard; (case hb => (simp only [push_cast, seval]; rfl)))); all_goals ((intro hc; first | (exfalso; simp only [push_cast, seval, *] at hc; done) | (exact absurd hc (by decide)) | ((try first | rw [Bool.not_true] at hc | rw [Bool.not_false] at hc); first | (with_reducible replace hc := tTT hc); clear hc | (with_reducible replace hc := tFF hc); clear hc | (have hp := hc; try simp only [decide_eq_true_eq, decide_eq_false_iff_not, bA, bB, bC, bD, bE, bF, bG, bH] at hp))) <;> try simp only [push_cast, seval, *]))
    | (refine Kn.go hK ?_; clear hK K)
    | refine Kn.go (by assumption) ?_
    | (intro n hn; (try simp only [upd_none2, join_none_iff, ite_none, ne_eq] at hn); (try simp only [push_cast, seval, *]))
    | (intro hc)
    | (apply ER_blk; (case hp => rfl); (case hb => (simp only [push_cast, seval]; rfl)); (case hd => (simp only [push_cast, seval]; done)); (case h => (intro hc; simp only [push_cast, seval, *]; rfl)); simp only [push_cast, seval, *])
    | fail)
        exact ⟨_, _, Weak.less (Heap.le_trans (unhid hle) (by (repeat' (first | exact Heap.le_refl _ | refine hle_upd2 ?_ _ _ | (refine Heap.le_new ?_ ?_; rotate_left 1; focus (first | assumption | (simp only [upd_none2, upd_get, ne_eq, push_cast, seval, *]; done) | (simp [upd_get, *]; done))))))), rfl, rfl⟩
      rw [hB1] at hn1 hinv
      simp only [Bool.true_and] at hinv
      clear hB1
      generalize b.take k = bk at *
      by_cases hB4 : (⟨x1, x2, x3⟩ : Nm) ∈ bk
      · have h0 : R = false := by rw [hinv, decide_eq_true hB4]; simp
        subst h0
        rw [decide_eq_true hB4] at hhs
        clear hinv hinv2 hB4
        repeat' (first
    | refine AW_seq_kn fun K hK => ?_
    | refine AW_block ?_
    | (refine does_call rfl rfl ?_; simp only [push_cast, seval, *]; refine ACall.monoP (hn1 _) ?_; (try simp only [push_cast, seval, *]))
    | (refine does_call rfl rfl ?_; simp only [push_cast, seval, *]; refine ACall.monoP (hhs _) ?_; (try simp only [push_cast, seval, *]))
    | ((first
      | refine AW_region_draw (id := 6) E0 (fun f => [].contains f) dLDB0 dADB0 mixed (by kernel_rfl) ?_
      | refine AW_region_draw (id := 12) E0 (fun f => [].contains f) dLDB1 dADB1 mixed (by kernel_rfl) ?_
      | refine AW_region E0 ?_ | refine AW_ret ?_ | refine AW_exit ?_ | refine AW_skip ?_ | unfold retQ); try simp only [push_cast, seval, *])
    | ((first | (apply AW_cond; (case hc => (simp only [push_cast, seval]; rfl))) | (apply ER_guard; (case hb => (simp only [push_cast, seval]; rfl)))); all_goals ((intro hc; first | (exfalso; simp only [push_cast, seval, *] at hc; done) | (exact absurd hc (by decide)) | ((try first | rw [Bool.not_true] at hc | rw [Bool.not_false] at hc); first | (with_reducible replace hc := tTT hc); clear hc | (with_reducible replace hc := tFF hc); clear hc | (have hp := hc; try simp only [decide_eq_true_eq, decide_eq_false_iff_not, bA, bB, bC, bD, bE, bF, bG, bH] at hp))) <;> try simp only [push_cast, seval, *]))
    | (refine Kn.go hK ?_; clear hK K)
    | refine Kn.go (by assumption) ?_
    | (intro n hn; (try simp only [upd_none2, join_none_iff, ite_none, ne_eq] at hn); (try simp only [push_cast, seval, *]))
    | (intro hc)
    | (apply ER_blk; (case hp => rfl); (case hb => (simp only [push_cast, seval]; rfl)); (case hd => (simp only [push_cast, seval]; done)); (case h => (intro hc; simp only [push_cast, seval, *]; rfl)); simp only [push_cast, seval, *])
    | fail)
        exact ⟨_, _, Weak.less (Heap.le_trans (unhid hle) (by (repeat' (first | exact Heap.le_refl _ | refine hle_upd2 ?_ _ _ | (refine Heap.le_new ?_ ?_; rotate_left 1; focus (first | assumption | (simp only [upd_none2, upd_get, ne_eq, push_cast, seval, *]; done) | (simp [upd_get, *]; done))))))), rfl, rfl⟩
      rw [decide_eq_false hB4] at hhs hinv
      simp only [Bool.true_and, Bool.not_false] at hinv
      clear hB4
      replace hinv := Lib.hid hinv
      repeat' (first
    | refine AW_seq_kn fun K hK => ?_
    | refine AW_block ?_
    | (refine does_call rfl rfl ?_; simp only [push_cast, seval, *]; refine ACall.monoP (hn1 _) ?_; (try simp only [push_cast, seval, *]))
    | (refine does_call rfl rfl ?_; simp only [push_cast, seval, *]; refine ACall.monoP (hhs _) ?_; (try simp only [push_cast, seval, *]))
    | ((first
      | refine AW_region_draw (id := 6) E0 (fun f => [].contains f) dLDB0 dADB0 mixed (by kernel_rfl) ?_
      | refine AW_region_draw (id := 12) E0 (fun f => [].contains f) dLDB1 dADB1 mixed (by kernel_rfl) ?_
      | refine AW_region E0 ?_ | refine AW_ret ?_ | refine AW_exit ?_ | refine AW_skip ?_ | unfold retQ); try simp only [push_cast, seval, *])
    | ((first | (apply AW_cond; (case hc => (simp only [push_cast, seval]; rfl))) | (apply ER_guard; (case hb => (simp only [push_cast, seval]; rfl)))); all_goals ((intro hc; first | (exfalso; simp only [push_cast, seval, *] at hc; done) | (exact absurd hc (by decide)) | ((try first | rw [Bool.not_true] at hc | rw [Bool.not_false] at hc); first | (with_reducible replace hc := tTT hc); clear hc | (with_reducible replace hc := tFF hc); clear hc | (have hp := hc; try simp only [decide_eq_true_eq, decide_eq_false_iff_not, bA, bB, bC, bD, bE, bF, bG, bH] at hp))) <;> try simp only [push_cast, seval, *]))
    | (refine Kn.go hK ?_; clear hK K)
    | refine Kn.go (by assumption) ?_
    | (intro n hn; (try simp only [upd_none2, join_none_iff, ite_none, ne_eq] at hn); (try simp only [push_cast, seval, *]))
    | (intro hc)
    | (apply ER_blk; (case hp => rfl); (case hb => (simp only [push_cast, seval]; rfl)); (case hd => (simp only [push_cast, seval]; done)); (case h => (intro hc; simp only [push_cast, seval, *]; rfl)); simp only [push_cast, seval, *])
    | fail)
      exact ⟨unhid hinv, by (first | trivial | (simp only [push_cast, seval, *]; done)), by first | trivial | (repeat' (first | exact Heap.le_refl _ | refine hle_upd2 ?_ _ _ | (refine Heap.le_new ?_ ?_; rotate_left 1; focus (first | assumption | (simp only [upd_none2, upd_get, ne_eq, push_cast, seval, *]; done) | (simp [upd_get, *]; done)))))⟩
    · intro hinv
      rw [List.drop_length] at hinv
      have h0 : R = true := hinv
      subst h0
      clear hinv hinv2
      repeat' (first
    | refine AW_seq_kn fun K hK => ?_
    | refine AW_block ?_
    | ((first
      | refine AW_region_draw (id := 6) E0 (fun f => [].contains f) dLDB0 dADB0 mixed (by kernel_rfl) ?_
      | refine AW_region_draw (id := 12) E0 (fun f => [].contains f) dLDB1 dADB1 mixed (by kernel_rfl) ?_
      | refine AW_region E0 ?_ | refine AW_ret ?_ | refine AW_exit ?_ | refine AW_skip ?_ | unfold retQ); try simp only [push_cast, seval, *])
    | ((first | (apply AW_cond; (case hc => (simp only [push_cast, seval]; rfl))) | (apply ER_guard; (case hb => (simp only [push_cast, seval]; rfl)))); all_goals ((intro hc; first | (exfalso; simp only [push_cast, seval, *] at hc; done) | (exact absurd hc (by decide)) | ((try first | rw [Bool.not_true] at hc | rw [Bool.not_false] at hc); first | (with_reducible replace hc := tTT hc); clear hc | (with_reducible replace hc := tFF hc); clear hc | (have hp := hc; try simp only [decide_eq_true_eq, decide_eq_false_iff_not, bA, bB, bC, bD, bE, bF, bG, bH] at hp))) <;> try simp only [push_cast, seval, *]))
    | (refine Kn.go hK ?_; clear hK K)
    | refine Kn.go (by assumption) ?_
    | (intro n hn; (try simp only [upd_none2, join_none_iff, ite_none, ne_eq] at hn); (try simp only [push_cast, seval, *]))
    | (intro hc)
    | (apply ER_blk; (case hp => rfl); (case hb => (simp only [push_cast, seval]; rfl)); (case hd => (simp only [push_cast, seval]; done)); (case h => (intro hc; simp only [push_cast, seval, *]; rfl)); simp only [push_cast, seval, *])
    | fail)
      exact ⟨_, _, Weak.less (unhid hle), rfl, rfl⟩
end Go.Proofs.Ytdeckjoeggmagaa
