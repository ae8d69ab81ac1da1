/- Walks: the document on operators that stand alone. -/
import Derived.Test.YtmkncbddjnaklaaB
namespace Go.Proofs.Ytmkncbddjnaklaa
open Go.RowKit
open Nat renaming reduceEqDiff → nA, reduceLT → nB, reduceLeDiff → nC, reduceAdd → nD, reduceMul → nE, reduceSub → nF, reduceBEq → nG
open Int renaming reduceToNat → iA, reduceLT → iB, reduceLE → iC, reduceEq → iD
open Bool renaming and_eq_true → bA, or_eq_true → bB, or_eq_false_iff → bC, and_eq_false_iff → bD, not_eq_true' → bE, not_eq_false' → bF, not_true → bG, not_false → bH
set_option linter.all false
set_option maxHeartbeats 4000000
attribute [local irreducible] AW Does ACall tE tS tB tZ
def dLB20 : List En := [(0, false, []), (1, false, []), (2, false, []), (3, false, []), (4, false, []), (5, false, []), (6, false, []), (7, false, []), (8, false, []), (9, false, []), (10, false, []), (11, false, []), (12, false, [])]
def dAB20 : List (List Nat) := [[], [0], [0, 1], [], [3], [3, 4], [3, 4, 5], [3, 4, 5, 6], [3, 4, 5, 6, 7], [3, 4, 5, 6, 7, 8], [3, 4, 5, 6, 7, 8, 9], [0, 1, 2, 3, 4, 5, 6], [0, 1, 2, 3, 4, 5, 6, 7, 8, 9, 10, 11]]
attribute [push_cast] dLB20

theorem ref_alone_p (o : OpD) (hl : o.ins.length ≤ maxLen) : Pure Try.prog 64 [.g (OpD.av o), .c (.int .i64 8)] (.c (.bool (aloneS o))) := by
  intro H
  obtain ⟨t, w, l, A, B⟩ := o
  simp only at hl
  have hE := aloneS_eq ⟨t, w, l, A, B⟩
  simp only at hE
  by_cases w1 : w < 1
  · have h1 : decide (1 ≤ w) = false := decide_eq_false (by omega)
    rw [h1] at hE
    simp only [Bool.false_and] at hE
    rw [hE]; clear hE h1
    simp only [OpD.av]
    refine ACall_of' Try.func64 rfl (Ent_of Try.func64 (by kernel_rfl) rfl) (by simp [Try.ntmps64]) ?_; simp only [Try.ntmps64, Try.results64]
    repeat' (first
    | refine AW_seq_kn fun K hK => ?_
    | refine AW_block ?_
    | ((first
      | refine AW_region_draw (id := 9) E0 (fun f => [].contains f) dLB20 dAB20 mixed (by kernel_rfl) ?_
      | refine AW_region E0 ?_ | refine AW_ret ?_ | refine AW_exit ?_ | refine AW_skip ?_ | unfold retQ); try simp only [push_cast, seval, *])
    | ((first | (apply AW_cond; (case hc => (simp only [push_cast, seval]; rfl))) | (apply ER_guard; (case hb => (simp only [push_cast, seval]; rfl)))); all_goals ((intro hc; first | (exfalso; simp only [push_cast, seval, *] at hc; done) | (exact absurd hc (by decide)) | ((try first | rw [Bool.not_true] at hc | rw [Bool.not_false] at hc); first | (with_reducible replace hc := tTT hc); clear hc | (with_reducible replace hc := tFF hc); clear hc | (have hp := hc; try simp only [decide_eq_true_eq, decide_eq_false_iff_not, bA, bB, bC, bD, bE, bF, bG, bH] at hp))) <;> try simp only [push_cast, seval, *]))
    | (refine Kn.go hK ?_; clear hK K)
    | refine Kn.go (by assumption) ?_
    | (intro n hn; (try simp only [upd_none2, join_none_iff, ite_none, ne_eq] at hn); (try simp only [push_cast, seval, *]))
    | (intro hc)
    | (apply ER_blk; (case hp => rfl); (case hb => (simp only [push_cast, seval]; rfl)); (case hd => (simp only [push_cast, seval]; done)); (case h => (intro hc; simp only [push_cast, seval, *]; rfl)); simp only [push_cast, seval, *])
    | fail)
    exact ⟨_, _, Weak.less (by (simp only [push_cast, seval, *])), rfl, rfl⟩
  have h1 : decide (1 ≤ w) = true := decide_eq_true (by omega)
  by_cases w3 : 3 < w
  · have h2 : decide (w ≤ 3) = false := decide_eq_false (by omega)
    rw [h2] at hE
    simp only [Bool.false_and, Bool.and_false] at hE
    rw [hE]; clear hE h1 h2
    simp only [OpD.av]
    refine ACall_of' Try.func64 rfl (Ent_of Try.func64 (by kernel_rfl) rfl) (by simp [Try.ntmps64]) ?_; simp only [Try.ntmps64, Try.results64]
    repeat' (first
    | refine AW_seq_kn fun K hK => ?_
    | refine AW_block ?_
    | ((first
      | refine AW_region_draw (id := 9) E0 (fun f => [].contains f) dLB20 dAB20 mixed (by kernel_rfl) ?_
      | refine AW_region E0 ?_ | refine AW_ret ?_ | refine AW_exit ?_ | refine AW_skip ?_ | unfold retQ); try simp only [push_cast, seval, *])
    | ((first | (apply AW_cond; (case hc => (simp only [push_cast, seval]; rfl))) | (apply ER_guard; (case hb => (simp only [push_cast, seval]; rfl)))); all_goals ((intro hc; first | (exfalso; simp only [push_cast, seval, *] at hc; done) | (exact absurd hc (by decide)) | ((try first | rw [Bool.not_true] at hc | rw [Bool.not_false] at hc); first | (with_reducible replace hc := tTT hc); clear hc | (with_reducible replace hc := tFF hc); clear hc | (have hp := hc; try simp only [decide_eq_true_eq, decide_eq_false_iff_not, bA, bB, bC, bD, bE, bF, bG, bH] at hp))) <;> try simp only [push_cast, seval, *]))
    | (refine Kn.go hK ?_; clear hK K)
    | refine Kn.go (by assumption) ?_
    | (intro n hn; (try simp only [upd_none2, join_none_iff, ite_none, ne_eq] at hn); (try simp only [push_cast, seval, *]))
    | (intro hc)
    | (apply ER_blk; (case hp => rfl); (case hb => (simp only [push_cast, seval]; rfl)); (case hd => (simp only [push_cast, seval]; done)); (case h => (intro hc; simp only [push_cast, seval, *]; rfl)); simp only [push_cast, seval, *])
    | fail)
    exact ⟨_, _, Weak.less (by (simp only [push_cast, seval, *])), rfl, rfl⟩
  have h2 : decide (w ≤ 3) = true := decide_eq_true (by omega)
  rw [h1, h2] at hE
  simp only [Bool.true_and] at hE
  have hz : risesS 8 (-1) l = risesS 8 (-1) (l.drop 0) := by rw [List.drop_zero]
  obtain ⟨R, hR⟩ : ∃ R, R = aloneS ⟨t, w, l, A, B⟩ := ⟨_, rfl⟩
  rw [← hR]
  rw [hE] at hR
  clear hE h1 h2
  obtain ⟨rs, hrs⟩ : ∃ rs, rs = risesS 8 (-1) l := ⟨_, rfl⟩
  rw [← hrs] at hR hz
  replace hrs := Lib.hid hrs
  replace hR := Lib.hid hR
  replace hz := Lib.hid hz
  unfold maxLen at hl
  simp only [OpD.av]
  refine ACall_of' Try.func64 rfl (Ent_of Try.func64 (by kernel_rfl) rfl) (by simp [Try.ntmps64]) ?_; simp only [Try.ntmps64, Try.results64]
  repeat' (first
    | refine AW_seq_kn fun K hK => ?_
    | refine AW_block ?_
    | ((first
      | refine AW_region_draw (id := 9) E0 (fun f => [].contains f) dLB20 dAB20 mixed (by kernel_rfl) ?_
      | refine AW_region E0 ?_ | refine AW_ret ?_ | refine AW_exit ?_ | refine AW_skip ?_ | unfold retQ); try simp only [push_cast, seval, *])
    | ((first | (apply AW_cond; (case hc => (simp only [push_cast, seval]; rfl))) | (apply ER_guard; (case hb => (simp only [push_cast, seval]; rfl)))); all_goals ((intro hc; first | (exfalso; simp only [push_cast, seval, *] at hc; done) | (exact absurd hc (by decide)) | ((try first | rw [Bool.not_true] at hc | rw [Bool.not_false] at hc); first | (with_reducible replace hc := tTT hc); clear hc | (with_reducible replace hc := tFF hc); clear hc | (have hp := hc; try simp only [decide_eq_true_eq, decide_eq_false_iff_not, bA, bB, bC, bD, bE, bF, bG, bH] at hp))) <;> try simp only [push_cast, seval, *]))
    | (refine Kn.go hK ?_; clear hK K)
    | refine Kn.go (by assumption) ?_
    | (intro n hn; (try simp only [upd_none2, join_none_iff, ite_none, ne_eq] at hn); (try simp only [push_cast, seval, *]))
    | (intro hc)
    | (apply ER_blk; (case hp => rfl); (case hb => (simp only [push_cast, seval]; rfl)); (case hd => (simp only [push_cast, seval]; done)); (case h => (intro hc; simp only [push_cast, seval, *]; rfl)); simp only [push_cast, seval, *])
    | fail)
  generalize n = m at *
  refine AW_loopX (σ := Int) l.length (fun k s => rs = risesS 8 s (l.drop k) ∧ (k = 0 ∧ s = -1 ∨ 0 < k ∧ 0 ≤ s ∧ l[k - 1]? = some s)) (fun k s => [(1, .c (.int .i64 8)), (2, .p m 5 0 0), (18, .l 1 (l.map i1)), (19, ci l.length), (20, ci k)]) (fun _ _ => upd H m (.r 24 5 1 [[.c (.int .i64 t), .c (.int .i64 w), .l 1 (l.map i1), .c (.int .i64 A), .c (.int .i64 B)]])) (-1) ⟨unhid hz, .inl ⟨rfl, rfl⟩⟩ ?_ ?_ ?_ ?_
  · (first | trivial | (simp only [push_cast, seval, *]; done))
  · (first | trivial | ((simp only [push_cast, seval, *]); repeat' (first | rfl | exact Heap.le_refl _ | refine And.intro ?_ ?_)) | rfl | exact ⟨rfl, rfl⟩ | exact ⟨rfl, rfl, rfl⟩ | exact Heap.le_refl _)
  · rintro k s hk ⟨hinv, hs⟩
    have hx := List.getElem?_eq_getElem (l := l) hk; generalize l[k] = x at hx; have hxm := List.mem_of_getElem? hx; have hkl : (k : Int) < l.length := (by omega); have hkw : IntKind.i64.wrap ((k : Int) + 1) = (k : Int) + 1 := wrap_i64 (by omega) (by omega)
    rw [drop_get hx] at hinv
    simp only [risesS] at hinv
    have hi1 : i1 x = [.c (.int .i64 x)] := rfl
    have hk1 : 0 < k → IntKind.i64.wrap ((k : Int) - 1) = ((k - 1 : Nat) : Int) := fun h => by rw [wrap_i64 (by omega) (by omega)]; omega
    by_cases x0 : x < 0
    · have h2 : decide (s < x) = false := decide_eq_false (by omega)
      rw [h2] at hinv
      simp only [Bool.false_and] at hinv
      have hRv : R = false := by rw [unhid hR, hinv]; rfl
      subst hRv
      clear hR hinv hz hs hk1 hrs
      repeat' (first
    | refine AW_seq_kn fun K hK => ?_
    | refine AW_block ?_
    | ((first
      | refine AW_region_draw (id := 9) E0 (fun f => [].contains f) dLB20 dAB20 mixed (by kernel_rfl) ?_
      | refine AW_region E0 ?_ | refine AW_ret ?_ | refine AW_exit ?_ | refine AW_skip ?_ | unfold retQ); try simp only [push_cast, seval, *])
    | ((first | (apply AW_cond; (case hc => (simp only [push_cast, seval]; rfl))) | (apply ER_guard; (case hb => (simp only [push_cast, seval]; rfl)))); all_goals ((intro hc; first | (exfalso; simp only [push_cast, seval, *] at hc; done) | (exact absurd hc (by decide)) | ((try first | rw [Bool.not_true] at hc | rw [Bool.not_false] at hc); first | (with_reducible replace hc := tTT hc); clear hc | (with_reducible replace hc := tFF hc); clear hc | (have hp := hc; try simp only [decide_eq_true_eq, decide_eq_false_iff_not, bA, bB, bC, bD, bE, bF, bG, bH] at hp))) <;> try simp only [push_cast, seval, *]))
    | (refine Kn.go hK ?_; clear hK K)
    | refine Kn.go (by assumption) ?_
    | (intro n hn; (try simp only [upd_none2, join_none_iff, ite_none, ne_eq] at hn); (try simp only [push_cast, seval, *]))
    | (intro hc)
    | (apply ER_blk; (case hp => rfl); (case hb => (simp only [push_cast, seval]; rfl)); (case hd => (simp only [push_cast, seval]; done)); (case h => (intro hc; simp only [push_cast, seval, *]; rfl)); simp only [push_cast, seval, *])
    | fail)
      exact ⟨_, _, Weak.less (by (simp only [push_cast, seval, *])), rfl, rfl⟩
    by_cases x8 : 8 ≤ x
    · have h2 : decide (x < 8) = false := decide_eq_false (by omega)
      rw [h2] at hinv
      simp only [Bool.false_and, Bool.and_false] at hinv
      have hRv : R = false := by rw [unhid hR, hinv]; rfl
      subst hRv
      clear hR hinv hz hs hk1 hrs
      repeat' (first
    | refine AW_seq_kn fun K hK => ?_
    | refine AW_block ?_
    | ((first
      | refine AW_region_draw (id := 9) E0 (fun f => [].contains f) dLB20 dAB20 mixed (by kernel_rfl) ?_
      | refine AW_region E0 ?_ | refine AW_ret ?_ | refine AW_exit ?_ | refine AW_skip ?_ | unfold retQ); try simp only [push_cast, seval, *])
    | ((first | (apply AW_cond; (case hc => (simp only [push_cast, seval]; rfl))) | (apply ER_guard; (case hb => (simp only [push_cast, seval]; rfl)))); all_goals ((intro hc; first | (exfalso; simp only [push_cast, seval, *] at hc; done) | (exact absurd hc (by decide)) | ((try first | rw [Bool.not_true] at hc | rw [Bool.not_false] at hc); first | (with_reducible replace hc := tTT hc); clear hc | (with_reducible replace hc := tFF hc); clear hc | (have hp := hc; try simp only [decide_eq_true_eq, decide_eq_false_iff_not, bA, bB, bC, bD, bE, bF, bG, bH] at hp))) <;> try simp only [push_cast, seval, *]))
    | (refine Kn.go hK ?_; clear hK K)
    | refine Kn.go (by assumption) ?_
    | (intro n hn; (try simp only [upd_none2, join_none_iff, ite_none, ne_eq] at hn); (try simp only [push_cast, seval, *]))
    | (intro hc)
    | (apply ER_blk; (case hp => rfl); (case hb => (simp only [push_cast, seval]; rfl)); (case hd => (simp only [push_cast, seval]; done)); (case h => (intro hc; simp only [push_cast, seval, *]; rfl)); simp only [push_cast, seval, *])
    | fail)
      exact ⟨_, _, Weak.less (by (simp only [push_cast, seval, *])), rfl, rfl⟩
    have h8 : decide (x < 8) = true := decide_eq_true (by omega)
    rw [h8] at hinv
    simp only [Bool.true_and, Bool.and_true] at hinv
    rcases hs with ⟨hk0, rfl⟩ | ⟨hk0, hs0, hs1⟩
    · have h2 : decide ((-1 : Int) < x) = true := decide_eq_true (by omega)
      rw [h2] at hinv
      simp only [Bool.true_and] at hinv
      replace hinv := Lib.hid hinv
      have hx' := Lib.hid hx
      have hk0n : ¬ (0 : Int) < k := by omega
      clear hz hk1 h2 h8
      replace hk0 := Lib.hid hk0
      repeat' (first
    | refine AW_seq_kn fun K hK => ?_
    | refine AW_block ?_
    | ((first
      | refine AW_region_draw (id := 9) E0 (fun f => [].contains f) dLB20 dAB20 mixed (by kernel_rfl) ?_
      | refine AW_region E0 ?_ | refine AW_ret ?_ | refine AW_exit ?_ | refine AW_skip ?_ | unfold retQ); try simp only [push_cast, seval, *])
    | ((first | (apply AW_cond; (case hc => (simp only [push_cast, seval]; rfl))) | (apply ER_guard; (case hb => (simp only [push_cast, seval]; rfl)))); all_goals ((intro hc; first | (exfalso; simp only [push_cast, seval, *] at hc; done) | (exact absurd hc (by decide)) | ((try first | rw [Bool.not_true] at hc | rw [Bool.not_false] at hc); first | (with_reducible replace hc := tTT hc); clear hc | (with_reducible replace hc := tFF hc); clear hc | (have hp := hc; try simp only [decide_eq_true_eq, decide_eq_false_iff_not, bA, bB, bC, bD, bE, bF, bG, bH] at hp))) <;> try simp only [push_cast, seval, *]))
    | (refine Kn.go hK ?_; clear hK K)
    | refine Kn.go (by assumption) ?_
    | (intro n hn; (try simp only [upd_none2, join_none_iff, ite_none, ne_eq] at hn); (try simp only [push_cast, seval, *]))
    | (intro hc)
    | (apply ER_blk; (case hp => rfl); (case hb => (simp only [push_cast, seval]; rfl)); (case hd => (simp only [push_cast, seval]; done)); (case h => (intro hc; simp only [push_cast, seval, *]; rfl)); simp only [push_cast, seval, *])
    | fail)
      exact ⟨x, ⟨unhid hinv, .inr ⟨by omega, by omega, (by first | exact unhid hx' | rfl)⟩⟩, by (first | trivial | (simp only [push_cast, seval, *]; done)), by (first | trivial | ((simp only [push_cast, seval, *]); repeat' (first | rfl | exact Heap.le_refl _ | refine And.intro ?_ ?_)) | rfl | exact ⟨rfl, rfl⟩ | exact ⟨rfl, rfl, rfl⟩ | exact Heap.le_refl _)⟩
    · have hk2 := hk1 hk0
      have hk0I : (0 : Int) < k := by omega
      have hk0F : ¬ k = 0 := by omega
      have hb1 : ((k - 1 : Nat) : Int) < l.length := by omega
      by_cases h3 : x ≤ s
      · have h2 : decide (s < x) = false := decide_eq_false (by omega)
        rw [h2] at hinv
        simp only [Bool.false_and] at hinv
        have hRv : R = false := by rw [unhid hR, hinv]; rfl
        subst hRv
        clear hR hinv hz hk1 hrs
        generalize k - 1 = k1 at *
        repeat' (first
    | refine AW_seq_kn fun K hK => ?_
    | refine AW_block ?_
    | ((first
      | refine AW_region_draw (id := 9) E0 (fun f => [].contains f) dLB20 dAB20 mixed (by kernel_rfl) ?_
      | refine AW_region E0 ?_ | refine AW_ret ?_ | refine AW_exit ?_ | refine AW_skip ?_ | unfold retQ); try simp only [push_cast, seval, *])
    | ((first | (apply AW_cond; (case hc => (simp only [push_cast, seval]; rfl))) | (apply ER_guard; (case hb => (simp only [push_cast, seval]; rfl)))); all_goals ((intro hc; first | (exfalso; simp only [push_cast, seval, *] at hc; done) | (exact absurd hc (by decide)) | ((try first | rw [Bool.not_true] at hc | rw [Bool.not_false] at hc); first | (with_reducible replace hc := tTT hc); clear hc | (with_reducible replace hc := tFF hc); clear hc | (have hp := hc; try simp only [decide_eq_true_eq, decide_eq_false_iff_not, bA, bB, bC, bD, bE, bF, bG, bH] at hp))) <;> try simp only [push_cast, seval, *]))
    | (refine Kn.go hK ?_; clear hK K)
    | refine Kn.go (by assumption) ?_
    | (intro n hn; (try simp only [upd_none2, join_none_iff, ite_none, ne_eq] at hn); (try simp only [push_cast, seval, *]))
    | (intro hc)
    | (apply ER_blk; (case hp => rfl); (case hb => (simp only [push_cast, seval]; rfl)); (case hd => (simp only [push_cast, seval]; done)); (case h => (intro hc; simp only [push_cast, seval, *]; rfl)); simp only [push_cast, seval, *])
    | fail)
        exact ⟨_, _, Weak.less (by (simp only [push_cast, seval, *])), rfl, rfl⟩
      · have h2 : decide (s < x) = true := decide_eq_true (by omega)
        rw [h2] at hinv
        simp only [Bool.true_and] at hinv
        replace hinv := Lib.hid hinv
        have hx' := Lib.hid hx
        clear hz hk1 h2 h8
        generalize k - 1 = k1 at *
        repeat' (first
    | refine AW_seq_kn fun K hK => ?_
    | refine AW_block ?_
    | ((first
      | refine AW_region_draw (id := 9) E0 (fun f => [].contains f) dLB20 dAB20 mixed (by kernel_rfl) ?_
      | refine AW_region E0 ?_ | refine AW_ret ?_ | refine AW_exit ?_ | refine AW_skip ?_ | unfold retQ); try simp only [push_cast, seval, *])
    | ((first | (apply AW_cond; (case hc => (simp only [push_cast, seval]; rfl))) | (apply ER_guard; (case hb => (simp only [push_cast, seval]; rfl)))); all_goals ((intro hc; first | (exfalso; simp only [push_cast, seval, *] at hc; done) | (exact absurd hc (by decide)) | ((try first | rw [Bool.not_true] at hc | rw [Bool.not_false] at hc); first | (with_reducible replace hc := tTT hc); clear hc | (with_reducible replace hc := tFF hc); clear hc | (have hp := hc; try simp only [decide_eq_true_eq, decide_eq_false_iff_not, bA, bB, bC, bD, bE, bF, bG, bH] at hp))) <;> try simp only [push_cast, seval, *]))
    | (refine Kn.go hK ?_; clear hK K)
    | refine Kn.go (by assumption) ?_
    | (intro n hn; (try simp only [upd_none2, join_none_iff, ite_none, ne_eq] at hn); (try simp only [push_cast, seval, *]))
    | (intro hc)
    | (apply ER_blk; (case hp => rfl); (case hb => (simp only [push_cast, seval]; rfl)); (case hd => (simp only [push_cast, seval]; done)); (case h => (intro hc; simp only [push_cast, seval, *]; rfl)); simp only [push_cast, seval, *])
    | fail)
        exact ⟨x, ⟨unhid hinv, .inr ⟨by omega, by omega, (by first | exact unhid hx' | rfl)⟩⟩, by (first | trivial | (simp only [push_cast, seval, *]; done)), by (first | trivial | ((simp only [push_cast, seval, *]); repeat' (first | rfl | exact Heap.le_refl _ | refine And.intro ?_ ?_)) | rfl | exact ⟨rfl, rfl⟩ | exact ⟨rfl, rfl, rfl⟩ | exact Heap.le_refl _)⟩
  · rintro s ⟨hinv, hs⟩
    rw [List.drop_length] at hinv
    simp only [risesS] at hinv
    have hR2 : R = tagS ⟨t, w, l, A, B⟩ := by rw [unhid hR, hinv]; rfl
    replace hR2 := Lib.hid hR2
    clear hR hinv hz hs hrs
    repeat' (first
    | (refine AW_atR (id := 9) ?_)
    | refine AW_seq_kn fun K hK => ?_
    | refine AW_block ?_
    | ((first
      | refine AW_region_draw (id := 9) E0 (fun f => [].contains f) dLB20 dAB20 mixed (by kernel_rfl) ?_
      | refine AW_region E0 ?_ | refine AW_ret ?_ | refine AW_exit ?_ | refine AW_skip ?_ | unfold retQ); try simp only [push_cast, seval, *])
    | ((first | (apply AW_cond; (case hc => (simp only [push_cast, seval]; rfl))) | (apply ER_guard; (case hb => (simp only [push_cast, seval]; rfl)))); all_goals ((intro hc; first | (exfalso; simp only [push_cast, seval, *] at hc; done) | (exact absurd hc (by decide)) | ((try first | rw [Bool.not_true] at hc | rw [Bool.not_false] at hc); first | (with_reducible replace hc := tTT hc); clear hc | (with_reducible replace hc := tFF hc); clear hc | (have hp := hc; try simp only [decide_eq_true_eq, decide_eq_false_iff_not, bA, bB, bC, bD, bE, bF, bG, bH] at hp))) <;> try simp only [push_cast, seval, *]))
    | (refine Kn.go hK ?_; clear hK K)
    | refine Kn.go (by assumption) ?_
    | (intro n hn; (try simp only [upd_none2, join_none_iff, ite_none, ne_eq] at hn); (try simp only [push_cast, seval, *]))
    | (intro hc)
    | (apply ER_blk; (case hp => rfl); (case hb => (simp only [push_cast, seval]; rfl)); (case hd => (simp only [push_cast, seval]; done)); (case h => (intro hc; simp only [push_cast, seval, *]; rfl)); simp only [push_cast, seval, *])
    | fail)
    refine ⟨?_⟩
    refine AW_seqC [(2, .p m 5 0 0), (7, ci l.length), (8, .c (.bool (decide (A = 0) && decide (B = 0))))] (upd H m (.r 24 5 1 [[.c (.int .i64 t), .c (.int .i64 w), .l 1 (l.map i1), .c (.int .i64 A), .c (.int .i64 B)]])) ?_ ?_
    · by_cases a0 : A = 0 <;> by_cases b0 : B = 0
      all_goals
        repeat' (first
    | refine AW_seq_kn fun K hK => ?_
    | refine AW_block ?_
    | ((first
      | refine AW_region_draw (id := 9) E0 (fun f => [].contains f) dLB20 dAB20 mixed (by kernel_rfl) ?_
      | refine AW_region E0 ?_ | refine AW_ret ?_ | refine AW_exit ?_ | refine AW_skip ?_ | unfold retQ); try simp only [push_cast, seval, *])
    | ((first | (apply AW_cond; (case hc => (simp only [push_cast, seval]; rfl))) | (apply ER_guard; (case hb => (simp only [push_cast, seval]; rfl)))); all_goals ((intro hc; first | (exfalso; simp only [push_cast, seval, *] at hc; done) | (exact absurd hc (by decide)) | ((try first | rw [Bool.not_true] at hc | rw [Bool.not_false] at hc); first | (with_reducible replace hc := tTT hc); clear hc | (with_reducible replace hc := tFF hc); clear hc | (have hp := hc; try simp only [decide_eq_true_eq, decide_eq_false_iff_not, bA, bB, bC, bD, bE, bF, bG, bH] at hp))) <;> try simp only [push_cast, seval, *]))
    | (refine Kn.go hK ?_; clear hK K)
    | refine Kn.go (by assumption) ?_
    | (intro n hn; (try simp only [upd_none2, join_none_iff, ite_none, ne_eq] at hn); (try simp only [push_cast, seval, *]))
    | (intro hc)
    | (apply ER_blk; (case hp => rfl); (case hb => (simp only [push_cast, seval]; rfl)); (case hd => (simp only [push_cast, seval]; done)); (case h => (intro hc; simp only [push_cast, seval, *]; rfl)); simp only [push_cast, seval, *])
    | fail)
        exact ⟨trivial, by (first | trivial | (simp only [push_cast, seval, *]; done)), by (first | trivial | ((simp only [push_cast, seval, *]); repeat' (first | rfl | exact Heap.le_refl _ | refine And.intro ?_ ?_)) | rfl | exact ⟨rfl, rfl⟩ | exact ⟨rfl, rfl, rfl⟩ | exact Heap.le_refl _)⟩
    have h8 := tags t
    rcases h8 with rfl | rfl | rfl | rfl | rfl | rfl | rfl | ⟨n1, n2, n3, n4, n5, n6, n7⟩
    all_goals
      repeat' (first
    | refine AW_seq_kn fun K hK => ?_
    | refine AW_block ?_
    | ((first
      | refine AW_region_draw (id := 9) E0 (fun f => [].contains f) dLB20 dAB20 mixed (by kernel_rfl) ?_
      | refine AW_region E0 ?_ | refine AW_ret ?_ | refine AW_exit ?_ | refine AW_skip ?_ | unfold retQ); try simp only [push_cast, seval, *])
    | ((first | (apply AW_cond; (case hc => (simp only [push_cast, seval]; rfl))) | (apply ER_guard; (case hb => (simp only [push_cast, seval]; rfl)))); all_goals ((intro hc; first | (exfalso; simp only [push_cast, seval, *] at hc; done) | (exact absurd hc (by decide)) | ((try first | rw [Bool.not_true] at hc | rw [Bool.not_false] at hc); first | (with_reducible replace hc := tTT hc); clear hc | (with_reducible replace hc := tFF hc); clear hc | (have hp := hc; try simp only [decide_eq_true_eq, decide_eq_false_iff_not, bA, bB, bC, bD, bE, bF, bG, bH] at hp))) <;> try simp only [push_cast, seval, *]))
    | (refine Kn.go hK ?_; clear hK K)
    | refine Kn.go (by assumption) ?_
    | (intro n hn; (try simp only [upd_none2, join_none_iff, ite_none, ne_eq] at hn); (try simp only [push_cast, seval, *]))
    | (intro hc)
    | (apply ER_blk; (case hp => rfl); (case hb => (simp only [push_cast, seval]; rfl)); (case hd => (simp only [push_cast, seval]; done)); (case h => (intro hc; simp only [push_cast, seval, *]; rfl)); simp only [push_cast, seval, *])
    | fail)
      all_goals (refine ⟨_, _, Weak.less (by (simp only [push_cast, seval, *])), ?_, rfl⟩; rw [unhid hR2]; first | (simp [tagS]; done) | (simp_all [tagS]; done) | (simp [tagS]; omega; done) | (congr 2; rw [Bool.eq_iff_iff]; simp [tagS]; omega; done) | (simp_all [tagS] <;> omega))

end Go.Proofs.Ytmkncbddjnaklaa
